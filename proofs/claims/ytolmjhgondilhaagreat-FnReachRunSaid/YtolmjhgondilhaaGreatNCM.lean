/- Words of the proof. -/
import Derived.Test.YtolmjhgondilhaaGreatNCR0
set_option linter.unusedSimpArgs false
set_option linter.unusedVariables false
set_option maxRecDepth 20000
set_option maxHeartbeats 4000000
namespace Go.Abs
open Go

noncomputable section
def sX (p0:List Int):Option (gL6Rd):=
 if igt (ilen p0) 2000=true then
  (cutx p0 0 2000).bind fun l1=>
  some (⟨l1,0⟩:gL6Rd)
 else
  some (⟨p0,0⟩:gL6Rd)

def zI (p0:gL6Rd)(p1:Int):Option (Int×gL6Rd):=
 (if ilt p1 1=true then some true else some (ieq (ilen p0.b) 0)).bind fun g1=>
 if g1=true then
  some (0,(⟨p0.b,iadd .i64 p0.p 1⟩:gL6Rd))
 else
  if ilt (isub .i64 (iadd .i64 p0.p 1) 1) (ilen p0.b)=true then
   (idx p0.b (isub .i64 (iadd .i64 p0.p 1) 1)).bind fun v2=>
   (remx (iconv .i64 v2) p1).bind fun v3=>
   some (v3,(⟨p0.b,iadd .i64 p0.p 1⟩:gL6Rd))
  else
   (remx (isub .i64 (iadd .i64 p0.p 1) 1) (ilen p0.b)).bind fun v4=>
   (idx p0.b v4).bind fun v5=>
   (remx (iadd .i64 (imul .i64 (isub .i64 (iadd .i64 p0.p 1) 1) 7) 3) (ilen p0.b)).bind fun v6=>
   (idx p0.b v6).bind fun v7=>
   (quox .i64 (isub .i64 (iadd .i64 p0.p 1) 1) (ilen p0.b)).bind fun v8=>
   (quox .i64 (iadd .i64 (iadd .i64 (iadd .i64 (imul .i64 (iconv .i64 v5) 131) (imul .i64 (iconv .i64 v7) 1117)) (imul .i64 (isub .i64 (iadd .i64 p0.p 1) 1) 29)) (imul .i64 v8 53)) 64).bind fun v9=>
   (remx (ixor .i64 (iadd .i64 (iadd .i64 (iadd .i64 (imul .i64 (iconv .i64 v5) 131) (imul .i64 (iconv .i64 v7) 1117)) (imul .i64 (isub .i64 (iadd .i64 p0.p 1) 1) 29)) (imul .i64 v8 53)) v9) p1).bind fun v10=>
   some (v10,(⟨p0.b,iadd .i64 p0.p 1⟩:gL6Rd))

def yX (p0:gL6Rd):Option (Int×gL6Rd):=
 (zI p0 6).bind fun r1=>
 some (r1.1,r1.2)

def sG (p0:Int):Option (Int):=
 (remx p0 4294967296).bind fun v1=>
 if igt v1 2147483647=true then
  some (isub .i64 v1 4294967296)
 else
  if ilt v1 (-2147483648)=true then
   some (iadd .i64 v1 4294967296)
  else
   some v1

def nP (p0:gL6Rd):Option (Int×gL6Rd):=
 (zI p0 6).bind fun r1=>
 if ieq r1.1 0=true then
  (zI r1.2 8).bind fun r2=>
  (idx ([-2147483648,2147483647,-1,0,1,-2147483647,65536,-65536]:List Int) r2.1).bind fun v3=>
  some (v3,r2.2)
 else
  if ieq r1.1 1=true then
   (zI r1.2 256).bind fun r4=>
   (zI r4.2 256).bind fun r5=>
   (zI r5.2 256).bind fun r6=>
   (zI r6.2 200).bind fun r7=>
   (sG (imul .i64 (iadd .i64 (iadd .i64 (imul .i64 r4.1 65536) (imul .i64 r5.1 256)) r6.1) (iadd .i64 1 r7.1))).bind fun r8=>
   some (r8,r7.2)
  else
   if ieq r1.1 2=true then
    (zI r1.2 200).bind fun r9=>
    some (isub .i64 0 r9.1,r9.2)
   else
    (zI r1.2 20).bind fun r10=>
    some (r10.1,r10.2)

def fB (p0:gL6Rd):Option (Int×gL6Rd):=
 (zI p0 12).bind fun r1=>
 some (iadd .i64 1 r1.1,r1.2)

def nK (p0:gL6Rd)(p1:Int):Option (gQuad×gL6Rd):=
 (zI p0 12).bind fun r1=>
 (if ieq r1.1 0=true then
  some (ieq r1.1 0)
 else
  some (ieq r1.1 1)).bind fun j1=>
 if j1=true then
  (yX r1.2).bind fun r3=>
  (nP r3.2).bind fun r4=>
  (zI r4.2 4).bind fun r5=>
  (idx ([0,1,2,r4.1]:List Int) r5.1).bind fun v6=>
  some ((⟨1,r3.1,0,0,v6⟩:gQuad),r5.2)
 else
  (if ieq r1.1 2=true then
   some (ieq r1.1 2)
  else
   some (ieq r1.1 3)).bind fun j2=>
  if j2=true then
   (yX r1.2).bind fun r8=>
   (yX r8.2).bind fun r9=>
   some ((⟨2,r8.1,r9.1,0,0⟩:gQuad),r9.2)
  else
   (if ieq r1.1 4=true then
    some (ieq r1.1 4)
   else
    if ieq r1.1 5=true then
     some (ieq r1.1 5)
    else
     some (ieq r1.1 6)).bind fun j3=>
   if j3=true then
    (yX r1.2).bind fun r11=>
    (yX r11.2).bind fun r12=>
    (yX r12.2).bind fun r13=>
    (fB r13.2).bind fun r14=>
    some ((⟨3,r11.1,r12.1,r13.1,r14.1⟩:gQuad),r14.2)
   else
    if ieq r1.1 7=true then
     (zI r1.2 p1).bind fun r15=>
     some ((⟨4,0,0,0,r15.1⟩:gQuad),r15.2)
    else
     if ieq r1.1 8=true then
      (yX r1.2).bind fun r16=>
      (zI r16.2 p1).bind fun r17=>
      some ((⟨5,0,r16.1,0,r17.1⟩:gQuad),r17.2)
     else
      if ieq r1.1 9=true then
       (yX r1.2).bind fun r18=>
       (zI r18.2 2).bind fun r19=>
       some ((⟨6,0,r18.1,0,r19.1⟩:gQuad),r19.2)
      else
       if ieq r1.1 10=true then
        (yX r1.2).bind fun r20=>
        (zI r20.2 2).bind fun r21=>
        some ((⟨7,r20.1,0,0,r21.1⟩:gQuad),r21.2)
       else
        (zI r1.2 4).bind fun r22=>
        if ieq r22.1 0=true then
         some ((⟨8,0,0,0,0⟩:gQuad),r22.2)
        else
         (yX r22.2).bind fun r23=>
         some ((⟨9,0,r23.1,0,0⟩:gQuad),r23.2)

def sL (r1:Int×gL6Rd)(s:Int×gL6Rd×(List gQuad)):Option (Flow (Int×gL6Rd×(List gQuad)) (gL6Rd×(List gQuad))):=
 match s with
 |(s2,s3,s4)=>
 if ilt (iadd .i64 s2 1) (iadd .i64 1 r1.1)=true then
  (nK s3 (iadd .i64 1 r1.1)).bind fun r7=>
  (appx 40 s4 ([r7.1]:List gQuad)).bind fun l8=>
  some (.next (iadd .i64 s2 1,r7.2,l8))
 else
  some (.done (s3,s4))

def wN (p0:gL6Rd):Option ((List gQuad)×gL6Rd):=
 (zI p0 14).bind fun r1=>
 (loopM (sL r1) (0,r1.2,([]:List gQuad))).bind fun e1=>
 match e1 with
 |(y5,y6)=>
  (zI y5 3).bind fun r9=>
  if ieq r9.1 0=true then
   (zI r9.2 (iadd .i64 1 r1.1)).bind fun r10=>
   (appx 40 y6 ([(⟨4,0,0,0,r10.1⟩:gQuad)]:List gQuad)).bind fun l11=>
   some (l11,r10.2)
  else
   (appx 40 y6 ([(⟨10,0,0,0,0⟩:gQuad)]:List gQuad)).bind fun l12=>
   some (l12,r9.2)

def xH (p0:Int)(p1:Int):Option (gExpr):=
 some (⟨p0,p1,([]:List gExpr)⟩:gExpr)

def nR (p0:gL6Rd):Option (gExpr×gL6Rd):=
 (zI p0 4).bind fun r1=>
 if ieq r1.1 0=true then
  (zI r1.2 4).bind fun r2=>
  (xH 0 r2.1).bind fun r3=>
  some (r3,r2.2)
 else
  if ieq r1.1 1=true then
   (zI r1.2 8).bind fun r4=>
   (idx ([5,31,32,100,2047,2048,65536,99999]:List Int) r4.1).bind fun v5=>
   (xH 0 v5).bind fun r6=>
   some (r6,r4.2)
  else
   (zI r1.2 4).bind fun r7=>
   (xH 13 r7.1).bind fun r8=>
   some (r8,r7.2)

def pJ (p0:Int)(p1:gExpr)(p2:gExpr):Option (gExpr):=
 some (⟨p0,0,([p1,p2]:List gExpr)⟩:gExpr)

def tI (Fr1:gL6Rd→Int→Option (gExpr×gL6Rd))(p0:gL6Rd)(p1:Int):Option (gExpr×gL6Rd):=
 (if ilt p1 2=true then some (true,p0) else(zI p0 3).bind fun r1=>some (ieq r1.1 0,r1.2)).bind fun g2=>
 if g2.1=true then
  (nR g2.2).bind fun r3=>
  some (r3.1,r3.2)
 else
  (fB g2.2).bind fun r4=>
  (Fr1 r4.2 (isub .i64 p1 1)).bind fun r5=>
  (Fr1 r5.2 (isub .i64 p1 1)).bind fun r6=>
  (pJ r4.1 r5.1 r6.1).bind fun r7=>
  some (r7,r6.2)

def tH:Nat→gL6Rd→Int→Option (gExpr×gL6Rd)
 |0=>fun _ _=>none
 |n+1=>tI (tH n)

def vQ (p0:gL6Rd)(p1:Int):Option (gExpr×gL6Rd):=recF fun n=>(tH n) p0 p1

def mA (p0:gL6Rd):Option (gStmt×gL6Rd):=
 (zI p0 3).bind fun r1=>
 (zI r1.2 3).bind fun r2=>
 (vQ r2.2 (iadd .i64 1 r2.1)).bind fun r3=>
 some ((⟨1,r1.1,0,r3.1,([]:List gStmt),([]:List gStmt)⟩:gStmt),r3.2)

def nM (p0:gL6Rd)(p1:Int):Option (gStmt×gL6Rd):=
 if ilt p1 1=true then
  (mA p0).bind fun r1=>
  some (r1.1,r1.2)
 else
  (zI p0 p1).bind fun r2=>
  (zI r2.2 2).bind fun r3=>
  if ieq r3.1 0=true then
   (zI r3.2 3).bind fun r4=>
   (vQ r4.2 (iadd .i64 1 r4.1)).bind fun r5=>
   some ((⟨4,0,r2.1,r5.1,([]:List gStmt),([]:List gStmt)⟩:gStmt),r5.2)
  else
   (zI r3.2 3).bind fun r6=>
   some ((⟨5,r6.1,r2.1,(⟨0,0,([]:List gExpr)⟩:gExpr),([]:List gStmt),([]:List gStmt)⟩:gStmt),r6.2)

def uP (p1:Int)(p2:Int)(p3:Int)(p4:Bool)(Fr4:gL6Rd→Int→Int→Bool→Option ((List gStmt)×gL6Rd))(s:Int×gL6Rd×(List gStmt)):Option (Flow (Int×gL6Rd×(List gStmt)) (gL6Rd×(List gStmt))):=
 match s with
 |(s1,s2,s3)=>
 if ilt s1 p3=true then
  (Fr4 s2 p1 p2 p4).bind fun r6=>
  (appx 112 s3 r6.1).bind fun l7=>
  some (.next (iadd .i64 s1 1,r6.2,l7))
 else
  some (.done (s2,s3))

def vP (Fr2:gL6Rd→Int→Int→Int→Bool→Option ((List gStmt)×gL6Rd))(Fr3:gL6Rd→Int→Int→Bool→Option (gStmt×gL6Rd))(Fr5:gL6Rd→Int→Int→Int→Bool→Option ((List gStmt)×gL6Rd))(Fr6:gL6Rd→Int→Int→Option ((List gStmt)×gL6Rd))(Fr4:gL6Rd→Int→Int→Bool→Option ((List gStmt)×gL6Rd))(p0:gL6Rd)(p1:Int)(p2:Int)(p3:Int)(p4:Bool):Option ((List gStmt)×gL6Rd):=
 (loopM (uP p1 p2 p3 p4 Fr4) (0,p0,([]:List gStmt))).bind fun e1=>
 match e1 with
 |(y4,y5)=>
  some (y5,y4)

def nN (Fr2:gL6Rd→Int→Int→Int→Bool→Option ((List gStmt)×gL6Rd))(Fr3:gL6Rd→Int→Int→Bool→Option (gStmt×gL6Rd))(Fr5:gL6Rd→Int→Int→Int→Bool→Option ((List gStmt)×gL6Rd))(Fr6:gL6Rd→Int→Int→Option ((List gStmt)×gL6Rd))(Fr4:gL6Rd→Int→Int→Bool→Option ((List gStmt)×gL6Rd))(p0:gL6Rd)(p1:Int)(p2:Int)(p3:Bool):Option (gStmt×gL6Rd):=
 (zI p0 2).bind fun r1=>
 (vQ r1.2 (iadd .i64 1 r1.1)).bind fun r2=>
 (zI r2.2 3).bind fun r3=>
 (Fr2 r3.2 p1 (isub .i64 p2 1) r3.1 p3).bind fun r4=>
 (zI r4.2 3).bind fun r5=>
 (Fr2 r5.2 p1 (isub .i64 p2 1) r5.1 p3).bind fun r6=>
 some ((⟨2,0,0,r2.1,r4.1,r6.1⟩:gStmt),r6.2)

def nO (p1:Int)(p2:Int)(p3:Int)(p4:Bool)(Fr4:gL6Rd→Int→Int→Bool→Option ((List gStmt)×gL6Rd))(s:Int×gL6Rd×(List gStmt)):Option (Flow (Int×gL6Rd×(List gStmt)) (gL6Rd×(List gStmt))):=
 match s with
 |(s1,s2,s3)=>
 if ilt s1 p3=true then
  (Fr4 s2 p1 p2 p4).bind fun r6=>
  (appx 112 s3 r6.1).bind fun l7=>
  some (.next (iadd .i64 s1 1,r6.2,l7))
 else
  some (.done (s2,s3))

def jM (Fr2:gL6Rd→Int→Int→Int→Bool→Option ((List gStmt)×gL6Rd))(Fr3:gL6Rd→Int→Int→Bool→Option (gStmt×gL6Rd))(Fr5:gL6Rd→Int→Int→Int→Bool→Option ((List gStmt)×gL6Rd))(Fr6:gL6Rd→Int→Int→Option ((List gStmt)×gL6Rd))(Fr4:gL6Rd→Int→Int→Bool→Option ((List gStmt)×gL6Rd))(p0:gL6Rd)(p1:Int)(p2:Int)(p3:Int)(p4:Bool):Option ((List gStmt)×gL6Rd):=
 (loopM (nO p1 p2 p3 p4 Fr4) (0,p0,([]:List gStmt))).bind fun e1=>
 match e1 with
 |(y4,y5)=>
  some (y5,y4)

def tG (Fr2:gL6Rd→Int→Int→Int→Bool→Option ((List gStmt)×gL6Rd))(Fr3:gL6Rd→Int→Int→Bool→Option (gStmt×gL6Rd))(Fr5:gL6Rd→Int→Int→Int→Bool→Option ((List gStmt)×gL6Rd))(Fr6:gL6Rd→Int→Int→Option ((List gStmt)×gL6Rd))(Fr4:gL6Rd→Int→Int→Bool→Option ((List gStmt)×gL6Rd))(p0:gL6Rd)(p1:Int)(p2:Int):Option ((List gStmt)×gL6Rd):=
 (zI p0 3).bind fun r1=>
 (Fr5 r1.2 p1 (isub .i64 p2 1) r1.1 false).bind fun r2=>
 (xH 13 3).bind fun r3=>
 (xH 0 1).bind fun r4=>
 (pJ 8 r3 r4).bind fun r5=>
 (zI r2.2 3).bind fun r6=>
 (xH 0 (iadd .i64 1 r6.1)).bind fun r7=>
 (pJ 5 r3 r7).bind fun r8=>
 (appx 112 r2.1 ([(⟨1,3,0,r5,([]:List gStmt),([]:List gStmt)⟩:gStmt)]:List gStmt)).bind fun l9=>
 (xH 0 0).bind fun r12=>
 some (([(⟨1,3,0,r12,([]:List gStmt),([]:List gStmt)⟩:gStmt),(⟨3,0,0,r8,l9,([]:List gStmt)⟩:gStmt)]:List gStmt),r6.2)

def tF (Fr2:gL6Rd→Int→Int→Int→Bool→Option ((List gStmt)×gL6Rd))(Fr3:gL6Rd→Int→Int→Bool→Option (gStmt×gL6Rd))(Fr5:gL6Rd→Int→Int→Int→Bool→Option ((List gStmt)×gL6Rd))(Fr6:gL6Rd→Int→Int→Option ((List gStmt)×gL6Rd))(Fr4:gL6Rd→Int→Int→Bool→Option ((List gStmt)×gL6Rd))(p0:gL6Rd)(p1:Int)(p2:Int)(p3:Bool):Option ((List gStmt)×gL6Rd):=
 ((zI p0 10).bind fun r4=>
 (if ieq r4.1 0=true then
  some (ieq r4.1 0)
 else
  some (ieq r4.1 1)).bind fun j2=>
 if j2=true then
  (mA r4.2).bind fun r6=>
  (some (([r6.1]:List gStmt),r6.2)).bind fun z=>some (Flow.done z)
 else
  if ieq r4.1 2=true then
   if igt p2 0=true then
    (Fr3 r4.2 p1 p2 p3).bind fun r7=>
    (some (([r7.1]:List gStmt),r7.2)).bind fun z=>some (Flow.done z)
   else
    some (Flow.next r4.2)
  else
   if ieq r4.1 3=true then
    (if igt p2 0=true then some p3 else some false).bind fun g8=>
    if g8=true then
     (Fr6 r4.2 p1 p2).bind fun r9=>
     (some (r9.1,r9.2)).bind fun z=>some (Flow.done z)
    else
     some (Flow.next r4.2)
   else
    (if ieq r4.1 4=true then
     some (ieq r4.1 4)
    else
     if ieq r4.1 5=true then
      some (ieq r4.1 5)
     else
      some (ieq r4.1 6)).bind fun j3=>
    if j3=true then
     (nM r4.2 p1).bind fun r11=>
     (some (([r11.1]:List gStmt),r11.2)).bind fun z=>some (Flow.done z)
    else
     if ieq r4.1 7=true then
      (some (([(⟨6,0,0,(⟨0,0,([]:List gExpr)⟩:gExpr),([]:List gStmt),([]:List gStmt)⟩:gStmt)]:List gStmt),r4.2)).bind fun z=>some (Flow.done z)
     else
      some (Flow.next r4.2)).bind fun flj1=>
 match flj1 with
 |.next j1=>
  (zI j1 3).bind fun r2=>
  (vQ r2.2 (iadd .i64 1 r2.1)).bind fun r3=>
  some (([(⟨7,0,0,r3.1,([]:List gStmt),([]:List gStmt)⟩:gStmt)]:List gStmt),r3.2)
 |.done z=>some z

def zB:Nat→(gL6Rd→Int→Int→Int→Bool→Option ((List gStmt)×gL6Rd))×(gL6Rd→Int→Int→Bool→Option (gStmt×gL6Rd))×(gL6Rd→Int→Int→Int→Bool→Option ((List gStmt)×gL6Rd))×(gL6Rd→Int→Int→Option ((List gStmt)×gL6Rd))×(gL6Rd→Int→Int→Bool→Option ((List gStmt)×gL6Rd))
 |0=>(fun _ _ _ _ _=>none,fun _ _ _ _=>none,fun _ _ _ _ _=>none,fun _ _ _=>none,fun _ _ _ _=>none)
 |n+1=>(vP ((zB n).1) ((zB n).2.1) ((zB n).2.2.1) ((zB n).2.2.2.1) ((zB n).2.2.2.2),nN ((zB n).1) ((zB n).2.1) ((zB n).2.2.1) ((zB n).2.2.2.1) ((zB n).2.2.2.2),jM ((zB n).1) ((zB n).2.1) ((zB n).2.2.1) ((zB n).2.2.2.1) ((zB n).2.2.2.2),tG ((zB n).1) ((zB n).2.1) ((zB n).2.2.1) ((zB n).2.2.2.1) ((zB n).2.2.2.2),tF ((zB n).1) ((zB n).2.1) ((zB n).2.2.1) ((zB n).2.2.2.1) ((zB n).2.2.2.2))

def fA (p0:gL6Rd)(p1:Int)(p2:Int)(p3:Int)(p4:Bool):Option ((List gStmt)×gL6Rd):=recF fun n=>(zB n).1 p0 p1 p2 p3 p4

def uQ (p0:List gStmt)(Fr7:(List gStmt)→Option (Int))(s:Int×Int):Option (Flow (Int×Int) (Int)):=
 match s with
 |(s1,s2)=>
 if ilt s2 (ilen p0)=true then
  (idx p0 s2).bind fun v4=>
  (Fr7 v4.Body).bind fun r5=>
  (Fr7 v4.Else).bind fun r6=>
  some (.next (iadd .i64 (iadd .i64 (iadd .i64 s1 1) r5) r6,iadd .i64 s2 1))
 else
  some (.done s1)

def jB (Fr7:(List gStmt)→Option (Int))(p0:List gStmt):Option (Int):=
 (loopM (uQ p0 Fr7) (0,0)).bind fun e1=>
 match e1 with
 |y3=>
  some y3

def kX:Nat→(List gStmt)→Option (Int)
 |0=>fun _=>none
 |n+1=>jB (kX n)

def jI (p0:List gStmt):Option (Int):=recF fun n=>(kX n) p0

def pH (s:(List gStmt)×gL6Rd):Option (Flow ((List gStmt)×gL6Rd) ((List gStmt)×gL6Rd)):=
 match s with
 |(s3,s4)=>
 (jI s3).bind fun r7=>
 if igt r7 16=true then
  (cutx s3 0 (isub .i64 (ilen s3) 1)).bind fun l8=>
  some (.next (l8,s4))
 else
  some (.done (s3,s4))

def sW (p0:gL6Rd)(p1:Int):Option ((List gStmt)×gL6Rd):=
 (zI p0 6).bind fun r1=>
 (fA r1.2 p1 3 (iadd .i64 1 r1.1) true).bind fun r2=>
 (loopM (pH) (r2.1,r2.2)).bind fun e1=>
 match e1 with
 |(y5,y6)=>
  some (y5,y6)

def yC (p0:Int)(p1:Int)(p2:Int):Option (Bool):=
 (if ige p0 p1=true then some (ile p0 p2) else some false).bind fun g1=>
 some g1

def yO (p0:gStmt)(p1:Bool):Option (Bool):=
 if p1=true then
  (yC p0.Var 0 3).bind fun r1=>
  some r1
 else
  some (ieq p0.Var 0)

def yP (p0:gStmt)(p1:Bool):Option (Bool):=
 if p1=true then
  (yC p0.Box 0 2).bind fun r1=>
  some r1
 else
  some (ieq p0.Box 0)

def xV (p0:Int):Option (Bool):=
 (yC p0 1 12).bind fun r1=>
 some r1

def hY (Fr8:gExpr→Int→Option (Bool))(p0:gExpr)(p1:Int):Option (Bool):=
 if ilt p1 1=true then
  some false
 else
  if ieq p0.Op 0=true then
   (yC p0.N 0 99999).bind fun r1=>
   (if r1=true then some (ieq (ilen p0.Args) 0) else some false).bind fun g2=>
   some g2
  else
   if ieq p0.Op 13=true then
    (yC p0.N 0 3).bind fun r3=>
    (if r3=true then some (ieq (ilen p0.Args) 0) else some false).bind fun g4=>
    some g4
   else
    (xV p0.Op).bind fun r5=>
    (if r5=true then some (ieq p0.N 0) else some false).bind fun g6=>
    (if g6=true then some (ieq (ilen p0.Args) 2) else some false).bind fun g7=>
    (if g7=true then(idx p0.Args 0).bind fun v8=>(Fr8 v8 (isub .i64 p1 1)).bind fun r9=>some r9 else some false).bind fun g10=>
    (if g10=true then(idx p0.Args 1).bind fun v11=>(Fr8 v11 (isub .i64 p1 1)).bind fun r12=>some r12 else some false).bind fun g13=>
    some g13

def mB:Nat→gExpr→Int→Option (Bool)
 |0=>fun _ _=>none
 |n+1=>hY (mB n)

def s_l4Ok (p0:gExpr)(p1:Int):Option (Bool):=recF fun n=>(mB n) p0 p1

def jC (p0:gExpr):Option (Bool):=
 (s_l4Ok p0 5).bind fun r1=>
 some r1

def jH (p0:gExpr):Option (Bool):=
 (if ieq p0.Op 0=true then some (ieq p0.N 0) else some false).bind fun g1=>
 (if g1=true then some (ieq (ilen p0.Args) 0) else some false).bind fun g2=>
 some g2

def jA (p0:gStmt):Option (Bool):=
 (if igt (ilen p0.Body) 0=true then some true else some (igt (ilen p0.Else) 0)).bind fun g1=>
 if g1=true then
  some false
 else
  if ieq p0.Kind 1=true then
   (yO p0 true).bind fun r2=>
   (if r2=true then(yP p0 false).bind fun r3=>some r3 else some false).bind fun g4=>
   (if g4=true then(jC p0.Expr).bind fun r5=>some r5 else some false).bind fun g6=>
   some g6
  else
   if ieq p0.Kind 4=true then
    (yO p0 false).bind fun r7=>
    (if r7=true then(yP p0 true).bind fun r8=>some r8 else some false).bind fun g9=>
    (if g9=true then(jC p0.Expr).bind fun r10=>some r10 else some false).bind fun g11=>
    some g11
   else
    if ieq p0.Kind 5=true then
     (yO p0 true).bind fun r12=>
     (if r12=true then(yP p0 true).bind fun r13=>some r13 else some false).bind fun g14=>
     (if g14=true then(jH p0.Expr).bind fun r15=>some r15 else some false).bind fun g16=>
     some g16
    else
     if ieq p0.Kind 6=true then
      (yO p0 false).bind fun r17=>
      (if r17=true then(yP p0 false).bind fun r18=>some r18 else some false).bind fun g19=>
      (if g19=true then(jH p0.Expr).bind fun r20=>some r20 else some false).bind fun g21=>
      some g21
     else
      if ieq p0.Kind 7=true then
       (yO p0 false).bind fun r22=>
       (if r22=true then(yP p0 false).bind fun r23=>some r23 else some false).bind fun g24=>
       (if g24=true then(jC p0.Expr).bind fun r25=>some r25 else some false).bind fun g26=>
       some g26
      else
       some false

def sQ (p0:List gStmt)(p1:Int)(Fr10:gStmt→Int→Option (Bool))(s:Int):Option (Flow (Int) (Sum (Unit) (Bool))):=
 let s1:=s
 if ilt s1 (ilen p0)=true then
  (idx p0 s1).bind fun v2=>
  (Fr10 v2 p1).bind fun r3=>
  if bnot r3=true then
   some (.done (.inr false))
  else
   some (.next (iadd .i64 s1 1))
 else
  some (.done (.inl ()))

def xT (Fr9:(List gStmt)→Int→Option (Bool))(Fr10:gStmt→Int→Option (Bool))(p0:List gStmt)(p1:Int):Option (Bool):=
 (loopM (sQ p0 p1 Fr10) 0).bind fun e1=>
 match e1 with
 |.inl _=>
  some true
 |.inr r0=>
  some r0

def oG (Fr9:(List gStmt)→Int→Option (Bool))(Fr10:gStmt→Int→Option (Bool))(p0:gStmt)(p1:Int):Option (Bool):=
 (if ine p0.Kind 2=true then some (ine p0.Kind 3) else some false).bind fun g1=>
 if g1=true then
  (jA p0).bind fun r2=>
  some r2
 else
  (if ilt p1 1=true then some true else(if ieq p0.Kind 3=true then some (igt (ilen p0.Else) 0) else some false).bind fun g3=>some g3).bind fun g4=>
  if g4=true then
   some false
  else
   (yO p0 false).bind fun r5=>
   (if r5=true then(yP p0 false).bind fun r6=>some r6 else some false).bind fun g7=>
   (if g7=true then(jC p0.Expr).bind fun r8=>some r8 else some false).bind fun g9=>
   (if g9=true then(Fr9 p0.Body (isub .i64 p1 1)).bind fun r10=>some r10 else some false).bind fun g11=>
   (if g11=true then(Fr9 p0.Else (isub .i64 p1 1)).bind fun r12=>some r12 else some false).bind fun g13=>
   some g13

def kF:Nat→((List gStmt)→Int→Option (Bool))×(gStmt→Int→Option (Bool))
 |0=>(fun _ _=>none,fun _ _=>none)
 |n+1=>(xT ((kF n).1) ((kF n).2),oG ((kF n).1) ((kF n).2))

def pU (p0:List gStmt)(p1:Int):Option (Bool):=recF fun n=>(kF n).1 p0 p1

def vZ (p0:List gStmt):Option (Bool):=
 (pU p0 3).bind fun r1=>
 (if r1=true then(jI p0).bind fun r2=>some (ile r2 16) else some false).bind fun g3=>
 some g3

def tO (Fr11:gExpr→Int→Option ((List gQuad)))(Fr12:gExpr→Int→Option ((List gQuad)))(p0:gExpr)(p1:Int):Option ((List gQuad)):=
 if ieq p0.Op 0=true then
  some ([(⟨1,p1,0,0,p0.N⟩:gQuad)]:List gQuad)
 else
  if ieq p0.Op 13=true then
   some ([(⟨2,p1,p0.N,0,0⟩:gQuad)]:List gQuad)
  else
   (idx p0.Args 0).bind fun v1=>
   (idx p0.Args 1).bind fun v2=>
   (Fr12 v1 p1).bind fun r3=>
   (Fr11 v2 (iadd .i64 p1 1)).bind fun r4=>
   (appx 40 r3 r4).bind fun l5=>
   (appx 40 l5 ([(⟨3,p1,p1,iadd .i64 p1 1,p0.Op⟩:gQuad)]:List gQuad)).bind fun l6=>
   some l6

def xP (Fr11:gExpr→Int→Option ((List gQuad)))(Fr12:gExpr→Int→Option ((List gQuad)))(p0:gExpr)(p1:Int):Option ((List gQuad)):=
 if ieq p0.Op 0=true then
  (some ([(⟨1,p1,0,0,p0.N⟩:gQuad)]:List gQuad)).bind fun l1=>
  some l1
 else
  if ieq p0.Op 13=true then
   (some ([(⟨2,p1,p0.N,0,0⟩:gQuad)]:List gQuad)).bind fun l2=>
   some l2
  else
   (idx p0.Args 0).bind fun v3=>
   (idx p0.Args 1).bind fun v4=>
   (Fr12 v3 p1).bind fun r5=>
   (Fr11 v4 (iadd .i64 p1 1)).bind fun r6=>
   (appx 40 r5 r6).bind fun l7=>
   (appx 40 l7 ([(⟨3,p1,p1,iadd .i64 p1 1,p0.Op⟩:gQuad)]:List gQuad)).bind fun l8=>
   some l8

def kN:Nat→(gExpr→Int→Option ((List gQuad)))×(gExpr→Int→Option ((List gQuad)))
 |0=>(fun _ _=>none,fun _ _=>none)
 |n+1=>(tO ((kN n).1) ((kN n).2),xP ((kN n).1) ((kN n).2))

def wP (p0:gExpr)(p1:Int):Option ((List gQuad)):=recF fun n=>(kN n).2 p0 p1

def vY (p0:List gStmt)(p1:Int)(Fr16:gStmt→Int→Option ((List gQuad)))(s:Int×(List gQuad)):Option (Flow (Int×(List gQuad)) ((List gQuad))):=
 match s with
 |(s1,s2)=>
 if ilt s1 (ilen p0)=true then
  (idx p0 s1).bind fun v4=>
  (Fr16 v4 (iadd .i64 p1 (ilen s2))).bind fun r5=>
  (appx 40 s2 r5).bind fun l6=>
  some (.next (iadd .i64 s1 1,l6))
 else
  some (.done s2)

def tN (Fr13:(List gStmt)→Int→Option ((List gQuad)))(Fr14:gStmt→Int→Option ((List gQuad)))(Fr15:gStmt→Int→Option ((List gQuad)))(Fr16:gStmt→Int→Option ((List gQuad)))(p0:List gStmt)(p1:Int):Option ((List gQuad)):=
 (loopM (vY p0 p1 Fr16) (0,([]:List gQuad))).bind fun e1=>
 match e1 with
 |y3=>
  some y3

def oF (Fr13:(List gStmt)→Int→Option ((List gQuad)))(Fr14:gStmt→Int→Option ((List gQuad)))(Fr15:gStmt→Int→Option ((List gQuad)))(Fr16:gStmt→Int→Option ((List gQuad)))(p0:gStmt)(p1:Int):Option ((List gQuad)):=
 (wP p0.Expr 4).bind fun r1=>
 (Fr13 p0.Body (iadd .i64 (iadd .i64 p1 (ilen r1)) 1)).bind fun r2=>
 if ieq (ilen p0.Else) 0=true then
  (appx 40 r1 ([(⟨5,0,4,0,iadd .i64 (iadd .i64 (iadd .i64 p1 (ilen r1)) 1) (ilen r2)⟩:gQuad)]:List gQuad)).bind fun l3=>
  (appx 40 l3 r2).bind fun l4=>
  some l4
 else
  (Fr13 p0.Else (iadd .i64 (iadd .i64 (iadd .i64 (iadd .i64 p1 (ilen r1)) 1) (ilen r2)) 1)).bind fun r5=>
  (appx 40 r1 ([(⟨5,0,4,0,iadd .i64 (iadd .i64 (iadd .i64 (iadd .i64 p1 (ilen r1)) 1) (ilen r2)) 1⟩:gQuad)]:List gQuad)).bind fun l6=>
  (appx 40 l6 r2).bind fun l7=>
  (appx 40 l7 ([(⟨4,0,0,0,iadd .i64 (iadd .i64 (iadd .i64 (iadd .i64 (iadd .i64 p1 (ilen r1)) 1) (ilen r2)) 1) (ilen r5)⟩:gQuad)]:List gQuad)).bind fun l8=>
  (appx 40 l8 r5).bind fun l9=>
  some l9

def vX (Fr13:(List gStmt)→Int→Option ((List gQuad)))(Fr14:gStmt→Int→Option ((List gQuad)))(Fr15:gStmt→Int→Option ((List gQuad)))(Fr16:gStmt→Int→Option ((List gQuad)))(p0:gStmt)(p1:Int):Option ((List gQuad)):=
 (wP p0.Expr 4).bind fun r1=>
 (Fr13 p0.Body (iadd .i64 (iadd .i64 p1 (ilen r1)) 1)).bind fun r2=>
 (appx 40 r1 ([(⟨5,0,4,0,iadd .i64 (iadd .i64 (iadd .i64 (iadd .i64 p1 (ilen r1)) 1) (ilen r2)) 1⟩:gQuad)]:List gQuad)).bind fun l3=>
 (appx 40 l3 r2).bind fun l4=>
 (appx 40 l4 ([(⟨4,0,0,0,p1⟩:gQuad)]:List gQuad)).bind fun l5=>
 some l5

def tM (Fr13:(List gStmt)→Int→Option ((List gQuad)))(Fr14:gStmt→Int→Option ((List gQuad)))(Fr15:gStmt→Int→Option ((List gQuad)))(Fr16:gStmt→Int→Option ((List gQuad)))(p0:gStmt)(p1:Int):Option ((List gQuad)):=
 (wP p0.Expr 4).bind fun r1=>
 if ieq p0.Kind 2=true then
  (Fr14 p0 p1).bind fun r2=>
  some r2
 else
  if ieq p0.Kind 3=true then
   (Fr15 p0 p1).bind fun r3=>
   some r3
  else
   if ieq p0.Kind 1=true then
    (appx 40 r1 ([(⟨2,p0.Var,4,0,0⟩:gQuad)]:List gQuad)).bind fun l4=>
    some l4
   else
    if ieq p0.Kind 4=true then
     (appx 40 r1 ([(⟨6,0,4,0,p0.Box⟩:gQuad)]:List gQuad)).bind fun l5=>
     some l5
    else
     if ieq p0.Kind 7=true then
      (appx 40 r1 ([(⟨9,0,4,0,0⟩:gQuad)]:List gQuad)).bind fun l6=>
      some l6
     else
      if ieq p0.Kind 5=true then
       some ([(⟨7,p0.Var,0,0,p0.Box⟩:gQuad)]:List gQuad)
      else
       some ([(⟨8,0,0,0,0⟩:gQuad)]:List gQuad)

def zL:Nat→((List gStmt)→Int→Option ((List gQuad)))×(gStmt→Int→Option ((List gQuad)))×(gStmt→Int→Option ((List gQuad)))×(gStmt→Int→Option ((List gQuad)))
 |0=>(fun _ _=>none,fun _ _=>none,fun _ _=>none,fun _ _=>none)
 |n+1=>(tN ((zL n).1) ((zL n).2.1) ((zL n).2.2.1) ((zL n).2.2.2),oF ((zL n).1) ((zL n).2.1) ((zL n).2.2.1) ((zL n).2.2.2),vX ((zL n).1) ((zL n).2.1) ((zL n).2.2.1) ((zL n).2.2.2),tM ((zL n).1) ((zL n).2.1) ((zL n).2.2.1) ((zL n).2.2.2))

def gC (p0:gStmt)(p1:Int):Option ((List gQuad)):=recF fun n=>(zL n).2.2.2 p0 p1

def sP (p0:List gStmt)(p1:Int)(s:Int×(List gQuad)):Option (Flow (Int×(List gQuad)) ((List gQuad))):=
 match s with
 |(s1,s2)=>
 if ilt s1 (ilen p0)=true then
  (idx p0 s1).bind fun v4=>
  (gC v4 (iadd .i64 p1 (ilen s2))).bind fun r5=>
  (appx 40 s2 r5).bind fun l6=>
  some (.next (iadd .i64 s1 1,l6))
 else
  some (.done s2)

def pT (p0:List gStmt)(p1:Int):Option ((List gQuad)):=
 (loopM (sP p0 p1) (0,([]:List gQuad))).bind fun e1=>
 match e1 with
 |y3=>
  some y3

def xX (p0:List gStmt):Option ((List gQuad)×Bool):=
 (vZ p0).bind fun r1=>
 if bnot r1=true then
  some (([]:List gQuad),false)
 else
  (pT p0 0).bind fun r2=>
  (appx 40 r2 ([(⟨10,0,0,0,0⟩:gQuad)]:List gQuad)).bind fun l3=>
  some (l3,true)

def sF (p0:Int)(p1:Bool):Option (Bool):=
 if p1=true then
  (yC p0 0 11).bind fun r1=>
  some r1
 else
  some (ieq p0 0)

def yG (p0:gQuad)(p1:Bool)(p2:Bool)(p3:Bool):Option (Bool):=
 (sF p0.Dst p1).bind fun r1=>
 (if r1=true then(sF p0.A p2).bind fun r2=>some r2 else some false).bind fun g3=>
 (if g3=true then(sF p0.B p3).bind fun r4=>some r4 else some false).bind fun g5=>
 some g5

def kU (p0:Int):Option (Bool):=
 (yC p0 (-2147483648) 2147483647).bind fun r1=>
 some r1

def yR (p0:gQuad)(p1:Int):Option (Bool):=
 if ieq p0.Op 1=true then
  (yG p0 true false false).bind fun r1=>
  (if r1=true then(kU p0.N).bind fun r2=>some r2 else some false).bind fun g3=>
  some g3
 else
  if ieq p0.Op 2=true then
   (yG p0 true true false).bind fun r4=>
   (if r4=true then some (ieq p0.N 0) else some false).bind fun g5=>
   some g5
  else
   if ieq p0.Op 3=true then
    (yG p0 true true true).bind fun r6=>
    (if r6=true then(xV p0.N).bind fun r7=>some r7 else some false).bind fun g8=>
    some g8
   else
    if ieq p0.Op 4=true then
     (yG p0 false false false).bind fun r9=>
     (if r9=true then some (ige p0.N 0) else some false).bind fun g10=>
     (if g10=true then some (ilt p0.N p1) else some false).bind fun g11=>
     some g11
    else
     if ieq p0.Op 5=true then
      (yG p0 false true false).bind fun r12=>
      (if r12=true then some (ige p0.N 0) else some false).bind fun g13=>
      (if g13=true then some (ilt p0.N p1) else some false).bind fun g14=>
      some g14
     else
      if ieq p0.Op 6=true then
       (yG p0 false true false).bind fun r15=>
       (if r15=true then(yC p0.N 0 2).bind fun r16=>some r16 else some false).bind fun g17=>
       some g17
      else
       if ieq p0.Op 7=true then
        (yG p0 true false false).bind fun r18=>
        (if r18=true then(yC p0.N 0 2).bind fun r19=>some r19 else some false).bind fun g20=>
        some g20
       else
        if ieq p0.Op 9=true then
         (yG p0 false true false).bind fun r21=>
         (if r21=true then some (ieq p0.N 0) else some false).bind fun g22=>
         some g22
        else
         (if ieq p0.Op 8=true then
          some (ieq p0.Op 8)
         else
          some (ieq p0.Op 10)).bind fun j1=>
         if j1=true then
          (yG p0 false false false).bind fun r24=>
          (if r24=true then some (ieq p0.N 0) else some false).bind fun g25=>
          some g25
         else
          some false

def kS (p0:List gQuad)(s:Int):Option (Flow (Int) (Sum (Unit) (Bool))):=
 let s2:=s
 if ilt s2 (ilen p0)=true then
  (idx p0 s2).bind fun v3=>
  (yR v3 (ilen p0)).bind fun r4=>
  if bnot r4=true then
   some (.done (.inr false))
  else
   some (.next (iadd .i64 s2 1))
 else
  some (.done (.inl ()))

def kC (p0:List gQuad):Option (Bool):=
 (yC (ilen p0) 1 600).bind fun r1=>
 if bnot r1=true then
  some false
 else
  (loopM (kS p0) 0).bind fun e1=>
  match e1 with
  |.inl _=>
   (idx p0 (isub .i64 (ilen p0) 1)).bind fun v5=>
   (if ieq v5.Op 10=true then some true else some (ieq v5.Op 4)).bind fun g6=>
   some g6
  |.inr r0=>
   some r0

def xM (p0:List gQuad)(p1:Int):Option ((List Int)):=
 (idx p0 p1).bind fun v1=>
 if ieq v1.Op 10=true then
  some ([]:List Int)
 else
  if ieq v1.Op 4=true then
   some ([v1.N]:List Int)
  else
   (if ieq v1.Op 5=true then some (ilt v1.N (iadd .i64 p1 1)) else some false).bind fun g2=>
   if g2=true then
    some ([v1.N,iadd .i64 p1 1]:List Int)
   else
    (if ieq v1.Op 5=true then some (igt v1.N (iadd .i64 p1 1)) else some false).bind fun g3=>
    if g3=true then
     some ([iadd .i64 p1 1,v1.N]:List Int)
    else
     some ([iadd .i64 p1 1]:List Int)

def fD (p0:List gQuad)(p1:List gFact)(p2:Int):Option ((List Int)):=
 (idx p0 p2).bind fun v1=>
 (if ine v1.Op 5=true then some true else(idx p1 v1.A).bind fun v2=>some (ine v2.Kind 1)).bind fun g3=>
 if g3=true then
  (xM p0 p2).bind fun r4=>
  some r4
 else
  (idx p1 v1.A).bind fun v5=>
  if ieq v5.N 0=true then
   some ([v1.N]:List Int)
  else
   some ([iadd .i64 p2 1]:List Int)

def mD (p0:Bool):Option (Int):=
 if p0=true then
  some 1
 else
  some 0

def qE (p0:Int)(p1:Int)(p2:Bool):Option (Int):=
 if p2=true then
  (shrx .i64 p0 (iand .i64 p1 31)).bind fun v1=>
  some v1
 else
  (shlx .i64 p0 (iand .i64 p1 31)).bind fun v2=>
  (sG v2).bind fun r3=>
  some r3

def qG (p0:Int)(p1:Int):Option (Int):=
 if ieq p1 0=true then
  some (-1)
 else
  (quox .i64 p0 p1).bind fun v1=>
  (sG v1).bind fun r2=>
  some r2

def qF (p0:Int)(p1:Int):Option (Int):=
 if ieq p1 0=true then
  some p0
 else
  (remx p0 p1).bind fun v1=>
  some v1

def pY (p0:Int)(p1:Int)(p2:Int):Option (Int×Bool):=
 (xV p0).bind fun r1=>
 (if bnot r1=true then some true else(kU p1).bind fun r2=>some (bnot r2)).bind fun g3=>
 (if g3=true then some true else(kU p2).bind fun r4=>some (bnot r4)).bind fun g5=>
 if g5=true then
  some (0,false)
 else
  if ieq p0 1=true then
   some (ior .i64 p1 p2,true)
  else
   if ieq p0 2=true then
    some (ixor .i64 p1 p2,true)
   else
    if ieq p0 3=true then
     some (iand .i64 p1 p2,true)
    else
     if ieq p0 4=true then
      (mD (ieq p1 p2)).bind fun r6=>
      some (r6,true)
     else
      if ieq p0 5=true then
       (mD (ilt p1 p2)).bind fun r7=>
       some (r7,true)
      else
       if ieq p0 6=true then
        (qE p1 p2 false).bind fun r8=>
        some (r8,true)
       else
        if ieq p0 7=true then
         (qE p1 p2 true).bind fun r9=>
         some (r9,true)
        else
         if ieq p0 8=true then
          (sG (iadd .i64 p1 p2)).bind fun r10=>
          some (r10,true)
         else
          if ieq p0 9=true then
           (sG (isub .i64 p1 p2)).bind fun r11=>
           some (r11,true)
          else
           if ieq p0 10=true then
            (sG (imul .i64 p1 p2)).bind fun r12=>
            some (r12,true)
           else
            if ieq p0 11=true then
             (qG p1 p2).bind fun r13=>
             some (r13,true)
            else
             (qF p1 p2).bind fun r14=>
             some (r14,true)

def jX (p0:gQuad)(p1:gFact)(p2:gFact):Option (gFact):=
 (if ine p1.Kind 1=true then some true else some (ine p2.Kind 1)).bind fun g1=>
 if g1=true then
  some (⟨2,0⟩:gFact)
 else
  (pY p0.N p1.N p2.N).bind fun r2=>
  some (⟨1,r2.1⟩:gFact)

def fE (p0:gQuad)(p1:List gFact):Option ((List gFact)):=
 (appx 16 ([]:List gFact) p1).bind fun l1=>
 if ieq p0.Op 1=true then
  (idx l1 p0.Dst).bind fun v2=>
  (setx l1 p0.Dst (⟨1,p0.N⟩:gFact)).bind fun l3=>
  some l3
 else
  if ieq p0.Op 2=true then
   (idx p1 p0.A).bind fun v4=>
   (idx l1 p0.Dst).bind fun v5=>
   (setx l1 p0.Dst v4).bind fun l6=>
   some l6
  else
   if ieq p0.Op 7=true then
    (idx l1 p0.Dst).bind fun v7=>
    (setx l1 p0.Dst (⟨2,0⟩:gFact)).bind fun l8=>
    some l8
   else
    if ieq p0.Op 3=true then
     (idx p1 p0.A).bind fun v9=>
     (idx p1 p0.B).bind fun v10=>
     (jX p0 v9 v10).bind fun r11=>
     (idx l1 p0.Dst).bind fun v12=>
     (setx l1 p0.Dst r11).bind fun l13=>
     some l13
    else
     some l1

def nX (p0:gFact)(p1:gFact):Option (gFact):=
 if ieq p0.Kind 0=true then
  some p1
 else
  (if ieq p1.Kind 0=true then some true else some (eqD p0 p1)).bind fun g1=>
  if g1=true then
   some p0
  else
   some (⟨2,0⟩:gFact)

def pQ (p1:Int)(p2:List gFact)(s:Bool×Int×(List (List gFact))):Option (Flow (Bool×Int×(List (List gFact))) (Bool×(List (List gFact)))):=
 match s with
 |(s1,s2,s3)=>
 if ilt s2 12=true then
  (idx s3 p1).bind fun v6=>
  (idx p2 s2).bind fun v7=>
  (idx v6 s2).bind fun v8=>
  (nX v8 v7).bind fun r9=>
  if bnot (eqD r9 v8)=true then
   (setx v6 s2 r9).bind fun l10=>
   (setx s3 p1 l10).bind fun l11=>
   some (.next (true,iadd .i64 s2 1,l11))
  else
   (setx s3 p1 v6).bind fun l12=>
   some (.next (s1,iadd .i64 s2 1,l12))
 else
  some (.done (s1,s3))

def qC (p0:(List (List gFact)))(p1:Int)(p2:List gFact):Option (Bool×(List (List gFact))):=
 (loopM (pQ p1 p2) (false,0,p0)).bind fun e1=>
 match e1 with
 |(y4,y5)=>
  some (y4,y5)

def mT (p0:List gQuad)(p1:Int):Option ((List Int)):=
 (idx p0 p1).bind fun v1=>
 if ieq v1.Op 10=true then
  some ([]:List Int)
 else
  if ieq v1.Op 4=true then
   (some ([v1.N]:List Int)).bind fun l2=>
   some l2
  else
   (if ieq v1.Op 5=true then some (ilt v1.N (iadd .i64 p1 1)) else some false).bind fun g3=>
   if g3=true then
    (some ([v1.N,iadd .i64 p1 1]:List Int)).bind fun l4=>
    some l4
   else
    (if ieq v1.Op 5=true then some (igt v1.N (iadd .i64 p1 1)) else some false).bind fun g5=>
    if g5=true then
     (some ([iadd .i64 p1 1,v1.N]:List Int)).bind fun l6=>
     some l6
    else
     (some ([iadd .i64 p1 1]:List Int)).bind fun l7=>
     some l7

def vT (p0:List gQuad)(p1:List gFact)(p2:Int):Option ((List Int)):=
 (idx p0 p2).bind fun v1=>
 (if ine v1.Op 5=true then some true else(idx p1 v1.A).bind fun v2=>some (ine v2.Kind 1)).bind fun g3=>
 if g3=true then
  (mT p0 p2).bind fun r4=>
  some r4
 else
  (idx p1 v1.A).bind fun v5=>
  if ieq v5.N 0=true then
   (some ([v1.N]:List Int)).bind fun l6=>
   some l6
  else
   (some ([iadd .i64 p2 1]:List Int)).bind fun l7=>
   some l7

def vU (p0:gQuad)(p1:List gFact):Option ((List gFact)):=
 (appx 16 ([]:List gFact) p1).bind fun l1=>
 if ieq p0.Op 1=true then
  (idx l1 p0.Dst).bind fun v2=>
  (setx l1 p0.Dst (⟨1,p0.N⟩:gFact)).bind fun l3=>
  some l3
 else
  if ieq p0.Op 2=true then
   (idx p1 p0.A).bind fun v4=>
   (idx l1 p0.Dst).bind fun v5=>
   (setx l1 p0.Dst v4).bind fun l6=>
   some l6
  else
   if ieq p0.Op 7=true then
    (idx l1 p0.Dst).bind fun v7=>
    (setx l1 p0.Dst (⟨2,0⟩:gFact)).bind fun l8=>
    some l8
   else
    if ieq p0.Op 3=true then
     (idx p1 p0.A).bind fun v9=>
     (idx p1 p0.B).bind fun v10=>
     (jX p0 v9 v10).bind fun r11=>
     (idx l1 p0.Dst).bind fun v12=>
     (setx l1 p0.Dst r11).bind fun l13=>
     some l13
    else
     some l1

def pN (r16:List gFact)(s:Bool×Int×(List (List gFact))×(List Int)):Option (Flow (Bool×Int×(List (List gFact))×(List Int)) (Bool×(List (List gFact)))):=
 match s with
 |(s18,s19,s20,s21)=>
 if ilt s19 (ilen s21)=true then
  (idx s21 s19).bind fun v24=>
  (qC s20 v24 r16).bind fun r25=>
  if r25.1=true then
   some (.next (true,iadd .i64 s19 1,r25.2,s21))
  else
   some (.next (s18,iadd .i64 s19 1,r25.2,s21))
 else
  some (.done (s18,s20))

def pO (p0:List gQuad)(s:Bool×Int×(List (List gFact))):Option (Flow (Bool×Int×(List (List gFact))) (Bool×(List (List gFact)))):=
 match s with
 |(s1,s2,s3)=>
 if ilt s2 (ilen p0)=true then
  (idx s3 s2).bind fun v6=>
  (idx v6 0).bind fun v7=>
  if ieq v7.Kind 0=true then
   (setx s3 s2 v6).bind fun l8=>
   some (.next (s1,iadd .i64 s2 1,l8))
  else
   (setx s3 s2 v6).bind fun l9=>
   (idx l9 s2).bind fun v10=>
   (vT p0 v10 s2).bind fun r11=>
   (setx l9 s2 v10).bind fun l12=>
   (idx l12 s2).bind fun v14=>
   (idx p0 s2).bind fun v15=>
   (vU v15 v14).bind fun r16=>
   (setx l12 s2 v14).bind fun l17=>
   (loopM (pN r16) (s1,0,l17,r11)).bind fun e1=>
   match e1 with
   |(y22,y23)=>
    some (.next (y22,iadd .i64 s2 1,y23))
 else
  some (.done (s1,s3))

def qB (p0:List gQuad)(p1:(List (List gFact))):Option (Bool×(List (List gFact))):=
 (loopM (pO p0) (false,0,p1)).bind fun e2=>
 match e2 with
 |(y4,y5)=>
  some (y4,y5)

def uA (p0:List gQuad)(s:Int×(List (List gFact))):Option (Flow (Int×(List (List gFact))) ((List (List gFact)))):=
 match s with
 |(s2,s3)=>
 if ilt s2 (ilen p0)=true then
  (makex 16 12 (⟨0,0⟩:gFact)).bind fun l5=>
  (appx 24 s3 [l5]).bind fun l6=>
  some (.next (iadd .i64 s2 1,l6))
 else
  some (.done s3)

def oJ (s:Int×(List (List gFact))):Option (Flow (Int×(List (List gFact))) ((List (List gFact)))):=
 match s with
 |(s7,s8)=>
 if ilt s7 12=true then
  (idx s8 0).bind fun v10=>
  (idx v10 s7).bind fun v11=>
  (setx v10 s7 (⟨1,0⟩:gFact)).bind fun l12=>
  (setx s8 0 l12).bind fun l13=>
  some (.next (iadd .i64 s7 1,l13))
 else
  some (.done s8)

def oI (p0:List gQuad)(s:(List (List gFact))):Option (Flow ((List (List gFact))) ((List (List gFact)))):=
 let s14:=s
 (qB p0 s14).bind fun r16=>
 if r16.1=true then
  some (.next r16.2)
 else
  some (.done r16.2)

def oK (p0:List gQuad):Option ((List (List gFact))):=
 (kC p0).bind fun r1=>
 if bnot r1=true then
  some ([]:List (List gFact))
 else
  (loopM (uA p0) (0,([]:List (List gFact)))).bind fun e1=>
  match e1 with
  |y4=>
   (loopM (oJ) (0,y4)).bind fun e2=>
   match e2 with
   |y9=>
    (loopM (oI p0) y9).bind fun e3=>
    match e3 with
    |y15=>
     some y15

def pP (p0:gFact)(p1:Int):Option (Bool):=
 (if ieq p0.Kind 1=true then some (ieq p0.N p1) else some false).bind fun g1=>
 some g1

def mU (p0:List Int)(p1:Int)(s:Int):Option (Flow (Int) (Sum (Unit) (Bool))):=
 let s1:=s
 if ilt s1 (ilen p0)=true then
  (idx p0 s1).bind fun v2=>
  if ieq v2 p1=true then
   some (.done (.inr true))
  else
   some (.next (iadd .i64 s1 1))
 else
  some (.done (.inl ()))

def mC (p0:List Int)(p1:Int):Option (Bool):=
 (loopM (mU p0 p1) 0).bind fun e1=>
 match e1 with
 |.inl _=>
  some false
 |.inr r0=>
  some r0

def pR (p0:Int)(p1:List Int):Option (Bool):=
 (mC p1 p0).bind fun r1=>
 some r1

def gB (p0:gQuad)(p1:gFact)(p2:gFact):Option (gQuad):=
 (jX p0 p1 p2).bind fun r1=>
 if ieq r1.Kind 1=true then
  some (⟨1,p0.Dst,0,0,r1.N⟩:gQuad)
 else
  (pP p2 0).bind fun r2=>
  (if r2=true then(pR p0.N ([1,2,6,7,8,9]:List Int)).bind fun r3=>some r3 else some false).bind fun g4=>
  if g4=true then
   some (⟨2,p0.Dst,p0.A,0,0⟩:gQuad)
  else
   (pP p2 1).bind fun r5=>
   (if r5=true then(pR p0.N ([10,11]:List Int)).bind fun r6=>some r6 else some false).bind fun g7=>
   if g7=true then
    some (⟨2,p0.Dst,p0.A,0,0⟩:gQuad)
   else
    (pP p1 0).bind fun r8=>
    (if r8=true then(pR p0.N ([1,2,8]:List Int)).bind fun r9=>some r9 else some false).bind fun g10=>
    if g10=true then
     some (⟨2,p0.Dst,p0.B,0,0⟩:gQuad)
    else
     (pP p1 1).bind fun r11=>
     (if r11=true then some (ieq p0.N 10) else some false).bind fun g12=>
     if g12=true then
      some (⟨2,p0.Dst,p0.B,0,0⟩:gQuad)
     else
      (if r8=true then some true else some r2).bind fun g13=>
      (if g13=true then(pR p0.N ([3,10]:List Int)).bind fun r14=>some r14 else some false).bind fun g15=>
      if g15=true then
       some (⟨1,p0.Dst,0,0,0⟩:gQuad)
      else
       some p0

def nY (p0:gQuad)(p1:List gFact)(p2:Int):Option (gQuad):=
 (idx p1 0).bind fun v1=>
 if ieq v1.Kind 0=true then
  some p0
 else
  if ieq p0.Op 2=true then
   (idx p1 p0.A).bind fun v2=>
   if ieq v2.Kind 1=true then
    some (⟨1,p0.Dst,0,0,v2.N⟩:gQuad)
   else
    some p0
  else
   if ieq p0.Op 3=true then
    (idx p1 p0.A).bind fun v3=>
    (idx p1 p0.B).bind fun v4=>
    (gB p0 v3 v4).bind fun r5=>
    some r5
   else
    if ieq p0.Op 5=true then
     (idx p1 p0.A).bind fun v6=>
     (pP v6 0).bind fun r7=>
     if r7=true then
      some (⟨4,0,0,0,p0.N⟩:gQuad)
     else
      if ieq v6.Kind 1=true then
       some (⟨4,0,0,0,iadd .i64 p2 1⟩:gQuad)
      else
       some p0
    else
     some p0

def uS (p0:List gQuad)(r2:(List (List gFact)))(s:Int×(List gQuad)):Option (Flow (Int×(List gQuad)) ((List gQuad))):=
 match s with
 |(s3,s4)=>
 if ilt s3 (ilen p0)=true then
  (idx p0 s3).bind fun v6=>
  (idx r2 s3).bind fun v7=>
  (nY v6 v7 s3).bind fun r8=>
  (appx 40 s4 ([r8]:List gQuad)).bind fun l9=>
  some (.next (iadd .i64 s3 1,l9))
 else
  some (.done s4)

def qM (p0:List gQuad):Option ((List gQuad)×Bool):=
 (kC p0).bind fun r1=>
 if bnot r1=true then
  some (([]:List gQuad),false)
 else
  (oK p0).bind fun r2=>
  (loopM (uS p0 r2) (0,([]:List gQuad))).bind fun e1=>
  match e1 with
  |y5=>
   some (y5,true)

def nV (s:Int×(List Int)):Option (Flow (Int×(List Int)) ((List Int))):=
 match s with
 |(s1,s2)=>
 if ilt s1 12=true then
  (appx 8 s2 ([s1]:List Int)).bind fun l4=>
  some (.next (iadd .i64 s1 1,l4))
 else
  some (.done s2)

def dQ:Option ((List Int)):=
 (loopM (nV) (0,([]:List Int))).bind fun e1=>
 match e1 with
 |y3=>
  some y3

def xD (p0:gQuad):Option (Int):=
 (yR p0 600).bind fun r1=>
 if bnot r1=true then
  some (-1)
 else
  (if ieq p0.Op 1=true then
   some (ieq p0.Op 1)
  else
   if ieq p0.Op 2=true then
    some (ieq p0.Op 2)
   else
    if ieq p0.Op 3=true then
     some (ieq p0.Op 3)
    else
     some (ieq p0.Op 7)).bind fun j1=>
  if j1=true then
   some p0.Dst
  else
   some (-1)

def gA (r2:Int)(s:Int×(List Int)):Option (Flow (Int×(List Int)) ((List Int))):=
 match s with
 |(s3,s4)=>
 if ilt s3 12=true then
  (idx s4 s3).bind fun v6=>
  if ieq v6 r2=true then
   (setx s4 s3 s3).bind fun l7=>
   some (.next (iadd .i64 s3 1,l7))
  else
   some (.next (iadd .i64 s3 1,s4))
 else
  some (.done s4)

def fC (p0:gQuad)(p1:List Int):Option ((List Int)):=
 (appx 8 ([]:List Int) p1).bind fun l1=>
 (xD p0).bind fun r2=>
 if ilt r2 0=true then
  some l1
 else
  (loopM (gA r2) (0,l1)).bind fun e1=>
  match e1 with
  |y5=>
   (idx y5 r2).bind fun v8=>
   (setx y5 r2 r2).bind fun l9=>
   if ieq p0.Op 2=true then
    (idx l9 r2).bind fun v10=>
    (setx l9 r2 p0.A).bind fun l11=>
    some l11
   else
    some l9

def pM (p1:Int)(p2:List Int)(s:Bool×Int×(List (List Int))):Option (Flow (Bool×Int×(List (List Int))) (Bool×(List (List Int)))):=
 match s with
 |(s5,s6,s7)=>
 if ilt s6 12=true then
  (idx s7 p1).bind fun v10=>
  (idx v10 s6).bind fun v11=>
  (if ine v11 s6=true then(idx p2 s6).bind fun v12=>some (ine v11 v12) else some false).bind fun g13=>
  if g13=true then
   (setx v10 s6 s6).bind fun l14=>
   (setx s7 p1 l14).bind fun l15=>
   some (.next (true,iadd .i64 s6 1,l15))
  else
   (setx s7 p1 v10).bind fun l16=>
   some (.next (s5,iadd .i64 s6 1,l16))
 else
  some (.done (s5,s7))

def qA (p0:(List (List Int)))(p1:Int)(p2:List Int):Option (Bool×(List (List Int))):=
 (idx p0 p1).bind fun v1=>
 if ieq (ilen v1) 0=true then
  (appx 8 ([]:List Int) p2).bind fun l2=>
  (setx p0 p1 l2).bind fun l3=>
  some (true,l3)
 else
  (setx p0 p1 v1).bind fun l4=>
  (loopM (pM p1 p2) (false,0,l4)).bind fun e1=>
  match e1 with
  |(y8,y9)=>
   some (y8,y9)

def nW (r2:Int)(s:Int×(List Int)):Option (Flow (Int×(List Int)) ((List Int))):=
 match s with
 |(s3,s4)=>
 if ilt s3 12=true then
  (idx s4 s3).bind fun v6=>
  if ieq v6 r2=true then
   (setx s4 s3 s3).bind fun l7=>
   some (.next (iadd .i64 s3 1,l7))
  else
   some (.next (iadd .i64 s3 1,s4))
 else
  some (.done s4)

def vS (p0:gQuad)(p1:List Int):Option ((List Int)):=
 (appx 8 ([]:List Int) p1).bind fun l1=>
 (xD p0).bind fun r2=>
 if ilt r2 0=true then
  some l1
 else
  (loopM (nW r2) (0,l1)).bind fun e1=>
  match e1 with
  |y5=>
   (idx y5 r2).bind fun v8=>
   (setx y5 r2 r2).bind fun l9=>
   if ieq p0.Op 2=true then
    (idx l9 r2).bind fun v10=>
    (setx l9 r2 p0.A).bind fun l11=>
    some l11
   else
    some l9

def pK (r9:List Int)(r13:List Int)(s:Bool×Int×(List (List Int))):Option (Flow (Bool×Int×(List (List Int))) (Bool×(List (List Int)))):=
 match s with
 |(s15,s16,s17)=>
 if ilt s16 (ilen r9)=true then
  (idx r9 s16).bind fun v20=>
  (qA s17 v20 r13).bind fun r21=>
  if r21.1=true then
   some (.next (true,iadd .i64 s16 1,r21.2))
  else
   some (.next (s15,iadd .i64 s16 1,r21.2))
 else
  some (.done (s15,s17))

def pL (p0:List gQuad)(s:Bool×Int×(List (List Int))):Option (Flow (Bool×Int×(List (List Int))) (Bool×(List (List Int)))):=
 match s with
 |(s1,s2,s3)=>
 if ilt s2 (ilen p0)=true then
  (idx s3 s2).bind fun v6=>
  if ieq (ilen v6) 0=true then
   (setx s3 s2 v6).bind fun l7=>
   some (.next (s1,iadd .i64 s2 1,l7))
  else
   (setx s3 s2 v6).bind fun l8=>
   (xM p0 s2).bind fun r9=>
   (idx l8 s2).bind fun v11=>
   (idx p0 s2).bind fun v12=>
   (vS v12 v11).bind fun r13=>
   (setx l8 s2 v11).bind fun l14=>
   (loopM (pK r9 r13) (s1,0,l14)).bind fun e1=>
   match e1 with
   |(y18,y19)=>
    some (.next (y18,iadd .i64 s2 1,y19))
 else
  some (.done (s1,s3))

def sZ (p0:List gQuad)(p1:(List (List Int))):Option (Bool×(List (List Int))):=
 (loopM (pL p0) (false,0,p1)).bind fun e2=>
 match e2 with
 |(y4,y5)=>
  some (y4,y5)

def mL (s:Int×(List Int)):Option (Flow (Int×(List Int)) ((List Int))):=
 match s with
 |(s1,s2)=>
 if ilt s1 12=true then
  (appx 8 s2 ([s1]:List Int)).bind fun l4=>
  some (.next (iadd .i64 s1 1,l4))
 else
  some (.done s2)

def tL:Option ((List Int)):=
 (loopM (mL) (0,([]:List Int))).bind fun e1=>
 match e1 with
 |y3=>
  some y3

def xW (p0:List gQuad)(s:Int×(List (List Int))):Option (Flow (Int×(List (List Int))) ((List (List Int)))):=
 match s with
 |(s2,s3)=>
 if ilt s2 (ilen p0)=true then
  (appx 24 s3 [([]:List Int)]).bind fun l5=>
  some (.next (iadd .i64 s2 1,l5))
 else
  some (.done s3)

def pW (p0:List gQuad)(s:(List (List Int))):Option (Flow ((List (List Int))) ((List (List Int)))):=
 let s9:=s
 (sZ p0 s9).bind fun r11=>
 if r11.1=true then
  some (.next r11.2)
 else
  some (.done r11.2)

def pV (p0:List gQuad)(s:Int×(List (List Int))):Option (Flow (Int×(List (List Int))) ((List (List Int)))):=
 match s with
 |(s12,s13)=>
 if ilt s12 (ilen p0)=true then
  (idx s13 s12).bind fun v15=>
  if ieq (ilen v15) 0=true then
   (setx s13 s12 v15).bind fun l16=>
   (tL).bind fun r17=>
   (idx l16 s12).bind fun v18=>
   (setx l16 s12 r17).bind fun l19=>
   some (.next (iadd .i64 s12 1,l19))
  else
   (setx s13 s12 v15).bind fun l20=>
   some (.next (iadd .i64 s12 1,l20))
 else
  some (.done s13)

def qR (p0:List gQuad):Option ((List (List Int))):=
 (kC p0).bind fun r1=>
 if bnot r1=true then
  some ([]:List (List Int))
 else
  (loopM (xW p0) (0,([]:List (List Int)))).bind fun e1=>
  match e1 with
  |y4=>
   (tL).bind fun r6=>
   (idx y4 0).bind fun v7=>
   (setx y4 0 r6).bind fun l8=>
   (loopM (pW p0) l8).bind fun e2=>
   match e2 with
   |y10=>
    (loopM (pV p0) (0,y10)).bind fun e3=>
    match e3 with
    |y14=>
     some y14

def hZ (p0:gQuad)(p1:List Int):Option (gQuad):=
 (if ieq p0.Op 2=true then
  some (ieq p0.Op 2)
 else
  if ieq p0.Op 5=true then
   some (ieq p0.Op 5)
  else
   if ieq p0.Op 6=true then
    some (ieq p0.Op 6)
   else
    some (ieq p0.Op 9)).bind fun j1=>
 if j1=true then
  (idx p1 p0.A).bind fun v2=>
  some (⟨p0.Op,p0.Dst,v2,p0.B,p0.N⟩:gQuad)
 else
  if ieq p0.Op 3=true then
   (idx p1 p0.A).bind fun v3=>
   (idx p1 p0.B).bind fun v4=>
   some (⟨p0.Op,p0.Dst,v3,v4,p0.N⟩:gQuad)
  else
   some p0

def uU (p0:List gQuad)(r2:(List (List Int)))(s:Int×(List gQuad)):Option (Flow (Int×(List gQuad)) ((List gQuad))):=
 match s with
 |(s3,s4)=>
 if ilt s3 (ilen p0)=true then
  (idx p0 s3).bind fun v6=>
  (idx r2 s3).bind fun v7=>
  (hZ v6 v7).bind fun r8=>
  (appx 40 s4 ([r8]:List gQuad)).bind fun l9=>
  some (.next (iadd .i64 s3 1,l9))
 else
  some (.done s4)

def qQ (p0:List gQuad):Option ((List gQuad)×Bool):=
 (kC p0).bind fun r1=>
 if bnot r1=true then
  some (([]:List gQuad),false)
 else
  (qR p0).bind fun r2=>
  (loopM (uU p0 r2) (0,([]:List gQuad))).bind fun e1=>
  match e1 with
  |y5=>
   some (y5,true)

def sM (p0:List gQuad)(s:Int×Int):Option (Flow (Int×Int) (Sum (Unit) (Int))):=
 match s with
 |(s1,s2)=>
 if ilt s2 (ilen p0)=true then
  (idx p0 s1).bind fun v3=>
  if ine v3.Op 4=true then
   some (.done (.inr s1))
  else
   some (.next (v3.N,iadd .i64 s2 1))
 else
  some (.done (.inl ()))

def tK (p0:List gQuad)(p1:Int):Option (Int):=
 (loopM (sM p0) (p1,0)).bind fun e1=>
 match e1 with
 |.inl _=>
  some p1
 |.inr r0=>
  some r0

def uR (p0:List gQuad)(s:Int×(List gQuad)):Option (Flow (Int×(List gQuad)) ((List gQuad))):=
 match s with
 |(s2,s3)=>
 if ilt s2 (ilen p0)=true then
  (idx p0 s2).bind fun v5=>
  ((if ieq v5.Op 4=true then some true else some (ieq v5.Op 5)).bind fun g8=>
  if g8=true then
   (tK p0 v5.N).bind fun r9=>
   some (⟨v5.Op,v5.Dst,v5.A,v5.B,r9⟩:gQuad)
  else
   some v5).bind fun j1=>
  (appx 40 s3 ([j1]:List gQuad)).bind fun l7=>
  some (.next (iadd .i64 s2 1,l7))
 else
  some (.done s3)

def qL (p0:List gQuad):Option ((List gQuad)×Bool):=
 (kC p0).bind fun r1=>
 if bnot r1=true then
  some (([]:List gQuad),false)
 else
  (loopM (uR p0) (0,([]:List gQuad))).bind fun e2=>
  match e2 with
  |y4=>
   some (y4,true)

def xK (p1:(List (List Bool)))(r2:List Int)(s3:Int)(s:Int×(List Bool)):Option (Flow (Int×(List Bool)) ((List Bool))):=
 match s with
 |(s6,s7)=>
 if ilt s6 12=true then
  (idx s7 s6).bind fun v9=>
  (if v9=true then some true else(idx r2 s3).bind fun v10=>(idx p1 v10).bind fun v11=>(idx v11 s6).bind fun v12=>some v12).bind fun g13=>
  (setx s7 s6 g13).bind fun l14=>
  some (.next (iadd .i64 s6 1,l14))
 else
  some (.done s7)

def xL (p1:(List (List Bool)))(r2:List Int)(s:Int×(List Bool)):Option (Flow (Int×(List Bool)) ((List Bool))):=
 match s with
 |(s3,s4)=>
 if ilt s3 (ilen r2)=true then
  (loopM (xK p1 r2 s3) (0,s4)).bind fun e1=>
  match e1 with
  |y8=>
   some (.next (iadd .i64 s3 1,y8))
 else
  some (.done s4)

def uZ (p0:List gQuad)(p1:(List (List Bool)))(p2:Int):Option ((List Bool)):=
 (makex 1 12 false).bind fun l1=>
 (xM p0 p2).bind fun r2=>
 (loopM (xL p1 r2) (0,l1)).bind fun e2=>
 match e2 with
 |y5=>
  some y5

def tA (p0:gQuad):Option ((List Int)):=
 (yR p0 600).bind fun r1=>
 if bnot r1=true then
  some ([]:List Int)
 else
  (if ieq p0.Op 2=true then
   some (ieq p0.Op 2)
  else
   if ieq p0.Op 5=true then
    some (ieq p0.Op 5)
   else
    if ieq p0.Op 6=true then
     some (ieq p0.Op 6)
    else
     some (ieq p0.Op 9)).bind fun j1=>
  if j1=true then
   some ([p0.A]:List Int)
  else
   if ieq p0.Op 3=true then
    if ieq p0.A p0.B=true then
     some ([p0.A]:List Int)
    else
     some ([imin p0.A p0.B,imax p0.A p0.B]:List Int)
   else
    some ([]:List Int)

def vH (r3:List Int)(s:Int×(List Bool)):Option (Flow (Int×(List Bool)) ((List Bool))):=
 match s with
 |(s4,s5)=>
 if ilt s4 (ilen r3)=true then
  (idx r3 s4).bind fun v7=>
  (idx s5 v7).bind fun v8=>
  (setx s5 v7 true).bind fun l9=>
  some (.next (iadd .i64 s4 1,l9))
 else
  some (.done s5)

def mS (p0:gQuad)(p1:List Bool):Option ((List Bool)):=
 (appx 1 ([]:List Bool) p1).bind fun l1=>
 ((xD p0).bind fun r10=>
 if ige r10 0=true then
  (idx l1 r10).bind fun v11=>
  (setx l1 r10 false).bind fun l12=>
  some l12
 else
  some l1).bind fun j1=>
 (tA p0).bind fun r3=>
 (loopM (vH r3) (0,j1)).bind fun e2=>
 match e2 with
 |y6=>
  some y6

def sE (p0:List Bool)(p1:List Bool)(s:Int):Option (Flow (Int) (Sum (Unit) (Bool))):=
 let s1:=s
 if ilt s1 (ilen p0)=true then
  (idx p0 s1).bind fun v2=>
  (idx p1 s1).bind fun v3=>
  if bneb v2 v3=true then
   some (.done (.inr false))
  else
   some (.next (iadd .i64 s1 1))
 else
  some (.done (.inl ()))

def nZ (p0:List Bool)(p1:List Bool):Option (Bool):=
 (loopM (sE p0 p1) 0).bind fun e1=>
 match e1 with
 |.inl _=>
  some (ieq (ilen p0) (ilen p1))
 |.inr r0=>
  some r0

def oA (p1:(List (List Bool)))(r2:List Int)(s3:Int)(s:Int×(List Bool)):Option (Flow (Int×(List Bool)) ((List Bool))):=
 match s with
 |(s6,s7)=>
 if ilt s6 12=true then
  (idx s7 s6).bind fun v9=>
  (if v9=true then some true else(idx r2 s3).bind fun v10=>(idx p1 v10).bind fun v11=>(idx v11 s6).bind fun v12=>some v12).bind fun g13=>
  (setx s7 s6 g13).bind fun l14=>
  some (.next (iadd .i64 s6 1,l14))
 else
  some (.done s7)

def oB (p1:(List (List Bool)))(r2:List Int)(s:Int×(List Bool)):Option (Flow (Int×(List Bool)) ((List Bool))):=
 match s with
 |(s3,s4)=>
 if ilt s3 (ilen r2)=true then
  (loopM (oA p1 r2 s3) (0,s4)).bind fun e1=>
  match e1 with
  |y8=>
   some (.next (iadd .i64 s3 1,y8))
 else
  some (.done s4)

def vV (p0:List gQuad)(p1:(List (List Bool)))(p2:Int):Option ((List Bool)):=
 (makex 1 12 false).bind fun l1=>
 (xM p0 p2).bind fun r2=>
 (loopM (oB p1 r2) (0,l1)).bind fun e2=>
 match e2 with
 |y5=>
  some y5

def nF (r3:List Int)(s:Int×(List Bool)):Option (Flow (Int×(List Bool)) ((List Bool))):=
 match s with
 |(s4,s5)=>
 if ilt s4 (ilen r3)=true then
  (idx r3 s4).bind fun v7=>
  (idx s5 v7).bind fun v8=>
  (setx s5 v7 true).bind fun l9=>
  some (.next (iadd .i64 s4 1,l9))
 else
  some (.done s5)

def xJ (p0:gQuad)(p1:List Bool):Option ((List Bool)):=
 (appx 1 ([]:List Bool) p1).bind fun l1=>
 ((xD p0).bind fun r10=>
 if ige r10 0=true then
  (idx l1 r10).bind fun v11=>
  (setx l1 r10 false).bind fun l12=>
  some l12
 else
  some l1).bind fun j1=>
 (tA p0).bind fun r3=>
 (loopM (nF r3) (0,j1)).bind fun e2=>
 match e2 with
 |y6=>
  some y6

def pS (p0:List gQuad)(s:Bool×Int×(List (List Bool))):Option (Flow (Bool×Int×(List (List Bool))) (Bool×(List (List Bool)))):=
 match s with
 |(s1,s2,s3)=>
 if ige s2 0=true then
  (idx p0 s2).bind fun v6=>
  (vV p0 s3 s2).bind fun r7=>
  (xJ v6 r7).bind fun r8=>
  (idx s3 s2).bind fun v9=>
  (nZ r8 v9).bind fun r10=>
  if bnot r10=true then
   (setx s3 s2 r8).bind fun l11=>
   some (.next (true,isub .i64 s2 1,l11))
  else
   (setx s3 s2 v9).bind fun l12=>
   some (.next (s1,isub .i64 s2 1,l12))
 else
  some (.done (s1,s3))

def qD (p0:List gQuad)(p1:(List (List Bool))):Option (Bool×(List (List Bool))):=
 (loopM (pS p0) (false,isub .i64 (ilen p0) 1,p1)).bind fun e1=>
 match e1 with
 |(y4,y5)=>
  some (y4,y5)

def tP (p0:List gQuad)(s:Int×(List (List Bool))):Option (Flow (Int×(List (List Bool))) ((List (List Bool)))):=
 match s with
 |(s2,s3)=>
 if ilt s2 (ilen p0)=true then
  (makex 1 12 false).bind fun l5=>
  (appx 24 s3 [l5]).bind fun l6=>
  some (.next (iadd .i64 s2 1,l6))
 else
  some (.done s3)

def mV (p0:List gQuad)(s:(List (List Bool))):Option (Flow ((List (List Bool))) ((List (List Bool)))):=
 let s7:=s
 (qD p0 s7).bind fun r9=>
 if r9.1=true then
  some (.next r9.2)
 else
  some (.done r9.2)

def mE (p0:List gQuad):Option ((List (List Bool))):=
 (kC p0).bind fun r1=>
 if bnot r1=true then
  some ([]:List (List Bool))
 else
  (loopM (tP p0) (0,([]:List (List Bool)))).bind fun e1=>
  match e1 with
  |y4=>
   (loopM (mV p0) y4).bind fun e2=>
   match e2 with
   |y8=>
    some y8

def nU (p0:gQuad)(p1:List Bool):Option (Bool):=
 (if ieq p0.Op 1=true then
  some (ieq p0.Op 1)
 else
  if ieq p0.Op 2=true then
   some (ieq p0.Op 2)
  else
   some (ieq p0.Op 3)).bind fun j1=>
 if j1=true then
  (idx p1 p0.Dst).bind fun v2=>
  some (bnot v2)
 else
  some false

def uT (p0:List gQuad)(r2:(List (List Bool)))(s:Int×(List gQuad)):Option (Flow (Int×(List gQuad)) ((List gQuad))):=
 match s with
 |(s3,s4)=>
 if ilt s3 (ilen p0)=true then
  (idx p0 s3).bind fun v6=>
  ((uZ p0 r2 s3).bind fun r9=>
  (nU v6 r9).bind fun r10=>
  if r10=true then
   some (⟨4,0,0,0,iadd .i64 s3 1⟩:gQuad)
  else
   some v6).bind fun j1=>
  (appx 40 s4 ([j1]:List gQuad)).bind fun l8=>
  some (.next (iadd .i64 s3 1,l8))
 else
  some (.done s4)

def qO (p0:List gQuad):Option ((List gQuad)×Bool):=
 (kC p0).bind fun r1=>
 if bnot r1=true then
  some (([]:List gQuad),false)
 else
  (mE p0).bind fun r2=>
  (loopM (uT p0 r2) (0,([]:List gQuad))).bind fun e2=>
  match e2 with
  |y5=>
   some (y5,true)

def sN (r7:List Int)(s:Bool×Int×(List Bool)):Option (Flow (Bool×Int×(List Bool)) (Bool×(List Bool))):=
 match s with
 |(s8,s9,s10)=>
 if ilt s9 (ilen r7)=true then
  (idx r7 s9).bind fun v13=>
  (idx s10 v13).bind fun v14=>
  if bnot v14=true then
   (setx s10 v13 true).bind fun l15=>
   some (.next (true,iadd .i64 s9 1,l15))
  else
   some (.next (s8,iadd .i64 s9 1,s10))
 else
  some (.done (s8,s10))

def sO (p0:List gQuad)(s:Bool×Int×(List Bool)):Option (Flow (Bool×Int×(List Bool)) (Bool×(List Bool))):=
 match s with
 |(s1,s2,s3)=>
 if ilt s2 (ilen p0)=true then
  (idx s3 s2).bind fun v6=>
  if bnot v6=true then
   some (.next (s1,iadd .i64 s2 1,s3))
  else
   (xM p0 s2).bind fun r7=>
   (loopM (sN r7) (s1,0,s3)).bind fun e1=>
   match e1 with
   |(y11,y12)=>
    some (.next (y11,iadd .i64 s2 1,y12))
 else
  some (.done (s1,s3))

def wO (p0:List gQuad)(p1:List Bool):Option (Bool×(List Bool)):=
 (loopM (sO p0) (false,0,p1)).bind fun e2=>
 match e2 with
 |(y4,y5)=>
  some (y4,y5)

def mM (p0:List gQuad)(s:List Bool):Option (Flow ((List Bool)) ((List Bool))):=
 let s5:=s
 (wO p0 s5).bind fun r7=>
 if r7.1=true then
  some (.next r7.2)
 else
  some (.done r7.2)

def pX (p0:List gQuad):Option ((List Bool)):=
 (kC p0).bind fun r1=>
 if bnot r1=true then
  some ([]:List Bool)
 else
  (makex 1 (ilen p0) false).bind fun l2=>
  (idx l2 0).bind fun v3=>
  (setx l2 0 true).bind fun l4=>
  (loopM (mM p0) l4).bind fun e1=>
  match e1 with
  |y6=>
   some y6

def nT (p0:gQuad)(p1:Int):Option (Bool):=
 (if ieq p0.Op 4=true then
  some (ieq p0.Op 4)
 else
  some (ieq p0.Op 5)).bind fun j1=>
 if j1=true then
  some (ieq p0.N (iadd .i64 p1 1))
 else
  if ieq p0.Op 2=true then
   some (ieq p0.Dst p0.A)
  else
   some false

def nG (p0:List gQuad)(s:List Bool):Option (Flow ((List Bool)) ((List Bool))):=
 let s5:=s
 (wO p0 s5).bind fun r7=>
 if r7.1=true then
  some (.next r7.2)
 else
  some (.done r7.2)

def uV (p0:List gQuad):Option ((List Bool)):=
 (kC p0).bind fun r1=>
 if bnot r1=true then
  some ([]:List Bool)
 else
  (makex 1 (ilen p0) false).bind fun l2=>
  (idx l2 0).bind fun v3=>
  (setx l2 0 true).bind fun l4=>
  (loopM (nG p0) l4).bind fun e1=>
  match e1 with
  |y6=>
   some y6

def xI (p0:List Bool)(p1:Int)(s:Int×Int):Option (Flow (Int×Int) (Int)):=
 match s with
 |(s1,s2)=>
 if ilt s2 p1=true then
  (idx p0 s2).bind fun v4=>
  if v4=true then
   some (.next (iadd .i64 s1 1,iadd .i64 s2 1))
  else
   some (.next (s1,iadd .i64 s2 1))
 else
  some (.done s1)

def sY (p0:List Bool)(p1:Int):Option (Int):=
 (loopM (xI p0 p1) (0,0)).bind fun e1=>
 match e1 with
 |y3=>
  some y3

def yT (p0:List gQuad)(s:Int×(List Bool)):Option (Flow (Int×(List Bool)) ((List Bool))):=
 match s with
 |(s3,s4)=>
 if ilt s3 (ilen p0)=true then
  (idx s4 s3).bind fun v6=>
  (if v6=true then(idx p0 s3).bind fun v7=>(nT v7 s3).bind fun r8=>some (bnot r8) else some false).bind fun g9=>
  (setx s4 s3 g9).bind fun l10=>
  some (.next (iadd .i64 s3 1,l10))
 else
  some (.done s4)

def uL (p0:List gQuad)(s:Int×(List Bool)×(List gQuad)):Option (Flow (Int×(List Bool)×(List gQuad)) ((List gQuad))):=
 match s with
 |(s11,s12,s13)=>
 if ilt s11 (ilen p0)=true then
  (idx p0 s11).bind fun v15=>
  (idx s12 s11).bind fun v16=>
  if bnot v16=true then
   some (.next (iadd .i64 s11 1,s12,s13))
  else
   ((if ieq v15.Op 4=true then some true else some (ieq v15.Op 5)).bind fun g19=>
   if g19=true then
    (sY s12 v15.N).bind fun r20=>
    some (⟨v15.Op,v15.Dst,v15.A,v15.B,r20⟩:gQuad)
   else
    some v15).bind fun j2=>
   (appx 40 s13 ([j2]:List gQuad)).bind fun l18=>
   some (.next (iadd .i64 s11 1,s12,l18))
 else
  some (.done s13)

def xU (p0:List gQuad):Option ((List gQuad)×Bool):=
 (kC p0).bind fun r1=>
 if bnot r1=true then
  some (([]:List gQuad),false)
 else
  (uV p0).bind fun r2=>
  (loopM (yT p0) (0,r2)).bind fun e1=>
  match e1 with
  |y5=>
   (loopM (uL p0) (0,y5,([]:List gQuad))).bind fun e3=>
   match e3 with
   |y14=>
    some (y14,true)

def nS (p0:List gQuad):Option ((List gQuad)):=
 (qM p0).bind fun r1=>
 (qQ r1.1).bind fun r2=>
 (qL r2.1).bind fun r3=>
 (qO r3.1).bind fun r4=>
 (xU r4.1).bind fun r5=>
 some r5.1

def wQ (p1:Int)(s:(List gQuad)×Int):Option (Flow ((List gQuad)×Int) ((List gQuad))):=
 match s with
 |(s5,s6)=>
 if ilt s6 p1=true then
  (nS s5).bind fun r8=>
  some (.next (r8,iadd .i64 s6 1))
 else
  some (.done s5)

def jN (p0:List gQuad)(p1:Int):Option ((List gQuad)×Bool):=
 (kC p0).bind fun r1=>
 (if bnot r1=true then some true else(yC p1 0 4).bind fun r2=>some (bnot r2)).bind fun g3=>
 if g3=true then
  some (([]:List gQuad),false)
 else
  (appx 40 ([]:List gQuad) p0).bind fun l4=>
  (loopM (wQ p1) (l4,0)).bind fun e1=>
  match e1 with
  |y7=>
   some (y7,true)

def nL (p0:gL6Rd):Option ((List gQuad)×gL6Rd):=
 (zI p0 2).bind fun r1=>
 if ieq r1.1 0=true then
  (wN r1.2).bind fun r2=>
  some (r2.1,r2.2)
 else
  (sW r1.2 2).bind fun r3=>
  (xX r3.1).bind fun r4=>
  if igt (ilen r4.1) 40=true then
   (wN r3.2).bind fun r5=>
   some (r5.1,r5.2)
  else
   (zI r3.2 3).bind fun r6=>
   (quox .i64 r6.1 2).bind fun v7=>
   (jN r4.1 v7).bind fun r8=>
   some (r8.1,r6.2)

def tE (r1:Int×gL6Rd)(s:Int×gL6Rd×(List (List gQuad))):Option (Flow (Int×gL6Rd×(List (List gQuad))) (gL6Rd×(List (List gQuad)))):=
 match s with
 |(s2,s3,s4)=>
 if ilt s2 (iadd .i64 1 r1.1)=true then
  (nL s3).bind fun r7=>
  (appx 24 s4 ([r7.1]:List (List gQuad))).bind fun l8=>
  some (.next (iadd .i64 s2 1,r7.2,l8))
 else
  some (.done (s3,s4))

def vO (p0:gL6Rd):Option ((List (List gQuad))×gL6Rd):=
 (zI p0 3).bind fun r1=>
 (loopM (tE r1) (0,r1.2,([]:List (List gQuad)))).bind fun e1=>
 match e1 with
 |(y5,y6)=>
  some (y6,y5)

def jJ (p0:List Int):Option ((List Int)×(List (List gQuad))):=
 (sX p0).bind fun r1=>
 (zI r1 2).bind fun r2=>
 (zI r2.2 4).bind fun r3=>
 (some ([iadd .i64 1 r2.1,iadd .i64 1 r3.1]:List Int)).bind fun l4=>
 (vO r3.2).bind fun r5=>
 (zI r5.2 24).bind fun r6=>
 if ieq r6.1 0=true then
  some (([]:List Int),r5.1)
 else
  if ieq r6.1 1=true then
   (idx l4 0).bind fun v7=>
   (setx l4 0 5).bind fun l8=>
   some (l8,r5.1)
  else
   if ieq r6.1 2=true then
    (appx 24 r5.1 [([]:List gQuad)]).bind fun l9=>
    some (l4,l9)
   else
    some (l4,r5.1)

def kA (p0:List gQuad):Option ((List gQuad)):=
 if false=true then
  some ([]:List gQuad)
 else
  (appx 40 ([]:List gQuad) p0).bind fun l1=>
  some l1

def jT (p0:(List (List gQuad)))(s:Int×(List (List gQuad))):Option (Flow (Int×(List (List gQuad))) ((List (List gQuad)))):=
 match s with
 |(s1,s2)=>
 if ilt s1 (ilen p0)=true then
  (idx p0 s1).bind fun v4=>
  (kA v4).bind fun r5=>
  (appx 24 s2 ([r5]:List (List gQuad))).bind fun l6=>
  some (.next (iadd .i64 s1 1,l6))
 else
  some (.done s2)

def wZ (p0:(List (List gQuad))):Option ((List (List gQuad))):=
 (loopM (jT p0) (0,([]:List (List gQuad)))).bind fun e1=>
 match e1 with
 |y3=>
  some y3

def wH (p0:List Int)(s:Int×(List gBox)):Option (Flow (Int×(List gBox)) ((List gBox))):=
 match s with
 |(s1,s2)=>
 if ilt s1 (ilen p0)=true then
  (idx p0 s1).bind fun v4=>
  (appx 32 s2 ([(⟨v4,([]:List Int)⟩:gBox)]:List gBox)).bind fun l5=>
  some (.next (iadd .i64 s1 1,l5))
 else
  some (.done s2)

def qX (p0:List Int):Option ((List gBox)):=
 (loopM (wH p0) (0,([]:List gBox))).bind fun e1=>
 match e1 with
 |y3=>
  some y3

def jE (p0:List Int)(s:Int):Option (Flow (Int) (Sum (Unit) (Bool))):=
 let s1:=s
 if ilt s1 (ilen p0)=true then
  (idx p0 s1).bind fun v2=>
  (if ilt v2 1=true then some true else some (igt v2 4)).bind fun g3=>
  if g3=true then
   some (.done (.inr false))
  else
   some (.next (iadd .i64 s1 1))
 else
  some (.done (.inl ()))

def uF (p0:List Int):Option (Bool):=
 (loopM (jE p0) 0).bind fun e1=>
 match e1 with
 |.inl _=>
  some (ile (ilen p0) 3)
 |.inr r0=>
  some r0

def jY (p0:Int):Option (Bool):=
 (if ige p0 (-2147483648)=true then some (ile p0 2147483647) else some false).bind fun g1=>
 some g1

def wI (p0:List Int)(s:Int):Option (Flow (Int) (Sum (Unit) (Bool))):=
 let s1:=s
 if ilt s1 (ilen p0)=true then
  (idx p0 s1).bind fun v2=>
  (jY v2).bind fun r3=>
  if bnot r3=true then
   some (.done (.inr false))
  else
   some (.next (iadd .i64 s1 1))
 else
  some (.done (.inl ()))

def vA (p0:List Int):Option (Bool):=
 (loopM (wI p0) 0).bind fun e1=>
 match e1 with
 |.inl _=>
  some true
 |.inr r0=>
  some r0

def sK (p0:Int)(p1:Int)(p2:Int)(p3:List Int):Option (Bool):=
 (if ige p0 1=true then some (ile p0 3) else some false).bind fun g1=>
 (if g1=true then some (ige p1 0) else some false).bind fun g2=>
 (if g2=true then some (ilt p1 p0) else some false).bind fun g3=>
 (if g3=true then some (ige p2 0) else some false).bind fun g4=>
 (if g4=true then some (ile p2 p0) else some false).bind fun g5=>
 (if g5=true then(vA p3).bind fun r6=>some r6 else some false).bind fun g7=>
 some g7

def pC (p0:gBox):Option (Bool):=
 (if ige p0.Room 1=true then some (ile p0.Room 4) else some false).bind fun g1=>
 (if g1=true then some (ile (ilen p0.Items) p0.Room) else some false).bind fun g2=>
 (if g2=true then(vA p0.Items).bind fun r3=>some r3 else some false).bind fun g4=>
 some g4

def jF (p0:List gBox)(s:Int):Option (Flow (Int) (Sum (Unit) (Bool))):=
 let s1:=s
 if ilt s1 (ilen p0)=true then
  (idx p0 s1).bind fun v2=>
  (pC v2).bind fun r3=>
  if bnot r3=true then
   some (.done (.inr false))
  else
   some (.next (iadd .i64 s1 1))
 else
  some (.done (.inl ()))

def uG (p0:List gBox):Option (Bool):=
 (loopM (jF p0) 0).bind fun e1=>
 match e1 with
 |.inl _=>
  some (ile (ilen p0) 3)
 |.inr r0=>
  some r0

def fM (p0:Int):Option (Bool):=
 (if ige p0 0=true then some (ilt p0 12) else some false).bind fun g1=>
 some g1

def gI (p0:Int):Option (Bool):=
 (if ige p0 1=true then some (ile p0 12) else some false).bind fun g1=>
 some g1

def tW (p0:gQuad)(p1:Int):Option (Bool):=
 (fM p0.Dst).bind fun r1=>
 (fM p0.A).bind fun r2=>
 (fM p0.B).bind fun r3=>
 if ieq p0.Op 1=true then
  (if eqD p0 (⟨1,p0.Dst,0,0,p0.N⟩:gQuad)=true then some r1 else some false).bind fun g4=>
  (if g4=true then(jY p0.N).bind fun r5=>some r5 else some false).bind fun g6=>
  some g6
 else
  if ieq p0.Op 2=true then
   (if eqD p0 (⟨2,p0.Dst,p0.A,0,0⟩:gQuad)=true then some r1 else some false).bind fun g7=>
   (if g7=true then some r2 else some false).bind fun g8=>
   some g8
  else
   if ieq p0.Op 3=true then
    (if r1=true then some r2 else some false).bind fun g9=>
    (if g9=true then some r3 else some false).bind fun g10=>
    (if g10=true then(gI p0.N).bind fun r11=>some r11 else some false).bind fun g12=>
    some g12
   else
    if ieq p0.Op 4=true then
     (if eqD p0 (⟨4,0,0,0,p0.N⟩:gQuad)=true then some (ige p0.N 0) else some false).bind fun g13=>
     (if g13=true then some (ilt p0.N p1) else some false).bind fun g14=>
     some g14
    else
     if ieq p0.Op 5=true then
      (if eqD p0 (⟨5,0,p0.A,0,p0.N⟩:gQuad)=true then some r2 else some false).bind fun g15=>
      (if g15=true then some (ige p0.N 0) else some false).bind fun g16=>
      (if g16=true then some (ilt p0.N p1) else some false).bind fun g17=>
      some g17
     else
      if ieq p0.Op 6=true then
       (if eqD p0 (⟨6,0,p0.A,0,p0.N⟩:gQuad)=true then some r2 else some false).bind fun g18=>
       (if g18=true then some (ige p0.N 0) else some false).bind fun g19=>
       (if g19=true then some (ilt p0.N 3) else some false).bind fun g20=>
       some g20
      else
       if ieq p0.Op 7=true then
        (if eqD p0 (⟨7,p0.Dst,0,0,p0.N⟩:gQuad)=true then some r1 else some false).bind fun g21=>
        (if g21=true then some (ige p0.N 0) else some false).bind fun g22=>
        (if g22=true then some (ilt p0.N 3) else some false).bind fun g23=>
        some g23
       else
        if ieq p0.Op 9=true then
         (if eqD p0 (⟨9,0,p0.A,0,0⟩:gQuad)=true then some r2 else some false).bind fun g24=>
         some g24
        else
         (if ieq p0.Op 8=true then
          some (ieq p0.Op 8)
         else
          some (ieq p0.Op 10)).bind fun j1=>
         if j1=true then
          some (eqD p0 (⟨p0.Op,0,0,0,0⟩:gQuad))
         else
          some false

def vK (p0:List gQuad)(s:Int):Option (Flow (Int) (Sum (Unit) (Bool))):=
 let s2:=s
 if ilt s2 (ilen p0)=true then
  (idx p0 s2).bind fun v3=>
  (tW v3 (ilen p0)).bind fun r4=>
  if bnot r4=true then
   some (.done (.inr false))
  else
   some (.next (iadd .i64 s2 1))
 else
  some (.done (.inl ()))

def vC (p0:List gQuad):Option (Bool):=
 (if ilt (ilen p0) 1=true then some true else some (igt (ilen p0) 600)).bind fun g1=>
 if g1=true then
  some false
 else
  (loopM (vK p0) 0).bind fun e1=>
  match e1 with
  |.inl _=>
   (idx p0 (isub .i64 (ilen p0) 1)).bind fun v5=>
   (if ieq v5.Op 10=true then some true else some (ieq v5.Op 4)).bind fun g6=>
   some g6
  |.inr r0=>
   some r0

def uE (p0:gThread)(p1:List gQuad):Option (Bool):=
 (if ieq (ilen p0.Regs) 12=true then(vA p0.Regs).bind fun r1=>some r1 else some false).bind fun g2=>
 (if g2=true then some (ige p0.Pc 0) else some false).bind fun g3=>
 (if g3=true then some (ilt p0.Pc (ilen p1)) else some false).bind fun g4=>
 some g4

def jK (p0:gThread)(p1:List gQuad):Option (Bool):=
 (vC p1).bind fun r1=>
 (if r1=true then(uE p0 p1).bind fun r2=>some r2 else some false).bind fun g3=>
 some g3

def qZ (p0:gQuad)(p1:Int):Option (Bool):=
 (if ine p0.Op 6=true then some (ine p0.Op 7) else some false).bind fun g1=>
 (if g1=true then some true else some (ilt p0.N p1)).bind fun g2=>
 some g2

def yV (p0:gCrew)(v6:List gQuad)(s:Int):Option (Flow (Int) (Sum (Unit) (Bool))):=
 let s9:=s
 if ilt s9 (ilen v6)=true then
  (idx v6 s9).bind fun v10=>
  (qZ v10 (ilen p0.Boxes)).bind fun r11=>
  if bnot r11=true then
   some (.done (.inr false))
  else
   some (.next (iadd .i64 s9 1))
 else
  some (.done (.inl ()))

def jU (p0:gCrew)(s:Int):Option (Flow (Int) (Sum (Unit) (Bool))):=
 let s5:=s
 if ilt s5 (ilen p0.Codes)=true then
  (idx p0.Codes s5).bind fun v6=>
  (idx p0.Threads s5).bind fun v7=>
  (jK v7 v6).bind fun r8=>
  if bnot r8=true then
   some (.done (.inr false))
  else
   (loopM (yV p0 v6) 0).bind fun e1=>
   match e1 with
   |.inl _=>
    some (.next (iadd .i64 s5 1))
   |.inr r0=>
    some (.done (.inr r0))
 else
  some (.done (.inl ()))

def vB (p0:gCrew):Option (Bool):=
 (sK (ilen p0.Codes) p0.Turn p0.Idle p0.Out).bind fun r1=>
 (if bnot r1=true then some true else some (ine (ilen p0.Threads) (ilen p0.Codes))).bind fun g2=>
 (if g2=true then some true else(uG p0.Boxes).bind fun r3=>some (bnot r3)).bind fun g4=>
 if g4=true then
  some false
 else
  (loopM (jU p0) 0).bind fun e2=>
  match e2 with
  |.inl _=>
   some true
  |.inr r0=>
   some r0

def uI (p1:(List (List gQuad)))(s:Int×gCrew×gCrew):Option (Flow (Int×gCrew×gCrew) (gCrew×gCrew)):=
 match s with
 |(s3,s4,s5)=>
 if ilt s3 (ilen p1)=true then
  (makex 8 12 0).bind fun l8=>
  (appx 32 s5.Threads ([(⟨l8,0⟩:gThread)]:List gThread)).bind fun l9=>
  some (.next (iadd .i64 s3 1,s4,(⟨s5.Codes,l9,s5.Boxes,s5.Turn,s5.Idle,s5.Out⟩:gCrew)))
 else
  some (.done (s4,s5))

def tY (p0:List Int)(p1:(List (List gQuad))):Option (gCrew×Bool):=
 (wZ p1).bind fun r1=>
 (qX p0).bind fun r2=>
 (loopM (uI p1) (0,(⟨([]:List (List gQuad)),([]:List gThread),([]:List gBox),0,0,([]:List Int)⟩:gCrew),(⟨r1,([]:List gThread),r2,0,0,([]:List Int)⟩:gCrew))).bind fun e1=>
 match e1 with
 |(y6,y7)=>
  (uF p0).bind fun r11=>
  (if bnot r11=true then some true else(vB y7).bind fun r12=>some (bnot r12)).bind fun g13=>
  if g13=true then
   some ((⟨([]:List (List gQuad)),([]:List gThread),([]:List gBox),0,0,([]:List Int)⟩:gCrew),false)
  else
   some (y7,true)

def xS (p0:List Int)(s:Int):Option (Flow (Int) (Sum (Unit) (Bool))):=
 let s1:=s
 if ilt s1 (ilen p0)=true then
  (idx p0 s1).bind fun v2=>
  (yC v2 1 4).bind fun r3=>
  if bnot r3=true then
   some (.done (.inr false))
  else
   some (.next (iadd .i64 s1 1))
 else
  some (.done (.inl ()))

def qK (p0:List Int):Option (Bool):=
 (loopM (xS p0) 0).bind fun e1=>
 match e1 with
 |.inl _=>
  some (ile (ilen p0) 3)
 |.inr r0=>
  some r0

def xO (p0:(List (List gQuad)))(s:Int×(List (List gQuad))):Option (Flow (Int×(List (List gQuad))) ((List (List gQuad)))):=
 match s with
 |(s1,s2)=>
 if ilt s1 (ilen p0)=true then
  (idx p0 s1).bind fun v4=>
  (appx 40 ([]:List gQuad) v4).bind fun l5=>
  (appx 24 s2 ([l5]:List (List gQuad))).bind fun l6=>
  some (.next (iadd .i64 s1 1,l6))
 else
  some (.done s2)

def qH (p0:(List (List gQuad))):Option ((List (List gQuad))):=
 (loopM (xO p0) (0,([]:List (List gQuad)))).bind fun e1=>
 match e1 with
 |y3=>
  some y3

def xQ (p0:List Int)(s:Int×(List gBox)):Option (Flow (Int×(List gBox)) ((List gBox))):=
 match s with
 |(s1,s2)=>
 if ilt s1 (ilen p0)=true then
  (idx p0 s1).bind fun v4=>
  (appx 32 s2 ([(⟨v4,([]:List Int)⟩:gBox)]:List gBox)).bind fun l5=>
  some (.next (iadd .i64 s1 1,l5))
 else
  some (.done s2)

def qI (p0:List Int):Option ((List gBox)):=
 (loopM (xQ p0) (0,([]:List gBox))).bind fun e1=>
 match e1 with
 |y3=>
  some y3

def vR (p0:List Int)(s:Int):Option (Flow (Int) (Sum (Unit) (Bool))):=
 let s1:=s
 if ilt s1 (ilen p0)=true then
  (idx p0 s1).bind fun v2=>
  (kU v2).bind fun r3=>
  if bnot r3=true then
   some (.done (.inr false))
  else
   some (.next (iadd .i64 s1 1))
 else
  some (.done (.inl ()))

def tJ (p0:List Int)(p1:Int):Option (Bool):=
 if ine (ilen p0) p1=true then
  some false
 else
  (loopM (vR p0) 0).bind fun e1=>
  match e1 with
  |.inl _=>
   some true
  |.inr r0=>
   some r0

def wS (p0:gBox):Option (Bool):=
 (yC p0.Room 1 4).bind fun r1=>
 (if r1=true then some (ile (ilen p0.Items) p0.Room) else some false).bind fun g2=>
 (if g2=true then(tJ p0.Items (ilen p0.Items)).bind fun r3=>some r3 else some false).bind fun g4=>
 some g4

def xR (p0:List gBox)(s:Int):Option (Flow (Int) (Sum (Unit) (Bool))):=
 let s1:=s
 if ilt s1 (ilen p0)=true then
  (idx p0 s1).bind fun v2=>
  (wS v2).bind fun r3=>
  if bnot r3=true then
   some (.done (.inr false))
  else
   some (.next (iadd .i64 s1 1))
 else
  some (.done (.inl ()))

def qJ (p0:List gBox):Option (Bool):=
 (loopM (xR p0) 0).bind fun e1=>
 match e1 with
 |.inl _=>
  some (ile (ilen p0) 3)
 |.inr r0=>
  some r0

def oE (p0:gThread)(p1:Int):Option (Bool):=
 (tJ p0.Regs 12).bind fun r1=>
 (if r1=true then(yC p0.Pc 0 (isub .i64 p1 1)).bind fun r2=>some r2 else some false).bind fun g3=>
 some g3

def yQ (p0:gThread)(p1:List gQuad):Option (Bool):=
 (kC p1).bind fun r1=>
 (if r1=true then(oE p0 (ilen p1)).bind fun r2=>some r2 else some false).bind fun g3=>
 some g3

def oD (p0:gQuad)(p1:Int):Option (Bool):=
 (if ine p0.Op 6=true then some (ine p0.Op 7) else some false).bind fun g1=>
 (if g1=true then some true else some (ilt p0.N p1)).bind fun g2=>
 some g2

def vW (p0:List gQuad)(p1:Int)(s:Int):Option (Flow (Int) (Sum (Unit) (Bool))):=
 let s1:=s
 if ilt s1 (ilen p0)=true then
  (idx p0 s1).bind fun v2=>
  (oD v2 p1).bind fun r3=>
  if bnot r3=true then
   some (.done (.inr false))
  else
   some (.next (iadd .i64 s1 1))
 else
  some (.done (.inl ()))

def oC (p0:List gQuad)(p1:Int):Option (Bool):=
 (loopM (vW p0 p1) 0).bind fun e1=>
 match e1 with
 |.inl _=>
  some true
 |.inr r0=>
  some r0

def jO (p0:gCrew)(s:Int):Option (Flow (Int) (Sum (Unit) (Bool))):=
 let s9:=s
 if ilt s9 (ilen p0.Threads)=true then
  (idx p0.Threads s9).bind fun v10=>
  (idx p0.Codes s9).bind fun v11=>
  (yQ v10 v11).bind fun r12=>
  (if bnot r12=true then some true else(oC v11 (ilen p0.Boxes)).bind fun r13=>some (bnot r13)).bind fun g14=>
  if g14=true then
   some (.done (.inr false))
  else
   some (.next (iadd .i64 s9 1))
 else
  some (.done (.inl ()))

def tQ (p0:gCrew):Option (Bool):=
 (yC (ilen p0.Threads) 1 3).bind fun r1=>
 (if bnot r1=true then some true else some (ine (ilen p0.Codes) (ilen p0.Threads))).bind fun g2=>
 (if g2=true then some true else(qJ p0.Boxes).bind fun r3=>some (bnot r3)).bind fun g4=>
 (if g4=true then some true else(yC p0.Turn 0 (isub .i64 (ilen p0.Threads) 1)).bind fun r5=>some (bnot r5)).bind fun g6=>
 (if g6=true then some true else(yC p0.Idle 0 (ilen p0.Threads)).bind fun r7=>some (bnot r7)).bind fun g8=>
 if g8=true then
  some false
 else
  (loopM (jO p0) 0).bind fun e1=>
  match e1 with
  |.inl _=>
   (tJ p0.Out (ilen p0.Out)).bind fun r15=>
   some r15
  |.inr r0=>
   some r0

def uB (p1:(List (List gQuad)))(s:Int×gCrew×gCrew):Option (Flow (Int×gCrew×gCrew) (gCrew×gCrew)):=
 match s with
 |(s5,s6,s7)=>
 if ilt s5 (ilen p1)=true then
  (makex 8 12 0).bind fun l10=>
  (appx 32 s7.Threads ([(⟨l10,0⟩:gThread)]:List gThread)).bind fun l11=>
  some (.next (iadd .i64 s5 1,s6,(⟨s7.Codes,l11,s7.Boxes,s7.Turn,s7.Idle,s7.Out⟩:gCrew)))
 else
  some (.done (s6,s7))

def qP (p0:List Int)(p1:(List (List gQuad))):Option (gCrew×Bool):=
 (qK p0).bind fun r1=>
 if bnot r1=true then
  some ((⟨([]:List (List gQuad)),([]:List gThread),([]:List gBox),0,0,([]:List Int)⟩:gCrew),false)
 else
  (qH p1).bind fun r2=>
  (some ([]:List gThread)).bind fun l3=>
  (qI p0).bind fun r4=>
  (loopM (uB p1) (0,(⟨([]:List (List gQuad)),([]:List gThread),([]:List gBox),0,0,([]:List Int)⟩:gCrew),(⟨r2,l3,r4,0,0,([]:List Int)⟩:gCrew))).bind fun e1=>
  match e1 with
  |(y8,y9)=>
   (tQ y9).bind fun r12=>
   if bnot r12=true then
    some ((⟨([]:List (List gQuad)),([]:List gThread),([]:List gBox),0,0,([]:List Int)⟩:gCrew),false)
   else
    some (y9,true)

def wE (p0:List gQuad)(p1:List gQuad)(s:Int):Option (Flow (Int) (Sum (Unit) (Bool))):=
 let s1:=s
 if ilt s1 (ilen p0)=true then
  (idx p0 s1).bind fun v2=>
  (idx p1 s1).bind fun v3=>
  if bnot (eqD v2 v3)=true then
   some (.done (.inr false))
  else
   some (.next (iadd .i64 s1 1))
 else
  some (.done (.inl ()))

def qV (p0:List gQuad)(p1:List gQuad):Option (Bool):=
 if ine (ilen p0) (ilen p1)=true then
  some false
 else
  (loopM (wE p0 p1) 0).bind fun e1=>
  match e1 with
  |.inl _=>
   some true
  |.inr r0=>
   some r0

def jR (p0:(List (List gQuad)))(p1:(List (List gQuad)))(s:Int):Option (Flow (Int) (Sum (Unit) (Bool))):=
 let s1:=s
 if ilt s1 (ilen p0)=true then
  (idx p0 s1).bind fun v2=>
  (idx p1 s1).bind fun v3=>
  (qV v2 v3).bind fun r4=>
  if bnot r4=true then
   some (.done (.inr false))
  else
   some (.next (iadd .i64 s1 1))
 else
  some (.done (.inl ()))

def tT (p0:(List (List gQuad)))(p1:(List (List gQuad))):Option (Bool):=
 if ine (ilen p0) (ilen p1)=true then
  some false
 else
  (loopM (jR p0 p1) 0).bind fun e1=>
  match e1 with
  |.inl _=>
   some true
  |.inr r0=>
   some r0

def wD (p0:List Int)(p1:List Int)(s:Int):Option (Flow (Int) (Sum (Unit) (Bool))):=
 let s1:=s
 if ilt s1 (ilen p0)=true then
  (idx p0 s1).bind fun v2=>
  (idx p1 s1).bind fun v3=>
  if ine v2 v3=true then
   some (.done (.inr false))
  else
   some (.next (iadd .i64 s1 1))
 else
  some (.done (.inl ()))

def wV (p0:List Int)(p1:List Int):Option (Bool):=
 if ine (ilen p0) (ilen p1)=true then
  some false
 else
  (loopM (wD p0 p1) 0).bind fun e1=>
  match e1 with
  |.inl _=>
   some true
  |.inr r0=>
   some r0

def uD (p0:gThread)(p1:gThread):Option (Bool):=
 (if ieq p0.Pc p1.Pc=true then(wV p0.Regs p1.Regs).bind fun r1=>some r1 else some false).bind fun g2=>
 some g2

def oP (p0:gBox)(p1:gBox):Option (Bool):=
 (if ieq p0.Room p1.Room=true then(wV p0.Items p1.Items).bind fun r1=>some r1 else some false).bind fun g2=>
 some g2

def jS (p0:List gBox)(p1:List gBox)(s:Int):Option (Flow (Int) (Sum (Unit) (Bool))):=
 let s1:=s
 if ilt s1 (ilen p0)=true then
  (idx p0 s1).bind fun v2=>
  (idx p1 s1).bind fun v3=>
  (oP v2 v3).bind fun r4=>
  if bnot r4=true then
   some (.done (.inr false))
  else
   some (.next (iadd .i64 s1 1))
 else
  some (.done (.inl ()))

def tU (p0:List gBox)(p1:List gBox):Option (Bool):=
 if ine (ilen p0) (ilen p1)=true then
  some false
 else
  (loopM (jS p0 p1) 0).bind fun e1=>
  match e1 with
  |.inl _=>
   some true
  |.inr r0=>
   some r0

def wA (p0:gCrew)(p1:gCrew)(s:Int):Option (Flow (Int) (Sum (Unit) (Bool))):=
 let s3:=s
 if ilt s3 (ilen p0.Threads)=true then
  (idx p0.Threads s3).bind fun v4=>
  (idx p1.Threads s3).bind fun v5=>
  if ine v4.Pc v5.Pc=true then
   some (.done (.inr false))
  else
   some (.next (iadd .i64 s3 1))
 else
  some (.done (.inl ()))

def qU (p0:gCrew)(p1:gCrew):Option (Bool):=
 (if ine (ilen p0.Threads) (ilen p1.Threads)=true then some true else some (ine p0.Turn p1.Turn)).bind fun g1=>
 (if g1=true then some true else some (ine p0.Idle p1.Idle)).bind fun g2=>
 if g2=true then
  some false
 else
  (loopM (wA p0 p1) 0).bind fun e1=>
  match e1 with
  |.inl _=>
   (tU p0.Boxes p1.Boxes).bind fun r6=>
   (if r6=true then(wV p0.Out p1.Out).bind fun r7=>some r7 else some false).bind fun g8=>
   some g8
  |.inr r0=>
   some r0

def jQ (p0:gCrew)(p1:gCrew)(s:Int):Option (Flow (Int) (Sum (Unit) (Bool))):=
 let s1:=s
 if ilt s1 (ilen p0.Threads)=true then
  (idx p0.Threads s1).bind fun v2=>
  (idx p1.Threads s1).bind fun v3=>
  (uD v2 v3).bind fun r4=>
  if bnot r4=true then
   some (.done (.inr false))
  else
   some (.next (iadd .i64 s1 1))
 else
  some (.done (.inl ()))

def tS (p0:gCrew)(p1:gCrew):Option (Bool):=
 if ine (ilen p0.Threads) (ilen p1.Threads)=true then
  some false
 else
  (loopM (jQ p0 p1) 0).bind fun e1=>
  match e1 with
  |.inl _=>
   (qU p0 p1).bind fun r5=>
   some r5
  |.inr r0=>
   some r0

def xE (p0:gCrew)(p1:gCrew):Option (Bool):=
 (tT p0.Codes p1.Codes).bind fun r1=>
 (if r1=true then(tS p0 p1).bind fun r2=>some r2 else some false).bind fun g3=>
 some g3

def yJ (p0:List Int):Option ((List Int)):=
 if false=true then
  some ([]:List Int)
 else
  (appx 8 ([]:List Int) p0).bind fun l1=>
  some l1

def vJ (p0:List gBox)(s:Int×(List gBox)):Option (Flow (Int×(List gBox)) ((List gBox))):=
 match s with
 |(s1,s2)=>
 if ilt s1 (ilen p0)=true then
  (idx p0 s1).bind fun v4=>
  (yJ v4.Items).bind fun r5=>
  (appx 32 s2 ([(⟨v4.Room,r5⟩:gBox)]:List gBox)).bind fun l6=>
  some (.next (iadd .i64 s1 1,l6))
 else
  some (.done s2)

def hG (p0:List gBox):Option ((List gBox)):=
 (loopM (vJ p0) (0,([]:List gBox))).bind fun e1=>
 match e1 with
 |y3=>
  some y3

def i_truth (p0:Bool):Option (Int):=
 if p0=true then
  some 1
 else
  some 0

def gH (p0:Int):Option (Int):=
 some (iconv .i64 (iconv .i32 p0))

def pZ (p0:Int)(p1:Int)(p2:Int):Option (Int):=
 if ieq p0 1=true then
  some (ior .i64 p1 p2)
 else
  if ieq p0 2=true then
   some (ixor .i64 p1 p2)
  else
   if ieq p0 3=true then
    some (iand .i64 p1 p2)
   else
    if ieq p0 4=true then
     (i_truth (ieq p1 p2)).bind fun r1=>
     some r1
    else
     if ieq p0 5=true then
      (i_truth (ilt p1 p2)).bind fun r2=>
      some r2
     else
      if ieq p0 6=true then
       (shlx .i64 p1 (iand .i64 p2 31)).bind fun v3=>
       (gH v3).bind fun r4=>
       some r4
      else
       if ieq p0 7=true then
        (shrx .i64 p1 (iand .i64 p2 31)).bind fun v5=>
        some v5
       else
        if ieq p0 8=true then
         (gH (iadd .i64 p1 p2)).bind fun r6=>
         some r6
        else
         if ieq p0 9=true then
          (gH (isub .i64 p1 p2)).bind fun r7=>
          some r7
         else
          if ieq p0 10=true then
           (gH (imul .i64 p1 p2)).bind fun r8=>
           some r8
          else
           if ieq p0 11=true then
            if ieq p2 0=true then
             some (-1)
            else
             (quox .i64 p1 p2).bind fun v9=>
             (gH v9).bind fun r10=>
             some r10
           else
            if ieq p2 0=true then
             some p1
            else
             (remx p1 p2).bind fun v11=>
             some v11

def oS (p0:gBox)(p1:Int):Option (Bool×gBox):=
 if ieq (ilen p0.Items) p0.Room=true then
  some (false,p0)
 else
  (appx 8 p0.Items ([p1]:List Int)).bind fun l1=>
  some (true,(⟨p0.Room,l1⟩:gBox))

def pB (p0:gBox):Option (Int×Bool×gBox):=
 if ieq (ilen p0.Items) 0=true then
  some (0,false,p0)
 else
  (idx p0.Items 0).bind fun v1=>
  (cutx p0.Items 0 0).bind fun l2=>
  (cutx p0.Items 1 (ilen p0.Items)).bind fun l3=>
  (appx 8 l2 l3).bind fun l4=>
  some (v1,true,(⟨p0.Room,l4⟩:gBox))

def wJ (p0:gThread)(p1:List gQuad)(p2:List gBox)(p3:List Int):Option (Int×gThread×(List gBox)×(List Int)):=
 (idx p1 p0.Pc).bind fun v1=>
 (if ieq v1.Op 1=true then
  (idx p0.Regs v1.Dst).bind fun v6=>
  (setx p0.Regs v1.Dst v1.N).bind fun l7=>
  some (Flow.next (iadd .i64 p0.Pc 1,(⟨l7,p0.Pc⟩:gThread),p2,p3))
 else
  if ieq v1.Op 2=true then
   (idx p0.Regs v1.A).bind fun v8=>
   (idx p0.Regs v1.Dst).bind fun v9=>
   (setx p0.Regs v1.Dst v8).bind fun l10=>
   some (Flow.next (iadd .i64 p0.Pc 1,(⟨l10,p0.Pc⟩:gThread),p2,p3))
  else
   if ieq v1.Op 3=true then
    (idx p0.Regs v1.A).bind fun v11=>
    (idx p0.Regs v1.B).bind fun v12=>
    (pZ v1.N v11 v12).bind fun r13=>
    (idx p0.Regs v1.Dst).bind fun v14=>
    (setx p0.Regs v1.Dst r13).bind fun l15=>
    some (Flow.next (iadd .i64 p0.Pc 1,(⟨l15,p0.Pc⟩:gThread),p2,p3))
   else
    if ieq v1.Op 4=true then
     some (Flow.next (v1.N,p0,p2,p3))
    else
     if ieq v1.Op 5=true then
      (idx p0.Regs v1.A).bind fun v16=>
      if ieq v16 0=true then
       some (Flow.next (v1.N,p0,p2,p3))
      else
       some (Flow.next (iadd .i64 p0.Pc 1,p0,p2,p3))
     else
      if ieq v1.Op 6=true then
       (idx p2 v1.N).bind fun v18=>
       (idx p0.Regs v1.A).bind fun v19=>
       (oS v18 v19).bind fun r20=>
       (setx p2 v1.N r20.2).bind fun l21=>
       if bnot r20.1=true then
        (some (3,p0,l21,p3)).bind fun z=>some (Flow.done z)
       else
        some (Flow.next (iadd .i64 p0.Pc 1,p0,l21,p3))
      else
       if ieq v1.Op 7=true then
        (idx p2 v1.N).bind fun v22=>
        (pB v22).bind fun r23=>
        (setx p2 v1.N r23.2.2).bind fun l24=>
        if bnot r23.2.1=true then
         (some (3,p0,l24,p3)).bind fun z=>some (Flow.done z)
        else
         (idx p0.Regs v1.Dst).bind fun v25=>
         (setx p0.Regs v1.Dst r23.1).bind fun l26=>
         some (Flow.next (iadd .i64 p0.Pc 1,(⟨l26,p0.Pc⟩:gThread),l24,p3))
       else
        if ieq v1.Op 8=true then
         (some (2,(⟨p0.Regs,iadd .i64 p0.Pc 1⟩:gThread),p2,p3)).bind fun z=>some (Flow.done z)
        else
         if ieq v1.Op 9=true then
          (idx p0.Regs v1.A).bind fun v27=>
          (appx 8 p3 ([v27]:List Int)).bind fun l28=>
          some (Flow.next (iadd .i64 p0.Pc 1,p0,p2,l28))
         else
          if ieq v1.Op 10=true then
           (some (4,p0,p2,p3)).bind fun z=>some (Flow.done z)
          else
           some (Flow.next (iadd .i64 p0.Pc 1,p0,p2,p3))).bind fun flj1=>
 match flj1 with
 |.next j1=>
  some (1,(⟨j1.2.1.Regs,j1.1⟩:gThread),j1.2.2.1,j1.2.2.2)
 |.done z=>some z

def tX (p0:Int)(pf0:gCrew):Option (Int×gCrew):=
 (idx pf0.Threads p0).bind fun v3=>
 (idx pf0.Codes p0).bind fun v4=>
 (wJ v3 v4 pf0.Boxes pf0.Out).bind fun r5=>
 (setx pf0.Threads p0 r5.2.1).bind fun l6=>
 some (r5.1,(⟨pf0.Codes,l6,r5.2.2.1,pf0.Turn,pf0.Idle,r5.2.2.2⟩:gCrew))

def tB (p0:Int)(p1:Int)(p2:Int)(p3:Int):Option (Int×Int×Bool):=
 (if ilt p0 1=true then some true else some (igt p0 3)).bind fun g1=>
 (if g1=true then some true else some (ilt p1 0)).bind fun g2=>
 (if g2=true then some true else some (ige p1 p0)).bind fun g3=>
 (if g3=true then some true else some (ilt p2 0)).bind fun g4=>
 (if g4=true then some true else some (ige p2 p0)).bind fun g5=>
 if g5=true then
  some (0,0,false)
 else
  if ieq p3 1=true then
   some (p1,0,true)
  else
   if ieq p3 2=true then
    (remx (iadd .i64 p1 1) p0).bind fun v6=>
    some (v6,0,true)
   else
    (if ieq p3 3=true then
     some (ieq p3 3)
    else
     some (ieq p3 4)).bind fun j1=>
    if j1=true then
     (remx (iadd .i64 p1 1) p0).bind fun v8=>
     some (v8,iadd .i64 p2 1,true)
    else
     some (0,0,false)

def kM (p0:List Int):Option ((List Int)):=
 if false=true then
  some ([]:List Int)
 else
  (appx 8 ([]:List Int) p0).bind fun l1=>
  some l1

def qY (p0:List gBox)(s:Int×(List gBox)):Option (Flow (Int×(List gBox)) ((List gBox))):=
 match s with
 |(s1,s2)=>
 if ilt s1 (ilen p0)=true then
  (idx p0 s1).bind fun v4=>
  (kM v4.Items).bind fun r5=>
  (appx 32 s2 [(⟨v4.Room,r5⟩:gBox)]).bind fun l6=>
  some (.next (iadd .i64 s1 1,l6))
 else
  some (.done s2)

def vI (p0:List gBox):Option ((List gBox)):=
 (loopM (qY p0) (0,([]:List gBox))).bind fun e1=>
 match e1 with
 |y3=>
  some y3

def zV (p1:Int)(s:Int×Int×Int×gCrew):Option (Flow (Int×Int×Int×gCrew) (Sum (Int×Int×gCrew) (Int×Int×Bool×gCrew))):=
 match s with
 |(s1,s2,s3,s4)=>
 (if igt s1 0=true then some (ilt s3 p1) else some false).bind fun g8=>
 if g8=true then
  (tX s2 s4).bind fun r9=>
  (tB p1 s2 s3 r9.1).bind fun r10=>
  if bnot r10.2.2=true then
   some (.done (.inr (0,0,false,r9.2)))
  else
   some (.next (isub .i64 s1 1,r10.1,r10.2.1,r9.2))
 else
  some (.done (.inl (s2,s3,s4)))

def kL (p0:Int)(p1:Int)(p2:Int)(p3:Int)(p4_0:gCrew):Option (Int×Int×Bool×gCrew):=
 (loopM (zV p1) (p0,p2,p3,p4_0)).bind fun e1=>
 match e1 with
 |.inl (y5,y6,y7)=>
  some (y5,y6,true,y7)
 |.inr r0=>
  some r0

def uH (p0:gCrew)(s:Int×gCrew×gCrew):Option (Flow (Int×gCrew×gCrew) (gCrew×gCrew)):=
 match s with
 |(s7,s8,s9)=>
 if ilt s7 (ilen p0.Threads)=true then
  (idx p0.Threads s7).bind fun v12=>
  (kM v12.Regs).bind fun r13=>
  (appx 32 s9.Threads [(⟨r13,v12.Pc⟩:gThread)]).bind fun l14=>
  some (.next (iadd .i64 s7 1,s8,(⟨s9.Codes,l14,s9.Boxes,s9.Turn,s9.Idle,s9.Out⟩:gCrew)))
 else
  some (.done (s8,s9))

def pA (p0:gCrew)(p1:Int):Option (gCrew×Bool):=
 (vB p0).bind fun r1=>
 (if bnot r1=true then some true else some (ilt p1 0)).bind fun g2=>
 (if g2=true then some true else some (igt p1 100000)).bind fun g3=>
 if g3=true then
  some ((⟨([]:List (List gQuad)),([]:List gThread),([]:List gBox),0,0,([]:List Int)⟩:gCrew),false)
 else
  (wZ p0.Codes).bind fun r4=>
  (vI p0.Boxes).bind fun r5=>
  (kM p0.Out).bind fun r6=>
  (loopM (uH p0) (0,(⟨([]:List (List gQuad)),([]:List gThread),([]:List gBox),0,0,([]:List Int)⟩:gCrew),(⟨r4,([]:List gThread),r5,0,0,r6⟩:gCrew))).bind fun e1=>
  match e1 with
  |(y10,y11)=>
   (kL p1 (ilen y11.Threads) p0.Turn p0.Idle y11).bind fun r15=>
   some ((⟨r15.2.2.2.Codes,r15.2.2.2.Threads,r15.2.2.2.Boxes,r15.1,r15.2.1,r15.2.2.2.Out⟩:gCrew),true)

def gF (p0:List Int)(p1:(List (List gQuad)))(p2:Int):Option (gCrew):=
 (tY p0 p1).bind fun r1=>
 (pA r1.1 p2).bind fun r2=>
 (if bnot r1.2=true then some true else some (bnot r2.2)).bind fun g3=>
 if g3=true then
  some (⟨([]:List (List gQuad)),([]:List gThread),([]:List gBox),0,0,([]:List Int)⟩:gCrew)
 else
  some r2.1

def uX (p0:gQuad)(p1:Int):Option ((List Int)):=
 if ieq p0.Op 10=true then
  some ([]:List Int)
 else
  if ieq p0.Op 4=true then
   some ([p0.N]:List Int)
  else
   (if ieq p0.Op 5=true then some (ilt p0.N (iadd .i64 p1 1)) else some false).bind fun g1=>
   if g1=true then
    some ([p0.N,iadd .i64 p1 1]:List Int)
   else
    (if ieq p0.Op 5=true then some (igt p0.N (iadd .i64 p1 1)) else some false).bind fun g2=>
    if g2=true then
     some ([iadd .i64 p1 1,p0.N]:List Int)
    else
     some ([iadd .i64 p1 1]:List Int)

def vL (r12:List Int)(s:Int×(List Bool)×(List Int)):Option (Flow (Int×(List Bool)×(List Int)) ((List Bool)×(List Int))):=
 match s with
 |(s13,s14,s15)=>
 if ilt s13 (ilen r12)=true then
  (idx r12 s13).bind fun v18=>
  (idx s14 v18).bind fun v19=>
  if bnot v19=true then
   (setx s14 v18 true).bind fun l20=>
   (appx 8 s15 ([v18]:List Int)).bind fun l21=>
   some (.next (iadd .i64 s13 1,l20,l21))
  else
   some (.next (iadd .i64 s13 1,s14,s15))
 else
  some (.done (s14,s15))

def vM (p0:List gQuad)(s:(List Bool)×(List Int)):Option (Flow ((List Bool)×(List Int)) ((List Bool))):=
 match s with
 |(s6,s7)=>
 if igt (ilen s7) 0=true then
  (idx s7 (isub .i64 (ilen s7) 1)).bind fun v9=>
  (cutx s7 0 (isub .i64 (ilen s7) 1)).bind fun l10=>
  (idx p0 v9).bind fun v11=>
  (uX v11 v9).bind fun r12=>
  (loopM (vL r12) (0,s6,l10)).bind fun e1=>
  match e1 with
  |(y16,y17)=>
   some (.next (y16,y17))
 else
  some (.done s6)

def vD (p0:List gQuad):Option ((List Bool)):=
 (vC p0).bind fun r1=>
 if bnot r1=true then
  some ([]:List Bool)
 else
  (makex 1 (ilen p0) false).bind fun l2=>
  (idx l2 0).bind fun v3=>
  (setx l2 0 true).bind fun l4=>
  (some ([0]:List Int)).bind fun l5=>
  (loopM (vM p0) (l4,l5)).bind fun e2=>
  match e2 with
  |y8=>
   some y8

def jD (r2:(List Int)×(List (List gQuad)))(s:Int×gCrew):Option (Flow (Int×gCrew) (Sum (Unit) (Bool))):=
 match s with
 |(s12,s13)=>
 if ilt s12 (ilen r2.2)=true then
  (if ine (ilen s13.Threads) (ilen r2.2)=true then some true else(idx r2.2 s12).bind fun v14=>(vD v14).bind fun r15=>(idx s13.Threads s12).bind fun v16=>(idx r15 v16.Pc).bind fun v17=>some (bnot v17)).bind fun g18=>
  if g18=true then
   some (.done (.inr false))
  else
   some (.next (iadd .i64 s12 1,s13))
 else
  some (.done (.inl ()))

def sJ (p0:List Int)(p1:List Int):Option (Bool):=
 (if igt (ilen p0) 1048576=true then some true else some (igt (ilen p1) 1048576)).bind fun g1=>
 if g1=true then
  some true
 else
  (jJ p0).bind fun r2=>
  (tY r2.1 r2.2).bind fun r3=>
  (qP r2.1 r2.2).bind fun r4=>
  (if bneb r3.2 r4.2=true then some true else(xE r3.1 r4.1).bind fun r5=>some (bnot r5)).bind fun g6=>
  (if g6=true then some true else some (bnot r3.2)).bind fun g7=>
  if g7=true then
   (if beqb r3.2 r4.2=true then(xE r3.1 r4.1).bind fun r8=>some r8 else some false).bind fun g9=>
   some g9
  else
   (remx (ilen p1) 151).bind fun v10=>
   (gF r2.1 r2.2 v10).bind fun r11=>
   (loopM (jD r2) (0,r11)).bind fun e1=>
   match e1 with
   |.inl _=>
    some true
   |.inr r0=>
    some r0

def s_BoxPut (p0:gBox)(p1:Int):Option (gBox×Bool):=
 (wS p0).bind fun r1=>
 (if bnot r1=true then some true else(kU p1).bind fun r2=>some (bnot r2)).bind fun g3=>
 (if g3=true then some true else some (ige (ilen p0.Items) p0.Room)).bind fun g4=>
 if g4=true then
  some ((⟨0,([]:List Int)⟩:gBox),false)
 else
  (appx 8 ([]:List Int) p0.Items).bind fun l5=>
  (appx 8 l5 ([p1]:List Int)).bind fun l6=>
  some ((⟨p0.Room,l6⟩:gBox),true)

def s_BoxTake (p0:gBox):Option (gBox×Int×Bool):=
 (wS p0).bind fun r1=>
 (if bnot r1=true then some true else some (ieq (ilen p0.Items) 0)).bind fun g2=>
 if g2=true then
  some ((⟨0,([]:List Int)⟩:gBox),0,false)
 else
  (cutx p0.Items 1 (ilen p0.Items)).bind fun l3=>
  (appx 8 ([]:List Int) l3).bind fun l4=>
  (idx p0.Items 0).bind fun v5=>
  some ((⟨p0.Room,l4⟩:gBox),v5,true)

def s_NextTurn (p0:Int)(p1:Int)(p2:Int)(p3:Int):Option (Int×Int×Bool):=
 (yC p0 1 3).bind fun r1=>
 (if bnot r1=true then some true else(yC p1 0 (isub .i64 p0 1)).bind fun r2=>some (bnot r2)).bind fun g3=>
 (if g3=true then some true else(yC p2 0 (isub .i64 p0 1)).bind fun r4=>some (bnot r4)).bind fun g5=>
 if g5=true then
  some (0,0,false)
 else
  if ieq p3 1=true then
   some (p1,0,true)
  else
   if ieq p3 2=true then
    (remx (iadd .i64 p1 1) p0).bind fun v6=>
    some (v6,0,true)
   else
    (if ieq p3 3=true then
     some (ieq p3 3)
    else
     some (ieq p3 4)).bind fun j1=>
    if j1=true then
     (remx (iadd .i64 p1 1) p0).bind fun v8=>
     some (v8,iadd .i64 p2 1,true)
    else
     some (0,0,false)

end
end Go.Abs
