/- Words of the proof. -/
import Derived.Test.YtolmjhgondilhaaGreatNCM
set_option linter.unusedSimpArgs false
set_option linter.unusedVariables false
set_option maxRecDepth 20000
set_option maxHeartbeats 4000000
namespace Go.Abs
open Go

noncomputable def dN (p0:gQuad)(p1:Int):Option ((List Int)):=
 if ieq p0.Op 10=true then
  some ([]:List Int)
 else
  if ieq p0.Op 4=true then
   some ([p0.N]:List Int)
  else
   (if ieq p0.Op 5=true then some (ilt p0.N (iadd .i64 p1 1)) else some false).bind fun g1=>
   if g1=true then
    some ([p0.N,iadd .i64 p1 1]:List Int)
   else
    (if ieq p0.Op 5=true then some (igt p0.N (iadd .i64 p1 1)) else some false).bind fun g2=>
    if g2=true then
     some ([iadd .i64 p1 1,p0.N]:List Int)
    else
     some ([iadd .i64 p1 1]:List Int)

noncomputable def wY (p1:List Int)(r2:List Int)(s:Int×Int):Option (Flow (Int×Int) (Int)):=
 match s with
 |(s3,s4)=>
 if ilt s4 (ilen r2)=true then
  (idx r2 s4).bind fun v6=>
  (idx p1 v6).bind fun v7=>
  some (.next (ior .u16 s3 v7,iadd .i64 s4 1))
 else
  some (.done s3)

noncomputable def uT (p0:List gQuad)(p1:List Int)(p2:Int):Option (Int):=
 (idx p0 p2).bind fun v1=>
 (dN v1 p2).bind fun r2=>
 (loopM (wY p1 r2) (0,0)).bind fun e1=>
 match e1 with
 |y5=>
  some y5

noncomputable def dM (p0:gQuad):Option (Int):=
 (if ieq p0.Op 1=true then
  some (ieq p0.Op 1)
 else
  if ieq p0.Op 2=true then
   some (ieq p0.Op 2)
  else
   if ieq p0.Op 3=true then
    some (ieq p0.Op 3)
   else
    some (ieq p0.Op 7)).bind fun j1=>
 if j1=true then
  some p0.Dst
 else
  some (-1)

noncomputable def dL (p0:gQuad):Option (Int):=
 (if ieq p0.Op 2=true then
  some (ieq p0.Op 2)
 else
  if ieq p0.Op 5=true then
   some (ieq p0.Op 5)
  else
   if ieq p0.Op 6=true then
    some (ieq p0.Op 6)
   else
    some (ieq p0.Op 9)).bind fun j1=>
 if j1=true then
  (shlx .u16 1 p0.A).bind fun v2=>
  some v2
 else
  if ieq p0.Op 3=true then
   (shlx .u16 1 p0.A).bind fun v3=>
   (shlx .u16 1 p0.B).bind fun v4=>
   some (ior .u16 v3 v4)
  else
   some 0

noncomputable def wZ (p0:List gQuad)(s:Bool×Int×(List Int)):Option (Flow (Bool×Int×(List Int)) (Bool×(List Int))):=
 match s with
 |(s5,s6,s7)=>
 if ige s6 0=true then
  (uT p0 s7 s6).bind fun r10=>
  ((idx p0 s6).bind fun v16=>
  (dM v16).bind fun r17=>
  if ige r17 0=true then
   (shlx .u16 1 r17).bind fun v18=>
   some (iandNot .u16 r10 v18)
  else
   some r10).bind fun j1=>
  (idx p0 s6).bind fun v12=>
  (dL v12).bind fun r13=>
  (idx s7 s6).bind fun v14=>
  if ine (ior .u16 j1 r13) v14=true then
   (setx s7 s6 (ior .u16 j1 r13)).bind fun l15=>
   some (.next (true,isub .i64 s6 1,l15))
  else
   some (.next (s5,isub .i64 s6 1,s7))
 else
  some (.done (s5,s7))

noncomputable def sQ (p0:List gQuad)(s:Bool×(List Int)):Option (Flow (Bool×(List Int)) ((List Int))):=
 match s with
 |(s2,s3)=>
 if s2=true then
  (loopM (wZ p0) (false,isub .i64 (ilen p0) 1,s3)).bind fun e2=>
  match e2 with
  |(y8,y9)=>
   some (.next (y8,y9))
 else
  some (.done s3)

noncomputable def xW (p0:List gQuad):Option ((List Int)):=
 (makex 2 (ilen p0) 0).bind fun l1=>
 (loopM (sQ p0) (true,l1)).bind fun e3=>
 match e3 with
 |y4=>
  some y4

noncomputable def uS (p0:Int)(p1:Int):Option (Bool):=
 (shrx .u16 p0 p1).bind fun v1=>
 some (ieq (iand .u16 v1 1) 1)

noncomputable def yT (p0:Int)(l1:List Bool)(s:Int×(List Bool)):Option (Flow (Int×(List Bool)) ((List Bool))):=
 match s with
 |(s2,s3)=>
 if ilt s2 (ilen l1)=true then
  (uS p0 s2).bind fun r5=>
  (idx s3 s2).bind fun v6=>
  (setx s3 s2 r5).bind fun l7=>
  some (.next (iadd .i64 s2 1,l7))
 else
  some (.done s3)

noncomputable def xL (p0:Int):Option ((List Bool)):=
 (makex 1 12 false).bind fun l1=>
 (loopM (yT p0 l1) (0,l1)).bind fun e1=>
 match e1 with
 |y4=>
  some y4

noncomputable def sS (r2:List Int)(s:Int×(List (List Bool))):Option (Flow (Int×(List (List Bool))) ((List (List Bool)))):=
 match s with
 |(s3,s4)=>
 if ilt s3 (ilen r2)=true then
  (idx r2 s3).bind fun v6=>
  (xL v6).bind fun r7=>
  (appx 24 s4 ([r7]:List (List Bool))).bind fun l8=>
  some (.next (iadd .i64 s3 1,l8))
 else
  some (.done s4)

noncomputable def dP (p0:List gQuad):Option ((List (List Bool))):=
 (vP p0).bind fun r1=>
 if bnot r1=true then
  some ([]:List (List Bool))
 else
  (xW p0).bind fun r2=>
  (loopM (sS r2) (0,([]:List (List Bool)))).bind fun e1=>
  match e1 with
  |y5=>
   some y5

noncomputable def gE (p0:gCrew)(s:Int×gCrew×gCrew):Option (Flow (Int×gCrew×gCrew) (gCrew×gCrew)):=
 match s with
 |(s7,s8,s9)=>
 if ilt s7 (ilen p0.Threads)=true then
  (idx p0.Threads s7).bind fun v12=>
  (kB v12.Regs).bind fun r13=>
  (appx 32 s9.Threads [(⟨r13,v12.Pc⟩:gThread)]).bind fun l14=>
  some (.next (iadd .i64 s7 1,s8,(⟨s9.Codes,l14,s9.Boxes,s9.Turn,s9.Idle,s9.Out⟩:gCrew)))
 else
  some (.done (s8,s9))

noncomputable def gF (p0:gCrew)(p1:Int):Option (gCrew×Bool):=
 (jS p0).bind fun r1=>
 (if bnot r1=true then some true else some (ilt p1 0)).bind fun g2=>
 (if g2=true then some true else some (igt p1 100000)).bind fun g3=>
 if g3=true then
  some ((⟨([]:List (List gQuad)),([]:List gThread),([]:List gBox),0,0,([]:List Int)⟩:gCrew),false)
 else
  (xS p0.Codes).bind fun r4=>
  (jI p0.Boxes).bind fun r5=>
  (kB p0.Out).bind fun r6=>
  (loopM (gE p0) (0,(⟨([]:List (List gQuad)),([]:List gThread),([]:List gBox),0,0,([]:List Int)⟩:gCrew),(⟨r4,([]:List gThread),r5,0,0,r6⟩:gCrew))).bind fun e1=>
  match e1 with
  |(y10,y11)=>
   (kL p1 (ilen y11.Threads) p0.Turn p0.Idle y11).bind fun r15=>
   some ((⟨r15.2.2.2.Codes,r15.2.2.2.Threads,r15.2.2.2.Boxes,r15.1,r15.2.1,r15.2.2.2.Out⟩:gCrew),true)

noncomputable def gZ (p0:List Int)(p1:(List (List gQuad)))(p2:Int):Option (gCrew):=
 (vD p0 p1).bind fun r1=>
 (gF r1.1 p2).bind fun r2=>
 (if bnot r1.2=true then some true else some (bnot r2.2)).bind fun g3=>
 if g3=true then
  some (⟨([]:List (List gQuad)),([]:List gThread),([]:List gBox),0,0,([]:List Int)⟩:gCrew)
 else
  some r2.1

noncomputable def kT (p0:List gQuad):Option ((List gQuad)):=
 if false=true then
  some ([]:List gQuad)
 else
  (appx 40 ([]:List gQuad) p0).bind fun l1=>
  some l1

noncomputable def nJ (p0:(List (List gQuad)))(s:Int×(List (List gQuad))):Option (Flow (Int×(List (List gQuad))) ((List (List gQuad)))):=
 match s with
 |(s1,s2)=>
 if ilt s1 (ilen p0)=true then
  (idx p0 s1).bind fun v4=>
  (kT v4).bind fun r5=>
  (appx 24 s2 [r5]).bind fun l6=>
  some (.next (iadd .i64 s1 1,l6))
 else
  some (.done s2)

noncomputable def vW (p0:(List (List gQuad))):Option ((List (List gQuad))):=
 (loopM (nJ p0) (0,([]:List (List gQuad)))).bind fun e1=>
 match e1 with
 |y3=>
  some y3

noncomputable def jG (p0:gThread)(p1:List gQuad)(p2:List gBox)(p3:List Int):Option (Int×gThread×(List gQuad)×(List gBox)×(List Int)):=
 (idx p1 p0.Pc).bind fun v1=>
 (if ieq v1.Op 1=true then
  (idx p0.Regs v1.Dst).bind fun v6=>
  (setx p0.Regs v1.Dst v1.N).bind fun l7=>
  some (Flow.next (iadd .i64 p0.Pc 1,(⟨l7,p0.Pc⟩:gThread),p2,p3))
 else
  if ieq v1.Op 2=true then
   (idx p0.Regs v1.A).bind fun v8=>
   (idx p0.Regs v1.Dst).bind fun v9=>
   (setx p0.Regs v1.Dst v8).bind fun l10=>
   some (Flow.next (iadd .i64 p0.Pc 1,(⟨l10,p0.Pc⟩:gThread),p2,p3))
  else
   if ieq v1.Op 3=true then
    (idx p0.Regs v1.A).bind fun v11=>
    (idx p0.Regs v1.B).bind fun v12=>
    (pC v1.N v11 v12).bind fun r13=>
    (idx p0.Regs v1.Dst).bind fun v14=>
    (setx p0.Regs v1.Dst r13).bind fun l15=>
    some (Flow.next (iadd .i64 p0.Pc 1,(⟨l15,p0.Pc⟩:gThread),p2,p3))
   else
    if ieq v1.Op 4=true then
     some (Flow.next (v1.N,p0,p2,p3))
    else
     if ieq v1.Op 5=true then
      (idx p0.Regs v1.A).bind fun v16=>
      if ieq v16 0=true then
       some (Flow.next (v1.N,p0,p2,p3))
      else
       some (Flow.next (iadd .i64 p0.Pc 1,p0,p2,p3))
     else
      if ieq v1.Op 6=true then
       (idx p2 v1.N).bind fun v18=>
       (idx p0.Regs v1.A).bind fun v19=>
       (nO v18 v19).bind fun r20=>
       (setx p2 v1.N r20.2).bind fun l21=>
       if bnot r20.1=true then
        (some (3,p0,p1,l21,p3)).bind fun z=>some (Flow.done z)
       else
        some (Flow.next (iadd .i64 p0.Pc 1,p0,l21,p3))
      else
       if ieq v1.Op 7=true then
        (idx p2 v1.N).bind fun v22=>
        (tU v22).bind fun r23=>
        (setx p2 v1.N r23.2.2).bind fun l24=>
        if bnot r23.2.1=true then
         (some (3,p0,p1,l24,p3)).bind fun z=>some (Flow.done z)
        else
         (idx p0.Regs v1.Dst).bind fun v25=>
         (setx p0.Regs v1.Dst r23.1).bind fun l26=>
         some (Flow.next (iadd .i64 p0.Pc 1,(⟨l26,p0.Pc⟩:gThread),l24,p3))
       else
        if ieq v1.Op 8=true then
         (some (2,(⟨p0.Regs,iadd .i64 p0.Pc 1⟩:gThread),p1,p2,p3)).bind fun z=>some (Flow.done z)
        else
         if ieq v1.Op 9=true then
          (idx p0.Regs v1.A).bind fun v27=>
          (appx 8 p3 ([v27]:List Int)).bind fun l28=>
          some (Flow.next (iadd .i64 p0.Pc 1,p0,p2,l28))
         else
          if ieq v1.Op 10=true then
           (some (4,p0,p1,p2,p3)).bind fun z=>some (Flow.done z)
          else
           some (Flow.next (iadd .i64 p0.Pc 1,p0,p2,p3))).bind fun flj1=>
 match flj1 with
 |.next j1=>
  some (1,(⟨j1.2.1.Regs,j1.1⟩:gThread),p1,j1.2.2.1,j1.2.2.2)
 |.done z=>some z

noncomputable def yC (p0:Int)(pf0:gCrew):Option (Int×gCrew):=
 (idx pf0.Codes p0).bind fun v3=>
 (idx pf0.Threads p0).bind fun v5=>
 (jG v5 v3 pf0.Boxes pf0.Out).bind fun r6=>
 (setx pf0.Threads p0 r6.2.1).bind fun l7=>
 (setx pf0.Codes p0 r6.2.2.1).bind fun l8=>
 some (r6.1,(⟨l8,l7,r6.2.2.2.1,pf0.Turn,pf0.Idle,r6.2.2.2.2⟩:gCrew))

noncomputable def zV (p1:Int)(s:Int×Int×Int×gCrew):Option (Flow (Int×Int×Int×gCrew) (Sum (Int×Int×gCrew) (Int×Int×Bool×gCrew))):=
 match s with
 |(s1,s2,s3,s4)=>
 (if igt s1 0=true then some (ilt s3 p1) else some false).bind fun g8=>
 if g8=true then
  (yC s2 s4).bind fun r9=>
  (xX p1 s2 s3 r9.1).bind fun r10=>
  if bnot r10.2.2=true then
   some (.done (.inr (0,0,false,r9.2)))
  else
   some (.next (isub .i64 s1 1,r10.1,r10.2.1,r9.2))
 else
  some (.done (.inl (s2,s3,s4)))

noncomputable def kF (p0:Int)(p1:Int)(p2:Int)(p3:Int)(p4_0:gCrew):Option (Int×Int×Bool×gCrew):=
 (loopM (zV p1) (p0,p2,p3,p4_0)).bind fun e1=>
 match e1 with
 |.inl (y5,y6,y7)=>
  some (y5,y6,true,y7)
 |.inr r0=>
  some r0

noncomputable def jT (p0:gCrew)(s:Int×gCrew×gCrew):Option (Flow (Int×gCrew×gCrew) (gCrew×gCrew)):=
 match s with
 |(s7,s8,s9)=>
 if ilt s7 (ilen p0.Threads)=true then
  (idx p0.Threads s7).bind fun v12=>
  (kB v12.Regs).bind fun r13=>
  (appx 32 s9.Threads [(⟨r13,v12.Pc⟩:gThread)]).bind fun l14=>
  some (.next (iadd .i64 s7 1,s8,(⟨s9.Codes,l14,s9.Boxes,s9.Turn,s9.Idle,s9.Out⟩:gCrew)))
 else
  some (.done (s8,s9))

noncomputable def jU (p0:gCrew)(p1:Int):Option (gCrew×Bool):=
 (jS p0).bind fun r1=>
 (if bnot r1=true then some true else some (ilt p1 0)).bind fun g2=>
 (if g2=true then some true else some (igt p1 100000)).bind fun g3=>
 if g3=true then
  some ((⟨([]:List (List gQuad)),([]:List gThread),([]:List gBox),0,0,([]:List Int)⟩:gCrew),false)
 else
  (vW p0.Codes).bind fun r4=>
  (jI p0.Boxes).bind fun r5=>
  (kB p0.Out).bind fun r6=>
  (loopM (jT p0) (0,(⟨([]:List (List gQuad)),([]:List gThread),([]:List gBox),0,0,([]:List Int)⟩:gCrew),(⟨r4,([]:List gThread),r5,0,0,r6⟩:gCrew))).bind fun e1=>
  match e1 with
  |(y10,y11)=>
   (kF p1 (ilen y11.Threads) p0.Turn p0.Idle y11).bind fun r15=>
   some ((⟨r15.2.2.2.Codes,r15.2.2.2.Threads,r15.2.2.2.Boxes,r15.1,r15.2.1,r15.2.2.2.Out⟩:gCrew),true)

noncomputable def xD (v12:Int)(v18:List Bool)(s:Int×gCrew×gCrew):Option (Flow (Int×gCrew×gCrew) (gCrew×gCrew)):=
 match s with
 |(s20,s21,s22)=>
 if ilt s20 12=true then
  (idx v18 s20).bind fun v25=>
  if bnot v25=true then
   (idx s21.Threads v12).bind fun v26=>
   (idx v26.Regs s20).bind fun v27=>
   (fJ (iadd .i64 v27 17)).bind fun r28=>
   (setx v26.Regs s20 r28).bind fun l29=>
   (setx s21.Threads v12 (⟨l29,v26.Pc⟩:gThread)).bind fun l30=>
   some (.next (iadd .i64 s20 1,(⟨s21.Codes,l30,s21.Boxes,s21.Turn,s21.Idle,s21.Out⟩:gCrew),s22))
  else
   some (.next (iadd .i64 s20 1,s21,s22))
 else
  some (.done (s21,s22))

noncomputable def vV (p0:List Int)(p1:List Int):Option (Bool):=
 (if igt (ilen p0) 1048576=true then some true else some (igt (ilen p1) 1048576)).bind fun g1=>
 if g1=true then
  some true
 else
  (jB p0).bind fun r2=>
  (vD r2.1 r2.2).bind fun r3=>
  (sK r2.1 r2.2).bind fun r4=>
  (if bneb r3.2 r4.2=true then some true else(jH r3.1 r4.1).bind fun r5=>some (bnot r5)).bind fun g6=>
  (if g6=true then some true else some (bnot r3.2)).bind fun g7=>
  if g7=true then
   (if beqb r3.2 r4.2=true then(jH r3.1 r4.1).bind fun r8=>some r8 else some false).bind fun g9=>
   some g9
  else
   (remx (ilen p1) 40).bind fun v10=>
   (gZ r2.1 r2.2 v10).bind fun r11=>
   if ine (ilen r11.Threads) (ilen r2.2)=true then
    some false
   else
    (remx (ilen p1) (ilen r2.2)).bind fun v12=>
    (idx r2.2 v12).bind fun v15=>
    (dP v15).bind fun r16=>
    (idx r11.Threads v12).bind fun v17=>
    (idx r16 v17.Pc).bind fun v18=>
    (jU r11 60).bind fun r19=>
    (loopM (xD v12 v18) (0,r11,r19.1)).bind fun e1=>
    match e1 with
    |(y23,y24)=>
     (jU y23 60).bind fun r31=>
     (if r19.2=true then some r31.2 else some false).bind fun g40=>
     (if g40=true then(xC y24 r31.1).bind fun r41=>some r41 else some false).bind fun g42=>
     some g42


end Go.Abs
