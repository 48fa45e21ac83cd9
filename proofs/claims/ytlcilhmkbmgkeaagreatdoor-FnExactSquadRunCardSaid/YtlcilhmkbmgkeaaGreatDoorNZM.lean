/- Words of the proof: ZM. No conditions. -/
import Derived.Test.YtlcilhmkbmgkeaaGreatDoorNZR0
set_option linter.unusedSimpArgs false
set_option linter.unusedVariables false
set_option maxRecDepth 20000
set_option maxHeartbeats 4000000
namespace Go.Abs
open Go

noncomputable def l_szIntS (p0 : (List Int)) (p1 : Int) : Option (Int) :=
 if ilt (isub .i64 p1 (ilen p0)) 0 = true then
  some (-1)
 else
  some (isub .i64 p1 (ilen p0))

noncomputable def l_szMachine (p0 : gMachine) (p1 : Int) : Option (Int) :=
 (l_szIntS p0.Regs p1).bind fun r1 =>
 if ilt r1 0 = true then
  some (-1)
 else
  (l_szIntS p0.Mem r1).bind fun r2 =>
  if ilt r2 0 = true then
   some (-1)
  else
   some r2

noncomputable def l_szMachineS_L1 (p0 : (List gMachine)) (s : Int × Int) : Option (Flow (Int × Int) (Sum (Int) (Int))) :=
 match s with
 | (s1, s2) =>
 if ilt s2 (ilen p0) = true then
  (idx p0 s2).bind fun v4 =>
  (l_szMachine v4 s1).bind fun r5 =>
  if ilt r5 0 = true then
   some (.done (.inr (-1)))
  else
   some (.next (r5, iadd .i64 s2 1))
 else
  some (.done (.inl s1))

noncomputable def l_szMachineS (p0 : (List gMachine)) (p1 : Int) : Option (Int) :=
 if ilt (isub .i64 p1 (ilen p0)) 0 = true then
  some (-1)
 else
  (loopM (l_szMachineS_L1 p0) (isub .i64 p1 (ilen p0), 0)).bind fun e1 =>
  match e1 with
  | .inl y3 =>
   some y3
  | .inr r0 =>
   some r0

noncomputable def l_szBox (p0 : gBox) (p1 : Int) : Option (Int) :=
 (l_szIntS p0.Items p1).bind fun r1 =>
 if ilt r1 0 = true then
  some (-1)
 else
  some r1

noncomputable def l_szBoxS_L1 (p0 : (List gBox)) (s : Int × Int) : Option (Flow (Int × Int) (Sum (Int) (Int))) :=
 match s with
 | (s1, s2) =>
 if ilt s2 (ilen p0) = true then
  (idx p0 s2).bind fun v4 =>
  (l_szBox v4 s1).bind fun r5 =>
  if ilt r5 0 = true then
   some (.done (.inr (-1)))
  else
   some (.next (r5, iadd .i64 s2 1))
 else
  some (.done (.inl s1))

noncomputable def l_szBoxS (p0 : (List gBox)) (p1 : Int) : Option (Int) :=
 if ilt (isub .i64 p1 (ilen p0)) 0 = true then
  some (-1)
 else
  (loopM (l_szBoxS_L1 p0) (isub .i64 p1 (ilen p0), 0)).bind fun e1 =>
  match e1 with
  | .inl y3 =>
   some y3
  | .inr r0 =>
   some r0

noncomputable def l_szSquad (p0 : gSquad) (p1 : Int) : Option (Int) :=
 (l_szMachineS p0.Harts p1).bind fun r1 =>
 if ilt r1 0 = true then
  some (-1)
 else
  (l_szBoxS p0.Boxes r1).bind fun r2 =>
  if ilt r2 0 = true then
   some (-1)
  else
   (l_szIntS p0.Out r2).bind fun r3 =>
   if ilt r3 0 = true then
    some (-1)
   else
    some r3

noncomputable def l_toIntS_L1 (p0 : (List Int)) (s : Int × (List Int)) : Option (Flow (Int × (List Int)) ((List Int))) :=
 match s with
 | (s2, s3) =>
 if ilt s2 (ilen p0) = true then
  (idx p0 s2).bind fun v5 =>
  (idx s3 s2).bind fun v6 =>
  (setx s3 s2 v5).bind fun l7 =>
  some (.next (iadd .i64 s2 1, l7))
 else
  some (.done s3)

noncomputable def l_toIntS (p0 : (List Int)) : Option ((List Int)) :=
 (makex 8 (ilen p0) 0).bind fun l1 =>
 (loopM (l_toIntS_L1 p0) (0, l1)).bind fun e1 =>
 match e1 with
 | y4 =>
  some y4

noncomputable def l_toMachine (p0 : gMachine) : Option (gMachine) :=
 (l_toIntS p0.Regs).bind fun r1 =>
 (l_toIntS p0.Mem).bind fun r2 =>
 some (⟨r1, p0.Pc, r2⟩ : gMachine)

noncomputable def l_toMachineS_L1 (p0 : (List gMachine)) (s : Int × (List gMachine)) : Option (Flow (Int × (List gMachine)) ((List gMachine))) :=
 match s with
 | (s2, s3) =>
 if ilt s2 (ilen p0) = true then
  (idx p0 s2).bind fun v5 =>
  (l_toMachine v5).bind fun r6 =>
  (idx s3 s2).bind fun v7 =>
  (setx s3 s2 r6).bind fun l8 =>
  some (.next (iadd .i64 s2 1, l8))
 else
  some (.done s3)

noncomputable def l_toMachineS (p0 : (List gMachine)) : Option ((List gMachine)) :=
 (makex 56 (ilen p0) (⟨([] : List Int), 0, ([] : List Int)⟩ : gMachine)).bind fun l1 =>
 (loopM (l_toMachineS_L1 p0) (0, l1)).bind fun e1 =>
 match e1 with
 | y4 =>
  some y4

noncomputable def l_toBox (p0 : gBox) : Option (gBox) :=
 (l_toIntS p0.Items).bind fun r1 =>
 some (⟨p0.Room, r1⟩ : gBox)

noncomputable def l_toBoxS_L1 (p0 : (List gBox)) (s : Int × (List gBox)) : Option (Flow (Int × (List gBox)) ((List gBox))) :=
 match s with
 | (s2, s3) =>
 if ilt s2 (ilen p0) = true then
  (idx p0 s2).bind fun v5 =>
  (l_toBox v5).bind fun r6 =>
  (idx s3 s2).bind fun v7 =>
  (setx s3 s2 r6).bind fun l8 =>
  some (.next (iadd .i64 s2 1, l8))
 else
  some (.done s3)

noncomputable def l_toBoxS (p0 : (List gBox)) : Option ((List gBox)) :=
 (makex 32 (ilen p0) (⟨0, ([] : List Int)⟩ : gBox)).bind fun l1 =>
 (loopM (l_toBoxS_L1 p0) (0, l1)).bind fun e1 =>
 match e1 with
 | y4 =>
  some y4

noncomputable def l_toSquad (p0 : gSquad) : Option (gSquad) :=
 (l_toMachineS p0.Harts).bind fun r1 =>
 (l_toBoxS p0.Boxes).bind fun r2 =>
 (l_toIntS p0.Out).bind fun r3 =>
 some (⟨r1, r2, p0.Turn, p0.Idle, r3⟩ : gSquad)

noncomputable def s_l6In (p0 : Int) (p1 : Int) (p2 : Int) : Option (Bool) :=
 (if ige p0 p1 = true then some (ile p0 p2) else some false).bind fun g1 =>
 some g1

noncomputable def s_WordValid (p0 : Int) : Option (Bool) :=
 (s_l6In p0 (-2147483648) 2147483647).bind fun r1 =>
 some r1

noncomputable def s_l4Words_L1 (p0 : (List Int)) (s : Int) : Option (Flow (Int) (Sum (Unit) (Bool))) :=
 let s1 := s
 if ilt s1 (ilen p0) = true then
  (idx p0 s1).bind fun v2 =>
  (s_WordValid v2).bind fun r3 =>
  if bnot r3 = true then
   some (.done (.inr false))
  else
   some (.next (iadd .i64 s1 1))
 else
  some (.done (.inl ()))

noncomputable def s_l4Words (p0 : (List Int)) (p1 : Int) : Option (Bool) :=
 if ine (ilen p0) p1 = true then
  some false
 else
  (loopM (s_l4Words_L1 p0) 0).bind fun e1 =>
  match e1 with
  | .inl _ =>
   some true
  | .inr r0 =>
   some r0

noncomputable def s_BoxValid (p0 : gBox) : Option (Bool) :=
 (s_l6In p0.Room 1 4).bind fun r1 =>
 (if r1 = true then some (ile (ilen p0.Items) p0.Room) else some false).bind fun g2 =>
 (if g2 = true then (s_l4Words p0.Items (ilen p0.Items)).bind fun r3 => some r3 else some false).bind fun g4 =>
 some g4

noncomputable def s_l15Boxes_L1 (p0 : (List gBox)) (s : Int) : Option (Flow (Int) (Sum (Unit) (Bool))) :=
 let s1 := s
 if ilt s1 (ilen p0) = true then
  (idx p0 s1).bind fun v2 =>
  (s_BoxValid v2).bind fun r3 =>
  if bnot r3 = true then
   some (.done (.inr false))
  else
   some (.next (iadd .i64 s1 1))
 else
  some (.done (.inl ()))

noncomputable def s_l15Boxes (p0 : (List gBox)) : Option (Bool) :=
 (loopM (s_l15Boxes_L1 p0) 0).bind fun e1 =>
 match e1 with
 | .inl _ =>
  some (ile (ilen p0) 3)
 | .inr r0 =>
  some r0

noncomputable def s_MachineValid (p0 : gMachine) : Option (Bool) :=
 (s_l4Words p0.Regs 32).bind fun r1 =>
 (if r1 = true then (idx p0.Regs 0).bind fun v2 => some (ieq v2 0) else some false).bind fun g3 =>
 (if g3 = true then (s_WordValid p0.Pc).bind fun r4 => some r4 else some false).bind fun g5 =>
 (if g5 = true then some (ile (ilen p0.Mem) 10000) else some false).bind fun g6 =>
 (if g6 = true then (s_l4Words p0.Mem (ilen p0.Mem)).bind fun r7 => some r7 else some false).bind fun g8 =>
 some g8

noncomputable def s_l45Valid_L1 (p0 : gSquad) (s : Int) : Option (Flow (Int) (Sum (Unit) (Bool))) :=
 let s8 := s
 if ilt s8 (ilen p0.Harts) = true then
  (idx p0.Harts s8).bind fun v9 =>
  (s_MachineValid v9).bind fun r10 =>
  if bnot r10 = true then
   some (.done (.inr false))
  else
   some (.next (iadd .i64 s8 1))
 else
  some (.done (.inl ()))

noncomputable def s_l45Valid (p0 : gSquad) : Option (Bool) :=
 (s_l6In (ilen p0.Harts) 1 3).bind fun r1 =>
 (if bnot r1 = true then some true else (s_l15Boxes p0.Boxes).bind fun r2 => some (bnot r2)).bind fun g3 =>
 (if g3 = true then some true else (s_l6In p0.Turn 0 (isub .i64 (ilen p0.Harts) 1)).bind fun r4 => some (bnot r4)).bind fun g5 =>
 (if g5 = true then some true else (s_l6In p0.Idle 0 (ilen p0.Harts)).bind fun r6 => some (bnot r6)).bind fun g7 =>
 if g7 = true then
  some false
 else
  (loopM (s_l45Valid_L1 p0) 0).bind fun e1 =>
  match e1 with
  | .inl _ =>
   (s_l4Words p0.Out (ilen p0.Out)).bind fun r11 =>
   some r11
  | .inr r0 =>
   some r0

noncomputable def s_l15BoxesCopy_L1 (p0 : (List gBox)) (s : Int × (List gBox)) : Option (Flow (Int × (List gBox)) ((List gBox))) :=
 match s with
 | (s1, s2) =>
 if ilt s1 (ilen p0) = true then
  (idx p0 s1).bind fun v4 =>
  (appx 8 ([] : List Int) v4.Items).bind fun l5 =>
  (appx 32 s2 ([(⟨v4.Room, l5⟩ : gBox)] : List gBox)).bind fun l6 =>
  some (.next (iadd .i64 s1 1, l6))
 else
  some (.done s2)

noncomputable def s_l15BoxesCopy (p0 : (List gBox)) : Option ((List gBox)) :=
 (loopM (s_l15BoxesCopy_L1 p0) (0, ([] : List gBox))).bind fun e1 =>
 match e1 with
 | y3 =>
  some y3

noncomputable def s_l44Copy (p0 : gMachine) : Option (gMachine) :=
 (appx 8 ([] : List Int) p0.Regs).bind fun l1 =>
 (appx 8 ([] : List Int) p0.Mem).bind fun l2 =>
 some (⟨l1, p0.Pc, l2⟩ : gMachine)

noncomputable def s_l45Fits (p0 : gMachine) (p1 : Int) : Option (Bool) :=
 (idx p0.Regs 17).bind fun v1 =>
 (if ine p0.Pc 0 = true then some true else (s_l6In v1 1 5).bind fun r2 => some (bnot r2)).bind fun g3 =>
 if g3 = true then
  some false
 else
  (if ine v1 1 = true then some (ine v1 2) else some false).bind fun g4 =>
  (if g4 = true then some true else (idx p0.Regs 11).bind fun v5 => (s_l6In v5 0 (isub .i64 p1 1)).bind fun r6 => some r6).bind fun g7 =>
  some g7

noncomputable def s_BoxPut (p0 : gBox) (p1 : Int) : Option (gBox × Bool) :=
 (s_BoxValid p0).bind fun r1 =>
 (if bnot r1 = true then some true else (s_WordValid p1).bind fun r2 => some (bnot r2)).bind fun g3 =>
 (if g3 = true then some true else some (ige (ilen p0.Items) p0.Room)).bind fun g4 =>
 if g4 = true then
  some ((⟨0, ([] : List Int)⟩ : gBox), false)
 else
  (appx 8 ([] : List Int) p0.Items).bind fun l5 =>
  (appx 8 l5 ([p1] : List Int)).bind fun l6 =>
  some ((⟨p0.Room, l6⟩ : gBox), true)

noncomputable def s_BoxTake (p0 : gBox) : Option (gBox × Int × Bool) :=
 (s_BoxValid p0).bind fun r1 =>
 (if bnot r1 = true then some true else some (ieq (ilen p0.Items) 0)).bind fun g2 =>
 if g2 = true then
  some ((⟨0, ([] : List Int)⟩ : gBox), 0, false)
 else
  (cutx p0.Items 1 (ilen p0.Items)).bind fun l3 =>
  (appx 8 ([] : List Int) l3).bind fun l4 =>
  (idx p0.Items 0).bind fun v5 =>
  some ((⟨p0.Room, l4⟩ : gBox), v5, true)

noncomputable def s_l44Word (p0 : (List Int)) (p1 : Int) : Option (Bool) :=
 (if ige p1 0 = true then (remx p1 4).bind fun v1 => some (ieq v1 0) else some false).bind fun g2 =>
 (if g2 = true then (quox .i64 p1 4).bind fun v3 => some (ilt v3 (ilen p0)) else some false).bind fun g4 =>
 some g4

noncomputable def s_Unsigned (p0 : Int) : Option (Int) :=
 (s_WordValid p0).bind fun r1 =>
 if bnot r1 = true then
  some (-1)
 else
  if ilt p0 0 = true then
   some (iadd .i64 p0 4294967296)
  else
   some p0

noncomputable def s_l1Power_L1 (p0 : Int) (s : Int × Int) : Option (Flow (Int × Int) (Int)) :=
 match s with
 | (s1, s2) =>
 if ilt s2 p0 = true then
  some (.next (imul .i64 s1 2, iadd .i64 s2 1))
 else
  some (.done s1)

noncomputable def s_l1Power (p0 : Int) : Option (Int) :=
 (loopM (s_l1Power_L1 p0) (1, 0)).bind fun e1 =>
 match e1 with
 | y3 =>
  some y3

noncomputable def s_Bits (p0 : Int) (p1 : Int) (p2 : Int) : Option (Int) :=
 (s_l6In p0 0 4294967295).bind fun r1 =>
 (if bnot r1 = true then some true else (s_l6In p1 0 31).bind fun r2 => some (bnot r2)).bind fun g3 =>
 (if g3 = true then some true else (s_l6In p2 1 (isub .i64 32 p1)).bind fun r4 => some (bnot r4)).bind fun g5 =>
 if g5 = true then
  some 0
 else
  (s_l1Power p1).bind fun r6 =>
  (quox .i64 p0 r6).bind fun v7 =>
  (s_l1Power p2).bind fun r8 =>
  (remx v7 r8).bind fun v9 =>
  some v9

noncomputable def s_l42Three (p0 : Int) : Option (Int) :=
 (idx ([0, 0, 0, 4, 6, 7, 6, 4, 1, 5, 2, 0, 3, 2, 0, 2, 0, 1, 0, 0, 0] : List Int) (isub .i64 p0 1)).bind fun v1 =>
 some v1

noncomputable def s_l42Seven (p0 : Int) : Option (Int) :=
 (idx ([0, 32, 1, 1, 1, 0, 0, 0, 0, 32, 0] : List Int) (isub .i64 p0 1)).bind fun v1 =>
 some v1

noncomputable def s_l42Op_L1 (p0 : Int) (s : Int) : Option (Flow (Int) (Sum (Unit) (Int))) :=
 let s2 := s
 if ile s2 11 = true then
  (s_Bits p0 12 3).bind fun r3 =>
  (s_l42Three s2).bind fun r4 =>
  (if ieq r3 r4 = true then (s_Bits p0 25 7).bind fun r5 => (s_l42Seven s2).bind fun r6 => some (ieq r5 r6) else some false).bind fun g7 =>
  if g7 = true then
   some (.done (.inr s2))
  else
   some (.next (iadd .i64 s2 1))
 else
  some (.done (.inl ()))

noncomputable def s_l42Op (p0 : Int) : Option (Int) :=
 (s_Bits p0 0 7).bind fun r1 =>
 if ieq r1 51 = true then
  (loopM (s_l42Op_L1 p0) 1).bind fun e1 =>
  match e1 with
  | .inl _ =>
   some 0
  | .inr r0 =>
   some r0
 else
  if ieq r1 19 = true then
   (s_Bits p0 12 3).bind fun r8 =>
   if ieq r8 0 = true then
    some 12
   else
    some 13
  else
   if ieq r1 3 = true then
    some 14
   else
    if ieq r1 103 = true then
     some 15
    else
     if ieq r1 35 = true then
      some 16
     else
      if ieq r1 99 = true then
       (s_Bits p0 12 3).bind fun r9 =>
       if ieq r9 0 = true then
        some 17
       else
        some 18
      else
       if ieq r1 55 = true then
        some 19
       else
        if ieq r1 111 = true then
         some 20
        else
         if ieq r1 115 = true then
          some 21
         else
          some 0

noncomputable def s_SignExtend (p0 : Int) (p1 : Int) : Option (Int) :=
 (s_l6In p1 1 32).bind fun r1 =>
 (if bnot r1 = true then some true else (s_l1Power p1).bind fun r2 => (s_l6In p0 0 (isub .i64 r2 1)).bind fun r3 => some (bnot r3)).bind fun g4 =>
 if g4 = true then
  some 0
 else
  (s_l1Power (isub .i64 p1 1)).bind fun r5 =>
  if ige p0 r5 = true then
   (s_l1Power p1).bind fun r6 =>
   some (isub .i64 p0 r6)
  else
   some p0

noncomputable def s_l42Fields (p0 : Int) (p1 : Int) : Option (gInstr) :=
 (s_Bits p1 7 5).bind fun r1 =>
 (s_Bits p1 15 5).bind fun r2 =>
 (s_Bits p1 20 5).bind fun r3 =>
 if ile p0 11 = true then
  some (⟨p0, r1, r2, r3, 0⟩ : gInstr)
 else
  if ile p0 15 = true then
   (s_Bits p1 20 12).bind fun r4 =>
   (s_SignExtend r4 12).bind fun r5 =>
   some (⟨p0, r1, r2, 0, r5⟩ : gInstr)
  else
   if ieq p0 16 = true then
    (s_Bits p1 25 7).bind fun r6 =>
    (s_SignExtend (iadd .i64 (imul .i64 r6 32) r1) 12).bind fun r7 =>
    some (⟨p0, 0, r2, r3, r7⟩ : gInstr)
   else
    (if ieq p0 17 = true then some true else some (ieq p0 18)).bind fun g8 =>
    if g8 = true then
     (s_Bits p1 31 1).bind fun r9 =>
     (s_Bits p1 7 1).bind fun r10 =>
     (s_Bits p1 25 6).bind fun r11 =>
     (s_Bits p1 8 4).bind fun r12 =>
     (s_SignExtend (iadd .i64 (iadd .i64 (iadd .i64 (imul .i64 r9 4096) (imul .i64 r10 2048)) (imul .i64 r11 32)) (imul .i64 r12 2)) 13).bind fun r13 =>
     some (⟨p0, 0, r2, r3, r13⟩ : gInstr)
    else
     if ieq p0 19 = true then
      (s_Bits p1 12 20).bind fun r14 =>
      some (⟨p0, r1, 0, 0, r14⟩ : gInstr)
     else
      if ieq p0 20 = true then
       (s_Bits p1 31 1).bind fun r15 =>
       (s_Bits p1 12 8).bind fun r16 =>
       (s_Bits p1 20 1).bind fun r17 =>
       (s_Bits p1 21 10).bind fun r18 =>
       (s_SignExtend (iadd .i64 (iadd .i64 (iadd .i64 (imul .i64 r15 1048576) (imul .i64 r16 4096)) (imul .i64 r17 2048)) (imul .i64 r18 2)) 21).bind fun r19 =>
       some (⟨p0, r1, 0, 0, r19⟩ : gInstr)
      else
       some (⟨p0, 0, 0, 0, 0⟩ : gInstr)

noncomputable def s_l42Mod (p0 : Int) (p1 : Int) : Option (Int) :=
 if ilt p0 0 = true then
  some (iadd .i64 p0 p1)
 else
  some p0

noncomputable def s_l42Put (p0 : Int) (p1 : Int) : Option (Int) :=
 (s_l1Power p1).bind fun r1 =>
 some (imul .i64 p0 r1)

noncomputable def s_l42Mid (p0 : gInstr) (p1 : Int) : Option (Int) :=
 (s_l42Put p0.Rs 15).bind fun r1 =>
 (s_l42Three p0.Op).bind fun r2 =>
 (s_l42Put r2 12).bind fun r3 =>
 some (iadd .i64 (iadd .i64 r1 r3) p1)

noncomputable def s_l42Imm (p0 : gInstr) (p1 : Int) : Option (Int) :=
 (s_l42Mod p0.Imm 4096).bind fun r1 =>
 (s_l42Put r1 20).bind fun r2 =>
 (s_l42Mid p0 p1).bind fun r3 =>
 (s_l42Put p0.Rd 7).bind fun r4 =>
 some (iadd .i64 (iadd .i64 r2 r3) r4)

noncomputable def s_l42Branch (p0 : gInstr) : Option (Int) :=
 (s_l42Mod p0.Imm 8192).bind fun r1 =>
 (s_Bits r1 12 1).bind fun r2 =>
 (s_l42Put r2 31).bind fun r3 =>
 (s_Bits r1 5 6).bind fun r4 =>
 (s_l42Put r4 25).bind fun r5 =>
 (s_l42Put p0.Rt 20).bind fun r6 =>
 (s_l42Mid p0 99).bind fun r7 =>
 (s_Bits r1 1 4).bind fun r8 =>
 (s_l42Put r8 8).bind fun r9 =>
 (s_Bits r1 11 1).bind fun r10 =>
 (s_l42Put r10 7).bind fun r11 =>
 some (iadd .i64 (iadd .i64 (iadd .i64 (iadd .i64 (iadd .i64 r3 r5) r6) r7) r9) r11)

noncomputable def s_l42Jump (p0 : gInstr) : Option (Int) :=
 (s_l42Mod p0.Imm 2097152).bind fun r1 =>
 (s_Bits r1 20 1).bind fun r2 =>
 (s_l42Put r2 31).bind fun r3 =>
 (s_Bits r1 1 10).bind fun r4 =>
 (s_l42Put r4 21).bind fun r5 =>
 (s_Bits r1 11 1).bind fun r6 =>
 (s_l42Put r6 20).bind fun r7 =>
 (s_Bits r1 12 8).bind fun r8 =>
 (s_l42Put r8 12).bind fun r9 =>
 (s_l42Put p0.Rd 7).bind fun r10 =>
 some (iadd .i64 (iadd .i64 (iadd .i64 (iadd .i64 (iadd .i64 r3 r5) r7) r9) r10) 111)

noncomputable def s_l42Encode (p0 : gInstr) : Option (Int) :=
 (if ieq p0.Op 12 = true then
  some (ieq p0.Op 12)
 else
  some (ieq p0.Op 13)).bind fun j1 =>
 if j1 = true then
  (s_l42Imm p0 19).bind fun r2 =>
  some r2
 else
  if ieq p0.Op 14 = true then
   (s_l42Imm p0 3).bind fun r3 =>
   some r3
  else
   if ieq p0.Op 15 = true then
    (s_l42Imm p0 103).bind fun r4 =>
    some r4
   else
    if ieq p0.Op 16 = true then
     (s_l42Mod p0.Imm 4096).bind fun r5 =>
     (s_Bits r5 5 7).bind fun r6 =>
     (s_l42Put r6 25).bind fun r7 =>
     (s_l42Put p0.Rt 20).bind fun r8 =>
     (s_l42Mid p0 35).bind fun r9 =>
     (s_Bits r5 0 5).bind fun r10 =>
     (s_l42Put r10 7).bind fun r11 =>
     some (iadd .i64 (iadd .i64 (iadd .i64 r7 r8) r9) r11)
    else
     (if ieq p0.Op 17 = true then
      some (ieq p0.Op 17)
     else
      some (ieq p0.Op 18)).bind fun j2 =>
     if j2 = true then
      (s_l42Branch p0).bind fun r13 =>
      some r13
     else
      if ieq p0.Op 19 = true then
       (s_l42Put p0.Imm 12).bind fun r14 =>
       (s_l42Put p0.Rd 7).bind fun r15 =>
       some (iadd .i64 (iadd .i64 r14 r15) 55)
      else
       if ieq p0.Op 20 = true then
        (s_l42Jump p0).bind fun r16 =>
        some r16
       else
        if ieq p0.Op 21 = true then
         some 115
        else
         (s_l42Seven p0.Op).bind fun r17 =>
         (s_l42Put r17 25).bind fun r18 =>
         (s_l42Put p0.Rt 20).bind fun r19 =>
         (s_l42Mid p0 51).bind fun r20 =>
         (s_l42Put p0.Rd 7).bind fun r21 =>
         some (iadd .i64 (iadd .i64 (iadd .i64 r18 r19) r20) r21)

noncomputable def s_InstrDecode (p0 : Int) : Option (gInstr × Bool) :=
 (s_l6In p0 0 4294967295).bind fun r1 =>
 (if bnot r1 = true then some true else (s_l42Op p0).bind fun r2 => some (ieq r2 0)).bind fun g3 =>
 if g3 = true then
  some ((⟨0, 0, 0, 0, 0⟩ : gInstr), false)
 else
  (s_l42Op p0).bind fun r4 =>
  (s_l42Fields r4 p0).bind fun r5 =>
  (s_l42Encode r5).bind fun r6 =>
  if ine r6 p0 = true then
   some ((⟨0, 0, 0, 0, 0⟩ : gInstr), false)
  else
   some (r5, true)

noncomputable def s_Wrap (p0 : Int) : Option (Int) :=
 (remx p0 4294967296).bind fun v1 =>
 if igt v1 2147483647 = true then
  some (isub .i64 v1 4294967296)
 else
  if ilt v1 (-2147483648) = true then
   some (iadd .i64 v1 4294967296)
  else
   some v1

noncomputable def s_l44Set_moo (p0 : gMachine) (p1 : Int) (p2 : Int) : Option (gMachine) :=
 if ine p1 0 = true then
  (idx p0.Regs p1).bind fun v1 =>
  (setx p0.Regs p1 p2).bind fun l2 =>
  some (⟨l2, p0.Pc, p0.Mem⟩ : gMachine)
 else
  some p0

noncomputable def s_l44Set_c0_2_moo (p0 : gMachine) (p1 : Int) (p2 : Int) : Option (gMachine) :=
 if ine p1 0 = true then
  (idx p0.Regs p1).bind fun v1 =>
  (setx p0.Regs p1 p2).bind fun l2 =>
  some (⟨l2, p0.Pc, p0.Mem⟩ : gMachine)
 else
  some p0

noncomputable def s_l44Load (p0 : gMachine) (p1 : gInstr) : Option (Bool × gMachine) :=
 (idx p0.Regs p1.Rs).bind fun v1 =>
 (s_Wrap (iadd .i64 v1 p1.Imm)).bind fun r2 =>
 (s_l44Word p0.Mem r2).bind fun r3 =>
 if bnot r3 = true then
  some (false, p0)
 else
  (if ieq p1.Op 14 = true then
   (quox .i64 r2 4).bind fun v5 =>
   (idx p0.Mem v5).bind fun v6 =>
   (s_l44Set_c0_2_moo p0 p1.Rd v6).bind fun r7 =>
   some r7
  else
   (quox .i64 r2 4).bind fun v9 =>
   (idx p0.Regs p1.Rt).bind fun v10 =>
   (idx p0.Mem v9).bind fun v11 =>
   (setx p0.Mem v9 v10).bind fun l12 =>
   some (⟨p0.Regs, p0.Pc, l12⟩ : gMachine)).bind fun j1 =>
  some (true, (⟨j1.Regs, iadd .i64 j1.Pc 4, j1.Mem⟩ : gMachine))

noncomputable def s_l44Jump_moo (p0 : gMachine) (p1 : gInstr) : Option (gMachine) :=
 (s_Wrap (iadd .i64 p0.Pc 4)).bind fun r1 =>
 (idx p0.Regs p1.Rs).bind fun v2 =>
 (idx p0.Regs p1.Rt).bind fun v3 =>
 if ieq p1.Op 15 = true then
  (s_Wrap (iadd .i64 v2 p1.Imm)).bind fun r4 =>
  (s_l44Set_moo p0 p1.Rd r1).bind fun r5 =>
  some (⟨r5.Regs, isub .i64 r4 (iand .i64 r4 1), r5.Mem⟩ : gMachine)
 else
  if ieq p1.Op 20 = true then
   (s_l44Set_moo p0 p1.Rd r1).bind fun r6 =>
   (s_Wrap (iadd .i64 r6.Pc p1.Imm)).bind fun r7 =>
   some (⟨r6.Regs, r7, r6.Mem⟩ : gMachine)
  else
   if beqb (ieq v2 v3) (ieq p1.Op 17) = true then
    (s_Wrap (iadd .i64 p0.Pc p1.Imm)).bind fun r8 =>
    some (⟨p0.Regs, r8, p0.Mem⟩ : gMachine)
   else
    some (⟨p0.Regs, r1, p0.Mem⟩ : gMachine)

noncomputable def s_l2Flag (p0 : Bool) : Option (Int) :=
 if p0 = true then
  some 1
 else
  some 0

noncomputable def s_OpValid (p0 : Int) : Option (Bool) :=
 (s_l6In p0 1 12).bind fun r1 =>
 some r1

noncomputable def s_l2Shift (p0 : Int) (p1 : Int) (p2 : Bool) : Option (Int) :=
 if p2 = true then
  (shrx .i64 p0 (iand .i64 p1 31)).bind fun v1 =>
  some v1
 else
  (shlx .i64 p0 (iand .i64 p1 31)).bind fun v2 =>
  (s_Wrap v2).bind fun r3 =>
  some r3

noncomputable def s_l2Divide (p0 : Int) (p1 : Int) : Option (Int) :=
 if ieq p1 0 = true then
  some (-1)
 else
  (quox .i64 p0 p1).bind fun v1 =>
  (s_Wrap v1).bind fun r2 =>
  some r2

noncomputable def s_l2Remain (p0 : Int) (p1 : Int) : Option (Int) :=
 if ieq p1 0 = true then
  some p0
 else
  (remx p0 p1).bind fun v1 =>
  some v1

noncomputable def s_Apply (p0 : Int) (p1 : Int) (p2 : Int) : Option (Int × Bool) :=
 (s_OpValid p0).bind fun r1 =>
 (if bnot r1 = true then some true else (s_WordValid p1).bind fun r2 => some (bnot r2)).bind fun g3 =>
 (if g3 = true then some true else (s_WordValid p2).bind fun r4 => some (bnot r4)).bind fun g5 =>
 if g5 = true then
  some (0, false)
 else
  if ieq p0 1 = true then
   some (ior .i64 p1 p2, true)
  else
   if ieq p0 2 = true then
    some (ixor .i64 p1 p2, true)
   else
    if ieq p0 3 = true then
     some (iand .i64 p1 p2, true)
    else
     if ieq p0 4 = true then
      (s_l2Flag (ieq p1 p2)).bind fun r6 =>
      some (r6, true)
     else
      if ieq p0 5 = true then
       (s_l2Flag (ilt p1 p2)).bind fun r7 =>
       some (r7, true)
      else
       if ieq p0 6 = true then
        (s_l2Shift p1 p2 false).bind fun r8 =>
        some (r8, true)
       else
        if ieq p0 7 = true then
         (s_l2Shift p1 p2 true).bind fun r9 =>
         some (r9, true)
        else
         if ieq p0 8 = true then
          (s_Wrap (iadd .i64 p1 p2)).bind fun r10 =>
          some (r10, true)
         else
          if ieq p0 9 = true then
           (s_Wrap (isub .i64 p1 p2)).bind fun r11 =>
           some (r11, true)
          else
           if ieq p0 10 = true then
            (s_Wrap (imul .i64 p1 p2)).bind fun r12 =>
            some (r12, true)
           else
            if ieq p0 11 = true then
             (s_l2Divide p1 p2).bind fun r13 =>
             some (r13, true)
            else
             (s_l2Remain p1 p2).bind fun r14 =>
             some (r14, true)

noncomputable def s_l44Alu (p0 : Int) (p1 : Int) (p2 : Int) : Option (Int) :=
 (idx ([8, 9, 10, 11, 12, 3, 1, 2, 6, 7, 5] : List Int) (isub .i64 p0 1)).bind fun v1 =>
 (s_Apply v1 p1 p2).bind fun r2 =>
 some r2.1

noncomputable def s_l44Set_c0_0_moo (p0 : gMachine) (p1 : Int) (p2 : Int) : Option (gMachine) :=
 if ine p1 0 = true then
  (idx p0.Regs p1).bind fun v1 =>
  (setx p0.Regs p1 p2).bind fun l2 =>
  some (⟨l2, p0.Pc, p0.Mem⟩ : gMachine)
 else
  some p0

noncomputable def s_l44Do (p0 : gMachine) (p1 : gInstr) : Option (Bool × gMachine) :=
 (idx p0.Regs p1.Rs).bind fun v1 =>
 ((if ieq p1.Op 14 = true then
  some (ieq p1.Op 14)
 else
  some (ieq p1.Op 16)).bind fun j2 =>
 if j2 = true then
  (s_l44Load p0 p1).bind fun r4 =>
  (some (r4.1, r4.2)).bind fun z => some (Flow.done z)
 else
  (if ieq p1.Op 15 = true then
   some (ieq p1.Op 15)
  else
   if ieq p1.Op 20 = true then
    some (ieq p1.Op 20)
   else
    if ieq p1.Op 17 = true then
     some (ieq p1.Op 17)
    else
     some (ieq p1.Op 18)).bind fun j3 =>
  if j3 = true then
   (s_l44Jump_moo p0 p1).bind fun r6 =>
   (some (true, r6)).bind fun z => some (Flow.done z)
  else
   if ieq p1.Op 12 = true then
    (s_Wrap (iadd .i64 v1 p1.Imm)).bind fun r7 =>
    (s_l44Set_moo p0 p1.Rd r7).bind fun r8 =>
    some (Flow.next r8)
   else
    if ieq p1.Op 13 = true then
     (s_Unsigned v1).bind fun r9 =>
     (s_Unsigned p1.Imm).bind fun r10 =>
     (s_l2Flag (ilt r9 r10)).bind fun r11 =>
     (s_l44Set_moo p0 p1.Rd r11).bind fun r12 =>
     some (Flow.next r12)
    else
     if ieq p1.Op 19 = true then
      (s_Wrap (imul .i64 p1.Imm 4096)).bind fun r13 =>
      (s_l44Set_moo p0 p1.Rd r13).bind fun r14 =>
      some (Flow.next r14)
     else
      (idx p0.Regs p1.Rt).bind fun v15 =>
      (s_l44Alu p1.Op v1 v15).bind fun r16 =>
      (s_l44Set_c0_0_moo p0 p1.Rd r16).bind fun r17 =>
      some (Flow.next r17)).bind fun flj1 =>
 match flj1 with
 | .next j1 =>
  some (true, (⟨j1.Regs, iadd .i64 j1.Pc 4, j1.Mem⟩ : gMachine))
 | .done z => some z

noncomputable def s_l44Step (p0 : gMachine) : Option (Int × gMachine) :=
 (s_l44Word p0.Mem p0.Pc).bind fun r1 =>
 if bnot r1 = true then
  some (3, p0)
 else
  (quox .i64 p0.Pc 4).bind fun v2 =>
  (idx p0.Mem v2).bind fun v3 =>
  (s_Unsigned v3).bind fun r4 =>
  (s_InstrDecode r4).bind fun r5 =>
  if bnot r5.2 = true then
   some (3, p0)
  else
   if ieq r5.1.Op 21 = true then
    some (2, p0)
   else
    (s_l44Do p0 r5.1).bind fun r6 =>
    if bnot r6.1 = true then
     some (3, r6.2)
    else
     some (1, r6.2)

noncomputable def s_l45Talk_moo (p0 : gMachine) (p1 : (List gBox)) : Option (Int × gMachine × (List gBox)) :=
 (idx p0.Regs 11).bind fun v1 =>
 (idx p0.Regs 17).bind fun v2 =>
 if ieq v2 1 = true then
  (idx p1 v1).bind fun v4 =>
  (idx p0.Regs 10).bind fun v5 =>
  (s_BoxPut v4 v5).bind fun r6 =>
  if bnot r6.2 = true then
   some (3, p0, p1)
  else
   (setx p1 v1 r6.1).bind fun l7 =>
   (idx p0.Regs 1).bind fun v8 =>
   some (1, (⟨p0.Regs, v8, p0.Mem⟩ : gMachine), l7)
 else
  (idx p1 v1).bind fun v9 =>
  (s_BoxTake v9).bind fun r10 =>
  if bnot r10.2.2 = true then
   some (3, p0, p1)
  else
   (setx p1 v1 r10.1).bind fun l11 =>
   (idx p0.Regs 10).bind fun v12 =>
   (setx p0.Regs 10 r10.2.1).bind fun l13 =>
   (idx l13 1).bind fun v14 =>
   some (1, (⟨l13, v14, p0.Mem⟩ : gMachine), l11)

noncomputable def s_l45Call_moo (p0 : gMachine) (p1 : (List gBox)) : Option ((List Int) × Int × gMachine × (List gBox)) :=
 (idx p0.Regs 17).bind fun v1 =>
 (if ieq v1 1 = true then
  some (ieq v1 1)
 else
  some (ieq v1 2)).bind fun j1 =>
 if j1 = true then
  (s_l45Talk_moo p0 p1).bind fun r3 =>
  some (([] : List Int), r3.1, r3.2.1, r3.2.2)
 else
  if ieq v1 5 = true then
   some (([] : List Int), 4, p0, p1)
  else
   (idx p0.Regs 1).bind fun v4 =>
   if ieq v1 4 = true then
    (idx p0.Regs 10).bind fun v5 =>
    some (([v5] : List Int), 1, (⟨p0.Regs, v4, p0.Mem⟩ : gMachine), p1)
   else
    some (([] : List Int), 2, (⟨p0.Regs, v4, p0.Mem⟩ : gMachine), p1)

noncomputable def s_NextTurn (p0 : Int) (p1 : Int) (p2 : Int) (p3 : Int) : Option (Int × Int × Bool) :=
 (s_l6In p0 1 3).bind fun r1 =>
 (if bnot r1 = true then some true else (s_l6In p1 0 (isub .i64 p0 1)).bind fun r2 => some (bnot r2)).bind fun g3 =>
 (if g3 = true then some true else (s_l6In p2 0 (isub .i64 p0 1)).bind fun r4 => some (bnot r4)).bind fun g5 =>
 if g5 = true then
  some (0, 0, false)
 else
  if ieq p3 1 = true then
   some (p1, 0, true)
  else
   if ieq p3 2 = true then
    (remx (iadd .i64 p1 1) p0).bind fun v6 =>
    some (v6, 0, true)
   else
    (if ieq p3 3 = true then
     some (ieq p3 3)
    else
     some (ieq p3 4)).bind fun j1 =>
    if j1 = true then
     (remx (iadd .i64 p1 1) p0).bind fun v8 =>
     some (v8, iadd .i64 p2 1, true)
    else
     some (0, 0, false)

noncomputable def s_l45Step (p0 : gSquad) : Option (Bool × gSquad) :=
 (idx p0.Harts p0.Turn).bind fun v1 =>
 (if ieq v1.Pc 0 = true then
  (s_l45Fits v1 (ilen p0.Boxes)).bind fun r5 =>
  if bnot r5 = true then
   (some (false, p0)).bind fun z => some (Flow.done z)
  else
   (s_l45Call_moo v1 p0.Boxes).bind fun r6 =>
   (setx p0.Harts p0.Turn r6.2.2.1).bind fun l7 =>
   (appx 8 p0.Out r6.1).bind fun l8 =>
   some (Flow.next (r6.2.1, (⟨l7, r6.2.2.2, p0.Turn, p0.Idle, l8⟩ : gSquad)))
 else
  (s_l44Step v1).bind fun r9 =>
  (setx p0.Harts p0.Turn r9.2).bind fun l10 =>
  if ine r9.1 1 = true then
   (some (false, (⟨l10, p0.Boxes, p0.Turn, p0.Idle, p0.Out⟩ : gSquad))).bind fun z => some (Flow.done z)
  else
   some (Flow.next (1, (⟨l10, p0.Boxes, p0.Turn, p0.Idle, p0.Out⟩ : gSquad)))).bind fun flj1 =>
 match flj1 with
 | .next j1 =>
  (s_NextTurn (ilen j1.2.Harts) j1.2.Turn j1.2.Idle j1.1).bind fun r4 =>
  some (true, (⟨j1.2.Harts, j1.2.Boxes, r4.1, r4.2.1, j1.2.Out⟩ : gSquad))
 | .done z => some z

noncomputable def s_l44Copy_o2 (p0 : gMachine) : Option (gMachine) :=
 (appx 8 ([] : List Int) p0.Regs).bind fun l1 =>
 (appx 8 ([] : List Int) p0.Mem).bind fun l2 =>
 some (⟨l1, p0.Pc, l2⟩ : gMachine)

noncomputable def s_l15BoxesCopy_o_L1 (p0 : (List gBox)) (s : Int × (List gBox)) : Option (Flow (Int × (List gBox)) ((List gBox))) :=
 match s with
 | (s1, s2) =>
 if ilt s1 (ilen p0) = true then
  (idx p0 s1).bind fun v4 =>
  (appx 8 ([] : List Int) v4.Items).bind fun l5 =>
  (appx 32 s2 ([(⟨v4.Room, l5⟩ : gBox)] : List gBox)).bind fun l6 =>
  some (.next (iadd .i64 s1 1, l6))
 else
  some (.done s2)

noncomputable def s_l15BoxesCopy_o (p0 : (List gBox)) : Option ((List gBox)) :=
 (loopM (s_l15BoxesCopy_o_L1 p0) (0, ([] : List gBox))).bind fun e1 =>
 match e1 with
 | y3 =>
  some y3

noncomputable def s_l45Copy_o5_L1 (p0 : gSquad) (s : Int × gSquad × gSquad) : Option (Flow (Int × gSquad × gSquad) (gSquad × gSquad)) :=
 match s with
 | (s4, s5, s6) =>
 if ilt s4 (ilen p0.Harts) = true then
  (idx p0.Harts s4).bind fun v9 =>
  (s_l44Copy_o2 v9).bind fun r10 =>
  (appx 56 s6.Harts [r10]).bind fun l11 =>
  some (.next (iadd .i64 s4 1, s5, (⟨l11, s6.Boxes, s6.Turn, s6.Idle, s6.Out⟩ : gSquad)))
 else
  some (.done (s5, s6))

noncomputable def s_l45Copy_o5 (p0 : gSquad) : Option (gSquad) :=
 (s_l15BoxesCopy_o p0.Boxes).bind fun r1 =>
 (appx 8 ([] : List Int) p0.Out).bind fun l2 =>
 (some ([] : List gMachine)).bind fun l3 =>
 (loopM (s_l45Copy_o5_L1 p0) (0, (⟨([] : List gMachine), ([] : List gBox), 0, 0, ([] : List Int)⟩ : gSquad), (⟨l3, r1, p0.Turn, p0.Idle, l2⟩ : gSquad))).bind fun e1 =>
 match e1 with
 | (y7, y8) =>
  some y8

noncomputable def s_SquadRun_L1 (p1 : Int) (s : Int × gSquad × gSquad) : Option (Flow (Int × gSquad × gSquad) (Sum (gSquad × gSquad) (gSquad × Bool))) :=
 match s with
 | (s5, s6, s7) =>
 (if ilt s5 p1 = true then some (ilt s7.Idle (ilen s7.Harts)) else some false).bind fun g10 =>
 if g10 = true then
  (s_l45Step s7).bind fun r11 =>
  if bnot r11.1 = true then
   some (.done (.inr ((⟨([] : List gMachine), ([] : List gBox), 0, 0, ([] : List Int)⟩ : gSquad), false)))
  else
   some (.next (iadd .i64 s5 1, s6, r11.2))
 else
  some (.done (.inl (s6, s7)))

noncomputable def s_SquadRun (p0 : gSquad) (p1 : Int) : Option (gSquad × Bool) :=
 (s_l45Valid p0).bind fun r1 =>
 (if bnot r1 = true then some true else (s_l6In p1 0 1000000).bind fun r2 => some (bnot r2)).bind fun g3 =>
 if g3 = true then
  some ((⟨([] : List gMachine), ([] : List gBox), 0, 0, ([] : List Int)⟩ : gSquad), false)
 else
  (s_l45Copy_o5 p0).bind fun r4 =>
  (loopM (s_SquadRun_L1 p1) (0, (⟨([] : List gMachine), ([] : List gBox), 0, 0, ([] : List Int)⟩ : gSquad), r4)).bind fun e1 =>
  match e1 with
  | .inl (y8, y9) =>
   some (y9, true)
  | .inr r0 =>
   some r0

noncomputable def i_WordValid (p0 : Int) : Option (Bool) :=
 (if ige p0 (-2147483648) = true then some (ile p0 2147483647) else some false).bind fun g1 =>
 some g1

noncomputable def i_areWords_L1 (p0 : (List Int)) (s : Int) : Option (Flow (Int) (Sum (Unit) (Bool))) :=
 let s1 := s
 if ilt s1 (ilen p0) = true then
  (idx p0 s1).bind fun v2 =>
  (i_WordValid v2).bind fun r3 =>
  if bnot r3 = true then
   some (.done (.inr false))
  else
   some (.next (iadd .i64 s1 1))
 else
  some (.done (.inl ()))

noncomputable def i_areWords (p0 : (List Int)) : Option (Bool) :=
 (loopM (i_areWords_L1 p0) 0).bind fun e1 =>
 match e1 with
 | .inl _ =>
  some true
 | .inr r0 =>
  some r0

noncomputable def i_turnsValid (p0 : Int) (p1 : Int) (p2 : Int) (p3 : (List Int)) : Option (Bool) :=
 (if ige p0 1 = true then some (ile p0 3) else some false).bind fun g1 =>
 (if g1 = true then some (ige p1 0) else some false).bind fun g2 =>
 (if g2 = true then some (ilt p1 p0) else some false).bind fun g3 =>
 (if g3 = true then some (ige p2 0) else some false).bind fun g4 =>
 (if g4 = true then some (ile p2 p0) else some false).bind fun g5 =>
 (if g5 = true then (i_areWords p3).bind fun r6 => some r6 else some false).bind fun g7 =>
 some g7

noncomputable def i_BoxValid (p0 : gBox) : Option (Bool) :=
 (if ige p0.Room 1 = true then some (ile p0.Room 4) else some false).bind fun g1 =>
 (if g1 = true then some (ile (ilen p0.Items) p0.Room) else some false).bind fun g2 =>
 (if g2 = true then (i_areWords p0.Items).bind fun r3 => some r3 else some false).bind fun g4 =>
 some g4

noncomputable def i_boxesValid_L1 (p0 : (List gBox)) (s : Int) : Option (Flow (Int) (Sum (Unit) (Bool))) :=
 let s1 := s
 if ilt s1 (ilen p0) = true then
  (idx p0 s1).bind fun v2 =>
  (i_BoxValid v2).bind fun r3 =>
  if bnot r3 = true then
   some (.done (.inr false))
  else
   some (.next (iadd .i64 s1 1))
 else
  some (.done (.inl ()))

noncomputable def i_boxesValid (p0 : (List gBox)) : Option (Bool) :=
 (loopM (i_boxesValid_L1 p0) 0).bind fun e1 =>
 match e1 with
 | .inl _ =>
  some (ile (ilen p0) 3)
 | .inr r0 =>
  some r0

noncomputable def i_MachineValid (p0 : gMachine) : Option (Bool) :=
 (if ieq (ilen p0.Regs) 32 = true then (i_areWords p0.Regs).bind fun r1 => some r1 else some false).bind fun g2 =>
 (if g2 = true then (idx p0.Regs 0).bind fun v3 => some (ieq v3 0) else some false).bind fun g4 =>
 (if g4 = true then (i_WordValid p0.Pc).bind fun r5 => some r5 else some false).bind fun g6 =>
 (if g6 = true then some (ile (ilen p0.Mem) 10000) else some false).bind fun g7 =>
 (if g7 = true then (i_areWords p0.Mem).bind fun r8 => some r8 else some false).bind fun g9 =>
 some g9

noncomputable def i_squadValid_1 (p0 : gMachine) : Option (Bool) :=
 (i_MachineValid p0).bind fun r1 =>
 some (bnot r1)

noncomputable def slices_IndexFunc_impl_Machine_impl_Machine_i_squadValid_1_L1 (p0 : (List gMachine)) (s : Int) : Option (Flow (Int) (Sum (Unit) (Int))) :=
 let s1 := s
 if ilt s1 (ilen p0) = true then
  (idx p0 s1).bind fun v2 =>
  (i_squadValid_1 v2).bind fun r3 =>
  if r3 = true then
   some (.done (.inr s1))
  else
   some (.next (iadd .i64 s1 1))
 else
  some (.done (.inl ()))

noncomputable def slices_IndexFunc_impl_Machine_impl_Machine_i_squadValid_1 (p0 : (List gMachine)) : Option (Int) :=
 (loopM (slices_IndexFunc_impl_Machine_impl_Machine_i_squadValid_1_L1 p0) 0).bind fun e1 =>
 match e1 with
 | .inl _ =>
  some (-1)
 | .inr r0 =>
  some r0

noncomputable def slices_ContainsFunc_impl_Machine_impl_Machine_i_squadValid_1 (p0 : (List gMachine)) : Option (Bool) :=
 (slices_IndexFunc_impl_Machine_impl_Machine_i_squadValid_1 p0).bind fun r1 =>
 some (ige r1 0)

noncomputable def i_squadValid (p0 : gSquad) : Option (Bool) :=
 (i_turnsValid (ilen p0.Harts) p0.Turn p0.Idle p0.Out).bind fun r1 =>
 (if r1 = true then (i_boxesValid p0.Boxes).bind fun r2 => some r2 else some false).bind fun g3 =>
 (if g3 = true then (slices_ContainsFunc_impl_Machine_impl_Machine_i_squadValid_1 p0.Harts).bind fun r4 => some (bnot r4) else some false).bind fun g5 =>
 some g5

noncomputable def slices_Clone_int_int (p0 : (List Int)) : Option ((List Int)) :=
 if false = true then
  some ([] : List Int)
 else
  (appx 8 ([] : List Int) p0).bind fun l1 =>
  some l1

noncomputable def i_boxesCopy_L1 (p0 : (List gBox)) (s : Int × (List gBox)) : Option (Flow (Int × (List gBox)) ((List gBox))) :=
 match s with
 | (s1, s2) =>
 if ilt s1 (ilen p0) = true then
  (idx p0 s1).bind fun v4 =>
  (slices_Clone_int_int v4.Items).bind fun r5 =>
  (appx 32 s2 ([(⟨v4.Room, r5⟩ : gBox)] : List gBox)).bind fun l6 =>
  some (.next (iadd .i64 s1 1, l6))
 else
  some (.done s2)

noncomputable def i_boxesCopy (p0 : (List gBox)) : Option ((List gBox)) :=
 (loopM (i_boxesCopy_L1 p0) (0, ([] : List gBox))).bind fun e1 =>
 match e1 with
 | y3 =>
  some y3

noncomputable def i_machineCopy (p0 : gMachine) : Option (gMachine) :=
 (slices_Clone_int_int p0.Regs).bind fun r1 =>
 (slices_Clone_int_int p0.Mem).bind fun r2 =>
 some (⟨r1, p0.Pc, r2⟩ : gMachine)

noncomputable def i_Box_put (p0 : gBox) (p1 : Int) : Option (Bool × gBox) :=
 if ieq (ilen p0.Items) p0.Room = true then
  some (false, p0)
 else
  (appx 8 p0.Items ([p1] : List Int)).bind fun l1 =>
  some (true, (⟨p0.Room, l1⟩ : gBox))

noncomputable def i_Box_take (p0 : gBox) : Option (Int × Bool × gBox) :=
 if ieq (ilen p0.Items) 0 = true then
  some (0, false, p0)
 else
  (idx p0.Items 0).bind fun v1 =>
  (cutx p0.Items 0 0).bind fun l2 =>
  (cutx p0.Items 1 (ilen p0.Items)).bind fun l3 =>
  (appx 8 l2 l3).bind fun l4 =>
  some (v1, true, (⟨p0.Room, l4⟩ : gBox))

noncomputable def i_Unsigned (p0 : Int) : Option (Int) :=
 (i_WordValid p0).bind fun r1 =>
 if bnot r1 = true then
  some (-1)
 else
  some (iconv .i64 (iconv .u32 p0))

noncomputable def i_isUnsigned (p0 : Int) : Option (Bool) :=
 (if ige p0 0 = true then some (ilt p0 4294967296) else some false).bind fun g1 =>
 some g1

noncomputable def i_formatOf (p0 : Int) : Option (Int) :=
 (if ige p0 1 = true then some (ile p0 11) else some false).bind fun g1 =>
 if g1 = true then
  some 82
 else
  (if ige p0 12 = true then some (ile p0 15) else some false).bind fun g2 =>
  if g2 = true then
   some 73
  else
   if ieq p0 16 = true then
    some 83
   else
    (if ieq p0 17 = true then some true else some (ieq p0 18)).bind fun g3 =>
    if g3 = true then
     some 66
    else
     if ieq p0 19 = true then
      some 85
     else
      if ieq p0 20 = true then
       some 74
      else
       if ieq p0 21 = true then
        some 69
       else
        some 32

noncomputable def i_Bits (p0 : Int) (p1 : Int) (p2 : Int) : Option (Int) :=
 (i_isUnsigned p0).bind fun r1 =>
 (if bnot r1 = true then some true else some (ilt p1 0)).bind fun g2 =>
 (if g2 = true then some true else some (igt p1 31)).bind fun g3 =>
 (if g3 = true then some true else some (ilt p2 1)).bind fun g4 =>
 (if g4 = true then some true else some (igt p2 (isub .i64 32 p1))).bind fun g5 =>
 if g5 = true then
  some 0
 else
  (shrx .i64 p0 p1).bind fun v6 =>
  (shlx .i64 1 p2).bind fun v7 =>
  some (iand .i64 v6 (isub .i64 v7 1))

noncomputable def i_instrRow_matches (p0 : gInstrRow) (p1 : Int) (p2 : Int) : Option (Bool) :=
 if ine p0.opcode (iand .i64 p2 127) = true then
  some false
 else
  (i_formatOf p1).bind fun r1 =>
  if ieq r1 82 = true then
   (i_Bits p2 12 3).bind fun r2 =>
   (if ieq p0.funct3 r2 = true then (i_Bits p2 25 7).bind fun r3 => some (ieq p0.funct7 r3) else some false).bind fun g4 =>
   some g4
  else
   (if ieq r1 73 = true then
    some (ieq r1 73)
   else
    if ieq r1 83 = true then
     some (ieq r1 83)
    else
     some (ieq r1 66)).bind fun j1 =>
   if j1 = true then
    (i_Bits p2 12 3).bind fun r6 =>
    some (ieq p0.funct3 r6)
   else
    some true

noncomputable def i_SignExtend (p0 : Int) (p1 : Int) : Option (Int) :=
 (if ilt p1 1 = true then some true else some (igt p1 32)).bind fun g1 =>
 (if g1 = true then some true else some (ilt p0 0)).bind fun g2 =>
 (if g2 = true then some true else (shlx .i64 1 p1).bind fun v3 => some (ige p0 v3)).bind fun g4 =>
 if g4 = true then
  some 0
 else
  (shlx .i64 1 (isub .i64 p1 1)).bind fun v5 =>
  if ige p0 v5 = true then
   (shlx .i64 1 p1).bind fun v6 =>
   some (isub .i64 p0 v6)
  else
   some p0

noncomputable def i_decodeAs (p0 : Int) (p1 : Int) : Option (gInstr) :=
 (i_Bits p1 7 5).bind fun r1 =>
 (i_Bits p1 15 5).bind fun r2 =>
 (i_Bits p1 20 5).bind fun r3 =>
 (i_formatOf p0).bind fun r4 =>
 if ieq r4 82 = true then
  some (⟨p0, r1, r2, r3, 0⟩ : gInstr)
 else
  if ieq r4 73 = true then
   (i_Bits p1 20 12).bind fun r5 =>
   (i_SignExtend r5 12).bind fun r6 =>
   some (⟨p0, r1, r2, 0, r6⟩ : gInstr)
  else
   if ieq r4 83 = true then
    (i_Bits p1 25 7).bind fun r7 =>
    (shlx .i64 r7 5).bind fun v8 =>
    (i_SignExtend (ior .i64 v8 r1) 12).bind fun r9 =>
    some (⟨p0, 0, r2, r3, r9⟩ : gInstr)
   else
    if ieq r4 66 = true then
     (i_Bits p1 31 1).bind fun r10 =>
     (shlx .i64 r10 12).bind fun v11 =>
     (i_Bits p1 7 1).bind fun r12 =>
     (shlx .i64 r12 11).bind fun v13 =>
     (i_Bits p1 25 6).bind fun r14 =>
     (shlx .i64 r14 5).bind fun v15 =>
     (i_Bits p1 8 4).bind fun r16 =>
     (shlx .i64 r16 1).bind fun v17 =>
     (i_SignExtend (ior .i64 (ior .i64 (ior .i64 v11 v13) v15) v17) 13).bind fun r18 =>
     some (⟨p0, 0, r2, r3, r18⟩ : gInstr)
    else
     if ieq r4 85 = true then
      (i_Bits p1 12 20).bind fun r19 =>
      some (⟨p0, r1, 0, 0, r19⟩ : gInstr)
     else
      if ieq r4 74 = true then
       (i_Bits p1 31 1).bind fun r20 =>
       (shlx .i64 r20 20).bind fun v21 =>
       (i_Bits p1 12 8).bind fun r22 =>
       (shlx .i64 r22 12).bind fun v23 =>
       (i_Bits p1 20 1).bind fun r24 =>
       (shlx .i64 r24 11).bind fun v25 =>
       (i_Bits p1 21 10).bind fun r26 =>
       (shlx .i64 r26 1).bind fun v27 =>
       (i_SignExtend (ior .i64 (ior .i64 (ior .i64 v21 v23) v25) v27) 21).bind fun r28 =>
       some (⟨p0, r1, 0, 0, r28⟩ : gInstr)
      else
       some (⟨p0, 0, 0, 0, 0⟩ : gInstr)

noncomputable def i_isMachineReg (p0 : Int) : Option (Bool) :=
 (if ige p0 0 = true then some (ilt p0 32) else some false).bind fun g1 =>
 some g1

noncomputable def i_InstrValid (p0 : gInstr) : Option (Bool) :=
 (i_isMachineReg p0.Rd).bind fun r1 =>
 (i_isMachineReg p0.Rs).bind fun r2 =>
 (i_isMachineReg p0.Rt).bind fun r3 =>
 (if ige p0.Imm (-2048) = true then some (ile p0.Imm 2047) else some false).bind fun g4 =>
 (i_formatOf p0.Op).bind fun r5 =>
 if ieq r5 82 = true then
  (if r1 = true then some r2 else some false).bind fun g6 =>
  (if g6 = true then some r3 else some false).bind fun g7 =>
  (if g7 = true then some (ieq p0.Imm 0) else some false).bind fun g8 =>
  some g8
 else
  if ieq r5 73 = true then
   (if r1 = true then some r2 else some false).bind fun g9 =>
   (if g9 = true then some (ieq p0.Rt 0) else some false).bind fun g10 =>
   (if g10 = true then some g4 else some false).bind fun g11 =>
   some g11
  else
   if ieq r5 83 = true then
    (if ieq p0.Rd 0 = true then some r2 else some false).bind fun g12 =>
    (if g12 = true then some r3 else some false).bind fun g13 =>
    (if g13 = true then some g4 else some false).bind fun g14 =>
    some g14
   else
    if ieq r5 66 = true then
     (if ieq p0.Rd 0 = true then some r2 else some false).bind fun g15 =>
     (if g15 = true then some r3 else some false).bind fun g16 =>
     (if g16 = true then some (ige p0.Imm (-4096)) else some false).bind fun g17 =>
     (if g17 = true then some (ile p0.Imm 4094) else some false).bind fun g18 =>
     (if g18 = true then (remx p0.Imm 2).bind fun v19 => some (ieq v19 0) else some false).bind fun g20 =>
     some g20
    else
     if ieq r5 85 = true then
      (if r1 = true then some (ieq p0.Rs 0) else some false).bind fun g21 =>
      (if g21 = true then some (ieq p0.Rt 0) else some false).bind fun g22 =>
      (if g22 = true then some (ige p0.Imm 0) else some false).bind fun g23 =>
      (if g23 = true then some (ile p0.Imm 1048575) else some false).bind fun g24 =>
      some g24
     else
      if ieq r5 74 = true then
       (if r1 = true then some (ieq p0.Rs 0) else some false).bind fun g25 =>
       (if g25 = true then some (ieq p0.Rt 0) else some false).bind fun g26 =>
       (if g26 = true then some (ige p0.Imm (-1048576)) else some false).bind fun g27 =>
       (if g27 = true then some (ile p0.Imm 1048574) else some false).bind fun g28 =>
       (if g28 = true then (remx p0.Imm 2).bind fun v29 => some (ieq v29 0) else some false).bind fun g30 =>
       some g30
      else
       if ieq r5 69 = true then
        some (eqD p0 (⟨21, 0, 0, 0, 0⟩ : gInstr))
       else
        some false

noncomputable def i_InstrEncode_1 (p0 : Int) (p1 : Int) (p2 : Int) (pf0 : Int) : Option (Int) :=
 (i_Bits pf0 p0 p1).bind fun r1 =>
 (shlx .i64 r1 p2).bind fun v2 =>
 some v2

noncomputable def i_InstrEncode (p0 : gInstr) : Option (Int × Bool) :=
 (i_InstrValid p0).bind fun r1 =>
 if bnot r1 = true then
  some (0, false)
 else
  (idx (instrTab : List gInstrRow) (isub .i64 p0.Op 1)).bind fun v2 =>
  (i_Unsigned p0.Imm).bind fun r3 =>
  (shlx .i64 p0.Rt 20).bind fun v4 =>
  (shlx .i64 p0.Rs 15).bind fun v5 =>
  (shlx .i64 v2.funct3 12).bind fun v6 =>
  (i_formatOf p0.Op).bind fun r7 =>
  if ieq r7 82 = true then
   (shlx .i64 v2.funct7 25).bind fun v8 =>
   (shlx .i64 p0.Rd 7).bind fun v9 =>
   some (ior .i64 (ior .i64 v8 (ior .i64 (ior .i64 (ior .i64 v4 v5) v6) v2.opcode)) v9, true)
  else
   if ieq r7 73 = true then
    (shlx .i64 p0.Rd 7).bind fun v10 =>
    (i_InstrEncode_1 0 12 20 r3).bind fun r11 =>
    some (ior .i64 (ior .i64 r11 (ior .i64 (ior .i64 (ior .i64 v4 v5) v6) v2.opcode)) v10, true)
   else
    if ieq r7 83 = true then
     (i_InstrEncode_1 5 7 25 r3).bind fun r12 =>
     (i_InstrEncode_1 0 5 7 r3).bind fun r13 =>
     some (ior .i64 (ior .i64 r12 (ior .i64 (ior .i64 (ior .i64 v4 v5) v6) v2.opcode)) r13, true)
    else
     if ieq r7 66 = true then
      (i_InstrEncode_1 12 1 31 r3).bind fun r14 =>
      (i_InstrEncode_1 5 6 25 r3).bind fun r15 =>
      (i_InstrEncode_1 1 4 8 r3).bind fun r16 =>
      (i_InstrEncode_1 11 1 7 r3).bind fun r17 =>
      some (ior .i64 (ior .i64 (ior .i64 (ior .i64 r14 r15) (ior .i64 (ior .i64 (ior .i64 v4 v5) v6) v2.opcode)) r16) r17, true)
     else
      if ieq r7 85 = true then
       (shlx .i64 p0.Rd 7).bind fun v18 =>
       (i_InstrEncode_1 0 20 12 r3).bind fun r19 =>
       some (ior .i64 (ior .i64 r19 v18) v2.opcode, true)
      else
       if ieq r7 74 = true then
        (shlx .i64 p0.Rd 7).bind fun v20 =>
        (i_InstrEncode_1 20 1 31 r3).bind fun r21 =>
        (i_InstrEncode_1 1 10 21 r3).bind fun r22 =>
        (i_InstrEncode_1 11 1 20 r3).bind fun r23 =>
        (i_InstrEncode_1 12 8 12 r3).bind fun r24 =>
        some (ior .i64 (ior .i64 (ior .i64 (ior .i64 (ior .i64 r21 r22) r23) r24) v20) v2.opcode, true)
       else
        some (v2.opcode, true)

noncomputable def i_InstrDecode_L1 (p0 : Int) (s : Int × gInstr) : Option (Flow (Int × gInstr) (Sum (gInstr) (gInstr × Bool))) :=
 match s with
 | (s2, s3) =>
 if ile s2 21 = true then
  (idx (instrTab : List gInstrRow) (isub .i64 s2 1)).bind fun v5 =>
  (i_instrRow_matches v5 s2 p0).bind fun r6 =>
  if bnot r6 = true then
   some (.next (iadd .i64 s2 1, s3))
  else
   (i_decodeAs s2 p0).bind fun r7 =>
   (i_InstrEncode r7).bind fun r8 =>
   (if r8.2 = true then some (ieq r8.1 p0) else some false).bind fun g9 =>
   if g9 = true then
    some (.done (.inr (r7, true)))
   else
    some (.next (iadd .i64 s2 1, s3))
 else
  some (.done (.inl s3))

noncomputable def i_InstrDecode (p0 : Int) : Option (gInstr × Bool) :=
 (i_isUnsigned p0).bind fun r1 =>
 if bnot r1 = true then
  some ((⟨0, 0, 0, 0, 0⟩ : gInstr), false)
 else
  (loopM (i_InstrDecode_L1 p0) (1, (⟨0, 0, 0, 0, 0⟩ : gInstr))).bind fun e1 =>
  match e1 with
  | .inl y4 =>
   some ((⟨0, 0, 0, 0, 0⟩ : gInstr), false)
  | .inr r0 =>
   some r0

noncomputable def i_Wrap (p0 : Int) : Option (Int) :=
 some (iconv .i64 (iconv .i32 p0))

noncomputable def i_Machine_word_c0_2_moo (p0 : gMachine) (p1 : Int) : Option (Option Int) :=
 (if ilt p1 0 = true then some true else (remx p1 4).bind fun v1 => some (ine v1 0)).bind fun g2 =>
 (if g2 = true then some true else (quox .i64 p1 4).bind fun v3 => some (ige v3 (ilen p0.Mem))).bind fun g4 =>
 if g4 = true then
  some none
 else
  (quox .i64 p1 4).bind fun v5 =>
  (idx p0.Mem v5).bind fun v6 =>
  some (some v5)

noncomputable def i_Machine_set_moo (p0 : gMachine) (p1 : Int) (p2 : Int) : Option (gMachine) :=
 if ine p1 0 = true then
  (idx p0.Regs p1).bind fun v1 =>
  (setx p0.Regs p1 p2).bind fun l2 =>
  some (⟨l2, p0.Pc, p0.Mem⟩ : gMachine)
 else
  some p0

noncomputable def i_truth (p0 : Bool) : Option (Int) :=
 if p0 = true then
  some 1
 else
  some 0

noncomputable def i_Machine_set_c0_2_moo (p0 : gMachine) (p1 : Int) (p2 : Int) : Option (gMachine) :=
 if ine p1 0 = true then
  (idx p0.Regs p1).bind fun v1 =>
  (setx p0.Regs p1 p2).bind fun l2 =>
  some (⟨l2, p0.Pc, p0.Mem⟩ : gMachine)
 else
  some p0

noncomputable def i_apply (p0 : Int) (p1 : Int) (p2 : Int) : Option (Int) :=
 if ieq p0 1 = true then
  some (ior .i64 p1 p2)
 else
  if ieq p0 2 = true then
   some (ixor .i64 p1 p2)
  else
   if ieq p0 3 = true then
    some (iand .i64 p1 p2)
   else
    if ieq p0 4 = true then
     (i_truth (ieq p1 p2)).bind fun r1 =>
     some r1
    else
     if ieq p0 5 = true then
      (i_truth (ilt p1 p2)).bind fun r2 =>
      some r2
     else
      if ieq p0 6 = true then
       (shlx .i64 p1 (iand .i64 p2 31)).bind fun v3 =>
       (i_Wrap v3).bind fun r4 =>
       some r4
      else
       if ieq p0 7 = true then
        (shrx .i64 p1 (iand .i64 p2 31)).bind fun v5 =>
        some v5
       else
        if ieq p0 8 = true then
         (i_Wrap (iadd .i64 p1 p2)).bind fun r6 =>
         some r6
        else
         if ieq p0 9 = true then
          (i_Wrap (isub .i64 p1 p2)).bind fun r7 =>
          some r7
         else
          if ieq p0 10 = true then
           (i_Wrap (imul .i64 p1 p2)).bind fun r8 =>
           some r8
          else
           if ieq p0 11 = true then
            if ieq p2 0 = true then
             some (-1)
            else
             (quox .i64 p1 p2).bind fun v9 =>
             (i_Wrap v9).bind fun r10 =>
             some r10
           else
            if ieq p2 0 = true then
             some p1
            else
             (remx p1 p2).bind fun v11 =>
             some v11

noncomputable def i_Machine_step (p0 : gMachine) : Option (Int × gMachine) :=
 (i_Machine_word_c0_2_moo p0 p0.Pc).bind fun r1 =>
 if r1.isNone = true then
  some (3, p0)
 else
  (r1).bind fun i2 =>
  (idx p0.Mem i2).bind fun v3 =>
  (i_Unsigned v3).bind fun r4 =>
  (i_InstrDecode r4).bind fun r5 =>
  if bnot r5.2 = true then
   some (3, p0)
  else
   (idx p0.Regs r5.1.Rs).bind fun v6 =>
   (idx p0.Regs r5.1.Rt).bind fun v7 =>
   (i_Wrap (iadd .i64 p0.Pc 4)).bind fun r8 =>
   (if ieq r5.1.Op 21 = true then
    (some (2, p0)).bind fun z => some (Flow.done z)
   else
    if ieq r5.1.Op 12 = true then
     (i_Wrap (iadd .i64 v6 r5.1.Imm)).bind fun r11 =>
     (i_Machine_set_moo p0 r5.1.Rd r11).bind fun r12 =>
     some (Flow.next (r8, r12))
    else
     if ieq r5.1.Op 13 = true then
      (i_Unsigned v6).bind fun r13 =>
      (i_Unsigned r5.1.Imm).bind fun r14 =>
      (i_truth (ilt r13 r14)).bind fun r15 =>
      (i_Machine_set_moo p0 r5.1.Rd r15).bind fun r16 =>
      some (Flow.next (r8, r16))
     else
      (if ieq r5.1.Op 14 = true then
       some (ieq r5.1.Op 14)
      else
       some (ieq r5.1.Op 16)).bind fun j2 =>
      if j2 = true then
       (i_Wrap (iadd .i64 v6 r5.1.Imm)).bind fun r19 =>
       (i_Machine_word_c0_2_moo p0 r19).bind fun r20 =>
       if r20.isNone = true then
        (some (3, p0)).bind fun z => some (Flow.done z)
       else
        if ieq r5.1.Op 16 = true then
         (r20).bind fun i21 =>
         (idx p0.Mem i21).bind fun v22 =>
         (setx p0.Mem i21 v7).bind fun l23 =>
         some (Flow.next (r8, (⟨p0.Regs, p0.Pc, l23⟩ : gMachine)))
        else
         (r20).bind fun i24 =>
         (idx p0.Mem i24).bind fun v25 =>
         (i_Machine_set_c0_2_moo p0 r5.1.Rd v25).bind fun r26 =>
         some (Flow.next (r8, r26))
      else
       if ieq r5.1.Op 15 = true then
        (i_Machine_set_moo p0 r5.1.Rd r8).bind fun r27 =>
        (i_Wrap (iadd .i64 v6 r5.1.Imm)).bind fun r28 =>
        some (Flow.next (iandNot .i64 r28 1, r27))
       else
        (if ieq r5.1.Op 17 = true then
         some (ieq r5.1.Op 17)
        else
         some (ieq r5.1.Op 18)).bind fun j3 =>
        if j3 = true then
         if beqb (ieq v6 v7) (ieq r5.1.Op 17) = true then
          (i_Wrap (iadd .i64 p0.Pc r5.1.Imm)).bind fun r30 =>
          some (Flow.next (r30, p0))
         else
          some (Flow.next (r8, p0))
        else
         if ieq r5.1.Op 19 = true then
          (i_Wrap (imul .i64 r5.1.Imm 4096)).bind fun r31 =>
          (i_Machine_set_moo p0 r5.1.Rd r31).bind fun r32 =>
          some (Flow.next (r8, r32))
         else
          if ieq r5.1.Op 20 = true then
           (i_Machine_set_moo p0 r5.1.Rd r8).bind fun r33 =>
           (i_Wrap (iadd .i64 r33.Pc r5.1.Imm)).bind fun r34 =>
           some (Flow.next (r34, r33))
          else
           (idx ([8, 9, 10, 11, 12, 3, 1, 2, 6, 7, 5] : List Int) (isub .i64 r5.1.Op 1)).bind fun v35 =>
           (i_apply v35 v6 v7).bind fun r36 =>
           (i_Machine_set_moo p0 r5.1.Rd r36).bind fun r37 =>
           some (Flow.next (r8, r37))).bind fun flj1 =>
   match flj1 with
   | .next j1 =>
    some (1, (⟨j1.2.Regs, j1.1, j1.2.Mem⟩ : gMachine))
   | .done z => some z

noncomputable def i_Machine_call_moo (p0 : gMachine) (p1 : (List gBox)) (p2 : (List Int)) : Option (Int × gMachine × (List gBox) × (List Int)) :=
 (idx p0.Regs 17).bind fun v1 =>
 (idx p0.Regs 11).bind fun v2 =>
 (if ine p0.Pc 0 = true then some true else (if ieq v1 1 = true then some true else some (ieq v1 2)).bind fun g3 => (if g3 = true then (if ilt v2 0 = true then some true else some (ige v2 (ilen p1))).bind fun g4 => some g4 else some false).bind fun g5 => some g5).bind fun g6 =>
 if g6 = true then
  some (0, p0, p1, p2)
 else
  (if ieq v1 1 = true then
   (idx p1 v2).bind fun v13 =>
   (idx p0.Regs 10).bind fun v14 =>
   (i_Box_put v13 v14).bind fun r15 =>
   (setx p1 v2 r15.2).bind fun l16 =>
   if bnot r15.1 = true then
    (some (3, p0, l16, p2)).bind fun z => some (Flow.done z)
   else
    some (Flow.next (1, p0, l16, p2))
  else
   if ieq v1 2 = true then
    (idx p1 v2).bind fun v17 =>
    (i_Box_take v17).bind fun r18 =>
    (setx p1 v2 r18.2.2).bind fun l19 =>
    if bnot r18.2.1 = true then
     (some (3, p0, l19, p2)).bind fun z => some (Flow.done z)
    else
     (idx p0.Regs 10).bind fun v20 =>
     (setx p0.Regs 10 r18.1).bind fun l21 =>
     some (Flow.next (1, (⟨l21, p0.Pc, p0.Mem⟩ : gMachine), l19, p2))
   else
    if ieq v1 3 = true then
     some (Flow.next (2, p0, p1, p2))
    else
     if ieq v1 4 = true then
      (idx p0.Regs 10).bind fun v22 =>
      (appx 8 p2 ([v22] : List Int)).bind fun l23 =>
      some (Flow.next (1, p0, p1, l23))
     else
      if ieq v1 5 = true then
       (some (4, p0, p1, p2)).bind fun z => some (Flow.done z)
      else
       (some (0, p0, p1, p2)).bind fun z => some (Flow.done z)).bind fun flj1 =>
  match flj1 with
  | .next j1 =>
   (idx j1.2.1.Regs 1).bind fun v11 =>
   some (j1.1, (⟨j1.2.1.Regs, v11, j1.2.1.Mem⟩ : gMachine), j1.2.2.1, j1.2.2.2)
  | .done z => some z

noncomputable def i_SquadRun_1 (p0 : Int) (pf0 : gSquad) : Option (Int × gSquad) :=
 (idx pf0.Harts p0).bind fun v1 =>
 if ieq v1.Pc 0 = true then
  (i_Machine_call_moo v1 pf0.Boxes pf0.Out).bind fun r2 =>
  (setx pf0.Harts p0 r2.2.1).bind fun l3 =>
  some (r2.1, (⟨l3, r2.2.2.1, pf0.Turn, pf0.Idle, r2.2.2.2⟩ : gSquad))
 else
  (i_Machine_step v1).bind fun r4 =>
  (setx pf0.Harts p0 r4.2).bind fun l5 =>
  if ieq r4.1 1 = true then
   some (1, (⟨l5, pf0.Boxes, pf0.Turn, pf0.Idle, pf0.Out⟩ : gSquad))
  else
   some (0, (⟨l5, pf0.Boxes, pf0.Turn, pf0.Idle, pf0.Out⟩ : gSquad))

noncomputable def i_NextTurn (p0 : Int) (p1 : Int) (p2 : Int) (p3 : Int) : Option (Int × Int × Bool) :=
 (if ilt p0 1 = true then some true else some (igt p0 3)).bind fun g1 =>
 (if g1 = true then some true else some (ilt p1 0)).bind fun g2 =>
 (if g2 = true then some true else some (ige p1 p0)).bind fun g3 =>
 (if g3 = true then some true else some (ilt p2 0)).bind fun g4 =>
 (if g4 = true then some true else some (ige p2 p0)).bind fun g5 =>
 if g5 = true then
  some (0, 0, false)
 else
  if ieq p3 1 = true then
   some (p1, 0, true)
  else
   if ieq p3 2 = true then
    (remx (iadd .i64 p1 1) p0).bind fun v6 =>
    some (v6, 0, true)
   else
    (if ieq p3 3 = true then
     some (ieq p3 3)
    else
     some (ieq p3 4)).bind fun j1 =>
    if j1 = true then
     (remx (iadd .i64 p1 1) p0).bind fun v8 =>
     some (v8, iadd .i64 p2 1, true)
    else
     some (0, 0, false)

noncomputable def slices_Clone_int_int_o (p0 : (List Int)) : Option ((List Int)) :=
 if false = true then
  some ([] : List Int)
 else
  (appx 8 ([] : List Int) p0).bind fun l1 =>
  some l1

noncomputable def i_machineCopy_o2 (p0 : gMachine) : Option (gMachine) :=
 (slices_Clone_int_int_o p0.Regs).bind fun r1 =>
 (slices_Clone_int_int_o p0.Mem).bind fun r2 =>
 some (⟨r1, p0.Pc, r2⟩ : gMachine)

noncomputable def i_boxesCopy_o2_L1 (p0 : (List gBox)) (s : Int × (List gBox)) : Option (Flow (Int × (List gBox)) ((List gBox))) :=
 match s with
 | (s1, s2) =>
 if ilt s1 (ilen p0) = true then
  (idx p0 s1).bind fun v4 =>
  (slices_Clone_int_int_o v4.Items).bind fun r5 =>
  (appx 32 s2 [(⟨v4.Room, r5⟩ : gBox)]).bind fun l6 =>
  some (.next (iadd .i64 s1 1, l6))
 else
  some (.done s2)

noncomputable def i_boxesCopy_o2 (p0 : (List gBox)) : Option ((List gBox)) :=
 (loopM (i_boxesCopy_o2_L1 p0) (0, ([] : List gBox))).bind fun e1 =>
 match e1 with
 | y3 =>
  some y3

noncomputable def i_takeTurns_i_SquadRun_1_c4_0_0_L1 (p1 : Int) (s : Int × Int × Int × gSquad) : Option (Flow (Int × Int × Int × gSquad) (Sum (Int × Int × gSquad) (Int × Int × Bool × gSquad))) :=
 match s with
 | (s1, s2, s3, s4) =>
 (if igt s1 0 = true then some (ilt s3 p1) else some false).bind fun g8 =>
 if g8 = true then
  (i_SquadRun_1 s2 s4).bind fun r9 =>
  (i_NextTurn p1 s2 s3 r9.1).bind fun r10 =>
  if bnot r10.2.2 = true then
   some (.done (.inr (0, 0, false, r9.2)))
  else
   some (.next (isub .i64 s1 1, r10.1, r10.2.1, r9.2))
 else
  some (.done (.inl (s2, s3, s4)))

noncomputable def i_takeTurns_i_SquadRun_1_c4_0_0 (p0 : Int) (p1 : Int) (p2 : Int) (p3 : Int) (p4_0 : gSquad) : Option (Int × Int × Bool × gSquad) :=
 (loopM (i_takeTurns_i_SquadRun_1_c4_0_0_L1 p1) (p0, p2, p3, p4_0)).bind fun e1 =>
 match e1 with
 | .inl (y5, y6, y7) =>
  some (y5, y6, true, y7)
 | .inr r0 =>
  some r0

noncomputable def i_SquadRun_L1 (p0 : gSquad) (s : Int × gSquad × gSquad) : Option (Flow (Int × gSquad × gSquad) (gSquad × gSquad)) :=
 match s with
 | (s6, s7, s8) =>
 if ilt s6 (ilen p0.Harts) = true then
  (idx p0.Harts s6).bind fun v11 =>
  (i_machineCopy_o2 v11).bind fun r12 =>
  (appx 56 s8.Harts [r12]).bind fun l13 =>
  some (.next (iadd .i64 s6 1, s7, (⟨l13, s8.Boxes, s8.Turn, s8.Idle, s8.Out⟩ : gSquad)))
 else
  some (.done (s7, s8))

noncomputable def i_SquadRun (p0 : gSquad) (p1 : Int) : Option (gSquad × Bool) :=
 (i_squadValid p0).bind fun r1 =>
 (if bnot r1 = true then some true else some (ilt p1 0)).bind fun g2 =>
 (if g2 = true then some true else some (igt p1 1000000)).bind fun g3 =>
 if g3 = true then
  some ((⟨([] : List gMachine), ([] : List gBox), 0, 0, ([] : List Int)⟩ : gSquad), false)
 else
  (i_boxesCopy_o2 p0.Boxes).bind fun r4 =>
  (slices_Clone_int_int_o p0.Out).bind fun r5 =>
  (loopM (i_SquadRun_L1 p0) (0, (⟨([] : List gMachine), ([] : List gBox), 0, 0, ([] : List Int)⟩ : gSquad), (⟨([] : List gMachine), r4, 0, 0, r5⟩ : gSquad))).bind fun e1 =>
  match e1 with
  | (y9, y10) =>
   (i_takeTurns_i_SquadRun_1_c4_0_0 p1 (ilen y10.Harts) p0.Turn p0.Idle y10).bind fun r14 =>
   if bnot r14.2.2.1 = true then
    some ((⟨([] : List gMachine), ([] : List gBox), 0, 0, ([] : List Int)⟩ : gSquad), false)
   else
    some ((⟨r14.2.2.2.Harts, r14.2.2.2.Boxes, r14.1, r14.2.1, r14.2.2.2.Out⟩ : gSquad), true)

noncomputable def l_eqIntS_L1 (p0 : (List Int)) (p1 : (List Int)) (s : Int) : Option (Flow (Int) (Sum (Unit) (Bool))) :=
 let s1 := s
 if ilt s1 (ilen p0) = true then
  (idx p0 s1).bind fun v2 =>
  (idx p1 s1).bind fun v3 =>
  if ine v2 v3 = true then
   some (.done (.inr false))
  else
   some (.next (iadd .i64 s1 1))
 else
  some (.done (.inl ()))

noncomputable def l_eqIntS (p0 : (List Int)) (p1 : (List Int)) : Option (Bool) :=
 if ine (ilen p0) (ilen p1) = true then
  some false
 else
  (loopM (l_eqIntS_L1 p0 p1) 0).bind fun e1 =>
  match e1 with
  | .inl _ =>
   some true
  | .inr r0 =>
   some r0

noncomputable def l_eqMachine (p0 : gMachine) (p1 : gMachine) : Option (Bool) :=
 (l_eqIntS p0.Regs p1.Regs).bind fun r1 =>
 if bnot r1 = true then
  some false
 else
  if ine p0.Pc p1.Pc = true then
   some false
  else
   (l_eqIntS p0.Mem p1.Mem).bind fun r2 =>
   if bnot r2 = true then
    some false
   else
    some true

noncomputable def l_eqMachineS_L1 (p0 : (List gMachine)) (p1 : (List gMachine)) (s : Int) : Option (Flow (Int) (Sum (Unit) (Bool))) :=
 let s1 := s
 if ilt s1 (ilen p0) = true then
  (idx p0 s1).bind fun v2 =>
  (idx p1 s1).bind fun v3 =>
  (l_eqMachine v2 v3).bind fun r4 =>
  if bnot r4 = true then
   some (.done (.inr false))
  else
   some (.next (iadd .i64 s1 1))
 else
  some (.done (.inl ()))

noncomputable def l_eqMachineS (p0 : (List gMachine)) (p1 : (List gMachine)) : Option (Bool) :=
 if ine (ilen p0) (ilen p1) = true then
  some false
 else
  (loopM (l_eqMachineS_L1 p0 p1) 0).bind fun e1 =>
  match e1 with
  | .inl _ =>
   some true
  | .inr r0 =>
   some r0

noncomputable def l_eqBox (p0 : gBox) (p1 : gBox) : Option (Bool) :=
 if ine p0.Room p1.Room = true then
  some false
 else
  (l_eqIntS p0.Items p1.Items).bind fun r1 =>
  if bnot r1 = true then
   some false
  else
   some true

noncomputable def l_eqBoxS_L1 (p0 : (List gBox)) (p1 : (List gBox)) (s : Int) : Option (Flow (Int) (Sum (Unit) (Bool))) :=
 let s1 := s
 if ilt s1 (ilen p0) = true then
  (idx p0 s1).bind fun v2 =>
  (idx p1 s1).bind fun v3 =>
  (l_eqBox v2 v3).bind fun r4 =>
  if bnot r4 = true then
   some (.done (.inr false))
  else
   some (.next (iadd .i64 s1 1))
 else
  some (.done (.inl ()))

noncomputable def l_eqBoxS (p0 : (List gBox)) (p1 : (List gBox)) : Option (Bool) :=
 if ine (ilen p0) (ilen p1) = true then
  some false
 else
  (loopM (l_eqBoxS_L1 p0 p1) 0).bind fun e1 =>
  match e1 with
  | .inl _ =>
   some true
  | .inr r0 =>
   some r0

noncomputable def l_eqSquad (p0 : gSquad) (p1 : gSquad) : Option (Bool) :=
 (l_eqMachineS p0.Harts p1.Harts).bind fun r1 =>
 if bnot r1 = true then
  some false
 else
  (l_eqBoxS p0.Boxes p1.Boxes).bind fun r2 =>
  if bnot r2 = true then
   some false
  else
   if ine p0.Turn p1.Turn = true then
    some false
   else
    if ine p0.Idle p1.Idle = true then
     some false
    else
     (l_eqIntS p0.Out p1.Out).bind fun r3 =>
     if bnot r3 = true then
      some false
     else
      some true

noncomputable def l_markIntS_L1 (s : Int × Int × (List Int)) : Option (Flow (Int × Int × (List Int)) (Int × (List Int))) :=
 match s with
 | (s1, s2, s3) =>
 if ilt s2 (ilen s3) = true then
  (idx s3 s2).bind fun v6 =>
  (setx s3 s2 s1).bind fun l7 =>
  some (.next (iadd .i64 s1 1, iadd .i64 s2 1, l7))
 else
  some (.done (s1, s3))

noncomputable def l_markIntS (p0 : (List Int)) (p1 : Int) : Option (Int × (List Int)) :=
 (loopM (l_markIntS_L1) (p1, 0, p0)).bind fun e1 =>
 match e1 with
 | (y4, y5) =>
  some (y4, y5)

noncomputable def l_markMachineS_L1 (s : Int × Int × (List gMachine)) : Option (Flow (Int × Int × (List gMachine)) (Int × (List gMachine))) :=
 match s with
 | (s1, s2, s3) =>
 if ilt s2 (ilen s3) = true then
  (idx s3 s2).bind fun v6 =>
  (l_markIntS v6.Regs s1).bind fun r7 =>
  (setx s3 s2 (⟨r7.2, r7.1, v6.Mem⟩ : gMachine)).bind fun l8 =>
  (idx l8 s2).bind fun v9 =>
  (l_markIntS v9.Mem (iadd .i64 r7.1 1)).bind fun r10 =>
  (setx l8 s2 (⟨v9.Regs, v9.Pc, r10.2⟩ : gMachine)).bind fun l11 =>
  some (.next (r10.1, iadd .i64 s2 1, l11))
 else
  some (.done (s1, s3))

noncomputable def l_markMachineS (p0 : (List gMachine)) (p1 : Int) : Option (Int × (List gMachine)) :=
 (loopM (l_markMachineS_L1) (p1, 0, p0)).bind fun e1 =>
 match e1 with
 | (y4, y5) =>
  some (y4, y5)

noncomputable def l_markBoxS_L1 (s : Int × Int × (List gBox)) : Option (Flow (Int × Int × (List gBox)) (Int × (List gBox))) :=
 match s with
 | (s1, s2, s3) =>
 if ilt s2 (ilen s3) = true then
  (idx s3 s2).bind fun v6 =>
  (setx s3 s2 (⟨s1, v6.Items⟩ : gBox)).bind fun l7 =>
  (idx l7 s2).bind fun v8 =>
  (l_markIntS v8.Items (iadd .i64 s1 1)).bind fun r9 =>
  (setx l7 s2 (⟨v8.Room, r9.2⟩ : gBox)).bind fun l10 =>
  some (.next (r9.1, iadd .i64 s2 1, l10))
 else
  some (.done (s1, s3))

noncomputable def l_markBoxS (p0 : (List gBox)) (p1 : Int) : Option (Int × (List gBox)) :=
 (loopM (l_markBoxS_L1) (p1, 0, p0)).bind fun e1 =>
 match e1 with
 | (y4, y5) =>
  some (y4, y5)

noncomputable def l_markSquad (p0 : gSquad) (p1 : Int) : Option (Int × gSquad) :=
 (l_markMachineS p0.Harts p1).bind fun r1 =>
 (l_markBoxS p0.Boxes r1.1).bind fun r2 =>
 (l_markIntS p0.Out r2.1).bind fun r3 =>
 some (r3.1, (⟨r1.2, r2.2, p0.Turn, p0.Idle, r3.2⟩ : gSquad))

noncomputable def i_SquadRun_o6_L1 (p0 : gSquad) (s : Int × gSquad × gSquad) : Option (Flow (Int × gSquad × gSquad) (gSquad × gSquad)) :=
 match s with
 | (s6, s7, s8) =>
 if ilt s6 (ilen p0.Harts) = true then
  (idx p0.Harts s6).bind fun v11 =>
  (i_machineCopy_o2 v11).bind fun r12 =>
  (appx 56 s8.Harts [r12]).bind fun l13 =>
  some (.next (iadd .i64 s6 1, s7, (⟨l13, s8.Boxes, s8.Turn, s8.Idle, s8.Out⟩ : gSquad)))
 else
  some (.done (s7, s8))

noncomputable def i_SquadRun_o6 (p0 : gSquad) (p1 : Int) : Option (gSquad × Bool) :=
 (i_squadValid p0).bind fun r1 =>
 (if bnot r1 = true then some true else some (ilt p1 0)).bind fun g2 =>
 (if g2 = true then some true else some (igt p1 1000000)).bind fun g3 =>
 if g3 = true then
  some ((⟨([] : List gMachine), ([] : List gBox), 0, 0, ([] : List Int)⟩ : gSquad), false)
 else
  (i_boxesCopy_o2 p0.Boxes).bind fun r4 =>
  (slices_Clone_int_int_o p0.Out).bind fun r5 =>
  (loopM (i_SquadRun_o6_L1 p0) (0, (⟨([] : List gMachine), ([] : List gBox), 0, 0, ([] : List Int)⟩ : gSquad), (⟨([] : List gMachine), r4, 0, 0, r5⟩ : gSquad))).bind fun e1 =>
  match e1 with
  | (y9, y10) =>
   (i_takeTurns_i_SquadRun_1_c4_0_0 p1 (ilen y10.Harts) p0.Turn p0.Idle y10).bind fun r14 =>
   if bnot r14.2.2.1 = true then
    some ((⟨([] : List gMachine), ([] : List gBox), 0, 0, ([] : List Int)⟩ : gSquad), false)
   else
    some ((⟨r14.2.2.2.Harts, r14.2.2.2.Boxes, r14.1, r14.2.1, r14.2.2.2.Out⟩ : gSquad), true)

noncomputable def l_toIntS_o_L1 (p0 : (List Int)) (s : Int × (List Int)) : Option (Flow (Int × (List Int)) ((List Int))) :=
 match s with
 | (s2, s3) =>
 if ilt s2 (ilen p0) = true then
  (idx p0 s2).bind fun v5 =>
  (idx s3 s2).bind fun v6 =>
  (setx s3 s2 v5).bind fun l7 =>
  some (.next (iadd .i64 s2 1, l7))
 else
  some (.done s3)

noncomputable def l_toIntS_o (p0 : (List Int)) : Option ((List Int)) :=
 (makex 8 (ilen p0) 0).bind fun l1 =>
 (loopM (l_toIntS_o_L1 p0) (0, l1)).bind fun e1 =>
 match e1 with
 | y4 =>
  some y4

noncomputable def l_toMachine_o2 (p0 : gMachine) : Option (gMachine) :=
 (l_toIntS_o p0.Regs).bind fun r1 =>
 (l_toIntS_o p0.Mem).bind fun r2 =>
 some (⟨r1, p0.Pc, r2⟩ : gMachine)

noncomputable def l_toMachineS_o3_L1 (p0 : (List gMachine)) (s : Int × (List gMachine)) : Option (Flow (Int × (List gMachine)) ((List gMachine))) :=
 match s with
 | (s2, s3) =>
 if ilt s2 (ilen p0) = true then
  (idx p0 s2).bind fun v5 =>
  (l_toMachine_o2 v5).bind fun r6 =>
  (idx s3 s2).bind fun v7 =>
  (setx s3 s2 r6).bind fun l8 =>
  some (.next (iadd .i64 s2 1, l8))
 else
  some (.done s3)

noncomputable def l_toMachineS_o3 (p0 : (List gMachine)) : Option ((List gMachine)) :=
 (makex 56 (ilen p0) (⟨([] : List Int), 0, ([] : List Int)⟩ : gMachine)).bind fun l1 =>
 (loopM (l_toMachineS_o3_L1 p0) (0, l1)).bind fun e1 =>
 match e1 with
 | y4 =>
  some y4

noncomputable def l_toBox_o (p0 : gBox) : Option (gBox) :=
 (l_toIntS_o p0.Items).bind fun r1 =>
 some (⟨p0.Room, r1⟩ : gBox)

noncomputable def l_toBoxS_o2_L1 (p0 : (List gBox)) (s : Int × (List gBox)) : Option (Flow (Int × (List gBox)) ((List gBox))) :=
 match s with
 | (s2, s3) =>
 if ilt s2 (ilen p0) = true then
  (idx p0 s2).bind fun v5 =>
  (l_toBox_o v5).bind fun r6 =>
  (idx s3 s2).bind fun v7 =>
  (setx s3 s2 r6).bind fun l8 =>
  some (.next (iadd .i64 s2 1, l8))
 else
  some (.done s3)

noncomputable def l_toBoxS_o2 (p0 : (List gBox)) : Option ((List gBox)) :=
 (makex 32 (ilen p0) (⟨0, ([] : List Int)⟩ : gBox)).bind fun l1 =>
 (loopM (l_toBoxS_o2_L1 p0) (0, l1)).bind fun e1 =>
 match e1 with
 | y4 =>
  some y4

noncomputable def l_toSquad_o6 (p0 : gSquad) : Option (gSquad) :=
 (l_toMachineS_o3 p0.Harts).bind fun r1 =>
 (l_toBoxS_o2 p0.Boxes).bind fun r2 =>
 (l_toIntS_o p0.Out).bind fun r3 =>
 some (⟨r1, r2, p0.Turn, p0.Idle, r3⟩ : gSquad)

noncomputable def l_heldIntS_L1 (p0 : (List Int)) (s : Int × Int) : Option (Flow (Int × Int) (Sum (Int) (Int))) :=
 match s with
 | (s1, s2) =>
 if ilt s2 (ilen p0) = true then
  (idx p0 s2).bind fun v4 =>
  if ine v4 s1 = true then
   some (.done (.inr (-1)))
  else
   some (.next (iadd .i64 s1 1, iadd .i64 s2 1))
 else
  some (.done (.inl s1))

noncomputable def l_heldIntS (p0 : (List Int)) (p1 : Int) : Option (Int) :=
 (loopM (l_heldIntS_L1 p0) (p1, 0)).bind fun e1 =>
 match e1 with
 | .inl y3 =>
  some y3
 | .inr r0 =>
  some r0

noncomputable def l_heldMachineS_L1 (p0 : (List gMachine)) (s : Int × Int) : Option (Flow (Int × Int) (Sum (Int) (Int))) :=
 match s with
 | (s1, s2) =>
 if ilt s2 (ilen p0) = true then
  (idx p0 s2).bind fun v4 =>
  (l_heldIntS v4.Regs s1).bind fun r5 =>
  if ilt r5 0 = true then
   some (.done (.inr (-1)))
  else
   if ine v4.Pc r5 = true then
    some (.done (.inr (-1)))
   else
    (l_heldIntS v4.Mem (iadd .i64 r5 1)).bind fun r6 =>
    if ilt r6 0 = true then
     some (.done (.inr (-1)))
    else
     some (.next (r6, iadd .i64 s2 1))
 else
  some (.done (.inl s1))

noncomputable def l_heldMachineS (p0 : (List gMachine)) (p1 : Int) : Option (Int) :=
 (loopM (l_heldMachineS_L1 p0) (p1, 0)).bind fun e1 =>
 match e1 with
 | .inl y3 =>
  some y3
 | .inr r0 =>
  some r0

noncomputable def l_heldBoxS_L1 (p0 : (List gBox)) (s : Int × Int) : Option (Flow (Int × Int) (Sum (Int) (Int))) :=
 match s with
 | (s1, s2) =>
 if ilt s2 (ilen p0) = true then
  (idx p0 s2).bind fun v4 =>
  if ine v4.Room s1 = true then
   some (.done (.inr (-1)))
  else
   (l_heldIntS v4.Items (iadd .i64 s1 1)).bind fun r5 =>
   if ilt r5 0 = true then
    some (.done (.inr (-1)))
   else
    some (.next (r5, iadd .i64 s2 1))
 else
  some (.done (.inl s1))

noncomputable def l_heldBoxS (p0 : (List gBox)) (p1 : Int) : Option (Int) :=
 (loopM (l_heldBoxS_L1 p0) (p1, 0)).bind fun e1 =>
 match e1 with
 | .inl y3 =>
  some y3
 | .inr r0 =>
  some r0

noncomputable def l_heldSquad (p0 : gSquad) (p1 : Int) : Option (Int) :=
 (l_heldMachineS p0.Harts p1).bind fun r1 =>
 if ilt r1 0 = true then
  some (-1)
 else
  (l_heldBoxS p0.Boxes r1).bind fun r2 =>
  if ilt r2 0 = true then
   some (-1)
  else
   (l_heldIntS p0.Out r2).bind fun r3 =>
   if ilt r3 0 = true then
    some (-1)
   else
    some r3

noncomputable def l_FnExactSquadRun (p0 : gSquad) (p1 : Int) : Option (Bool) :=
 (l_szSquad p0 1048576).bind fun r1 =>
 if ilt r1 0 = true then
  some true
 else
  (l_toSquad p0).bind fun r2 =>
  (s_SquadRun r2 p1).bind fun r3 =>
  (l_toSquad_o6 p0).bind fun r4 =>
  (i_SquadRun_o6 r4 p1).bind fun r5 =>
  (l_eqSquad r5.1 r3.1).bind fun r6 =>
  (if bnot r6 = true then some true else some (bneb r5.2 r3.2)).bind fun g7 =>
  if g7 = true then
   some false
  else
   (l_eqSquad r4 r2).bind fun r8 =>
   if bnot r8 = true then
    some false
   else
    (l_markSquad r4 1).bind fun r9 =>
    (if ilt r9.1 0 = true then some true else some (bnot r6)).bind fun g10 =>
    (if g10 = true then some true else some (bneb r5.2 r3.2)).bind fun g11 =>
    if g11 = true then
     some false
    else
     (l_markSquad r5.1 1).bind fun r12 =>
     (l_heldSquad (⟨r12.2.Harts, r12.2.Boxes, r5.1.Turn, r5.1.Idle, r12.2.Out⟩ : gSquad) 1).bind fun r13 =>
     if ilt r13 0 = true then
      some false
     else
      if ine r13 r12.1 = true then
       some false
      else
       (i_SquadRun r2 p1).bind fun r14 =>
       (l_eqSquad r14.1 r3.1).bind fun r15 =>
       (if bnot r15 = true then some true else some (bneb r14.2 r3.2)).bind fun g16 =>
       if g16 = true then
        some false
       else
        if ilt r13 0 = true then
         some false
        else
         if ine r13 r12.1 = true then
          some false
         else
          some true

end Go.Abs
