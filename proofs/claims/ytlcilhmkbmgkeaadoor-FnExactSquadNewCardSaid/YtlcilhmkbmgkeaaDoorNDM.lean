/- Words of the proof: DM. No conditions. -/
import Derived.Test.YtlcilhmkbmgkeaaDoorNDR0
set_option linter.unusedSimpArgs false
set_option linter.unusedVariables false
set_option maxRecDepth 20000
set_option maxHeartbeats 4000000
namespace Go.Abs
open Go

noncomputable def l_szInstrS (p0 : (List gInstr)) (p1 : Int) : Option (Int) :=
 if ilt (isub .i64 p1 (ilen p0)) 0 = true then
  some (-1)
 else
  some (isub .i64 p1 (ilen p0))

noncomputable def l_szInstrSS_L1 (p0 : (List (List gInstr))) (s : Int × Int) : Option (Flow (Int × Int) (Sum (Int) (Int))) :=
 match s with
 | (s1, s2) =>
 if ilt s2 (ilen p0) = true then
  (idx p0 s2).bind fun v4 =>
  (l_szInstrS v4 s1).bind fun r5 =>
  if ilt r5 0 = true then
   some (.done (.inr (-1)))
  else
   some (.next (r5, iadd .i64 s2 1))
 else
  some (.done (.inl s1))

noncomputable def l_szInstrSS (p0 : (List (List gInstr))) (p1 : Int) : Option (Int) :=
 if ilt (isub .i64 p1 (ilen p0)) 0 = true then
  some (-1)
 else
  (loopM (l_szInstrSS_L1 p0) (isub .i64 p1 (ilen p0), 0)).bind fun e1 =>
  match e1 with
  | .inl y3 =>
   some y3
  | .inr r0 =>
   some r0

noncomputable def l_toIntS_L1 (p0 : (List Int)) (s : Int × (List Int)) : Option (Flow (Int × (List Int)) ((List Int))) :=
 match s with
 | (s2, s3) =>
 if ilt s2 (ilen p0) = true then
  (idx p0 s2).bind fun v5 =>
  (idx s3 s2).bind fun v6 =>
  (setx s3 s2 v5).bind fun l7 =>
  some (.next (iadd .i64 s2 1, l7))
 else
  some (.done s3)

noncomputable def l_toIntS (p0 : (List Int)) : Option ((List Int)) :=
 (makex 8 (ilen p0) 0).bind fun l1 =>
 (loopM (l_toIntS_L1 p0) (0, l1)).bind fun e1 =>
 match e1 with
 | y4 =>
  some y4

noncomputable def l_toInstr (p0 : gInstr) : Option (gInstr) :=
 some p0

noncomputable def l_toInstrS_L1 (p0 : (List gInstr)) (s : Int × (List gInstr)) : Option (Flow (Int × (List gInstr)) ((List gInstr))) :=
 match s with
 | (s2, s3) =>
 if ilt s2 (ilen p0) = true then
  (idx p0 s2).bind fun v5 =>
  (l_toInstr v5).bind fun r6 =>
  (idx s3 s2).bind fun v7 =>
  (setx s3 s2 r6).bind fun l8 =>
  some (.next (iadd .i64 s2 1, l8))
 else
  some (.done s3)

noncomputable def l_toInstrS (p0 : (List gInstr)) : Option ((List gInstr)) :=
 (makex 40 (ilen p0) (⟨0, 0, 0, 0, 0⟩ : gInstr)).bind fun l1 =>
 (loopM (l_toInstrS_L1 p0) (0, l1)).bind fun e1 =>
 match e1 with
 | y4 =>
  some y4

noncomputable def l_toInstrSS_L1 (p0 : (List (List gInstr))) (s : Int × (List (List gInstr))) : Option (Flow (Int × (List (List gInstr))) ((List (List gInstr)))) :=
 match s with
 | (s2, s3) =>
 if ilt s2 (ilen p0) = true then
  (idx p0 s2).bind fun v5 =>
  (l_toInstrS v5).bind fun r6 =>
  (idx s3 s2).bind fun v7 =>
  (setx s3 s2 r6).bind fun l8 =>
  some (.next (iadd .i64 s2 1, l8))
 else
  some (.done s3)

noncomputable def l_toInstrSS (p0 : (List (List gInstr))) : Option ((List (List gInstr))) :=
 (makex 24 (ilen p0) ([] : List gInstr)).bind fun l1 =>
 (loopM (l_toInstrSS_L1 p0) (0, l1)).bind fun e1 =>
 match e1 with
 | y4 =>
  some y4

noncomputable def s_l6In (p0 : Int) (p1 : Int) (p2 : Int) : Option (Bool) :=
 (if ige p0 p1 = true then some (ile p0 p2) else some false).bind fun g1 =>
 some g1

noncomputable def s_l12Rooms_L1 (p0 : (List Int)) (s : Int) : Option (Flow (Int) (Sum (Unit) (Bool))) :=
 let s1 := s
 if ilt s1 (ilen p0) = true then
  (idx p0 s1).bind fun v2 =>
  (s_l6In v2 1 4).bind fun r3 =>
  if bnot r3 = true then
   some (.done (.inr false))
  else
   some (.next (iadd .i64 s1 1))
 else
  some (.done (.inl ()))

noncomputable def s_l12Rooms (p0 : (List Int)) : Option (Bool) :=
 (loopM (s_l12Rooms_L1 p0) 0).bind fun e1 =>
 match e1 with
 | .inl _ =>
  some (ile (ilen p0) 3)
 | .inr r0 =>
  some r0

noncomputable def s_l16Empty_L1 (p0 : (List Int)) (s : Int × (List gBox)) : Option (Flow (Int × (List gBox)) ((List gBox))) :=
 match s with
 | (s1, s2) =>
 if ilt s1 (ilen p0) = true then
  (idx p0 s1).bind fun v4 =>
  (appx 32 s2 ([(⟨v4, ([] : List Int)⟩ : gBox)] : List gBox)).bind fun l5 =>
  some (.next (iadd .i64 s1 1, l5))
 else
  some (.done s2)

noncomputable def s_l16Empty (p0 : (List Int)) : Option ((List gBox)) :=
 (loopM (s_l16Empty_L1 p0) (0, ([] : List gBox))).bind fun e1 =>
 match e1 with
 | y3 =>
  some y3

noncomputable def s_l42Regs (p0 : gInstr) (p1 : Int) (p2 : Int) (p3 : Int) : Option (Bool) :=
 (s_l6In p0.Rd 0 (imul .i64 p1 31)).bind fun r1 =>
 (if r1 = true then (s_l6In p0.Rs 0 (imul .i64 p2 31)).bind fun r2 => some r2 else some false).bind fun g3 =>
 (if g3 = true then (s_l6In p0.Rt 0 (imul .i64 p3 31)).bind fun r4 => some r4 else some false).bind fun g5 =>
 some g5

noncomputable def s_l42Even (p0 : Int) (p1 : Int) (p2 : Int) : Option (Bool) :=
 (s_l6In p0 p1 p2).bind fun r1 =>
 (if r1 = true then (remx p0 2).bind fun v2 => some (ieq v2 0) else some false).bind fun g3 =>
 some g3

noncomputable def s_InstrValid (p0 : gInstr) : Option (Bool) :=
 (s_l6In p0.Op 1 11).bind fun r1 =>
 if r1 = true then
  (s_l42Regs p0 1 1 1).bind fun r2 =>
  (if r2 = true then some (ieq p0.Imm 0) else some false).bind fun g3 =>
  some g3
 else
  (s_l6In p0.Op 12 15).bind fun r4 =>
  if r4 = true then
   (s_l42Regs p0 1 1 0).bind fun r5 =>
   (if r5 = true then (s_l6In p0.Imm (-2048) 2047).bind fun r6 => some r6 else some false).bind fun g7 =>
   some g7
  else
   if ieq p0.Op 16 = true then
    (s_l42Regs p0 0 1 1).bind fun r8 =>
    (if r8 = true then (s_l6In p0.Imm (-2048) 2047).bind fun r9 => some r9 else some false).bind fun g10 =>
    some g10
   else
    (if ieq p0.Op 17 = true then some true else some (ieq p0.Op 18)).bind fun g11 =>
    if g11 = true then
     (s_l42Regs p0 0 1 1).bind fun r12 =>
     (if r12 = true then (s_l42Even p0.Imm (-4096) 4094).bind fun r13 => some r13 else some false).bind fun g14 =>
     some g14
    else
     if ieq p0.Op 19 = true then
      (s_l42Regs p0 1 0 0).bind fun r15 =>
      (if r15 = true then (s_l6In p0.Imm 0 1048575).bind fun r16 => some r16 else some false).bind fun g17 =>
      some g17
     else
      if ieq p0.Op 20 = true then
       (s_l42Regs p0 1 0 0).bind fun r18 =>
       (if r18 = true then (s_l42Even p0.Imm (-1048576) 1048574).bind fun r19 => some r19 else some false).bind fun g20 =>
       some g20
      else
       (if ieq p0.Op 21 = true then (s_l42Regs p0 0 0 0).bind fun r21 => some r21 else some false).bind fun g22 =>
       (if g22 = true then some (ieq p0.Imm 0) else some false).bind fun g23 =>
       some g23

noncomputable def s_l42Mod (p0 : Int) (p1 : Int) : Option (Int) :=
 if ilt p0 0 = true then
  some (iadd .i64 p0 p1)
 else
  some p0

noncomputable def s_l1Power_L1 (p0 : Int) (s : Int × Int) : Option (Flow (Int × Int) (Int)) :=
 match s with
 | (s1, s2) =>
 if ilt s2 p0 = true then
  some (.next (imul .i64 s1 2, iadd .i64 s2 1))
 else
  some (.done s1)

noncomputable def s_l1Power (p0 : Int) : Option (Int) :=
 (loopM (s_l1Power_L1 p0) (1, 0)).bind fun e1 =>
 match e1 with
 | y3 =>
  some y3

noncomputable def s_l42Put (p0 : Int) (p1 : Int) : Option (Int) :=
 (s_l1Power p1).bind fun r1 =>
 some (imul .i64 p0 r1)

noncomputable def s_l42Three (p0 : Int) : Option (Int) :=
 (idx ([0, 0, 0, 4, 6, 7, 6, 4, 1, 5, 2, 0, 3, 2, 0, 2, 0, 1, 0, 0, 0] : List Int) (isub .i64 p0 1)).bind fun v1 =>
 some v1

noncomputable def s_l42Mid (p0 : gInstr) (p1 : Int) : Option (Int) :=
 (s_l42Put p0.Rs 15).bind fun r1 =>
 (s_l42Three p0.Op).bind fun r2 =>
 (s_l42Put r2 12).bind fun r3 =>
 some (iadd .i64 (iadd .i64 r1 r3) p1)

noncomputable def s_l42Imm (p0 : gInstr) (p1 : Int) : Option (Int) :=
 (s_l42Mod p0.Imm 4096).bind fun r1 =>
 (s_l42Put r1 20).bind fun r2 =>
 (s_l42Mid p0 p1).bind fun r3 =>
 (s_l42Put p0.Rd 7).bind fun r4 =>
 some (iadd .i64 (iadd .i64 r2 r3) r4)

noncomputable def s_Bits (p0 : Int) (p1 : Int) (p2 : Int) : Option (Int) :=
 (s_l6In p0 0 4294967295).bind fun r1 =>
 (if bnot r1 = true then some true else (s_l6In p1 0 31).bind fun r2 => some (bnot r2)).bind fun g3 =>
 (if g3 = true then some true else (s_l6In p2 1 (isub .i64 32 p1)).bind fun r4 => some (bnot r4)).bind fun g5 =>
 if g5 = true then
  some 0
 else
  (s_l1Power p1).bind fun r6 =>
  (quox .i64 p0 r6).bind fun v7 =>
  (s_l1Power p2).bind fun r8 =>
  (remx v7 r8).bind fun v9 =>
  some v9

noncomputable def s_l42Branch (p0 : gInstr) : Option (Int) :=
 (s_l42Mod p0.Imm 8192).bind fun r1 =>
 (s_Bits r1 12 1).bind fun r2 =>
 (s_l42Put r2 31).bind fun r3 =>
 (s_Bits r1 5 6).bind fun r4 =>
 (s_l42Put r4 25).bind fun r5 =>
 (s_l42Put p0.Rt 20).bind fun r6 =>
 (s_l42Mid p0 99).bind fun r7 =>
 (s_Bits r1 1 4).bind fun r8 =>
 (s_l42Put r8 8).bind fun r9 =>
 (s_Bits r1 11 1).bind fun r10 =>
 (s_l42Put r10 7).bind fun r11 =>
 some (iadd .i64 (iadd .i64 (iadd .i64 (iadd .i64 (iadd .i64 r3 r5) r6) r7) r9) r11)

noncomputable def s_l42Jump (p0 : gInstr) : Option (Int) :=
 (s_l42Mod p0.Imm 2097152).bind fun r1 =>
 (s_Bits r1 20 1).bind fun r2 =>
 (s_l42Put r2 31).bind fun r3 =>
 (s_Bits r1 1 10).bind fun r4 =>
 (s_l42Put r4 21).bind fun r5 =>
 (s_Bits r1 11 1).bind fun r6 =>
 (s_l42Put r6 20).bind fun r7 =>
 (s_Bits r1 12 8).bind fun r8 =>
 (s_l42Put r8 12).bind fun r9 =>
 (s_l42Put p0.Rd 7).bind fun r10 =>
 some (iadd .i64 (iadd .i64 (iadd .i64 (iadd .i64 (iadd .i64 r3 r5) r7) r9) r10) 111)

noncomputable def s_l42Seven (p0 : Int) : Option (Int) :=
 (idx ([0, 32, 1, 1, 1, 0, 0, 0, 0, 32, 0] : List Int) (isub .i64 p0 1)).bind fun v1 =>
 some v1

noncomputable def s_l42Encode (p0 : gInstr) : Option (Int) :=
 (if ieq p0.Op 12 = true then
  some (ieq p0.Op 12)
 else
  some (ieq p0.Op 13)).bind fun j1 =>
 if j1 = true then
  (s_l42Imm p0 19).bind fun r2 =>
  some r2
 else
  if ieq p0.Op 14 = true then
   (s_l42Imm p0 3).bind fun r3 =>
   some r3
  else
   if ieq p0.Op 15 = true then
    (s_l42Imm p0 103).bind fun r4 =>
    some r4
   else
    if ieq p0.Op 16 = true then
     (s_l42Mod p0.Imm 4096).bind fun r5 =>
     (s_Bits r5 5 7).bind fun r6 =>
     (s_l42Put r6 25).bind fun r7 =>
     (s_l42Put p0.Rt 20).bind fun r8 =>
     (s_l42Mid p0 35).bind fun r9 =>
     (s_Bits r5 0 5).bind fun r10 =>
     (s_l42Put r10 7).bind fun r11 =>
     some (iadd .i64 (iadd .i64 (iadd .i64 r7 r8) r9) r11)
    else
     (if ieq p0.Op 17 = true then
      some (ieq p0.Op 17)
     else
      some (ieq p0.Op 18)).bind fun j2 =>
     if j2 = true then
      (s_l42Branch p0).bind fun r13 =>
      some r13
     else
      if ieq p0.Op 19 = true then
       (s_l42Put p0.Imm 12).bind fun r14 =>
       (s_l42Put p0.Rd 7).bind fun r15 =>
       some (iadd .i64 (iadd .i64 r14 r15) 55)
      else
       if ieq p0.Op 20 = true then
        (s_l42Jump p0).bind fun r16 =>
        some r16
       else
        if ieq p0.Op 21 = true then
         some 115
        else
         (s_l42Seven p0.Op).bind fun r17 =>
         (s_l42Put r17 25).bind fun r18 =>
         (s_l42Put p0.Rt 20).bind fun r19 =>
         (s_l42Mid p0 51).bind fun r20 =>
         (s_l42Put p0.Rd 7).bind fun r21 =>
         some (iadd .i64 (iadd .i64 (iadd .i64 r18 r19) r20) r21)

noncomputable def s_InstrEncode (p0 : gInstr) : Option (Int × Bool) :=
 (s_InstrValid p0).bind fun r1 =>
 if bnot r1 = true then
  some (0, false)
 else
  (s_l42Encode p0).bind fun r2 =>
  some (r2, true)

noncomputable def s_Wrap (p0 : Int) : Option (Int) :=
 (remx p0 4294967296).bind fun v1 =>
 if igt v1 2147483647 = true then
  some (isub .i64 v1 4294967296)
 else
  if ilt v1 (-2147483648) = true then
   some (iadd .i64 v1 4294967296)
  else
   some v1

noncomputable def s_l45Code_L1 (p1 : (List gInstr)) (s : Int × (List Int)) : Option (Flow (Int × (List Int)) (Sum ((List Int)) ((List Int) × Bool))) :=
 match s with
 | (s1, s2) =>
 if ilt s1 (ilen p1) = true then
  (idx p1 s1).bind fun v4 =>
  (s_InstrEncode v4).bind fun r5 =>
  if bnot r5.2 = true then
   some (.done (.inr (s2, false)))
  else
   (s_Wrap r5.1).bind fun r6 =>
   (appx 8 s2 ([r6] : List Int)).bind fun l7 =>
   some (.next (iadd .i64 s1 1, l7))
 else
  some (.done (.inl s2))

noncomputable def s_l45Code (p0 : (List Int)) (p1 : (List gInstr)) : Option ((List Int) × Bool) :=
 (loopM (s_l45Code_L1 p1) (0, p0)).bind fun e1 =>
 match e1 with
 | .inl y3 =>
  some (y3, true)
 | .inr r0 =>
  some r0

noncomputable def s_l45Code_o_L1 (p1 : (List gInstr)) (s : Int × (List Int)) : Option (Flow (Int × (List Int)) (Sum ((List Int)) ((List Int) × Bool))) :=
 match s with
 | (s1, s2) =>
 if ilt s1 (ilen p1) = true then
  (idx p1 s1).bind fun v4 =>
  (s_InstrEncode v4).bind fun r5 =>
  if bnot r5.2 = true then
   some (.done (.inr (s2, false)))
  else
   (s_Wrap r5.1).bind fun r6 =>
   (appx 8 s2 ([r6] : List Int)).bind fun l7 =>
   some (.next (iadd .i64 s1 1, l7))
 else
  some (.done (.inl s2))

noncomputable def s_l45Code_o (p0 : (List Int)) (p1 : (List gInstr)) : Option ((List Int) × Bool) :=
 (loopM (s_l45Code_o_L1 p1) (0, p0)).bind fun e1 =>
 match e1 with
 | .inl y3 =>
  some (y3, true)
 | .inr r0 =>
  some r0

noncomputable def s_HartNew (p0 : (List gInstr)) : Option (gMachine × Bool) :=
 if igt (ilen p0) 9987 = true then
  some ((⟨([] : List Int), 0, ([] : List Int)⟩ : gMachine), false)
 else
  (some ([0] : List Int)).bind fun l1 =>
  (s_l45Code_o l1 p0).bind fun r2 =>
  if bnot r2.2 = true then
   some ((⟨([] : List Int), 0, ([] : List Int)⟩ : gMachine), false)
  else
   (makex 8 32 0).bind fun l3 =>
   (idx l3 2).bind fun v4 =>
   (setx l3 2 (imul .i64 4 (ilen r2.1))).bind fun l5 =>
   (appzx 8 r2.1 12 0).bind fun l6 =>
   some ((⟨l5, 4, l6⟩ : gMachine), true)

noncomputable def s_SquadNew_L1 (p1 : (List (List gInstr))) (s : Int × gSquad × gSquad) : Option (Flow (Int × gSquad × gSquad) (Sum (gSquad × gSquad) (gSquad × Bool))) :=
 match s with
 | (s6, s7, s8) =>
 if ilt s6 (ilen p1) = true then
  (idx p1 s6).bind fun v11 =>
  (s_HartNew v11).bind fun r12 =>
  if bnot r12.2 = true then
   some (.done (.inr ((⟨([] : List gMachine), ([] : List gBox), 0, 0, ([] : List Int)⟩ : gSquad), false)))
  else
   (appx 56 s8.Harts ([r12.1] : List gMachine)).bind fun l13 =>
   some (.next (iadd .i64 s6 1, s7, (⟨l13, s8.Boxes, s8.Turn, s8.Idle, s8.Out⟩ : gSquad)))
 else
  some (.done (.inl (s7, s8)))

noncomputable def s_SquadNew (p0 : (List Int)) (p1 : (List (List gInstr))) : Option (gSquad × Bool) :=
 (s_l12Rooms p0).bind fun r1 =>
 (if bnot r1 = true then some true else (s_l6In (ilen p1) 1 3).bind fun r2 => some (bnot r2)).bind fun g3 =>
 if g3 = true then
  some ((⟨([] : List gMachine), ([] : List gBox), 0, 0, ([] : List Int)⟩ : gSquad), false)
 else
  (some ([] : List gMachine)).bind fun l4 =>
  (s_l16Empty p0).bind fun r5 =>
  (loopM (s_SquadNew_L1 p1) (0, (⟨([] : List gMachine), ([] : List gBox), 0, 0, ([] : List Int)⟩ : gSquad), (⟨l4, r5, 0, 0, ([] : List Int)⟩ : gSquad))).bind fun e1 =>
  match e1 with
  | .inl (y9, y10) =>
   some (y10, true)
  | .inr r0 =>
   some r0

noncomputable def i_roomsValid_L1 (p0 : (List Int)) (s : Int) : Option (Flow (Int) (Sum (Unit) (Bool))) :=
 let s1 := s
 if ilt s1 (ilen p0) = true then
  (idx p0 s1).bind fun v2 =>
  (if ilt v2 1 = true then some true else some (igt v2 4)).bind fun g3 =>
  if g3 = true then
   some (.done (.inr false))
  else
   some (.next (iadd .i64 s1 1))
 else
  some (.done (.inl ()))

noncomputable def i_roomsValid (p0 : (List Int)) : Option (Bool) :=
 (loopM (i_roomsValid_L1 p0) 0).bind fun e1 =>
 match e1 with
 | .inl _ =>
  some (ile (ilen p0) 3)
 | .inr r0 =>
  some r0

noncomputable def i_boxesNew_L1 (p0 : (List Int)) (s : Int × (List gBox)) : Option (Flow (Int × (List gBox)) ((List gBox))) :=
 match s with
 | (s1, s2) =>
 if ilt s1 (ilen p0) = true then
  (idx p0 s1).bind fun v4 =>
  (appx 32 s2 ([(⟨v4, ([] : List Int)⟩ : gBox)] : List gBox)).bind fun l5 =>
  some (.next (iadd .i64 s1 1, l5))
 else
  some (.done s2)

noncomputable def i_boxesNew (p0 : (List Int)) : Option ((List gBox)) :=
 (loopM (i_boxesNew_L1 p0) (0, ([] : List gBox))).bind fun e1 =>
 match e1 with
 | y3 =>
  some y3

noncomputable def i_isMachineReg (p0 : Int) : Option (Bool) :=
 (if ige p0 0 = true then some (ilt p0 32) else some false).bind fun g1 =>
 some g1

noncomputable def i_formatOf (p0 : Int) : Option (Int) :=
 (if ige p0 1 = true then some (ile p0 11) else some false).bind fun g1 =>
 if g1 = true then
  some 82
 else
  (if ige p0 12 = true then some (ile p0 15) else some false).bind fun g2 =>
  if g2 = true then
   some 73
  else
   if ieq p0 16 = true then
    some 83
   else
    (if ieq p0 17 = true then some true else some (ieq p0 18)).bind fun g3 =>
    if g3 = true then
     some 66
    else
     if ieq p0 19 = true then
      some 85
     else
      if ieq p0 20 = true then
       some 74
      else
       if ieq p0 21 = true then
        some 69
       else
        some 32

noncomputable def i_InstrValid (p0 : gInstr) : Option (Bool) :=
 (i_isMachineReg p0.Rd).bind fun r1 =>
 (i_isMachineReg p0.Rs).bind fun r2 =>
 (i_isMachineReg p0.Rt).bind fun r3 =>
 (if ige p0.Imm (-2048) = true then some (ile p0.Imm 2047) else some false).bind fun g4 =>
 (i_formatOf p0.Op).bind fun r5 =>
 if ieq r5 82 = true then
  (if r1 = true then some r2 else some false).bind fun g6 =>
  (if g6 = true then some r3 else some false).bind fun g7 =>
  (if g7 = true then some (ieq p0.Imm 0) else some false).bind fun g8 =>
  some g8
 else
  if ieq r5 73 = true then
   (if r1 = true then some r2 else some false).bind fun g9 =>
   (if g9 = true then some (ieq p0.Rt 0) else some false).bind fun g10 =>
   (if g10 = true then some g4 else some false).bind fun g11 =>
   some g11
  else
   if ieq r5 83 = true then
    (if ieq p0.Rd 0 = true then some r2 else some false).bind fun g12 =>
    (if g12 = true then some r3 else some false).bind fun g13 =>
    (if g13 = true then some g4 else some false).bind fun g14 =>
    some g14
   else
    if ieq r5 66 = true then
     (if ieq p0.Rd 0 = true then some r2 else some false).bind fun g15 =>
     (if g15 = true then some r3 else some false).bind fun g16 =>
     (if g16 = true then some (ige p0.Imm (-4096)) else some false).bind fun g17 =>
     (if g17 = true then some (ile p0.Imm 4094) else some false).bind fun g18 =>
     (if g18 = true then (remx p0.Imm 2).bind fun v19 => some (ieq v19 0) else some false).bind fun g20 =>
     some g20
    else
     if ieq r5 85 = true then
      (if r1 = true then some (ieq p0.Rs 0) else some false).bind fun g21 =>
      (if g21 = true then some (ieq p0.Rt 0) else some false).bind fun g22 =>
      (if g22 = true then some (ige p0.Imm 0) else some false).bind fun g23 =>
      (if g23 = true then some (ile p0.Imm 1048575) else some false).bind fun g24 =>
      some g24
     else
      if ieq r5 74 = true then
       (if r1 = true then some (ieq p0.Rs 0) else some false).bind fun g25 =>
       (if g25 = true then some (ieq p0.Rt 0) else some false).bind fun g26 =>
       (if g26 = true then some (ige p0.Imm (-1048576)) else some false).bind fun g27 =>
       (if g27 = true then some (ile p0.Imm 1048574) else some false).bind fun g28 =>
       (if g28 = true then (remx p0.Imm 2).bind fun v29 => some (ieq v29 0) else some false).bind fun g30 =>
       some g30
      else
       if ieq r5 69 = true then
        some (eqD p0 (⟨21, 0, 0, 0, 0⟩ : gInstr))
       else
        some false

noncomputable def i_WordValid (p0 : Int) : Option (Bool) :=
 (if ige p0 (-2147483648) = true then some (ile p0 2147483647) else some false).bind fun g1 =>
 some g1

noncomputable def i_Unsigned (p0 : Int) : Option (Int) :=
 (i_WordValid p0).bind fun r1 =>
 if bnot r1 = true then
  some (-1)
 else
  some (iconv .i64 (iconv .u32 p0))

noncomputable def i_isUnsigned (p0 : Int) : Option (Bool) :=
 (if ige p0 0 = true then some (ilt p0 4294967296) else some false).bind fun g1 =>
 some g1

noncomputable def i_Bits (p0 : Int) (p1 : Int) (p2 : Int) : Option (Int) :=
 (i_isUnsigned p0).bind fun r1 =>
 (if bnot r1 = true then some true else some (ilt p1 0)).bind fun g2 =>
 (if g2 = true then some true else some (igt p1 31)).bind fun g3 =>
 (if g3 = true then some true else some (ilt p2 1)).bind fun g4 =>
 (if g4 = true then some true else some (igt p2 (isub .i64 32 p1))).bind fun g5 =>
 if g5 = true then
  some 0
 else
  (shrx .i64 p0 p1).bind fun v6 =>
  (shlx .i64 1 p2).bind fun v7 =>
  some (iand .i64 v6 (isub .i64 v7 1))

noncomputable def i_InstrEncode_1 (p0 : Int) (p1 : Int) (p2 : Int) (pf0 : Int) : Option (Int) :=
 (i_Bits pf0 p0 p1).bind fun r1 =>
 (shlx .i64 r1 p2).bind fun v2 =>
 some v2

noncomputable def i_InstrEncode (p0 : gInstr) : Option (Int × Bool) :=
 (i_InstrValid p0).bind fun r1 =>
 if bnot r1 = true then
  some (0, false)
 else
  (idx (instrTab : List gInstrRow) (isub .i64 p0.Op 1)).bind fun v2 =>
  (i_Unsigned p0.Imm).bind fun r3 =>
  (shlx .i64 p0.Rt 20).bind fun v4 =>
  (shlx .i64 p0.Rs 15).bind fun v5 =>
  (shlx .i64 v2.funct3 12).bind fun v6 =>
  (i_formatOf p0.Op).bind fun r7 =>
  if ieq r7 82 = true then
   (shlx .i64 v2.funct7 25).bind fun v8 =>
   (shlx .i64 p0.Rd 7).bind fun v9 =>
   some (ior .i64 (ior .i64 v8 (ior .i64 (ior .i64 (ior .i64 v4 v5) v6) v2.opcode)) v9, true)
  else
   if ieq r7 73 = true then
    (shlx .i64 p0.Rd 7).bind fun v10 =>
    (i_InstrEncode_1 0 12 20 r3).bind fun r11 =>
    some (ior .i64 (ior .i64 r11 (ior .i64 (ior .i64 (ior .i64 v4 v5) v6) v2.opcode)) v10, true)
   else
    if ieq r7 83 = true then
     (i_InstrEncode_1 5 7 25 r3).bind fun r12 =>
     (i_InstrEncode_1 0 5 7 r3).bind fun r13 =>
     some (ior .i64 (ior .i64 r12 (ior .i64 (ior .i64 (ior .i64 v4 v5) v6) v2.opcode)) r13, true)
    else
     if ieq r7 66 = true then
      (i_InstrEncode_1 12 1 31 r3).bind fun r14 =>
      (i_InstrEncode_1 5 6 25 r3).bind fun r15 =>
      (i_InstrEncode_1 1 4 8 r3).bind fun r16 =>
      (i_InstrEncode_1 11 1 7 r3).bind fun r17 =>
      some (ior .i64 (ior .i64 (ior .i64 (ior .i64 r14 r15) (ior .i64 (ior .i64 (ior .i64 v4 v5) v6) v2.opcode)) r16) r17, true)
     else
      if ieq r7 85 = true then
       (shlx .i64 p0.Rd 7).bind fun v18 =>
       (i_InstrEncode_1 0 20 12 r3).bind fun r19 =>
       some (ior .i64 (ior .i64 r19 v18) v2.opcode, true)
      else
       if ieq r7 74 = true then
        (shlx .i64 p0.Rd 7).bind fun v20 =>
        (i_InstrEncode_1 20 1 31 r3).bind fun r21 =>
        (i_InstrEncode_1 1 10 21 r3).bind fun r22 =>
        (i_InstrEncode_1 11 1 20 r3).bind fun r23 =>
        (i_InstrEncode_1 12 8 12 r3).bind fun r24 =>
        some (ior .i64 (ior .i64 (ior .i64 (ior .i64 (ior .i64 r21 r22) r23) r24) v20) v2.opcode, true)
       else
        some (v2.opcode, true)

noncomputable def i_Wrap (p0 : Int) : Option (Int) :=
 some (iconv .i64 (iconv .i32 p0))

noncomputable def i_wordsOf_L1 (p0 : (List gInstr)) (s : Int × (List Int)) : Option (Flow (Int × (List Int)) (Sum ((List Int)) ((List Int) × Bool))) :=
 match s with
 | (s1, s2) =>
 if ilt s1 (ilen p0) = true then
  (idx p0 s1).bind fun v4 =>
  (i_InstrEncode v4).bind fun r5 =>
  if bnot r5.2 = true then
   some (.done (.inr (([] : List Int), false)))
  else
   (i_Wrap r5.1).bind fun r6 =>
   (appx 8 s2 ([r6] : List Int)).bind fun l7 =>
   some (.next (iadd .i64 s1 1, l7))
 else
  some (.done (.inl s2))

noncomputable def i_wordsOf (p0 : (List gInstr)) : Option ((List Int) × Bool) :=
 (loopM (i_wordsOf_L1 p0) (0, ([] : List Int))).bind fun e1 =>
 match e1 with
 | .inl y3 =>
  some (y3, true)
 | .inr r0 =>
  some r0

noncomputable def i_HartNew (p0 : (List gInstr)) : Option (gMachine × Bool) :=
 (i_wordsOf p0).bind fun r1 =>
 (if bnot r1.2 = true then some true else some (igt (iadd .i64 (iadd .i64 (ilen r1.1) 1) 12) 10000)).bind fun g2 =>
 if g2 = true then
  some ((⟨([] : List Int), 0, ([] : List Int)⟩ : gMachine), false)
 else
  (some ([0] : List Int)).bind fun l3 =>
  (appx 8 l3 r1.1).bind fun l4 =>
  (makex 8 32 0).bind fun l5 =>
  (idx l5 2).bind fun v6 =>
  (setx l5 2 (imul .i64 4 (ilen l4))).bind fun l7 =>
  (appzx 8 l4 12 0).bind fun l8 =>
  some ((⟨l7, 4, l8⟩ : gMachine), true)

noncomputable def i_SquadNew_L1 (p1 : (List (List gInstr))) (s : Int × gSquad × gSquad) : Option (Flow (Int × gSquad × gSquad) (Sum (gSquad × gSquad) (gSquad × Bool))) :=
 match s with
 | (s5, s6, s7) =>
 if ilt s5 (ilen p1) = true then
  (idx p1 s5).bind fun v10 =>
  (i_HartNew v10).bind fun r11 =>
  if bnot r11.2 = true then
   some (.done (.inr ((⟨([] : List gMachine), ([] : List gBox), 0, 0, ([] : List Int)⟩ : gSquad), false)))
  else
   (appx 56 s7.Harts ([r11.1] : List gMachine)).bind fun l12 =>
   some (.next (iadd .i64 s5 1, s6, (⟨l12, s7.Boxes, s7.Turn, s7.Idle, s7.Out⟩ : gSquad)))
 else
  some (.done (.inl (s6, s7)))

noncomputable def i_SquadNew (p0 : (List Int)) (p1 : (List (List gInstr))) : Option (gSquad × Bool) :=
 (i_roomsValid p0).bind fun r1 =>
 (if bnot r1 = true then some true else some (ilt (ilen p1) 1)).bind fun g2 =>
 (if g2 = true then some true else some (igt (ilen p1) 3)).bind fun g3 =>
 if g3 = true then
  some ((⟨([] : List gMachine), ([] : List gBox), 0, 0, ([] : List Int)⟩ : gSquad), false)
 else
  (i_boxesNew p0).bind fun r4 =>
  (loopM (i_SquadNew_L1 p1) (0, (⟨([] : List gMachine), ([] : List gBox), 0, 0, ([] : List Int)⟩ : gSquad), (⟨([] : List gMachine), r4, 0, 0, ([] : List Int)⟩ : gSquad))).bind fun e1 =>
  match e1 with
  | .inl (y8, y9) =>
   some (y9, true)
  | .inr r0 =>
   some r0

noncomputable def l_eqIntS_L1 (p0 : (List Int)) (p1 : (List Int)) (s : Int) : Option (Flow (Int) (Sum (Unit) (Bool))) :=
 let s1 := s
 if ilt s1 (ilen p0) = true then
  (idx p0 s1).bind fun v2 =>
  (idx p1 s1).bind fun v3 =>
  if ine v2 v3 = true then
   some (.done (.inr false))
  else
   some (.next (iadd .i64 s1 1))
 else
  some (.done (.inl ()))

noncomputable def l_eqIntS (p0 : (List Int)) (p1 : (List Int)) : Option (Bool) :=
 if ine (ilen p0) (ilen p1) = true then
  some false
 else
  (loopM (l_eqIntS_L1 p0 p1) 0).bind fun e1 =>
  match e1 with
  | .inl _ =>
   some true
  | .inr r0 =>
   some r0

noncomputable def l_eqMachine (p0 : gMachine) (p1 : gMachine) : Option (Bool) :=
 (l_eqIntS p0.Regs p1.Regs).bind fun r1 =>
 if bnot r1 = true then
  some false
 else
  if ine p0.Pc p1.Pc = true then
   some false
  else
   (l_eqIntS p0.Mem p1.Mem).bind fun r2 =>
   if bnot r2 = true then
    some false
   else
    some true

noncomputable def l_eqMachineS_L1 (p0 : (List gMachine)) (p1 : (List gMachine)) (s : Int) : Option (Flow (Int) (Sum (Unit) (Bool))) :=
 let s1 := s
 if ilt s1 (ilen p0) = true then
  (idx p0 s1).bind fun v2 =>
  (idx p1 s1).bind fun v3 =>
  (l_eqMachine v2 v3).bind fun r4 =>
  if bnot r4 = true then
   some (.done (.inr false))
  else
   some (.next (iadd .i64 s1 1))
 else
  some (.done (.inl ()))

noncomputable def l_eqMachineS (p0 : (List gMachine)) (p1 : (List gMachine)) : Option (Bool) :=
 if ine (ilen p0) (ilen p1) = true then
  some false
 else
  (loopM (l_eqMachineS_L1 p0 p1) 0).bind fun e1 =>
  match e1 with
  | .inl _ =>
   some true
  | .inr r0 =>
   some r0

noncomputable def l_eqBox (p0 : gBox) (p1 : gBox) : Option (Bool) :=
 if ine p0.Room p1.Room = true then
  some false
 else
  (l_eqIntS p0.Items p1.Items).bind fun r1 =>
  if bnot r1 = true then
   some false
  else
   some true

noncomputable def l_eqBoxS_L1 (p0 : (List gBox)) (p1 : (List gBox)) (s : Int) : Option (Flow (Int) (Sum (Unit) (Bool))) :=
 let s1 := s
 if ilt s1 (ilen p0) = true then
  (idx p0 s1).bind fun v2 =>
  (idx p1 s1).bind fun v3 =>
  (l_eqBox v2 v3).bind fun r4 =>
  if bnot r4 = true then
   some (.done (.inr false))
  else
   some (.next (iadd .i64 s1 1))
 else
  some (.done (.inl ()))

noncomputable def l_eqBoxS (p0 : (List gBox)) (p1 : (List gBox)) : Option (Bool) :=
 if ine (ilen p0) (ilen p1) = true then
  some false
 else
  (loopM (l_eqBoxS_L1 p0 p1) 0).bind fun e1 =>
  match e1 with
  | .inl _ =>
   some true
  | .inr r0 =>
   some r0

noncomputable def l_eqSquad (p0 : gSquad) (p1 : gSquad) : Option (Bool) :=
 (l_eqMachineS p0.Harts p1.Harts).bind fun r1 =>
 if bnot r1 = true then
  some false
 else
  (l_eqBoxS p0.Boxes p1.Boxes).bind fun r2 =>
  if bnot r2 = true then
   some false
  else
   if ine p0.Turn p1.Turn = true then
    some false
   else
    if ine p0.Idle p1.Idle = true then
     some false
    else
     (l_eqIntS p0.Out p1.Out).bind fun r3 =>
     if bnot r3 = true then
      some false
     else
      some true

noncomputable def l_eqInstr (p0 : gInstr) (p1 : gInstr) : Option (Bool) :=
 if ine p0.Op p1.Op = true then
  some false
 else
  if ine p0.Rd p1.Rd = true then
   some false
  else
   if ine p0.Rs p1.Rs = true then
    some false
   else
    if ine p0.Rt p1.Rt = true then
     some false
    else
     if ine p0.Imm p1.Imm = true then
      some false
     else
      some true

noncomputable def l_eqInstrS_L1 (p0 : (List gInstr)) (p1 : (List gInstr)) (s : Int) : Option (Flow (Int) (Sum (Unit) (Bool))) :=
 let s1 := s
 if ilt s1 (ilen p0) = true then
  (idx p0 s1).bind fun v2 =>
  (idx p1 s1).bind fun v3 =>
  (l_eqInstr v2 v3).bind fun r4 =>
  if bnot r4 = true then
   some (.done (.inr false))
  else
   some (.next (iadd .i64 s1 1))
 else
  some (.done (.inl ()))

noncomputable def l_eqInstrS (p0 : (List gInstr)) (p1 : (List gInstr)) : Option (Bool) :=
 if ine (ilen p0) (ilen p1) = true then
  some false
 else
  (loopM (l_eqInstrS_L1 p0 p1) 0).bind fun e1 =>
  match e1 with
  | .inl _ =>
   some true
  | .inr r0 =>
   some r0

noncomputable def l_eqInstrSS_L1 (p0 : (List (List gInstr))) (p1 : (List (List gInstr))) (s : Int) : Option (Flow (Int) (Sum (Unit) (Bool))) :=
 let s1 := s
 if ilt s1 (ilen p0) = true then
  (idx p0 s1).bind fun v2 =>
  (idx p1 s1).bind fun v3 =>
  (l_eqInstrS v2 v3).bind fun r4 =>
  if bnot r4 = true then
   some (.done (.inr false))
  else
   some (.next (iadd .i64 s1 1))
 else
  some (.done (.inl ()))

noncomputable def l_eqInstrSS (p0 : (List (List gInstr))) (p1 : (List (List gInstr))) : Option (Bool) :=
 if ine (ilen p0) (ilen p1) = true then
  some false
 else
  (loopM (l_eqInstrSS_L1 p0 p1) 0).bind fun e1 =>
  match e1 with
  | .inl _ =>
   some true
  | .inr r0 =>
   some r0

noncomputable def l_markIntS_L1 (s : Int × Int × (List Int)) : Option (Flow (Int × Int × (List Int)) (Int × (List Int))) :=
 match s with
 | (s1, s2, s3) =>
 if ilt s2 (ilen s3) = true then
  (idx s3 s2).bind fun v6 =>
  (setx s3 s2 s1).bind fun l7 =>
  some (.next (iadd .i64 s1 1, iadd .i64 s2 1, l7))
 else
  some (.done (s1, s3))

noncomputable def l_markIntS (p0 : (List Int)) (p1 : Int) : Option (Int × (List Int)) :=
 (loopM (l_markIntS_L1) (p1, 0, p0)).bind fun e1 =>
 match e1 with
 | (y4, y5) =>
  some (y4, y5)

noncomputable def l_toIntS_o_L1 (p0 : (List Int)) (s : Int × (List Int)) : Option (Flow (Int × (List Int)) ((List Int))) :=
 match s with
 | (s2, s3) =>
 if ilt s2 (ilen p0) = true then
  (idx p0 s2).bind fun v5 =>
  (idx s3 s2).bind fun v6 =>
  (setx s3 s2 v5).bind fun l7 =>
  some (.next (iadd .i64 s2 1, l7))
 else
  some (.done s3)

noncomputable def l_toIntS_o (p0 : (List Int)) : Option ((List Int)) :=
 (makex 8 (ilen p0) 0).bind fun l1 =>
 (loopM (l_toIntS_o_L1 p0) (0, l1)).bind fun e1 =>
 match e1 with
 | y4 =>
  some y4

noncomputable def i_SquadNew_o_L1 (p1 : (List (List gInstr))) (s : Int × gSquad × gSquad) : Option (Flow (Int × gSquad × gSquad) (Sum (gSquad × gSquad) (gSquad × Bool))) :=
 match s with
 | (s5, s6, s7) =>
 if ilt s5 (ilen p1) = true then
  (idx p1 s5).bind fun v10 =>
  (i_HartNew v10).bind fun r11 =>
  if bnot r11.2 = true then
   some (.done (.inr ((⟨([] : List gMachine), ([] : List gBox), 0, 0, ([] : List Int)⟩ : gSquad), false)))
  else
   (appx 56 s7.Harts ([r11.1] : List gMachine)).bind fun l12 =>
   some (.next (iadd .i64 s5 1, s6, (⟨l12, s7.Boxes, s7.Turn, s7.Idle, s7.Out⟩ : gSquad)))
 else
  some (.done (.inl (s6, s7)))

noncomputable def i_SquadNew_o (p0 : (List Int)) (p1 : (List (List gInstr))) : Option (gSquad × Bool) :=
 (i_roomsValid p0).bind fun r1 =>
 (if bnot r1 = true then some true else some (ilt (ilen p1) 1)).bind fun g2 =>
 (if g2 = true then some true else some (igt (ilen p1) 3)).bind fun g3 =>
 if g3 = true then
  some ((⟨([] : List gMachine), ([] : List gBox), 0, 0, ([] : List Int)⟩ : gSquad), false)
 else
  (i_boxesNew p0).bind fun r4 =>
  (loopM (i_SquadNew_o_L1 p1) (0, (⟨([] : List gMachine), ([] : List gBox), 0, 0, ([] : List Int)⟩ : gSquad), (⟨([] : List gMachine), r4, 0, 0, ([] : List Int)⟩ : gSquad))).bind fun e1 =>
  match e1 with
  | .inl (y8, y9) =>
   some (y9, true)
  | .inr r0 =>
   some r0

noncomputable def i_HartNew_o (p0 : (List gInstr)) : Option (gMachine × Bool) :=
 (i_wordsOf p0).bind fun r1 =>
 (if bnot r1.2 = true then some true else some (igt (iadd .i64 (iadd .i64 (ilen r1.1) 1) 12) 10000)).bind fun g2 =>
 if g2 = true then
  some ((⟨([] : List Int), 0, ([] : List Int)⟩ : gMachine), false)
 else
  (some ([0] : List Int)).bind fun l3 =>
  (appx 8 l3 r1.1).bind fun l4 =>
  (makex 8 32 0).bind fun l5 =>
  (idx l5 2).bind fun v6 =>
  (setx l5 2 (imul .i64 4 (ilen l4))).bind fun l7 =>
  (appzx 8 l4 12 0).bind fun l8 =>
  some ((⟨l7, 4, l8⟩ : gMachine), true)

noncomputable def i_SquadNew_o2_L1 (p1 : (List (List gInstr))) (s : Int × gSquad × gSquad) : Option (Flow (Int × gSquad × gSquad) (Sum (gSquad × gSquad) (gSquad × Bool))) :=
 match s with
 | (s5, s6, s7) =>
 if ilt s5 (ilen p1) = true then
  (idx p1 s5).bind fun v10 =>
  (i_HartNew_o v10).bind fun r11 =>
  if bnot r11.2 = true then
   some (.done (.inr ((⟨([] : List gMachine), ([] : List gBox), 0, 0, ([] : List Int)⟩ : gSquad), false)))
  else
   (appx 56 s7.Harts [r11.1]).bind fun l12 =>
   some (.next (iadd .i64 s5 1, s6, (⟨l12, s7.Boxes, s7.Turn, s7.Idle, s7.Out⟩ : gSquad)))
 else
  some (.done (.inl (s6, s7)))

noncomputable def i_SquadNew_o2 (p0 : (List Int)) (p1 : (List (List gInstr))) : Option (gSquad × Bool) :=
 (i_roomsValid p0).bind fun r1 =>
 (if bnot r1 = true then some true else some (ilt (ilen p1) 1)).bind fun g2 =>
 (if g2 = true then some true else some (igt (ilen p1) 3)).bind fun g3 =>
 if g3 = true then
  some ((⟨([] : List gMachine), ([] : List gBox), 0, 0, ([] : List Int)⟩ : gSquad), false)
 else
  (i_boxesNew p0).bind fun r4 =>
  (loopM (i_SquadNew_o2_L1 p1) (0, (⟨([] : List gMachine), ([] : List gBox), 0, 0, ([] : List Int)⟩ : gSquad), (⟨([] : List gMachine), r4, 0, 0, ([] : List Int)⟩ : gSquad))).bind fun e1 =>
  match e1 with
  | .inl (y8, y9) =>
   some (y9, true)
  | .inr r0 =>
   some r0

noncomputable def i_HartNew_o2 (p0 : (List gInstr)) : Option (gMachine × Bool) :=
 (i_wordsOf p0).bind fun r1 =>
 (if bnot r1.2 = true then some true else some (igt (iadd .i64 (iadd .i64 (ilen r1.1) 1) 12) 10000)).bind fun g2 =>
 if g2 = true then
  some ((⟨([] : List Int), 0, ([] : List Int)⟩ : gMachine), false)
 else
  (some ([0] : List Int)).bind fun l3 =>
  (appx 8 l3 r1.1).bind fun l4 =>
  (makex 8 32 0).bind fun l5 =>
  (idx l5 2).bind fun v6 =>
  (setx l5 2 (imul .i64 4 (ilen l4))).bind fun l7 =>
  (appzx 8 l4 12 0).bind fun l8 =>
  some ((⟨l7, 4, l8⟩ : gMachine), true)

noncomputable def i_SquadNew_o3_L1 (p1 : (List (List gInstr))) (s : Int × gSquad × gSquad) : Option (Flow (Int × gSquad × gSquad) (Sum (gSquad × gSquad) (gSquad × Bool))) :=
 match s with
 | (s5, s6, s7) =>
 if ilt s5 (ilen p1) = true then
  (idx p1 s5).bind fun v10 =>
  (i_HartNew_o2 v10).bind fun r11 =>
  if bnot r11.2 = true then
   some (.done (.inr ((⟨([] : List gMachine), ([] : List gBox), 0, 0, ([] : List Int)⟩ : gSquad), false)))
  else
   (appx 56 s7.Harts [r11.1]).bind fun l12 =>
   some (.next (iadd .i64 s5 1, s6, (⟨l12, s7.Boxes, s7.Turn, s7.Idle, s7.Out⟩ : gSquad)))
 else
  some (.done (.inl (s6, s7)))

noncomputable def i_SquadNew_o3 (p0 : (List Int)) (p1 : (List (List gInstr))) : Option (gSquad × Bool) :=
 (i_roomsValid p0).bind fun r1 =>
 (if bnot r1 = true then some true else some (ilt (ilen p1) 1)).bind fun g2 =>
 (if g2 = true then some true else some (igt (ilen p1) 3)).bind fun g3 =>
 if g3 = true then
  some ((⟨([] : List gMachine), ([] : List gBox), 0, 0, ([] : List Int)⟩ : gSquad), false)
 else
  (i_boxesNew p0).bind fun r4 =>
  (loopM (i_SquadNew_o3_L1 p1) (0, (⟨([] : List gMachine), ([] : List gBox), 0, 0, ([] : List Int)⟩ : gSquad), (⟨([] : List gMachine), r4, 0, 0, ([] : List Int)⟩ : gSquad))).bind fun e1 =>
  match e1 with
  | .inl (y8, y9) =>
   some (y9, true)
  | .inr r0 =>
   some r0

noncomputable def i_boxesNew_o_L1 (p0 : (List Int)) (s : Int × (List gBox)) : Option (Flow (Int × (List gBox)) ((List gBox))) :=
 match s with
 | (s1, s2) =>
 if ilt s1 (ilen p0) = true then
  (idx p0 s1).bind fun v4 =>
  (appx 32 s2 ([(⟨v4, ([] : List Int)⟩ : gBox)] : List gBox)).bind fun l5 =>
  some (.next (iadd .i64 s1 1, l5))
 else
  some (.done s2)

noncomputable def i_boxesNew_o (p0 : (List Int)) : Option ((List gBox)) :=
 (loopM (i_boxesNew_o_L1 p0) (0, ([] : List gBox))).bind fun e1 =>
 match e1 with
 | y3 =>
  some y3

noncomputable def i_SquadNew_o4_L1 (p1 : (List (List gInstr))) (s : Int × gSquad × gSquad) : Option (Flow (Int × gSquad × gSquad) (Sum (gSquad × gSquad) (gSquad × Bool))) :=
 match s with
 | (s5, s6, s7) =>
 if ilt s5 (ilen p1) = true then
  (idx p1 s5).bind fun v10 =>
  (i_HartNew_o2 v10).bind fun r11 =>
  if bnot r11.2 = true then
   some (.done (.inr ((⟨([] : List gMachine), ([] : List gBox), 0, 0, ([] : List Int)⟩ : gSquad), false)))
  else
   (appx 56 s7.Harts [r11.1]).bind fun l12 =>
   some (.next (iadd .i64 s5 1, s6, (⟨l12, s7.Boxes, s7.Turn, s7.Idle, s7.Out⟩ : gSquad)))
 else
  some (.done (.inl (s6, s7)))

noncomputable def i_SquadNew_o4 (p0 : (List Int)) (p1 : (List (List gInstr))) : Option (gSquad × Bool) :=
 (i_roomsValid p0).bind fun r1 =>
 (if bnot r1 = true then some true else some (ilt (ilen p1) 1)).bind fun g2 =>
 (if g2 = true then some true else some (igt (ilen p1) 3)).bind fun g3 =>
 if g3 = true then
  some ((⟨([] : List gMachine), ([] : List gBox), 0, 0, ([] : List Int)⟩ : gSquad), false)
 else
  (i_boxesNew_o p0).bind fun r4 =>
  (loopM (i_SquadNew_o4_L1 p1) (0, (⟨([] : List gMachine), ([] : List gBox), 0, 0, ([] : List Int)⟩ : gSquad), (⟨([] : List gMachine), r4, 0, 0, ([] : List Int)⟩ : gSquad))).bind fun e1 =>
  match e1 with
  | .inl (y8, y9) =>
   some (y9, true)
  | .inr r0 =>
   some r0

noncomputable def i_boxesNew_o2_L1 (p0 : (List Int)) (s : Int × (List gBox)) : Option (Flow (Int × (List gBox)) ((List gBox))) :=
 match s with
 | (s1, s2) =>
 if ilt s1 (ilen p0) = true then
  (idx p0 s1).bind fun v4 =>
  (appx 32 s2 [(⟨v4, ([] : List Int)⟩ : gBox)]).bind fun l5 =>
  some (.next (iadd .i64 s1 1, l5))
 else
  some (.done s2)

noncomputable def i_boxesNew_o2 (p0 : (List Int)) : Option ((List gBox)) :=
 (loopM (i_boxesNew_o2_L1 p0) (0, ([] : List gBox))).bind fun e1 =>
 match e1 with
 | y3 =>
  some y3

noncomputable def i_SquadNew_o5_L1 (p1 : (List (List gInstr))) (s : Int × gSquad × gSquad) : Option (Flow (Int × gSquad × gSquad) (Sum (gSquad × gSquad) (gSquad × Bool))) :=
 match s with
 | (s5, s6, s7) =>
 if ilt s5 (ilen p1) = true then
  (idx p1 s5).bind fun v10 =>
  (i_HartNew_o2 v10).bind fun r11 =>
  if bnot r11.2 = true then
   some (.done (.inr ((⟨([] : List gMachine), ([] : List gBox), 0, 0, ([] : List Int)⟩ : gSquad), false)))
  else
   (appx 56 s7.Harts [r11.1]).bind fun l12 =>
   some (.next (iadd .i64 s5 1, s6, (⟨l12, s7.Boxes, s7.Turn, s7.Idle, s7.Out⟩ : gSquad)))
 else
  some (.done (.inl (s6, s7)))

noncomputable def i_SquadNew_o5 (p0 : (List Int)) (p1 : (List (List gInstr))) : Option (gSquad × Bool) :=
 (i_roomsValid p0).bind fun r1 =>
 (if bnot r1 = true then some true else some (ilt (ilen p1) 1)).bind fun g2 =>
 (if g2 = true then some true else some (igt (ilen p1) 3)).bind fun g3 =>
 if g3 = true then
  some ((⟨([] : List gMachine), ([] : List gBox), 0, 0, ([] : List Int)⟩ : gSquad), false)
 else
  (i_boxesNew_o2 p0).bind fun r4 =>
  (loopM (i_SquadNew_o5_L1 p1) (0, (⟨([] : List gMachine), ([] : List gBox), 0, 0, ([] : List Int)⟩ : gSquad), (⟨([] : List gMachine), r4, 0, 0, ([] : List Int)⟩ : gSquad))).bind fun e1 =>
  match e1 with
  | .inl (y8, y9) =>
   some (y9, true)
  | .inr r0 =>
   some r0

noncomputable def i_SquadNew_o6_L1 (p1 : (List (List gInstr))) (s : Int × gSquad × gSquad) : Option (Flow (Int × gSquad × gSquad) (Sum (gSquad × gSquad) (gSquad × Bool))) :=
 match s with
 | (s5, s6, s7) =>
 if ilt s5 (ilen p1) = true then
  (idx p1 s5).bind fun v10 =>
  (i_HartNew_o2 v10).bind fun r11 =>
  if bnot r11.2 = true then
   some (.done (.inr ((⟨([] : List gMachine), ([] : List gBox), 0, 0, ([] : List Int)⟩ : gSquad), false)))
  else
   (appx 56 s7.Harts [r11.1]).bind fun l12 =>
   some (.next (iadd .i64 s5 1, s6, (⟨l12, s7.Boxes, s7.Turn, s7.Idle, s7.Out⟩ : gSquad)))
 else
  some (.done (.inl (s6, s7)))

noncomputable def i_SquadNew_o6 (p0 : (List Int)) (p1 : (List (List gInstr))) : Option (gSquad × Bool) :=
 (i_roomsValid p0).bind fun r1 =>
 (if bnot r1 = true then some true else some (ilt (ilen p1) 1)).bind fun g2 =>
 (if g2 = true then some true else some (igt (ilen p1) 3)).bind fun g3 =>
 if g3 = true then
  some ((⟨([] : List gMachine), ([] : List gBox), 0, 0, ([] : List Int)⟩ : gSquad), false)
 else
  (i_boxesNew_o2 p0).bind fun r4 =>
  (loopM (i_SquadNew_o6_L1 p1) (0, (⟨([] : List gMachine), ([] : List gBox), 0, 0, ([] : List Int)⟩ : gSquad), (⟨([] : List gMachine), r4, 0, 0, ([] : List Int)⟩ : gSquad))).bind fun e1 =>
  match e1 with
  | .inl (y8, y9) =>
   some (y9, true)
  | .inr r0 =>
   some r0

noncomputable def l_markInstrS_L1 (s : Int × Int × (List gInstr)) : Option (Flow (Int × Int × (List gInstr)) (Int × (List gInstr))) :=
 match s with
 | (s1, s2, s3) =>
 if ilt s2 (ilen s3) = true then
  (idx s3 s2).bind fun v6 =>
  (setx s3 s2 (⟨s1, v6.Rd, v6.Rs, v6.Rt, v6.Imm⟩ : gInstr)).bind fun l7 =>
  (idx l7 s2).bind fun v8 =>
  (setx l7 s2 (⟨v8.Op, iadd .i64 s1 1, v8.Rs, v8.Rt, v8.Imm⟩ : gInstr)).bind fun l9 =>
  (idx l9 s2).bind fun v10 =>
  (setx l9 s2 (⟨v10.Op, v10.Rd, iadd .i64 (iadd .i64 s1 1) 1, v10.Rt, v10.Imm⟩ : gInstr)).bind fun l11 =>
  (idx l11 s2).bind fun v12 =>
  (setx l11 s2 (⟨v12.Op, v12.Rd, v12.Rs, iadd .i64 (iadd .i64 (iadd .i64 s1 1) 1) 1, v12.Imm⟩ : gInstr)).bind fun l13 =>
  (idx l13 s2).bind fun v14 =>
  (setx l13 s2 (⟨v14.Op, v14.Rd, v14.Rs, v14.Rt, iadd .i64 (iadd .i64 (iadd .i64 (iadd .i64 s1 1) 1) 1) 1⟩ : gInstr)).bind fun l15 =>
  some (.next (iadd .i64 (iadd .i64 (iadd .i64 (iadd .i64 (iadd .i64 s1 1) 1) 1) 1) 1, iadd .i64 s2 1, l15))
 else
  some (.done (s1, s3))

noncomputable def l_markInstrS (p0 : (List gInstr)) (p1 : Int) : Option (Int × (List gInstr)) :=
 (loopM (l_markInstrS_L1) (p1, 0, p0)).bind fun e1 =>
 match e1 with
 | (y4, y5) =>
  some (y4, y5)

noncomputable def l_markInstrSS_L1 (s : Int × Int × (List (List gInstr))) : Option (Flow (Int × Int × (List (List gInstr))) (Int × (List (List gInstr)))) :=
 match s with
 | (s1, s2, s3) =>
 if ilt s2 (ilen s3) = true then
  (idx s3 s2).bind fun v6 =>
  (l_markInstrS v6 s1).bind fun r7 =>
  (setx s3 s2 r7.2).bind fun l8 =>
  some (.next (r7.1, iadd .i64 s2 1, l8))
 else
  some (.done (s1, s3))

noncomputable def l_markInstrSS (p0 : (List (List gInstr))) (p1 : Int) : Option (Int × (List (List gInstr))) :=
 (loopM (l_markInstrSS_L1) (p1, 0, p0)).bind fun e1 =>
 match e1 with
 | (y4, y5) =>
  some (y4, y5)

noncomputable def l_toInstrSS_o_L1 (p0 : (List (List gInstr))) (s : Int × (List (List gInstr))) : Option (Flow (Int × (List (List gInstr))) ((List (List gInstr)))) :=
 match s with
 | (s2, s3) =>
 if ilt s2 (ilen p0) = true then
  (idx p0 s2).bind fun v5 =>
  (l_toInstrS v5).bind fun r6 =>
  (idx s3 s2).bind fun v7 =>
  (setx s3 s2 r6).bind fun l8 =>
  some (.next (iadd .i64 s2 1, l8))
 else
  some (.done s3)

noncomputable def l_toInstrSS_o (p0 : (List (List gInstr))) : Option ((List (List gInstr))) :=
 (makex 24 (ilen p0) ([] : List gInstr)).bind fun l1 =>
 (loopM (l_toInstrSS_o_L1 p0) (0, l1)).bind fun e1 =>
 match e1 with
 | y4 =>
  some y4

noncomputable def l_toInstrS_o_L1 (p0 : (List gInstr)) (s : Int × (List gInstr)) : Option (Flow (Int × (List gInstr)) ((List gInstr))) :=
 match s with
 | (s2, s3) =>
 if ilt s2 (ilen p0) = true then
  (idx p0 s2).bind fun v5 =>
  (l_toInstr v5).bind fun r6 =>
  (idx s3 s2).bind fun v7 =>
  (setx s3 s2 r6).bind fun l8 =>
  some (.next (iadd .i64 s2 1, l8))
 else
  some (.done s3)

noncomputable def l_toInstrS_o (p0 : (List gInstr)) : Option ((List gInstr)) :=
 (makex 40 (ilen p0) (⟨0, 0, 0, 0, 0⟩ : gInstr)).bind fun l1 =>
 (loopM (l_toInstrS_o_L1 p0) (0, l1)).bind fun e1 =>
 match e1 with
 | y4 =>
  some y4

noncomputable def l_toInstrSS_o2_L1 (p0 : (List (List gInstr))) (s : Int × (List (List gInstr))) : Option (Flow (Int × (List (List gInstr))) ((List (List gInstr)))) :=
 match s with
 | (s2, s3) =>
 if ilt s2 (ilen p0) = true then
  (idx p0 s2).bind fun v5 =>
  (l_toInstrS_o v5).bind fun r6 =>
  (idx s3 s2).bind fun v7 =>
  (setx s3 s2 r6).bind fun l8 =>
  some (.next (iadd .i64 s2 1, l8))
 else
  some (.done s3)

noncomputable def l_toInstrSS_o2 (p0 : (List (List gInstr))) : Option ((List (List gInstr))) :=
 (makex 24 (ilen p0) ([] : List gInstr)).bind fun l1 =>
 (loopM (l_toInstrSS_o2_L1 p0) (0, l1)).bind fun e1 =>
 match e1 with
 | y4 =>
  some y4

noncomputable def l_markMachineS_L1 (s : Int × Int × (List gMachine)) : Option (Flow (Int × Int × (List gMachine)) (Int × (List gMachine))) :=
 match s with
 | (s1, s2, s3) =>
 if ilt s2 (ilen s3) = true then
  (idx s3 s2).bind fun v6 =>
  (l_markIntS v6.Regs s1).bind fun r7 =>
  (setx s3 s2 (⟨r7.2, r7.1, v6.Mem⟩ : gMachine)).bind fun l8 =>
  (idx l8 s2).bind fun v9 =>
  (l_markIntS v9.Mem (iadd .i64 r7.1 1)).bind fun r10 =>
  (setx l8 s2 (⟨v9.Regs, v9.Pc, r10.2⟩ : gMachine)).bind fun l11 =>
  some (.next (r10.1, iadd .i64 s2 1, l11))
 else
  some (.done (s1, s3))

noncomputable def l_markMachineS (p0 : (List gMachine)) (p1 : Int) : Option (Int × (List gMachine)) :=
 (loopM (l_markMachineS_L1) (p1, 0, p0)).bind fun e1 =>
 match e1 with
 | (y4, y5) =>
  some (y4, y5)

noncomputable def l_markBoxS_L1 (s : Int × Int × (List gBox)) : Option (Flow (Int × Int × (List gBox)) (Int × (List gBox))) :=
 match s with
 | (s1, s2, s3) =>
 if ilt s2 (ilen s3) = true then
  (idx s3 s2).bind fun v6 =>
  (setx s3 s2 (⟨s1, v6.Items⟩ : gBox)).bind fun l7 =>
  (idx l7 s2).bind fun v8 =>
  (l_markIntS v8.Items (iadd .i64 s1 1)).bind fun r9 =>
  (setx l7 s2 (⟨v8.Room, r9.2⟩ : gBox)).bind fun l10 =>
  some (.next (r9.1, iadd .i64 s2 1, l10))
 else
  some (.done (s1, s3))

noncomputable def l_markBoxS (p0 : (List gBox)) (p1 : Int) : Option (Int × (List gBox)) :=
 (loopM (l_markBoxS_L1) (p1, 0, p0)).bind fun e1 =>
 match e1 with
 | (y4, y5) =>
  some (y4, y5)

noncomputable def l_markSquad (p0 : gSquad) (p1 : Int) : Option (Int × gSquad) :=
 (l_markMachineS p0.Harts p1).bind fun r1 =>
 (l_markBoxS p0.Boxes r1.1).bind fun r2 =>
 (l_markIntS p0.Out r2.1).bind fun r3 =>
 some (r3.1, (⟨r1.2, r2.2, p0.Turn, p0.Idle, r3.2⟩ : gSquad))

noncomputable def l_heldIntS_L1 (p0 : (List Int)) (s : Int × Int) : Option (Flow (Int × Int) (Sum (Int) (Int))) :=
 match s with
 | (s1, s2) =>
 if ilt s2 (ilen p0) = true then
  (idx p0 s2).bind fun v4 =>
  if ine v4 s1 = true then
   some (.done (.inr (-1)))
  else
   some (.next (iadd .i64 s1 1, iadd .i64 s2 1))
 else
  some (.done (.inl s1))

noncomputable def l_heldIntS (p0 : (List Int)) (p1 : Int) : Option (Int) :=
 (loopM (l_heldIntS_L1 p0) (p1, 0)).bind fun e1 =>
 match e1 with
 | .inl y3 =>
  some y3
 | .inr r0 =>
  some r0

noncomputable def l_heldMachineS_L1 (p0 : (List gMachine)) (s : Int × Int) : Option (Flow (Int × Int) (Sum (Int) (Int))) :=
 match s with
 | (s1, s2) =>
 if ilt s2 (ilen p0) = true then
  (idx p0 s2).bind fun v4 =>
  (l_heldIntS v4.Regs s1).bind fun r5 =>
  if ilt r5 0 = true then
   some (.done (.inr (-1)))
  else
   if ine v4.Pc r5 = true then
    some (.done (.inr (-1)))
   else
    (l_heldIntS v4.Mem (iadd .i64 r5 1)).bind fun r6 =>
    if ilt r6 0 = true then
     some (.done (.inr (-1)))
    else
     some (.next (r6, iadd .i64 s2 1))
 else
  some (.done (.inl s1))

noncomputable def l_heldMachineS (p0 : (List gMachine)) (p1 : Int) : Option (Int) :=
 (loopM (l_heldMachineS_L1 p0) (p1, 0)).bind fun e1 =>
 match e1 with
 | .inl y3 =>
  some y3
 | .inr r0 =>
  some r0

noncomputable def l_heldBoxS_L1 (p0 : (List gBox)) (s : Int × Int) : Option (Flow (Int × Int) (Sum (Int) (Int))) :=
 match s with
 | (s1, s2) =>
 if ilt s2 (ilen p0) = true then
  (idx p0 s2).bind fun v4 =>
  if ine v4.Room s1 = true then
   some (.done (.inr (-1)))
  else
   (l_heldIntS v4.Items (iadd .i64 s1 1)).bind fun r5 =>
   if ilt r5 0 = true then
    some (.done (.inr (-1)))
   else
    some (.next (r5, iadd .i64 s2 1))
 else
  some (.done (.inl s1))

noncomputable def l_heldBoxS (p0 : (List gBox)) (p1 : Int) : Option (Int) :=
 (loopM (l_heldBoxS_L1 p0) (p1, 0)).bind fun e1 =>
 match e1 with
 | .inl y3 =>
  some y3
 | .inr r0 =>
  some r0

noncomputable def l_heldSquad (p0 : gSquad) (p1 : Int) : Option (Int) :=
 (l_heldMachineS p0.Harts p1).bind fun r1 =>
 if ilt r1 0 = true then
  some (-1)
 else
  (l_heldBoxS p0.Boxes r1).bind fun r2 =>
  if ilt r2 0 = true then
   some (-1)
  else
   (l_heldIntS p0.Out r2).bind fun r3 =>
   if ilt r3 0 = true then
    some (-1)
   else
    some r3

noncomputable def l_FnExactSquadNew (p0 : (List Int)) (p1 : (List (List gInstr))) : Option (Bool) :=
 if igt (ilen p0) 1048576 = true then
  some true
 else
  (l_szInstrSS p1 1048576).bind fun r1 =>
  if ilt r1 0 = true then
   some true
  else
   (l_toIntS p0).bind fun r2 =>
   (l_toInstrSS p1).bind fun r3 =>
   (s_SquadNew r2 r3).bind fun r4 =>
   (l_toIntS_o p0).bind fun r5 =>
   (l_toInstrSS_o2 p1).bind fun r6 =>
   (i_SquadNew_o6 r5 r6).bind fun r7 =>
   (l_eqSquad r7.1 r4.1).bind fun r8 =>
   (if bnot r8 = true then some true else some (bneb r7.2 r4.2)).bind fun g9 =>
   if g9 = true then
    some false
   else
    (l_eqIntS r5 r2).bind fun r10 =>
    if bnot r10 = true then
     some false
    else
     (l_eqInstrSS r6 r3).bind fun r11 =>
     if bnot r11 = true then
      some false
     else
      (l_markIntS r5 1).bind fun r12 =>
      (l_markInstrSS r6 r12.1).bind fun r13 =>
      (if ilt r13.1 0 = true then some true else some (bnot r8)).bind fun g14 =>
      (if g14 = true then some true else some (bneb r7.2 r4.2)).bind fun g15 =>
      if g15 = true then
       some false
      else
       (l_markSquad r7.1 1).bind fun r16 =>
       (l_heldSquad (⟨r16.2.Harts, r16.2.Boxes, r7.1.Turn, r7.1.Idle, r16.2.Out⟩ : gSquad) 1).bind fun r17 =>
       if ilt r17 0 = true then
        some false
       else
        if ine r17 r16.1 = true then
         some false
        else
         (i_SquadNew r2 r3).bind fun r18 =>
         (l_eqSquad r18.1 r4.1).bind fun r19 =>
         (if bnot r19 = true then some true else some (bneb r18.2 r4.2)).bind fun g20 =>
         if g20 = true then
          some false
         else
          if ilt r17 0 = true then
           some false
          else
           if ine r17 r16.1 = true then
            some false
           else
            some true

end Go.Abs
