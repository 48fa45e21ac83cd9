/- Words of the proof: YM. No conditions. -/
import Derived.Test.YtoklfbdcghgmlaaNYR0
set_option linter.unusedSimpArgs false
set_option linter.unusedVariables false
set_option maxRecDepth 20000
set_option maxHeartbeats 4000000
namespace Go.Abs
open Go

noncomputable def l_szIntS (p0 : (List Int)) (p1 : Int) : Option (Int) :=
  if ilt (isub .i64 p1 (ilen p0)) 0 = true then
    some (-1)
  else
    some (isub .i64 p1 (ilen p0))

noncomputable def l_szMachine (p0 : gMachine) (p1 : Int) : Option (Int) :=
  (l_szIntS p0.Regs p1).bind fun r1 =>
  if ilt r1 0 = true then
    some (-1)
  else
    (l_szIntS p0.Mem r1).bind fun r2 =>
    if ilt r2 0 = true then
      some (-1)
    else
      some r2

noncomputable def l_szBox (p0 : gBox) (p1 : Int) : Option (Int) :=
  (l_szIntS p0.Items p1).bind fun r1 =>
  if ilt r1 0 = true then
    some (-1)
  else
    some r1

noncomputable def l_szBoxS_L1 (p0 : (List gBox)) (s : Int × Int) : Option (Flow (Int × Int) (Sum (Int) (Int))) :=
  match s with
  | (s1, s2) =>
  if ilt s2 (ilen p0) = true then
    (idx p0 s2).bind fun v4 =>
    (l_szBox v4 s1).bind fun r5 =>
    if ilt r5 0 = true then
      some (.done (.inr (-1)))
    else
      some (.next (r5, iadd .i64 s2 1))
  else
    some (.done (.inl s1))

noncomputable def l_szBoxS (p0 : (List gBox)) (p1 : Int) : Option (Int) :=
  if ilt (isub .i64 p1 (ilen p0)) 0 = true then
    some (-1)
  else
    (loopM (l_szBoxS_L1 p0) (isub .i64 p1 (ilen p0), 0)).bind fun e1 =>
    match e1 with
    | .inl y3 =>
      some y3
    | .inr r0 =>
      some r0

noncomputable def l_toIntS_L1 (p0 : (List Int)) (s : Int × (List Int)) : Option (Flow (Int × (List Int)) ((List Int))) :=
  match s with
  | (s2, s3) =>
  if ilt s2 (ilen p0) = true then
    (idx p0 s2).bind fun v5 =>
    (idx s3 s2).bind fun v6 =>
    (setx s3 s2 v5).bind fun l7 =>
    some (.next (iadd .i64 s2 1, l7))
  else
    some (.done s3)

noncomputable def l_toIntS (p0 : (List Int)) : Option ((List Int)) :=
  (makex 8 (ilen p0) 0).bind fun l1 =>
  (loopM (l_toIntS_L1 p0) (0, l1)).bind fun e1 =>
  match e1 with
  | y4 =>
    some y4

noncomputable def l_toMachine (p0 : gMachine) : Option (gMachine) :=
  (l_toIntS p0.Regs).bind fun r1 =>
  (l_toIntS p0.Mem).bind fun r2 =>
  some (⟨r1, p0.Pc, r2⟩ : gMachine)

noncomputable def l_toBox (p0 : gBox) : Option (gBox) :=
  (l_toIntS p0.Items).bind fun r1 =>
  some (⟨p0.Room, r1⟩ : gBox)

noncomputable def l_toBoxS_L1 (p0 : (List gBox)) (s : Int × (List gBox)) : Option (Flow (Int × (List gBox)) ((List gBox))) :=
  match s with
  | (s2, s3) =>
  if ilt s2 (ilen p0) = true then
    (idx p0 s2).bind fun v5 =>
    (l_toBox v5).bind fun r6 =>
    (idx s3 s2).bind fun v7 =>
    (setx s3 s2 r6).bind fun l8 =>
    some (.next (iadd .i64 s2 1, l8))
  else
    some (.done s3)

noncomputable def l_toBoxS (p0 : (List gBox)) : Option ((List gBox)) :=
  (makex 32 (ilen p0) (⟨0, ([] : List Int)⟩ : gBox)).bind fun l1 =>
  (loopM (l_toBoxS_L1 p0) (0, l1)).bind fun e1 =>
  match e1 with
  | y4 =>
    some y4

noncomputable def s_l6In (p0 : Int) (p1 : Int) (p2 : Int) : Option (Bool) :=
  (if ige p0 p1 = true then some (ile p0 p2) else some false).bind fun g1 =>
  some g1

noncomputable def s_WordValid (p0 : Int) : Option (Bool) :=
  (s_l6In p0 (-2147483648) 2147483647).bind fun r1 =>
  some r1

noncomputable def s_l4Words_L1 (p0 : (List Int)) (s : Int) : Option (Flow (Int) (Sum (Unit) (Bool))) :=
  let s1 := s
  if ilt s1 (ilen p0) = true then
    (idx p0 s1).bind fun v2 =>
    (s_WordValid v2).bind fun r3 =>
    if bnot r3 = true then
      some (.done (.inr false))
    else
      some (.next (iadd .i64 s1 1))
  else
    some (.done (.inl ()))

noncomputable def s_l4Words (p0 : (List Int)) (p1 : Int) : Option (Bool) :=
  if ine (ilen p0) p1 = true then
    some false
  else
    (loopM (s_l4Words_L1 p0) 0).bind fun e1 =>
    match e1 with
    | .inl _ =>
      some true
    | .inr r0 =>
      some r0

noncomputable def s_MachineValid (p0 : gMachine) : Option (Bool) :=
  (s_l4Words p0.Regs 32).bind fun r1 =>
  (if r1 = true then (idx p0.Regs 0).bind fun v2 => some (ieq v2 0) else some false).bind fun g3 =>
  (if g3 = true then (s_WordValid p0.Pc).bind fun r4 => some r4 else some false).bind fun g5 =>
  (if g5 = true then some (ile (ilen p0.Mem) 10000) else some false).bind fun g6 =>
  (if g6 = true then (s_l4Words p0.Mem (ilen p0.Mem)).bind fun r7 => some r7 else some false).bind fun g8 =>
  some g8

noncomputable def s_BoxValid (p0 : gBox) : Option (Bool) :=
  (s_l6In p0.Room 1 4).bind fun r1 =>
  (if r1 = true then some (ile (ilen p0.Items) p0.Room) else some false).bind fun g2 =>
  (if g2 = true then (s_l4Words p0.Items (ilen p0.Items)).bind fun r3 => some r3 else some false).bind fun g4 =>
  some g4

noncomputable def s_l15Boxes_L1 (p0 : (List gBox)) (s : Int) : Option (Flow (Int) (Sum (Unit) (Bool))) :=
  let s1 := s
  if ilt s1 (ilen p0) = true then
    (idx p0 s1).bind fun v2 =>
    (s_BoxValid v2).bind fun r3 =>
    if bnot r3 = true then
      some (.done (.inr false))
    else
      some (.next (iadd .i64 s1 1))
  else
    some (.done (.inl ()))

noncomputable def s_l15Boxes (p0 : (List gBox)) : Option (Bool) :=
  (loopM (s_l15Boxes_L1 p0) 0).bind fun e1 =>
  match e1 with
  | .inl _ =>
    some (ile (ilen p0) 3)
  | .inr r0 =>
    some r0

noncomputable def s_l45Fits (p0 : gMachine) (p1 : Int) : Option (Bool) :=
  (idx p0.Regs 17).bind fun v1 =>
  (if ine p0.Pc 0 = true then some true else (s_l6In v1 1 5).bind fun r2 => some (bnot r2)).bind fun g3 =>
  if g3 = true then
    some false
  else
    (if ine v1 1 = true then some (ine v1 2) else some false).bind fun g4 =>
    (if g4 = true then some true else (idx p0.Regs 11).bind fun v5 => (s_l6In v5 0 (isub .i64 p1 1)).bind fun r6 => some r6).bind fun g7 =>
    some g7

noncomputable def s_l44Copy (p0 : gMachine) : Option (gMachine) :=
  (appx 8 ([] : List Int) p0.Regs).bind fun l1 =>
  (appx 8 ([] : List Int) p0.Mem).bind fun l2 =>
  some (⟨l1, p0.Pc, l2⟩ : gMachine)

noncomputable def s_l15BoxesCopy_L1 (p0 : (List gBox)) (s : Int × (List gBox)) : Option (Flow (Int × (List gBox)) ((List gBox))) :=
  match s with
  | (s1, s2) =>
  if ilt s1 (ilen p0) = true then
    (idx p0 s1).bind fun v4 =>
    (appx 8 ([] : List Int) v4.Items).bind fun l5 =>
    (appx 32 s2 ([(⟨v4.Room, l5⟩ : gBox)] : List gBox)).bind fun l6 =>
    some (.next (iadd .i64 s1 1, l6))
  else
    some (.done s2)

noncomputable def s_l15BoxesCopy (p0 : (List gBox)) : Option ((List gBox)) :=
  (loopM (s_l15BoxesCopy_L1 p0) (0, ([] : List gBox))).bind fun e1 =>
  match e1 with
  | y3 =>
    some y3

noncomputable def s_BoxPut (p0 : gBox) (p1 : Int) : Option (gBox × Bool) :=
  (s_BoxValid p0).bind fun r1 =>
  (if bnot r1 = true then some true else (s_WordValid p1).bind fun r2 => some (bnot r2)).bind fun g3 =>
  (if g3 = true then some true else some (ige (ilen p0.Items) p0.Room)).bind fun g4 =>
  if g4 = true then
    some ((⟨0, ([] : List Int)⟩ : gBox), false)
  else
    (appx 8 ([] : List Int) p0.Items).bind fun l5 =>
    (appx 8 l5 ([p1] : List Int)).bind fun l6 =>
    some ((⟨p0.Room, l6⟩ : gBox), true)

noncomputable def s_BoxTake (p0 : gBox) : Option (gBox × Int × Bool) :=
  (s_BoxValid p0).bind fun r1 =>
  (if bnot r1 = true then some true else some (ieq (ilen p0.Items) 0)).bind fun g2 =>
  if g2 = true then
    some ((⟨0, ([] : List Int)⟩ : gBox), 0, false)
  else
    (cutx p0.Items 1 (ilen p0.Items)).bind fun l3 =>
    (appx 8 ([] : List Int) l3).bind fun l4 =>
    (idx p0.Items 0).bind fun v5 =>
    some ((⟨p0.Room, l4⟩ : gBox), v5, true)

noncomputable def s_l45Talk (p0 : gMachine) (p1 : (List gBox)) : Option (Int × gMachine × (List gBox)) :=
  (idx p0.Regs 11).bind fun v1 =>
  (idx p0.Regs 17).bind fun v2 =>
  if ieq v2 1 = true then
    (idx p1 v1).bind fun v4 =>
    (idx p0.Regs 10).bind fun v5 =>
    (s_BoxPut v4 v5).bind fun r6 =>
    if bnot r6.2 = true then
      some (3, p0, p1)
    else
      (setx p1 v1 r6.1).bind fun l7 =>
      (idx p0.Regs 1).bind fun v8 =>
      some (1, (⟨p0.Regs, v8, p0.Mem⟩ : gMachine), l7)
  else
    (idx p1 v1).bind fun v9 =>
    (s_BoxTake v9).bind fun r10 =>
    if bnot r10.2.2 = true then
      some (3, p0, p1)
    else
      (setx p1 v1 r10.1).bind fun l11 =>
      (idx p0.Regs 10).bind fun v12 =>
      (setx p0.Regs 10 r10.2.1).bind fun l13 =>
      (idx l13 1).bind fun v14 =>
      some (1, (⟨l13, v14, p0.Mem⟩ : gMachine), l11)

noncomputable def s_l45Call (p0 : gMachine) (p1 : (List gBox)) : Option ((List Int) × Int × gMachine × (List gBox)) :=
  (idx p0.Regs 17).bind fun v1 =>
  (if ieq v1 1 = true then
    some (ieq v1 1)
  else
    some (ieq v1 2)).bind fun j1 =>
  if j1 = true then
    (s_l45Talk p0 p1).bind fun r3 =>
    some (([] : List Int), r3.1, r3.2.1, r3.2.2)
  else
    if ieq v1 5 = true then
      some (([] : List Int), 4, p0, p1)
    else
      (idx p0.Regs 1).bind fun v4 =>
      if ieq v1 4 = true then
        (idx p0.Regs 10).bind fun v5 =>
        some (([v5] : List Int), 1, (⟨p0.Regs, v4, p0.Mem⟩ : gMachine), p1)
      else
        some (([] : List Int), 2, (⟨p0.Regs, v4, p0.Mem⟩ : gMachine), p1)

noncomputable def s_l44Copy_o (p0 : gMachine) : Option (gMachine) :=
  (appx 8 ([] : List Int) p0.Regs).bind fun l1 =>
  (appx 8 ([] : List Int) p0.Mem).bind fun l2 =>
  some (⟨l1, p0.Pc, l2⟩ : gMachine)

noncomputable def s_l15BoxesCopy_o_L1 (p0 : (List gBox)) (s : Int × (List gBox)) : Option (Flow (Int × (List gBox)) ((List gBox))) :=
  match s with
  | (s1, s2) =>
  if ilt s1 (ilen p0) = true then
    (idx p0 s1).bind fun v4 =>
    (appx 8 ([] : List Int) v4.Items).bind fun l5 =>
    (appx 32 s2 ([(⟨v4.Room, l5⟩ : gBox)] : List gBox)).bind fun l6 =>
    some (.next (iadd .i64 s1 1, l6))
  else
    some (.done s2)

noncomputable def s_l15BoxesCopy_o (p0 : (List gBox)) : Option ((List gBox)) :=
  (loopM (s_l15BoxesCopy_o_L1 p0) (0, ([] : List gBox))).bind fun e1 =>
  match e1 with
  | y3 =>
    some y3

noncomputable def s_HartCall (p0 : gMachine) (p1 : (List gBox)) : Option (gMachine × (List gBox) × (List Int) × Int) :=
  (s_MachineValid p0).bind fun r1 =>
  (if bnot r1 = true then some true else (s_l15Boxes p1).bind fun r2 => some (bnot r2)).bind fun g3 =>
  (if g3 = true then some true else (s_l45Fits p0 (ilen p1)).bind fun r4 => some (bnot r4)).bind fun g5 =>
  if g5 = true then
    some ((⟨([] : List Int), 0, ([] : List Int)⟩ : gMachine), ([] : List gBox), ([] : List Int), 0)
  else
    (s_l44Copy_o p0).bind fun r6 =>
    (s_l15BoxesCopy_o p1).bind fun r7 =>
    (s_l45Call r6 r7).bind fun r8 =>
    some (r8.2.2.1, r8.2.2.2, r8.1, r8.2.1)

noncomputable def i_WordValid (p0 : Int) : Option (Bool) :=
  (if ige p0 (-2147483648) = true then some (ile p0 2147483647) else some false).bind fun g1 =>
  some g1

noncomputable def i_areWords_L1 (p0 : (List Int)) (s : Int) : Option (Flow (Int) (Sum (Unit) (Bool))) :=
  let s1 := s
  if ilt s1 (ilen p0) = true then
    (idx p0 s1).bind fun v2 =>
    (i_WordValid v2).bind fun r3 =>
    if bnot r3 = true then
      some (.done (.inr false))
    else
      some (.next (iadd .i64 s1 1))
  else
    some (.done (.inl ()))

noncomputable def i_areWords (p0 : (List Int)) : Option (Bool) :=
  (loopM (i_areWords_L1 p0) 0).bind fun e1 =>
  match e1 with
  | .inl _ =>
    some true
  | .inr r0 =>
    some r0

noncomputable def i_MachineValid (p0 : gMachine) : Option (Bool) :=
  (if ieq (ilen p0.Regs) 32 = true then (i_areWords p0.Regs).bind fun r1 => some r1 else some false).bind fun g2 =>
  (if g2 = true then (idx p0.Regs 0).bind fun v3 => some (ieq v3 0) else some false).bind fun g4 =>
  (if g4 = true then (i_WordValid p0.Pc).bind fun r5 => some r5 else some false).bind fun g6 =>
  (if g6 = true then some (ile (ilen p0.Mem) 10000) else some false).bind fun g7 =>
  (if g7 = true then (i_areWords p0.Mem).bind fun r8 => some r8 else some false).bind fun g9 =>
  some g9

noncomputable def i_BoxValid (p0 : gBox) : Option (Bool) :=
  (if ige p0.Room 1 = true then some (ile p0.Room 4) else some false).bind fun g1 =>
  (if g1 = true then some (ile (ilen p0.Items) p0.Room) else some false).bind fun g2 =>
  (if g2 = true then (i_areWords p0.Items).bind fun r3 => some r3 else some false).bind fun g4 =>
  some g4

noncomputable def i_boxesValid_L1 (p0 : (List gBox)) (s : Int) : Option (Flow (Int) (Sum (Unit) (Bool))) :=
  let s1 := s
  if ilt s1 (ilen p0) = true then
    (idx p0 s1).bind fun v2 =>
    (i_BoxValid v2).bind fun r3 =>
    if bnot r3 = true then
      some (.done (.inr false))
    else
      some (.next (iadd .i64 s1 1))
  else
    some (.done (.inl ()))

noncomputable def i_boxesValid (p0 : (List gBox)) : Option (Bool) :=
  (loopM (i_boxesValid_L1 p0) 0).bind fun e1 =>
  match e1 with
  | .inl _ =>
    some (ile (ilen p0) 3)
  | .inr r0 =>
    some r0

noncomputable def slices_Clone_int_int (p0 : (List Int)) : Option ((List Int)) :=
  if false = true then
    some ([] : List Int)
  else
    (appx 8 ([] : List Int) p0).bind fun l1 =>
    some l1

noncomputable def i_machineCopy (p0 : gMachine) : Option (gMachine) :=
  (slices_Clone_int_int p0.Regs).bind fun r1 =>
  (slices_Clone_int_int p0.Mem).bind fun r2 =>
  some (⟨r1, p0.Pc, r2⟩ : gMachine)

noncomputable def i_boxesCopy_L1 (p0 : (List gBox)) (s : Int × (List gBox)) : Option (Flow (Int × (List gBox)) ((List gBox))) :=
  match s with
  | (s1, s2) =>
  if ilt s1 (ilen p0) = true then
    (idx p0 s1).bind fun v4 =>
    (slices_Clone_int_int v4.Items).bind fun r5 =>
    (appx 32 s2 ([(⟨v4.Room, r5⟩ : gBox)] : List gBox)).bind fun l6 =>
    some (.next (iadd .i64 s1 1, l6))
  else
    some (.done s2)

noncomputable def i_boxesCopy (p0 : (List gBox)) : Option ((List gBox)) :=
  (loopM (i_boxesCopy_L1 p0) (0, ([] : List gBox))).bind fun e1 =>
  match e1 with
  | y3 =>
    some y3

noncomputable def i_Box_put (p0 : gBox) (p1 : Int) : Option (Bool × gBox) :=
  if ieq (ilen p0.Items) p0.Room = true then
    some (false, p0)
  else
    (appx 8 p0.Items ([p1] : List Int)).bind fun l1 =>
    some (true, (⟨p0.Room, l1⟩ : gBox))

noncomputable def i_Box_take (p0 : gBox) : Option (Int × Bool × gBox) :=
  if ieq (ilen p0.Items) 0 = true then
    some (0, false, p0)
  else
    (idx p0.Items 0).bind fun v1 =>
    (cutx p0.Items 0 0).bind fun l2 =>
    (cutx p0.Items 1 (ilen p0.Items)).bind fun l3 =>
    (appx 8 l2 l3).bind fun l4 =>
    some (v1, true, (⟨p0.Room, l4⟩ : gBox))

noncomputable def i_Machine_call (p0 : gMachine) (p1 : (List gBox)) (p2 : (List Int)) : Option (Int × gMachine × (List gBox) × (List Int)) :=
  (idx p0.Regs 17).bind fun v1 =>
  (idx p0.Regs 11).bind fun v2 =>
  (if ine p0.Pc 0 = true then some true else (if ieq v1 1 = true then some true else some (ieq v1 2)).bind fun g3 => (if g3 = true then (if ilt v2 0 = true then some true else some (ige v2 (ilen p1))).bind fun g4 => some g4 else some false).bind fun g5 => some g5).bind fun g6 =>
  if g6 = true then
    some (0, p0, p1, p2)
  else
    (if ieq v1 1 = true then
      (idx p1 v2).bind fun v13 =>
      (idx p0.Regs 10).bind fun v14 =>
      (i_Box_put v13 v14).bind fun r15 =>
      (setx p1 v2 r15.2).bind fun l16 =>
      if bnot r15.1 = true then
        (some (3, p0, l16, p2)).bind fun z => some (Flow.done z)
      else
        some (Flow.next (1, p0, l16, p2))
    else
      if ieq v1 2 = true then
        (idx p1 v2).bind fun v17 =>
        (i_Box_take v17).bind fun r18 =>
        (setx p1 v2 r18.2.2).bind fun l19 =>
        if bnot r18.2.1 = true then
          (some (3, p0, l19, p2)).bind fun z => some (Flow.done z)
        else
          (idx p0.Regs 10).bind fun v20 =>
          (setx p0.Regs 10 r18.1).bind fun l21 =>
          some (Flow.next (1, (⟨l21, p0.Pc, p0.Mem⟩ : gMachine), l19, p2))
      else
        if ieq v1 3 = true then
          some (Flow.next (2, p0, p1, p2))
        else
          if ieq v1 4 = true then
            (idx p0.Regs 10).bind fun v22 =>
            (appx 8 p2 ([v22] : List Int)).bind fun l23 =>
            some (Flow.next (1, p0, p1, l23))
          else
            if ieq v1 5 = true then
              (some (4, p0, p1, p2)).bind fun z => some (Flow.done z)
            else
              (some (0, p0, p1, p2)).bind fun z => some (Flow.done z)).bind fun flj1 =>
    match flj1 with
    | .next j1 =>
      (idx j1.2.1.Regs 1).bind fun v11 =>
      some (j1.1, (⟨j1.2.1.Regs, v11, j1.2.1.Mem⟩ : gMachine), j1.2.2.1, j1.2.2.2)
    | .done z => some z

noncomputable def slices_Clone_int_int_o (p0 : (List Int)) : Option ((List Int)) :=
  if false = true then
    some ([] : List Int)
  else
    (appx 8 ([] : List Int) p0).bind fun l1 =>
    some l1

noncomputable def i_machineCopy_o (p0 : gMachine) : Option (gMachine) :=
  (slices_Clone_int_int_o p0.Regs).bind fun r1 =>
  (slices_Clone_int_int p0.Mem).bind fun r2 =>
  some (⟨r1, p0.Pc, r2⟩ : gMachine)

noncomputable def i_boxesCopy_o_L1 (p0 : (List gBox)) (s : Int × (List gBox)) : Option (Flow (Int × (List gBox)) ((List gBox))) :=
  match s with
  | (s1, s2) =>
  if ilt s1 (ilen p0) = true then
    (idx p0 s1).bind fun v4 =>
    (slices_Clone_int_int v4.Items).bind fun r5 =>
    (appx 32 s2 ([(⟨v4.Room, r5⟩ : gBox)] : List gBox)).bind fun l6 =>
    some (.next (iadd .i64 s1 1, l6))
  else
    some (.done s2)

noncomputable def i_boxesCopy_o (p0 : (List gBox)) : Option ((List gBox)) :=
  (loopM (i_boxesCopy_o_L1 p0) (0, ([] : List gBox))).bind fun e1 =>
  match e1 with
  | y3 =>
    some y3

noncomputable def i_boxesCopy_o2_L1 (p0 : (List gBox)) (s : Int × (List gBox)) : Option (Flow (Int × (List gBox)) ((List gBox))) :=
  match s with
  | (s1, s2) =>
  if ilt s1 (ilen p0) = true then
    (idx p0 s1).bind fun v4 =>
    (slices_Clone_int_int_o v4.Items).bind fun r5 =>
    (appx 32 s2 [(⟨v4.Room, r5⟩ : gBox)]).bind fun l6 =>
    some (.next (iadd .i64 s1 1, l6))
  else
    some (.done s2)

noncomputable def i_boxesCopy_o2 (p0 : (List gBox)) : Option ((List gBox)) :=
  (loopM (i_boxesCopy_o2_L1 p0) (0, ([] : List gBox))).bind fun e1 =>
  match e1 with
  | y3 =>
    some y3

noncomputable def i_HartCall (p0 : gMachine) (p1 : (List gBox)) : Option (gMachine × (List gBox) × (List Int) × Int) :=
  (i_MachineValid p0).bind fun r1 =>
  (if bnot r1 = true then some true else (i_boxesValid p1).bind fun r2 => some (bnot r2)).bind fun g3 =>
  if g3 = true then
    some ((⟨([] : List Int), 0, ([] : List Int)⟩ : gMachine), ([] : List gBox), ([] : List Int), 0)
  else
    (i_machineCopy_o p0).bind fun r4 =>
    (i_boxesCopy_o2 p1).bind fun r5 =>
    (i_Machine_call r4 r5 ([] : List Int)).bind fun r6 =>
    if ieq r6.1 0 = true then
      some ((⟨([] : List Int), 0, ([] : List Int)⟩ : gMachine), ([] : List gBox), ([] : List Int), 0)
    else
      some (r6.2.1, r6.2.2.1, r6.2.2.2, r6.1)

noncomputable def l_eqIntS_L1 (p0 : (List Int)) (p1 : (List Int)) (s : Int) : Option (Flow (Int) (Sum (Unit) (Bool))) :=
  let s1 := s
  if ilt s1 (ilen p0) = true then
    (idx p0 s1).bind fun v2 =>
    (idx p1 s1).bind fun v3 =>
    if ine v2 v3 = true then
      some (.done (.inr false))
    else
      some (.next (iadd .i64 s1 1))
  else
    some (.done (.inl ()))

noncomputable def l_eqIntS (p0 : (List Int)) (p1 : (List Int)) : Option (Bool) :=
  if ine (ilen p0) (ilen p1) = true then
    some false
  else
    (loopM (l_eqIntS_L1 p0 p1) 0).bind fun e1 =>
    match e1 with
    | .inl _ =>
      some true
    | .inr r0 =>
      some r0

noncomputable def l_eqMachine (p0 : gMachine) (p1 : gMachine) : Option (Bool) :=
  (l_eqIntS p0.Regs p1.Regs).bind fun r1 =>
  if bnot r1 = true then
    some false
  else
    if ine p0.Pc p1.Pc = true then
      some false
    else
      (l_eqIntS p0.Mem p1.Mem).bind fun r2 =>
      if bnot r2 = true then
        some false
      else
        some true

noncomputable def l_eqBox (p0 : gBox) (p1 : gBox) : Option (Bool) :=
  if ine p0.Room p1.Room = true then
    some false
  else
    (l_eqIntS p0.Items p1.Items).bind fun r1 =>
    if bnot r1 = true then
      some false
    else
      some true

noncomputable def l_eqBoxS_L1 (p0 : (List gBox)) (p1 : (List gBox)) (s : Int) : Option (Flow (Int) (Sum (Unit) (Bool))) :=
  let s1 := s
  if ilt s1 (ilen p0) = true then
    (idx p0 s1).bind fun v2 =>
    (idx p1 s1).bind fun v3 =>
    (l_eqBox v2 v3).bind fun r4 =>
    if bnot r4 = true then
      some (.done (.inr false))
    else
      some (.next (iadd .i64 s1 1))
  else
    some (.done (.inl ()))

noncomputable def l_eqBoxS (p0 : (List gBox)) (p1 : (List gBox)) : Option (Bool) :=
  if ine (ilen p0) (ilen p1) = true then
    some false
  else
    (loopM (l_eqBoxS_L1 p0 p1) 0).bind fun e1 =>
    match e1 with
    | .inl _ =>
      some true
    | .inr r0 =>
      some r0

noncomputable def l_markIntS_L1 (s : Int × Int × (List Int)) : Option (Flow (Int × Int × (List Int)) (Int × (List Int))) :=
  match s with
  | (s1, s2, s3) =>
  if ilt s2 (ilen s3) = true then
    (idx s3 s2).bind fun v6 =>
    (setx s3 s2 s1).bind fun l7 =>
    some (.next (iadd .i64 s1 1, iadd .i64 s2 1, l7))
  else
    some (.done (s1, s3))

noncomputable def l_markIntS (p0 : (List Int)) (p1 : Int) : Option (Int × (List Int)) :=
  (loopM (l_markIntS_L1) (p1, 0, p0)).bind fun e1 =>
  match e1 with
  | (y4, y5) =>
    some (y4, y5)

noncomputable def l_markMachine (p0 : gMachine) (p1 : Int) : Option (Int × gMachine) :=
  (l_markIntS p0.Regs p1).bind fun r1 =>
  (l_markIntS p0.Mem r1.1).bind fun r2 =>
  some (r2.1, (⟨r1.2, p0.Pc, r2.2⟩ : gMachine))

noncomputable def l_toIntS_o_L1 (p0 : (List Int)) (s : Int × (List Int)) : Option (Flow (Int × (List Int)) ((List Int))) :=
  match s with
  | (s2, s3) =>
  if ilt s2 (ilen p0) = true then
    (idx p0 s2).bind fun v5 =>
    (idx s3 s2).bind fun v6 =>
    (setx s3 s2 v5).bind fun l7 =>
    some (.next (iadd .i64 s2 1, l7))
  else
    some (.done s3)

noncomputable def l_toIntS_o (p0 : (List Int)) : Option ((List Int)) :=
  (makex 8 (ilen p0) 0).bind fun l1 =>
  (loopM (l_toIntS_o_L1 p0) (0, l1)).bind fun e1 =>
  match e1 with
  | y4 =>
    some y4

noncomputable def l_toMachine_o (p0 : gMachine) : Option (gMachine) :=
  (l_toIntS_o p0.Regs).bind fun r1 =>
  (l_toIntS p0.Mem).bind fun r2 =>
  some (⟨r1, p0.Pc, r2⟩ : gMachine)

noncomputable def i_HartCall_o (p0 : gMachine) (p1 : (List gBox)) : Option (gMachine × (List gBox) × (List Int) × Int) :=
  (i_MachineValid p0).bind fun r1 =>
  (if bnot r1 = true then some true else (i_boxesValid p1).bind fun r2 => some (bnot r2)).bind fun g3 =>
  if g3 = true then
    some ((⟨([] : List Int), 0, ([] : List Int)⟩ : gMachine), ([] : List gBox), ([] : List Int), 0)
  else
    (i_machineCopy_o p0).bind fun r4 =>
    (i_boxesCopy_o2 p1).bind fun r5 =>
    (i_Machine_call r4 r5 ([] : List Int)).bind fun r6 =>
    if ieq r6.1 0 = true then
      some ((⟨([] : List Int), 0, ([] : List Int)⟩ : gMachine), ([] : List gBox), ([] : List Int), 0)
    else
      some (r6.2.1, r6.2.2.1, r6.2.2.2, r6.1)

noncomputable def i_machineCopy_o2 (p0 : gMachine) : Option (gMachine) :=
  (slices_Clone_int_int_o p0.Regs).bind fun r1 =>
  (slices_Clone_int_int_o p0.Mem).bind fun r2 =>
  some (⟨r1, p0.Pc, r2⟩ : gMachine)

noncomputable def i_Machine_call_moo (p0 : gMachine) (p1 : (List gBox)) (p2 : (List Int)) : Option (Int × gMachine × (List gBox) × (List Int)) :=
  (idx p0.Regs 17).bind fun v1 =>
  (idx p0.Regs 11).bind fun v2 =>
  (if ine p0.Pc 0 = true then some true else (if ieq v1 1 = true then some true else some (ieq v1 2)).bind fun g3 => (if g3 = true then (if ilt v2 0 = true then some true else some (ige v2 (ilen p1))).bind fun g4 => some g4 else some false).bind fun g5 => some g5).bind fun g6 =>
  if g6 = true then
    some (0, p0, p1, p2)
  else
    (if ieq v1 1 = true then
      (idx p1 v2).bind fun v13 =>
      (idx p0.Regs 10).bind fun v14 =>
      (i_Box_put v13 v14).bind fun r15 =>
      (setx p1 v2 r15.2).bind fun l16 =>
      if bnot r15.1 = true then
        (some (3, p0, l16, p2)).bind fun z => some (Flow.done z)
      else
        some (Flow.next (1, p0, l16, p2))
    else
      if ieq v1 2 = true then
        (idx p1 v2).bind fun v17 =>
        (i_Box_take v17).bind fun r18 =>
        (setx p1 v2 r18.2.2).bind fun l19 =>
        if bnot r18.2.1 = true then
          (some (3, p0, l19, p2)).bind fun z => some (Flow.done z)
        else
          (idx p0.Regs 10).bind fun v20 =>
          (setx p0.Regs 10 r18.1).bind fun l21 =>
          some (Flow.next (1, (⟨l21, p0.Pc, p0.Mem⟩ : gMachine), l19, p2))
      else
        if ieq v1 3 = true then
          some (Flow.next (2, p0, p1, p2))
        else
          if ieq v1 4 = true then
            (idx p0.Regs 10).bind fun v22 =>
            (appx 8 p2 ([v22] : List Int)).bind fun l23 =>
            some (Flow.next (1, p0, p1, l23))
          else
            if ieq v1 5 = true then
              (some (4, p0, p1, p2)).bind fun z => some (Flow.done z)
            else
              (some (0, p0, p1, p2)).bind fun z => some (Flow.done z)).bind fun flj1 =>
    match flj1 with
    | .next j1 =>
      (idx j1.2.1.Regs 1).bind fun v11 =>
      some (j1.1, (⟨j1.2.1.Regs, v11, j1.2.1.Mem⟩ : gMachine), j1.2.2.1, j1.2.2.2)
    | .done z => some z

noncomputable def i_HartCall_o2 (p0 : gMachine) (p1 : (List gBox)) : Option (gMachine × (List gBox) × (List Int) × Int) :=
  (i_MachineValid p0).bind fun r1 =>
  (if bnot r1 = true then some true else (i_boxesValid p1).bind fun r2 => some (bnot r2)).bind fun g3 =>
  if g3 = true then
    some ((⟨([] : List Int), 0, ([] : List Int)⟩ : gMachine), ([] : List gBox), ([] : List Int), 0)
  else
    (i_machineCopy_o2 p0).bind fun r4 =>
    (i_boxesCopy_o2 p1).bind fun r5 =>
    (i_Machine_call_moo r4 r5 ([] : List Int)).bind fun r6 =>
    if ieq r6.1 0 = true then
      some ((⟨([] : List Int), 0, ([] : List Int)⟩ : gMachine), ([] : List gBox), ([] : List Int), 0)
    else
      some (r6.2.1, r6.2.2.1, r6.2.2.2, r6.1)

noncomputable def i_HartCall_o4 (p0 : gMachine) (p1 : (List gBox)) : Option (gMachine × (List gBox) × (List Int) × Int) :=
  (i_MachineValid p0).bind fun r1 =>
  (if bnot r1 = true then some true else (i_boxesValid p1).bind fun r2 => some (bnot r2)).bind fun g3 =>
  if g3 = true then
    some ((⟨([] : List Int), 0, ([] : List Int)⟩ : gMachine), ([] : List gBox), ([] : List Int), 0)
  else
    (i_machineCopy_o2 p0).bind fun r4 =>
    (i_boxesCopy_o2 p1).bind fun r5 =>
    (i_Machine_call_moo r4 r5 ([] : List Int)).bind fun r6 =>
    if ieq r6.1 0 = true then
      some ((⟨([] : List Int), 0, ([] : List Int)⟩ : gMachine), ([] : List gBox), ([] : List Int), 0)
    else
      some (r6.2.1, r6.2.2.1, r6.2.2.2, r6.1)

noncomputable def i_HartCall_o5 (p0 : gMachine) (p1 : (List gBox)) : Option (gMachine × (List gBox) × (List Int) × Int) :=
  (i_MachineValid p0).bind fun r1 =>
  (if bnot r1 = true then some true else (i_boxesValid p1).bind fun r2 => some (bnot r2)).bind fun g3 =>
  if g3 = true then
    some ((⟨([] : List Int), 0, ([] : List Int)⟩ : gMachine), ([] : List gBox), ([] : List Int), 0)
  else
    (i_machineCopy_o2 p0).bind fun r4 =>
    (i_boxesCopy_o2 p1).bind fun r5 =>
    (i_Machine_call_moo r4 r5 ([] : List Int)).bind fun r6 =>
    if ieq r6.1 0 = true then
      some ((⟨([] : List Int), 0, ([] : List Int)⟩ : gMachine), ([] : List gBox), ([] : List Int), 0)
    else
      some (r6.2.1, r6.2.2.1, r6.2.2.2, r6.1)

noncomputable def l_toMachine_o2 (p0 : gMachine) : Option (gMachine) :=
  (l_toIntS_o p0.Regs).bind fun r1 =>
  (l_toIntS_o p0.Mem).bind fun r2 =>
  some (⟨r1, p0.Pc, r2⟩ : gMachine)

noncomputable def l_markBoxS_L1 (s : Int × Int × (List gBox)) : Option (Flow (Int × Int × (List gBox)) (Int × (List gBox))) :=
  match s with
  | (s1, s2, s3) =>
  if ilt s2 (ilen s3) = true then
    (idx s3 s2).bind fun v6 =>
    (setx s3 s2 (⟨s1, v6.Items⟩ : gBox)).bind fun l7 =>
    (idx l7 s2).bind fun v8 =>
    (l_markIntS v8.Items (iadd .i64 s1 1)).bind fun r9 =>
    (setx l7 s2 (⟨v8.Room, r9.2⟩ : gBox)).bind fun l10 =>
    some (.next (r9.1, iadd .i64 s2 1, l10))
  else
    some (.done (s1, s3))

noncomputable def l_markBoxS (p0 : (List gBox)) (p1 : Int) : Option (Int × (List gBox)) :=
  (loopM (l_markBoxS_L1) (p1, 0, p0)).bind fun e1 =>
  match e1 with
  | (y4, y5) =>
    some (y4, y5)

noncomputable def l_toBoxS_o_L1 (p0 : (List gBox)) (s : Int × (List gBox)) : Option (Flow (Int × (List gBox)) ((List gBox))) :=
  match s with
  | (s2, s3) =>
  if ilt s2 (ilen p0) = true then
    (idx p0 s2).bind fun v5 =>
    (l_toBox v5).bind fun r6 =>
    (idx s3 s2).bind fun v7 =>
    (setx s3 s2 r6).bind fun l8 =>
    some (.next (iadd .i64 s2 1, l8))
  else
    some (.done s3)

noncomputable def l_toBoxS_o (p0 : (List gBox)) : Option ((List gBox)) :=
  (makex 32 (ilen p0) (⟨0, ([] : List Int)⟩ : gBox)).bind fun l1 =>
  (loopM (l_toBoxS_o_L1 p0) (0, l1)).bind fun e1 =>
  match e1 with
  | y4 =>
    some y4

noncomputable def l_toBox_o (p0 : gBox) : Option (gBox) :=
  (l_toIntS_o p0.Items).bind fun r1 =>
  some (⟨p0.Room, r1⟩ : gBox)

noncomputable def l_toBoxS_o2_L1 (p0 : (List gBox)) (s : Int × (List gBox)) : Option (Flow (Int × (List gBox)) ((List gBox))) :=
  match s with
  | (s2, s3) =>
  if ilt s2 (ilen p0) = true then
    (idx p0 s2).bind fun v5 =>
    (l_toBox_o v5).bind fun r6 =>
    (idx s3 s2).bind fun v7 =>
    (setx s3 s2 r6).bind fun l8 =>
    some (.next (iadd .i64 s2 1, l8))
  else
    some (.done s3)

noncomputable def l_toBoxS_o2 (p0 : (List gBox)) : Option ((List gBox)) :=
  (makex 32 (ilen p0) (⟨0, ([] : List Int)⟩ : gBox)).bind fun l1 =>
  (loopM (l_toBoxS_o2_L1 p0) (0, l1)).bind fun e1 =>
  match e1 with
  | y4 =>
    some y4

noncomputable def l_heldIntS_L1 (p0 : (List Int)) (s : Int × Int) : Option (Flow (Int × Int) (Sum (Int) (Int))) :=
  match s with
  | (s1, s2) =>
  if ilt s2 (ilen p0) = true then
    (idx p0 s2).bind fun v4 =>
    if ine v4 s1 = true then
      some (.done (.inr (-1)))
    else
      some (.next (iadd .i64 s1 1, iadd .i64 s2 1))
  else
    some (.done (.inl s1))

noncomputable def l_heldIntS (p0 : (List Int)) (p1 : Int) : Option (Int) :=
  (loopM (l_heldIntS_L1 p0) (p1, 0)).bind fun e1 =>
  match e1 with
  | .inl y3 =>
    some y3
  | .inr r0 =>
    some r0

noncomputable def l_heldMachine (p0 : gMachine) (p1 : Int) : Option (Int) :=
  (l_heldIntS p0.Regs p1).bind fun r1 =>
  if ilt r1 0 = true then
    some (-1)
  else
    (l_heldIntS p0.Mem r1).bind fun r2 =>
    if ilt r2 0 = true then
      some (-1)
    else
      some r2

noncomputable def l_heldBoxS_L1 (p0 : (List gBox)) (s : Int × Int) : Option (Flow (Int × Int) (Sum (Int) (Int))) :=
  match s with
  | (s1, s2) =>
  if ilt s2 (ilen p0) = true then
    (idx p0 s2).bind fun v4 =>
    if ine v4.Room s1 = true then
      some (.done (.inr (-1)))
    else
      (l_heldIntS v4.Items (iadd .i64 s1 1)).bind fun r5 =>
      if ilt r5 0 = true then
        some (.done (.inr (-1)))
      else
        some (.next (r5, iadd .i64 s2 1))
  else
    some (.done (.inl s1))

noncomputable def l_heldBoxS (p0 : (List gBox)) (p1 : Int) : Option (Int) :=
  (loopM (l_heldBoxS_L1 p0) (p1, 0)).bind fun e1 =>
  match e1 with
  | .inl y3 =>
    some y3
  | .inr r0 =>
    some r0

noncomputable def l_FnExactHartCall (p0 : gMachine) (p1 : (List gBox)) : Option (Bool) :=
  (l_szMachine p0 1048576).bind fun r1 =>
  if ilt r1 0 = true then
    some true
  else
    (l_szBoxS p1 r1).bind fun r2 =>
    if ilt r2 0 = true then
      some true
    else
      (l_toMachine p0).bind fun r3 =>
      (l_toBoxS p1).bind fun r4 =>
      (s_HartCall r3 r4).bind fun r5 =>
      (l_toMachine_o2 p0).bind fun r6 =>
      (l_toBoxS_o2 p1).bind fun r7 =>
      (i_HartCall_o5 r6 r7).bind fun r8 =>
      (l_eqMachine r8.1 r5.1).bind fun r9 =>
      (if bnot r9 = true then some true else (l_eqBoxS r8.2.1 r5.2.1).bind fun r10 => some (bnot r10)).bind fun g11 =>
      (if g11 = true then some true else (l_eqIntS r8.2.2.1 r5.2.2.1).bind fun r12 => some (bnot r12)).bind fun g13 =>
      (if g13 = true then some true else some (ine r8.2.2.2 r5.2.2.2)).bind fun g14 =>
      if g14 = true then
        some false
      else
        (l_eqMachine r6 r3).bind fun r15 =>
        if bnot r15 = true then
          some false
        else
          (l_eqBoxS r7 r4).bind fun r16 =>
          if bnot r16 = true then
            some false
          else
            (l_markMachine r6 1).bind fun r17 =>
            (l_markBoxS r7 r17.1).bind fun r18 =>
            (if ilt r18.1 0 = true then some true else some (bnot r9)).bind fun g19 =>
            (if g19 = true then some true else (l_eqBoxS r8.2.1 r5.2.1).bind fun r20 => some (bnot r20)).bind fun g21 =>
            (if g21 = true then some true else (l_eqIntS r8.2.2.1 r5.2.2.1).bind fun r22 => some (bnot r22)).bind fun g23 =>
            (if g23 = true then some true else some (ine r8.2.2.2 r5.2.2.2)).bind fun g24 =>
            if g24 = true then
              some false
            else
              (l_markMachine r8.1 1).bind fun r25 =>
              (l_markBoxS r8.2.1 r25.1).bind fun r26 =>
              (l_markIntS r8.2.2.1 r26.1).bind fun r27 =>
              (l_heldMachine (⟨r25.2.Regs, r8.1.Pc, r25.2.Mem⟩ : gMachine) 1).bind fun r28 =>
              if ilt r28 0 = true then
                some false
              else
                (l_heldBoxS r26.2 r28).bind fun r29 =>
                if ilt r29 0 = true then
                  some false
                else
                  (l_heldIntS r27.2 r29).bind fun r30 =>
                  if ilt r30 0 = true then
                    some false
                  else
                    if ine r30 r27.1 = true then
                      some false
                    else
                      (i_HartCall r3 r4).bind fun r31 =>
                      (l_eqMachine r31.1 r5.1).bind fun r32 =>
                      (if bnot r32 = true then some true else (l_eqBoxS r31.2.1 r5.2.1).bind fun r33 => some (bnot r33)).bind fun g34 =>
                      (if g34 = true then some true else (l_eqIntS r31.2.2.1 r5.2.2.1).bind fun r35 => some (bnot r35)).bind fun g36 =>
                      (if g36 = true then some true else some (ine r31.2.2.2 r5.2.2.2)).bind fun g37 =>
                      if g37 = true then
                        some false
                      else
                        if ilt r28 0 = true then
                          some false
                        else
                          if ilt r29 0 = true then
                            some false
                          else
                            if ilt r30 0 = true then
                              some false
                            else
                              if ine r30 r27.1 = true then
                                some false
                              else
                                some true

noncomputable def l_szMachineS_L1 (p0 : (List gMachine)) (s : Int × Int) : Option (Flow (Int × Int) (Sum (Int) (Int))) :=
  match s with
  | (s1, s2) =>
  if ilt s2 (ilen p0) = true then
    (idx p0 s2).bind fun v4 =>
    (l_szMachine v4 s1).bind fun r5 =>
    if ilt r5 0 = true then
      some (.done (.inr (-1)))
    else
      some (.next (r5, iadd .i64 s2 1))
  else
    some (.done (.inl s1))

noncomputable def l_szMachineS (p0 : (List gMachine)) (p1 : Int) : Option (Int) :=
  if ilt (isub .i64 p1 (ilen p0)) 0 = true then
    some (-1)
  else
    (loopM (l_szMachineS_L1 p0) (isub .i64 p1 (ilen p0), 0)).bind fun e1 =>
    match e1 with
    | .inl y3 =>
      some y3
    | .inr r0 =>
      some r0

noncomputable def l_szSquad (p0 : gSquad) (p1 : Int) : Option (Int) :=
  (l_szMachineS p0.Harts p1).bind fun r1 =>
  if ilt r1 0 = true then
    some (-1)
  else
    (l_szBoxS p0.Boxes r1).bind fun r2 =>
    if ilt r2 0 = true then
      some (-1)
    else
      (l_szIntS p0.Out r2).bind fun r3 =>
      if ilt r3 0 = true then
        some (-1)
      else
        some r3

noncomputable def l_toMachineS_L1 (p0 : (List gMachine)) (s : Int × (List gMachine)) : Option (Flow (Int × (List gMachine)) ((List gMachine))) :=
  match s with
  | (s2, s3) =>
  if ilt s2 (ilen p0) = true then
    (idx p0 s2).bind fun v5 =>
    (l_toMachine v5).bind fun r6 =>
    (idx s3 s2).bind fun v7 =>
    (setx s3 s2 r6).bind fun l8 =>
    some (.next (iadd .i64 s2 1, l8))
  else
    some (.done s3)

noncomputable def l_toMachineS (p0 : (List gMachine)) : Option ((List gMachine)) :=
  (makex 56 (ilen p0) (⟨([] : List Int), 0, ([] : List Int)⟩ : gMachine)).bind fun l1 =>
  (loopM (l_toMachineS_L1 p0) (0, l1)).bind fun e1 =>
  match e1 with
  | y4 =>
    some y4

noncomputable def l_toSquad (p0 : gSquad) : Option (gSquad) :=
  (l_toMachineS p0.Harts).bind fun r1 =>
  (l_toBoxS p0.Boxes).bind fun r2 =>
  (l_toIntS p0.Out).bind fun r3 =>
  some (⟨r1, r2, p0.Turn, p0.Idle, r3⟩ : gSquad)

noncomputable def s_l45Valid_L1 (p0 : gSquad) (s : Int) : Option (Flow (Int) (Sum (Unit) (Bool))) :=
  let s8 := s
  if ilt s8 (ilen p0.Harts) = true then
    (idx p0.Harts s8).bind fun v9 =>
    (s_MachineValid v9).bind fun r10 =>
    if bnot r10 = true then
      some (.done (.inr false))
    else
      some (.next (iadd .i64 s8 1))
  else
    some (.done (.inl ()))

noncomputable def s_l45Valid (p0 : gSquad) : Option (Bool) :=
  (s_l6In (ilen p0.Harts) 1 3).bind fun r1 =>
  (if bnot r1 = true then some true else (s_l15Boxes p0.Boxes).bind fun r2 => some (bnot r2)).bind fun g3 =>
  (if g3 = true then some true else (s_l6In p0.Turn 0 (isub .i64 (ilen p0.Harts) 1)).bind fun r4 => some (bnot r4)).bind fun g5 =>
  (if g5 = true then some true else (s_l6In p0.Idle 0 (ilen p0.Harts)).bind fun r6 => some (bnot r6)).bind fun g7 =>
  if g7 = true then
    some false
  else
    (loopM (s_l45Valid_L1 p0) 0).bind fun e1 =>
    match e1 with
    | .inl _ =>
      (s_l4Words p0.Out (ilen p0.Out)).bind fun r11 =>
      some r11
    | .inr r0 =>
      some r0

noncomputable def s_l16Items_L1 (p0 : (List gBox)) (s : Int × (List (List Int))) : Option (Flow (Int × (List (List Int))) ((List (List Int)))) :=
  match s with
  | (s1, s2) =>
  if ilt s1 (ilen p0) = true then
    (idx p0 s1).bind fun v4 =>
    (appx 8 ([] : List Int) v4.Items).bind fun l5 =>
    (appx 24 s2 ([l5] : List (List Int))).bind fun l6 =>
    some (.next (iadd .i64 s1 1, l6))
  else
    some (.done s2)

noncomputable def s_l16Items (p0 : (List gBox)) : Option ((List (List Int))) :=
  (loopM (s_l16Items_L1 p0) (0, ([] : List (List Int)))).bind fun e1 =>
  match e1 with
  | y3 =>
    some y3

noncomputable def s_SquadOutcome_L1 (p0 : gSquad) (s : Int × gOutcome × gOutcome) : Option (Flow (Int × gOutcome × gOutcome) (gOutcome × gOutcome)) :=
  match s with
  | (s5, s6, s7) =>
  if ilt s5 (ilen p0.Harts) = true then
    (idx p0.Harts s5).bind fun v10 =>
    (if ieq v10.Pc 0 = true then (idx v10.Regs 17).bind fun v11 => some (ieq v11 5) else some false).bind fun g12 =>
    (appx 1 s7.Ended ([g12] : List Bool)).bind fun l13 =>
    some (.next (iadd .i64 s5 1, s6, (⟨s7.Out, s7.Items, l13, s7.Rest⟩ : gOutcome)))
  else
    some (.done (s6, s7))

noncomputable def s_SquadOutcome (p0 : gSquad) : Option (gOutcome) :=
  (s_l45Valid p0).bind fun r1 =>
  if bnot r1 = true then
    some (⟨([] : List Int), ([] : List (List Int)), ([] : List Bool), false⟩ : gOutcome)
  else
    (appx 8 ([] : List Int) p0.Out).bind fun l2 =>
    (s_l16Items p0.Boxes).bind fun r3 =>
    (some ([] : List Bool)).bind fun l4 =>
    (loopM (s_SquadOutcome_L1 p0) (0, (⟨([] : List Int), ([] : List (List Int)), ([] : List Bool), false⟩ : gOutcome), (⟨l2, r3, l4, ieq p0.Idle (ilen p0.Harts)⟩ : gOutcome))).bind fun e1 =>
    match e1 with
    | (y8, y9) =>
      some y9

noncomputable def i_turnsValid (p0 : Int) (p1 : Int) (p2 : Int) (p3 : (List Int)) : Option (Bool) :=
  (if ige p0 1 = true then some (ile p0 3) else some false).bind fun g1 =>
  (if g1 = true then some (ige p1 0) else some false).bind fun g2 =>
  (if g2 = true then some (ilt p1 p0) else some false).bind fun g3 =>
  (if g3 = true then some (ige p2 0) else some false).bind fun g4 =>
  (if g4 = true then some (ile p2 p0) else some false).bind fun g5 =>
  (if g5 = true then (i_areWords p3).bind fun r6 => some r6 else some false).bind fun g7 =>
  some g7

noncomputable def i_squadValid_1 (p0 : gMachine) : Option (Bool) :=
  (i_MachineValid p0).bind fun r1 =>
  some (bnot r1)

noncomputable def slices_IndexFunc_impl_Machine_impl_Machine_i_squadValid_1_L1 (p0 : (List gMachine)) (s : Int) : Option (Flow (Int) (Sum (Unit) (Int))) :=
  let s1 := s
  if ilt s1 (ilen p0) = true then
    (idx p0 s1).bind fun v2 =>
    (i_squadValid_1 v2).bind fun r3 =>
    if r3 = true then
      some (.done (.inr s1))
    else
      some (.next (iadd .i64 s1 1))
  else
    some (.done (.inl ()))

noncomputable def slices_IndexFunc_impl_Machine_impl_Machine_i_squadValid_1 (p0 : (List gMachine)) : Option (Int) :=
  (loopM (slices_IndexFunc_impl_Machine_impl_Machine_i_squadValid_1_L1 p0) 0).bind fun e1 =>
  match e1 with
  | .inl _ =>
    some (-1)
  | .inr r0 =>
    some r0

noncomputable def slices_ContainsFunc_impl_Machine_impl_Machine_i_squadValid_1 (p0 : (List gMachine)) : Option (Bool) :=
  (slices_IndexFunc_impl_Machine_impl_Machine_i_squadValid_1 p0).bind fun r1 =>
  some (ige r1 0)

noncomputable def i_squadValid (p0 : gSquad) : Option (Bool) :=
  (i_turnsValid (ilen p0.Harts) p0.Turn p0.Idle p0.Out).bind fun r1 =>
  (if r1 = true then (i_boxesValid p0.Boxes).bind fun r2 => some r2 else some false).bind fun g3 =>
  (if g3 = true then (slices_ContainsFunc_impl_Machine_impl_Machine_i_squadValid_1 p0.Harts).bind fun r4 => some (bnot r4) else some false).bind fun g5 =>
  some g5

noncomputable def i_outcomeOf_L1 (p1 : (List gBox)) (s : Int × gOutcome × gOutcome) : Option (Flow (Int × gOutcome × gOutcome) (gOutcome × gOutcome)) :=
  match s with
  | (s2, s3, s4) =>
  if ilt s2 (ilen p1) = true then
    (idx p1 s2).bind fun v7 =>
    (slices_Clone_int_int v7.Items).bind fun r8 =>
    (appx 24 s4.Items ([r8] : List (List Int))).bind fun l9 =>
    some (.next (iadd .i64 s2 1, s3, (⟨s4.Out, l9, s4.Ended, s4.Rest⟩ : gOutcome)))
  else
    some (.done (s3, s4))

noncomputable def i_outcomeOf (p0 : (List Int)) (p1 : (List gBox)) (p2 : Bool) : Option (gOutcome) :=
  (slices_Clone_int_int p0).bind fun r1 =>
  (loopM (i_outcomeOf_L1 p1) (0, (⟨([] : List Int), ([] : List (List Int)), ([] : List Bool), false⟩ : gOutcome), (⟨r1, ([] : List (List Int)), ([] : List Bool), p2⟩ : gOutcome))).bind fun e1 =>
  match e1 with
  | (y5, y6) =>
    some y6

noncomputable def i_outcomeOf_o_L1 (p1 : (List gBox)) (s : Int × gOutcome × gOutcome) : Option (Flow (Int × gOutcome × gOutcome) (gOutcome × gOutcome)) :=
  match s with
  | (s2, s3, s4) =>
  if ilt s2 (ilen p1) = true then
    (idx p1 s2).bind fun v7 =>
    (slices_Clone_int_int v7.Items).bind fun r8 =>
    (appx 24 s4.Items ([r8] : List (List Int))).bind fun l9 =>
    some (.next (iadd .i64 s2 1, s3, (⟨s4.Out, l9, s4.Ended, s4.Rest⟩ : gOutcome)))
  else
    some (.done (s3, s4))

noncomputable def i_outcomeOf_o (p0 : (List Int)) (p1 : (List gBox)) (p2 : Bool) : Option (gOutcome) :=
  (slices_Clone_int_int p0).bind fun r1 =>
  (loopM (i_outcomeOf_o_L1 p1) (0, (⟨([] : List Int), ([] : List (List Int)), ([] : List Bool), false⟩ : gOutcome), (⟨r1, ([] : List (List Int)), ([] : List Bool), p2⟩ : gOutcome))).bind fun e1 =>
  match e1 with
  | (y5, y6) =>
    some y6

noncomputable def i_SquadOutcome_L1 (p0 : gSquad) (s : Int × gOutcome × gOutcome) : Option (Flow (Int × gOutcome × gOutcome) (gOutcome × gOutcome)) :=
  match s with
  | (s3, s4, s5) =>
  if ilt s3 (ilen p0.Harts) = true then
    (idx p0.Harts s3).bind fun v8 =>
    (if ieq v8.Pc 0 = true then (idx v8.Regs 17).bind fun v9 => some (ieq v9 5) else some false).bind fun g10 =>
    (appx 1 s5.Ended ([g10] : List Bool)).bind fun l11 =>
    some (.next (iadd .i64 s3 1, s4, (⟨s5.Out, s5.Items, l11, s5.Rest⟩ : gOutcome)))
  else
    some (.done (s4, s5))

noncomputable def i_SquadOutcome (p0 : gSquad) : Option (gOutcome) :=
  (i_squadValid p0).bind fun r1 =>
  if bnot r1 = true then
    some (⟨([] : List Int), ([] : List (List Int)), ([] : List Bool), false⟩ : gOutcome)
  else
    (i_outcomeOf_o p0.Out p0.Boxes (ieq p0.Idle (ilen p0.Harts))).bind fun r2 =>
    (loopM (i_SquadOutcome_L1 p0) (0, (⟨([] : List Int), ([] : List (List Int)), ([] : List Bool), false⟩ : gOutcome), r2)).bind fun e1 =>
    match e1 with
    | (y6, y7) =>
      some y7

noncomputable def l_eqIntSS_L1 (p0 : (List (List Int))) (p1 : (List (List Int))) (s : Int) : Option (Flow (Int) (Sum (Unit) (Bool))) :=
  let s1 := s
  if ilt s1 (ilen p0) = true then
    (idx p0 s1).bind fun v2 =>
    (idx p1 s1).bind fun v3 =>
    (l_eqIntS v2 v3).bind fun r4 =>
    if bnot r4 = true then
      some (.done (.inr false))
    else
      some (.next (iadd .i64 s1 1))
  else
    some (.done (.inl ()))

noncomputable def l_eqIntSS (p0 : (List (List Int))) (p1 : (List (List Int))) : Option (Bool) :=
  if ine (ilen p0) (ilen p1) = true then
    some false
  else
    (loopM (l_eqIntSS_L1 p0 p1) 0).bind fun e1 =>
    match e1 with
    | .inl _ =>
      some true
    | .inr r0 =>
      some r0

noncomputable def l_eqBoolS_L1 (p0 : (List Bool)) (p1 : (List Bool)) (s : Int) : Option (Flow (Int) (Sum (Unit) (Bool))) :=
  let s1 := s
  if ilt s1 (ilen p0) = true then
    (idx p0 s1).bind fun v2 =>
    (idx p1 s1).bind fun v3 =>
    if bneb v2 v3 = true then
      some (.done (.inr false))
    else
      some (.next (iadd .i64 s1 1))
  else
    some (.done (.inl ()))

noncomputable def l_eqBoolS (p0 : (List Bool)) (p1 : (List Bool)) : Option (Bool) :=
  if ine (ilen p0) (ilen p1) = true then
    some false
  else
    (loopM (l_eqBoolS_L1 p0 p1) 0).bind fun e1 =>
    match e1 with
    | .inl _ =>
      some true
    | .inr r0 =>
      some r0

noncomputable def l_eqOutcome (p0 : gOutcome) (p1 : gOutcome) : Option (Bool) :=
  (l_eqIntS p0.Out p1.Out).bind fun r1 =>
  if bnot r1 = true then
    some false
  else
    (l_eqIntSS p0.Items p1.Items).bind fun r2 =>
    if bnot r2 = true then
      some false
    else
      (l_eqBoolS p0.Ended p1.Ended).bind fun r3 =>
      if bnot r3 = true then
        some false
      else
        if bneb p0.Rest p1.Rest = true then
          some false
        else
          some true

noncomputable def l_eqMachineS_L1 (p0 : (List gMachine)) (p1 : (List gMachine)) (s : Int) : Option (Flow (Int) (Sum (Unit) (Bool))) :=
  let s1 := s
  if ilt s1 (ilen p0) = true then
    (idx p0 s1).bind fun v2 =>
    (idx p1 s1).bind fun v3 =>
    (l_eqMachine v2 v3).bind fun r4 =>
    if bnot r4 = true then
      some (.done (.inr false))
    else
      some (.next (iadd .i64 s1 1))
  else
    some (.done (.inl ()))

noncomputable def l_eqMachineS (p0 : (List gMachine)) (p1 : (List gMachine)) : Option (Bool) :=
  if ine (ilen p0) (ilen p1) = true then
    some false
  else
    (loopM (l_eqMachineS_L1 p0 p1) 0).bind fun e1 =>
    match e1 with
    | .inl _ =>
      some true
    | .inr r0 =>
      some r0

noncomputable def l_eqSquad (p0 : gSquad) (p1 : gSquad) : Option (Bool) :=
  (l_eqMachineS p0.Harts p1.Harts).bind fun r1 =>
  if bnot r1 = true then
    some false
  else
    (l_eqBoxS p0.Boxes p1.Boxes).bind fun r2 =>
    if bnot r2 = true then
      some false
    else
      if ine p0.Turn p1.Turn = true then
        some false
      else
        if ine p0.Idle p1.Idle = true then
          some false
        else
          (l_eqIntS p0.Out p1.Out).bind fun r3 =>
          if bnot r3 = true then
            some false
          else
            some true

noncomputable def l_markMachineS_L1 (s : Int × Int × (List gMachine)) : Option (Flow (Int × Int × (List gMachine)) (Int × (List gMachine))) :=
  match s with
  | (s1, s2, s3) =>
  if ilt s2 (ilen s3) = true then
    (idx s3 s2).bind fun v6 =>
    (l_markIntS v6.Regs s1).bind fun r7 =>
    (setx s3 s2 (⟨r7.2, r7.1, v6.Mem⟩ : gMachine)).bind fun l8 =>
    (idx l8 s2).bind fun v9 =>
    (l_markIntS v9.Mem (iadd .i64 r7.1 1)).bind fun r10 =>
    (setx l8 s2 (⟨v9.Regs, v9.Pc, r10.2⟩ : gMachine)).bind fun l11 =>
    some (.next (r10.1, iadd .i64 s2 1, l11))
  else
    some (.done (s1, s3))

noncomputable def l_markMachineS (p0 : (List gMachine)) (p1 : Int) : Option (Int × (List gMachine)) :=
  (loopM (l_markMachineS_L1) (p1, 0, p0)).bind fun e1 =>
  match e1 with
  | (y4, y5) =>
    some (y4, y5)

noncomputable def l_markSquad (p0 : gSquad) (p1 : Int) : Option (Int × gSquad) :=
  (l_markMachineS p0.Harts p1).bind fun r1 =>
  (l_markBoxS p0.Boxes r1.1).bind fun r2 =>
  (l_markIntS p0.Out r2.1).bind fun r3 =>
  some (r3.1, (⟨r1.2, r2.2, p0.Turn, p0.Idle, r3.2⟩ : gSquad))

noncomputable def l_toMachineS_o_L1 (p0 : (List gMachine)) (s : Int × (List gMachine)) : Option (Flow (Int × (List gMachine)) ((List gMachine))) :=
  match s with
  | (s2, s3) =>
  if ilt s2 (ilen p0) = true then
    (idx p0 s2).bind fun v5 =>
    (l_toMachine v5).bind fun r6 =>
    (idx s3 s2).bind fun v7 =>
    (setx s3 s2 r6).bind fun l8 =>
    some (.next (iadd .i64 s2 1, l8))
  else
    some (.done s3)

noncomputable def l_toMachineS_o (p0 : (List gMachine)) : Option ((List gMachine)) :=
  (makex 56 (ilen p0) (⟨([] : List Int), 0, ([] : List Int)⟩ : gMachine)).bind fun l1 =>
  (loopM (l_toMachineS_o_L1 p0) (0, l1)).bind fun e1 =>
  match e1 with
  | y4 =>
    some y4

noncomputable def l_toSquad_o (p0 : gSquad) : Option (gSquad) :=
  (l_toMachineS_o p0.Harts).bind fun r1 =>
  (l_toBoxS p0.Boxes).bind fun r2 =>
  (l_toIntS p0.Out).bind fun r3 =>
  some (⟨r1, r2, p0.Turn, p0.Idle, r3⟩ : gSquad)

noncomputable def i_outcomeOf_o2_L1 (p1 : (List gBox)) (s : Int × gOutcome × gOutcome) : Option (Flow (Int × gOutcome × gOutcome) (gOutcome × gOutcome)) :=
  match s with
  | (s2, s3, s4) =>
  if ilt s2 (ilen p1) = true then
    (idx p1 s2).bind fun v7 =>
    (slices_Clone_int_int v7.Items).bind fun r8 =>
    (appx 24 s4.Items ([r8] : List (List Int))).bind fun l9 =>
    some (.next (iadd .i64 s2 1, s3, (⟨s4.Out, l9, s4.Ended, s4.Rest⟩ : gOutcome)))
  else
    some (.done (s3, s4))

noncomputable def i_outcomeOf_o2 (p0 : (List Int)) (p1 : (List gBox)) (p2 : Bool) : Option (gOutcome) :=
  (slices_Clone_int_int_o p0).bind fun r1 =>
  (loopM (i_outcomeOf_o2_L1 p1) (0, (⟨([] : List Int), ([] : List (List Int)), ([] : List Bool), false⟩ : gOutcome), (⟨r1, ([] : List (List Int)), ([] : List Bool), p2⟩ : gOutcome))).bind fun e1 =>
  match e1 with
  | (y5, y6) =>
    some y6

noncomputable def i_SquadOutcome_o_L1 (p0 : gSquad) (s : Int × gOutcome × gOutcome) : Option (Flow (Int × gOutcome × gOutcome) (gOutcome × gOutcome)) :=
  match s with
  | (s3, s4, s5) =>
  if ilt s3 (ilen p0.Harts) = true then
    (idx p0.Harts s3).bind fun v8 =>
    (if ieq v8.Pc 0 = true then (idx v8.Regs 17).bind fun v9 => some (ieq v9 5) else some false).bind fun g10 =>
    (appx 1 s5.Ended ([g10] : List Bool)).bind fun l11 =>
    some (.next (iadd .i64 s3 1, s4, (⟨s5.Out, s5.Items, l11, s5.Rest⟩ : gOutcome)))
  else
    some (.done (s4, s5))

noncomputable def i_SquadOutcome_o (p0 : gSquad) : Option (gOutcome) :=
  (i_squadValid p0).bind fun r1 =>
  if bnot r1 = true then
    some (⟨([] : List Int), ([] : List (List Int)), ([] : List Bool), false⟩ : gOutcome)
  else
    (i_outcomeOf_o2 p0.Out p0.Boxes (ieq p0.Idle (ilen p0.Harts))).bind fun r2 =>
    (loopM (i_SquadOutcome_o_L1 p0) (0, (⟨([] : List Int), ([] : List (List Int)), ([] : List Bool), false⟩ : gOutcome), r2)).bind fun e1 =>
    match e1 with
    | (y6, y7) =>
      some y7

noncomputable def i_outcomeOf_o3_L1 (p1 : (List gBox)) (s : Int × gOutcome × gOutcome) : Option (Flow (Int × gOutcome × gOutcome) (gOutcome × gOutcome)) :=
  match s with
  | (s2, s3, s4) =>
  if ilt s2 (ilen p1) = true then
    (idx p1 s2).bind fun v7 =>
    (slices_Clone_int_int v7.Items).bind fun r8 =>
    (appx 24 s4.Items ([r8] : List (List Int))).bind fun l9 =>
    some (.next (iadd .i64 s2 1, s3, (⟨s4.Out, l9, s4.Ended, s4.Rest⟩ : gOutcome)))
  else
    some (.done (s3, s4))

noncomputable def i_outcomeOf_o3 (p0 : (List Int)) (p1 : (List gBox)) (p2 : Bool) : Option (gOutcome) :=
  (slices_Clone_int_int_o p0).bind fun r1 =>
  (loopM (i_outcomeOf_o3_L1 p1) (0, (⟨([] : List Int), ([] : List (List Int)), ([] : List Bool), false⟩ : gOutcome), (⟨r1, ([] : List (List Int)), ([] : List Bool), p2⟩ : gOutcome))).bind fun e1 =>
  match e1 with
  | (y5, y6) =>
    some y6

noncomputable def i_SquadOutcome_o2_L1 (p0 : gSquad) (s : Int × gOutcome × gOutcome) : Option (Flow (Int × gOutcome × gOutcome) (gOutcome × gOutcome)) :=
  match s with
  | (s3, s4, s5) =>
  if ilt s3 (ilen p0.Harts) = true then
    (idx p0.Harts s3).bind fun v8 =>
    (if ieq v8.Pc 0 = true then (idx v8.Regs 17).bind fun v9 => some (ieq v9 5) else some false).bind fun g10 =>
    (appx 1 s5.Ended ([g10] : List Bool)).bind fun l11 =>
    some (.next (iadd .i64 s3 1, s4, (⟨s5.Out, s5.Items, l11, s5.Rest⟩ : gOutcome)))
  else
    some (.done (s4, s5))

noncomputable def i_SquadOutcome_o2 (p0 : gSquad) : Option (gOutcome) :=
  (i_squadValid p0).bind fun r1 =>
  if bnot r1 = true then
    some (⟨([] : List Int), ([] : List (List Int)), ([] : List Bool), false⟩ : gOutcome)
  else
    (i_outcomeOf_o3 p0.Out p0.Boxes (ieq p0.Idle (ilen p0.Harts))).bind fun r2 =>
    (loopM (i_SquadOutcome_o2_L1 p0) (0, (⟨([] : List Int), ([] : List (List Int)), ([] : List Bool), false⟩ : gOutcome), r2)).bind fun e1 =>
    match e1 with
    | (y6, y7) =>
      some y7

noncomputable def i_outcomeOf_o4_L1 (p1 : (List gBox)) (s : Int × gOutcome × gOutcome) : Option (Flow (Int × gOutcome × gOutcome) (gOutcome × gOutcome)) :=
  match s with
  | (s2, s3, s4) =>
  if ilt s2 (ilen p1) = true then
    (idx p1 s2).bind fun v7 =>
    (slices_Clone_int_int_o v7.Items).bind fun r8 =>
    (appx 24 s4.Items [r8]).bind fun l9 =>
    some (.next (iadd .i64 s2 1, s3, (⟨s4.Out, l9, s4.Ended, s4.Rest⟩ : gOutcome)))
  else
    some (.done (s3, s4))

noncomputable def i_outcomeOf_o4 (p0 : (List Int)) (p1 : (List gBox)) (p2 : Bool) : Option (gOutcome) :=
  (slices_Clone_int_int_o p0).bind fun r1 =>
  (loopM (i_outcomeOf_o4_L1 p1) (0, (⟨([] : List Int), ([] : List (List Int)), ([] : List Bool), false⟩ : gOutcome), (⟨r1, ([] : List (List Int)), ([] : List Bool), p2⟩ : gOutcome))).bind fun e1 =>
  match e1 with
  | (y5, y6) =>
    some y6

noncomputable def i_SquadOutcome_o3_L1 (p0 : gSquad) (s : Int × gOutcome × gOutcome) : Option (Flow (Int × gOutcome × gOutcome) (gOutcome × gOutcome)) :=
  match s with
  | (s3, s4, s5) =>
  if ilt s3 (ilen p0.Harts) = true then
    (idx p0.Harts s3).bind fun v8 =>
    (if ieq v8.Pc 0 = true then (idx v8.Regs 17).bind fun v9 => some (ieq v9 5) else some false).bind fun g10 =>
    (appx 1 s5.Ended ([g10] : List Bool)).bind fun l11 =>
    some (.next (iadd .i64 s3 1, s4, (⟨s5.Out, s5.Items, l11, s5.Rest⟩ : gOutcome)))
  else
    some (.done (s4, s5))

noncomputable def i_SquadOutcome_o3 (p0 : gSquad) : Option (gOutcome) :=
  (i_squadValid p0).bind fun r1 =>
  if bnot r1 = true then
    some (⟨([] : List Int), ([] : List (List Int)), ([] : List Bool), false⟩ : gOutcome)
  else
    (i_outcomeOf_o4 p0.Out p0.Boxes (ieq p0.Idle (ilen p0.Harts))).bind fun r2 =>
    (loopM (i_SquadOutcome_o3_L1 p0) (0, (⟨([] : List Int), ([] : List (List Int)), ([] : List Bool), false⟩ : gOutcome), r2)).bind fun e1 =>
    match e1 with
    | (y6, y7) =>
      some y7

noncomputable def i_SquadOutcome_o4_L1 (p0 : gSquad) (s : Int × gOutcome × gOutcome) : Option (Flow (Int × gOutcome × gOutcome) (gOutcome × gOutcome)) :=
  match s with
  | (s3, s4, s5) =>
  if ilt s3 (ilen p0.Harts) = true then
    (idx p0.Harts s3).bind fun v8 =>
    (if ieq v8.Pc 0 = true then (idx v8.Regs 17).bind fun v9 => some (ieq v9 5) else some false).bind fun g10 =>
    (appx 1 s5.Ended ([g10] : List Bool)).bind fun l11 =>
    some (.next (iadd .i64 s3 1, s4, (⟨s5.Out, s5.Items, l11, s5.Rest⟩ : gOutcome)))
  else
    some (.done (s4, s5))

noncomputable def i_SquadOutcome_o4 (p0 : gSquad) : Option (gOutcome) :=
  (i_squadValid p0).bind fun r1 =>
  if bnot r1 = true then
    some (⟨([] : List Int), ([] : List (List Int)), ([] : List Bool), false⟩ : gOutcome)
  else
    (i_outcomeOf_o4 p0.Out p0.Boxes (ieq p0.Idle (ilen p0.Harts))).bind fun r2 =>
    (loopM (i_SquadOutcome_o4_L1 p0) (0, (⟨([] : List Int), ([] : List (List Int)), ([] : List Bool), false⟩ : gOutcome), r2)).bind fun e1 =>
    match e1 with
    | (y6, y7) =>
      some y7

noncomputable def l_toMachineS_o2_L1 (p0 : (List gMachine)) (s : Int × (List gMachine)) : Option (Flow (Int × (List gMachine)) ((List gMachine))) :=
  match s with
  | (s2, s3) =>
  if ilt s2 (ilen p0) = true then
    (idx p0 s2).bind fun v5 =>
    (l_toMachine_o v5).bind fun r6 =>
    (idx s3 s2).bind fun v7 =>
    (setx s3 s2 r6).bind fun l8 =>
    some (.next (iadd .i64 s2 1, l8))
  else
    some (.done s3)

noncomputable def l_toMachineS_o2 (p0 : (List gMachine)) : Option ((List gMachine)) :=
  (makex 56 (ilen p0) (⟨([] : List Int), 0, ([] : List Int)⟩ : gMachine)).bind fun l1 =>
  (loopM (l_toMachineS_o2_L1 p0) (0, l1)).bind fun e1 =>
  match e1 with
  | y4 =>
    some y4

noncomputable def l_toSquad_o2 (p0 : gSquad) : Option (gSquad) :=
  (l_toMachineS_o2 p0.Harts).bind fun r1 =>
  (l_toBoxS p0.Boxes).bind fun r2 =>
  (l_toIntS p0.Out).bind fun r3 =>
  some (⟨r1, r2, p0.Turn, p0.Idle, r3⟩ : gSquad)

noncomputable def l_toMachineS_o3_L1 (p0 : (List gMachine)) (s : Int × (List gMachine)) : Option (Flow (Int × (List gMachine)) ((List gMachine))) :=
  match s with
  | (s2, s3) =>
  if ilt s2 (ilen p0) = true then
    (idx p0 s2).bind fun v5 =>
    (l_toMachine_o2 v5).bind fun r6 =>
    (idx s3 s2).bind fun v7 =>
    (setx s3 s2 r6).bind fun l8 =>
    some (.next (iadd .i64 s2 1, l8))
  else
    some (.done s3)

noncomputable def l_toMachineS_o3 (p0 : (List gMachine)) : Option ((List gMachine)) :=
  (makex 56 (ilen p0) (⟨([] : List Int), 0, ([] : List Int)⟩ : gMachine)).bind fun l1 =>
  (loopM (l_toMachineS_o3_L1 p0) (0, l1)).bind fun e1 =>
  match e1 with
  | y4 =>
    some y4

noncomputable def l_toSquad_o3 (p0 : gSquad) : Option (gSquad) :=
  (l_toMachineS_o3 p0.Harts).bind fun r1 =>
  (l_toBoxS p0.Boxes).bind fun r2 =>
  (l_toIntS p0.Out).bind fun r3 =>
  some (⟨r1, r2, p0.Turn, p0.Idle, r3⟩ : gSquad)

noncomputable def l_toSquad_o4 (p0 : gSquad) : Option (gSquad) :=
  (l_toMachineS_o3 p0.Harts).bind fun r1 =>
  (l_toBoxS_o p0.Boxes).bind fun r2 =>
  (l_toIntS p0.Out).bind fun r3 =>
  some (⟨r1, r2, p0.Turn, p0.Idle, r3⟩ : gSquad)

noncomputable def l_toSquad_o5 (p0 : gSquad) : Option (gSquad) :=
  (l_toMachineS_o3 p0.Harts).bind fun r1 =>
  (l_toBoxS_o2 p0.Boxes).bind fun r2 =>
  (l_toIntS p0.Out).bind fun r3 =>
  some (⟨r1, r2, p0.Turn, p0.Idle, r3⟩ : gSquad)

noncomputable def l_toSquad_o6 (p0 : gSquad) : Option (gSquad) :=
  (l_toMachineS_o3 p0.Harts).bind fun r1 =>
  (l_toBoxS_o2 p0.Boxes).bind fun r2 =>
  (l_toIntS_o p0.Out).bind fun r3 =>
  some (⟨r1, r2, p0.Turn, p0.Idle, r3⟩ : gSquad)

noncomputable def l_markIntSS_L1 (s : Int × Int × (List (List Int))) : Option (Flow (Int × Int × (List (List Int))) (Int × (List (List Int)))) :=
  match s with
  | (s1, s2, s3) =>
  if ilt s2 (ilen s3) = true then
    (idx s3 s2).bind fun v6 =>
    (l_markIntS v6 s1).bind fun r7 =>
    (setx s3 s2 r7.2).bind fun l8 =>
    some (.next (r7.1, iadd .i64 s2 1, l8))
  else
    some (.done (s1, s3))

noncomputable def l_markIntSS (p0 : (List (List Int))) (p1 : Int) : Option (Int × (List (List Int))) :=
  (loopM (l_markIntSS_L1) (p1, 0, p0)).bind fun e1 =>
  match e1 with
  | (y4, y5) =>
    some (y4, y5)

noncomputable def l_markBoolS_L1 (s : Int × Int × (List Bool)) : Option (Flow (Int × Int × (List Bool)) (Int × (List Bool))) :=
  match s with
  | (s1, s2, s3) =>
  if ilt s2 (ilen s3) = true then
    (remx s1 3).bind fun v6 =>
    (idx s3 s2).bind fun v7 =>
    (setx s3 s2 (ieq v6 0)).bind fun l8 =>
    some (.next (iadd .i64 s1 1, iadd .i64 s2 1, l8))
  else
    some (.done (s1, s3))

noncomputable def l_markBoolS (p0 : (List Bool)) (p1 : Int) : Option (Int × (List Bool)) :=
  (loopM (l_markBoolS_L1) (p1, 0, p0)).bind fun e1 =>
  match e1 with
  | (y4, y5) =>
    some (y4, y5)

noncomputable def l_markOutcome (p0 : gOutcome) (p1 : Int) : Option (Int × gOutcome) :=
  (l_markIntS p0.Out p1).bind fun r1 =>
  (l_markIntSS p0.Items r1.1).bind fun r2 =>
  (l_markBoolS p0.Ended r2.1).bind fun r3 =>
  some (r3.1, (⟨r1.2, r2.2, r3.2, p0.Rest⟩ : gOutcome))

noncomputable def l_heldIntSS_L1 (p0 : (List (List Int))) (s : Int × Int) : Option (Flow (Int × Int) (Sum (Int) (Int))) :=
  match s with
  | (s1, s2) =>
  if ilt s2 (ilen p0) = true then
    (idx p0 s2).bind fun v4 =>
    (l_heldIntS v4 s1).bind fun r5 =>
    if ilt r5 0 = true then
      some (.done (.inr (-1)))
    else
      some (.next (r5, iadd .i64 s2 1))
  else
    some (.done (.inl s1))

noncomputable def l_heldIntSS (p0 : (List (List Int))) (p1 : Int) : Option (Int) :=
  (loopM (l_heldIntSS_L1 p0) (p1, 0)).bind fun e1 =>
  match e1 with
  | .inl y3 =>
    some y3
  | .inr r0 =>
    some r0

noncomputable def l_heldBoolS_L1 (p0 : (List Bool)) (s : Int × Int) : Option (Flow (Int × Int) (Sum (Int) (Int))) :=
  match s with
  | (s1, s2) =>
  if ilt s2 (ilen p0) = true then
    (idx p0 s2).bind fun v4 =>
    (remx s1 3).bind fun v5 =>
    if bneb v4 (ieq v5 0) = true then
      some (.done (.inr (-1)))
    else
      some (.next (iadd .i64 s1 1, iadd .i64 s2 1))
  else
    some (.done (.inl s1))

noncomputable def l_heldBoolS (p0 : (List Bool)) (p1 : Int) : Option (Int) :=
  (loopM (l_heldBoolS_L1 p0) (p1, 0)).bind fun e1 =>
  match e1 with
  | .inl y3 =>
    some y3
  | .inr r0 =>
    some r0

noncomputable def l_heldOutcome (p0 : gOutcome) (p1 : Int) : Option (Int) :=
  (l_heldIntS p0.Out p1).bind fun r1 =>
  if ilt r1 0 = true then
    some (-1)
  else
    (l_heldIntSS p0.Items r1).bind fun r2 =>
    if ilt r2 0 = true then
      some (-1)
    else
      (l_heldBoolS p0.Ended r2).bind fun r3 =>
      if ilt r3 0 = true then
        some (-1)
      else
        some r3

noncomputable def l_FnExactSquadOutcome (p0 : gSquad) : Option (Bool) :=
  (l_szSquad p0 1048576).bind fun r1 =>
  if ilt r1 0 = true then
    some true
  else
    (l_toSquad p0).bind fun r2 =>
    (s_SquadOutcome r2).bind fun r3 =>
    (l_toSquad_o6 p0).bind fun r4 =>
    (i_SquadOutcome_o4 r4).bind fun r5 =>
    (l_eqOutcome r5 r3).bind fun r6 =>
    if bnot r6 = true then
      some false
    else
      (l_eqSquad r4 r2).bind fun r7 =>
      if bnot r7 = true then
        some false
      else
        (l_markSquad r4 1).bind fun r8 =>
        (if ilt r8.1 0 = true then some true else some (bnot r6)).bind fun g9 =>
        if g9 = true then
          some false
        else
          (l_markOutcome r5 1).bind fun r10 =>
          (l_heldOutcome (⟨r10.2.Out, r10.2.Items, r10.2.Ended, r5.Rest⟩ : gOutcome) 1).bind fun r11 =>
          if ilt r11 0 = true then
            some false
          else
            if ine r11 r10.1 = true then
              some false
            else
              (i_SquadOutcome r2).bind fun r12 =>
              (l_eqOutcome r12 r3).bind fun r13 =>
              if bnot r13 = true then
                some false
              else
                if ilt r11 0 = true then
                  some false
                else
                  if ine r11 r10.1 = true then
                    some false
                  else
                    some true

noncomputable def s_l6Open_o (p0 : (List Int)) : Option (gL6Rd) :=
  if igt (ilen p0) 2000 = true then
    (cutx p0 0 2000).bind fun l1 =>
    some (⟨l1, 0⟩ : gL6Rd)
  else
    some (⟨p0, 0⟩ : gL6Rd)

noncomputable def s_l6Rd_pick (p0 : gL6Rd) (p1 : Int) : Option (Int × gL6Rd) :=
  (if ilt p1 1 = true then some true else some (ieq (ilen p0.b) 0)).bind fun g1 =>
  if g1 = true then
    some (0, (⟨p0.b, iadd .i64 p0.p 1⟩ : gL6Rd))
  else
    if ilt (isub .i64 (iadd .i64 p0.p 1) 1) (ilen p0.b) = true then
      (idx p0.b (isub .i64 (iadd .i64 p0.p 1) 1)).bind fun v2 =>
      (remx (iconv .i64 v2) p1).bind fun v3 =>
      some (v3, (⟨p0.b, iadd .i64 p0.p 1⟩ : gL6Rd))
    else
      (remx (isub .i64 (iadd .i64 p0.p 1) 1) (ilen p0.b)).bind fun v4 =>
      (idx p0.b v4).bind fun v5 =>
      (remx (iadd .i64 (imul .i64 (isub .i64 (iadd .i64 p0.p 1) 1) 7) 3) (ilen p0.b)).bind fun v6 =>
      (idx p0.b v6).bind fun v7 =>
      (quox .i64 (isub .i64 (iadd .i64 p0.p 1) 1) (ilen p0.b)).bind fun v8 =>
      (quox .i64 (iadd .i64 (iadd .i64 (iadd .i64 (imul .i64 (iconv .i64 v5) 131) (imul .i64 (iconv .i64 v7) 1117)) (imul .i64 (isub .i64 (iadd .i64 p0.p 1) 1) 29)) (imul .i64 v8 53)) 64).bind fun v9 =>
      (remx (ixor .i64 (iadd .i64 (iadd .i64 (iadd .i64 (imul .i64 (iconv .i64 v5) 131) (imul .i64 (iconv .i64 v7) 1117)) (imul .i64 (isub .i64 (iadd .i64 p0.p 1) 1) 29)) (imul .i64 v8 53)) v9) p1).bind fun v10 =>
      some (v10, (⟨p0.b, iadd .i64 p0.p 1⟩ : gL6Rd))

noncomputable def s_l93Reg (p0 : gL6Rd) : Option (Int × gL6Rd) :=
  (s_l6Rd_pick p0 6).bind fun r1 =>
  some (r1.1, r1.2)

noncomputable def s_Wrap (p0 : Int) : Option (Int) :=
  (remx p0 4294967296).bind fun v1 =>
  if igt v1 2147483647 = true then
    some (isub .i64 v1 4294967296)
  else
    if ilt v1 (-2147483648) = true then
      some (iadd .i64 v1 4294967296)
    else
      some v1

noncomputable def s_l91Word (p0 : gL6Rd) : Option (Int × gL6Rd) :=
  (s_l6Rd_pick p0 6).bind fun r1 =>
  if ieq r1.1 0 = true then
    (s_l6Rd_pick r1.2 8).bind fun r2 =>
    (idx ([-2147483648, 2147483647, -1, 0, 1, -2147483647, 65536, -65536] : List Int) r2.1).bind fun v3 =>
    some (v3, r2.2)
  else
    if ieq r1.1 1 = true then
      (s_l6Rd_pick r1.2 256).bind fun r4 =>
      (s_l6Rd_pick r4.2 256).bind fun r5 =>
      (s_l6Rd_pick r5.2 256).bind fun r6 =>
      (s_l6Rd_pick r6.2 200).bind fun r7 =>
      (s_Wrap (imul .i64 (iadd .i64 (iadd .i64 (imul .i64 r4.1 65536) (imul .i64 r5.1 256)) r6.1) (iadd .i64 1 r7.1))).bind fun r8 =>
      some (r8, r7.2)
    else
      if ieq r1.1 2 = true then
        (s_l6Rd_pick r1.2 200).bind fun r9 =>
        some (isub .i64 0 r9.1, r9.2)
      else
        (s_l6Rd_pick r1.2 20).bind fun r10 =>
        some (r10.1, r10.2)

noncomputable def s_l91Op (p0 : gL6Rd) : Option (Int × gL6Rd) :=
  (s_l6Rd_pick p0 12).bind fun r1 =>
  some (iadd .i64 1 r1.1, r1.2)

noncomputable def s_l93Quad (p0 : gL6Rd) (p1 : Int) : Option (gQuad × gL6Rd) :=
  (s_l6Rd_pick p0 12).bind fun r1 =>
  (if ieq r1.1 0 = true then
    some (ieq r1.1 0)
  else
    some (ieq r1.1 1)).bind fun j1 =>
  if j1 = true then
    (s_l93Reg r1.2).bind fun r3 =>
    (s_l91Word r3.2).bind fun r4 =>
    (s_l6Rd_pick r4.2 4).bind fun r5 =>
    (idx ([0, 1, 2, r4.1] : List Int) r5.1).bind fun v6 =>
    some ((⟨1, r3.1, 0, 0, v6⟩ : gQuad), r5.2)
  else
    (if ieq r1.1 2 = true then
      some (ieq r1.1 2)
    else
      some (ieq r1.1 3)).bind fun j2 =>
    if j2 = true then
      (s_l93Reg r1.2).bind fun r8 =>
      (s_l93Reg r8.2).bind fun r9 =>
      some ((⟨2, r8.1, r9.1, 0, 0⟩ : gQuad), r9.2)
    else
      (if ieq r1.1 4 = true then
        some (ieq r1.1 4)
      else
        if ieq r1.1 5 = true then
          some (ieq r1.1 5)
        else
          some (ieq r1.1 6)).bind fun j3 =>
      if j3 = true then
        (s_l93Reg r1.2).bind fun r11 =>
        (s_l93Reg r11.2).bind fun r12 =>
        (s_l93Reg r12.2).bind fun r13 =>
        (s_l91Op r13.2).bind fun r14 =>
        some ((⟨3, r11.1, r12.1, r13.1, r14.1⟩ : gQuad), r14.2)
      else
        if ieq r1.1 7 = true then
          (s_l6Rd_pick r1.2 p1).bind fun r15 =>
          some ((⟨4, 0, 0, 0, r15.1⟩ : gQuad), r15.2)
        else
          if ieq r1.1 8 = true then
            (s_l93Reg r1.2).bind fun r16 =>
            (s_l6Rd_pick r16.2 p1).bind fun r17 =>
            some ((⟨5, 0, r16.1, 0, r17.1⟩ : gQuad), r17.2)
          else
            if ieq r1.1 9 = true then
              (s_l93Reg r1.2).bind fun r18 =>
              (s_l6Rd_pick r18.2 2).bind fun r19 =>
              some ((⟨6, 0, r18.1, 0, r19.1⟩ : gQuad), r19.2)
            else
              if ieq r1.1 10 = true then
                (s_l93Reg r1.2).bind fun r20 =>
                (s_l6Rd_pick r20.2 2).bind fun r21 =>
                some ((⟨7, r20.1, 0, 0, r21.1⟩ : gQuad), r21.2)
              else
                (s_l6Rd_pick r1.2 4).bind fun r22 =>
                if ieq r22.1 0 = true then
                  some ((⟨8, 0, 0, 0, 0⟩ : gQuad), r22.2)
                else
                  (s_l93Reg r22.2).bind fun r23 =>
                  some ((⟨9, 0, r23.1, 0, 0⟩ : gQuad), r23.2)

noncomputable def s_l93Random_L1 (r1 : Int × gL6Rd) (s : Int × gL6Rd × (List gQuad)) : Option (Flow (Int × gL6Rd × (List gQuad)) (gL6Rd × (List gQuad))) :=
  match s with
  | (s2, s3, s4) =>
  if ilt (iadd .i64 s2 1) (iadd .i64 1 r1.1) = true then
    (s_l93Quad s3 (iadd .i64 1 r1.1)).bind fun r7 =>
    (appx 40 s4 ([r7.1] : List gQuad)).bind fun l8 =>
    some (.next (iadd .i64 s2 1, r7.2, l8))
  else
    some (.done (s3, s4))

noncomputable def s_l93Random (p0 : gL6Rd) : Option ((List gQuad) × gL6Rd) :=
  (s_l6Rd_pick p0 14).bind fun r1 =>
  (loopM (s_l93Random_L1 r1) (0, r1.2, ([] : List gQuad))).bind fun e1 =>
  match e1 with
  | (y5, y6) =>
    (s_l6Rd_pick y5 3).bind fun r9 =>
    if ieq r9.1 0 = true then
      (s_l6Rd_pick r9.2 (iadd .i64 1 r1.1)).bind fun r10 =>
      (appx 40 y6 ([(⟨4, 0, 0, 0, r10.1⟩ : gQuad)] : List gQuad)).bind fun l11 =>
      some (l11, r10.2)
    else
      (appx 40 y6 ([(⟨10, 0, 0, 0, 0⟩ : gQuad)] : List gQuad)).bind fun l12 =>
      some (l12, r9.2)

noncomputable def s_l43Reg (p0 : Int) (p1 : Int) (p2 : Int) : Option (Int) :=
  if ige p0 p1 = true then
    some p2
  else
    (idx ([8, 9, 18, 19, 20, 21, 22, 23] : List Int) p0).bind fun v1 =>
    some v1

noncomputable def s_Unsigned (p0 : Int) : Option (Int) :=
  (s_WordValid p0).bind fun r1 =>
  if bnot r1 = true then
    some (-1)
  else
    if ilt p0 0 = true then
      some (iadd .i64 p0 4294967296)
    else
      some p0

noncomputable def s_l1Power_L1 (p0 : Int) (s : Int × Int) : Option (Flow (Int × Int) (Int)) :=
  match s with
  | (s1, s2) =>
  if ilt s2 p0 = true then
    some (.next (imul .i64 s1 2, iadd .i64 s2 1))
  else
    some (.done s1)

noncomputable def s_l1Power (p0 : Int) : Option (Int) :=
  (loopM (s_l1Power_L1 p0) (1, 0)).bind fun e1 =>
  match e1 with
  | y3 =>
    some y3

noncomputable def s_Bits (p0 : Int) (p1 : Int) (p2 : Int) : Option (Int) :=
  (s_l6In p0 0 4294967295).bind fun r1 =>
  (if bnot r1 = true then some true else (s_l6In p1 0 31).bind fun r2 => some (bnot r2)).bind fun g3 =>
  (if g3 = true then some true else (s_l6In p2 1 (isub .i64 32 p1)).bind fun r4 => some (bnot r4)).bind fun g5 =>
  if g5 = true then
    some 0
  else
    (s_l1Power p1).bind fun r6 =>
    (quox .i64 p0 r6).bind fun v7 =>
    (s_l1Power p2).bind fun r8 =>
    (remx v7 r8).bind fun v9 =>
    some v9

noncomputable def s_SignExtend (p0 : Int) (p1 : Int) : Option (Int) :=
  (s_l6In p1 1 32).bind fun r1 =>
  (if bnot r1 = true then some true else (s_l1Power p1).bind fun r2 => (s_l6In p0 0 (isub .i64 r2 1)).bind fun r3 => some (bnot r3)).bind fun g4 =>
  if g4 = true then
    some 0
  else
    (s_l1Power (isub .i64 p1 1)).bind fun r5 =>
    if ige p0 r5 = true then
      (s_l1Power p1).bind fun r6 =>
      some (isub .i64 p0 r6)
    else
      some p0

noncomputable def s_l43Const (p0 : Int) (p1 : Int) : Option ((List gInstr)) :=
  (s_l6In p1 (-2048) 2047).bind fun r1 =>
  if r1 = true then
    some ([(⟨12, p0, 0, 0, p1⟩ : gInstr)] : List gInstr)
  else
    (s_Unsigned p1).bind fun r2 =>
    (s_Bits r2 0 12).bind fun r3 =>
    (s_SignExtend r3 12).bind fun r4 =>
    (s_Wrap (isub .i64 p1 r4)).bind fun r5 =>
    (s_Unsigned r5).bind fun r6 =>
    (s_Bits r6 12 20).bind fun r7 =>
    (some ([(⟨19, p0, 0, 0, r7⟩ : gInstr)] : List gInstr)).bind fun l8 =>
    (appx 40 l8 ([(⟨12, p0, p0, 0, r4⟩ : gInstr)] : List gInstr)).bind fun l9 =>
    some l9

noncomputable def s_l43Write (p0 : (List gInstr)) (p1 : Int) (p2 : Int) : Option ((List gInstr)) :=
  if ilt p1 p2 = true then
    some p0
  else
    (appx 40 p0 ([(⟨16, 0, 2, 7, imul .i64 4 (isub .i64 p1 p2)⟩ : gInstr)] : List gInstr)).bind fun l1 =>
    some l1

noncomputable def s_l43Const_o (p0 : Int) (p1 : Int) : Option ((List gInstr)) :=
  (s_l6In p1 (-2048) 2047).bind fun r1 =>
  if r1 = true then
    (some ([(⟨12, p0, 0, 0, p1⟩ : gInstr)] : List gInstr)).bind fun l2 =>
    some l2
  else
    (s_Unsigned p1).bind fun r3 =>
    (s_Bits r3 0 12).bind fun r4 =>
    (s_SignExtend r4 12).bind fun r5 =>
    (s_Wrap (isub .i64 p1 r5)).bind fun r6 =>
    (s_Unsigned r6).bind fun r7 =>
    (s_Bits r7 12 20).bind fun r8 =>
    (some ([(⟨19, p0, 0, 0, r8⟩ : gInstr)] : List gInstr)).bind fun l9 =>
    (appx 40 l9 ([(⟨12, p0, p0, 0, r5⟩ : gInstr)] : List gInstr)).bind fun l10 =>
    some l10

noncomputable def s_l43Read (p0 : Int) (p1 : Int) (p2 : Int) : Option ((List gInstr)) :=
  if ilt p0 p1 = true then
    some ([] : List gInstr)
  else
    some ([(⟨14, p2, 2, 0, imul .i64 4 (isub .i64 p0 p1)⟩ : gInstr)] : List gInstr)

noncomputable def s_l43Move (p0 : Int) (p1 : Int) : Option (gInstr) :=
  some (⟨12, p0, p1, 0, 0⟩ : gInstr)

noncomputable def s_l43Read_o (p0 : Int) (p1 : Int) (p2 : Int) : Option ((List gInstr)) :=
  if ilt p0 p1 = true then
    some ([] : List gInstr)
  else
    (some ([(⟨14, p2, 2, 0, imul .i64 4 (isub .i64 p0 p1)⟩ : gInstr)] : List gInstr)).bind fun l1 =>
    some l1

noncomputable def s_l43Op (p0 : Int) : Option (Int) :=
  (idx ([7, 8, 6, 8, 11, 9, 10, 1, 2, 3, 4, 5] : List Int) (isub .i64 p0 1)).bind fun v1 =>
  some v1

noncomputable def s_l43Bin (p0 : gQuad) (p1 : Int) : Option ((List gInstr)) :=
  (s_l43Read_o p0.A p1 5).bind fun r1 =>
  (s_l43Read p0.B p1 6).bind fun r2 =>
  (appx 40 r1 r2).bind fun l3 =>
  (s_l43Reg p0.Dst p1 7).bind fun r4 =>
  (s_l43Op p0.N).bind fun r5 =>
  (s_l43Reg p0.A p1 5).bind fun r6 =>
  (s_l43Reg p0.B p1 6).bind fun r7 =>
  (appx 40 l3 ([(⟨r5, r4, r6, r7, 0⟩ : gInstr)] : List gInstr)).bind fun l8 =>
  (if ieq p0.N 4 = true then
    (appx 40 l8 ([(⟨13, r4, r4, 0, 1⟩ : gInstr)] : List gInstr)).bind fun l11 =>
    some l11
  else
    some l8).bind fun j1 =>
  (s_l43Write j1 p0.Dst p1).bind fun r10 =>
  some r10

noncomputable def s_l43Zero (p0 : gQuad) (p1 : Int) (p2 : Int) : Option ((List gInstr)) :=
  (s_l43Read_o p0.A p1 5).bind fun r1 =>
  (s_l43Reg p0.A p1 5).bind fun r2 =>
  (appx 40 r1 ([(⟨18, 0, r2, 0, 8⟩ : gInstr)] : List gInstr)).bind fun l3 =>
  (appx 40 l3 ([(⟨20, 0, 0, 0, isub .i64 p2 (imul .i64 4 (ilen l3))⟩ : gInstr)] : List gInstr)).bind fun l4 =>
  some l4

noncomputable def s_l43Give (p0 : Int) (p1 : Int) : Option ((List gInstr)) :=
  (s_l43Read_o p0 p1 5).bind fun r1 =>
  (s_l43Reg p0 p1 5).bind fun r2 =>
  (s_l43Move 10 r2).bind fun r3 =>
  (appx 40 r1 ([r3] : List gInstr)).bind fun l4 =>
  some l4

noncomputable def s_l43Box (p0 : Int) : Option (gInstr) :=
  some (⟨12, 11, 0, 0, p0⟩ : gInstr)

noncomputable def s_l43Give_o (p0 : Int) (p1 : Int) : Option ((List gInstr)) :=
  (s_l43Read_o p0 p1 5).bind fun r1 =>
  (s_l43Reg p0 p1 5).bind fun r2 =>
  (s_l43Move 10 r2).bind fun r3 =>
  (appx 40 r1 ([r3] : List gInstr)).bind fun l4 =>
  some l4

noncomputable def s_l43Call (p0 : (List gInstr)) (p1 : Int) : Option ((List gInstr)) :=
  (appx 40 p0 ([(⟨12, 17, 0, 0, p1⟩ : gInstr)] : List gInstr)).bind fun l1 =>
  (appx 40 l1 ([(⟨15, 1, 0, 0, 0⟩ : gInstr)] : List gInstr)).bind fun l2 =>
  some l2

noncomputable def s_l43Call_o (p0 : (List gInstr)) (p1 : Int) : Option ((List gInstr)) :=
  (appx 40 p0 ([(⟨12, 17, 0, 0, p1⟩ : gInstr)] : List gInstr)).bind fun l1 =>
  (appx 40 l1 ([(⟨15, 1, 0, 0, 0⟩ : gInstr)] : List gInstr)).bind fun l2 =>
  some l2

noncomputable def s_l43Quad (p0 : gQuad) (p1 : Int) (p2 : Int) : Option ((List gInstr)) :=
  (s_l43Reg p0.Dst p1 7).bind fun r1 =>
  if ieq p0.Op 1 = true then
    (s_l43Const_o r1 p0.N).bind fun r2 =>
    (s_l43Write r2 p0.Dst p1).bind fun r3 =>
    some r3
  else
    if ieq p0.Op 2 = true then
      (s_l43Read_o p0.A p1 5).bind fun r4 =>
      (s_l43Reg p0.A p1 5).bind fun r5 =>
      (s_l43Move r1 r5).bind fun r6 =>
      (appx 40 r4 ([r6] : List gInstr)).bind fun l7 =>
      (s_l43Write l7 p0.Dst p1).bind fun r8 =>
      some r8
    else
      if ieq p0.Op 3 = true then
        (s_l43Bin p0 p1).bind fun r9 =>
        some r9
      else
        if ieq p0.Op 4 = true then
          some ([(⟨20, 0, 0, 0, p2⟩ : gInstr)] : List gInstr)
        else
          if ieq p0.Op 5 = true then
            (s_l43Zero p0 p1 p2).bind fun r10 =>
            some r10
          else
            if ieq p0.Op 6 = true then
              (s_l43Give_o p0.A p1).bind fun r11 =>
              (s_l43Box p0.N).bind fun r12 =>
              (appx 40 r11 ([r12] : List gInstr)).bind fun l13 =>
              (s_l43Call l13 1).bind fun r14 =>
              some r14
            else
              if ieq p0.Op 7 = true then
                (s_l43Box p0.N).bind fun r15 =>
                (some ([r15] : List gInstr)).bind fun l16 =>
                (s_l43Call_o l16 2).bind fun r17 =>
                (s_l43Move r1 10).bind fun r18 =>
                (appx 40 r17 ([r18] : List gInstr)).bind fun l19 =>
                (s_l43Write l19 p0.Dst p1).bind fun r20 =>
                some r20
              else
                if ieq p0.Op 8 = true then
                  (some ([] : List gInstr)).bind fun l21 =>
                  (s_l43Call l21 3).bind fun r22 =>
                  some r22
                else
                  if ieq p0.Op 9 = true then
                    (s_l43Give_o p0.A p1).bind fun r23 =>
                    (s_l43Call r23 4).bind fun r24 =>
                    some r24
                  else
                    (some ([] : List gInstr)).bind fun l25 =>
                    (s_l43Call l25 5).bind fun r26 =>
                    some r26

noncomputable def s_l43Places_L1 (p0 : (List gQuad)) (p1 : Int) (s : Int × Int × (List Int)) : Option (Flow (Int × Int × (List Int)) ((List Int))) :=
  match s with
  | (s1, s2, s3) =>
  if ilt s2 (ilen p0) = true then
    (appx 8 s3 ([s1] : List Int)).bind fun l5 =>
    (idx p0 s2).bind fun v6 =>
    (s_l43Quad v6 p1 0).bind fun r7 =>
    some (.next (iadd .i64 s1 (ilen r7), iadd .i64 s2 1, l5))
  else
    some (.done s3)

noncomputable def s_l43Places (p0 : (List gQuad)) (p1 : Int) : Option ((List Int)) :=
  (loopM (s_l43Places_L1 p0 p1) (0, 0, ([] : List Int))).bind fun e1 =>
  match e1 with
  | y4 =>
    some y4

noncomputable def s_l43Task_L1 (p0 : (List gQuad)) (p1 : Int) (r1 : (List Int)) (s : Int × (List gInstr)) : Option (Flow (Int × (List gInstr)) ((List gInstr))) :=
  match s with
  | (s2, s3) =>
  if ilt s2 (ilen p0) = true then
    ((idx p0 s2).bind fun v9 =>
    (if ieq v9.Op 4 = true then some true else some (ieq v9.Op 5)).bind fun g10 =>
    if g10 = true then
      (idx r1 v9.N).bind fun v11 =>
      (idx r1 s2).bind fun v12 =>
      some (imul .i64 4 (isub .i64 v11 v12))
    else
      some 0).bind fun j1 =>
    (idx p0 s2).bind fun v6 =>
    (s_l43Quad v6 p1 j1).bind fun r7 =>
    (appx 40 s3 r7).bind fun l8 =>
    some (.next (iadd .i64 s2 1, l8))
  else
    some (.done s3)

noncomputable def s_l43Task (p0 : (List gQuad)) (p1 : Int) : Option ((List gInstr)) :=
  (s_l43Places p0 p1).bind fun r1 =>
  (loopM (s_l43Task_L1 p0 p1 r1) (0, ([] : List gInstr))).bind fun e2 =>
  match e2 with
  | y4 =>
    some y4

noncomputable def s_l42Regs (p0 : gInstr) (p1 : Int) (p2 : Int) (p3 : Int) : Option (Bool) :=
  (s_l6In p0.Rd 0 (imul .i64 p1 31)).bind fun r1 =>
  (if r1 = true then (s_l6In p0.Rs 0 (imul .i64 p2 31)).bind fun r2 => some r2 else some false).bind fun g3 =>
  (if g3 = true then (s_l6In p0.Rt 0 (imul .i64 p3 31)).bind fun r4 => some r4 else some false).bind fun g5 =>
  some g5

noncomputable def s_l42Even (p0 : Int) (p1 : Int) (p2 : Int) : Option (Bool) :=
  (s_l6In p0 p1 p2).bind fun r1 =>
  (if r1 = true then (remx p0 2).bind fun v2 => some (ieq v2 0) else some false).bind fun g3 =>
  some g3

noncomputable def s_InstrValid (p0 : gInstr) : Option (Bool) :=
  (s_l6In p0.Op 1 11).bind fun r1 =>
  if r1 = true then
    (s_l42Regs p0 1 1 1).bind fun r2 =>
    (if r2 = true then some (ieq p0.Imm 0) else some false).bind fun g3 =>
    some g3
  else
    (s_l6In p0.Op 12 15).bind fun r4 =>
    if r4 = true then
      (s_l42Regs p0 1 1 0).bind fun r5 =>
      (if r5 = true then (s_l6In p0.Imm (-2048) 2047).bind fun r6 => some r6 else some false).bind fun g7 =>
      some g7
    else
      if ieq p0.Op 16 = true then
        (s_l42Regs p0 0 1 1).bind fun r8 =>
        (if r8 = true then (s_l6In p0.Imm (-2048) 2047).bind fun r9 => some r9 else some false).bind fun g10 =>
        some g10
      else
        (if ieq p0.Op 17 = true then some true else some (ieq p0.Op 18)).bind fun g11 =>
        if g11 = true then
          (s_l42Regs p0 0 1 1).bind fun r12 =>
          (if r12 = true then (s_l42Even p0.Imm (-4096) 4094).bind fun r13 => some r13 else some false).bind fun g14 =>
          some g14
        else
          if ieq p0.Op 19 = true then
            (s_l42Regs p0 1 0 0).bind fun r15 =>
            (if r15 = true then (s_l6In p0.Imm 0 1048575).bind fun r16 => some r16 else some false).bind fun g17 =>
            some g17
          else
            if ieq p0.Op 20 = true then
              (s_l42Regs p0 1 0 0).bind fun r18 =>
              (if r18 = true then (s_l42Even p0.Imm (-1048576) 1048574).bind fun r19 => some r19 else some false).bind fun g20 =>
              some g20
            else
              (if ieq p0.Op 21 = true then (s_l42Regs p0 0 0 0).bind fun r21 => some r21 else some false).bind fun g22 =>
              (if g22 = true then some (ieq p0.Imm 0) else some false).bind fun g23 =>
              some g23

noncomputable def s_l42Mod (p0 : Int) (p1 : Int) : Option (Int) :=
  if ilt p0 0 = true then
    some (iadd .i64 p0 p1)
  else
    some p0

noncomputable def s_l42Put (p0 : Int) (p1 : Int) : Option (Int) :=
  (s_l1Power p1).bind fun r1 =>
  some (imul .i64 p0 r1)

noncomputable def s_l42Three (p0 : Int) : Option (Int) :=
  (idx ([0, 0, 0, 4, 6, 7, 6, 4, 1, 5, 2, 0, 3, 2, 0, 2, 0, 1, 0, 0, 0] : List Int) (isub .i64 p0 1)).bind fun v1 =>
  some v1

noncomputable def s_l42Mid (p0 : gInstr) (p1 : Int) : Option (Int) :=
  (s_l42Put p0.Rs 15).bind fun r1 =>
  (s_l42Three p0.Op).bind fun r2 =>
  (s_l42Put r2 12).bind fun r3 =>
  some (iadd .i64 (iadd .i64 r1 r3) p1)

noncomputable def s_l42Imm (p0 : gInstr) (p1 : Int) : Option (Int) :=
  (s_l42Mod p0.Imm 4096).bind fun r1 =>
  (s_l42Put r1 20).bind fun r2 =>
  (s_l42Mid p0 p1).bind fun r3 =>
  (s_l42Put p0.Rd 7).bind fun r4 =>
  some (iadd .i64 (iadd .i64 r2 r3) r4)

noncomputable def s_l42Branch (p0 : gInstr) : Option (Int) :=
  (s_l42Mod p0.Imm 8192).bind fun r1 =>
  (s_Bits r1 12 1).bind fun r2 =>
  (s_l42Put r2 31).bind fun r3 =>
  (s_Bits r1 5 6).bind fun r4 =>
  (s_l42Put r4 25).bind fun r5 =>
  (s_l42Put p0.Rt 20).bind fun r6 =>
  (s_l42Mid p0 99).bind fun r7 =>
  (s_Bits r1 1 4).bind fun r8 =>
  (s_l42Put r8 8).bind fun r9 =>
  (s_Bits r1 11 1).bind fun r10 =>
  (s_l42Put r10 7).bind fun r11 =>
  some (iadd .i64 (iadd .i64 (iadd .i64 (iadd .i64 (iadd .i64 r3 r5) r6) r7) r9) r11)

noncomputable def s_l42Jump (p0 : gInstr) : Option (Int) :=
  (s_l42Mod p0.Imm 2097152).bind fun r1 =>
  (s_Bits r1 20 1).bind fun r2 =>
  (s_l42Put r2 31).bind fun r3 =>
  (s_Bits r1 1 10).bind fun r4 =>
  (s_l42Put r4 21).bind fun r5 =>
  (s_Bits r1 11 1).bind fun r6 =>
  (s_l42Put r6 20).bind fun r7 =>
  (s_Bits r1 12 8).bind fun r8 =>
  (s_l42Put r8 12).bind fun r9 =>
  (s_l42Put p0.Rd 7).bind fun r10 =>
  some (iadd .i64 (iadd .i64 (iadd .i64 (iadd .i64 (iadd .i64 r3 r5) r7) r9) r10) 111)

noncomputable def s_l42Seven (p0 : Int) : Option (Int) :=
  (idx ([0, 32, 1, 1, 1, 0, 0, 0, 0, 32, 0] : List Int) (isub .i64 p0 1)).bind fun v1 =>
  some v1

noncomputable def s_l42Encode (p0 : gInstr) : Option (Int) :=
  (if ieq p0.Op 12 = true then
    some (ieq p0.Op 12)
  else
    some (ieq p0.Op 13)).bind fun j1 =>
  if j1 = true then
    (s_l42Imm p0 19).bind fun r2 =>
    some r2
  else
    if ieq p0.Op 14 = true then
      (s_l42Imm p0 3).bind fun r3 =>
      some r3
    else
      if ieq p0.Op 15 = true then
        (s_l42Imm p0 103).bind fun r4 =>
        some r4
      else
        if ieq p0.Op 16 = true then
          (s_l42Mod p0.Imm 4096).bind fun r5 =>
          (s_Bits r5 5 7).bind fun r6 =>
          (s_l42Put r6 25).bind fun r7 =>
          (s_l42Put p0.Rt 20).bind fun r8 =>
          (s_l42Mid p0 35).bind fun r9 =>
          (s_Bits r5 0 5).bind fun r10 =>
          (s_l42Put r10 7).bind fun r11 =>
          some (iadd .i64 (iadd .i64 (iadd .i64 r7 r8) r9) r11)
        else
          (if ieq p0.Op 17 = true then
            some (ieq p0.Op 17)
          else
            some (ieq p0.Op 18)).bind fun j2 =>
          if j2 = true then
            (s_l42Branch p0).bind fun r13 =>
            some r13
          else
            if ieq p0.Op 19 = true then
              (s_l42Put p0.Imm 12).bind fun r14 =>
              (s_l42Put p0.Rd 7).bind fun r15 =>
              some (iadd .i64 (iadd .i64 r14 r15) 55)
            else
              if ieq p0.Op 20 = true then
                (s_l42Jump p0).bind fun r16 =>
                some r16
              else
                if ieq p0.Op 21 = true then
                  some 115
                else
                  (s_l42Seven p0.Op).bind fun r17 =>
                  (s_l42Put r17 25).bind fun r18 =>
                  (s_l42Put p0.Rt 20).bind fun r19 =>
                  (s_l42Mid p0 51).bind fun r20 =>
                  (s_l42Put p0.Rd 7).bind fun r21 =>
                  some (iadd .i64 (iadd .i64 (iadd .i64 r18 r19) r20) r21)

noncomputable def s_InstrEncode (p0 : gInstr) : Option (Int × Bool) :=
  (s_InstrValid p0).bind fun r1 =>
  if bnot r1 = true then
    some (0, false)
  else
    (s_l42Encode p0).bind fun r2 =>
    some (r2, true)

noncomputable def s_l45Code_L1 (p1 : (List gInstr)) (s : Int × (List Int)) : Option (Flow (Int × (List Int)) (Sum ((List Int)) ((List Int) × Bool))) :=
  match s with
  | (s1, s2) =>
  if ilt s1 (ilen p1) = true then
    (idx p1 s1).bind fun v4 =>
    (s_InstrEncode v4).bind fun r5 =>
    if bnot r5.2 = true then
      some (.done (.inr (s2, false)))
    else
      (s_Wrap r5.1).bind fun r6 =>
      (appx 8 s2 ([r6] : List Int)).bind fun l7 =>
      some (.next (iadd .i64 s1 1, l7))
  else
    some (.done (.inl s2))

noncomputable def s_l45Code (p0 : (List Int)) (p1 : (List gInstr)) : Option ((List Int) × Bool) :=
  (loopM (s_l45Code_L1 p1) (0, p0)).bind fun e1 =>
  match e1 with
  | .inl y3 =>
    some (y3, true)
  | .inr r0 =>
    some r0

noncomputable def s_l45Code_o_L1 (p1 : (List gInstr)) (s : Int × (List Int)) : Option (Flow (Int × (List Int)) (Sum ((List Int)) ((List Int) × Bool))) :=
  match s with
  | (s1, s2) =>
  if ilt s1 (ilen p1) = true then
    (idx p1 s1).bind fun v4 =>
    (s_InstrEncode v4).bind fun r5 =>
    if bnot r5.2 = true then
      some (.done (.inr (s2, false)))
    else
      (s_Wrap r5.1).bind fun r6 =>
      (appx 8 s2 ([r6] : List Int)).bind fun l7 =>
      some (.next (iadd .i64 s1 1, l7))
  else
    some (.done (.inl s2))

noncomputable def s_l45Code_o (p0 : (List Int)) (p1 : (List gInstr)) : Option ((List Int) × Bool) :=
  (loopM (s_l45Code_o_L1 p1) (0, p0)).bind fun e1 =>
  match e1 with
  | .inl y3 =>
    some (y3, true)
  | .inr r0 =>
    some r0

noncomputable def s_HartNew (p0 : (List gInstr)) : Option (gMachine × Bool) :=
  if igt (ilen p0) 9987 = true then
    some ((⟨([] : List Int), 0, ([] : List Int)⟩ : gMachine), false)
  else
    (some ([0] : List Int)).bind fun l1 =>
    (s_l45Code_o l1 p0).bind fun r2 =>
    if bnot r2.2 = true then
      some ((⟨([] : List Int), 0, ([] : List Int)⟩ : gMachine), false)
    else
      (makex 8 32 0).bind fun l3 =>
      (idx l3 2).bind fun v4 =>
      (setx l3 2 (imul .i64 4 (ilen r2.1))).bind fun l5 =>
      (appzx 8 r2.1 12 0).bind fun l6 =>
      some ((⟨l5, 4, l6⟩ : gMachine), true)

noncomputable def s_HartNew_o (p0 : (List gInstr)) : Option (gMachine × Bool) :=
  if igt (ilen p0) 9987 = true then
    some ((⟨([] : List Int), 0, ([] : List Int)⟩ : gMachine), false)
  else
    (some ([0] : List Int)).bind fun l1 =>
    (s_l45Code_o l1 p0).bind fun r2 =>
    if bnot r2.2 = true then
      some ((⟨([] : List Int), 0, ([] : List Int)⟩ : gMachine), false)
    else
      (makex 8 32 0).bind fun l3 =>
      (idx l3 2).bind fun v4 =>
      (setx l3 2 (imul .i64 4 (ilen r2.1))).bind fun l5 =>
      (appzx 8 r2.1 12 0).bind fun l6 =>
      some ((⟨l5, 4, l6⟩ : gMachine), true)

noncomputable def s_l92Items_L1 (p1 : Int) (s : Int × gL6Rd × (List Int)) : Option (Flow (Int × gL6Rd × (List Int)) (gL6Rd × (List Int))) :=
  match s with
  | (s1, s2, s3) =>
  if ilt s1 p1 = true then
    (s_l91Word s2).bind fun r6 =>
    (appx 8 s3 ([r6.1] : List Int)).bind fun l7 =>
    some (.next (iadd .i64 s1 1, r6.2, l7))
  else
    some (.done (s2, s3))

noncomputable def s_l92Items (p0 : gL6Rd) (p1 : Int) : Option ((List Int) × gL6Rd) :=
  (loopM (s_l92Items_L1 p1) (0, p0, ([] : List Int))).bind fun e1 =>
  match e1 with
  | (y4, y5) =>
    some (y5, y4)

noncomputable def s_l92Boxes_L1 (v2 : Int) (s : Int × gL6Rd × (List gBox)) : Option (Flow (Int × gL6Rd × (List gBox)) (gL6Rd × (List gBox))) :=
  match s with
  | (s3, s4, s5) =>
  if ilt s3 v2 = true then
    (s_l6Rd_pick s4 4).bind fun r8 =>
    (s_l6Rd_pick r8.2 (iadd .i64 (iadd .i64 1 r8.1) 1)).bind fun r9 =>
    (s_l92Items r9.2 r9.1).bind fun r10 =>
    (appx 32 s5 ([(⟨iadd .i64 1 r8.1, r10.1⟩ : gBox)] : List gBox)).bind fun l11 =>
    some (.next (iadd .i64 s3 1, r10.2, l11))
  else
    some (.done (s4, s5))

noncomputable def s_l92Boxes (p0 : gL6Rd) : Option ((List gBox) × gL6Rd) :=
  (s_l6Rd_pick p0 4).bind fun r1 =>
  (idx ([1, 2, 2, 3] : List Int) r1.1).bind fun v2 =>
  (loopM (s_l92Boxes_L1 v2) (0, r1.2, ([] : List gBox))).bind fun e1 =>
  match e1 with
  | (y6, y7) =>
    (s_l6Rd_pick y6 40).bind fun r12 =>
    if ieq r12.1 0 = true then
      (idx y7 0).bind fun v13 =>
      (setx y7 0 (⟨0, v13.Items⟩ : gBox)).bind fun l14 =>
      some (l14, r12.2)
    else
      if ieq r12.1 1 = true then
        (idx y7 0).bind fun v15 =>
        (appx 32 y7 ([v15, v15, v15] : List gBox)).bind fun l16 =>
        some (l16, r12.2)
      else
        some (y7, r12.2)

noncomputable def s_DrawHartCall (p0 : (List Int)) : Option (gMachine × (List gBox)) :=
  (s_l6Open_o p0).bind fun r1 =>
  (s_l93Random r1).bind fun r2 =>
  (s_l43Task r2.1 8).bind fun r3 =>
  (s_HartNew_o r3).bind fun r4 =>
  (s_l6Rd_pick r2.2 6).bind fun r5 =>
  (idx r4.1.Regs 1).bind fun v6 =>
  (setx r4.1.Regs 1 (imul .i64 4 r5.1)).bind fun l7 =>
  (s_l91Word r5.2).bind fun r8 =>
  (idx l7 10).bind fun v9 =>
  (setx l7 10 r8.1).bind fun l10 =>
  (s_l6Rd_pick r8.2 5).bind fun r11 =>
  (idx l10 17).bind fun v12 =>
  (setx l10 17 (iadd .i64 1 r11.1)).bind fun l13 =>
  (s_l6Rd_pick r11.2 2).bind fun r14 =>
  (idx l13 11).bind fun v15 =>
  (setx l13 11 r14.1).bind fun l16 =>
  ((s_l6Rd_pick r14.2 24).bind fun r20 =>
  if ieq r20.1 0 = true then
    some (r20.2, (⟨l16, 4, r4.1.Mem⟩ : gMachine))
  else
    if ieq r20.1 1 = true then
      (s_l6Rd_pick r20.2 2).bind fun r21 =>
      (idx ([0, 6] : List Int) r21.1).bind fun v22 =>
      (idx l16 17).bind fun v23 =>
      (setx l16 17 v22).bind fun l24 =>
      some (r21.2, (⟨l24, 0, r4.1.Mem⟩ : gMachine))
    else
      if ieq r20.1 2 = true then
        (s_l6Rd_pick r20.2 2).bind fun r25 =>
        (idx ([-1, 3] : List Int) r25.1).bind fun v26 =>
        (idx l16 11).bind fun v27 =>
        (setx l16 11 v26).bind fun l28 =>
        some (r25.2, (⟨l28, 0, r4.1.Mem⟩ : gMachine))
      else
        some (r20.2, (⟨l16, 0, r4.1.Mem⟩ : gMachine))).bind fun j1 =>
  (s_l92Boxes j1.1).bind fun r19 =>
  some (j1.2, r19.1)

noncomputable def l_sameInts_L1 (p0 : (List Int)) (p1 : (List Int)) (s : Int) : Option (Flow (Int) (Sum (Unit) (Bool))) :=
  let s1 := s
  if ilt s1 (ilen p0) = true then
    (idx p0 s1).bind fun v2 =>
    (idx p1 s1).bind fun v3 =>
    if ine v2 v3 = true then
      some (.done (.inr false))
    else
      some (.next (iadd .i64 s1 1))
  else
    some (.done (.inl ()))

noncomputable def l_sameInts (p0 : (List Int)) (p1 : (List Int)) : Option (Bool) :=
  if ine (ilen p0) (ilen p1) = true then
    some false
  else
    (loopM (l_sameInts_L1 p0 p1) 0).bind fun e1 =>
    match e1 with
    | .inl _ =>
      some true
    | .inr r0 =>
      some r0

noncomputable def l_sameMachine (p0 : gMachine) (p1 : gMachine) : Option (Bool) :=
  (if ieq p0.Pc p1.Pc = true then (l_sameInts p0.Regs p1.Regs).bind fun r1 => some r1 else some false).bind fun g2 =>
  (if g2 = true then (l_sameInts p0.Mem p1.Mem).bind fun r3 => some r3 else some false).bind fun g4 =>
  some g4

noncomputable def l_sameBox (p0 : gBox) (p1 : gBox) : Option (Bool) :=
  (if ieq p0.Room p1.Room = true then (l_sameInts p0.Items p1.Items).bind fun r1 => some r1 else some false).bind fun g2 =>
  some g2

noncomputable def l_sameBoxes_L1 (p0 : (List gBox)) (p1 : (List gBox)) (s : Int) : Option (Flow (Int) (Sum (Unit) (Bool))) :=
  let s1 := s
  if ilt s1 (ilen p0) = true then
    (idx p0 s1).bind fun v2 =>
    (idx p1 s1).bind fun v3 =>
    (l_sameBox v2 v3).bind fun r4 =>
    if bnot r4 = true then
      some (.done (.inr false))
    else
      some (.next (iadd .i64 s1 1))
  else
    some (.done (.inl ()))

noncomputable def l_sameBoxes (p0 : (List gBox)) (p1 : (List gBox)) : Option (Bool) :=
  if ine (ilen p0) (ilen p1) = true then
    some false
  else
    (loopM (l_sameBoxes_L1 p0 p1) 0).bind fun e1 =>
    match e1 with
    | .inl _ =>
      some true
    | .inr r0 =>
      some r0

noncomputable def l_FnHartCall (p0 : (List Int)) : Option (Bool) :=
  if igt (ilen p0) 1048576 = true then
    some true
  else
    (s_DrawHartCall p0).bind fun r1 =>
    (i_HartCall r1.1 r1.2).bind fun r2 =>
    (s_HartCall r1.1 r1.2).bind fun r3 =>
    (if ine r2.2.2.2 r3.2.2.2 = true then some true else (l_sameMachine r2.1 r3.1).bind fun r4 => some (bnot r4)).bind fun g5 =>
    (if g5 = true then some true else (l_sameBoxes r2.2.1 r3.2.1).bind fun r6 => some (bnot r6)).bind fun g7 =>
    (if g7 = true then some true else (l_sameInts r2.2.2.1 r3.2.2.1).bind fun r8 => some (bnot r8)).bind fun g9 =>
    if g9 = true then
      some false
    else
      if ieq r2.2.2.2 0 = true then
        some true
      else
        (if ieq r2.2.2.2 3 = true then some true else some (ieq r2.2.2.2 4)).bind fun g10 =>
        if g10 = true then
          (l_sameMachine r2.1 r1.1).bind fun r11 =>
          (if r11 = true then (l_sameBoxes r2.2.1 r1.2).bind fun r12 => some r12 else some false).bind fun g13 =>
          (if g13 = true then some (ieq (ilen r2.2.2.1) 0) else some false).bind fun g14 =>
          some g14
        else
          (appx 8 ([] : List Int) r1.1.Regs).bind fun l15 =>
          (idx r2.1.Regs 10).bind fun v16 =>
          (idx l15 10).bind fun v17 =>
          (setx l15 10 v16).bind fun l18 =>
          (idx r1.1.Regs 1).bind fun v19 =>
          (if ieq r2.1.Pc v19 = true then (l_sameInts r2.1.Mem r1.1.Mem).bind fun r20 => some r20 else some false).bind fun g21 =>
          (if g21 = true then (l_sameInts r2.1.Regs l18).bind fun r22 => some r22 else some false).bind fun g23 =>
          some g23

noncomputable def l_FnHartCallKinds (p0 : (List Int)) : Option (Bool) :=
  if igt (ilen p0) 1048576 = true then
    some true
  else
    (s_DrawHartCall p0).bind fun r1 =>
    (i_HartCall r1.1 r1.2).bind fun r2 =>
    (s_HartCall r1.1 r1.2).bind fun r3 =>
    (if ine r2.2.2.2 r3.2.2.2 = true then some true else (l_sameMachine r2.1 r3.1).bind fun r4 => some (bnot r4)).bind fun g5 =>
    (if g5 = true then some true else (l_sameBoxes r2.2.1 r3.2.1).bind fun r6 => some (bnot r6)).bind fun g7 =>
    (if g7 = true then some true else (l_sameInts r2.2.2.1 r3.2.2.1).bind fun r8 => some (bnot r8)).bind fun g9 =>
    if g9 = true then
      some false
    else
      if ieq r2.2.2.2 0 = true then
        some true
      else
        (idx r1.1.Regs 17).bind fun v10 =>
        (if ieq v10 4 = true then (idx r1.1.Regs 10).bind fun v11 => (l_sameInts r2.2.2.1 ([v11] : List Int)).bind fun r12 => some (bnot r12) else some false).bind fun g13 =>
        (if g13 = true then some true else (if ine v10 4 = true then some (igt (ilen r2.2.2.1) 0) else some false).bind fun g14 => some g14).bind fun g15 =>
        if g15 = true then
          some false
        else
          (if beqb (ieq r2.2.2.2 4) (ieq v10 5) = true then some (beqb (ieq r2.2.2.2 2) (ieq v10 3)) else some false).bind fun g16 =>
          some g16

noncomputable def i_BoxPut (p0 : gBox) (p1 : Int) : Option (gBox × Bool) :=
  (i_BoxValid p0).bind fun r1 =>
  (if bnot r1 = true then some true else (i_WordValid p1).bind fun r2 => some (bnot r2)).bind fun g3 =>
  (if g3 = true then some true else some (ieq (ilen p0.Items) p0.Room)).bind fun g4 =>
  if g4 = true then
    some ((⟨0, ([] : List Int)⟩ : gBox), false)
  else
    (slices_Clone_int_int_o p0.Items).bind fun r5 =>
    (appx 8 r5 ([p1] : List Int)).bind fun l6 =>
    some ((⟨p0.Room, l6⟩ : gBox), true)

noncomputable def l_sameElse_L1 (p0 : (List gBox)) (p1 : (List gBox)) (p2 : Int) (s : Int) : Option (Flow (Int) (Sum (Unit) (Bool))) :=
  let s1 := s
  if ilt s1 (ilen p0) = true then
    (if ine s1 p2 = true then (idx p0 s1).bind fun v2 => (idx p1 s1).bind fun v3 => (l_sameBox v2 v3).bind fun r4 => some (bnot r4) else some false).bind fun g5 =>
    if g5 = true then
      some (.done (.inr false))
    else
      some (.next (iadd .i64 s1 1))
  else
    some (.done (.inl ()))

noncomputable def l_sameElse (p0 : (List gBox)) (p1 : (List gBox)) (p2 : Int) : Option (Bool) :=
  if ine (ilen p0) (ilen p1) = true then
    some false
  else
    (loopM (l_sameElse_L1 p0 p1 p2) 0).bind fun e1 =>
    match e1 with
    | .inl _ =>
      some true
    | .inr r0 =>
      some r0

noncomputable def i_BoxTake (p0 : gBox) : Option (gBox × Int × Bool) :=
  (i_BoxValid p0).bind fun r1 =>
  (if bnot r1 = true then some true else some (ieq (ilen p0.Items) 0)).bind fun g2 =>
  if g2 = true then
    some ((⟨0, ([] : List Int)⟩ : gBox), 0, false)
  else
    (cutx p0.Items 1 (ilen p0.Items)).bind fun l3 =>
    (slices_Clone_int_int l3).bind fun r4 =>
    (idx p0.Items 0).bind fun v5 =>
    some ((⟨p0.Room, r4⟩ : gBox), v5, true)

noncomputable def l_FnHartCallTalk (p0 : (List Int)) : Option (Bool) :=
  if igt (ilen p0) 1048576 = true then
    some true
  else
    (s_DrawHartCall p0).bind fun r1 =>
    (i_HartCall r1.1 r1.2).bind fun r2 =>
    (s_HartCall r1.1 r1.2).bind fun r3 =>
    (if ine r2.2.2.2 r3.2.2.2 = true then some true else (l_sameMachine r2.1 r3.1).bind fun r4 => some (bnot r4)).bind fun g5 =>
    (if g5 = true then some true else (l_sameBoxes r2.2.1 r3.2.1).bind fun r6 => some (bnot r6)).bind fun g7 =>
    (if g7 = true then some true else (l_sameInts r2.2.2.1 r3.2.2.1).bind fun r8 => some (bnot r8)).bind fun g9 =>
    if g9 = true then
      some false
    else
      (if ieq r2.2.2.2 0 = true then some true else (idx r1.1.Regs 17).bind fun v10 => some (igt v10 2)).bind fun g11 =>
      if g11 = true then
        some true
      else
        (idx r1.1.Regs 11).bind fun v12 =>
        (idx r1.1.Regs 17).bind fun v13 =>
        if ieq v13 1 = true then
          (idx r1.2 v12).bind fun v14 =>
          (idx r1.1.Regs 10).bind fun v15 =>
          (i_BoxPut v14 v15).bind fun r16 =>
          (if beqb r16.2 (ieq r2.2.2.2 1) = true then (l_sameElse r2.2.1 r1.2 v12).bind fun r17 => some r17 else some false).bind fun g18 =>
          (if g18 = true then (if bnot r16.2 = true then some true else (idx r2.2.1 v12).bind fun v19 => (l_sameBox v19 r16.1).bind fun r20 => some r20).bind fun g21 => some g21 else some false).bind fun g22 =>
          some g22
        else
          (idx r1.2 v12).bind fun v23 =>
          (i_BoxTake v23).bind fun r24 =>
          (if beqb r24.2.2 (ieq r2.2.2.2 1) = true then (l_sameElse r2.2.1 r1.2 v12).bind fun r25 => some r25 else some false).bind fun g26 =>
          (if g26 = true then (if bnot r24.2.2 = true then some true else (idx r2.2.1 v12).bind fun v27 => (l_sameBox v27 r24.1).bind fun r28 => (if r28 = true then (idx r2.1.Regs 10).bind fun v29 => some (ieq v29 r24.2.1) else some false).bind fun g30 => some g30).bind fun g31 => some g31 else some false).bind fun g32 =>
          some g32

end Go.Abs
