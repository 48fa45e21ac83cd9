/- Words of the proof: DM. No conditions. -/
import Derived.Test.YtoklfbdcghgmlaaDoorNDR0
set_option linter.unusedSimpArgs false
set_option linter.unusedVariables false
set_option maxRecDepth 20000
set_option maxHeartbeats 4000000
namespace Go.Abs
open Go

noncomputable def l_toQuad (p0 : gQuad) : Option (gQuad) :=
  some p0

noncomputable def s_l6In (p0 : Int) (p1 : Int) (p2 : Int) : Option (Bool) :=
  (if ige p0 p1 = true then some (ile p0 p2) else some false).bind fun g1 =>
  some g1

noncomputable def s_l21Reg (p0 : Int) (p1 : Bool) : Option (Bool) :=
  if p1 = true then
    (s_l6In p0 0 11).bind fun r1 =>
    some r1
  else
    some (ieq p0 0)

noncomputable def s_l21Regs (p0 : gQuad) (p1 : Bool) (p2 : Bool) (p3 : Bool) : Option (Bool) :=
  (s_l21Reg p0.Dst p1).bind fun r1 =>
  (if r1 = true then (s_l21Reg p0.A p2).bind fun r2 => some r2 else some false).bind fun g3 =>
  (if g3 = true then (s_l21Reg p0.B p3).bind fun r4 => some r4 else some false).bind fun g5 =>
  some g5

noncomputable def s_WordValid (p0 : Int) : Option (Bool) :=
  (s_l6In p0 (-2147483648) 2147483647).bind fun r1 =>
  some r1

noncomputable def s_OpValid (p0 : Int) : Option (Bool) :=
  (s_l6In p0 1 12).bind fun r1 =>
  some r1

noncomputable def s_QuadValid (p0 : gQuad) (p1 : Int) : Option (Bool) :=
  if ieq p0.Op 1 = true then
    (s_l21Regs p0 true false false).bind fun r1 =>
    (if r1 = true then (s_WordValid p0.N).bind fun r2 => some r2 else some false).bind fun g3 =>
    some g3
  else
    if ieq p0.Op 2 = true then
      (s_l21Regs p0 true true false).bind fun r4 =>
      (if r4 = true then some (ieq p0.N 0) else some false).bind fun g5 =>
      some g5
    else
      if ieq p0.Op 3 = true then
        (s_l21Regs p0 true true true).bind fun r6 =>
        (if r6 = true then (s_OpValid p0.N).bind fun r7 => some r7 else some false).bind fun g8 =>
        some g8
      else
        if ieq p0.Op 4 = true then
          (s_l21Regs p0 false false false).bind fun r9 =>
          (if r9 = true then some (ige p0.N 0) else some false).bind fun g10 =>
          (if g10 = true then some (ilt p0.N p1) else some false).bind fun g11 =>
          some g11
        else
          if ieq p0.Op 5 = true then
            (s_l21Regs p0 false true false).bind fun r12 =>
            (if r12 = true then some (ige p0.N 0) else some false).bind fun g13 =>
            (if g13 = true then some (ilt p0.N p1) else some false).bind fun g14 =>
            some g14
          else
            if ieq p0.Op 6 = true then
              (s_l21Regs p0 false true false).bind fun r15 =>
              (if r15 = true then (s_l6In p0.N 0 2).bind fun r16 => some r16 else some false).bind fun g17 =>
              some g17
            else
              if ieq p0.Op 7 = true then
                (s_l21Regs p0 true false false).bind fun r18 =>
                (if r18 = true then (s_l6In p0.N 0 2).bind fun r19 => some r19 else some false).bind fun g20 =>
                some g20
              else
                if ieq p0.Op 9 = true then
                  (s_l21Regs p0 false true false).bind fun r21 =>
                  (if r21 = true then some (ieq p0.N 0) else some false).bind fun g22 =>
                  some g22
                else
                  (if ieq p0.Op 8 = true then
                    some (ieq p0.Op 8)
                  else
                    some (ieq p0.Op 10)).bind fun j1 =>
                  if j1 = true then
                    (s_l21Regs p0 false false false).bind fun r24 =>
                    (if r24 = true then some (ieq p0.N 0) else some false).bind fun g25 =>
                    some g25
                  else
                    some false

noncomputable def s_l43Reg (p0 : Int) (p1 : Int) (p2 : Int) : Option (Int) :=
  if ige p0 p1 = true then
    some p2
  else
    (idx ([8, 9, 18, 19, 20, 21, 22, 23] : List Int) p0).bind fun v1 =>
    some v1

noncomputable def s_Unsigned (p0 : Int) : Option (Int) :=
  (s_WordValid p0).bind fun r1 =>
  if bnot r1 = true then
    some (-1)
  else
    if ilt p0 0 = true then
      some (iadd .i64 p0 4294967296)
    else
      some p0

noncomputable def s_l1Power_L1 (p0 : Int) (s : Int × Int) : Option (Flow (Int × Int) (Int)) :=
  match s with
  | (s1, s2) =>
  if ilt s2 p0 = true then
    some (.next (imul .i64 s1 2, iadd .i64 s2 1))
  else
    some (.done s1)

noncomputable def s_l1Power (p0 : Int) : Option (Int) :=
  (loopM (s_l1Power_L1 p0) (1, 0)).bind fun e1 =>
  match e1 with
  | y3 =>
    some y3

noncomputable def s_Bits (p0 : Int) (p1 : Int) (p2 : Int) : Option (Int) :=
  (s_l6In p0 0 4294967295).bind fun r1 =>
  (if bnot r1 = true then some true else (s_l6In p1 0 31).bind fun r2 => some (bnot r2)).bind fun g3 =>
  (if g3 = true then some true else (s_l6In p2 1 (isub .i64 32 p1)).bind fun r4 => some (bnot r4)).bind fun g5 =>
  if g5 = true then
    some 0
  else
    (s_l1Power p1).bind fun r6 =>
    (quox .i64 p0 r6).bind fun v7 =>
    (s_l1Power p2).bind fun r8 =>
    (remx v7 r8).bind fun v9 =>
    some v9

noncomputable def s_SignExtend (p0 : Int) (p1 : Int) : Option (Int) :=
  (s_l6In p1 1 32).bind fun r1 =>
  (if bnot r1 = true then some true else (s_l1Power p1).bind fun r2 => (s_l6In p0 0 (isub .i64 r2 1)).bind fun r3 => some (bnot r3)).bind fun g4 =>
  if g4 = true then
    some 0
  else
    (s_l1Power (isub .i64 p1 1)).bind fun r5 =>
    if ige p0 r5 = true then
      (s_l1Power p1).bind fun r6 =>
      some (isub .i64 p0 r6)
    else
      some p0

noncomputable def s_Wrap (p0 : Int) : Option (Int) :=
  (remx p0 4294967296).bind fun v1 =>
  if igt v1 2147483647 = true then
    some (isub .i64 v1 4294967296)
  else
    if ilt v1 (-2147483648) = true then
      some (iadd .i64 v1 4294967296)
    else
      some v1

noncomputable def s_l43Const (p0 : Int) (p1 : Int) : Option ((List gInstr)) :=
  (s_l6In p1 (-2048) 2047).bind fun r1 =>
  if r1 = true then
    some ([(⟨12, p0, 0, 0, p1⟩ : gInstr)] : List gInstr)
  else
    (s_Unsigned p1).bind fun r2 =>
    (s_Bits r2 0 12).bind fun r3 =>
    (s_SignExtend r3 12).bind fun r4 =>
    (s_Wrap (isub .i64 p1 r4)).bind fun r5 =>
    (s_Unsigned r5).bind fun r6 =>
    (s_Bits r6 12 20).bind fun r7 =>
    (some ([(⟨19, p0, 0, 0, r7⟩ : gInstr)] : List gInstr)).bind fun l8 =>
    (appx 40 l8 ([(⟨12, p0, p0, 0, r4⟩ : gInstr)] : List gInstr)).bind fun l9 =>
    some l9

noncomputable def s_l43Write (p0 : (List gInstr)) (p1 : Int) (p2 : Int) : Option ((List gInstr)) :=
  if ilt p1 p2 = true then
    some p0
  else
    (appx 40 p0 ([(⟨16, 0, 2, 7, imul .i64 4 (isub .i64 p1 p2)⟩ : gInstr)] : List gInstr)).bind fun l1 =>
    some l1

noncomputable def s_l43Const_o (p0 : Int) (p1 : Int) : Option ((List gInstr)) :=
  (s_l6In p1 (-2048) 2047).bind fun r1 =>
  if r1 = true then
    (some ([(⟨12, p0, 0, 0, p1⟩ : gInstr)] : List gInstr)).bind fun l2 =>
    some l2
  else
    (s_Unsigned p1).bind fun r3 =>
    (s_Bits r3 0 12).bind fun r4 =>
    (s_SignExtend r4 12).bind fun r5 =>
    (s_Wrap (isub .i64 p1 r5)).bind fun r6 =>
    (s_Unsigned r6).bind fun r7 =>
    (s_Bits r7 12 20).bind fun r8 =>
    (some ([(⟨19, p0, 0, 0, r8⟩ : gInstr)] : List gInstr)).bind fun l9 =>
    (appx 40 l9 ([(⟨12, p0, p0, 0, r5⟩ : gInstr)] : List gInstr)).bind fun l10 =>
    some l10

noncomputable def s_l43Read (p0 : Int) (p1 : Int) (p2 : Int) : Option ((List gInstr)) :=
  if ilt p0 p1 = true then
    some ([] : List gInstr)
  else
    some ([(⟨14, p2, 2, 0, imul .i64 4 (isub .i64 p0 p1)⟩ : gInstr)] : List gInstr)

noncomputable def s_l43Move (p0 : Int) (p1 : Int) : Option (gInstr) :=
  some (⟨12, p0, p1, 0, 0⟩ : gInstr)

noncomputable def s_l43Read_o (p0 : Int) (p1 : Int) (p2 : Int) : Option ((List gInstr)) :=
  if ilt p0 p1 = true then
    some ([] : List gInstr)
  else
    (some ([(⟨14, p2, 2, 0, imul .i64 4 (isub .i64 p0 p1)⟩ : gInstr)] : List gInstr)).bind fun l1 =>
    some l1

noncomputable def s_l43Op (p0 : Int) : Option (Int) :=
  (idx ([7, 8, 6, 8, 11, 9, 10, 1, 2, 3, 4, 5] : List Int) (isub .i64 p0 1)).bind fun v1 =>
  some v1

noncomputable def s_l43Bin (p0 : gQuad) (p1 : Int) : Option ((List gInstr)) :=
  (s_l43Read_o p0.A p1 5).bind fun r1 =>
  (s_l43Read p0.B p1 6).bind fun r2 =>
  (appx 40 r1 r2).bind fun l3 =>
  (s_l43Reg p0.Dst p1 7).bind fun r4 =>
  (s_l43Op p0.N).bind fun r5 =>
  (s_l43Reg p0.A p1 5).bind fun r6 =>
  (s_l43Reg p0.B p1 6).bind fun r7 =>
  (appx 40 l3 ([(⟨r5, r4, r6, r7, 0⟩ : gInstr)] : List gInstr)).bind fun l8 =>
  (if ieq p0.N 4 = true then
    (appx 40 l8 ([(⟨13, r4, r4, 0, 1⟩ : gInstr)] : List gInstr)).bind fun l11 =>
    some l11
  else
    some l8).bind fun j1 =>
  (s_l43Write j1 p0.Dst p1).bind fun r10 =>
  some r10

noncomputable def s_l43Zero (p0 : gQuad) (p1 : Int) (p2 : Int) : Option ((List gInstr)) :=
  (s_l43Read_o p0.A p1 5).bind fun r1 =>
  (s_l43Reg p0.A p1 5).bind fun r2 =>
  (appx 40 r1 ([(⟨18, 0, r2, 0, 8⟩ : gInstr)] : List gInstr)).bind fun l3 =>
  (appx 40 l3 ([(⟨20, 0, 0, 0, isub .i64 p2 (imul .i64 4 (ilen l3))⟩ : gInstr)] : List gInstr)).bind fun l4 =>
  some l4

noncomputable def s_l43Give (p0 : Int) (p1 : Int) : Option ((List gInstr)) :=
  (s_l43Read_o p0 p1 5).bind fun r1 =>
  (s_l43Reg p0 p1 5).bind fun r2 =>
  (s_l43Move 10 r2).bind fun r3 =>
  (appx 40 r1 ([r3] : List gInstr)).bind fun l4 =>
  some l4

noncomputable def s_l43Box (p0 : Int) : Option (gInstr) :=
  some (⟨12, 11, 0, 0, p0⟩ : gInstr)

noncomputable def s_l43Give_o (p0 : Int) (p1 : Int) : Option ((List gInstr)) :=
  (s_l43Read_o p0 p1 5).bind fun r1 =>
  (s_l43Reg p0 p1 5).bind fun r2 =>
  (s_l43Move 10 r2).bind fun r3 =>
  (appx 40 r1 ([r3] : List gInstr)).bind fun l4 =>
  some l4

noncomputable def s_l43Call (p0 : (List gInstr)) (p1 : Int) : Option ((List gInstr)) :=
  (appx 40 p0 ([(⟨12, 17, 0, 0, p1⟩ : gInstr)] : List gInstr)).bind fun l1 =>
  (appx 40 l1 ([(⟨15, 1, 0, 0, 0⟩ : gInstr)] : List gInstr)).bind fun l2 =>
  some l2

noncomputable def s_l43Call_o (p0 : (List gInstr)) (p1 : Int) : Option ((List gInstr)) :=
  (appx 40 p0 ([(⟨12, 17, 0, 0, p1⟩ : gInstr)] : List gInstr)).bind fun l1 =>
  (appx 40 l1 ([(⟨15, 1, 0, 0, 0⟩ : gInstr)] : List gInstr)).bind fun l2 =>
  some l2

noncomputable def s_l43Quad (p0 : gQuad) (p1 : Int) (p2 : Int) : Option ((List gInstr)) :=
  (s_l43Reg p0.Dst p1 7).bind fun r1 =>
  if ieq p0.Op 1 = true then
    (s_l43Const_o r1 p0.N).bind fun r2 =>
    (s_l43Write r2 p0.Dst p1).bind fun r3 =>
    some r3
  else
    if ieq p0.Op 2 = true then
      (s_l43Read_o p0.A p1 5).bind fun r4 =>
      (s_l43Reg p0.A p1 5).bind fun r5 =>
      (s_l43Move r1 r5).bind fun r6 =>
      (appx 40 r4 ([r6] : List gInstr)).bind fun l7 =>
      (s_l43Write l7 p0.Dst p1).bind fun r8 =>
      some r8
    else
      if ieq p0.Op 3 = true then
        (s_l43Bin p0 p1).bind fun r9 =>
        some r9
      else
        if ieq p0.Op 4 = true then
          some ([(⟨20, 0, 0, 0, p2⟩ : gInstr)] : List gInstr)
        else
          if ieq p0.Op 5 = true then
            (s_l43Zero p0 p1 p2).bind fun r10 =>
            some r10
          else
            if ieq p0.Op 6 = true then
              (s_l43Give_o p0.A p1).bind fun r11 =>
              (s_l43Box p0.N).bind fun r12 =>
              (appx 40 r11 ([r12] : List gInstr)).bind fun l13 =>
              (s_l43Call l13 1).bind fun r14 =>
              some r14
            else
              if ieq p0.Op 7 = true then
                (s_l43Box p0.N).bind fun r15 =>
                (some ([r15] : List gInstr)).bind fun l16 =>
                (s_l43Call_o l16 2).bind fun r17 =>
                (s_l43Move r1 10).bind fun r18 =>
                (appx 40 r17 ([r18] : List gInstr)).bind fun l19 =>
                (s_l43Write l19 p0.Dst p1).bind fun r20 =>
                some r20
              else
                if ieq p0.Op 8 = true then
                  (some ([] : List gInstr)).bind fun l21 =>
                  (s_l43Call l21 3).bind fun r22 =>
                  some r22
                else
                  if ieq p0.Op 9 = true then
                    (s_l43Give_o p0.A p1).bind fun r23 =>
                    (s_l43Call r23 4).bind fun r24 =>
                    some r24
                  else
                    (some ([] : List gInstr)).bind fun l25 =>
                    (s_l43Call l25 5).bind fun r26 =>
                    some r26

noncomputable def s_QuadInstrs (p0 : gQuad) (p1 : Int) (p2 : Int) : Option ((List gInstr) × Bool) :=
  (s_QuadValid p0 600).bind fun r1 =>
  (if bnot r1 = true then some true else (s_l6In p1 1 8).bind fun r2 => some (bnot r2)).bind fun g3 =>
  (if g3 = true then some true else (s_l6In p2 (-100000) 100000).bind fun r4 => some (bnot r4)).bind fun g5 =>
  (if g5 = true then some true else (remx p2 4).bind fun v6 => some (ine v6 0)).bind fun g7 =>
  if g7 = true then
    some (([] : List gInstr), false)
  else
    (s_l43Quad p0 p1 p2).bind fun r8 =>
    some (r8, true)

noncomputable def i_isReg (p0 : Int) : Option (Bool) :=
  (if ige p0 0 = true then some (ilt p0 12) else some false).bind fun g1 =>
  some g1

noncomputable def i_WordValid (p0 : Int) : Option (Bool) :=
  (if ige p0 (-2147483648) = true then some (ile p0 2147483647) else some false).bind fun g1 =>
  some g1

noncomputable def i_OpValid (p0 : Int) : Option (Bool) :=
  (if ige p0 1 = true then some (ile p0 12) else some false).bind fun g1 =>
  some g1

noncomputable def i_QuadValid (p0 : gQuad) (p1 : Int) : Option (Bool) :=
  (i_isReg p0.Dst).bind fun r1 =>
  (i_isReg p0.A).bind fun r2 =>
  (i_isReg p0.B).bind fun r3 =>
  if ieq p0.Op 1 = true then
    (if eqD p0 (⟨1, p0.Dst, 0, 0, p0.N⟩ : gQuad) = true then some r1 else some false).bind fun g4 =>
    (if g4 = true then (i_WordValid p0.N).bind fun r5 => some r5 else some false).bind fun g6 =>
    some g6
  else
    if ieq p0.Op 2 = true then
      (if eqD p0 (⟨2, p0.Dst, p0.A, 0, 0⟩ : gQuad) = true then some r1 else some false).bind fun g7 =>
      (if g7 = true then some r2 else some false).bind fun g8 =>
      some g8
    else
      if ieq p0.Op 3 = true then
        (if r1 = true then some r2 else some false).bind fun g9 =>
        (if g9 = true then some r3 else some false).bind fun g10 =>
        (if g10 = true then (i_OpValid p0.N).bind fun r11 => some r11 else some false).bind fun g12 =>
        some g12
      else
        if ieq p0.Op 4 = true then
          (if eqD p0 (⟨4, 0, 0, 0, p0.N⟩ : gQuad) = true then some (ige p0.N 0) else some false).bind fun g13 =>
          (if g13 = true then some (ilt p0.N p1) else some false).bind fun g14 =>
          some g14
        else
          if ieq p0.Op 5 = true then
            (if eqD p0 (⟨5, 0, p0.A, 0, p0.N⟩ : gQuad) = true then some r2 else some false).bind fun g15 =>
            (if g15 = true then some (ige p0.N 0) else some false).bind fun g16 =>
            (if g16 = true then some (ilt p0.N p1) else some false).bind fun g17 =>
            some g17
          else
            if ieq p0.Op 6 = true then
              (if eqD p0 (⟨6, 0, p0.A, 0, p0.N⟩ : gQuad) = true then some r2 else some false).bind fun g18 =>
              (if g18 = true then some (ige p0.N 0) else some false).bind fun g19 =>
              (if g19 = true then some (ilt p0.N 3) else some false).bind fun g20 =>
              some g20
            else
              if ieq p0.Op 7 = true then
                (if eqD p0 (⟨7, p0.Dst, 0, 0, p0.N⟩ : gQuad) = true then some r1 else some false).bind fun g21 =>
                (if g21 = true then some (ige p0.N 0) else some false).bind fun g22 =>
                (if g22 = true then some (ilt p0.N 3) else some false).bind fun g23 =>
                some g23
              else
                if ieq p0.Op 9 = true then
                  (if eqD p0 (⟨9, 0, p0.A, 0, 0⟩ : gQuad) = true then some r2 else some false).bind fun g24 =>
                  some g24
                else
                  (if ieq p0.Op 8 = true then
                    some (ieq p0.Op 8)
                  else
                    some (ieq p0.Op 10)).bind fun j1 =>
                  if j1 = true then
                    some (eqD p0 (⟨p0.Op, 0, 0, 0, 0⟩ : gQuad))
                  else
                    some false

noncomputable def i_addi (p0 : Int) (p1 : Int) (p2 : Int) : Option (gInstr) :=
  some (⟨12, p0, p1, 0, p2⟩ : gInstr)

noncomputable def i_Unsigned (p0 : Int) : Option (Int) :=
  (i_WordValid p0).bind fun r1 =>
  if bnot r1 = true then
    some (-1)
  else
    some (iconv .i64 (iconv .u32 p0))

noncomputable def i_isUnsigned (p0 : Int) : Option (Bool) :=
  (if ige p0 0 = true then some (ilt p0 4294967296) else some false).bind fun g1 =>
  some g1

noncomputable def i_Bits (p0 : Int) (p1 : Int) (p2 : Int) : Option (Int) :=
  (i_isUnsigned p0).bind fun r1 =>
  (if bnot r1 = true then some true else some (ilt p1 0)).bind fun g2 =>
  (if g2 = true then some true else some (igt p1 31)).bind fun g3 =>
  (if g3 = true then some true else some (ilt p2 1)).bind fun g4 =>
  (if g4 = true then some true else some (igt p2 (isub .i64 32 p1))).bind fun g5 =>
  if g5 = true then
    some 0
  else
    (shrx .i64 p0 p1).bind fun v6 =>
    (shlx .i64 1 p2).bind fun v7 =>
    some (iand .i64 v6 (isub .i64 v7 1))

noncomputable def i_SignExtend (p0 : Int) (p1 : Int) : Option (Int) :=
  (if ilt p1 1 = true then some true else some (igt p1 32)).bind fun g1 =>
  (if g1 = true then some true else some (ilt p0 0)).bind fun g2 =>
  (if g2 = true then some true else (shlx .i64 1 p1).bind fun v3 => some (ige p0 v3)).bind fun g4 =>
  if g4 = true then
    some 0
  else
    (shlx .i64 1 (isub .i64 p1 1)).bind fun v5 =>
    if ige p0 v5 = true then
      (shlx .i64 1 p1).bind fun v6 =>
      some (isub .i64 p0 v6)
    else
      some p0

noncomputable def i_Wrap (p0 : Int) : Option (Int) :=
  some (iconv .i64 (iconv .i32 p0))

noncomputable def i_constInstrs (p0 : Int) (p1 : Int) : Option ((List gInstr)) :=
  (if ige p1 (-2048) = true then some (ile p1 2047) else some false).bind fun g1 =>
  if g1 = true then
    (i_addi p0 0 p1).bind fun r2 =>
    some ([r2] : List gInstr)
  else
    (i_Unsigned p1).bind fun r3 =>
    (i_Bits r3 0 12).bind fun r4 =>
    (i_SignExtend r4 12).bind fun r5 =>
    (i_Wrap (isub .i64 p1 r5)).bind fun r6 =>
    (i_Unsigned r6).bind fun r7 =>
    (i_Bits r7 12 20).bind fun r8 =>
    (i_addi p0 p0 r5).bind fun r9 =>
    some ([(⟨19, p0, 0, 0, r8⟩ : gInstr), r9] : List gInstr)

noncomputable def i_quadInstrs_1 (p0 : Int) (pf0 : gQuad) : Option ((List gInstr)) :=
  (i_constInstrs p0 pf0.N).bind fun r1 =>
  some r1

noncomputable def i_emitter_emit (p0 : gEmitter) (p1 : (List gInstr)) : Option (gEmitter) :=
  (appx 40 p0.list p1).bind fun l1 =>
  some (⟨p0.colors, l1⟩ : gEmitter)

noncomputable def i_emitter_write_i_quadInstrs_1 (p0 : gEmitter) (p1 : Int) (p2_0 : gQuad) : Option (gEmitter) :=
  if ilt p1 p0.colors = true then
    (idx ([8, 9, 18, 19, 20, 21, 22, 23] : List Int) p1).bind fun v1 =>
    (i_quadInstrs_1 v1 p2_0).bind fun r2 =>
    (i_emitter_emit p0 r2).bind fun r3 =>
    some r3
  else
    (i_quadInstrs_1 7 p2_0).bind fun r4 =>
    (i_emitter_emit p0 r4).bind fun r5 =>
    (i_emitter_emit r5 ([(⟨16, 0, 2, 7, imul .i64 4 (isub .i64 p1 r5.colors)⟩ : gInstr)] : List gInstr)).bind fun r6 =>
    some r6

noncomputable def i_emitter_read (p0 : gEmitter) (p1 : Int) (p2 : Int) : Option (Int × gEmitter) :=
  if ilt p1 p0.colors = true then
    (idx ([8, 9, 18, 19, 20, 21, 22, 23] : List Int) p1).bind fun v1 =>
    some (v1, p0)
  else
    (i_emitter_emit p0 ([(⟨14, p2, 2, 0, imul .i64 4 (isub .i64 p1 p0.colors)⟩ : gInstr)] : List gInstr)).bind fun r2 =>
    some (p2, r2)

noncomputable def i_quadInstrs_2 (p0 : Int) (pf0 : Int) : Option ((List gInstr)) :=
  (i_addi p0 pf0 0).bind fun r1 =>
  some ([r1] : List gInstr)

noncomputable def i_emitter_write_i_quadInstrs_2 (p0 : gEmitter) (p1 : Int) (p2_0 : Int) : Option (gEmitter) :=
  if ilt p1 p0.colors = true then
    (idx ([8, 9, 18, 19, 20, 21, 22, 23] : List Int) p1).bind fun v1 =>
    (i_quadInstrs_2 v1 p2_0).bind fun r2 =>
    (i_emitter_emit p0 r2).bind fun r3 =>
    some r3
  else
    (i_quadInstrs_2 7 p2_0).bind fun r4 =>
    (i_emitter_emit p0 r4).bind fun r5 =>
    (i_emitter_emit r5 ([(⟨16, 0, 2, 7, imul .i64 4 (isub .i64 p1 r5.colors)⟩ : gInstr)] : List gInstr)).bind fun r6 =>
    some r6

noncomputable def i_quadInstrs_3 (p0 : Int) (pf0 : gQuad) (pf1 : Int) (pf2 : Int) : Option ((List gInstr)) :=
  (idx ([7, 8, 6, 8, 11, 9, 10, 1, 2, 3, 4, 5] : List Int) (isub .i64 pf0.N 1)).bind fun v1 =>
  (some ([(⟨v1, p0, pf1, pf2, 0⟩ : gInstr)] : List gInstr)).bind fun l2 =>
  if ieq pf0.N 4 = true then
    (appx 40 l2 ([(⟨13, p0, p0, 0, 1⟩ : gInstr)] : List gInstr)).bind fun l3 =>
    some l3
  else
    some l2

noncomputable def i_emitter_write_i_quadInstrs_3 (p0 : gEmitter) (p1 : Int) (p2_0 : gQuad) (p2_1 : Int) (p2_2 : Int) : Option (gEmitter) :=
  if ilt p1 p0.colors = true then
    (idx ([8, 9, 18, 19, 20, 21, 22, 23] : List Int) p1).bind fun v1 =>
    (i_quadInstrs_3 v1 p2_0 p2_1 p2_2).bind fun r2 =>
    (i_emitter_emit p0 r2).bind fun r3 =>
    some r3
  else
    (i_quadInstrs_3 7 p2_0 p2_1 p2_2).bind fun r4 =>
    (i_emitter_emit p0 r4).bind fun r5 =>
    (i_emitter_emit r5 ([(⟨16, 0, 2, 7, imul .i64 4 (isub .i64 p1 r5.colors)⟩ : gInstr)] : List gInstr)).bind fun r6 =>
    some r6

noncomputable def i_emitter_emit_c0_1 (p0 : gEmitter) (p1 : (List gInstr)) : Option (gEmitter) :=
  (appx 40 p0.list p1).bind fun l1 =>
  some (⟨p0.colors, l1⟩ : gEmitter)

noncomputable def i_emitter_jump (p0 : gEmitter) (p1 : Int) : Option (gEmitter) :=
  (i_emitter_emit_c0_1 p0 ([(⟨20, 0, 0, 0, isub .i64 p1 (imul .i64 4 (ilen p0.list))⟩ : gInstr)] : List gInstr)).bind fun r1 =>
  some r1

noncomputable def i_emitter_call (p0 : gEmitter) (p1 : Int) : Option (gEmitter) :=
  (i_addi 17 0 p1).bind fun r1 =>
  (i_emitter_emit p0 ([r1, (⟨15, 1, 0, 0, 0⟩ : gInstr)] : List gInstr)).bind fun r2 =>
  some r2

noncomputable def i_quadInstrs_4 (p0 : Int) : Option ((List gInstr)) :=
  (i_addi p0 10 0).bind fun r1 =>
  some ([r1] : List gInstr)

noncomputable def i_emitter_write_i_quadInstrs_4 (p0 : gEmitter) (p1 : Int) : Option (gEmitter) :=
  if ilt p1 p0.colors = true then
    (idx ([8, 9, 18, 19, 20, 21, 22, 23] : List Int) p1).bind fun v1 =>
    (i_quadInstrs_4 v1).bind fun r2 =>
    (i_emitter_emit p0 r2).bind fun r3 =>
    some r3
  else
    (i_quadInstrs_4 7).bind fun r4 =>
    (i_emitter_emit p0 r4).bind fun r5 =>
    (i_emitter_emit r5 ([(⟨16, 0, 2, 7, imul .i64 4 (isub .i64 p1 r5.colors)⟩ : gInstr)] : List gInstr)).bind fun r6 =>
    some r6

noncomputable def i_quadInstrs (p0 : gQuad) (p1 : Int) (p2 : Int) : Option ((List gInstr)) :=
  (if ieq p0.Op 1 = true then
    (i_emitter_write_i_quadInstrs_1 (⟨p1, ([] : List gInstr)⟩ : gEmitter) p0.Dst p0).bind fun r2 =>
    some r2
  else
    if ieq p0.Op 2 = true then
      (i_emitter_read (⟨p1, ([] : List gInstr)⟩ : gEmitter) p0.A 5).bind fun r3 =>
      (i_emitter_write_i_quadInstrs_2 r3.2 p0.Dst r3.1).bind fun r5 =>
      some r5
    else
      if ieq p0.Op 3 = true then
        (i_emitter_read (⟨p1, ([] : List gInstr)⟩ : gEmitter) p0.A 5).bind fun r6 =>
        (i_emitter_read r6.2 p0.B 6).bind fun r7 =>
        (i_emitter_write_i_quadInstrs_3 r7.2 p0.Dst p0 r6.1 r7.1).bind fun r10 =>
        some r10
      else
        if ieq p0.Op 4 = true then
          (i_emitter_jump (⟨p1, ([] : List gInstr)⟩ : gEmitter) p2).bind fun r11 =>
          some r11
        else
          if ieq p0.Op 5 = true then
            (i_emitter_read (⟨p1, ([] : List gInstr)⟩ : gEmitter) p0.A 5).bind fun r12 =>
            (i_emitter_emit r12.2 ([(⟨18, 0, r12.1, 0, 8⟩ : gInstr)] : List gInstr)).bind fun r13 =>
            (i_emitter_jump r13 p2).bind fun r14 =>
            some r14
          else
            if ieq p0.Op 6 = true then
              (i_emitter_read (⟨p1, ([] : List gInstr)⟩ : gEmitter) p0.A 5).bind fun r15 =>
              (i_addi 10 r15.1 0).bind fun r16 =>
              (i_addi 11 0 p0.N).bind fun r17 =>
              (i_emitter_emit r15.2 ([r16, r17] : List gInstr)).bind fun r18 =>
              (i_emitter_call r18 1).bind fun r19 =>
              some r19
            else
              if ieq p0.Op 7 = true then
                (i_addi 11 0 p0.N).bind fun r20 =>
                (i_emitter_emit (⟨p1, ([] : List gInstr)⟩ : gEmitter) ([r20] : List gInstr)).bind fun r21 =>
                (i_emitter_call r21 2).bind fun r22 =>
                (i_emitter_write_i_quadInstrs_4 r22 p0.Dst).bind fun r23 =>
                some r23
              else
                if ieq p0.Op 8 = true then
                  (i_emitter_call (⟨p1, ([] : List gInstr)⟩ : gEmitter) 3).bind fun r24 =>
                  some r24
                else
                  if ieq p0.Op 9 = true then
                    (i_emitter_read (⟨p1, ([] : List gInstr)⟩ : gEmitter) p0.A 5).bind fun r25 =>
                    (i_addi 10 r25.1 0).bind fun r26 =>
                    (i_emitter_emit r25.2 ([r26] : List gInstr)).bind fun r27 =>
                    (i_emitter_call r27 4).bind fun r28 =>
                    some r28
                  else
                    if ieq p0.Op 10 = true then
                      (i_emitter_call (⟨p1, ([] : List gInstr)⟩ : gEmitter) 5).bind fun r29 =>
                      some r29
                    else
                      some (⟨p1, ([] : List gInstr)⟩ : gEmitter)).bind fun j1 =>
  some j1.list

noncomputable def i_QuadInstrs (p0 : gQuad) (p1 : Int) (p2 : Int) : Option ((List gInstr) × Bool) :=
  (i_QuadValid p0 600).bind fun r1 =>
  (if bnot r1 = true then some true else some (ilt p1 1)).bind fun g2 =>
  (if g2 = true then some true else some (igt p1 8)).bind fun g3 =>
  (if g3 = true then some true else (remx p2 4).bind fun v4 => some (ine v4 0)).bind fun g5 =>
  (if g5 = true then some true else some (ilt p2 (-100000))).bind fun g6 =>
  (if g6 = true then some true else some (igt p2 100000)).bind fun g7 =>
  if g7 = true then
    some (([] : List gInstr), false)
  else
    (i_quadInstrs p0 p1 p2).bind fun r8 =>
    some (r8, true)

noncomputable def l_eqInstr (p0 : gInstr) (p1 : gInstr) : Option (Bool) :=
  if ine p0.Op p1.Op = true then
    some false
  else
    if ine p0.Rd p1.Rd = true then
      some false
    else
      if ine p0.Rs p1.Rs = true then
        some false
      else
        if ine p0.Rt p1.Rt = true then
          some false
        else
          if ine p0.Imm p1.Imm = true then
            some false
          else
            some true

noncomputable def l_eqInstrS_L1 (p0 : (List gInstr)) (p1 : (List gInstr)) (s : Int) : Option (Flow (Int) (Sum (Unit) (Bool))) :=
  let s1 := s
  if ilt s1 (ilen p0) = true then
    (idx p0 s1).bind fun v2 =>
    (idx p1 s1).bind fun v3 =>
    (l_eqInstr v2 v3).bind fun r4 =>
    if bnot r4 = true then
      some (.done (.inr false))
    else
      some (.next (iadd .i64 s1 1))
  else
    some (.done (.inl ()))

noncomputable def l_eqInstrS (p0 : (List gInstr)) (p1 : (List gInstr)) : Option (Bool) :=
  if ine (ilen p0) (ilen p1) = true then
    some false
  else
    (loopM (l_eqInstrS_L1 p0 p1) 0).bind fun e1 =>
    match e1 with
    | .inl _ =>
      some true
    | .inr r0 =>
      some r0

noncomputable def l_markInstrS_L1 (s : Int × Int × (List gInstr)) : Option (Flow (Int × Int × (List gInstr)) (Int × (List gInstr))) :=
  match s with
  | (s1, s2, s3) =>
  if ilt s2 (ilen s3) = true then
    (idx s3 s2).bind fun v6 =>
    (setx s3 s2 (⟨s1, v6.Rd, v6.Rs, v6.Rt, v6.Imm⟩ : gInstr)).bind fun l7 =>
    (idx l7 s2).bind fun v8 =>
    (setx l7 s2 (⟨v8.Op, iadd .i64 s1 1, v8.Rs, v8.Rt, v8.Imm⟩ : gInstr)).bind fun l9 =>
    (idx l9 s2).bind fun v10 =>
    (setx l9 s2 (⟨v10.Op, v10.Rd, iadd .i64 (iadd .i64 s1 1) 1, v10.Rt, v10.Imm⟩ : gInstr)).bind fun l11 =>
    (idx l11 s2).bind fun v12 =>
    (setx l11 s2 (⟨v12.Op, v12.Rd, v12.Rs, iadd .i64 (iadd .i64 (iadd .i64 s1 1) 1) 1, v12.Imm⟩ : gInstr)).bind fun l13 =>
    (idx l13 s2).bind fun v14 =>
    (setx l13 s2 (⟨v14.Op, v14.Rd, v14.Rs, v14.Rt, iadd .i64 (iadd .i64 (iadd .i64 (iadd .i64 s1 1) 1) 1) 1⟩ : gInstr)).bind fun l15 =>
    some (.next (iadd .i64 (iadd .i64 (iadd .i64 (iadd .i64 (iadd .i64 s1 1) 1) 1) 1) 1, iadd .i64 s2 1, l15))
  else
    some (.done (s1, s3))

noncomputable def l_markInstrS (p0 : (List gInstr)) (p1 : Int) : Option (Int × (List gInstr)) :=
  (loopM (l_markInstrS_L1) (p1, 0, p0)).bind fun e1 =>
  match e1 with
  | (y4, y5) =>
    some (y4, y5)

noncomputable def i_quadInstrs_o (p0 : gQuad) (p1 : Int) (p2 : Int) : Option ((List gInstr)) :=
  (if ieq p0.Op 1 = true then
    (i_emitter_write_i_quadInstrs_1 (⟨p1, ([] : List gInstr)⟩ : gEmitter) p0.Dst p0).bind fun r2 =>
    some r2
  else
    if ieq p0.Op 2 = true then
      (i_emitter_read (⟨p1, ([] : List gInstr)⟩ : gEmitter) p0.A 5).bind fun r3 =>
      (i_emitter_write_i_quadInstrs_2 r3.2 p0.Dst r3.1).bind fun r5 =>
      some r5
    else
      if ieq p0.Op 3 = true then
        (i_emitter_read (⟨p1, ([] : List gInstr)⟩ : gEmitter) p0.A 5).bind fun r6 =>
        (i_emitter_read r6.2 p0.B 6).bind fun r7 =>
        (i_emitter_write_i_quadInstrs_3 r7.2 p0.Dst p0 r6.1 r7.1).bind fun r10 =>
        some r10
      else
        if ieq p0.Op 4 = true then
          (i_emitter_jump (⟨p1, ([] : List gInstr)⟩ : gEmitter) p2).bind fun r11 =>
          some r11
        else
          if ieq p0.Op 5 = true then
            (i_emitter_read (⟨p1, ([] : List gInstr)⟩ : gEmitter) p0.A 5).bind fun r12 =>
            (i_emitter_emit r12.2 ([(⟨18, 0, r12.1, 0, 8⟩ : gInstr)] : List gInstr)).bind fun r13 =>
            (i_emitter_jump r13 p2).bind fun r14 =>
            some r14
          else
            if ieq p0.Op 6 = true then
              (i_emitter_read (⟨p1, ([] : List gInstr)⟩ : gEmitter) p0.A 5).bind fun r15 =>
              (i_addi 10 r15.1 0).bind fun r16 =>
              (i_addi 11 0 p0.N).bind fun r17 =>
              (i_emitter_emit r15.2 ([r16, r17] : List gInstr)).bind fun r18 =>
              (i_emitter_call r18 1).bind fun r19 =>
              some r19
            else
              if ieq p0.Op 7 = true then
                (i_addi 11 0 p0.N).bind fun r20 =>
                (i_emitter_emit (⟨p1, ([] : List gInstr)⟩ : gEmitter) ([r20] : List gInstr)).bind fun r21 =>
                (i_emitter_call r21 2).bind fun r22 =>
                (i_emitter_write_i_quadInstrs_4 r22 p0.Dst).bind fun r23 =>
                some r23
              else
                if ieq p0.Op 8 = true then
                  (i_emitter_call (⟨p1, ([] : List gInstr)⟩ : gEmitter) 3).bind fun r24 =>
                  some r24
                else
                  if ieq p0.Op 9 = true then
                    (i_emitter_read (⟨p1, ([] : List gInstr)⟩ : gEmitter) p0.A 5).bind fun r25 =>
                    (i_addi 10 r25.1 0).bind fun r26 =>
                    (i_emitter_emit r25.2 ([r26] : List gInstr)).bind fun r27 =>
                    (i_emitter_call r27 4).bind fun r28 =>
                    some r28
                  else
                    if ieq p0.Op 10 = true then
                      (i_emitter_call (⟨p1, ([] : List gInstr)⟩ : gEmitter) 5).bind fun r29 =>
                      some r29
                    else
                      some (⟨p1, ([] : List gInstr)⟩ : gEmitter)).bind fun j1 =>
  some j1.list

noncomputable def i_QuadInstrs_o (p0 : gQuad) (p1 : Int) (p2 : Int) : Option ((List gInstr) × Bool) :=
  (i_QuadValid p0 600).bind fun r1 =>
  (if bnot r1 = true then some true else some (ilt p1 1)).bind fun g2 =>
  (if g2 = true then some true else some (igt p1 8)).bind fun g3 =>
  (if g3 = true then some true else (remx p2 4).bind fun v4 => some (ine v4 0)).bind fun g5 =>
  (if g5 = true then some true else some (ilt p2 (-100000))).bind fun g6 =>
  (if g6 = true then some true else some (igt p2 100000)).bind fun g7 =>
  if g7 = true then
    some (([] : List gInstr), false)
  else
    (i_quadInstrs_o p0 p1 p2).bind fun r8 =>
    some (r8, true)

noncomputable def l_heldInstrS_L1 (p0 : (List gInstr)) (s : Int × Int) : Option (Flow (Int × Int) (Sum (Int) (Int))) :=
  match s with
  | (s1, s2) =>
  if ilt s2 (ilen p0) = true then
    (idx p0 s2).bind fun v4 =>
    if ine v4.Op s1 = true then
      some (.done (.inr (-1)))
    else
      if ine v4.Rd (iadd .i64 s1 1) = true then
        some (.done (.inr (-1)))
      else
        if ine v4.Rs (iadd .i64 (iadd .i64 s1 1) 1) = true then
          some (.done (.inr (-1)))
        else
          if ine v4.Rt (iadd .i64 (iadd .i64 (iadd .i64 s1 1) 1) 1) = true then
            some (.done (.inr (-1)))
          else
            if ine v4.Imm (iadd .i64 (iadd .i64 (iadd .i64 (iadd .i64 s1 1) 1) 1) 1) = true then
              some (.done (.inr (-1)))
            else
              some (.next (iadd .i64 (iadd .i64 (iadd .i64 (iadd .i64 (iadd .i64 s1 1) 1) 1) 1) 1, iadd .i64 s2 1))
  else
    some (.done (.inl s1))

noncomputable def l_heldInstrS (p0 : (List gInstr)) (p1 : Int) : Option (Int) :=
  (loopM (l_heldInstrS_L1 p0) (p1, 0)).bind fun e1 =>
  match e1 with
  | .inl y3 =>
    some y3
  | .inr r0 =>
    some r0

noncomputable def l_FnExactQuadInstrs (p0 : gQuad) (p1 : Int) (p2 : Int) : Option (Bool) :=
  (l_toQuad p0).bind fun r1 =>
  (s_QuadInstrs r1 p1 p2).bind fun r2 =>
  (i_QuadInstrs_o r1 p1 p2).bind fun r3 =>
  (l_eqInstrS r3.1 r2.1).bind fun r4 =>
  (if bnot r4 = true then some true else some (bneb r3.2 r2.2)).bind fun g5 =>
  if g5 = true then
    some false
  else
    (l_markInstrS r3.1 1).bind fun r6 =>
    (l_heldInstrS r6.2 1).bind fun r7 =>
    if ilt r7 0 = true then
      some false
    else
      if ine r7 r6.1 = true then
        some false
      else
        (i_QuadInstrs r1 p1 p2).bind fun r8 =>
        (l_eqInstrS r8.1 r2.1).bind fun r9 =>
        (if bnot r9 = true then some true else some (bneb r8.2 r2.2)).bind fun g10 =>
        if g10 = true then
          some false
        else
          if ilt r7 0 = true then
            some false
          else
            if ine r7 r6.1 = true then
              some false
            else
              some true

noncomputable def s_l6Open_o (p0 : (List Int)) : Option (gL6Rd) :=
  if igt (ilen p0) 2000 = true then
    (cutx p0 0 2000).bind fun l1 =>
    some (⟨l1, 0⟩ : gL6Rd)
  else
    some (⟨p0, 0⟩ : gL6Rd)

noncomputable def s_l6Rd_pick (p0 : gL6Rd) (p1 : Int) : Option (Int × gL6Rd) :=
  (if ilt p1 1 = true then some true else some (ieq (ilen p0.b) 0)).bind fun g1 =>
  if g1 = true then
    some (0, (⟨p0.b, iadd .i64 p0.p 1⟩ : gL6Rd))
  else
    if ilt (isub .i64 (iadd .i64 p0.p 1) 1) (ilen p0.b) = true then
      (idx p0.b (isub .i64 (iadd .i64 p0.p 1) 1)).bind fun v2 =>
      (remx (iconv .i64 v2) p1).bind fun v3 =>
      some (v3, (⟨p0.b, iadd .i64 p0.p 1⟩ : gL6Rd))
    else
      (remx (isub .i64 (iadd .i64 p0.p 1) 1) (ilen p0.b)).bind fun v4 =>
      (idx p0.b v4).bind fun v5 =>
      (remx (iadd .i64 (imul .i64 (isub .i64 (iadd .i64 p0.p 1) 1) 7) 3) (ilen p0.b)).bind fun v6 =>
      (idx p0.b v6).bind fun v7 =>
      (quox .i64 (isub .i64 (iadd .i64 p0.p 1) 1) (ilen p0.b)).bind fun v8 =>
      (quox .i64 (iadd .i64 (iadd .i64 (iadd .i64 (imul .i64 (iconv .i64 v5) 131) (imul .i64 (iconv .i64 v7) 1117)) (imul .i64 (isub .i64 (iadd .i64 p0.p 1) 1) 29)) (imul .i64 v8 53)) 64).bind fun v9 =>
      (remx (ixor .i64 (iadd .i64 (iadd .i64 (iadd .i64 (imul .i64 (iconv .i64 v5) 131) (imul .i64 (iconv .i64 v7) 1117)) (imul .i64 (isub .i64 (iadd .i64 p0.p 1) 1) 29)) (imul .i64 v8 53)) v9) p1).bind fun v10 =>
      some (v10, (⟨p0.b, iadd .i64 p0.p 1⟩ : gL6Rd))

noncomputable def s_l93Reg (p0 : gL6Rd) : Option (Int × gL6Rd) :=
  (s_l6Rd_pick p0 6).bind fun r1 =>
  some (r1.1, r1.2)

noncomputable def s_l91Word (p0 : gL6Rd) : Option (Int × gL6Rd) :=
  (s_l6Rd_pick p0 6).bind fun r1 =>
  if ieq r1.1 0 = true then
    (s_l6Rd_pick r1.2 8).bind fun r2 =>
    (idx ([-2147483648, 2147483647, -1, 0, 1, -2147483647, 65536, -65536] : List Int) r2.1).bind fun v3 =>
    some (v3, r2.2)
  else
    if ieq r1.1 1 = true then
      (s_l6Rd_pick r1.2 256).bind fun r4 =>
      (s_l6Rd_pick r4.2 256).bind fun r5 =>
      (s_l6Rd_pick r5.2 256).bind fun r6 =>
      (s_l6Rd_pick r6.2 200).bind fun r7 =>
      (s_Wrap (imul .i64 (iadd .i64 (iadd .i64 (imul .i64 r4.1 65536) (imul .i64 r5.1 256)) r6.1) (iadd .i64 1 r7.1))).bind fun r8 =>
      some (r8, r7.2)
    else
      if ieq r1.1 2 = true then
        (s_l6Rd_pick r1.2 200).bind fun r9 =>
        some (isub .i64 0 r9.1, r9.2)
      else
        (s_l6Rd_pick r1.2 20).bind fun r10 =>
        some (r10.1, r10.2)

noncomputable def s_l91Op (p0 : gL6Rd) : Option (Int × gL6Rd) :=
  (s_l6Rd_pick p0 12).bind fun r1 =>
  some (iadd .i64 1 r1.1, r1.2)

noncomputable def s_l93Quad (p0 : gL6Rd) (p1 : Int) : Option (gQuad × gL6Rd) :=
  (s_l6Rd_pick p0 12).bind fun r1 =>
  (if ieq r1.1 0 = true then
    some (ieq r1.1 0)
  else
    some (ieq r1.1 1)).bind fun j1 =>
  if j1 = true then
    (s_l93Reg r1.2).bind fun r3 =>
    (s_l91Word r3.2).bind fun r4 =>
    (s_l6Rd_pick r4.2 4).bind fun r5 =>
    (idx ([0, 1, 2, r4.1] : List Int) r5.1).bind fun v6 =>
    some ((⟨1, r3.1, 0, 0, v6⟩ : gQuad), r5.2)
  else
    (if ieq r1.1 2 = true then
      some (ieq r1.1 2)
    else
      some (ieq r1.1 3)).bind fun j2 =>
    if j2 = true then
      (s_l93Reg r1.2).bind fun r8 =>
      (s_l93Reg r8.2).bind fun r9 =>
      some ((⟨2, r8.1, r9.1, 0, 0⟩ : gQuad), r9.2)
    else
      (if ieq r1.1 4 = true then
        some (ieq r1.1 4)
      else
        if ieq r1.1 5 = true then
          some (ieq r1.1 5)
        else
          some (ieq r1.1 6)).bind fun j3 =>
      if j3 = true then
        (s_l93Reg r1.2).bind fun r11 =>
        (s_l93Reg r11.2).bind fun r12 =>
        (s_l93Reg r12.2).bind fun r13 =>
        (s_l91Op r13.2).bind fun r14 =>
        some ((⟨3, r11.1, r12.1, r13.1, r14.1⟩ : gQuad), r14.2)
      else
        if ieq r1.1 7 = true then
          (s_l6Rd_pick r1.2 p1).bind fun r15 =>
          some ((⟨4, 0, 0, 0, r15.1⟩ : gQuad), r15.2)
        else
          if ieq r1.1 8 = true then
            (s_l93Reg r1.2).bind fun r16 =>
            (s_l6Rd_pick r16.2 p1).bind fun r17 =>
            some ((⟨5, 0, r16.1, 0, r17.1⟩ : gQuad), r17.2)
          else
            if ieq r1.1 9 = true then
              (s_l93Reg r1.2).bind fun r18 =>
              (s_l6Rd_pick r18.2 2).bind fun r19 =>
              some ((⟨6, 0, r18.1, 0, r19.1⟩ : gQuad), r19.2)
            else
              if ieq r1.1 10 = true then
                (s_l93Reg r1.2).bind fun r20 =>
                (s_l6Rd_pick r20.2 2).bind fun r21 =>
                some ((⟨7, r20.1, 0, 0, r21.1⟩ : gQuad), r21.2)
              else
                (s_l6Rd_pick r1.2 4).bind fun r22 =>
                if ieq r22.1 0 = true then
                  some ((⟨8, 0, 0, 0, 0⟩ : gQuad), r22.2)
                else
                  (s_l93Reg r22.2).bind fun r23 =>
                  some ((⟨9, 0, r23.1, 0, 0⟩ : gQuad), r23.2)

noncomputable def s_l93Wrong (p0 : gL6Rd) : Option (gQuad × gL6Rd) :=
  (s_l93Quad p0 20).bind fun r1 =>
  ((s_l6Rd_pick r1.2 12).bind fun r7 =>
  if ieq r7.1 0 = true then
    some (r7.2, (⟨10, 0, 0, 0, 0⟩ : gQuad))
  else
    some (r7.2, r1.1)).bind fun j1 =>
  (s_l6Rd_pick j1.1 24).bind fun r4 =>
  if ieq r4.1 0 = true then
    some ((⟨j1.2.Op, j1.2.Dst, 12, j1.2.B, j1.2.N⟩ : gQuad), r4.2)
  else
    if ieq r4.1 1 = true then
      some ((⟨j1.2.Op, j1.2.Dst, j1.2.A, 1, j1.2.N⟩ : gQuad), r4.2)
    else
      if ieq r4.1 2 = true then
        (s_l6Rd_pick r4.2 2).bind fun r5 =>
        (idx ([0, 11] : List Int) r5.1).bind fun v6 =>
        some ((⟨v6, j1.2.Dst, j1.2.A, j1.2.B, j1.2.N⟩ : gQuad), r5.2)
      else
        if ieq r4.1 3 = true then
          some ((⟨j1.2.Op, j1.2.Dst, j1.2.A, j1.2.B, 600⟩ : gQuad), r4.2)
        else
          some (j1.2, r4.2)

noncomputable def s_DrawQuadInstrs (p0 : (List Int)) : Option (gQuad × Int × Int) :=
  (s_l6Open_o p0).bind fun r1 =>
  (s_l93Wrong r1).bind fun r2 =>
  (s_l6Rd_pick r2.2 8).bind fun r3 =>
  (s_l6Rd_pick r3.2 200).bind fun r4 =>
  ((s_l6Rd_pick r4.2 24).bind fun r7 =>
  if ieq r7.1 0 = true then
    (s_l6Rd_pick r7.2 2).bind fun r8 =>
    (idx ([0, 9] : List Int) r8.1).bind fun v9 =>
    some (v9, imul .i64 4 (isub .i64 r4.1 100))
  else
    if ieq r7.1 1 = true then
      (s_l6Rd_pick r7.2 4).bind fun r10 =>
      (idx ([2, 100004, -100004, 100000] : List Int) r10.1).bind fun v11 =>
      some (iadd .i64 1 r3.1, v11)
    else
      some (iadd .i64 1 r3.1, imul .i64 4 (isub .i64 r4.1 100))).bind fun j1 =>
  some (r2.1, j1.1, j1.2)

noncomputable def l_sameInstrs_L1 (p0 : (List gInstr)) (p1 : (List gInstr)) (s : Int) : Option (Flow (Int) (Sum (Unit) (Bool))) :=
  let s1 := s
  if ilt s1 (ilen p0) = true then
    (idx p0 s1).bind fun v2 =>
    (idx p1 s1).bind fun v3 =>
    if bnot (eqD v2 v3) = true then
      some (.done (.inr false))
    else
      some (.next (iadd .i64 s1 1))
  else
    some (.done (.inl ()))

noncomputable def l_sameInstrs (p0 : (List gInstr)) (p1 : (List gInstr)) : Option (Bool) :=
  if ine (ilen p0) (ilen p1) = true then
    some false
  else
    (loopM (l_sameInstrs_L1 p0 p1) 0).bind fun e1 =>
    match e1 with
    | .inl _ =>
      some true
    | .inr r0 =>
      some r0

noncomputable def l_FnQuadCall_L1 (r2 : (List gInstr) × Bool) (s : Int × Int × gQuad) : Option (Flow (Int × Int × gQuad) (Sum (Int × gQuad) (Bool))) :=
  match s with
  | (s9, s10, s11) =>
  if ilt s10 (ilen r2.1) = true then
    (idx r2.1 s10).bind fun v14 =>
    if ieq v14.Op 15 = true then
      if bnot (eqD v14 (⟨15, 1, 0, 0, 0⟩ : gInstr)) = true then
        some (.done (.inr false))
      else
        some (.next (iadd .i64 s9 1, iadd .i64 s10 1, s11))
    else
      some (.next (s9, iadd .i64 s10 1, s11))
  else
    some (.done (.inl (s9, s11)))

noncomputable def l_FnQuadCall (p0 : (List Int)) : Option (Bool) :=
  if igt (ilen p0) 1048576 = true then
    some true
  else
    (s_DrawQuadInstrs p0).bind fun r1 =>
    (i_QuadInstrs r1.1 r1.2.1 r1.2.2).bind fun r2 =>
    (s_QuadInstrs r1.1 r1.2.1 r1.2.2).bind fun r3 =>
    (if bneb r2.2 r3.2 = true then some true else (l_sameInstrs r2.1 r3.1).bind fun r4 => some (bnot r4)).bind fun g5 =>
    (if g5 = true then some true else some (bnot r2.2)).bind fun g6 =>
    if g6 = true then
      (if beqb r2.2 r3.2 = true then (l_sameInstrs r2.1 r3.1).bind fun r7 => some r7 else some false).bind fun g8 =>
      some g8
    else
      (loopM (l_FnQuadCall_L1 r2) (0, 0, r1.1)).bind fun e1 =>
      match e1 with
      | .inl (y12, y13) =>
        if ige y13.Op 6 = true then
          some (ieq y12 1)
        else
          some (ieq y12 0)
      | .inr r0 =>
        some r0

noncomputable def l_szQuadS (p0 : (List gQuad)) (p1 : Int) : Option (Int) :=
  if ilt (isub .i64 p1 (ilen p0)) 0 = true then
    some (-1)
  else
    some (isub .i64 p1 (ilen p0))

noncomputable def l_toQuadS_L1 (p0 : (List gQuad)) (s : Int × (List gQuad)) : Option (Flow (Int × (List gQuad)) ((List gQuad))) :=
  match s with
  | (s2, s3) =>
  if ilt s2 (ilen p0) = true then
    (idx p0 s2).bind fun v5 =>
    (l_toQuad v5).bind fun r6 =>
    (idx s3 s2).bind fun v7 =>
    (setx s3 s2 r6).bind fun l8 =>
    some (.next (iadd .i64 s2 1, l8))
  else
    some (.done s3)

noncomputable def l_toQuadS (p0 : (List gQuad)) : Option ((List gQuad)) :=
  (makex 40 (ilen p0) (⟨0, 0, 0, 0, 0⟩ : gQuad)).bind fun l1 =>
  (loopM (l_toQuadS_L1 p0) (0, l1)).bind fun e1 =>
  match e1 with
  | y4 =>
    some y4

noncomputable def s_CodeValid_L1 (p0 : (List gQuad)) (s : Int) : Option (Flow (Int) (Sum (Unit) (Bool))) :=
  let s2 := s
  if ilt s2 (ilen p0) = true then
    (idx p0 s2).bind fun v3 =>
    (s_QuadValid v3 (ilen p0)).bind fun r4 =>
    if bnot r4 = true then
      some (.done (.inr false))
    else
      some (.next (iadd .i64 s2 1))
  else
    some (.done (.inl ()))

noncomputable def s_CodeValid (p0 : (List gQuad)) : Option (Bool) :=
  (s_l6In (ilen p0) 1 600).bind fun r1 =>
  if bnot r1 = true then
    some false
  else
    (loopM (s_CodeValid_L1 p0) 0).bind fun e1 =>
    match e1 with
    | .inl _ =>
      (idx p0 (isub .i64 (ilen p0) 1)).bind fun v5 =>
      (if ieq v5.Op 10 = true then some true else some (ieq v5.Op 4)).bind fun g6 =>
      some g6
    | .inr r0 =>
      some r0

noncomputable def s_l43Places_L1 (p0 : (List gQuad)) (p1 : Int) (s : Int × Int × (List Int)) : Option (Flow (Int × Int × (List Int)) ((List Int))) :=
  match s with
  | (s1, s2, s3) =>
  if ilt s2 (ilen p0) = true then
    (appx 8 s3 ([s1] : List Int)).bind fun l5 =>
    (idx p0 s2).bind fun v6 =>
    (s_l43Quad v6 p1 0).bind fun r7 =>
    some (.next (iadd .i64 s1 (ilen r7), iadd .i64 s2 1, l5))
  else
    some (.done s3)

noncomputable def s_l43Places (p0 : (List gQuad)) (p1 : Int) : Option ((List Int)) :=
  (loopM (s_l43Places_L1 p0 p1) (0, 0, ([] : List Int))).bind fun e1 =>
  match e1 with
  | y4 =>
    some y4

noncomputable def s_TaskPlaces (p0 : (List gQuad)) (p1 : Int) : Option ((List Int)) :=
  (s_CodeValid p0).bind fun r1 =>
  (if bnot r1 = true then some true else (s_l6In p1 1 8).bind fun r2 => some (bnot r2)).bind fun g3 =>
  if g3 = true then
    some ([] : List Int)
  else
    (s_l43Places p0 p1).bind fun r4 =>
    some r4

noncomputable def i_CodeValid_L1 (p0 : (List gQuad)) (s : Int) : Option (Flow (Int) (Sum (Unit) (Bool))) :=
  let s2 := s
  if ilt s2 (ilen p0) = true then
    (idx p0 s2).bind fun v3 =>
    (i_QuadValid v3 (ilen p0)).bind fun r4 =>
    if bnot r4 = true then
      some (.done (.inr false))
    else
      some (.next (iadd .i64 s2 1))
  else
    some (.done (.inl ()))

noncomputable def i_CodeValid (p0 : (List gQuad)) : Option (Bool) :=
  (if ilt (ilen p0) 1 = true then some true else some (igt (ilen p0) 600)).bind fun g1 =>
  if g1 = true then
    some false
  else
    (loopM (i_CodeValid_L1 p0) 0).bind fun e1 =>
    match e1 with
    | .inl _ =>
      (idx p0 (isub .i64 (ilen p0) 1)).bind fun v5 =>
      (if ieq v5.Op 10 = true then some true else some (ieq v5.Op 4)).bind fun g6 =>
      some g6
    | .inr r0 =>
      some r0

noncomputable def i_TaskPlaces_L1 (p0 : (List gQuad)) (p1 : Int) (s : Int × Int × (List Int)) : Option (Flow (Int × Int × (List Int)) ((List Int))) :=
  match s with
  | (s4, s5, s6) =>
  if ilt s5 (ilen p0) = true then
    (idx p0 s5).bind fun v8 =>
    (appx 8 s6 ([s4] : List Int)).bind fun l9 =>
    (i_quadInstrs v8 p1 0).bind fun r10 =>
    some (.next (iadd .i64 s4 (ilen r10), iadd .i64 s5 1, l9))
  else
    some (.done s6)

noncomputable def i_TaskPlaces (p0 : (List gQuad)) (p1 : Int) : Option ((List Int)) :=
  (i_CodeValid p0).bind fun r1 =>
  (if bnot r1 = true then some true else some (ilt p1 1)).bind fun g2 =>
  (if g2 = true then some true else some (igt p1 8)).bind fun g3 =>
  if g3 = true then
    some ([] : List Int)
  else
    (loopM (i_TaskPlaces_L1 p0 p1) (0, 0, ([] : List Int))).bind fun e1 =>
    match e1 with
    | y7 =>
      some y7

noncomputable def l_eqIntS_L1 (p0 : (List Int)) (p1 : (List Int)) (s : Int) : Option (Flow (Int) (Sum (Unit) (Bool))) :=
  let s1 := s
  if ilt s1 (ilen p0) = true then
    (idx p0 s1).bind fun v2 =>
    (idx p1 s1).bind fun v3 =>
    if ine v2 v3 = true then
      some (.done (.inr false))
    else
      some (.next (iadd .i64 s1 1))
  else
    some (.done (.inl ()))

noncomputable def l_eqIntS (p0 : (List Int)) (p1 : (List Int)) : Option (Bool) :=
  if ine (ilen p0) (ilen p1) = true then
    some false
  else
    (loopM (l_eqIntS_L1 p0 p1) 0).bind fun e1 =>
    match e1 with
    | .inl _ =>
      some true
    | .inr r0 =>
      some r0

noncomputable def l_eqQuad (p0 : gQuad) (p1 : gQuad) : Option (Bool) :=
  if ine p0.Op p1.Op = true then
    some false
  else
    if ine p0.Dst p1.Dst = true then
      some false
    else
      if ine p0.A p1.A = true then
        some false
      else
        if ine p0.B p1.B = true then
          some false
        else
          if ine p0.N p1.N = true then
            some false
          else
            some true

noncomputable def l_eqQuadS_L1 (p0 : (List gQuad)) (p1 : (List gQuad)) (s : Int) : Option (Flow (Int) (Sum (Unit) (Bool))) :=
  let s1 := s
  if ilt s1 (ilen p0) = true then
    (idx p0 s1).bind fun v2 =>
    (idx p1 s1).bind fun v3 =>
    (l_eqQuad v2 v3).bind fun r4 =>
    if bnot r4 = true then
      some (.done (.inr false))
    else
      some (.next (iadd .i64 s1 1))
  else
    some (.done (.inl ()))

noncomputable def l_eqQuadS (p0 : (List gQuad)) (p1 : (List gQuad)) : Option (Bool) :=
  if ine (ilen p0) (ilen p1) = true then
    some false
  else
    (loopM (l_eqQuadS_L1 p0 p1) 0).bind fun e1 =>
    match e1 with
    | .inl _ =>
      some true
    | .inr r0 =>
      some r0

noncomputable def l_markQuadS_L1 (s : Int × Int × (List gQuad)) : Option (Flow (Int × Int × (List gQuad)) (Int × (List gQuad))) :=
  match s with
  | (s1, s2, s3) =>
  if ilt s2 (ilen s3) = true then
    (idx s3 s2).bind fun v6 =>
    (setx s3 s2 (⟨s1, v6.Dst, v6.A, v6.B, v6.N⟩ : gQuad)).bind fun l7 =>
    (idx l7 s2).bind fun v8 =>
    (setx l7 s2 (⟨v8.Op, iadd .i64 s1 1, v8.A, v8.B, v8.N⟩ : gQuad)).bind fun l9 =>
    (idx l9 s2).bind fun v10 =>
    (setx l9 s2 (⟨v10.Op, v10.Dst, iadd .i64 (iadd .i64 s1 1) 1, v10.B, v10.N⟩ : gQuad)).bind fun l11 =>
    (idx l11 s2).bind fun v12 =>
    (setx l11 s2 (⟨v12.Op, v12.Dst, v12.A, iadd .i64 (iadd .i64 (iadd .i64 s1 1) 1) 1, v12.N⟩ : gQuad)).bind fun l13 =>
    (idx l13 s2).bind fun v14 =>
    (setx l13 s2 (⟨v14.Op, v14.Dst, v14.A, v14.B, iadd .i64 (iadd .i64 (iadd .i64 (iadd .i64 s1 1) 1) 1) 1⟩ : gQuad)).bind fun l15 =>
    some (.next (iadd .i64 (iadd .i64 (iadd .i64 (iadd .i64 (iadd .i64 s1 1) 1) 1) 1) 1, iadd .i64 s2 1, l15))
  else
    some (.done (s1, s3))

noncomputable def l_markQuadS (p0 : (List gQuad)) (p1 : Int) : Option (Int × (List gQuad)) :=
  (loopM (l_markQuadS_L1) (p1, 0, p0)).bind fun e1 =>
  match e1 with
  | (y4, y5) =>
    some (y4, y5)

noncomputable def l_toQuadS_o_L1 (p0 : (List gQuad)) (s : Int × (List gQuad)) : Option (Flow (Int × (List gQuad)) ((List gQuad))) :=
  match s with
  | (s2, s3) =>
  if ilt s2 (ilen p0) = true then
    (idx p0 s2).bind fun v5 =>
    (l_toQuad v5).bind fun r6 =>
    (idx s3 s2).bind fun v7 =>
    (setx s3 s2 r6).bind fun l8 =>
    some (.next (iadd .i64 s2 1, l8))
  else
    some (.done s3)

noncomputable def l_toQuadS_o (p0 : (List gQuad)) : Option ((List gQuad)) :=
  (makex 40 (ilen p0) (⟨0, 0, 0, 0, 0⟩ : gQuad)).bind fun l1 =>
  (loopM (l_toQuadS_o_L1 p0) (0, l1)).bind fun e1 =>
  match e1 with
  | y4 =>
    some y4

noncomputable def i_TaskPlaces_o_L1 (p0 : (List gQuad)) (p1 : Int) (s : Int × Int × (List Int)) : Option (Flow (Int × Int × (List Int)) ((List Int))) :=
  match s with
  | (s4, s5, s6) =>
  if ilt s5 (ilen p0) = true then
    (idx p0 s5).bind fun v8 =>
    (appx 8 s6 ([s4] : List Int)).bind fun l9 =>
    (i_quadInstrs v8 p1 0).bind fun r10 =>
    some (.next (iadd .i64 s4 (ilen r10), iadd .i64 s5 1, l9))
  else
    some (.done s6)

noncomputable def i_TaskPlaces_o (p0 : (List gQuad)) (p1 : Int) : Option ((List Int)) :=
  (i_CodeValid p0).bind fun r1 =>
  (if bnot r1 = true then some true else some (ilt p1 1)).bind fun g2 =>
  (if g2 = true then some true else some (igt p1 8)).bind fun g3 =>
  if g3 = true then
    some ([] : List Int)
  else
    (loopM (i_TaskPlaces_o_L1 p0 p1) (0, 0, ([] : List Int))).bind fun e1 =>
    match e1 with
    | y7 =>
      some y7

noncomputable def l_markIntS_L1 (s : Int × Int × (List Int)) : Option (Flow (Int × Int × (List Int)) (Int × (List Int))) :=
  match s with
  | (s1, s2, s3) =>
  if ilt s2 (ilen s3) = true then
    (idx s3 s2).bind fun v6 =>
    (setx s3 s2 s1).bind fun l7 =>
    some (.next (iadd .i64 s1 1, iadd .i64 s2 1, l7))
  else
    some (.done (s1, s3))

noncomputable def l_markIntS (p0 : (List Int)) (p1 : Int) : Option (Int × (List Int)) :=
  (loopM (l_markIntS_L1) (p1, 0, p0)).bind fun e1 =>
  match e1 with
  | (y4, y5) =>
    some (y4, y5)

noncomputable def l_heldIntS_L1 (p0 : (List Int)) (s : Int × Int) : Option (Flow (Int × Int) (Sum (Int) (Int))) :=
  match s with
  | (s1, s2) =>
  if ilt s2 (ilen p0) = true then
    (idx p0 s2).bind fun v4 =>
    if ine v4 s1 = true then
      some (.done (.inr (-1)))
    else
      some (.next (iadd .i64 s1 1, iadd .i64 s2 1))
  else
    some (.done (.inl s1))

noncomputable def l_heldIntS (p0 : (List Int)) (p1 : Int) : Option (Int) :=
  (loopM (l_heldIntS_L1 p0) (p1, 0)).bind fun e1 =>
  match e1 with
  | .inl y3 =>
    some y3
  | .inr r0 =>
    some r0

noncomputable def l_FnExactTaskPlaces (p0 : (List gQuad)) (p1 : Int) : Option (Bool) :=
  (l_szQuadS p0 1048576).bind fun r1 =>
  if ilt r1 0 = true then
    some true
  else
    (l_toQuadS p0).bind fun r2 =>
    (s_TaskPlaces r2 p1).bind fun r3 =>
    (l_toQuadS_o p0).bind fun r4 =>
    (i_TaskPlaces_o r4 p1).bind fun r5 =>
    (l_eqIntS r5 r3).bind fun r6 =>
    if bnot r6 = true then
      some false
    else
      (l_eqQuadS r4 r2).bind fun r7 =>
      if bnot r7 = true then
        some false
      else
        (l_markQuadS r4 1).bind fun r8 =>
        (if ilt r8.1 0 = true then some true else some (bnot r6)).bind fun g9 =>
        if g9 = true then
          some false
        else
          (l_markIntS r5 1).bind fun r10 =>
          (l_heldIntS r10.2 1).bind fun r11 =>
          if ilt r11 0 = true then
            some false
          else
            if ine r11 r10.1 = true then
              some false
            else
              (i_TaskPlaces r2 p1).bind fun r12 =>
              (l_eqIntS r12 r3).bind fun r13 =>
              if bnot r13 = true then
                some false
              else
                if ilt r11 0 = true then
                  some false
                else
                  if ine r11 r10.1 = true then
                    some false
                  else
                    some true

noncomputable def s_l43Task_L1 (p0 : (List gQuad)) (p1 : Int) (r1 : (List Int)) (s : Int × (List gInstr)) : Option (Flow (Int × (List gInstr)) ((List gInstr))) :=
  match s with
  | (s2, s3) =>
  if ilt s2 (ilen p0) = true then
    ((idx p0 s2).bind fun v9 =>
    (if ieq v9.Op 4 = true then some true else some (ieq v9.Op 5)).bind fun g10 =>
    if g10 = true then
      (idx r1 v9.N).bind fun v11 =>
      (idx r1 s2).bind fun v12 =>
      some (imul .i64 4 (isub .i64 v11 v12))
    else
      some 0).bind fun j1 =>
    (idx p0 s2).bind fun v6 =>
    (s_l43Quad v6 p1 j1).bind fun r7 =>
    (appx 40 s3 r7).bind fun l8 =>
    some (.next (iadd .i64 s2 1, l8))
  else
    some (.done s3)

noncomputable def s_l43Task (p0 : (List gQuad)) (p1 : Int) : Option ((List gInstr)) :=
  (s_l43Places p0 p1).bind fun r1 =>
  (loopM (s_l43Task_L1 p0 p1 r1) (0, ([] : List gInstr))).bind fun e2 =>
  match e2 with
  | y4 =>
    some y4

noncomputable def s_TaskInstrs (p0 : (List gQuad)) (p1 : Int) : Option ((List gInstr) × Bool) :=
  (s_CodeValid p0).bind fun r1 =>
  (if bnot r1 = true then some true else (s_l6In p1 1 8).bind fun r2 => some (bnot r2)).bind fun g3 =>
  if g3 = true then
    some (([] : List gInstr), false)
  else
    (s_l43Task p0 p1).bind fun r4 =>
    some (r4, true)

noncomputable def i_TaskPlaces_n_L1 (p0 : (List gQuad)) (p1 : Int) (s : Int × Int × (List Int)) : Option (Flow (Int × Int × (List Int)) ((List Int))) :=
  match s with
  | (s4, s5, s6) =>
  if ilt s5 (ilen p0) = true then
    (idx p0 s5).bind fun v8 =>
    (appx 8 s6 ([s4] : List Int)).bind fun l9 =>
    (i_quadInstrs v8 p1 0).bind fun r10 =>
    some (.next (iadd .i64 s4 (ilen r10), iadd .i64 s5 1, l9))
  else
    some (.done s6)

noncomputable def i_TaskPlaces_n (p0 : (List gQuad)) (p1 : Int) : Option ((List Int)) :=
  (i_CodeValid p0).bind fun r1 =>
  (if bnot r1 = true then some true else some (ilt p1 1)).bind fun g2 =>
  (if g2 = true then some true else some (igt p1 8)).bind fun g3 =>
  if g3 = true then
    some ([] : List Int)
  else
    (loopM (i_TaskPlaces_n_L1 p0 p1) (0, 0, ([] : List Int))).bind fun e1 =>
    match e1 with
    | y7 =>
      some y7

noncomputable def i_hasTarget (p0 : gQuad) : Option (Bool) :=
  (if ieq p0.Op 4 = true then some true else some (ieq p0.Op 5)).bind fun g1 =>
  some g1

noncomputable def i_TaskInstrs_L1 (p0 : (List gQuad)) (p1 : Int) (r1 : (List Int)) (s : Int × (List gInstr)) : Option (Flow (Int × (List gInstr)) ((List gInstr))) :=
  match s with
  | (s2, s3) =>
  if ilt s2 (ilen p0) = true then
    (idx p0 s2).bind fun v5 =>
    ((i_hasTarget v5).bind fun r9 =>
    if r9 = true then
      (idx r1 s2).bind fun v10 =>
      (idx r1 v5.N).bind fun v11 =>
      some (imul .i64 4 (isub .i64 v11 v10))
    else
      some 0).bind fun j1 =>
    (i_quadInstrs v5 p1 j1).bind fun r7 =>
    (appx 40 s3 r7).bind fun l8 =>
    some (.next (iadd .i64 s2 1, l8))
  else
    some (.done s3)

noncomputable def i_TaskInstrs (p0 : (List gQuad)) (p1 : Int) : Option ((List gInstr) × Bool) :=
  (i_TaskPlaces_n p0 p1).bind fun r1 =>
  if List.isEmpty r1 = true then
    some (([] : List gInstr), false)
  else
    (loopM (i_TaskInstrs_L1 p0 p1 r1) (0, ([] : List gInstr))).bind fun e2 =>
    match e2 with
    | y4 =>
      some (y4, true)

noncomputable def i_TaskInstrs_o_L1 (p0 : (List gQuad)) (p1 : Int) (r1 : (List Int)) (s : Int × (List gInstr)) : Option (Flow (Int × (List gInstr)) ((List gInstr))) :=
  match s with
  | (s2, s3) =>
  if ilt s2 (ilen p0) = true then
    (idx p0 s2).bind fun v5 =>
    ((i_hasTarget v5).bind fun r9 =>
    if r9 = true then
      (idx r1 s2).bind fun v10 =>
      (idx r1 v5.N).bind fun v11 =>
      some (imul .i64 4 (isub .i64 v11 v10))
    else
      some 0).bind fun j1 =>
    (i_quadInstrs v5 p1 j1).bind fun r7 =>
    (appx 40 s3 r7).bind fun l8 =>
    some (.next (iadd .i64 s2 1, l8))
  else
    some (.done s3)

noncomputable def i_TaskInstrs_o (p0 : (List gQuad)) (p1 : Int) : Option ((List gInstr) × Bool) :=
  (i_TaskPlaces_n p0 p1).bind fun r1 =>
  if List.isEmpty r1 = true then
    some (([] : List gInstr), false)
  else
    (loopM (i_TaskInstrs_o_L1 p0 p1 r1) (0, ([] : List gInstr))).bind fun e2 =>
    match e2 with
    | y4 =>
      some (y4, true)

noncomputable def l_FnExactTaskInstrs (p0 : (List gQuad)) (p1 : Int) : Option (Bool) :=
  (l_szQuadS p0 1048576).bind fun r1 =>
  if ilt r1 0 = true then
    some true
  else
    (l_toQuadS p0).bind fun r2 =>
    (s_TaskInstrs r2 p1).bind fun r3 =>
    (l_toQuadS_o p0).bind fun r4 =>
    (i_TaskInstrs_o r4 p1).bind fun r5 =>
    (l_eqInstrS r5.1 r3.1).bind fun r6 =>
    (if bnot r6 = true then some true else some (bneb r5.2 r3.2)).bind fun g7 =>
    if g7 = true then
      some false
    else
      (l_eqQuadS r4 r2).bind fun r8 =>
      if bnot r8 = true then
        some false
      else
        (l_markQuadS r4 1).bind fun r9 =>
        (if ilt r9.1 0 = true then some true else some (bnot r6)).bind fun g10 =>
        (if g10 = true then some true else some (bneb r5.2 r3.2)).bind fun g11 =>
        if g11 = true then
          some false
        else
          (l_markInstrS r5.1 1).bind fun r12 =>
          (l_heldInstrS r12.2 1).bind fun r13 =>
          if ilt r13 0 = true then
            some false
          else
            if ine r13 r12.1 = true then
              some false
            else
              (i_TaskInstrs r2 p1).bind fun r14 =>
              (l_eqInstrS r14.1 r3.1).bind fun r15 =>
              (if bnot r15 = true then some true else some (bneb r14.2 r3.2)).bind fun g16 =>
              if g16 = true then
                some false
              else
                if ilt r13 0 = true then
                  some false
                else
                  if ine r13 r12.1 = true then
                    some false
                  else
                    some true

end Go.Abs
