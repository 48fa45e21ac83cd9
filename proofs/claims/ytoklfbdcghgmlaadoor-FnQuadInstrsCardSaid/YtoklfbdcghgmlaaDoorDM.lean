/- Words of the proof: DM. No conditions. -/
import Derived.Test.YtoklfbdcghgmlaaDoorRows0
set_option linter.unusedSimpArgs false
set_option linter.unusedVariables false
set_option maxRecDepth 20000
set_option maxHeartbeats 4000000
namespace Go.Abs
open Go

noncomputable def s_l6In (p0 : Int) (p1 : Int) (p2 : Int) : Option (Bool) :=
  (if ige p0 p1 = true then some (ile p0 p2) else some false).bind fun g1 =>
  some g1

noncomputable def s_WordValid (p0 : Int) : Option (Bool) :=
  (s_l6In p0 (-2147483648) 2147483647).bind fun r1 =>
  some r1

noncomputable def s_l21Reg (p0 : Int) (p1 : Bool) : Option (Bool) :=
  if p1 = true then
    (s_l6In p0 0 11).bind fun r1 =>
    some r1
  else
    some (ieq p0 0)

noncomputable def s_l21Regs (p0 : gQuad) (p1 : Bool) (p2 : Bool) (p3 : Bool) : Option (Bool) :=
  (s_l21Reg p0.Dst p1).bind fun r1 =>
  (if r1 = true then (s_l21Reg p0.A p2).bind fun r2 => some r2 else some false).bind fun g3 =>
  (if g3 = true then (s_l21Reg p0.B p3).bind fun r4 => some r4 else some false).bind fun g5 =>
  some g5

noncomputable def s_OpValid (p0 : Int) : Option (Bool) :=
  (s_l6In p0 1 12).bind fun r1 =>
  some r1

noncomputable def s_QuadValid (p0 : gQuad) (p1 : Int) : Option (Bool) :=
  if ieq p0.Op 1 = true then
    (s_l21Regs p0 true false false).bind fun r1 =>
    (if r1 = true then (s_WordValid p0.N).bind fun r2 => some r2 else some false).bind fun g3 =>
    some g3
  else
    if ieq p0.Op 2 = true then
      (s_l21Regs p0 true true false).bind fun r4 =>
      (if r4 = true then some (ieq p0.N 0) else some false).bind fun g5 =>
      some g5
    else
      if ieq p0.Op 3 = true then
        (s_l21Regs p0 true true true).bind fun r6 =>
        (if r6 = true then (s_OpValid p0.N).bind fun r7 => some r7 else some false).bind fun g8 =>
        some g8
      else
        if ieq p0.Op 4 = true then
          (s_l21Regs p0 false false false).bind fun r9 =>
          (if r9 = true then some (ige p0.N 0) else some false).bind fun g10 =>
          (if g10 = true then some (ilt p0.N p1) else some false).bind fun g11 =>
          some g11
        else
          if ieq p0.Op 5 = true then
            (s_l21Regs p0 false true false).bind fun r12 =>
            (if r12 = true then some (ige p0.N 0) else some false).bind fun g13 =>
            (if g13 = true then some (ilt p0.N p1) else some false).bind fun g14 =>
            some g14
          else
            if ieq p0.Op 6 = true then
              (s_l21Regs p0 false true false).bind fun r15 =>
              (if r15 = true then (s_l6In p0.N 0 2).bind fun r16 => some r16 else some false).bind fun g17 =>
              some g17
            else
              if ieq p0.Op 7 = true then
                (s_l21Regs p0 true false false).bind fun r18 =>
                (if r18 = true then (s_l6In p0.N 0 2).bind fun r19 => some r19 else some false).bind fun g20 =>
                some g20
              else
                if ieq p0.Op 9 = true then
                  (s_l21Regs p0 false true false).bind fun r21 =>
                  (if r21 = true then some (ieq p0.N 0) else some false).bind fun g22 =>
                  some g22
                else
                  (if ieq p0.Op 8 = true then
                    some (ieq p0.Op 8)
                  else
                    some (ieq p0.Op 10)).bind fun j1 =>
                  if j1 = true then
                    (s_l21Regs p0 false false false).bind fun r24 =>
                    (if r24 = true then some (ieq p0.N 0) else some false).bind fun g25 =>
                    some g25
                  else
                    some false

noncomputable def s_Wrap (p0 : Int) : Option (Int) :=
  (remx p0 4294967296).bind fun v1 =>
  if igt v1 2147483647 = true then
    some (isub .i64 v1 4294967296)
  else
    if ilt v1 (-2147483648) = true then
      some (iadd .i64 v1 4294967296)
    else
      some v1

noncomputable def s_l1Power_L1 (p0 : Int) (s : Int × Int) : Option (Flow (Int × Int) (Int)) :=
  match s with
  | (s1, s2) =>
  if ilt s2 p0 = true then
    some (.next (imul .i64 s1 2, iadd .i64 s2 1))
  else
    some (.done s1)

noncomputable def s_l1Power (p0 : Int) : Option (Int) :=
  (loopM (s_l1Power_L1 p0) (1, 0)).bind fun e1 =>
  match e1 with
  | x3 =>
    some x3

noncomputable def s_SignExtend (p0 : Int) (p1 : Int) : Option (Int) :=
  (s_l6In p1 1 32).bind fun r1 =>
  (if bnot r1 = true then some true else (s_l1Power p1).bind fun r2 => (s_l6In p0 0 (isub .i64 r2 1)).bind fun r3 => some (bnot r3)).bind fun g4 =>
  if g4 = true then
    some 0
  else
    (s_l1Power (isub .i64 p1 1)).bind fun r5 =>
    if ige p0 r5 = true then
      (s_l1Power p1).bind fun r6 =>
      some (isub .i64 p0 r6)
    else
      some p0

noncomputable def s_Bits (p0 : Int) (p1 : Int) (p2 : Int) : Option (Int) :=
  (s_l6In p0 0 4294967295).bind fun r1 =>
  (if bnot r1 = true then some true else (s_l6In p1 0 31).bind fun r2 => some (bnot r2)).bind fun g3 =>
  (if g3 = true then some true else (s_l6In p2 1 (isub .i64 32 p1)).bind fun r4 => some (bnot r4)).bind fun g5 =>
  if g5 = true then
    some 0
  else
    (s_l1Power p1).bind fun r6 =>
    (quox .i64 p0 r6).bind fun v7 =>
    (s_l1Power p2).bind fun r8 =>
    (remx v7 r8).bind fun v9 =>
    some v9

noncomputable def s_Unsigned (p0 : Int) : Option (Int) :=
  (s_WordValid p0).bind fun r1 =>
  if bnot r1 = true then
    some (-1)
  else
    if ilt p0 0 = true then
      some (iadd .i64 p0 4294967296)
    else
      some p0

noncomputable def s_l43Reg (p0 : Int) (p1 : Int) (p2 : Int) : Option (Int) :=
  if ige p0 p1 = true then
    some p2
  else
    (idx ([8, 9, 18, 19, 20, 21, 22, 23] : List Int) p0).bind fun v1 =>
    some v1

noncomputable def s_l43Move (p0 : Int) (p1 : Int) : Option (gInstr) :=
  some (⟨12, p0, p1, 0, 0⟩ : gInstr)

noncomputable def s_l43Op (p0 : Int) : Option (Int) :=
  (idx ([7, 8, 6, 8, 11, 9, 10, 1, 2, 3, 4, 5] : List Int) (isub .i64 p0 1)).bind fun v1 =>
  some v1

noncomputable def s_l43Bin (p0 : gQuad) (p1 : Int) : Option ((List gInstr)) :=
  (some ([] : List gInstr)).bind fun l1 =>
  if ilt p0.A p1 = true then
    (some ([] : List gInstr)).bind fun l2 =>
    if ilt p0.B p1 = true then
      (appx 40 l2 ([] : List gInstr)).bind fun l3 =>
      (s_l43Reg p0.Dst p1 7).bind fun r4 =>
      (s_l43Op p0.N).bind fun r5 =>
      (s_l43Reg p0.A p1 5).bind fun r6 =>
      (s_l43Reg p0.B p1 6).bind fun r7 =>
      (appx 40 l3 ([(⟨r5, r4, r6, r7, 0⟩ : gInstr)] : List gInstr)).bind fun l8 =>
      (if ieq p0.N 4 = true then
        (appx 40 l8 ([(⟨13, r4, r4, 0, 1⟩ : gInstr)] : List gInstr)).bind fun l11 =>
        some l11
      else
        some l8).bind fun j1 =>
      if ilt p0.Dst p1 = true then
        some j1
      else
        (appx 40 j1 ([(⟨16, 0, 2, 7, imul .i64 4 (isub .i64 p0.Dst p1)⟩ : gInstr)] : List gInstr)).bind fun l10 =>
        some l10
    else
      (appx 40 l2 ([(⟨14, 6, 2, 0, imul .i64 4 (isub .i64 p0.B p1)⟩ : gInstr)] : List gInstr)).bind fun l12 =>
      (s_l43Reg p0.Dst p1 7).bind fun r13 =>
      (s_l43Op p0.N).bind fun r14 =>
      (s_l43Reg p0.A p1 5).bind fun r15 =>
      (s_l43Reg p0.B p1 6).bind fun r16 =>
      (appx 40 l12 ([(⟨r14, r13, r15, r16, 0⟩ : gInstr)] : List gInstr)).bind fun l17 =>
      (if ieq p0.N 4 = true then
        (appx 40 l17 ([(⟨13, r13, r13, 0, 1⟩ : gInstr)] : List gInstr)).bind fun l20 =>
        some l20
      else
        some l17).bind fun j2 =>
      if ilt p0.Dst p1 = true then
        some j2
      else
        (appx 40 j2 ([(⟨16, 0, 2, 7, imul .i64 4 (isub .i64 p0.Dst p1)⟩ : gInstr)] : List gInstr)).bind fun l19 =>
        some l19
  else
    (some ([(⟨14, 5, 2, 0, imul .i64 4 (isub .i64 p0.A p1)⟩ : gInstr)] : List gInstr)).bind fun l21 =>
    if ilt p0.B p1 = true then
      (appx 40 l21 ([] : List gInstr)).bind fun l22 =>
      (s_l43Reg p0.Dst p1 7).bind fun r23 =>
      (s_l43Op p0.N).bind fun r24 =>
      (s_l43Reg p0.A p1 5).bind fun r25 =>
      (s_l43Reg p0.B p1 6).bind fun r26 =>
      (appx 40 l22 ([(⟨r24, r23, r25, r26, 0⟩ : gInstr)] : List gInstr)).bind fun l27 =>
      (if ieq p0.N 4 = true then
        (appx 40 l27 ([(⟨13, r23, r23, 0, 1⟩ : gInstr)] : List gInstr)).bind fun l30 =>
        some l30
      else
        some l27).bind fun j3 =>
      if ilt p0.Dst p1 = true then
        some j3
      else
        (appx 40 j3 ([(⟨16, 0, 2, 7, imul .i64 4 (isub .i64 p0.Dst p1)⟩ : gInstr)] : List gInstr)).bind fun l29 =>
        some l29
    else
      (appx 40 l21 ([(⟨14, 6, 2, 0, imul .i64 4 (isub .i64 p0.B p1)⟩ : gInstr)] : List gInstr)).bind fun l31 =>
      (s_l43Reg p0.Dst p1 7).bind fun r32 =>
      (s_l43Op p0.N).bind fun r33 =>
      (s_l43Reg p0.A p1 5).bind fun r34 =>
      (s_l43Reg p0.B p1 6).bind fun r35 =>
      (appx 40 l31 ([(⟨r33, r32, r34, r35, 0⟩ : gInstr)] : List gInstr)).bind fun l36 =>
      (if ieq p0.N 4 = true then
        (appx 40 l36 ([(⟨13, r32, r32, 0, 1⟩ : gInstr)] : List gInstr)).bind fun l39 =>
        some l39
      else
        some l36).bind fun j4 =>
      if ilt p0.Dst p1 = true then
        some j4
      else
        (appx 40 j4 ([(⟨16, 0, 2, 7, imul .i64 4 (isub .i64 p0.Dst p1)⟩ : gInstr)] : List gInstr)).bind fun l38 =>
        some l38

noncomputable def s_l43Zero (p0 : gQuad) (p1 : Int) (p2 : Int) : Option ((List gInstr)) :=
  (some ([] : List gInstr)).bind fun l1 =>
  if ilt p0.A p1 = true then
    (some ([] : List gInstr)).bind fun l2 =>
    (s_l43Reg p0.A p1 5).bind fun r3 =>
    (appx 40 l2 ([(⟨18, 0, r3, 0, 8⟩ : gInstr)] : List gInstr)).bind fun l4 =>
    (appx 40 l4 ([(⟨20, 0, 0, 0, isub .i64 p2 (imul .i64 4 (ilen l4))⟩ : gInstr)] : List gInstr)).bind fun l5 =>
    some l5
  else
    (some ([(⟨14, 5, 2, 0, imul .i64 4 (isub .i64 p0.A p1)⟩ : gInstr)] : List gInstr)).bind fun l6 =>
    (s_l43Reg p0.A p1 5).bind fun r7 =>
    (appx 40 l6 ([(⟨18, 0, r7, 0, 8⟩ : gInstr)] : List gInstr)).bind fun l8 =>
    (appx 40 l8 ([(⟨20, 0, 0, 0, isub .i64 p2 (imul .i64 4 (ilen l8))⟩ : gInstr)] : List gInstr)).bind fun l9 =>
    some l9

noncomputable def s_l43Box (p0 : Int) : Option (gInstr) :=
  some (⟨12, 11, 0, 0, p0⟩ : gInstr)

noncomputable def s_l43Quad (p0 : gQuad) (p1 : Int) (p2 : Int) : Option ((List gInstr)) :=
  (s_l43Reg p0.Dst p1 7).bind fun r1 =>
  if ieq p0.Op 1 = true then
    (some ([] : List gInstr)).bind fun l2 =>
    (s_l6In p0.N (-2048) 2047).bind fun r3 =>
    if r3 = true then
      (some ([(⟨12, r1, 0, 0, p0.N⟩ : gInstr)] : List gInstr)).bind fun l4 =>
      if ilt p0.Dst p1 = true then
        some l4
      else
        (appx 40 l4 ([(⟨16, 0, 2, 7, imul .i64 4 (isub .i64 p0.Dst p1)⟩ : gInstr)] : List gInstr)).bind fun l5 =>
        some l5
    else
      (s_Unsigned p0.N).bind fun r6 =>
      (s_Bits r6 0 12).bind fun r7 =>
      (s_SignExtend r7 12).bind fun r8 =>
      (s_Wrap (isub .i64 p0.N r8)).bind fun r9 =>
      (s_Unsigned r9).bind fun r10 =>
      (s_Bits r10 12 20).bind fun r11 =>
      (some ([(⟨19, r1, 0, 0, r11⟩ : gInstr)] : List gInstr)).bind fun l12 =>
      (appx 40 l12 ([(⟨12, r1, r1, 0, r8⟩ : gInstr)] : List gInstr)).bind fun l13 =>
      if ilt p0.Dst p1 = true then
        some l13
      else
        (appx 40 l13 ([(⟨16, 0, 2, 7, imul .i64 4 (isub .i64 p0.Dst p1)⟩ : gInstr)] : List gInstr)).bind fun l14 =>
        some l14
  else
    if ieq p0.Op 2 = true then
      (some ([] : List gInstr)).bind fun l15 =>
      if ilt p0.A p1 = true then
        (some ([] : List gInstr)).bind fun l16 =>
        (s_l43Reg p0.A p1 5).bind fun r17 =>
        (s_l43Move r1 r17).bind fun r18 =>
        (appx 40 l16 ([r18] : List gInstr)).bind fun l19 =>
        if ilt p0.Dst p1 = true then
          some l19
        else
          (appx 40 l19 ([(⟨16, 0, 2, 7, imul .i64 4 (isub .i64 p0.Dst p1)⟩ : gInstr)] : List gInstr)).bind fun l20 =>
          some l20
      else
        (some ([(⟨14, 5, 2, 0, imul .i64 4 (isub .i64 p0.A p1)⟩ : gInstr)] : List gInstr)).bind fun l21 =>
        (s_l43Reg p0.A p1 5).bind fun r22 =>
        (s_l43Move r1 r22).bind fun r23 =>
        (appx 40 l21 ([r23] : List gInstr)).bind fun l24 =>
        if ilt p0.Dst p1 = true then
          some l24
        else
          (appx 40 l24 ([(⟨16, 0, 2, 7, imul .i64 4 (isub .i64 p0.Dst p1)⟩ : gInstr)] : List gInstr)).bind fun l25 =>
          some l25
    else
      if ieq p0.Op 3 = true then
        (s_l43Bin p0 p1).bind fun r26 =>
        some r26
      else
        if ieq p0.Op 4 = true then
          some ([(⟨20, 0, 0, 0, p2⟩ : gInstr)] : List gInstr)
        else
          if ieq p0.Op 5 = true then
            (s_l43Zero p0 p1 p2).bind fun r27 =>
            some r27
          else
            if ieq p0.Op 6 = true then
              (some ([] : List gInstr)).bind fun l28 =>
              (some ([] : List gInstr)).bind fun l29 =>
              if ilt p0.A p1 = true then
                (some ([] : List gInstr)).bind fun l30 =>
                (s_l43Reg p0.A p1 5).bind fun r31 =>
                (s_l43Move 10 r31).bind fun r32 =>
                (appx 40 l30 ([r32] : List gInstr)).bind fun l33 =>
                (s_l43Box p0.N).bind fun r34 =>
                (appx 40 l33 ([r34] : List gInstr)).bind fun l35 =>
                (appx 40 l35 ([(⟨12, 17, 0, 0, 1⟩ : gInstr)] : List gInstr)).bind fun l36 =>
                (appx 40 l36 ([(⟨15, 1, 0, 0, 0⟩ : gInstr)] : List gInstr)).bind fun l37 =>
                some l37
              else
                (some ([(⟨14, 5, 2, 0, imul .i64 4 (isub .i64 p0.A p1)⟩ : gInstr)] : List gInstr)).bind fun l38 =>
                (s_l43Reg p0.A p1 5).bind fun r39 =>
                (s_l43Move 10 r39).bind fun r40 =>
                (appx 40 l38 ([r40] : List gInstr)).bind fun l41 =>
                (s_l43Box p0.N).bind fun r42 =>
                (appx 40 l41 ([r42] : List gInstr)).bind fun l43 =>
                (appx 40 l43 ([(⟨12, 17, 0, 0, 1⟩ : gInstr)] : List gInstr)).bind fun l44 =>
                (appx 40 l44 ([(⟨15, 1, 0, 0, 0⟩ : gInstr)] : List gInstr)).bind fun l45 =>
                some l45
            else
              if ieq p0.Op 7 = true then
                (s_l43Box p0.N).bind fun r46 =>
                (some ([r46] : List gInstr)).bind fun l47 =>
                (some ([] : List gInstr)).bind fun l48 =>
                (appx 40 l47 ([(⟨12, 17, 0, 0, 2⟩ : gInstr)] : List gInstr)).bind fun l49 =>
                (appx 40 l49 ([(⟨15, 1, 0, 0, 0⟩ : gInstr)] : List gInstr)).bind fun l50 =>
                (s_l43Move r1 10).bind fun r51 =>
                (appx 40 l50 ([r51] : List gInstr)).bind fun l52 =>
                if ilt p0.Dst p1 = true then
                  some l52
                else
                  (appx 40 l52 ([(⟨16, 0, 2, 7, imul .i64 4 (isub .i64 p0.Dst p1)⟩ : gInstr)] : List gInstr)).bind fun l53 =>
                  some l53
              else
                if ieq p0.Op 8 = true then
                  (some ([] : List gInstr)).bind fun l54 =>
                  (appx 40 l54 ([(⟨12, 17, 0, 0, 3⟩ : gInstr)] : List gInstr)).bind fun l55 =>
                  (appx 40 l55 ([(⟨15, 1, 0, 0, 0⟩ : gInstr)] : List gInstr)).bind fun l56 =>
                  some l56
                else
                  if ieq p0.Op 9 = true then
                    (some ([] : List gInstr)).bind fun l57 =>
                    (some ([] : List gInstr)).bind fun l58 =>
                    if ilt p0.A p1 = true then
                      (some ([] : List gInstr)).bind fun l59 =>
                      (s_l43Reg p0.A p1 5).bind fun r60 =>
                      (s_l43Move 10 r60).bind fun r61 =>
                      (appx 40 l59 ([r61] : List gInstr)).bind fun l62 =>
                      (appx 40 l62 ([(⟨12, 17, 0, 0, 4⟩ : gInstr)] : List gInstr)).bind fun l63 =>
                      (appx 40 l63 ([(⟨15, 1, 0, 0, 0⟩ : gInstr)] : List gInstr)).bind fun l64 =>
                      some l64
                    else
                      (some ([(⟨14, 5, 2, 0, imul .i64 4 (isub .i64 p0.A p1)⟩ : gInstr)] : List gInstr)).bind fun l65 =>
                      (s_l43Reg p0.A p1 5).bind fun r66 =>
                      (s_l43Move 10 r66).bind fun r67 =>
                      (appx 40 l65 ([r67] : List gInstr)).bind fun l68 =>
                      (appx 40 l68 ([(⟨12, 17, 0, 0, 4⟩ : gInstr)] : List gInstr)).bind fun l69 =>
                      (appx 40 l69 ([(⟨15, 1, 0, 0, 0⟩ : gInstr)] : List gInstr)).bind fun l70 =>
                      some l70
                  else
                    (some ([] : List gInstr)).bind fun l71 =>
                    (appx 40 l71 ([(⟨12, 17, 0, 0, 5⟩ : gInstr)] : List gInstr)).bind fun l72 =>
                    (appx 40 l72 ([(⟨15, 1, 0, 0, 0⟩ : gInstr)] : List gInstr)).bind fun l73 =>
                    some l73

noncomputable def s_QuadInstrs (p0 : gQuad) (p1 : Int) (p2 : Int) : Option ((List gInstr) × Bool) :=
  (s_QuadValid p0 600).bind fun r1 =>
  (if bnot r1 = true then some true else (s_l6In p1 1 8).bind fun r2 => some (bnot r2)).bind fun g3 =>
  (if g3 = true then some true else (s_l6In p2 (-100000) 100000).bind fun r4 => some (bnot r4)).bind fun g5 =>
  (if g5 = true then some true else (remx p2 4).bind fun v6 => some (ine v6 0)).bind fun g7 =>
  if g7 = true then
    some (([] : List gInstr), false)
  else
    (s_l43Quad p0 p1 p2).bind fun r8 =>
    some (r8, true)

noncomputable def i_WordValid (p0 : Int) : Option (Bool) :=
  (if ige p0 (-2147483648) = true then some (ile p0 2147483647) else some false).bind fun g1 =>
  some g1

noncomputable def i_OpValid (p0 : Int) : Option (Bool) :=
  (if ige p0 1 = true then some (ile p0 12) else some false).bind fun g1 =>
  some g1

noncomputable def i_isReg (p0 : Int) : Option (Bool) :=
  (if ige p0 0 = true then some (ilt p0 12) else some false).bind fun g1 =>
  some g1

noncomputable def i_QuadValid (p0 : gQuad) (p1 : Int) : Option (Bool) :=
  (i_isReg p0.Dst).bind fun r1 =>
  (i_isReg p0.A).bind fun r2 =>
  (i_isReg p0.B).bind fun r3 =>
  if ieq p0.Op 1 = true then
    (if eqD p0 (⟨1, p0.Dst, 0, 0, p0.N⟩ : gQuad) = true then some r1 else some false).bind fun g4 =>
    (if g4 = true then (i_WordValid p0.N).bind fun r5 => some r5 else some false).bind fun g6 =>
    some g6
  else
    if ieq p0.Op 2 = true then
      (if eqD p0 (⟨2, p0.Dst, p0.A, 0, 0⟩ : gQuad) = true then some r1 else some false).bind fun g7 =>
      (if g7 = true then some r2 else some false).bind fun g8 =>
      some g8
    else
      if ieq p0.Op 3 = true then
        (if r1 = true then some r2 else some false).bind fun g9 =>
        (if g9 = true then some r3 else some false).bind fun g10 =>
        (if g10 = true then (i_OpValid p0.N).bind fun r11 => some r11 else some false).bind fun g12 =>
        some g12
      else
        if ieq p0.Op 4 = true then
          (if eqD p0 (⟨4, 0, 0, 0, p0.N⟩ : gQuad) = true then some (ige p0.N 0) else some false).bind fun g13 =>
          (if g13 = true then some (ilt p0.N p1) else some false).bind fun g14 =>
          some g14
        else
          if ieq p0.Op 5 = true then
            (if eqD p0 (⟨5, 0, p0.A, 0, p0.N⟩ : gQuad) = true then some r2 else some false).bind fun g15 =>
            (if g15 = true then some (ige p0.N 0) else some false).bind fun g16 =>
            (if g16 = true then some (ilt p0.N p1) else some false).bind fun g17 =>
            some g17
          else
            if ieq p0.Op 6 = true then
              (if eqD p0 (⟨6, 0, p0.A, 0, p0.N⟩ : gQuad) = true then some r2 else some false).bind fun g18 =>
              (if g18 = true then some (ige p0.N 0) else some false).bind fun g19 =>
              (if g19 = true then some (ilt p0.N 3) else some false).bind fun g20 =>
              some g20
            else
              if ieq p0.Op 7 = true then
                (if eqD p0 (⟨7, p0.Dst, 0, 0, p0.N⟩ : gQuad) = true then some r1 else some false).bind fun g21 =>
                (if g21 = true then some (ige p0.N 0) else some false).bind fun g22 =>
                (if g22 = true then some (ilt p0.N 3) else some false).bind fun g23 =>
                some g23
              else
                if ieq p0.Op 9 = true then
                  (if eqD p0 (⟨9, 0, p0.A, 0, 0⟩ : gQuad) = true then some r2 else some false).bind fun g24 =>
                  some g24
                else
                  (if ieq p0.Op 8 = true then
                    some (ieq p0.Op 8)
                  else
                    some (ieq p0.Op 10)).bind fun j1 =>
                  if j1 = true then
                    some (eqD p0 (⟨p0.Op, 0, 0, 0, 0⟩ : gQuad))
                  else
                    some false

noncomputable def i_Wrap (p0 : Int) : Option (Int) :=
  some (iconv .i64 (iconv .i32 p0))

noncomputable def i_addi (p0 : Int) (p1 : Int) (p2 : Int) : Option (gInstr) :=
  some (⟨12, p0, p1, 0, p2⟩ : gInstr)

noncomputable def i_SignExtend (p0 : Int) (p1 : Int) : Option (Int) :=
  (if ilt p1 1 = true then some true else some (igt p1 32)).bind fun g1 =>
  (if g1 = true then some true else some (ilt p0 0)).bind fun g2 =>
  (if g2 = true then some true else (shlx .i64 1 p1).bind fun v3 => some (ige p0 v3)).bind fun g4 =>
  if g4 = true then
    some 0
  else
    (shlx .i64 1 (isub .i64 p1 1)).bind fun v5 =>
    if ige p0 v5 = true then
      (shlx .i64 1 p1).bind fun v6 =>
      some (isub .i64 p0 v6)
    else
      some p0

noncomputable def i_isUnsigned (p0 : Int) : Option (Bool) :=
  (if ige p0 0 = true then some (ilt p0 4294967296) else some false).bind fun g1 =>
  some g1

noncomputable def i_Bits (p0 : Int) (p1 : Int) (p2 : Int) : Option (Int) :=
  (i_isUnsigned p0).bind fun r1 =>
  (if bnot r1 = true then some true else some (ilt p1 0)).bind fun g2 =>
  (if g2 = true then some true else some (igt p1 31)).bind fun g3 =>
  (if g3 = true then some true else some (ilt p2 1)).bind fun g4 =>
  (if g4 = true then some true else some (igt p2 (isub .i64 32 p1))).bind fun g5 =>
  if g5 = true then
    some 0
  else
    (shrx .i64 p0 p1).bind fun v6 =>
    (shlx .i64 1 p2).bind fun v7 =>
    some (iand .i64 v6 (isub .i64 v7 1))

noncomputable def i_Unsigned (p0 : Int) : Option (Int) :=
  (i_WordValid p0).bind fun r1 =>
  if bnot r1 = true then
    some (-1)
  else
    some (iconv .i64 (iconv .u32 p0))

noncomputable def i_constInstrs (p0 : Int) (p1 : Int) : Option ((List gInstr)) :=
  (if ige p1 (-2048) = true then some (ile p1 2047) else some false).bind fun g1 =>
  if g1 = true then
    (i_addi p0 0 p1).bind fun r2 =>
    some ([r2] : List gInstr)
  else
    (i_Unsigned p1).bind fun r3 =>
    (i_Bits r3 0 12).bind fun r4 =>
    (i_SignExtend r4 12).bind fun r5 =>
    (i_Wrap (isub .i64 p1 r5)).bind fun r6 =>
    (i_Unsigned r6).bind fun r7 =>
    (i_Bits r7 12 20).bind fun r8 =>
    (i_addi p0 p0 r5).bind fun r9 =>
    some ([(⟨19, p0, 0, 0, r8⟩ : gInstr), r9] : List gInstr)

noncomputable def i_quadInstrs (p0 : gQuad) (p1 : Int) (p2 : Int) : Option ((List gInstr)) :=
  if ieq p0.Op 1 = true then
    if ilt p0.Dst p1 = true then
      (idx ([8, 9, 18, 19, 20, 21, 22, 23] : List Int) p0.Dst).bind fun v1 =>
      (i_constInstrs v1 p0.N).bind fun r2 =>
      (appx 40 ([] : List gInstr) r2).bind fun l3 =>
      some l3
    else
      (i_constInstrs 7 p0.N).bind fun r4 =>
      (appx 40 ([] : List gInstr) r4).bind fun l5 =>
      (appx 40 l5 ([(⟨16, 0, 2, 7, imul .i64 4 (isub .i64 p0.Dst p1)⟩ : gInstr)] : List gInstr)).bind fun l6 =>
      some l6
  else
    if ieq p0.Op 2 = true then
      if ilt p0.A p1 = true then
        (idx ([8, 9, 18, 19, 20, 21, 22, 23] : List Int) p0.A).bind fun v7 =>
        if ilt p0.Dst p1 = true then
          (idx ([8, 9, 18, 19, 20, 21, 22, 23] : List Int) p0.Dst).bind fun v8 =>
          (i_addi v8 v7 0).bind fun r9 =>
          (appx 40 ([] : List gInstr) ([r9] : List gInstr)).bind fun l10 =>
          some l10
        else
          (i_addi 7 v7 0).bind fun r11 =>
          (appx 40 ([] : List gInstr) ([r11] : List gInstr)).bind fun l12 =>
          (appx 40 l12 ([(⟨16, 0, 2, 7, imul .i64 4 (isub .i64 p0.Dst p1)⟩ : gInstr)] : List gInstr)).bind fun l13 =>
          some l13
      else
        (appx 40 ([] : List gInstr) ([(⟨14, 5, 2, 0, imul .i64 4 (isub .i64 p0.A p1)⟩ : gInstr)] : List gInstr)).bind fun l14 =>
        if ilt p0.Dst p1 = true then
          (idx ([8, 9, 18, 19, 20, 21, 22, 23] : List Int) p0.Dst).bind fun v15 =>
          (i_addi v15 5 0).bind fun r16 =>
          (appx 40 l14 ([r16] : List gInstr)).bind fun l17 =>
          some l17
        else
          (i_addi 7 5 0).bind fun r18 =>
          (appx 40 l14 ([r18] : List gInstr)).bind fun l19 =>
          (appx 40 l19 ([(⟨16, 0, 2, 7, imul .i64 4 (isub .i64 p0.Dst p1)⟩ : gInstr)] : List gInstr)).bind fun l20 =>
          some l20
    else
      if ieq p0.Op 3 = true then
        if ilt p0.A p1 = true then
          (idx ([8, 9, 18, 19, 20, 21, 22, 23] : List Int) p0.A).bind fun v21 =>
          if ilt p0.B p1 = true then
            (idx ([8, 9, 18, 19, 20, 21, 22, 23] : List Int) p0.B).bind fun v22 =>
            if ilt p0.Dst p1 = true then
              (idx ([8, 9, 18, 19, 20, 21, 22, 23] : List Int) p0.Dst).bind fun v23 =>
              (idx ([7, 8, 6, 8, 11, 9, 10, 1, 2, 3, 4, 5] : List Int) (isub .i64 p0.N 1)).bind fun v24 =>
              (some ([(⟨v24, v23, v21, v22, 0⟩ : gInstr)] : List gInstr)).bind fun l25 =>
              if ieq p0.N 4 = true then
                (appx 40 l25 ([(⟨13, v23, v23, 0, 1⟩ : gInstr)] : List gInstr)).bind fun l26 =>
                (appx 40 ([] : List gInstr) l26).bind fun l27 =>
                some l27
              else
                (appx 40 ([] : List gInstr) l25).bind fun l28 =>
                some l28
            else
              (idx ([7, 8, 6, 8, 11, 9, 10, 1, 2, 3, 4, 5] : List Int) (isub .i64 p0.N 1)).bind fun v29 =>
              (some ([(⟨v29, 7, v21, v22, 0⟩ : gInstr)] : List gInstr)).bind fun l30 =>
              if ieq p0.N 4 = true then
                (appx 40 l30 ([(⟨13, 7, 7, 0, 1⟩ : gInstr)] : List gInstr)).bind fun l31 =>
                (appx 40 ([] : List gInstr) l31).bind fun l32 =>
                (appx 40 l32 ([(⟨16, 0, 2, 7, imul .i64 4 (isub .i64 p0.Dst p1)⟩ : gInstr)] : List gInstr)).bind fun l33 =>
                some l33
              else
                (appx 40 ([] : List gInstr) l30).bind fun l34 =>
                (appx 40 l34 ([(⟨16, 0, 2, 7, imul .i64 4 (isub .i64 p0.Dst p1)⟩ : gInstr)] : List gInstr)).bind fun l35 =>
                some l35
          else
            (appx 40 ([] : List gInstr) ([(⟨14, 6, 2, 0, imul .i64 4 (isub .i64 p0.B p1)⟩ : gInstr)] : List gInstr)).bind fun l36 =>
            if ilt p0.Dst p1 = true then
              (idx ([8, 9, 18, 19, 20, 21, 22, 23] : List Int) p0.Dst).bind fun v37 =>
              (idx ([7, 8, 6, 8, 11, 9, 10, 1, 2, 3, 4, 5] : List Int) (isub .i64 p0.N 1)).bind fun v38 =>
              (some ([(⟨v38, v37, v21, 6, 0⟩ : gInstr)] : List gInstr)).bind fun l39 =>
              if ieq p0.N 4 = true then
                (appx 40 l39 ([(⟨13, v37, v37, 0, 1⟩ : gInstr)] : List gInstr)).bind fun l40 =>
                (appx 40 l36 l40).bind fun l41 =>
                some l41
              else
                (appx 40 l36 l39).bind fun l42 =>
                some l42
            else
              (idx ([7, 8, 6, 8, 11, 9, 10, 1, 2, 3, 4, 5] : List Int) (isub .i64 p0.N 1)).bind fun v43 =>
              (some ([(⟨v43, 7, v21, 6, 0⟩ : gInstr)] : List gInstr)).bind fun l44 =>
              if ieq p0.N 4 = true then
                (appx 40 l44 ([(⟨13, 7, 7, 0, 1⟩ : gInstr)] : List gInstr)).bind fun l45 =>
                (appx 40 l36 l45).bind fun l46 =>
                (appx 40 l46 ([(⟨16, 0, 2, 7, imul .i64 4 (isub .i64 p0.Dst p1)⟩ : gInstr)] : List gInstr)).bind fun l47 =>
                some l47
              else
                (appx 40 l36 l44).bind fun l48 =>
                (appx 40 l48 ([(⟨16, 0, 2, 7, imul .i64 4 (isub .i64 p0.Dst p1)⟩ : gInstr)] : List gInstr)).bind fun l49 =>
                some l49
        else
          (appx 40 ([] : List gInstr) ([(⟨14, 5, 2, 0, imul .i64 4 (isub .i64 p0.A p1)⟩ : gInstr)] : List gInstr)).bind fun l50 =>
          if ilt p0.B p1 = true then
            (idx ([8, 9, 18, 19, 20, 21, 22, 23] : List Int) p0.B).bind fun v51 =>
            if ilt p0.Dst p1 = true then
              (idx ([8, 9, 18, 19, 20, 21, 22, 23] : List Int) p0.Dst).bind fun v52 =>
              (idx ([7, 8, 6, 8, 11, 9, 10, 1, 2, 3, 4, 5] : List Int) (isub .i64 p0.N 1)).bind fun v53 =>
              (some ([(⟨v53, v52, 5, v51, 0⟩ : gInstr)] : List gInstr)).bind fun l54 =>
              if ieq p0.N 4 = true then
                (appx 40 l54 ([(⟨13, v52, v52, 0, 1⟩ : gInstr)] : List gInstr)).bind fun l55 =>
                (appx 40 l50 l55).bind fun l56 =>
                some l56
              else
                (appx 40 l50 l54).bind fun l57 =>
                some l57
            else
              (idx ([7, 8, 6, 8, 11, 9, 10, 1, 2, 3, 4, 5] : List Int) (isub .i64 p0.N 1)).bind fun v58 =>
              (some ([(⟨v58, 7, 5, v51, 0⟩ : gInstr)] : List gInstr)).bind fun l59 =>
              if ieq p0.N 4 = true then
                (appx 40 l59 ([(⟨13, 7, 7, 0, 1⟩ : gInstr)] : List gInstr)).bind fun l60 =>
                (appx 40 l50 l60).bind fun l61 =>
                (appx 40 l61 ([(⟨16, 0, 2, 7, imul .i64 4 (isub .i64 p0.Dst p1)⟩ : gInstr)] : List gInstr)).bind fun l62 =>
                some l62
              else
                (appx 40 l50 l59).bind fun l63 =>
                (appx 40 l63 ([(⟨16, 0, 2, 7, imul .i64 4 (isub .i64 p0.Dst p1)⟩ : gInstr)] : List gInstr)).bind fun l64 =>
                some l64
          else
            (appx 40 l50 ([(⟨14, 6, 2, 0, imul .i64 4 (isub .i64 p0.B p1)⟩ : gInstr)] : List gInstr)).bind fun l65 =>
            if ilt p0.Dst p1 = true then
              (idx ([8, 9, 18, 19, 20, 21, 22, 23] : List Int) p0.Dst).bind fun v66 =>
              (idx ([7, 8, 6, 8, 11, 9, 10, 1, 2, 3, 4, 5] : List Int) (isub .i64 p0.N 1)).bind fun v67 =>
              (some ([(⟨v67, v66, 5, 6, 0⟩ : gInstr)] : List gInstr)).bind fun l68 =>
              if ieq p0.N 4 = true then
                (appx 40 l68 ([(⟨13, v66, v66, 0, 1⟩ : gInstr)] : List gInstr)).bind fun l69 =>
                (appx 40 l65 l69).bind fun l70 =>
                some l70
              else
                (appx 40 l65 l68).bind fun l71 =>
                some l71
            else
              (idx ([7, 8, 6, 8, 11, 9, 10, 1, 2, 3, 4, 5] : List Int) (isub .i64 p0.N 1)).bind fun v72 =>
              (some ([(⟨v72, 7, 5, 6, 0⟩ : gInstr)] : List gInstr)).bind fun l73 =>
              if ieq p0.N 4 = true then
                (appx 40 l73 ([(⟨13, 7, 7, 0, 1⟩ : gInstr)] : List gInstr)).bind fun l74 =>
                (appx 40 l65 l74).bind fun l75 =>
                (appx 40 l75 ([(⟨16, 0, 2, 7, imul .i64 4 (isub .i64 p0.Dst p1)⟩ : gInstr)] : List gInstr)).bind fun l76 =>
                some l76
              else
                (appx 40 l65 l73).bind fun l77 =>
                (appx 40 l77 ([(⟨16, 0, 2, 7, imul .i64 4 (isub .i64 p0.Dst p1)⟩ : gInstr)] : List gInstr)).bind fun l78 =>
                some l78
      else
        if ieq p0.Op 4 = true then
          (appx 40 ([] : List gInstr) ([(⟨20, 0, 0, 0, isub .i64 p2 (imul .i64 4 0)⟩ : gInstr)] : List gInstr)).bind fun l79 =>
          some l79
        else
          if ieq p0.Op 5 = true then
            if ilt p0.A p1 = true then
              (idx ([8, 9, 18, 19, 20, 21, 22, 23] : List Int) p0.A).bind fun v80 =>
              (appx 40 ([] : List gInstr) ([(⟨18, 0, v80, 0, 8⟩ : gInstr)] : List gInstr)).bind fun l81 =>
              (appx 40 l81 ([(⟨20, 0, 0, 0, isub .i64 p2 (imul .i64 4 (ilen l81))⟩ : gInstr)] : List gInstr)).bind fun l82 =>
              some l82
            else
              (appx 40 ([] : List gInstr) ([(⟨14, 5, 2, 0, imul .i64 4 (isub .i64 p0.A p1)⟩ : gInstr)] : List gInstr)).bind fun l83 =>
              (appx 40 l83 ([(⟨18, 0, 5, 0, 8⟩ : gInstr)] : List gInstr)).bind fun l84 =>
              (appx 40 l84 ([(⟨20, 0, 0, 0, isub .i64 p2 (imul .i64 4 (ilen l84))⟩ : gInstr)] : List gInstr)).bind fun l85 =>
              some l85
          else
            if ieq p0.Op 6 = true then
              if ilt p0.A p1 = true then
                (idx ([8, 9, 18, 19, 20, 21, 22, 23] : List Int) p0.A).bind fun v86 =>
                (i_addi 10 v86 0).bind fun r87 =>
                (i_addi 11 0 p0.N).bind fun r88 =>
                (appx 40 ([] : List gInstr) ([r87, r88] : List gInstr)).bind fun l89 =>
                (i_addi 17 0 1).bind fun r90 =>
                (appx 40 l89 ([r90, (⟨15, 1, 0, 0, 0⟩ : gInstr)] : List gInstr)).bind fun l91 =>
                some l91
              else
                (appx 40 ([] : List gInstr) ([(⟨14, 5, 2, 0, imul .i64 4 (isub .i64 p0.A p1)⟩ : gInstr)] : List gInstr)).bind fun l92 =>
                (i_addi 10 5 0).bind fun r93 =>
                (i_addi 11 0 p0.N).bind fun r94 =>
                (appx 40 l92 ([r93, r94] : List gInstr)).bind fun l95 =>
                (i_addi 17 0 1).bind fun r96 =>
                (appx 40 l95 ([r96, (⟨15, 1, 0, 0, 0⟩ : gInstr)] : List gInstr)).bind fun l97 =>
                some l97
            else
              if ieq p0.Op 7 = true then
                (i_addi 11 0 p0.N).bind fun r98 =>
                (appx 40 ([] : List gInstr) ([r98] : List gInstr)).bind fun l99 =>
                (i_addi 17 0 2).bind fun r100 =>
                (appx 40 l99 ([r100, (⟨15, 1, 0, 0, 0⟩ : gInstr)] : List gInstr)).bind fun l101 =>
                if ilt p0.Dst p1 = true then
                  (idx ([8, 9, 18, 19, 20, 21, 22, 23] : List Int) p0.Dst).bind fun v102 =>
                  (i_addi v102 10 0).bind fun r103 =>
                  (appx 40 l101 ([r103] : List gInstr)).bind fun l104 =>
                  some l104
                else
                  (i_addi 7 10 0).bind fun r105 =>
                  (appx 40 l101 ([r105] : List gInstr)).bind fun l106 =>
                  (appx 40 l106 ([(⟨16, 0, 2, 7, imul .i64 4 (isub .i64 p0.Dst p1)⟩ : gInstr)] : List gInstr)).bind fun l107 =>
                  some l107
              else
                if ieq p0.Op 8 = true then
                  (i_addi 17 0 3).bind fun r108 =>
                  (appx 40 ([] : List gInstr) ([r108, (⟨15, 1, 0, 0, 0⟩ : gInstr)] : List gInstr)).bind fun l109 =>
                  some l109
                else
                  if ieq p0.Op 9 = true then
                    if ilt p0.A p1 = true then
                      (idx ([8, 9, 18, 19, 20, 21, 22, 23] : List Int) p0.A).bind fun v110 =>
                      (i_addi 10 v110 0).bind fun r111 =>
                      (appx 40 ([] : List gInstr) ([r111] : List gInstr)).bind fun l112 =>
                      (i_addi 17 0 4).bind fun r113 =>
                      (appx 40 l112 ([r113, (⟨15, 1, 0, 0, 0⟩ : gInstr)] : List gInstr)).bind fun l114 =>
                      some l114
                    else
                      (appx 40 ([] : List gInstr) ([(⟨14, 5, 2, 0, imul .i64 4 (isub .i64 p0.A p1)⟩ : gInstr)] : List gInstr)).bind fun l115 =>
                      (i_addi 10 5 0).bind fun r116 =>
                      (appx 40 l115 ([r116] : List gInstr)).bind fun l117 =>
                      (i_addi 17 0 4).bind fun r118 =>
                      (appx 40 l117 ([r118, (⟨15, 1, 0, 0, 0⟩ : gInstr)] : List gInstr)).bind fun l119 =>
                      some l119
                  else
                    if ieq p0.Op 10 = true then
                      (i_addi 17 0 5).bind fun r120 =>
                      (appx 40 ([] : List gInstr) ([r120, (⟨15, 1, 0, 0, 0⟩ : gInstr)] : List gInstr)).bind fun l121 =>
                      some l121
                    else
                      some ([] : List gInstr)

noncomputable def i_QuadInstrs (p0 : gQuad) (p1 : Int) (p2 : Int) : Option ((List gInstr) × Bool) :=
  (i_QuadValid p0 600).bind fun r1 =>
  (if bnot r1 = true then some true else some (ilt p1 1)).bind fun g2 =>
  (if g2 = true then some true else some (igt p1 8)).bind fun g3 =>
  (if g3 = true then some true else (remx p2 4).bind fun v4 => some (ine v4 0)).bind fun g5 =>
  (if g5 = true then some true else some (ilt p2 (-100000))).bind fun g6 =>
  (if g6 = true then some true else some (igt p2 100000)).bind fun g7 =>
  if g7 = true then
    some (([] : List gInstr), false)
  else
    (i_quadInstrs p0 p1 p2).bind fun r8 =>
    some (r8, true)

noncomputable def s_l6Rd_pick (p0 : gL6Rd) (p1 : Int) : Option (Int × gL6Rd) :=
  (if ilt p1 1 = true then some true else some (ieq (ilen p0.b) 0)).bind fun g1 =>
  if g1 = true then
    some (0, (⟨p0.b, iadd .i64 p0.p 1⟩ : gL6Rd))
  else
    if ilt (isub .i64 (iadd .i64 p0.p 1) 1) (ilen p0.b) = true then
      (idx p0.b (isub .i64 (iadd .i64 p0.p 1) 1)).bind fun v2 =>
      (remx (iconv .i64 v2) p1).bind fun v3 =>
      some (v3, (⟨p0.b, iadd .i64 p0.p 1⟩ : gL6Rd))
    else
      (remx (isub .i64 (iadd .i64 p0.p 1) 1) (ilen p0.b)).bind fun v4 =>
      (idx p0.b v4).bind fun v5 =>
      (remx (iadd .i64 (imul .i64 (isub .i64 (iadd .i64 p0.p 1) 1) 7) 3) (ilen p0.b)).bind fun v6 =>
      (idx p0.b v6).bind fun v7 =>
      (quox .i64 (isub .i64 (iadd .i64 p0.p 1) 1) (ilen p0.b)).bind fun v8 =>
      (quox .i64 (iadd .i64 (iadd .i64 (iadd .i64 (imul .i64 (iconv .i64 v5) 131) (imul .i64 (iconv .i64 v7) 1117)) (imul .i64 (isub .i64 (iadd .i64 p0.p 1) 1) 29)) (imul .i64 v8 53)) 64).bind fun v9 =>
      (remx (ixor .i64 (iadd .i64 (iadd .i64 (iadd .i64 (imul .i64 (iconv .i64 v5) 131) (imul .i64 (iconv .i64 v7) 1117)) (imul .i64 (isub .i64 (iadd .i64 p0.p 1) 1) 29)) (imul .i64 v8 53)) v9) p1).bind fun v10 =>
      some (v10, (⟨p0.b, iadd .i64 p0.p 1⟩ : gL6Rd))

noncomputable def s_l91Word (p0 : gL6Rd) : Option (Int × gL6Rd) :=
  (s_l6Rd_pick p0 6).bind fun r1 =>
  if ieq r1.1 0 = true then
    (s_l6Rd_pick r1.2 8).bind fun r2 =>
    (idx ([-2147483648, 2147483647, -1, 0, 1, -2147483647, 65536, -65536] : List Int) r2.1).bind fun v3 =>
    some (v3, r2.2)
  else
    if ieq r1.1 1 = true then
      (s_l6Rd_pick r1.2 256).bind fun r4 =>
      (s_l6Rd_pick r4.2 256).bind fun r5 =>
      (s_l6Rd_pick r5.2 256).bind fun r6 =>
      (s_l6Rd_pick r6.2 200).bind fun r7 =>
      (s_Wrap (imul .i64 (iadd .i64 (iadd .i64 (imul .i64 r4.1 65536) (imul .i64 r5.1 256)) r6.1) (iadd .i64 1 r7.1))).bind fun r8 =>
      some (r8, r7.2)
    else
      if ieq r1.1 2 = true then
        (s_l6Rd_pick r1.2 200).bind fun r9 =>
        some (isub .i64 0 r9.1, r9.2)
      else
        (s_l6Rd_pick r1.2 20).bind fun r10 =>
        some (r10.1, r10.2)

noncomputable def s_l93Reg (p0 : gL6Rd) : Option (Int × gL6Rd) :=
  (s_l6Rd_pick p0 6).bind fun r1 =>
  some (r1.1, r1.2)

noncomputable def s_l91Op (p0 : gL6Rd) : Option (Int × gL6Rd) :=
  (s_l6Rd_pick p0 12).bind fun r1 =>
  some (iadd .i64 1 r1.1, r1.2)

noncomputable def s_l93Quad (p0 : gL6Rd) (p1 : Int) : Option (gQuad × gL6Rd) :=
  (s_l6Rd_pick p0 12).bind fun r1 =>
  (if ieq r1.1 0 = true then
    some (ieq r1.1 0)
  else
    some (ieq r1.1 1)).bind fun j1 =>
  if j1 = true then
    (s_l93Reg r1.2).bind fun r3 =>
    (s_l91Word r3.2).bind fun r4 =>
    (s_l6Rd_pick r4.2 4).bind fun r5 =>
    (idx ([0, 1, 2, r4.1] : List Int) r5.1).bind fun v6 =>
    some ((⟨1, r3.1, 0, 0, v6⟩ : gQuad), r5.2)
  else
    (if ieq r1.1 2 = true then
      some (ieq r1.1 2)
    else
      some (ieq r1.1 3)).bind fun j2 =>
    if j2 = true then
      (s_l93Reg r1.2).bind fun r8 =>
      (s_l93Reg r8.2).bind fun r9 =>
      some ((⟨2, r8.1, r9.1, 0, 0⟩ : gQuad), r9.2)
    else
      (if ieq r1.1 4 = true then
        some (ieq r1.1 4)
      else
        if ieq r1.1 5 = true then
          some (ieq r1.1 5)
        else
          some (ieq r1.1 6)).bind fun j3 =>
      if j3 = true then
        (s_l93Reg r1.2).bind fun r11 =>
        (s_l93Reg r11.2).bind fun r12 =>
        (s_l93Reg r12.2).bind fun r13 =>
        (s_l91Op r13.2).bind fun r14 =>
        some ((⟨3, r11.1, r12.1, r13.1, r14.1⟩ : gQuad), r14.2)
      else
        if ieq r1.1 7 = true then
          (s_l6Rd_pick r1.2 p1).bind fun r15 =>
          some ((⟨4, 0, 0, 0, r15.1⟩ : gQuad), r15.2)
        else
          if ieq r1.1 8 = true then
            (s_l93Reg r1.2).bind fun r16 =>
            (s_l6Rd_pick r16.2 p1).bind fun r17 =>
            some ((⟨5, 0, r16.1, 0, r17.1⟩ : gQuad), r17.2)
          else
            if ieq r1.1 9 = true then
              (s_l93Reg r1.2).bind fun r18 =>
              (s_l6Rd_pick r18.2 2).bind fun r19 =>
              some ((⟨6, 0, r18.1, 0, r19.1⟩ : gQuad), r19.2)
            else
              if ieq r1.1 10 = true then
                (s_l93Reg r1.2).bind fun r20 =>
                (s_l6Rd_pick r20.2 2).bind fun r21 =>
                some ((⟨7, r20.1, 0, 0, r21.1⟩ : gQuad), r21.2)
              else
                (s_l6Rd_pick r1.2 4).bind fun r22 =>
                if ieq r22.1 0 = true then
                  some ((⟨8, 0, 0, 0, 0⟩ : gQuad), r22.2)
                else
                  (s_l93Reg r22.2).bind fun r23 =>
                  some ((⟨9, 0, r23.1, 0, 0⟩ : gQuad), r23.2)

noncomputable def s_l93Wrong (p0 : gL6Rd) : Option (gQuad × gL6Rd) :=
  (s_l93Quad p0 20).bind fun r1 =>
  ((s_l6Rd_pick r1.2 12).bind fun r7 =>
  if ieq r7.1 0 = true then
    some (r7.2, (⟨10, 0, 0, 0, 0⟩ : gQuad))
  else
    some (r7.2, r1.1)).bind fun j1 =>
  (s_l6Rd_pick j1.1 24).bind fun r4 =>
  if ieq r4.1 0 = true then
    some ((⟨j1.2.Op, j1.2.Dst, 12, j1.2.B, j1.2.N⟩ : gQuad), r4.2)
  else
    if ieq r4.1 1 = true then
      some ((⟨j1.2.Op, j1.2.Dst, j1.2.A, 1, j1.2.N⟩ : gQuad), r4.2)
    else
      if ieq r4.1 2 = true then
        (s_l6Rd_pick r4.2 2).bind fun r5 =>
        (idx ([0, 11] : List Int) r5.1).bind fun v6 =>
        some ((⟨v6, j1.2.Dst, j1.2.A, j1.2.B, j1.2.N⟩ : gQuad), r5.2)
      else
        if ieq r4.1 3 = true then
          some ((⟨j1.2.Op, j1.2.Dst, j1.2.A, j1.2.B, 600⟩ : gQuad), r4.2)
        else
          some (j1.2, r4.2)

noncomputable def s_DrawQuadInstrs (p0 : (List Int)) : Option (gQuad × Int × Int) :=
  if igt (ilen p0) 2000 = true then
    (cutx p0 0 2000).bind fun l1 =>
    (s_l93Wrong (⟨l1, 0⟩ : gL6Rd)).bind fun r2 =>
    (s_l6Rd_pick r2.2 8).bind fun r3 =>
    (s_l6Rd_pick r3.2 200).bind fun r4 =>
    ((s_l6Rd_pick r4.2 24).bind fun r7 =>
    if ieq r7.1 0 = true then
      (s_l6Rd_pick r7.2 2).bind fun r8 =>
      (idx ([0, 9] : List Int) r8.1).bind fun v9 =>
      some (v9, imul .i64 4 (isub .i64 r4.1 100))
    else
      if ieq r7.1 1 = true then
        (s_l6Rd_pick r7.2 4).bind fun r10 =>
        (idx ([2, 100004, -100004, 100000] : List Int) r10.1).bind fun v11 =>
        some (iadd .i64 1 r3.1, v11)
      else
        some (iadd .i64 1 r3.1, imul .i64 4 (isub .i64 r4.1 100))).bind fun j1 =>
    some (r2.1, j1.1, j1.2)
  else
    (s_l93Wrong (⟨p0, 0⟩ : gL6Rd)).bind fun r12 =>
    (s_l6Rd_pick r12.2 8).bind fun r13 =>
    (s_l6Rd_pick r13.2 200).bind fun r14 =>
    ((s_l6Rd_pick r14.2 24).bind fun r17 =>
    if ieq r17.1 0 = true then
      (s_l6Rd_pick r17.2 2).bind fun r18 =>
      (idx ([0, 9] : List Int) r18.1).bind fun v19 =>
      some (v19, imul .i64 4 (isub .i64 r14.1 100))
    else
      if ieq r17.1 1 = true then
        (s_l6Rd_pick r17.2 4).bind fun r20 =>
        (idx ([2, 100004, -100004, 100000] : List Int) r20.1).bind fun v21 =>
        some (iadd .i64 1 r13.1, v21)
      else
        some (iadd .i64 1 r13.1, imul .i64 4 (isub .i64 r14.1 100))).bind fun j2 =>
    some (r12.1, j2.1, j2.2)

noncomputable def l_sameInstrs_L1 (p0 : (List gInstr)) (p1 : (List gInstr)) (s : Int) : Option (Flow (Int) (Sum (Unit) (Bool))) :=
  let s1 := s
  if ilt s1 (ilen p0) = true then
    (idx p0 s1).bind fun v2 =>
    (idx p1 s1).bind fun v3 =>
    if bnot (eqD v2 v3) = true then
      some (.done (.inr false))
    else
      some (.next (iadd .i64 s1 1))
  else
    some (.done (.inl ()))

noncomputable def l_sameInstrs (p0 : (List gInstr)) (p1 : (List gInstr)) : Option (Bool) :=
  if ine (ilen p0) (ilen p1) = true then
    some false
  else
    (loopM (l_sameInstrs_L1 p0 p1) 0).bind fun e1 =>
    match e1 with
    | .inl _ =>
      some true
    | .inr r => some r

noncomputable def l_FnQuadCall_L1 (r2 : (List gInstr) × Bool) (s : Int × Int × gQuad) : Option (Flow (Int × Int × gQuad) (Sum (Int × gQuad) (Bool))) :=
  match s with
  | (s9, s10, s11) =>
  if ilt s10 (ilen r2.1) = true then
    (idx r2.1 s10).bind fun v14 =>
    if ieq v14.Op 15 = true then
      if bnot (eqD v14 (⟨15, 1, 0, 0, 0⟩ : gInstr)) = true then
        some (.done (.inr false))
      else
        some (.next (iadd .i64 s9 1, iadd .i64 s10 1, s11))
    else
      some (.next (s9, iadd .i64 s10 1, s11))
  else
    some (.done (.inl (s9, s11)))

noncomputable def l_FnQuadCall (p0 : (List Int)) : Option (Bool) :=
  if igt (ilen p0) 1048576 = true then
    some true
  else
    (s_DrawQuadInstrs p0).bind fun r1 =>
    (i_QuadInstrs r1.1 r1.2.1 r1.2.2).bind fun r2 =>
    (s_QuadInstrs r1.1 r1.2.1 r1.2.2).bind fun r3 =>
    (if bneb r2.2 r3.2 = true then some true else (l_sameInstrs r2.1 r3.1).bind fun r4 => some (bnot r4)).bind fun g5 =>
    (if g5 = true then some true else some (bnot r2.2)).bind fun g6 =>
    if g6 = true then
      (if beqb r2.2 r3.2 = true then (l_sameInstrs r2.1 r3.1).bind fun r7 => some r7 else some false).bind fun g8 =>
      some g8
    else
      (loopM (l_FnQuadCall_L1 r2) (0, 0, r1.1)).bind fun e1 =>
      match e1 with
      | .inl (x12, x13) =>
        if ige x13.Op 6 = true then
          some (ieq x12 1)
        else
          some (ieq x12 0)
      | .inr r => some r

noncomputable def l_FnQuadInstrsColors_L1 (r10 : (List gInstr) × Bool) (s : Int × gQuad) : Option (Flow (Int × gQuad) (Sum (Unit) (Bool))) :=
  match s with
  | (s11, s12) =>
  if ilt s11 (ilen r10.1) = true then
    (if ilt s12.Dst 8 = true then some (ilt s12.A 8) else some false).bind fun g13 =>
    (if g13 = true then some (ilt s12.B 8) else some false).bind fun g14 =>
    (if g14 = true then (idx r10.1 s11).bind fun v15 => (if ieq v15.Op 14 = true then some true else some (ieq v15.Op 16)).bind fun g16 => some g16 else some false).bind fun g17 =>
    if g17 = true then
      some (.done (.inr false))
    else
      some (.next (iadd .i64 s11 1, s12))
  else
    some (.done (.inl ()))

noncomputable def l_FnQuadInstrsColors (p0 : (List Int)) : Option (Bool) :=
  if igt (ilen p0) 1048576 = true then
    some true
  else
    (s_DrawQuadInstrs p0).bind fun r1 =>
    (i_QuadInstrs r1.1 r1.2.1 r1.2.2).bind fun r2 =>
    (s_QuadInstrs r1.1 r1.2.1 r1.2.2).bind fun r3 =>
    (if bneb r2.2 r3.2 = true then some true else (l_sameInstrs r2.1 r3.1).bind fun r4 => some (bnot r4)).bind fun g5 =>
    (if g5 = true then some true else some (bnot r2.2)).bind fun g6 =>
    if g6 = true then
      (if beqb r2.2 r3.2 = true then (l_sameInstrs r2.1 r3.1).bind fun r7 => some r7 else some false).bind fun g8 =>
      some g8
    else
      (i_QuadInstrs r1.1 (imin (iadd .i64 r1.2.1 1) 8) r1.2.2).bind fun r9 =>
      (i_QuadInstrs r1.1 8 r1.2.2).bind fun r10 =>
      (loopM (l_FnQuadInstrsColors_L1 r10) (0, r1.1)).bind fun e1 =>
      match e1 with
      | .inl _ =>
        (if r9.2 = true then some r10.2 else some false).bind fun g18 =>
        (if g18 = true then some (ile (ilen r9.1) (ilen r2.1)) else some false).bind fun g19 =>
        some g19
      | .inr r => some r

noncomputable def i_isMachineReg (p0 : Int) : Option (Bool) :=
  (if ige p0 0 = true then some (ilt p0 32) else some false).bind fun g1 =>
  some g1

noncomputable def i_formatOf (p0 : Int) : Option (Int) :=
  (if ige p0 1 = true then some (ile p0 11) else some false).bind fun g1 =>
  if g1 = true then
    some 82
  else
    (if ige p0 12 = true then some (ile p0 15) else some false).bind fun g2 =>
    if g2 = true then
      some 73
    else
      if ieq p0 16 = true then
        some 83
      else
        (if ieq p0 17 = true then some true else some (ieq p0 18)).bind fun g3 =>
        if g3 = true then
          some 66
        else
          if ieq p0 19 = true then
            some 85
          else
            if ieq p0 20 = true then
              some 74
            else
              if ieq p0 21 = true then
                some 69
              else
                some 32

noncomputable def i_InstrValid (p0 : gInstr) : Option (Bool) :=
  (i_isMachineReg p0.Rd).bind fun r1 =>
  (i_isMachineReg p0.Rs).bind fun r2 =>
  (i_isMachineReg p0.Rt).bind fun r3 =>
  (if ige p0.Imm (-2048) = true then some (ile p0.Imm 2047) else some false).bind fun g4 =>
  (i_formatOf p0.Op).bind fun r5 =>
  if ieq r5 82 = true then
    (if r1 = true then some r2 else some false).bind fun g6 =>
    (if g6 = true then some r3 else some false).bind fun g7 =>
    (if g7 = true then some (ieq p0.Imm 0) else some false).bind fun g8 =>
    some g8
  else
    if ieq r5 73 = true then
      (if r1 = true then some r2 else some false).bind fun g9 =>
      (if g9 = true then some (ieq p0.Rt 0) else some false).bind fun g10 =>
      (if g10 = true then some g4 else some false).bind fun g11 =>
      some g11
    else
      if ieq r5 83 = true then
        (if ieq p0.Rd 0 = true then some r2 else some false).bind fun g12 =>
        (if g12 = true then some r3 else some false).bind fun g13 =>
        (if g13 = true then some g4 else some false).bind fun g14 =>
        some g14
      else
        if ieq r5 66 = true then
          (if ieq p0.Rd 0 = true then some r2 else some false).bind fun g15 =>
          (if g15 = true then some r3 else some false).bind fun g16 =>
          (if g16 = true then some (ige p0.Imm (-4096)) else some false).bind fun g17 =>
          (if g17 = true then some (ile p0.Imm 4094) else some false).bind fun g18 =>
          (if g18 = true then (remx p0.Imm 2).bind fun v19 => some (ieq v19 0) else some false).bind fun g20 =>
          some g20
        else
          if ieq r5 85 = true then
            (if r1 = true then some (ieq p0.Rs 0) else some false).bind fun g21 =>
            (if g21 = true then some (ieq p0.Rt 0) else some false).bind fun g22 =>
            (if g22 = true then some (ige p0.Imm 0) else some false).bind fun g23 =>
            (if g23 = true then some (ile p0.Imm 1048575) else some false).bind fun g24 =>
            some g24
          else
            if ieq r5 74 = true then
              (if r1 = true then some (ieq p0.Rs 0) else some false).bind fun g25 =>
              (if g25 = true then some (ieq p0.Rt 0) else some false).bind fun g26 =>
              (if g26 = true then some (ige p0.Imm (-1048576)) else some false).bind fun g27 =>
              (if g27 = true then some (ile p0.Imm 1048574) else some false).bind fun g28 =>
              (if g28 = true then (remx p0.Imm 2).bind fun v29 => some (ieq v29 0) else some false).bind fun g30 =>
              some g30
            else
              if ieq r5 69 = true then
                some (eqD p0 (⟨21, 0, 0, 0, 0⟩ : gInstr))
              else
                some false

noncomputable def l_hasInt_L1 (p0 : (List Int)) (p1 : Int) (s : Int) : Option (Flow (Int) (Sum (Unit) (Bool))) :=
  let s1 := s
  if ilt s1 (ilen p0) = true then
    (idx p0 s1).bind fun v2 =>
    if ieq v2 p1 = true then
      some (.done (.inr true))
    else
      some (.next (iadd .i64 s1 1))
  else
    some (.done (.inl ()))

noncomputable def l_hasInt (p0 : (List Int)) (p1 : Int) : Option (Bool) :=
  (loopM (l_hasInt_L1 p0 p1) 0).bind fun e1 =>
  match e1 with
  | .inl _ =>
    some false
  | .inr r => some r

noncomputable def l_FnQuadInstrs_L1 (r2 : (List gInstr) × Bool) (s : Int × (List Int)) : Option (Flow (Int × (List Int)) (Sum (Unit) (Bool))) :=
  match s with
  | (s12, s13) =>
  if ilt s12 (ilen r2.1) = true then
    (idx r2.1 s12).bind fun v14 =>
    (i_InstrValid v14).bind fun r15 =>
    (if bnot r15 = true then some true else (l_hasInt s13 v14.Rd).bind fun r16 => some (bnot r16)).bind fun g17 =>
    (if g17 = true then some true else (l_hasInt s13 v14.Rs).bind fun r18 => some (bnot r18)).bind fun g19 =>
    (if g19 = true then some true else (l_hasInt s13 v14.Rt).bind fun r20 => some (bnot r20)).bind fun g21 =>
    if g21 = true then
      some (.done (.inr false))
    else
      some (.next (iadd .i64 s12 1, s13))
  else
    some (.done (.inl ()))

noncomputable def l_FnQuadInstrs (p0 : (List Int)) : Option (Bool) :=
  if igt (ilen p0) 1048576 = true then
    some true
  else
    (s_DrawQuadInstrs p0).bind fun r1 =>
    (i_QuadInstrs r1.1 r1.2.1 r1.2.2).bind fun r2 =>
    (s_QuadInstrs r1.1 r1.2.1 r1.2.2).bind fun r3 =>
    (if bneb r2.2 r3.2 = true then some true else (l_sameInstrs r2.1 r3.1).bind fun r4 => some (bnot r4)).bind fun g5 =>
    (if g5 = true then some true else some (bnot r2.2)).bind fun g6 =>
    if g6 = true then
      (if beqb r2.2 r3.2 = true then (l_sameInstrs r2.1 r3.1).bind fun r7 => some r7 else some false).bind fun g8 =>
      some g8
    else
      (some ([0, 1, 2, 5, 6, 7, 10, 11, 17] : List Int)).bind fun l9 =>
      (cutx ([8, 9, 18, 19, 20, 21, 22, 23] : List Int) 0 r1.2.1).bind fun l10 =>
      (appx 8 l9 l10).bind fun l11 =>
      (loopM (l_FnQuadInstrs_L1 r2) (0, l11)).bind fun e1 =>
      match e1 with
      | .inl _ =>
        (if ige (ilen r2.1) 1 = true then some (ile (ilen r2.1) 5) else some false).bind fun g22 =>
        some g22
      | .inr r => some r

end Go.Abs
