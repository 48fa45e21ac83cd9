/- Words of the proof: DM. No conditions. -/
import Derived.Test.YtlcilhmkbmgkeaaDoorNDR0
set_option linter.unusedSimpArgs false
set_option linter.unusedVariables false
set_option maxRecDepth 20000
set_option maxHeartbeats 4000000
namespace Go.Abs
open Go

noncomputable def s_l6Open_o (p0 : (List Int)) : Option (gL6Rd) :=
 if igt (ilen p0) 2000 = true then
  (cutx p0 0 2000).bind fun l1 =>
  some (⟨l1, 0⟩ : gL6Rd)
 else
  some (⟨p0, 0⟩ : gL6Rd)

noncomputable def s_l6Rd_pick (p0 : gL6Rd) (p1 : Int) : Option (Int × gL6Rd) :=
 (if ilt p1 1 = true then some true else some (ieq (ilen p0.b) 0)).bind fun g1 =>
 if g1 = true then
  some (0, (⟨p0.b, iadd .i64 p0.p 1⟩ : gL6Rd))
 else
  if ilt (isub .i64 (iadd .i64 p0.p 1) 1) (ilen p0.b) = true then
   (idx p0.b (isub .i64 (iadd .i64 p0.p 1) 1)).bind fun v2 =>
   (remx (iconv .i64 v2) p1).bind fun v3 =>
   some (v3, (⟨p0.b, iadd .i64 p0.p 1⟩ : gL6Rd))
  else
   (remx (isub .i64 (iadd .i64 p0.p 1) 1) (ilen p0.b)).bind fun v4 =>
   (idx p0.b v4).bind fun v5 =>
   (remx (iadd .i64 (imul .i64 (isub .i64 (iadd .i64 p0.p 1) 1) 7) 3) (ilen p0.b)).bind fun v6 =>
   (idx p0.b v6).bind fun v7 =>
   (quox .i64 (isub .i64 (iadd .i64 p0.p 1) 1) (ilen p0.b)).bind fun v8 =>
   (quox .i64 (iadd .i64 (iadd .i64 (iadd .i64 (imul .i64 (iconv .i64 v5) 131) (imul .i64 (iconv .i64 v7) 1117)) (imul .i64 (isub .i64 (iadd .i64 p0.p 1) 1) 29)) (imul .i64 v8 53)) 64).bind fun v9 =>
   (remx (ixor .i64 (iadd .i64 (iadd .i64 (iadd .i64 (imul .i64 (iconv .i64 v5) 131) (imul .i64 (iconv .i64 v7) 1117)) (imul .i64 (isub .i64 (iadd .i64 p0.p 1) 1) 29)) (imul .i64 v8 53)) v9) p1).bind fun v10 =>
   some (v10, (⟨p0.b, iadd .i64 p0.p 1⟩ : gL6Rd))

noncomputable def s_l93Reg (p0 : gL6Rd) : Option (Int × gL6Rd) :=
 (s_l6Rd_pick p0 6).bind fun r1 =>
 some (r1.1, r1.2)

noncomputable def s_Wrap (p0 : Int) : Option (Int) :=
 (remx p0 4294967296).bind fun v1 =>
 if igt v1 2147483647 = true then
  some (isub .i64 v1 4294967296)
 else
  if ilt v1 (-2147483648) = true then
   some (iadd .i64 v1 4294967296)
  else
   some v1

noncomputable def s_l91Word (p0 : gL6Rd) : Option (Int × gL6Rd) :=
 (s_l6Rd_pick p0 6).bind fun r1 =>
 if ieq r1.1 0 = true then
  (s_l6Rd_pick r1.2 8).bind fun r2 =>
  (idx ([-2147483648, 2147483647, -1, 0, 1, -2147483647, 65536, -65536] : List Int) r2.1).bind fun v3 =>
  some (v3, r2.2)
 else
  if ieq r1.1 1 = true then
   (s_l6Rd_pick r1.2 256).bind fun r4 =>
   (s_l6Rd_pick r4.2 256).bind fun r5 =>
   (s_l6Rd_pick r5.2 256).bind fun r6 =>
   (s_l6Rd_pick r6.2 200).bind fun r7 =>
   (s_Wrap (imul .i64 (iadd .i64 (iadd .i64 (imul .i64 r4.1 65536) (imul .i64 r5.1 256)) r6.1) (iadd .i64 1 r7.1))).bind fun r8 =>
   some (r8, r7.2)
  else
   if ieq r1.1 2 = true then
    (s_l6Rd_pick r1.2 200).bind fun r9 =>
    some (isub .i64 0 r9.1, r9.2)
   else
    (s_l6Rd_pick r1.2 20).bind fun r10 =>
    some (r10.1, r10.2)

noncomputable def s_l91Op (p0 : gL6Rd) : Option (Int × gL6Rd) :=
 (s_l6Rd_pick p0 12).bind fun r1 =>
 some (iadd .i64 1 r1.1, r1.2)

noncomputable def s_l93Quad (p0 : gL6Rd) (p1 : Int) : Option (gQuad × gL6Rd) :=
 (s_l6Rd_pick p0 12).bind fun r1 =>
 (if ieq r1.1 0 = true then
  some (ieq r1.1 0)
 else
  some (ieq r1.1 1)).bind fun j1 =>
 if j1 = true then
  (s_l93Reg r1.2).bind fun r3 =>
  (s_l91Word r3.2).bind fun r4 =>
  (s_l6Rd_pick r4.2 4).bind fun r5 =>
  (idx ([0, 1, 2, r4.1] : List Int) r5.1).bind fun v6 =>
  some ((⟨1, r3.1, 0, 0, v6⟩ : gQuad), r5.2)
 else
  (if ieq r1.1 2 = true then
   some (ieq r1.1 2)
  else
   some (ieq r1.1 3)).bind fun j2 =>
  if j2 = true then
   (s_l93Reg r1.2).bind fun r8 =>
   (s_l93Reg r8.2).bind fun r9 =>
   some ((⟨2, r8.1, r9.1, 0, 0⟩ : gQuad), r9.2)
  else
   (if ieq r1.1 4 = true then
    some (ieq r1.1 4)
   else
    if ieq r1.1 5 = true then
     some (ieq r1.1 5)
    else
     some (ieq r1.1 6)).bind fun j3 =>
   if j3 = true then
    (s_l93Reg r1.2).bind fun r11 =>
    (s_l93Reg r11.2).bind fun r12 =>
    (s_l93Reg r12.2).bind fun r13 =>
    (s_l91Op r13.2).bind fun r14 =>
    some ((⟨3, r11.1, r12.1, r13.1, r14.1⟩ : gQuad), r14.2)
   else
    if ieq r1.1 7 = true then
     (s_l6Rd_pick r1.2 p1).bind fun r15 =>
     some ((⟨4, 0, 0, 0, r15.1⟩ : gQuad), r15.2)
    else
     if ieq r1.1 8 = true then
      (s_l93Reg r1.2).bind fun r16 =>
      (s_l6Rd_pick r16.2 p1).bind fun r17 =>
      some ((⟨5, 0, r16.1, 0, r17.1⟩ : gQuad), r17.2)
     else
      if ieq r1.1 9 = true then
       (s_l93Reg r1.2).bind fun r18 =>
       (s_l6Rd_pick r18.2 2).bind fun r19 =>
       some ((⟨6, 0, r18.1, 0, r19.1⟩ : gQuad), r19.2)
      else
       if ieq r1.1 10 = true then
        (s_l93Reg r1.2).bind fun r20 =>
        (s_l6Rd_pick r20.2 2).bind fun r21 =>
        some ((⟨7, r20.1, 0, 0, r21.1⟩ : gQuad), r21.2)
       else
        (s_l6Rd_pick r1.2 4).bind fun r22 =>
        if ieq r22.1 0 = true then
         some ((⟨8, 0, 0, 0, 0⟩ : gQuad), r22.2)
        else
         (s_l93Reg r22.2).bind fun r23 =>
         some ((⟨9, 0, r23.1, 0, 0⟩ : gQuad), r23.2)

noncomputable def s_l93Wrong (p0 : gL6Rd) : Option (gQuad × gL6Rd) :=
 (s_l93Quad p0 20).bind fun r1 =>
 ((s_l6Rd_pick r1.2 12).bind fun r7 =>
 if ieq r7.1 0 = true then
  some (r7.2, (⟨10, 0, 0, 0, 0⟩ : gQuad))
 else
  some (r7.2, r1.1)).bind fun j1 =>
 (s_l6Rd_pick j1.1 24).bind fun r4 =>
 if ieq r4.1 0 = true then
  some ((⟨j1.2.Op, j1.2.Dst, 12, j1.2.B, j1.2.N⟩ : gQuad), r4.2)
 else
  if ieq r4.1 1 = true then
   some ((⟨j1.2.Op, j1.2.Dst, j1.2.A, 1, j1.2.N⟩ : gQuad), r4.2)
  else
   if ieq r4.1 2 = true then
    (s_l6Rd_pick r4.2 2).bind fun r5 =>
    (idx ([0, 11] : List Int) r5.1).bind fun v6 =>
    some ((⟨v6, j1.2.Dst, j1.2.A, j1.2.B, j1.2.N⟩ : gQuad), r5.2)
   else
    if ieq r4.1 3 = true then
     some ((⟨j1.2.Op, j1.2.Dst, j1.2.A, j1.2.B, 600⟩ : gQuad), r4.2)
    else
     some (j1.2, r4.2)

noncomputable def s_DrawQuadInstrs (p0 : (List Int)) : Option (gQuad × Int × Int) :=
 (s_l6Open_o p0).bind fun r1 =>
 (s_l93Wrong r1).bind fun r2 =>
 (s_l6Rd_pick r2.2 8).bind fun r3 =>
 (s_l6Rd_pick r3.2 200).bind fun r4 =>
 ((s_l6Rd_pick r4.2 24).bind fun r7 =>
 if ieq r7.1 0 = true then
  (s_l6Rd_pick r7.2 2).bind fun r8 =>
  (idx ([0, 9] : List Int) r8.1).bind fun v9 =>
  some (v9, imul .i64 4 (isub .i64 r4.1 100))
 else
  if ieq r7.1 1 = true then
   (s_l6Rd_pick r7.2 4).bind fun r10 =>
   (idx ([2, 100004, -100004, 100000] : List Int) r10.1).bind fun v11 =>
   some (iadd .i64 1 r3.1, v11)
  else
   some (iadd .i64 1 r3.1, imul .i64 4 (isub .i64 r4.1 100))).bind fun j1 =>
 some (r2.1, j1.1, j1.2)

noncomputable def i_isReg (p0 : Int) : Option (Bool) :=
 (if ige p0 0 = true then some (ilt p0 12) else some false).bind fun g1 =>
 some g1

noncomputable def i_WordValid (p0 : Int) : Option (Bool) :=
 (if ige p0 (-2147483648) = true then some (ile p0 2147483647) else some false).bind fun g1 =>
 some g1

noncomputable def i_OpValid (p0 : Int) : Option (Bool) :=
 (if ige p0 1 = true then some (ile p0 12) else some false).bind fun g1 =>
 some g1

noncomputable def i_QuadValid (p0 : gQuad) (p1 : Int) : Option (Bool) :=
 (i_isReg p0.Dst).bind fun r1 =>
 (i_isReg p0.A).bind fun r2 =>
 (i_isReg p0.B).bind fun r3 =>
 if ieq p0.Op 1 = true then
  (if eqD p0 (⟨1, p0.Dst, 0, 0, p0.N⟩ : gQuad) = true then some r1 else some false).bind fun g4 =>
  (if g4 = true then (i_WordValid p0.N).bind fun r5 => some r5 else some false).bind fun g6 =>
  some g6
 else
  if ieq p0.Op 2 = true then
   (if eqD p0 (⟨2, p0.Dst, p0.A, 0, 0⟩ : gQuad) = true then some r1 else some false).bind fun g7 =>
   (if g7 = true then some r2 else some false).bind fun g8 =>
   some g8
  else
   if ieq p0.Op 3 = true then
    (if r1 = true then some r2 else some false).bind fun g9 =>
    (if g9 = true then some r3 else some false).bind fun g10 =>
    (if g10 = true then (i_OpValid p0.N).bind fun r11 => some r11 else some false).bind fun g12 =>
    some g12
   else
    if ieq p0.Op 4 = true then
     (if eqD p0 (⟨4, 0, 0, 0, p0.N⟩ : gQuad) = true then some (ige p0.N 0) else some false).bind fun g13 =>
     (if g13 = true then some (ilt p0.N p1) else some false).bind fun g14 =>
     some g14
    else
     if ieq p0.Op 5 = true then
      (if eqD p0 (⟨5, 0, p0.A, 0, p0.N⟩ : gQuad) = true then some r2 else some false).bind fun g15 =>
      (if g15 = true then some (ige p0.N 0) else some false).bind fun g16 =>
      (if g16 = true then some (ilt p0.N p1) else some false).bind fun g17 =>
      some g17
     else
      if ieq p0.Op 6 = true then
       (if eqD p0 (⟨6, 0, p0.A, 0, p0.N⟩ : gQuad) = true then some r2 else some false).bind fun g18 =>
       (if g18 = true then some (ige p0.N 0) else some false).bind fun g19 =>
       (if g19 = true then some (ilt p0.N 3) else some false).bind fun g20 =>
       some g20
      else
       if ieq p0.Op 7 = true then
        (if eqD p0 (⟨7, p0.Dst, 0, 0, p0.N⟩ : gQuad) = true then some r1 else some false).bind fun g21 =>
        (if g21 = true then some (ige p0.N 0) else some false).bind fun g22 =>
        (if g22 = true then some (ilt p0.N 3) else some false).bind fun g23 =>
        some g23
       else
        if ieq p0.Op 9 = true then
         (if eqD p0 (⟨9, 0, p0.A, 0, 0⟩ : gQuad) = true then some r2 else some false).bind fun g24 =>
         some g24
        else
         (if ieq p0.Op 8 = true then
          some (ieq p0.Op 8)
         else
          some (ieq p0.Op 10)).bind fun j1 =>
         if j1 = true then
          some (eqD p0 (⟨p0.Op, 0, 0, 0, 0⟩ : gQuad))
         else
          some false

noncomputable def i_addi (p0 : Int) (p1 : Int) (p2 : Int) : Option (gInstr) :=
 some (⟨12, p0, p1, 0, p2⟩ : gInstr)

noncomputable def i_Unsigned (p0 : Int) : Option (Int) :=
 (i_WordValid p0).bind fun r1 =>
 if bnot r1 = true then
  some (-1)
 else
  some (iconv .i64 (iconv .u32 p0))

noncomputable def i_isUnsigned (p0 : Int) : Option (Bool) :=
 (if ige p0 0 = true then some (ilt p0 4294967296) else some false).bind fun g1 =>
 some g1

noncomputable def i_Bits (p0 : Int) (p1 : Int) (p2 : Int) : Option (Int) :=
 (i_isUnsigned p0).bind fun r1 =>
 (if bnot r1 = true then some true else some (ilt p1 0)).bind fun g2 =>
 (if g2 = true then some true else some (igt p1 31)).bind fun g3 =>
 (if g3 = true then some true else some (ilt p2 1)).bind fun g4 =>
 (if g4 = true then some true else some (igt p2 (isub .i64 32 p1))).bind fun g5 =>
 if g5 = true then
  some 0
 else
  (shrx .i64 p0 p1).bind fun v6 =>
  (shlx .i64 1 p2).bind fun v7 =>
  some (iand .i64 v6 (isub .i64 v7 1))

noncomputable def i_SignExtend (p0 : Int) (p1 : Int) : Option (Int) :=
 (if ilt p1 1 = true then some true else some (igt p1 32)).bind fun g1 =>
 (if g1 = true then some true else some (ilt p0 0)).bind fun g2 =>
 (if g2 = true then some true else (shlx .i64 1 p1).bind fun v3 => some (ige p0 v3)).bind fun g4 =>
 if g4 = true then
  some 0
 else
  (shlx .i64 1 (isub .i64 p1 1)).bind fun v5 =>
  if ige p0 v5 = true then
   (shlx .i64 1 p1).bind fun v6 =>
   some (isub .i64 p0 v6)
  else
   some p0

noncomputable def i_Wrap (p0 : Int) : Option (Int) :=
 some (iconv .i64 (iconv .i32 p0))

noncomputable def i_constInstrs (p0 : Int) (p1 : Int) : Option ((List gInstr)) :=
 (if ige p1 (-2048) = true then some (ile p1 2047) else some false).bind fun g1 =>
 if g1 = true then
  (i_addi p0 0 p1).bind fun r2 =>
  some ([r2] : List gInstr)
 else
  (i_Unsigned p1).bind fun r3 =>
  (i_Bits r3 0 12).bind fun r4 =>
  (i_SignExtend r4 12).bind fun r5 =>
  (i_Wrap (isub .i64 p1 r5)).bind fun r6 =>
  (i_Unsigned r6).bind fun r7 =>
  (i_Bits r7 12 20).bind fun r8 =>
  (i_addi p0 p0 r5).bind fun r9 =>
  some ([(⟨19, p0, 0, 0, r8⟩ : gInstr), r9] : List gInstr)

noncomputable def i_quadInstrs_1 (p0 : Int) (pf0 : gQuad) : Option ((List gInstr)) :=
 (i_constInstrs p0 pf0.N).bind fun r1 =>
 some r1

noncomputable def i_emitter_emit (p0 : gEmitter) (p1 : (List gInstr)) : Option (gEmitter) :=
 (appx 40 p0.list p1).bind fun l1 =>
 some (⟨p0.colors, l1⟩ : gEmitter)

noncomputable def i_emitter_write_i_quadInstrs_1 (p0 : gEmitter) (p1 : Int) (p2_0 : gQuad) : Option (gEmitter) :=
 if ilt p1 p0.colors = true then
  (idx ([8, 9, 18, 19, 20, 21, 22, 23] : List Int) p1).bind fun v1 =>
  (i_quadInstrs_1 v1 p2_0).bind fun r2 =>
  (i_emitter_emit p0 r2).bind fun r3 =>
  some r3
 else
  (i_quadInstrs_1 7 p2_0).bind fun r4 =>
  (i_emitter_emit p0 r4).bind fun r5 =>
  (i_emitter_emit r5 ([(⟨16, 0, 2, 7, imul .i64 4 (isub .i64 p1 r5.colors)⟩ : gInstr)] : List gInstr)).bind fun r6 =>
  some r6

noncomputable def i_emitter_read (p0 : gEmitter) (p1 : Int) (p2 : Int) : Option (Int × gEmitter) :=
 if ilt p1 p0.colors = true then
  (idx ([8, 9, 18, 19, 20, 21, 22, 23] : List Int) p1).bind fun v1 =>
  some (v1, p0)
 else
  (i_emitter_emit p0 ([(⟨14, p2, 2, 0, imul .i64 4 (isub .i64 p1 p0.colors)⟩ : gInstr)] : List gInstr)).bind fun r2 =>
  some (p2, r2)

noncomputable def i_quadInstrs_2 (p0 : Int) (pf0 : Int) : Option ((List gInstr)) :=
 (i_addi p0 pf0 0).bind fun r1 =>
 some ([r1] : List gInstr)

noncomputable def i_emitter_write_i_quadInstrs_2 (p0 : gEmitter) (p1 : Int) (p2_0 : Int) : Option (gEmitter) :=
 if ilt p1 p0.colors = true then
  (idx ([8, 9, 18, 19, 20, 21, 22, 23] : List Int) p1).bind fun v1 =>
  (i_quadInstrs_2 v1 p2_0).bind fun r2 =>
  (i_emitter_emit p0 r2).bind fun r3 =>
  some r3
 else
  (i_quadInstrs_2 7 p2_0).bind fun r4 =>
  (i_emitter_emit p0 r4).bind fun r5 =>
  (i_emitter_emit r5 ([(⟨16, 0, 2, 7, imul .i64 4 (isub .i64 p1 r5.colors)⟩ : gInstr)] : List gInstr)).bind fun r6 =>
  some r6

noncomputable def i_quadInstrs_3 (p0 : Int) (pf0 : gQuad) (pf1 : Int) (pf2 : Int) : Option ((List gInstr)) :=
 (idx ([7, 8, 6, 8, 11, 9, 10, 1, 2, 3, 4, 5] : List Int) (isub .i64 pf0.N 1)).bind fun v1 =>
 (some ([(⟨v1, p0, pf1, pf2, 0⟩ : gInstr)] : List gInstr)).bind fun l2 =>
 if ieq pf0.N 4 = true then
  (appx 40 l2 ([(⟨13, p0, p0, 0, 1⟩ : gInstr)] : List gInstr)).bind fun l3 =>
  some l3
 else
  some l2

noncomputable def i_emitter_write_i_quadInstrs_3 (p0 : gEmitter) (p1 : Int) (p2_0 : gQuad) (p2_1 : Int) (p2_2 : Int) : Option (gEmitter) :=
 if ilt p1 p0.colors = true then
  (idx ([8, 9, 18, 19, 20, 21, 22, 23] : List Int) p1).bind fun v1 =>
  (i_quadInstrs_3 v1 p2_0 p2_1 p2_2).bind fun r2 =>
  (i_emitter_emit p0 r2).bind fun r3 =>
  some r3
 else
  (i_quadInstrs_3 7 p2_0 p2_1 p2_2).bind fun r4 =>
  (i_emitter_emit p0 r4).bind fun r5 =>
  (i_emitter_emit r5 ([(⟨16, 0, 2, 7, imul .i64 4 (isub .i64 p1 r5.colors)⟩ : gInstr)] : List gInstr)).bind fun r6 =>
  some r6

noncomputable def i_emitter_emit_c0_1 (p0 : gEmitter) (p1 : (List gInstr)) : Option (gEmitter) :=
 (appx 40 p0.list p1).bind fun l1 =>
 some (⟨p0.colors, l1⟩ : gEmitter)

noncomputable def i_emitter_jump (p0 : gEmitter) (p1 : Int) : Option (gEmitter) :=
 (i_emitter_emit_c0_1 p0 ([(⟨20, 0, 0, 0, isub .i64 p1 (imul .i64 4 (ilen p0.list))⟩ : gInstr)] : List gInstr)).bind fun r1 =>
 some r1

noncomputable def i_emitter_call (p0 : gEmitter) (p1 : Int) : Option (gEmitter) :=
 (i_addi 17 0 p1).bind fun r1 =>
 (i_emitter_emit p0 ([r1, (⟨15, 1, 0, 0, 0⟩ : gInstr)] : List gInstr)).bind fun r2 =>
 some r2

noncomputable def i_quadInstrs_4 (p0 : Int) : Option ((List gInstr)) :=
 (i_addi p0 10 0).bind fun r1 =>
 some ([r1] : List gInstr)

noncomputable def i_emitter_write_i_quadInstrs_4 (p0 : gEmitter) (p1 : Int) : Option (gEmitter) :=
 if ilt p1 p0.colors = true then
  (idx ([8, 9, 18, 19, 20, 21, 22, 23] : List Int) p1).bind fun v1 =>
  (i_quadInstrs_4 v1).bind fun r2 =>
  (i_emitter_emit p0 r2).bind fun r3 =>
  some r3
 else
  (i_quadInstrs_4 7).bind fun r4 =>
  (i_emitter_emit p0 r4).bind fun r5 =>
  (i_emitter_emit r5 ([(⟨16, 0, 2, 7, imul .i64 4 (isub .i64 p1 r5.colors)⟩ : gInstr)] : List gInstr)).bind fun r6 =>
  some r6

noncomputable def i_quadInstrs (p0 : gQuad) (p1 : Int) (p2 : Int) : Option ((List gInstr)) :=
 (if ieq p0.Op 1 = true then
  (i_emitter_write_i_quadInstrs_1 (⟨p1, ([] : List gInstr)⟩ : gEmitter) p0.Dst p0).bind fun r2 =>
  some r2
 else
  if ieq p0.Op 2 = true then
   (i_emitter_read (⟨p1, ([] : List gInstr)⟩ : gEmitter) p0.A 5).bind fun r3 =>
   (i_emitter_write_i_quadInstrs_2 r3.2 p0.Dst r3.1).bind fun r5 =>
   some r5
  else
   if ieq p0.Op 3 = true then
    (i_emitter_read (⟨p1, ([] : List gInstr)⟩ : gEmitter) p0.A 5).bind fun r6 =>
    (i_emitter_read r6.2 p0.B 6).bind fun r7 =>
    (i_emitter_write_i_quadInstrs_3 r7.2 p0.Dst p0 r6.1 r7.1).bind fun r10 =>
    some r10
   else
    if ieq p0.Op 4 = true then
     (i_emitter_jump (⟨p1, ([] : List gInstr)⟩ : gEmitter) p2).bind fun r11 =>
     some r11
    else
     if ieq p0.Op 5 = true then
      (i_emitter_read (⟨p1, ([] : List gInstr)⟩ : gEmitter) p0.A 5).bind fun r12 =>
      (i_emitter_emit r12.2 ([(⟨18, 0, r12.1, 0, 8⟩ : gInstr)] : List gInstr)).bind fun r13 =>
      (i_emitter_jump r13 p2).bind fun r14 =>
      some r14
     else
      if ieq p0.Op 6 = true then
       (i_emitter_read (⟨p1, ([] : List gInstr)⟩ : gEmitter) p0.A 5).bind fun r15 =>
       (i_addi 10 r15.1 0).bind fun r16 =>
       (i_addi 11 0 p0.N).bind fun r17 =>
       (i_emitter_emit r15.2 ([r16, r17] : List gInstr)).bind fun r18 =>
       (i_emitter_call r18 1).bind fun r19 =>
       some r19
      else
       if ieq p0.Op 7 = true then
        (i_addi 11 0 p0.N).bind fun r20 =>
        (i_emitter_emit (⟨p1, ([] : List gInstr)⟩ : gEmitter) ([r20] : List gInstr)).bind fun r21 =>
        (i_emitter_call r21 2).bind fun r22 =>
        (i_emitter_write_i_quadInstrs_4 r22 p0.Dst).bind fun r23 =>
        some r23
       else
        if ieq p0.Op 8 = true then
         (i_emitter_call (⟨p1, ([] : List gInstr)⟩ : gEmitter) 3).bind fun r24 =>
         some r24
        else
         if ieq p0.Op 9 = true then
          (i_emitter_read (⟨p1, ([] : List gInstr)⟩ : gEmitter) p0.A 5).bind fun r25 =>
          (i_addi 10 r25.1 0).bind fun r26 =>
          (i_emitter_emit r25.2 ([r26] : List gInstr)).bind fun r27 =>
          (i_emitter_call r27 4).bind fun r28 =>
          some r28
         else
          if ieq p0.Op 10 = true then
           (i_emitter_call (⟨p1, ([] : List gInstr)⟩ : gEmitter) 5).bind fun r29 =>
           some r29
          else
           some (⟨p1, ([] : List gInstr)⟩ : gEmitter)).bind fun j1 =>
 some j1.list

noncomputable def i_QuadInstrs (p0 : gQuad) (p1 : Int) (p2 : Int) : Option ((List gInstr) × Bool) :=
 (i_QuadValid p0 600).bind fun r1 =>
 (if bnot r1 = true then some true else some (ilt p1 1)).bind fun g2 =>
 (if g2 = true then some true else some (igt p1 8)).bind fun g3 =>
 (if g3 = true then some true else (remx p2 4).bind fun v4 => some (ine v4 0)).bind fun g5 =>
 (if g5 = true then some true else some (ilt p2 (-100000))).bind fun g6 =>
 (if g6 = true then some true else some (igt p2 100000)).bind fun g7 =>
 if g7 = true then
  some (([] : List gInstr), false)
 else
  (i_quadInstrs p0 p1 p2).bind fun r8 =>
  some (r8, true)

noncomputable def s_l6In (p0 : Int) (p1 : Int) (p2 : Int) : Option (Bool) :=
 (if ige p0 p1 = true then some (ile p0 p2) else some false).bind fun g1 =>
 some g1

noncomputable def s_l21Reg (p0 : Int) (p1 : Bool) : Option (Bool) :=
 if p1 = true then
  (s_l6In p0 0 11).bind fun r1 =>
  some r1
 else
  some (ieq p0 0)

noncomputable def s_l21Regs (p0 : gQuad) (p1 : Bool) (p2 : Bool) (p3 : Bool) : Option (Bool) :=
 (s_l21Reg p0.Dst p1).bind fun r1 =>
 (if r1 = true then (s_l21Reg p0.A p2).bind fun r2 => some r2 else some false).bind fun g3 =>
 (if g3 = true then (s_l21Reg p0.B p3).bind fun r4 => some r4 else some false).bind fun g5 =>
 some g5

noncomputable def s_WordValid (p0 : Int) : Option (Bool) :=
 (s_l6In p0 (-2147483648) 2147483647).bind fun r1 =>
 some r1

noncomputable def s_OpValid (p0 : Int) : Option (Bool) :=
 (s_l6In p0 1 12).bind fun r1 =>
 some r1

noncomputable def s_QuadValid (p0 : gQuad) (p1 : Int) : Option (Bool) :=
 if ieq p0.Op 1 = true then
  (s_l21Regs p0 true false false).bind fun r1 =>
  (if r1 = true then (s_WordValid p0.N).bind fun r2 => some r2 else some false).bind fun g3 =>
  some g3
 else
  if ieq p0.Op 2 = true then
   (s_l21Regs p0 true true false).bind fun r4 =>
   (if r4 = true then some (ieq p0.N 0) else some false).bind fun g5 =>
   some g5
  else
   if ieq p0.Op 3 = true then
    (s_l21Regs p0 true true true).bind fun r6 =>
    (if r6 = true then (s_OpValid p0.N).bind fun r7 => some r7 else some false).bind fun g8 =>
    some g8
   else
    if ieq p0.Op 4 = true then
     (s_l21Regs p0 false false false).bind fun r9 =>
     (if r9 = true then some (ige p0.N 0) else some false).bind fun g10 =>
     (if g10 = true then some (ilt p0.N p1) else some false).bind fun g11 =>
     some g11
    else
     if ieq p0.Op 5 = true then
      (s_l21Regs p0 false true false).bind fun r12 =>
      (if r12 = true then some (ige p0.N 0) else some false).bind fun g13 =>
      (if g13 = true then some (ilt p0.N p1) else some false).bind fun g14 =>
      some g14
     else
      if ieq p0.Op 6 = true then
       (s_l21Regs p0 false true false).bind fun r15 =>
       (if r15 = true then (s_l6In p0.N 0 2).bind fun r16 => some r16 else some false).bind fun g17 =>
       some g17
      else
       if ieq p0.Op 7 = true then
        (s_l21Regs p0 true false false).bind fun r18 =>
        (if r18 = true then (s_l6In p0.N 0 2).bind fun r19 => some r19 else some false).bind fun g20 =>
        some g20
       else
        if ieq p0.Op 9 = true then
         (s_l21Regs p0 false true false).bind fun r21 =>
         (if r21 = true then some (ieq p0.N 0) else some false).bind fun g22 =>
         some g22
        else
         (if ieq p0.Op 8 = true then
          some (ieq p0.Op 8)
         else
          some (ieq p0.Op 10)).bind fun j1 =>
         if j1 = true then
          (s_l21Regs p0 false false false).bind fun r24 =>
          (if r24 = true then some (ieq p0.N 0) else some false).bind fun g25 =>
          some g25
         else
          some false

noncomputable def s_l43Reg (p0 : Int) (p1 : Int) (p2 : Int) : Option (Int) :=
 if ige p0 p1 = true then
  some p2
 else
  (idx ([8, 9, 18, 19, 20, 21, 22, 23] : List Int) p0).bind fun v1 =>
  some v1

noncomputable def s_Unsigned (p0 : Int) : Option (Int) :=
 (s_WordValid p0).bind fun r1 =>
 if bnot r1 = true then
  some (-1)
 else
  if ilt p0 0 = true then
   some (iadd .i64 p0 4294967296)
  else
   some p0

noncomputable def s_l1Power_L1 (p0 : Int) (s : Int × Int) : Option (Flow (Int × Int) (Int)) :=
 match s with
 | (s1, s2) =>
 if ilt s2 p0 = true then
  some (.next (imul .i64 s1 2, iadd .i64 s2 1))
 else
  some (.done s1)

noncomputable def s_l1Power (p0 : Int) : Option (Int) :=
 (loopM (s_l1Power_L1 p0) (1, 0)).bind fun e1 =>
 match e1 with
 | y3 =>
  some y3

noncomputable def s_Bits (p0 : Int) (p1 : Int) (p2 : Int) : Option (Int) :=
 (s_l6In p0 0 4294967295).bind fun r1 =>
 (if bnot r1 = true then some true else (s_l6In p1 0 31).bind fun r2 => some (bnot r2)).bind fun g3 =>
 (if g3 = true then some true else (s_l6In p2 1 (isub .i64 32 p1)).bind fun r4 => some (bnot r4)).bind fun g5 =>
 if g5 = true then
  some 0
 else
  (s_l1Power p1).bind fun r6 =>
  (quox .i64 p0 r6).bind fun v7 =>
  (s_l1Power p2).bind fun r8 =>
  (remx v7 r8).bind fun v9 =>
  some v9

noncomputable def s_SignExtend (p0 : Int) (p1 : Int) : Option (Int) :=
 (s_l6In p1 1 32).bind fun r1 =>
 (if bnot r1 = true then some true else (s_l1Power p1).bind fun r2 => (s_l6In p0 0 (isub .i64 r2 1)).bind fun r3 => some (bnot r3)).bind fun g4 =>
 if g4 = true then
  some 0
 else
  (s_l1Power (isub .i64 p1 1)).bind fun r5 =>
  if ige p0 r5 = true then
   (s_l1Power p1).bind fun r6 =>
   some (isub .i64 p0 r6)
  else
   some p0

noncomputable def s_l43Const (p0 : Int) (p1 : Int) : Option ((List gInstr)) :=
 (s_l6In p1 (-2048) 2047).bind fun r1 =>
 if r1 = true then
  some ([(⟨12, p0, 0, 0, p1⟩ : gInstr)] : List gInstr)
 else
  (s_Unsigned p1).bind fun r2 =>
  (s_Bits r2 0 12).bind fun r3 =>
  (s_SignExtend r3 12).bind fun r4 =>
  (s_Wrap (isub .i64 p1 r4)).bind fun r5 =>
  (s_Unsigned r5).bind fun r6 =>
  (s_Bits r6 12 20).bind fun r7 =>
  (some ([(⟨19, p0, 0, 0, r7⟩ : gInstr)] : List gInstr)).bind fun l8 =>
  (appx 40 l8 ([(⟨12, p0, p0, 0, r4⟩ : gInstr)] : List gInstr)).bind fun l9 =>
  some l9

noncomputable def s_l43Write (p0 : (List gInstr)) (p1 : Int) (p2 : Int) : Option ((List gInstr)) :=
 if ilt p1 p2 = true then
  some p0
 else
  (appx 40 p0 ([(⟨16, 0, 2, 7, imul .i64 4 (isub .i64 p1 p2)⟩ : gInstr)] : List gInstr)).bind fun l1 =>
  some l1

noncomputable def s_l43Const_o (p0 : Int) (p1 : Int) : Option ((List gInstr)) :=
 (s_l6In p1 (-2048) 2047).bind fun r1 =>
 if r1 = true then
  (some ([(⟨12, p0, 0, 0, p1⟩ : gInstr)] : List gInstr)).bind fun l2 =>
  some l2
 else
  (s_Unsigned p1).bind fun r3 =>
  (s_Bits r3 0 12).bind fun r4 =>
  (s_SignExtend r4 12).bind fun r5 =>
  (s_Wrap (isub .i64 p1 r5)).bind fun r6 =>
  (s_Unsigned r6).bind fun r7 =>
  (s_Bits r7 12 20).bind fun r8 =>
  (some ([(⟨19, p0, 0, 0, r8⟩ : gInstr)] : List gInstr)).bind fun l9 =>
  (appx 40 l9 ([(⟨12, p0, p0, 0, r5⟩ : gInstr)] : List gInstr)).bind fun l10 =>
  some l10

noncomputable def s_l43Read (p0 : Int) (p1 : Int) (p2 : Int) : Option ((List gInstr)) :=
 if ilt p0 p1 = true then
  some ([] : List gInstr)
 else
  some ([(⟨14, p2, 2, 0, imul .i64 4 (isub .i64 p0 p1)⟩ : gInstr)] : List gInstr)

noncomputable def s_l43Move (p0 : Int) (p1 : Int) : Option (gInstr) :=
 some (⟨12, p0, p1, 0, 0⟩ : gInstr)

noncomputable def s_l43Read_o (p0 : Int) (p1 : Int) (p2 : Int) : Option ((List gInstr)) :=
 if ilt p0 p1 = true then
  some ([] : List gInstr)
 else
  (some ([(⟨14, p2, 2, 0, imul .i64 4 (isub .i64 p0 p1)⟩ : gInstr)] : List gInstr)).bind fun l1 =>
  some l1

noncomputable def s_l43Op (p0 : Int) : Option (Int) :=
 (idx ([7, 8, 6, 8, 11, 9, 10, 1, 2, 3, 4, 5] : List Int) (isub .i64 p0 1)).bind fun v1 =>
 some v1

noncomputable def s_l43Bin (p0 : gQuad) (p1 : Int) : Option ((List gInstr)) :=
 (s_l43Read_o p0.A p1 5).bind fun r1 =>
 (s_l43Read p0.B p1 6).bind fun r2 =>
 (appx 40 r1 r2).bind fun l3 =>
 (s_l43Reg p0.Dst p1 7).bind fun r4 =>
 (s_l43Op p0.N).bind fun r5 =>
 (s_l43Reg p0.A p1 5).bind fun r6 =>
 (s_l43Reg p0.B p1 6).bind fun r7 =>
 (appx 40 l3 ([(⟨r5, r4, r6, r7, 0⟩ : gInstr)] : List gInstr)).bind fun l8 =>
 (if ieq p0.N 4 = true then
  (appx 40 l8 ([(⟨13, r4, r4, 0, 1⟩ : gInstr)] : List gInstr)).bind fun l11 =>
  some l11
 else
  some l8).bind fun j1 =>
 (s_l43Write j1 p0.Dst p1).bind fun r10 =>
 some r10

noncomputable def s_l43Zero (p0 : gQuad) (p1 : Int) (p2 : Int) : Option ((List gInstr)) :=
 (s_l43Read_o p0.A p1 5).bind fun r1 =>
 (s_l43Reg p0.A p1 5).bind fun r2 =>
 (appx 40 r1 ([(⟨18, 0, r2, 0, 8⟩ : gInstr)] : List gInstr)).bind fun l3 =>
 (appx 40 l3 ([(⟨20, 0, 0, 0, isub .i64 p2 (imul .i64 4 (ilen l3))⟩ : gInstr)] : List gInstr)).bind fun l4 =>
 some l4

noncomputable def s_l43Give (p0 : Int) (p1 : Int) : Option ((List gInstr)) :=
 (s_l43Read_o p0 p1 5).bind fun r1 =>
 (s_l43Reg p0 p1 5).bind fun r2 =>
 (s_l43Move 10 r2).bind fun r3 =>
 (appx 40 r1 ([r3] : List gInstr)).bind fun l4 =>
 some l4

noncomputable def s_l43Box (p0 : Int) : Option (gInstr) :=
 some (⟨12, 11, 0, 0, p0⟩ : gInstr)

noncomputable def s_l43Give_o (p0 : Int) (p1 : Int) : Option ((List gInstr)) :=
 (s_l43Read_o p0 p1 5).bind fun r1 =>
 (s_l43Reg p0 p1 5).bind fun r2 =>
 (s_l43Move 10 r2).bind fun r3 =>
 (appx 40 r1 ([r3] : List gInstr)).bind fun l4 =>
 some l4

noncomputable def s_l43Call (p0 : (List gInstr)) (p1 : Int) : Option ((List gInstr)) :=
 (appx 40 p0 ([(⟨12, 17, 0, 0, p1⟩ : gInstr)] : List gInstr)).bind fun l1 =>
 (appx 40 l1 ([(⟨15, 1, 0, 0, 0⟩ : gInstr)] : List gInstr)).bind fun l2 =>
 some l2

noncomputable def s_l43Call_o (p0 : (List gInstr)) (p1 : Int) : Option ((List gInstr)) :=
 (appx 40 p0 ([(⟨12, 17, 0, 0, p1⟩ : gInstr)] : List gInstr)).bind fun l1 =>
 (appx 40 l1 ([(⟨15, 1, 0, 0, 0⟩ : gInstr)] : List gInstr)).bind fun l2 =>
 some l2

noncomputable def s_l43Quad (p0 : gQuad) (p1 : Int) (p2 : Int) : Option ((List gInstr)) :=
 (s_l43Reg p0.Dst p1 7).bind fun r1 =>
 if ieq p0.Op 1 = true then
  (s_l43Const_o r1 p0.N).bind fun r2 =>
  (s_l43Write r2 p0.Dst p1).bind fun r3 =>
  some r3
 else
  if ieq p0.Op 2 = true then
   (s_l43Read_o p0.A p1 5).bind fun r4 =>
   (s_l43Reg p0.A p1 5).bind fun r5 =>
   (s_l43Move r1 r5).bind fun r6 =>
   (appx 40 r4 ([r6] : List gInstr)).bind fun l7 =>
   (s_l43Write l7 p0.Dst p1).bind fun r8 =>
   some r8
  else
   if ieq p0.Op 3 = true then
    (s_l43Bin p0 p1).bind fun r9 =>
    some r9
   else
    if ieq p0.Op 4 = true then
     some ([(⟨20, 0, 0, 0, p2⟩ : gInstr)] : List gInstr)
    else
     if ieq p0.Op 5 = true then
      (s_l43Zero p0 p1 p2).bind fun r10 =>
      some r10
     else
      if ieq p0.Op 6 = true then
       (s_l43Give_o p0.A p1).bind fun r11 =>
       (s_l43Box p0.N).bind fun r12 =>
       (appx 40 r11 ([r12] : List gInstr)).bind fun l13 =>
       (s_l43Call l13 1).bind fun r14 =>
       some r14
      else
       if ieq p0.Op 7 = true then
        (s_l43Box p0.N).bind fun r15 =>
        (some ([r15] : List gInstr)).bind fun l16 =>
        (s_l43Call_o l16 2).bind fun r17 =>
        (s_l43Move r1 10).bind fun r18 =>
        (appx 40 r17 ([r18] : List gInstr)).bind fun l19 =>
        (s_l43Write l19 p0.Dst p1).bind fun r20 =>
        some r20
       else
        if ieq p0.Op 8 = true then
         (some ([] : List gInstr)).bind fun l21 =>
         (s_l43Call l21 3).bind fun r22 =>
         some r22
        else
         if ieq p0.Op 9 = true then
          (s_l43Give_o p0.A p1).bind fun r23 =>
          (s_l43Call r23 4).bind fun r24 =>
          some r24
         else
          (some ([] : List gInstr)).bind fun l25 =>
          (s_l43Call l25 5).bind fun r26 =>
          some r26

noncomputable def s_QuadInstrs (p0 : gQuad) (p1 : Int) (p2 : Int) : Option ((List gInstr) × Bool) :=
 (s_QuadValid p0 600).bind fun r1 =>
 (if bnot r1 = true then some true else (s_l6In p1 1 8).bind fun r2 => some (bnot r2)).bind fun g3 =>
 (if g3 = true then some true else (s_l6In p2 (-100000) 100000).bind fun r4 => some (bnot r4)).bind fun g5 =>
 (if g5 = true then some true else (remx p2 4).bind fun v6 => some (ine v6 0)).bind fun g7 =>
 if g7 = true then
  some (([] : List gInstr), false)
 else
  (s_l43Quad p0 p1 p2).bind fun r8 =>
  some (r8, true)

noncomputable def l_sameInstrs_L1 (p0 : (List gInstr)) (p1 : (List gInstr)) (s : Int) : Option (Flow (Int) (Sum (Unit) (Bool))) :=
 let s1 := s
 if ilt s1 (ilen p0) = true then
  (idx p0 s1).bind fun v2 =>
  (idx p1 s1).bind fun v3 =>
  if bnot (eqD v2 v3) = true then
   some (.done (.inr false))
  else
   some (.next (iadd .i64 s1 1))
 else
  some (.done (.inl ()))

noncomputable def l_sameInstrs (p0 : (List gInstr)) (p1 : (List gInstr)) : Option (Bool) :=
 if ine (ilen p0) (ilen p1) = true then
  some false
 else
  (loopM (l_sameInstrs_L1 p0 p1) 0).bind fun e1 =>
  match e1 with
  | .inl _ =>
   some true
  | .inr r0 =>
   some r0

noncomputable def i_isMachineReg (p0 : Int) : Option (Bool) :=
 (if ige p0 0 = true then some (ilt p0 32) else some false).bind fun g1 =>
 some g1

noncomputable def i_formatOf (p0 : Int) : Option (Int) :=
 (if ige p0 1 = true then some (ile p0 11) else some false).bind fun g1 =>
 if g1 = true then
  some 82
 else
  (if ige p0 12 = true then some (ile p0 15) else some false).bind fun g2 =>
  if g2 = true then
   some 73
  else
   if ieq p0 16 = true then
    some 83
   else
    (if ieq p0 17 = true then some true else some (ieq p0 18)).bind fun g3 =>
    if g3 = true then
     some 66
    else
     if ieq p0 19 = true then
      some 85
     else
      if ieq p0 20 = true then
       some 74
      else
       if ieq p0 21 = true then
        some 69
       else
        some 32

noncomputable def i_InstrValid (p0 : gInstr) : Option (Bool) :=
 (i_isMachineReg p0.Rd).bind fun r1 =>
 (i_isMachineReg p0.Rs).bind fun r2 =>
 (i_isMachineReg p0.Rt).bind fun r3 =>
 (if ige p0.Imm (-2048) = true then some (ile p0.Imm 2047) else some false).bind fun g4 =>
 (i_formatOf p0.Op).bind fun r5 =>
 if ieq r5 82 = true then
  (if r1 = true then some r2 else some false).bind fun g6 =>
  (if g6 = true then some r3 else some false).bind fun g7 =>
  (if g7 = true then some (ieq p0.Imm 0) else some false).bind fun g8 =>
  some g8
 else
  if ieq r5 73 = true then
   (if r1 = true then some r2 else some false).bind fun g9 =>
   (if g9 = true then some (ieq p0.Rt 0) else some false).bind fun g10 =>
   (if g10 = true then some g4 else some false).bind fun g11 =>
   some g11
  else
   if ieq r5 83 = true then
    (if ieq p0.Rd 0 = true then some r2 else some false).bind fun g12 =>
    (if g12 = true then some r3 else some false).bind fun g13 =>
    (if g13 = true then some g4 else some false).bind fun g14 =>
    some g14
   else
    if ieq r5 66 = true then
     (if ieq p0.Rd 0 = true then some r2 else some false).bind fun g15 =>
     (if g15 = true then some r3 else some false).bind fun g16 =>
     (if g16 = true then some (ige p0.Imm (-4096)) else some false).bind fun g17 =>
     (if g17 = true then some (ile p0.Imm 4094) else some false).bind fun g18 =>
     (if g18 = true then (remx p0.Imm 2).bind fun v19 => some (ieq v19 0) else some false).bind fun g20 =>
     some g20
    else
     if ieq r5 85 = true then
      (if r1 = true then some (ieq p0.Rs 0) else some false).bind fun g21 =>
      (if g21 = true then some (ieq p0.Rt 0) else some false).bind fun g22 =>
      (if g22 = true then some (ige p0.Imm 0) else some false).bind fun g23 =>
      (if g23 = true then some (ile p0.Imm 1048575) else some false).bind fun g24 =>
      some g24
     else
      if ieq r5 74 = true then
       (if r1 = true then some (ieq p0.Rs 0) else some false).bind fun g25 =>
       (if g25 = true then some (ieq p0.Rt 0) else some false).bind fun g26 =>
       (if g26 = true then some (ige p0.Imm (-1048576)) else some false).bind fun g27 =>
       (if g27 = true then some (ile p0.Imm 1048574) else some false).bind fun g28 =>
       (if g28 = true then (remx p0.Imm 2).bind fun v29 => some (ieq v29 0) else some false).bind fun g30 =>
       some g30
      else
       if ieq r5 69 = true then
        some (eqD p0 (⟨21, 0, 0, 0, 0⟩ : gInstr))
       else
        some false

noncomputable def i_InstrEncode_1 (p0 : Int) (p1 : Int) (p2 : Int) (pf0 : Int) : Option (Int) :=
 (i_Bits pf0 p0 p1).bind fun r1 =>
 (shlx .i64 r1 p2).bind fun v2 =>
 some v2

noncomputable def i_InstrEncode (p0 : gInstr) : Option (Int × Bool) :=
 (i_InstrValid p0).bind fun r1 =>
 if bnot r1 = true then
  some (0, false)
 else
  (idx (instrTab : List gInstrRow) (isub .i64 p0.Op 1)).bind fun v2 =>
  (i_Unsigned p0.Imm).bind fun r3 =>
  (shlx .i64 p0.Rt 20).bind fun v4 =>
  (shlx .i64 p0.Rs 15).bind fun v5 =>
  (shlx .i64 v2.funct3 12).bind fun v6 =>
  (i_formatOf p0.Op).bind fun r7 =>
  if ieq r7 82 = true then
   (shlx .i64 v2.funct7 25).bind fun v8 =>
   (shlx .i64 p0.Rd 7).bind fun v9 =>
   some (ior .i64 (ior .i64 v8 (ior .i64 (ior .i64 (ior .i64 v4 v5) v6) v2.opcode)) v9, true)
  else
   if ieq r7 73 = true then
    (shlx .i64 p0.Rd 7).bind fun v10 =>
    (i_InstrEncode_1 0 12 20 r3).bind fun r11 =>
    some (ior .i64 (ior .i64 r11 (ior .i64 (ior .i64 (ior .i64 v4 v5) v6) v2.opcode)) v10, true)
   else
    if ieq r7 83 = true then
     (i_InstrEncode_1 5 7 25 r3).bind fun r12 =>
     (i_InstrEncode_1 0 5 7 r3).bind fun r13 =>
     some (ior .i64 (ior .i64 r12 (ior .i64 (ior .i64 (ior .i64 v4 v5) v6) v2.opcode)) r13, true)
    else
     if ieq r7 66 = true then
      (i_InstrEncode_1 12 1 31 r3).bind fun r14 =>
      (i_InstrEncode_1 5 6 25 r3).bind fun r15 =>
      (i_InstrEncode_1 1 4 8 r3).bind fun r16 =>
      (i_InstrEncode_1 11 1 7 r3).bind fun r17 =>
      some (ior .i64 (ior .i64 (ior .i64 (ior .i64 r14 r15) (ior .i64 (ior .i64 (ior .i64 v4 v5) v6) v2.opcode)) r16) r17, true)
     else
      if ieq r7 85 = true then
       (shlx .i64 p0.Rd 7).bind fun v18 =>
       (i_InstrEncode_1 0 20 12 r3).bind fun r19 =>
       some (ior .i64 (ior .i64 r19 v18) v2.opcode, true)
      else
       if ieq r7 74 = true then
        (shlx .i64 p0.Rd 7).bind fun v20 =>
        (i_InstrEncode_1 20 1 31 r3).bind fun r21 =>
        (i_InstrEncode_1 1 10 21 r3).bind fun r22 =>
        (i_InstrEncode_1 11 1 20 r3).bind fun r23 =>
        (i_InstrEncode_1 12 8 12 r3).bind fun r24 =>
        some (ior .i64 (ior .i64 (ior .i64 (ior .i64 (ior .i64 r21 r22) r23) r24) v20) v2.opcode, true)
       else
        some (v2.opcode, true)

noncomputable def l_wordsOf_L1 (p0 : (List gInstr)) (s : Int × (List Int)) : Option (Flow (Int × (List Int)) ((List Int))) :=
 match s with
 | (s1, s2) =>
 if ilt s1 (ilen p0) = true then
  (idx p0 s1).bind fun v4 =>
  (i_InstrEncode v4).bind fun r5 =>
  (i_Wrap r5.1).bind fun r6 =>
  (appx 8 s2 ([r6] : List Int)).bind fun l7 =>
  some (.next (iadd .i64 s1 1, l7))
 else
  some (.done s2)

noncomputable def l_wordsOf (p0 : (List gInstr)) : Option ((List Int)) :=
 (loopM (l_wordsOf_L1 p0) (0, ([] : List Int))).bind fun e1 =>
 match e1 with
 | y3 =>
  some y3

noncomputable def l_wordsOf_o_L1 (p0 : (List gInstr)) (s : Int × (List Int)) : Option (Flow (Int × (List Int)) ((List Int))) :=
 match s with
 | (s1, s2) =>
 if ilt s1 (ilen p0) = true then
  (idx p0 s1).bind fun v4 =>
  (i_InstrEncode v4).bind fun r5 =>
  (i_Wrap r5.1).bind fun r6 =>
  (appx 8 s2 ([r6] : List Int)).bind fun l7 =>
  some (.next (iadd .i64 s1 1, l7))
 else
  some (.done s2)

noncomputable def l_wordsOf_o (p0 : (List gInstr)) : Option ((List Int)) :=
 (loopM (l_wordsOf_o_L1 p0) (0, ([] : List Int))).bind fun e1 =>
 match e1 with
 | y3 =>
  some y3

noncomputable def i_areWords_L1 (p0 : (List Int)) (s : Int) : Option (Flow (Int) (Sum (Unit) (Bool))) :=
 let s1 := s
 if ilt s1 (ilen p0) = true then
  (idx p0 s1).bind fun v2 =>
  (i_WordValid v2).bind fun r3 =>
  if bnot r3 = true then
   some (.done (.inr false))
  else
   some (.next (iadd .i64 s1 1))
 else
  some (.done (.inl ()))

noncomputable def i_areWords (p0 : (List Int)) : Option (Bool) :=
 (loopM (i_areWords_L1 p0) 0).bind fun e1 =>
 match e1 with
 | .inl _ =>
  some true
 | .inr r0 =>
  some r0

noncomputable def i_MachineValid (p0 : gMachine) : Option (Bool) :=
 (if ieq (ilen p0.Regs) 32 = true then (i_areWords p0.Regs).bind fun r1 => some r1 else some false).bind fun g2 =>
 (if g2 = true then (idx p0.Regs 0).bind fun v3 => some (ieq v3 0) else some false).bind fun g4 =>
 (if g4 = true then (i_WordValid p0.Pc).bind fun r5 => some r5 else some false).bind fun g6 =>
 (if g6 = true then some (ile (ilen p0.Mem) 10000) else some false).bind fun g7 =>
 (if g7 = true then (i_areWords p0.Mem).bind fun r8 => some r8 else some false).bind fun g9 =>
 some g9

noncomputable def slices_Clone_int_int (p0 : (List Int)) : Option ((List Int)) :=
 if false = true then
  some ([] : List Int)
 else
  (appx 8 ([] : List Int) p0).bind fun l1 =>
  some l1

noncomputable def i_machineCopy (p0 : gMachine) : Option (gMachine) :=
 (slices_Clone_int_int p0.Regs).bind fun r1 =>
 (slices_Clone_int_int p0.Mem).bind fun r2 =>
 some (⟨r1, p0.Pc, r2⟩ : gMachine)

noncomputable def i_Machine_word_c0_2_mfo (p0 : gMachine) (p1 : Int) : Option (Option Int) :=
 (if ilt p1 0 = true then some true else (remx p1 4).bind fun v1 => some (ine v1 0)).bind fun g2 =>
 (if g2 = true then some true else (quox .i64 p1 4).bind fun v3 => some (ige v3 (ilen p0.Mem))).bind fun g4 =>
 if g4 = true then
  some none
 else
  (quox .i64 p1 4).bind fun v5 =>
  (idx p0.Mem v5).bind fun v6 =>
  some (some v5)

noncomputable def i_instrRow_matches (p0 : gInstrRow) (p1 : Int) (p2 : Int) : Option (Bool) :=
 if ine p0.opcode (iand .i64 p2 127) = true then
  some false
 else
  (i_formatOf p1).bind fun r1 =>
  if ieq r1 82 = true then
   (i_Bits p2 12 3).bind fun r2 =>
   (if ieq p0.funct3 r2 = true then (i_Bits p2 25 7).bind fun r3 => some (ieq p0.funct7 r3) else some false).bind fun g4 =>
   some g4
  else
   (if ieq r1 73 = true then
    some (ieq r1 73)
   else
    if ieq r1 83 = true then
     some (ieq r1 83)
    else
     some (ieq r1 66)).bind fun j1 =>
   if j1 = true then
    (i_Bits p2 12 3).bind fun r6 =>
    some (ieq p0.funct3 r6)
   else
    some true

noncomputable def i_decodeAs (p0 : Int) (p1 : Int) : Option (gInstr) :=
 (i_Bits p1 7 5).bind fun r1 =>
 (i_Bits p1 15 5).bind fun r2 =>
 (i_Bits p1 20 5).bind fun r3 =>
 (i_formatOf p0).bind fun r4 =>
 if ieq r4 82 = true then
  some (⟨p0, r1, r2, r3, 0⟩ : gInstr)
 else
  if ieq r4 73 = true then
   (i_Bits p1 20 12).bind fun r5 =>
   (i_SignExtend r5 12).bind fun r6 =>
   some (⟨p0, r1, r2, 0, r6⟩ : gInstr)
  else
   if ieq r4 83 = true then
    (i_Bits p1 25 7).bind fun r7 =>
    (shlx .i64 r7 5).bind fun v8 =>
    (i_SignExtend (ior .i64 v8 r1) 12).bind fun r9 =>
    some (⟨p0, 0, r2, r3, r9⟩ : gInstr)
   else
    if ieq r4 66 = true then
     (i_Bits p1 31 1).bind fun r10 =>
     (shlx .i64 r10 12).bind fun v11 =>
     (i_Bits p1 7 1).bind fun r12 =>
     (shlx .i64 r12 11).bind fun v13 =>
     (i_Bits p1 25 6).bind fun r14 =>
     (shlx .i64 r14 5).bind fun v15 =>
     (i_Bits p1 8 4).bind fun r16 =>
     (shlx .i64 r16 1).bind fun v17 =>
     (i_SignExtend (ior .i64 (ior .i64 (ior .i64 v11 v13) v15) v17) 13).bind fun r18 =>
     some (⟨p0, 0, r2, r3, r18⟩ : gInstr)
    else
     if ieq r4 85 = true then
      (i_Bits p1 12 20).bind fun r19 =>
      some (⟨p0, r1, 0, 0, r19⟩ : gInstr)
     else
      if ieq r4 74 = true then
       (i_Bits p1 31 1).bind fun r20 =>
       (shlx .i64 r20 20).bind fun v21 =>
       (i_Bits p1 12 8).bind fun r22 =>
       (shlx .i64 r22 12).bind fun v23 =>
       (i_Bits p1 20 1).bind fun r24 =>
       (shlx .i64 r24 11).bind fun v25 =>
       (i_Bits p1 21 10).bind fun r26 =>
       (shlx .i64 r26 1).bind fun v27 =>
       (i_SignExtend (ior .i64 (ior .i64 (ior .i64 v21 v23) v25) v27) 21).bind fun r28 =>
       some (⟨p0, r1, 0, 0, r28⟩ : gInstr)
      else
       some (⟨p0, 0, 0, 0, 0⟩ : gInstr)

noncomputable def i_InstrDecode_L1 (p0 : Int) (s : Int × gInstr) : Option (Flow (Int × gInstr) (Sum (gInstr) (gInstr × Bool))) :=
 match s with
 | (s2, s3) =>
 if ile s2 21 = true then
  (idx (instrTab : List gInstrRow) (isub .i64 s2 1)).bind fun v5 =>
  (i_instrRow_matches v5 s2 p0).bind fun r6 =>
  if bnot r6 = true then
   some (.next (iadd .i64 s2 1, s3))
  else
   (i_decodeAs s2 p0).bind fun r7 =>
   (i_InstrEncode r7).bind fun r8 =>
   (if r8.2 = true then some (ieq r8.1 p0) else some false).bind fun g9 =>
   if g9 = true then
    some (.done (.inr (r7, true)))
   else
    some (.next (iadd .i64 s2 1, s3))
 else
  some (.done (.inl s3))

noncomputable def i_InstrDecode (p0 : Int) : Option (gInstr × Bool) :=
 (i_isUnsigned p0).bind fun r1 =>
 if bnot r1 = true then
  some ((⟨0, 0, 0, 0, 0⟩ : gInstr), false)
 else
  (loopM (i_InstrDecode_L1 p0) (1, (⟨0, 0, 0, 0, 0⟩ : gInstr))).bind fun e1 =>
  match e1 with
  | .inl y4 =>
   some ((⟨0, 0, 0, 0, 0⟩ : gInstr), false)
  | .inr r0 =>
   some r0

noncomputable def i_Machine_set (p0 : gMachine) (p1 : Int) (p2 : Int) : Option (gMachine) :=
 if ine p1 0 = true then
  (idx p0.Regs p1).bind fun v1 =>
  (setx p0.Regs p1 p2).bind fun l2 =>
  some (⟨l2, p0.Pc, p0.Mem⟩ : gMachine)
 else
  some p0

noncomputable def i_Machine_word_c0_2_moo (p0 : gMachine) (p1 : Int) : Option (Option Int) :=
 (if ilt p1 0 = true then some true else (remx p1 4).bind fun v1 => some (ine v1 0)).bind fun g2 =>
 (if g2 = true then some true else (quox .i64 p1 4).bind fun v3 => some (ige v3 (ilen p0.Mem))).bind fun g4 =>
 if g4 = true then
  some none
 else
  (quox .i64 p1 4).bind fun v5 =>
  (idx p0.Mem v5).bind fun v6 =>
  some (some v5)

noncomputable def i_Machine_set_moo (p0 : gMachine) (p1 : Int) (p2 : Int) : Option (gMachine) :=
 if ine p1 0 = true then
  (idx p0.Regs p1).bind fun v1 =>
  (setx p0.Regs p1 p2).bind fun l2 =>
  some (⟨l2, p0.Pc, p0.Mem⟩ : gMachine)
 else
  some p0

noncomputable def i_truth (p0 : Bool) : Option (Int) :=
 if p0 = true then
  some 1
 else
  some 0

noncomputable def i_Machine_set_c0_2_moo (p0 : gMachine) (p1 : Int) (p2 : Int) : Option (gMachine) :=
 if ine p1 0 = true then
  (idx p0.Regs p1).bind fun v1 =>
  (setx p0.Regs p1 p2).bind fun l2 =>
  some (⟨l2, p0.Pc, p0.Mem⟩ : gMachine)
 else
  some p0

noncomputable def i_apply (p0 : Int) (p1 : Int) (p2 : Int) : Option (Int) :=
 if ieq p0 1 = true then
  some (ior .i64 p1 p2)
 else
  if ieq p0 2 = true then
   some (ixor .i64 p1 p2)
  else
   if ieq p0 3 = true then
    some (iand .i64 p1 p2)
   else
    if ieq p0 4 = true then
     (i_truth (ieq p1 p2)).bind fun r1 =>
     some r1
    else
     if ieq p0 5 = true then
      (i_truth (ilt p1 p2)).bind fun r2 =>
      some r2
     else
      if ieq p0 6 = true then
       (shlx .i64 p1 (iand .i64 p2 31)).bind fun v3 =>
       (i_Wrap v3).bind fun r4 =>
       some r4
      else
       if ieq p0 7 = true then
        (shrx .i64 p1 (iand .i64 p2 31)).bind fun v5 =>
        some v5
       else
        if ieq p0 8 = true then
         (i_Wrap (iadd .i64 p1 p2)).bind fun r6 =>
         some r6
        else
         if ieq p0 9 = true then
          (i_Wrap (isub .i64 p1 p2)).bind fun r7 =>
          some r7
         else
          if ieq p0 10 = true then
           (i_Wrap (imul .i64 p1 p2)).bind fun r8 =>
           some r8
          else
           if ieq p0 11 = true then
            if ieq p2 0 = true then
             some (-1)
            else
             (quox .i64 p1 p2).bind fun v9 =>
             (i_Wrap v9).bind fun r10 =>
             some r10
           else
            if ieq p2 0 = true then
             some p1
            else
             (remx p1 p2).bind fun v11 =>
             some v11

noncomputable def i_Machine_step (p0 : gMachine) : Option (Int × gMachine) :=
 (i_Machine_word_c0_2_moo p0 p0.Pc).bind fun r1 =>
 if r1.isNone = true then
  some (3, p0)
 else
  (r1).bind fun i2 =>
  (idx p0.Mem i2).bind fun v3 =>
  (i_Unsigned v3).bind fun r4 =>
  (i_InstrDecode r4).bind fun r5 =>
  if bnot r5.2 = true then
   some (3, p0)
  else
   (idx p0.Regs r5.1.Rs).bind fun v6 =>
   (idx p0.Regs r5.1.Rt).bind fun v7 =>
   (i_Wrap (iadd .i64 p0.Pc 4)).bind fun r8 =>
   (if ieq r5.1.Op 21 = true then
    (some (2, p0)).bind fun z => some (Flow.done z)
   else
    if ieq r5.1.Op 12 = true then
     (i_Wrap (iadd .i64 v6 r5.1.Imm)).bind fun r11 =>
     (i_Machine_set_moo p0 r5.1.Rd r11).bind fun r12 =>
     some (Flow.next (r8, r12))
    else
     if ieq r5.1.Op 13 = true then
      (i_Unsigned v6).bind fun r13 =>
      (i_Unsigned r5.1.Imm).bind fun r14 =>
      (i_truth (ilt r13 r14)).bind fun r15 =>
      (i_Machine_set_moo p0 r5.1.Rd r15).bind fun r16 =>
      some (Flow.next (r8, r16))
     else
      (if ieq r5.1.Op 14 = true then
       some (ieq r5.1.Op 14)
      else
       some (ieq r5.1.Op 16)).bind fun j2 =>
      if j2 = true then
       (i_Wrap (iadd .i64 v6 r5.1.Imm)).bind fun r19 =>
       (i_Machine_word_c0_2_moo p0 r19).bind fun r20 =>
       if r20.isNone = true then
        (some (3, p0)).bind fun z => some (Flow.done z)
       else
        if ieq r5.1.Op 16 = true then
         (r20).bind fun i21 =>
         (idx p0.Mem i21).bind fun v22 =>
         (setx p0.Mem i21 v7).bind fun l23 =>
         some (Flow.next (r8, (⟨p0.Regs, p0.Pc, l23⟩ : gMachine)))
        else
         (r20).bind fun i24 =>
         (idx p0.Mem i24).bind fun v25 =>
         (i_Machine_set_c0_2_moo p0 r5.1.Rd v25).bind fun r26 =>
         some (Flow.next (r8, r26))
      else
       if ieq r5.1.Op 15 = true then
        (i_Machine_set_moo p0 r5.1.Rd r8).bind fun r27 =>
        (i_Wrap (iadd .i64 v6 r5.1.Imm)).bind fun r28 =>
        some (Flow.next (iandNot .i64 r28 1, r27))
       else
        (if ieq r5.1.Op 17 = true then
         some (ieq r5.1.Op 17)
        else
         some (ieq r5.1.Op 18)).bind fun j3 =>
        if j3 = true then
         if beqb (ieq v6 v7) (ieq r5.1.Op 17) = true then
          (i_Wrap (iadd .i64 p0.Pc r5.1.Imm)).bind fun r30 =>
          some (Flow.next (r30, p0))
         else
          some (Flow.next (r8, p0))
        else
         if ieq r5.1.Op 19 = true then
          (i_Wrap (imul .i64 r5.1.Imm 4096)).bind fun r31 =>
          (i_Machine_set_moo p0 r5.1.Rd r31).bind fun r32 =>
          some (Flow.next (r8, r32))
         else
          if ieq r5.1.Op 20 = true then
           (i_Machine_set_moo p0 r5.1.Rd r8).bind fun r33 =>
           (i_Wrap (iadd .i64 r33.Pc r5.1.Imm)).bind fun r34 =>
           some (Flow.next (r34, r33))
          else
           (idx ([8, 9, 10, 11, 12, 3, 1, 2, 6, 7, 5] : List Int) (isub .i64 r5.1.Op 1)).bind fun v35 =>
           (i_apply v35 v6 v7).bind fun r36 =>
           (i_Machine_set_moo p0 r5.1.Rd r36).bind fun r37 =>
           some (Flow.next (r8, r37))).bind fun flj1 =>
   match flj1 with
   | .next j1 =>
    some (1, (⟨j1.2.Regs, j1.1, j1.2.Mem⟩ : gMachine))
   | .done z => some z

noncomputable def slices_Clone_int_int_o (p0 : (List Int)) : Option ((List Int)) :=
 if false = true then
  some ([] : List Int)
 else
  (appx 8 ([] : List Int) p0).bind fun l1 =>
  some l1

noncomputable def i_machineCopy_o (p0 : gMachine) : Option (gMachine) :=
 (slices_Clone_int_int_o p0.Regs).bind fun r1 =>
 (slices_Clone_int_int p0.Mem).bind fun r2 =>
 some (⟨r1, p0.Pc, r2⟩ : gMachine)

noncomputable def i_machineCopy_o2 (p0 : gMachine) : Option (gMachine) :=
 (slices_Clone_int_int_o p0.Regs).bind fun r1 =>
 (slices_Clone_int_int_o p0.Mem).bind fun r2 =>
 some (⟨r1, p0.Pc, r2⟩ : gMachine)

noncomputable def i_MachineRun_L1 (p1 : Int) (s : Int × gMachine × gMachine) : Option (Flow (Int × gMachine × gMachine) (Sum (gMachine × gMachine) (gMachine × Int × Int))) :=
 match s with
 | (s5, s6, s7) =>
 if ilt s5 p1 = true then
  (i_Machine_step s7).bind fun r10 =>
  if ine r10.1 1 = true then
   some (.done (.inr (r10.2, s5, r10.1)))
  else
   some (.next (iadd .i64 s5 1, s6, r10.2))
 else
  some (.done (.inl (s6, s7)))

noncomputable def i_MachineRun (p0 : gMachine) (p1 : Int) : Option (gMachine × Int × Int) :=
 (i_MachineValid p0).bind fun r1 =>
 (if bnot r1 = true then some true else some (ilt p1 0)).bind fun g2 =>
 (if g2 = true then some true else some (igt p1 1000000)).bind fun g3 =>
 if g3 = true then
  some ((⟨([] : List Int), 0, ([] : List Int)⟩ : gMachine), 0, 0)
 else
  (i_machineCopy_o2 p0).bind fun r4 =>
  (loopM (i_MachineRun_L1 p1) (0, (⟨([] : List Int), 0, ([] : List Int)⟩ : gMachine), r4)).bind fun e1 =>
  match e1 with
  | .inl (y8, y9) =>
   some (y9, p1, 1)
  | .inr r0 =>
   some r0

noncomputable def i_MachineRun_o_L1 (p1 : Int) (s : Int × gMachine × gMachine) : Option (Flow (Int × gMachine × gMachine) (Sum (gMachine × gMachine) (gMachine × Int × Int))) :=
 match s with
 | (s5, s6, s7) =>
 if ilt s5 p1 = true then
  (i_Machine_step s7).bind fun r10 =>
  if ine r10.1 1 = true then
   some (.done (.inr (r10.2, s5, r10.1)))
  else
   some (.next (iadd .i64 s5 1, s6, r10.2))
 else
  some (.done (.inl (s6, s7)))

noncomputable def i_MachineRun_o (p0 : gMachine) (p1 : Int) : Option (gMachine × Int × Int) :=
 (i_MachineValid p0).bind fun r1 =>
 (if bnot r1 = true then some true else some (ilt p1 0)).bind fun g2 =>
 (if g2 = true then some true else some (igt p1 1000000)).bind fun g3 =>
 if g3 = true then
  some ((⟨([] : List Int), 0, ([] : List Int)⟩ : gMachine), 0, 0)
 else
  (i_machineCopy_o2 p0).bind fun r4 =>
  (loopM (i_MachineRun_o_L1 p1) (0, (⟨([] : List Int), 0, ([] : List Int)⟩ : gMachine), r4)).bind fun e1 =>
  match e1 with
  | .inl (y8, y9) =>
   some (y9, p1, 1)
  | .inr r0 =>
   some r0

noncomputable def i_MachineRun_o2_L1 (p1 : Int) (s : Int × gMachine × gMachine) : Option (Flow (Int × gMachine × gMachine) (Sum (gMachine × gMachine) (gMachine × Int × Int))) :=
 match s with
 | (s5, s6, s7) =>
 if ilt s5 p1 = true then
  (i_Machine_step s7).bind fun r10 =>
  if ine r10.1 1 = true then
   some (.done (.inr (r10.2, s5, r10.1)))
  else
   some (.next (iadd .i64 s5 1, s6, r10.2))
 else
  some (.done (.inl (s6, s7)))

noncomputable def i_MachineRun_o2 (p0 : gMachine) (p1 : Int) : Option (gMachine × Int × Int) :=
 (i_MachineValid p0).bind fun r1 =>
 (if bnot r1 = true then some true else some (ilt p1 0)).bind fun g2 =>
 (if g2 = true then some true else some (igt p1 1000000)).bind fun g3 =>
 if g3 = true then
  some ((⟨([] : List Int), 0, ([] : List Int)⟩ : gMachine), 0, 0)
 else
  (i_machineCopy_o2 p0).bind fun r4 =>
  (loopM (i_MachineRun_o2_L1 p1) (0, (⟨([] : List Int), 0, ([] : List Int)⟩ : gMachine), r4)).bind fun e1 =>
  match e1 with
  | .inl (y8, y9) =>
   some (y9, p1, 1)
  | .inr r0 =>
   some r0

noncomputable def i_Apply (p0 : Int) (p1 : Int) (p2 : Int) : Option (Int × Bool) :=
 (i_OpValid p0).bind fun r1 =>
 (if bnot r1 = true then some true else (i_WordValid p1).bind fun r2 => some (bnot r2)).bind fun g3 =>
 (if g3 = true then some true else (i_WordValid p2).bind fun r4 => some (bnot r4)).bind fun g5 =>
 if g5 = true then
  some (0, false)
 else
  (i_apply p0 p1 p2).bind fun r6 =>
  some (r6, true)

noncomputable def l_FnMachineBin_L1 (r2 : gQuad × Int × Int) (r3 : (List gInstr) × Bool) (r10 : Int) (j1 : Int) (s : Int × gQuad × gMachine) : Option (Flow (Int × gQuad × gMachine) (gQuad × gMachine)) :=
 match s with
 | (s18, s19, s20) =>
 if ilt s18 2 = true then
  (idx ([r10, j1] : List Int) s18).bind fun v23 =>
  (idx ([r2.1.A, r2.1.B] : List Int) s18).bind fun v24 =>
  if ilt v24 r2.2.1 = true then
   (idx ([8, 9, 18, 19, 20, 21, 22, 23] : List Int) v24).bind fun v25 =>
   (idx s20.Regs v25).bind fun v26 =>
   (setx s20.Regs v25 v23).bind fun l27 =>
   some (.next (iadd .i64 s18 1, s19, (⟨l27, s20.Pc, s20.Mem⟩ : gMachine)))
  else
   (idx s20.Mem (isub .i64 (iadd .i64 (ilen r3.1) v24) r2.2.1)).bind fun v28 =>
   (setx s20.Mem (isub .i64 (iadd .i64 (ilen r3.1) v24) r2.2.1) v23).bind fun l29 =>
   some (.next (iadd .i64 s18 1, s19, (⟨s20.Regs, s20.Pc, l29⟩ : gMachine)))
 else
  some (.done (s19, s20))

noncomputable def l_FnMachineBin (p0 : (List Int)) (p1 : (List Int)) : Option (Bool) :=
 (if igt (ilen p0) 1048576 = true then some true else some (igt (ilen p1) 1048576)).bind fun g1 =>
 if g1 = true then
  some true
 else
  (s_DrawQuadInstrs p0).bind fun r2 =>
  (i_QuadInstrs r2.1 r2.2.1 r2.2.2).bind fun r3 =>
  (s_QuadInstrs r2.1 r2.2.1 r2.2.2).bind fun r4 =>
  (if bneb r3.2 r4.2 = true then some true else (l_sameInstrs r3.1 r4.1).bind fun r5 => some (bnot r5)).bind fun g6 =>
  (if g6 = true then some true else some (bnot r3.2)).bind fun g7 =>
  if g7 = true then
   (if beqb r3.2 r4.2 = true then (l_sameInstrs r3.1 r4.1).bind fun r8 => some r8 else some false).bind fun g9 =>
   some g9
  else
   if ine r2.1.Op 3 = true then
    some true
   else
    (i_Wrap (isub .i64 (imul .i64 (ilen p1) 7919) 5000)).bind fun r10 =>
    (remx (ilen p1) 11).bind fun v11 =>
    (if ieq r2.1.A r2.1.B = true then
     some r10
    else
     some (isub .i64 0 v11)).bind fun j1 =>
    (l_wordsOf_o r3.1).bind fun r13 =>
    (appzx 8 r13 12 0).bind fun l14 =>
    (makex 8 32 0).bind fun l15 =>
    (idx l15 2).bind fun v16 =>
    (setx l15 2 (imul .i64 4 (ilen r3.1))).bind fun l17 =>
    (loopM (l_FnMachineBin_L1 r2 r3 r10 j1) (0, r2.1, (⟨l17, 0, l14⟩ : gMachine))).bind fun e2 =>
    match e2 with
    | (y21, y22) =>
     (i_MachineRun_o2 y22 (ilen r3.1)).bind fun r30 =>
     (i_Apply y21.N r10 j1).bind fun r31 =>
     (if bnot r31.2 = true then some true else some (ine r30.2.1 (ilen r3.1))).bind fun g32 =>
     (if g32 = true then some true else some (ine r30.2.2 1)).bind fun g33 =>
     if g33 = true then
      some false
     else
      if ilt y21.Dst r2.2.1 = true then
       (idx ([8, 9, 18, 19, 20, 21, 22, 23] : List Int) y21.Dst).bind fun v34 =>
       (idx r30.1.Regs v34).bind fun v35 =>
       some (ieq v35 r31.1)
      else
       (idx r30.1.Mem (isub .i64 (iadd .i64 (ilen r3.1) y21.Dst) r2.2.1)).bind fun v36 =>
       some (ieq v36 r31.1)

end Go.Abs
