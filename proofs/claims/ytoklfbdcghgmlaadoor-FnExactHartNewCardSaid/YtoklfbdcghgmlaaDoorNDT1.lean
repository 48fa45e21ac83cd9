/- The contracts of functions of the program, part 1: each computes what its mirror computes. No conditions. -/
import Derived.Test.YtoklfbdcghgmlaaDoorNDT0
set_option linter.unusedSimpArgs false
set_option linter.unusedVariables false
set_option maxRecDepth 20000
set_option maxHeartbeats 4000000
namespace Go.Proofs.YtoklfbdcghgmlaaDoor
open Go Go.Abs Go.RowKit

theorem c132 {p0 : Int} {p1 : Int} {p2 : Int} {pf0 : Int} {r : Int} (H : i_InstrEncode_1 p0 p1 p2 pf0 = some r) : APure Tryd.prog G 132 [.int .i64 p0, .int .i64 p1, .int .i64 p2, .fptr [.int .i64 pf0] 0] (.int .i64 r) := by
 refine APure_fn (fun N0 => ?_) (by simp)
 refine ACalls_fn tok Tryd.func132 (by kernel_rfl) rfl Tryd.ntmps132 Tryd.results132 rfl ?_
 simp only [argsA, Nat.reduceAdd, hp_next]
 unfold i_InstrEncode_1 at H
 refine AWP_sr tok [] [0, 1, 2, 3] (fun a σ => a = [(0, .int .i64 p0), (1, .int .i64 p1), (2, .int .i64 p2), (3, .fptr [.int .i64 pf0] 0)] ∧ σ = hp E0 [] (N0 + 1)) (fun K hK => ?_) ?_
 ·
  skip
  simp -dsimp -implicitDefEqProofs (maxDischargeDepth := 6)
  exact hK _ _ ⟨rfl, rfl⟩
 rintro a σ ⟨rfl, rfl⟩
 obtain ⟨r1, hr1, H⟩ := bindE H
 obtain ⟨v2, hv2, H⟩ := bindE H
 refine AWP_sr tok [] [7] (fun a σ => a = [(7, .int .i64 v2)] ∧ σ = hp E0 [] (N0 + 8)) (fun K hK => ?_) ?_
 ·
  skip
  simp -dsimp -implicitDefEqProofs (maxDischargeDepth := 6) [hv2]
  refine (c127 hr1).app ?_; try simp -dsimp -implicitDefEqProofs (maxDischargeDepth := 6) [hv2]
  exact hK _ _ ⟨rfl, rfl⟩
 rintro a σ ⟨rfl, rfl⟩
 replace H := Option.some.inj H; subst H
 refine AWP_kp [7] [(7, .int .i64 v2)] rfl ?_
 refine AWP_ret ?_
 exact ⟨[.int .i64 v2], by simp, 4, by simp [encL_nil]⟩
theorem c77 {p0 : gInstr} {r : Int × Bool} (H : i_InstrEncode p0 = some r) : APure Tryd.prog G 77 [.agg [.int .i64 p0.Op, .int .i64 p0.Rd, .int .i64 p0.Rs, .int .i64 p0.Rt, .int .i64 p0.Imm]] (.tup [.int .i64 r.1, .bool r.2]) := by
 refine APure_fn (fun N0 => ?_) (by simp)
 refine ACalls_fn tok Tryd.func77 (by kernel_rfl) rfl Tryd.ntmps77 Tryd.results77 rfl ?_
 simp only [argsA, Nat.reduceAdd, hp_next]
 unfold i_InstrEncode at H
 refine AWP_sr tok [0] [1] (fun a σ => a = [(1, .fptr [.int .i64 p0.Op, .int .i64 p0.Rd, .int .i64 p0.Rs, .int .i64 p0.Rt, .int .i64 p0.Imm] 0)] ∧ σ = hp E0 [] (N0 + 3)) (fun K hK => ?_) ?_
 ·
  skip
  simp -dsimp -implicitDefEqProofs (maxDischargeDepth := 6)
  exact hK _ _ ⟨rfl, rfl⟩
 rintro a σ ⟨rfl, rfl⟩
 refine AWP_sq [1] fun K1 hK1 => ?_
 obtain ⟨r1, hr1, H⟩ := bindE H
 refine AWP_sr tok [] [1, 10] (fun a σ => a = [(1, .fptr [.int .i64 p0.Op, .int .i64 p0.Rd, .int .i64 p0.Rs, .int .i64 p0.Rt, .int .i64 p0.Imm] 0), (10, .bool (bnot r1))] ∧ σ = hp E0 [] (N0 + 6)) (fun K hK => ?_) ?_
 ·
  skip
  simp -dsimp -implicitDefEqProofs (maxDischargeDepth := 6)
  refine (c44 hr1).app ?_; try simp -dsimp -implicitDefEqProofs (maxDischargeDepth := 6)
  exact hK _ _ ⟨rfl, rfl⟩
 rintro a σ ⟨rfl, rfl⟩
 refine AWP_cond (bnot r1) rfl (fun C1 => ?_) (fun C1 => ?_)
 ·
  replace H := ifT C1 H
  refine AWP_sr tok [] [2, 3] (fun a σ => a = [(2, .int .i64 0), (3, .bool false)] ∧ σ = hp E0 [] (N0 + 8)) (fun K hK => ?_) ?_
  ·
   skip
   simp -dsimp -implicitDefEqProofs (maxDischargeDepth := 6)
   exact hK _ _ ⟨rfl, rfl⟩
  rintro a σ ⟨rfl, rfl⟩
  replace H := Option.some.inj H; subst H
  refine AWP_kp [2, 3] [(2, .int .i64 0), (3, .bool false)] rfl ?_
  refine AWP_ret ?_
  exact ⟨[.int .i64 0, .bool false], by simp, 4, by simp [encL_nil]⟩
 ·
  replace H := ifF C1 H
  refine AWP_skip ?_
  show K1 _ _
  refine keepE (l := [1]) (x := [(1, .fptr [.int .i64 p0.Op, .int .i64 p0.Rd, .int .i64 p0.Rs, .int .i64 p0.Rt, .int .i64 p0.Imm] 0)]) rfl fun a' ha => ?_
  refine hK1 _ _ ?_; rw [ha]
  refine Rc.mk ?_
  obtain ⟨v2, hv2, H⟩ := bindE H
  refine AWP_sr tok [] [1, 4] (fun a σ => a = [(1, .fptr [.int .i64 p0.Op, .int .i64 p0.Rd, .int .i64 p0.Rs, .int .i64 p0.Rt, .int .i64 p0.Imm] 0), (4, .ptr (N0 + 11) 0 0)] ∧ σ = hp E0 [(N0 + 11, some ⟨141, 4, [[.str v2.name, .int .i64 v2.opcode, .int .i64 v2.funct3, .int .i64 v2.funct7]]⟩)] (N0 + 13)) (fun K hK => ?_) ?_
  ·
   skip
   simp -dsimp -implicitDefEqProofs (maxDischargeDepth := 6) [gx142 hv2]
   exact hK _ _ ⟨rfl, rfl⟩
  rintro a σ ⟨rfl, rfl⟩
  obtain ⟨r3, hr3, H⟩ := bindE H
  refine AWP_sr tok [] [1, 4, 5] (fun a σ => a = [(1, .fptr [.int .i64 p0.Op, .int .i64 p0.Rd, .int .i64 p0.Rs, .int .i64 p0.Rt, .int .i64 p0.Imm] 0), (4, .ptr (N0 + 11) 0 0), (5, .ptr (N0 + 16) 0 0)] ∧ σ = hp E0 [(N0 + 11, some ⟨141, 4, [[.str v2.name, .int .i64 v2.opcode, .int .i64 v2.funct3, .int .i64 v2.funct7]]⟩), (N0 + 16, some ⟨3, 1, [[.int .i64 r3]]⟩)] (N0 + 18)) (fun K hK => ?_) ?_
  ·
   skip
   simp -dsimp -implicitDefEqProofs (maxDischargeDepth := 6)
   refine (c128 hr3).app ?_; try simp -dsimp -implicitDefEqProofs (maxDischargeDepth := 6)
   exact hK _ _ ⟨rfl, rfl⟩
  rintro a σ ⟨rfl, rfl⟩
  refine AWP_sr tok [] [1, 4, 6] (fun a σ => a = [(1, .fptr [.int .i64 p0.Op, .int .i64 p0.Rd, .int .i64 p0.Rs, .int .i64 p0.Rt, .int .i64 p0.Imm] 0), (4, .ptr (N0 + 11) 0 0), (6, .clo 132 [] [.ptr (N0 + 16) 0 0])] ∧ σ = hp E0 [(N0 + 11, some ⟨141, 4, [[.str v2.name, .int .i64 v2.opcode, .int .i64 v2.funct3, .int .i64 v2.funct7]]⟩), (N0 + 16, some ⟨3, 1, [[.int .i64 r3]]⟩)] (N0 + 20)) (fun K hK => ?_) ?_
  ·
   skip
   simp -dsimp -implicitDefEqProofs (maxDischargeDepth := 6)
   exact hK _ _ ⟨rfl, rfl⟩
  rintro a σ ⟨rfl, rfl⟩
  obtain ⟨v4, hv4, H⟩ := bindE H
  obtain ⟨v5, hv5, H⟩ := bindE H
  obtain ⟨v6, hv6, H⟩ := bindE H
  refine AWP_sr tok [] [1, 4, 6, 7] (fun a σ => a = [(1, .fptr [.int .i64 p0.Op, .int .i64 p0.Rd, .int .i64 p0.Rs, .int .i64 p0.Rt, .int .i64 p0.Imm] 0), (4, .ptr (N0 + 11) 0 0), (6, .clo 132 [] [.ptr (N0 + 16) 0 0]), (7, .int .i64 (ior .i64 (ior .i64 (ior .i64 v4 v5) v6) v2.opcode))] ∧ σ = hp E0 [(N0 + 11, some ⟨141, 4, [[.str v2.name, .int .i64 v2.opcode, .int .i64 v2.funct3, .int .i64 v2.funct7]]⟩), (N0 + 16, some ⟨3, 1, [[.int .i64 r3]]⟩)] (N0 + 35)) (fun K hK => ?_) ?_
  ·
   skip
   simp -dsimp -implicitDefEqProofs (maxDischargeDepth := 6) [hv4, hv5, hv6]
   exact hK _ _ ⟨rfl, rfl⟩
  rintro a σ ⟨rfl, rfl⟩
  refine AWP_sq [4] fun K2 hK2 => ?_
  obtain ⟨r7, hr7, H⟩ := bindE H
  refine AWP_sr tok [] [1, 4, 6, 7, 36] (fun a σ => a = [(1, .fptr [.int .i64 p0.Op, .int .i64 p0.Rd, .int .i64 p0.Rs, .int .i64 p0.Rt, .int .i64 p0.Imm] 0), (4, .ptr (N0 + 11) 0 0), (6, .clo 132 [] [.ptr (N0 + 16) 0 0]), (7, .int .i64 (ior .i64 (ior .i64 (ior .i64 v4 v5) v6) v2.opcode)), (36, .int .u8 r7)] ∧ σ = hp E0 [(N0 + 11, some ⟨141, 4, [[.str v2.name, .int .i64 v2.opcode, .int .i64 v2.funct3, .int .i64 v2.funct7]]⟩), (N0 + 16, some ⟨3, 1, [[.int .i64 r3]]⟩)] (N0 + 38)) (fun K hK => ?_) ?_
  ·
   skip
   simp -dsimp -implicitDefEqProofs (maxDischargeDepth := 6)
   refine (c86 hr7).app ?_; try simp -dsimp -implicitDefEqProofs (maxDischargeDepth := 6)
   exact hK _ _ ⟨rfl, rfl⟩
  rintro a σ ⟨rfl, rfl⟩
  refine AWP_block (AWP_thenB ?_)
  refine AWP_sr tok [] [1, 4, 6, 7, 36, 37] (fun a σ => a = [(1, .fptr [.int .i64 p0.Op, .int .i64 p0.Rd, .int .i64 p0.Rs, .int .i64 p0.Rt, .int .i64 p0.Imm] 0), (4, .ptr (N0 + 11) 0 0), (6, .clo 132 [] [.ptr (N0 + 16) 0 0]), (7, .int .i64 (ior .i64 (ior .i64 (ior .i64 v4 v5) v6) v2.opcode)), (36, .int .u8 r7), (37, .bool (ieq r7 82))] ∧ σ = hp E0 [(N0 + 11, some ⟨141, 4, [[.str v2.name, .int .i64 v2.opcode, .int .i64 v2.funct3, .int .i64 v2.funct7]]⟩), (N0 + 16, some ⟨3, 1, [[.int .i64 r3]]⟩)] (N0 + 40)) (fun K hK => ?_) ?_
  ·
   skip
   simp -dsimp -implicitDefEqProofs (maxDischargeDepth := 6)
   exact hK _ _ ⟨rfl, rfl⟩
  rintro a σ ⟨rfl, rfl⟩
  refine AWP_cond (ieq r7 82) rfl (fun C2 => ?_) (fun C2 => ?_)
  ·
   replace H := ifT C2 H
   obtain ⟨v8, hv8, H⟩ := bindE H
   obtain ⟨v9, hv9, H⟩ := bindE H
   refine AWP_sr tok [] [2, 3] (fun a σ => a = [(2, .int .i64 (ior .i64 (ior .i64 v8 (ior .i64 (ior .i64 (ior .i64 v4 v5) v6) v2.opcode)) v9)), (3, .bool true)] ∧ σ = hp E0 [(N0 + 11, some ⟨141, 4, [[.str v2.name, .int .i64 v2.opcode, .int .i64 v2.funct3, .int .i64 v2.funct7]]⟩), (N0 + 16, some ⟨3, 1, [[.int .i64 r3]]⟩)] (N0 + 51)) (fun K hK => ?_) ?_
   ·
    skip
    simp -dsimp -implicitDefEqProofs (maxDischargeDepth := 6) [hv8, hv9]
    exact hK _ _ ⟨rfl, rfl⟩
   rintro a σ ⟨rfl, rfl⟩
   replace H := Option.some.inj H; subst H
   refine AWP_kp [2, 3] [(2, .int .i64 (ior .i64 (ior .i64 v8 (ior .i64 (ior .i64 (ior .i64 v4 v5) v6) v2.opcode)) v9)), (3, .bool true)] rfl ?_
   refine AWP_ret ?_
   exact ⟨[.int .i64 (ior .i64 (ior .i64 v8 (ior .i64 (ior .i64 (ior .i64 v4 v5) v6) v2.opcode)) v9), .bool true], by simp, 4, by simp [encL_nil]⟩
  ·
   replace H := ifF C2 H
   refine AWP_sr tok [] [1, 4, 6, 7, 36, 48] (fun a σ => a = [(1, .fptr [.int .i64 p0.Op, .int .i64 p0.Rd, .int .i64 p0.Rs, .int .i64 p0.Rt, .int .i64 p0.Imm] 0), (4, .ptr (N0 + 11) 0 0), (6, .clo 132 [] [.ptr (N0 + 16) 0 0]), (7, .int .i64 (ior .i64 (ior .i64 (ior .i64 v4 v5) v6) v2.opcode)), (36, .int .u8 r7), (48, .bool (ieq r7 73))] ∧ σ = hp E0 [(N0 + 11, some ⟨141, 4, [[.str v2.name, .int .i64 v2.opcode, .int .i64 v2.funct3, .int .i64 v2.funct7]]⟩), (N0 + 16, some ⟨3, 1, [[.int .i64 r3]]⟩)] (N0 + 42)) (fun K hK => ?_) ?_
   ·
    skip
    simp -dsimp -implicitDefEqProofs (maxDischargeDepth := 6)
    exact hK _ _ ⟨rfl, rfl⟩
   rintro a σ ⟨rfl, rfl⟩
   refine AWP_cond (ieq r7 73) rfl (fun C3 => ?_) (fun C3 => ?_)
   ·
    replace H := ifT C3 H
    obtain ⟨v10, hv10, H⟩ := bindE H
    obtain ⟨r11, hr11, H⟩ := bindE H
    refine AWP_sd tok tokM [] [1] [0, 2, 4, 5, 6, 1, 3, 7, 8, 9] [2, 3] (fun a σ => a = [(2, .int .i64 (ior .i64 (ior .i64 r11 (ior .i64 (ior .i64 (ior .i64 v4 v5) v6) v2.opcode)) v10)), (3, .bool true)] ∧ σ = hp E0 [(N0 + 11, some ⟨141, 4, [[.str v2.name, .int .i64 v2.opcode, .int .i64 v2.funct3, .int .i64 v2.funct7]]⟩), (N0 + 16, some ⟨3, 1, [[.int .i64 r3]]⟩)] (N0 + 52)) (by decide) (fun K hK => ?_) ?_
    ·
     simp only [pickL, nthO_succ, nthO_zero]
     simp -dsimp -implicitDefEqProofs (maxDischargeDepth := 6) [hv10]
     refine (borrow 8 (c132 hr11) (by simp [hv10]) rfl).mono ?_; rintro _ _ ⟨rfl, rfl⟩; try simp -dsimp -implicitDefEqProofs (maxDischargeDepth := 6) [hv10]
     exact hK _ _ ⟨rfl, rfl⟩
    rintro a σ ⟨rfl, rfl⟩
    replace H := Option.some.inj H; subst H
    refine AWP_kp [2, 3] [(2, .int .i64 (ior .i64 (ior .i64 r11 (ior .i64 (ior .i64 (ior .i64 v4 v5) v6) v2.opcode)) v10)), (3, .bool true)] rfl ?_
    refine AWP_ret ?_
    exact ⟨[.int .i64 (ior .i64 (ior .i64 r11 (ior .i64 (ior .i64 (ior .i64 v4 v5) v6) v2.opcode)) v10), .bool true], by simp, 4, by simp [encL_nil]⟩
   ·
    replace H := ifF C3 H
    refine AWP_sr tok [] [1, 4, 6, 7, 36, 58] (fun a σ => a = [(1, .fptr [.int .i64 p0.Op, .int .i64 p0.Rd, .int .i64 p0.Rs, .int .i64 p0.Rt, .int .i64 p0.Imm] 0), (4, .ptr (N0 + 11) 0 0), (6, .clo 132 [] [.ptr (N0 + 16) 0 0]), (7, .int .i64 (ior .i64 (ior .i64 (ior .i64 v4 v5) v6) v2.opcode)), (36, .int .u8 r7), (58, .bool (ieq r7 83))] ∧ σ = hp E0 [(N0 + 11, some ⟨141, 4, [[.str v2.name, .int .i64 v2.opcode, .int .i64 v2.funct3, .int .i64 v2.funct7]]⟩), (N0 + 16, some ⟨3, 1, [[.int .i64 r3]]⟩)] (N0 + 44)) (fun K hK => ?_) ?_
    ·
     skip
     simp -dsimp -implicitDefEqProofs (maxDischargeDepth := 6)
     exact hK _ _ ⟨rfl, rfl⟩
    rintro a σ ⟨rfl, rfl⟩
    refine AWP_cond (ieq r7 83) rfl (fun C4 => ?_) (fun C4 => ?_)
    ·
     replace H := ifT C4 H
     obtain ⟨r12, hr12, H⟩ := bindE H
     obtain ⟨r13, hr13, H⟩ := bindE H
     refine AWP_sr tok [] [2, 3] (fun a σ => a = [(2, .int .i64 (ior .i64 (ior .i64 r12 (ior .i64 (ior .i64 (ior .i64 v4 v5) v6) v2.opcode)) r13)), (3, .bool true)] ∧ σ = hp E0 [(N0 + 11, some ⟨141, 4, [[.str v2.name, .int .i64 v2.opcode, .int .i64 v2.funct3, .int .i64 v2.funct7]]⟩), (N0 + 16, some ⟨3, 1, [[.int .i64 r3]]⟩)] (N0 + 53)) (fun K hK => ?_) ?_
     ·
      skip
      simp -dsimp -implicitDefEqProofs (maxDischargeDepth := 6)
      refine (borrow 8 (c132 hr12) (by simp []) rfl).mono ?_; rintro _ _ ⟨rfl, rfl⟩; try simp -dsimp -implicitDefEqProofs (maxDischargeDepth := 6)
      refine (borrow 8 (c132 hr13) (by simp []) rfl).mono ?_; rintro _ _ ⟨rfl, rfl⟩; try simp -dsimp -implicitDefEqProofs (maxDischargeDepth := 6)
      exact hK _ _ ⟨rfl, rfl⟩
     rintro a σ ⟨rfl, rfl⟩
     replace H := Option.some.inj H; subst H
     refine AWP_kp [2, 3] [(2, .int .i64 (ior .i64 (ior .i64 r12 (ior .i64 (ior .i64 (ior .i64 v4 v5) v6) v2.opcode)) r13)), (3, .bool true)] rfl ?_
     refine AWP_ret ?_
     exact ⟨[.int .i64 (ior .i64 (ior .i64 r12 (ior .i64 (ior .i64 (ior .i64 v4 v5) v6) v2.opcode)) r13), .bool true], by simp, 4, by simp [encL_nil]⟩
    ·
     replace H := ifF C4 H
     refine AWP_sr tok [] [1, 4, 6, 7, 36, 67] (fun a σ => a = [(1, .fptr [.int .i64 p0.Op, .int .i64 p0.Rd, .int .i64 p0.Rs, .int .i64 p0.Rt, .int .i64 p0.Imm] 0), (4, .ptr (N0 + 11) 0 0), (6, .clo 132 [] [.ptr (N0 + 16) 0 0]), (7, .int .i64 (ior .i64 (ior .i64 (ior .i64 v4 v5) v6) v2.opcode)), (36, .int .u8 r7), (67, .bool (ieq r7 66))] ∧ σ = hp E0 [(N0 + 11, some ⟨141, 4, [[.str v2.name, .int .i64 v2.opcode, .int .i64 v2.funct3, .int .i64 v2.funct7]]⟩), (N0 + 16, some ⟨3, 1, [[.int .i64 r3]]⟩)] (N0 + 46)) (fun K hK => ?_) ?_
     ·
      skip
      simp -dsimp -implicitDefEqProofs (maxDischargeDepth := 6)
      exact hK _ _ ⟨rfl, rfl⟩
     rintro a σ ⟨rfl, rfl⟩
     refine AWP_cond (ieq r7 66) rfl (fun C5 => ?_) (fun C5 => ?_)
     ·
      replace H := ifT C5 H
      obtain ⟨r14, hr14, H⟩ := bindE H
      obtain ⟨r15, hr15, H⟩ := bindE H
      obtain ⟨r16, hr16, H⟩ := bindE H
      obtain ⟨r17, hr17, H⟩ := bindE H
      refine AWP_sr tok [] [2, 3] (fun a σ => a = [(2, .int .i64 (ior .i64 (ior .i64 (ior .i64 (ior .i64 r14 r15) (ior .i64 (ior .i64 (ior .i64 v4 v5) v6) v2.opcode)) r16) r17)), (3, .bool true)] ∧ σ = hp E0 [(N0 + 11, some ⟨141, 4, [[.str v2.name, .int .i64 v2.opcode, .int .i64 v2.funct3, .int .i64 v2.funct7]]⟩), (N0 + 16, some ⟨3, 1, [[.int .i64 r3]]⟩)] (N0 + 61)) (fun K hK => ?_) ?_
      ·
       skip
       simp -dsimp -implicitDefEqProofs (maxDischargeDepth := 6)
       refine (borrow 8 (c132 hr14) (by simp []) rfl).mono ?_; rintro _ _ ⟨rfl, rfl⟩; try simp -dsimp -implicitDefEqProofs (maxDischargeDepth := 6)
       refine (borrow 8 (c132 hr15) (by simp []) rfl).mono ?_; rintro _ _ ⟨rfl, rfl⟩; try simp -dsimp -implicitDefEqProofs (maxDischargeDepth := 6)
       refine (borrow 8 (c132 hr16) (by simp []) rfl).mono ?_; rintro _ _ ⟨rfl, rfl⟩; try simp -dsimp -implicitDefEqProofs (maxDischargeDepth := 6)
       refine (borrow 8 (c132 hr17) (by simp []) rfl).mono ?_; rintro _ _ ⟨rfl, rfl⟩; try simp -dsimp -implicitDefEqProofs (maxDischargeDepth := 6)
       exact hK _ _ ⟨rfl, rfl⟩
      rintro a σ ⟨rfl, rfl⟩
      replace H := Option.some.inj H; subst H
      refine AWP_kp [2, 3] [(2, .int .i64 (ior .i64 (ior .i64 (ior .i64 (ior .i64 r14 r15) (ior .i64 (ior .i64 (ior .i64 v4 v5) v6) v2.opcode)) r16) r17)), (3, .bool true)] rfl ?_
      refine AWP_ret ?_
      exact ⟨[.int .i64 (ior .i64 (ior .i64 (ior .i64 (ior .i64 r14 r15) (ior .i64 (ior .i64 (ior .i64 v4 v5) v6) v2.opcode)) r16) r17), .bool true], by simp, 4, by simp [encL_nil]⟩
     ·
      replace H := ifF C5 H
      refine AWP_sr tok [] [1, 4, 6, 36, 82] (fun a σ => a = [(1, .fptr [.int .i64 p0.Op, .int .i64 p0.Rd, .int .i64 p0.Rs, .int .i64 p0.Rt, .int .i64 p0.Imm] 0), (4, .ptr (N0 + 11) 0 0), (6, .clo 132 [] [.ptr (N0 + 16) 0 0]), (36, .int .u8 r7), (82, .bool (ieq r7 85))] ∧ σ = hp E0 [(N0 + 11, some ⟨141, 4, [[.str v2.name, .int .i64 v2.opcode, .int .i64 v2.funct3, .int .i64 v2.funct7]]⟩), (N0 + 16, some ⟨3, 1, [[.int .i64 r3]]⟩)] (N0 + 48)) (fun K hK => ?_) ?_
      ·
       skip
       simp -dsimp -implicitDefEqProofs (maxDischargeDepth := 6)
       exact hK _ _ ⟨rfl, rfl⟩
      rintro a σ ⟨rfl, rfl⟩
      refine AWP_cond (ieq r7 85) rfl (fun C6 => ?_) (fun C6 => ?_)
      ·
       replace H := ifT C6 H
       obtain ⟨v18, hv18, H⟩ := bindE H
       obtain ⟨r19, hr19, H⟩ := bindE H
       refine AWP_sy tok tokM [] [1, 5, 7] [0, 2, 3, 4, 6, 7, 1, 5, 8, 9, 10] [(1, [7])] [2, 3] (fun a σ => a = [(2, .int .i64 (ior .i64 (ior .i64 r19 v18) v2.opcode)), (3, .bool true)] ∧ σ = hp E0 [(N0 + 11, some ⟨141, 4, [[.str v2.name, .int .i64 v2.opcode, .int .i64 v2.funct3, .int .i64 v2.funct7]]⟩), (N0 + 16, some ⟨3, 1, [[.int .i64 r3]]⟩)] (N0 + 59)) (by decide) (fun K hK => ?_) ?_
       ·
        simp only [pickL, nthO_succ, nthO_zero]
        simp -dsimp -implicitDefEqProofs (maxDischargeDepth := 6) [hv18]
        refine (borrow 8 (c132 hr19) (by simp [hv18]) rfl).mono ?_; rintro _ _ ⟨rfl, rfl⟩; try simp -dsimp -implicitDefEqProofs (maxDischargeDepth := 6) [hv18]
        exact hK _ _ ⟨rfl, rfl⟩
       rintro a σ ⟨rfl, rfl⟩
       replace H := Option.some.inj H; subst H
       refine AWP_kp [2, 3] [(2, .int .i64 (ior .i64 (ior .i64 r19 v18) v2.opcode)), (3, .bool true)] rfl ?_
       refine AWP_ret ?_
       exact ⟨[.int .i64 (ior .i64 (ior .i64 r19 v18) v2.opcode), .bool true], by simp, 4, by simp [encL_nil]⟩
      ·
       replace H := ifF C6 H
       refine AWP_sr tok [] [1, 4, 6, 93] (fun a σ => a = [(1, .fptr [.int .i64 p0.Op, .int .i64 p0.Rd, .int .i64 p0.Rs, .int .i64 p0.Rt, .int .i64 p0.Imm] 0), (4, .ptr (N0 + 11) 0 0), (6, .clo 132 [] [.ptr (N0 + 16) 0 0]), (93, .bool (ieq r7 74))] ∧ σ = hp E0 [(N0 + 11, some ⟨141, 4, [[.str v2.name, .int .i64 v2.opcode, .int .i64 v2.funct3, .int .i64 v2.funct7]]⟩), (N0 + 16, some ⟨3, 1, [[.int .i64 r3]]⟩)] (N0 + 50)) (fun K hK => ?_) ?_
       ·
        skip
        simp -dsimp -implicitDefEqProofs (maxDischargeDepth := 6)
        exact hK _ _ ⟨rfl, rfl⟩
       rintro a σ ⟨rfl, rfl⟩
       refine AWP_cond (ieq r7 74) rfl (fun C7 => ?_) (fun C7 => ?_)
       ·
        replace H := ifT C7 H
        obtain ⟨v20, hv20, H⟩ := bindE H
        obtain ⟨r21, hr21, H⟩ := bindE H
        obtain ⟨r22, hr22, H⟩ := bindE H
        obtain ⟨r23, hr23, H⟩ := bindE H
        obtain ⟨r24, hr24, H⟩ := bindE H
        refine AWP_sy tok tokM [] [1, 3, 4, 6, 7, 9, 10, 14, 16] [0, 2, 5, 8, 11, 12, 13, 15, 16, 1, 3, 4, 6, 7, 9, 10, 14, 17, 18, 19] [(1, [16]), (3, [16]), (6, [4, 16]), (9, [4, 7, 16])] [2, 3] (fun a σ => a = [(2, .int .i64 (ior .i64 (ior .i64 (ior .i64 (ior .i64 (ior .i64 r21 r22) r23) r24) v20) v2.opcode)), (3, .bool true)] ∧ σ = hp E0 [(N0 + 11, some ⟨141, 4, [[.str v2.name, .int .i64 v2.opcode, .int .i64 v2.funct3, .int .i64 v2.funct7]]⟩), (N0 + 16, some ⟨3, 1, [[.int .i64 r3]]⟩)] (N0 + 70)) (by decide) (fun K hK => ?_) ?_
        ·
         simp only [pickL, nthO_succ, nthO_zero]
         simp -dsimp -implicitDefEqProofs (maxDischargeDepth := 6) [hv20]
         refine (borrow 8 (c132 hr21) (by simp [hv20]) rfl).mono ?_; rintro _ _ ⟨rfl, rfl⟩; try simp -dsimp -implicitDefEqProofs (maxDischargeDepth := 6) [hv20]
         refine (borrow 8 (c132 hr22) (by simp [hv20]) rfl).mono ?_; rintro _ _ ⟨rfl, rfl⟩; try simp -dsimp -implicitDefEqProofs (maxDischargeDepth := 6) [hv20]
         refine (borrow 8 (c132 hr23) (by simp [hv20]) rfl).mono ?_; rintro _ _ ⟨rfl, rfl⟩; try simp -dsimp -implicitDefEqProofs (maxDischargeDepth := 6) [hv20]
         refine (borrow 8 (c132 hr24) (by simp [hv20]) rfl).mono ?_; rintro _ _ ⟨rfl, rfl⟩; try simp -dsimp -implicitDefEqProofs (maxDischargeDepth := 6) [hv20]
         exact hK _ _ ⟨rfl, rfl⟩
        rintro a σ ⟨rfl, rfl⟩
        replace H := Option.some.inj H; subst H
        refine AWP_kp [2, 3] [(2, .int .i64 (ior .i64 (ior .i64 (ior .i64 (ior .i64 (ior .i64 r21 r22) r23) r24) v20) v2.opcode)), (3, .bool true)] rfl ?_
        refine AWP_ret ?_
        exact ⟨[.int .i64 (ior .i64 (ior .i64 (ior .i64 (ior .i64 (ior .i64 r21 r22) r23) r24) v20) v2.opcode), .bool true], by simp, 4, by simp [encL_nil]⟩
       ·
        replace H := ifF C7 H
        refine AWP_skip ?_
        show K2 _ _
        refine keepE (l := [4]) (x := [(4, .ptr (N0 + 11) 0 0)]) rfl fun a' ha => ?_
        refine hK2 _ _ ?_; rw [ha]
        refine Rc.mk ?_
        refine AWP_sr tok [] [2, 3] (fun a σ => a = [(2, .int .i64 v2.opcode), (3, .bool true)] ∧ σ = hp E0 [(N0 + 11, some ⟨141, 4, [[.str v2.name, .int .i64 v2.opcode, .int .i64 v2.funct3, .int .i64 v2.funct7]]⟩), (N0 + 16, some ⟨3, 1, [[.int .i64 r3]]⟩)] (N0 + 54)) (fun K hK => ?_) ?_
        ·
         skip
         simp -dsimp -implicitDefEqProofs (maxDischargeDepth := 6)
         exact hK _ _ ⟨rfl, rfl⟩
        rintro a σ ⟨rfl, rfl⟩
        replace H := Option.some.inj H; subst H
        refine AWP_kp [2, 3] [(2, .int .i64 v2.opcode), (3, .bool true)] rfl ?_
        refine AWP_ret ?_
        exact ⟨[.int .i64 v2.opcode, .bool true], by simp, 4, by simp [encL_nil]⟩
theorem c58 {p0 : Int} {r : Int} (H : i_Wrap p0 = some r) : APure Tryd.prog G 58 [.int .i64 p0] (.int .i64 r) := by
 refine APure_fn (fun N0 => ?_) (by simp)
 refine ACalls_fn tok Tryd.func58 (by kernel_rfl) rfl Tryd.ntmps58 Tryd.results58 rfl ?_
 simp only [argsA, Nat.reduceAdd, hp_next]
 unfold i_Wrap at H
 refine AWP_sr tok [] [0] (fun a σ => a = [(0, .int .i64 p0)] ∧ σ = hp E0 [] (N0 + 1)) (fun K hK => ?_) ?_
 ·
  skip
  simp -dsimp -implicitDefEqProofs (maxDischargeDepth := 6)
  exact hK _ _ ⟨rfl, rfl⟩
 rintro a σ ⟨rfl, rfl⟩
 refine AWP_sr tok [] [2] (fun a σ => a = [(2, .int .i64 (iconv .i64 (iconv .i32 p0)))] ∧ σ = hp E0 [] (N0 + 5)) (fun K hK => ?_) ?_
 ·
  skip
  simp -dsimp -implicitDefEqProofs (maxDischargeDepth := 6)
  exact hK _ _ ⟨rfl, rfl⟩
 rintro a σ ⟨rfl, rfl⟩
 replace H := Option.some.inj H; subst H
 refine AWP_kp [2] [(2, .int .i64 (iconv .i64 (iconv .i32 p0)))] rfl ?_
 refine AWP_ret ?_
 exact ⟨[.int .i64 (iconv .i64 (iconv .i32 p0))], by simp, 4, by simp [encL_nil]⟩
theorem c62 {p0 : (List gInstr)} {r : (List Int) × Bool} (H : i_wordsOf p0 = some r) : APure Tryd.prog G 62 [.fsl (encL rInstr p0)] (.tup [.fsl (encL rI r.1), .bool r.2]) := by
 refine APure_fn (fun N0 => ?_) (by simp)
 refine ACalls_fn tok Tryd.func62 (by kernel_rfl) rfl Tryd.ntmps62 Tryd.results62 rfl ?_
 simp only [argsA, Nat.reduceAdd, hp_next]
 unfold i_wordsOf at H
 refine AWP_sr tok [] [0] (fun a σ => a = [(0, .fsl (encL rInstr p0))] ∧ σ = hp E0 [] (N0 + 2)) (fun K hK => ?_) ?_
 ·
  skip
  simp -dsimp -implicitDefEqProofs (maxDischargeDepth := 6)
  exact hK _ _ ⟨rfl, rfl⟩
 rintro a σ ⟨rfl, rfl⟩
 refine AWP_sr tok [] [0, 4] (fun a σ => a = [(0, .fsl (encL rInstr p0)), (4, .nilsl)] ∧ σ = hp E0 [] (N0 + 3)) (fun K hK => ?_) ?_
 ·
  skip
  simp -dsimp -implicitDefEqProofs (maxDischargeDepth := 6)
  exact hK _ _ ⟨rfl, rfl⟩
 rintro a σ ⟨rfl, rfl⟩
 refine AWP_sq [4] fun K1 hK1 => ?_
 refine AWP_sr tok [] [4, 9, 10, 11] (fun a σ => a = [(4, .nilsl), (9, .fsl (encL rInstr p0)), (10, .int .i64 (ilen p0)), (11, .int .i64 0)] ∧ σ = hp E0 [] (N0 + 6)) (fun K hK => ?_) ?_
 ·
  skip
  simp -dsimp -implicitDefEqProofs (maxDischargeDepth := 6)
  exact hK _ _ ⟨rfl, rfl⟩
 rintro a σ ⟨rfl, rfl⟩
 refine AWP_block (AWP_thenB ?_)
 obtain ⟨e1, hse1, H⟩ := bindE H
 refine AWP_lp [4, 9, 10, 11] (fun s a σ => ∃ M1 o1 : Nat, N0 ≤ M1 ∧ N0 ≤ o1 ∧ o1 < M1 ∧ a = [(4, .sl o1 0 s.2.length), (9, .fsl (encL rInstr p0)), (10, .int .i64 (ilen p0)), (11, .int .i64 s.1)] ∧ σ = hp E0 [(o1, some ⟨3, 1, encL rI s.2⟩)] M1) (fun e x a σ => match e with | .inl s => x = .exit 0 ∧ Rc G 29 N0 (fun a σ => ∃ M2 o2 : Nat, N0 ≤ M2 ∧ N0 ≤ o2 ∧ o2 < M2 ∧ a = [(4, .sl o2 0 s.length)] ∧ σ = hp E0 [(o2, some ⟨3, 1, encL rI s⟩)] M2) (AAct.keep a [4]) σ | .inr s => x = .ret ∧ ∃ vs, resA T σ a [.tmp 2, .tmp 3] = some vs ∧ ∃ d, thawA (fun _ => true) σ d (tupA vs) = .tup [.fsl (encL rI s.1), .bool s.2]) hse1 ?_ ?_ ?_
 ·
  refine Rc.kp [4, 9, 10, 11] [(4, .nilsl), (9, .fsl (encL rInstr p0)), (10, .int .i64 (ilen p0)), (11, .int .i64 0)] rfl ?_
  refine gNilS Rc_ref 4 3 1 [(N0 + 6, some ⟨3, 1, encL rI ([] : List Int)⟩)] [(4, .sl (N0 + 6) 0 ([] : List Int).length), (9, .fsl (encL rInstr p0)), (10, .int .i64 (ilen p0)), (11, .int .i64 0)] (by simp (disch := omega)) (by simp (disch := omega) [encL_nil]) [4, 9, 10, 11] rfl ?_
  exact Rc.fin (AHeap.Sub.refl _) ⟨N0 + 7, (N0 + 6), (by omega), (by omega), (by omega), rfl, rfl⟩
 ·
  clear H hse1
  rintro ⟨s1, s2⟩ fl a σ H ⟨M1, o1, fM1_0, fM1_1, fM1_2, rfl, rfl⟩ K2 O2 hK2 hO2
  unfold i_wordsOf_L1 at H; dsimp only at H
  refine AWP_sr tok [] [4, 9, 10, 11, 12] (fun a σ => a = [(4, .sl o1 0 s2.length), (9, .fsl (encL rInstr p0)), (10, .int .i64 (ilen p0)), (11, .int .i64 s1), (12, .bool (ilt s1 (ilen p0)))] ∧ σ = hp E0 [(o1, some ⟨3, 1, encL rI s2⟩)] (M1 + 1)) (fun K hK => ?_) ?_
  ·
   skip
   simp -dsimp -implicitDefEqProofs (maxDischargeDepth := 6)
   exact hK _ _ ⟨rfl, rfl⟩
  rintro a σ ⟨rfl, rfl⟩
  refine AWP_sq [4, 9, 10, 11] fun K3 hK3 => ?_
  refine AWP_cond (ilt s1 (ilen p0)) rfl (fun C1 => ?_) (fun C1 => ?_)
  ·
   replace H := ifT C1 H
   refine AWP_skip ?_
   show K3 _ _
   refine keepE (l := [4, 9, 10, 11]) (x := [(4, .sl o1 0 s2.length), (9, .fsl (encL rInstr p0)), (10, .int .i64 (ilen p0)), (11, .int .i64 s1)]) rfl fun a' ha => ?_
   refine hK3 _ _ ?_; rw [ha]
   refine Rc.mk ?_
   refine AWP_sq [4, 9, 10, 11] fun K4 hK4 => ?_
   refine AWP_block (AWP_thenB ?_)
   obtain ⟨v4, hv4, H⟩ := bindE H
   refine AWP_sr tok [] [4, 6, 9, 10, 11] (fun a σ => a = [(4, .sl o1 0 s2.length), (6, .ptr (M1 + 3) 0 0), (9, .fsl (encL rInstr p0)), (10, .int .i64 (ilen p0)), (11, .int .i64 s1)] ∧ σ = hp E0 [(o1, some ⟨3, 1, encL rI s2⟩), (M1 + 3, some ⟨47, 5, [[.int .i64 v4.Op, .int .i64 v4.Rd, .int .i64 v4.Rs, .int .i64 v4.Rt, .int .i64 v4.Imm]]⟩)] (M1 + 5)) (fun K hK => ?_) ?_
   ·
    skip
    have e0 := nq (a := o1) (b := M1 + 3) (by omega)
    simp -dsimp -implicitDefEqProofs (maxDischargeDepth := 6) [e0, ix29 hv4]
    exact hK _ _ ⟨rfl, rfl⟩
   rintro a σ ⟨rfl, rfl⟩
   obtain ⟨r5, hr5, H⟩ := bindE H
   refine AWP_sr tok [] [4, 7, 8, 9, 10, 11] (fun a σ => a = [(4, .sl o1 0 s2.length), (7, .int .i64 r5.1), (8, .bool r5.2), (9, .fsl (encL rInstr p0)), (10, .int .i64 (ilen p0)), (11, .int .i64 s1)] ∧ σ = hp E0 [(o1, some ⟨3, 1, encL rI s2⟩), (M1 + 3, some ⟨47, 5, [[.int .i64 v4.Op, .int .i64 v4.Rd, .int .i64 v4.Rs, .int .i64 v4.Rt, .int .i64 v4.Imm]]⟩)] (M1 + 12)) (fun K hK => ?_) ?_
   ·
    skip
    have e0 := nq (a := o1) (b := M1 + 3) (by omega)
    simp -dsimp -implicitDefEqProofs (maxDischargeDepth := 6) [e0]
    refine (c77 hr5).app ?_; try simp -dsimp -implicitDefEqProofs (maxDischargeDepth := 6) [e0]
    exact hK _ _ ⟨rfl, rfl⟩
   rintro a σ ⟨rfl, rfl⟩
   refine AWP_sq [4, 7, 9, 10, 11] fun K5 hK5 => ?_
   refine AWP_sr tok [] [4, 7, 9, 10, 11, 21] (fun a σ => a = [(4, .sl o1 0 s2.length), (7, .int .i64 r5.1), (9, .fsl (encL rInstr p0)), (10, .int .i64 (ilen p0)), (11, .int .i64 s1), (21, .bool (bnot r5.2))] ∧ σ = hp E0 [(o1, some ⟨3, 1, encL rI s2⟩), (M1 + 3, some ⟨47, 5, [[.int .i64 v4.Op, .int .i64 v4.Rd, .int .i64 v4.Rs, .int .i64 v4.Rt, .int .i64 v4.Imm]]⟩)] (M1 + 14)) (fun K hK => ?_) ?_
   ·
    skip
    have e0 := nq (a := o1) (b := M1 + 3) (by omega)
    simp -dsimp -implicitDefEqProofs (maxDischargeDepth := 6) [e0]
    exact hK _ _ ⟨rfl, rfl⟩
   rintro a σ ⟨rfl, rfl⟩
   refine AWP_cond (bnot r5.2) rfl (fun C2 => ?_) (fun C2 => ?_)
   ·
    replace H := ifT C2 H
    refine AWP_sr tok [] [2, 3] (fun a σ => a = [(2, .nilsl), (3, .bool false)] ∧ σ = hp E0 [(o1, some ⟨3, 1, encL rI s2⟩), (M1 + 3, some ⟨47, 5, [[.int .i64 v4.Op, .int .i64 v4.Rd, .int .i64 v4.Rs, .int .i64 v4.Rt, .int .i64 v4.Imm]]⟩)] (M1 + 16)) (fun K hK => ?_) ?_
    ·
     skip
     have e0 := nq (a := o1) (b := M1 + 3) (by omega)
     simp -dsimp -implicitDefEqProofs (maxDischargeDepth := 6) [e0]
     exact hK _ _ ⟨rfl, rfl⟩
    rintro a σ ⟨rfl, rfl⟩
    replace H := Option.some.inj H; subst H
    refine AWP_kp [2, 3] [(2, .nilsl), (3, .bool false)] rfl ?_
    have z0 := nq (a := o1) (b := M1 + 3) (by omega)
    refine AWP_ret (hO2 _ _ _ _ rfl ⟨rfl, ?_⟩)
    exact ⟨[.nilsl, .bool false], by simp [z0], 4, by simp [encL_nil, z0]⟩
   ·
    replace H := ifF C2 H
    refine AWP_skip ?_
    show K5 _ _
    refine keepE (l := [4, 7, 9, 10, 11]) (x := [(4, .sl o1 0 s2.length), (7, .int .i64 r5.1), (9, .fsl (encL rInstr p0)), (10, .int .i64 (ilen p0)), (11, .int .i64 s1)]) rfl fun a' ha => ?_
    refine hK5 _ _ ?_; rw [ha]
    refine Rc.mk ?_
    obtain ⟨r6, hr6, H⟩ := bindE H
    obtain ⟨l7, hl7, H⟩ := bindE H
    have q0 : ∀ σ i, buildSliceA T 24 true i 1 [(0, .int .i64 r6)] σ = some (.fsl (encL rI ([r6] : List Int)), σ) := fun _ _ => rfl
    refine AWP_rt tok [3] [4, 9, 10, 11] (fun a σ => a = [(4, .sl (M1 + 18) 0 l7.length), (9, .fsl (encL rInstr p0)), (10, .int .i64 (ilen p0)), (11, .int .i64 s1)] ∧ σ = hp E0 [(M1 + 3, some ⟨47, 5, [[.int .i64 v4.Op, .int .i64 v4.Rd, .int .i64 v4.Rs, .int .i64 v4.Rt, .int .i64 v4.Imm]]⟩), (M1 + 18, some ⟨3, 1, encL rI l7⟩)] (M1 + 20)) (fun K hK => ?_) ?_
    ·
     skip
     have e0 := nq (a := o1) (b := M1 + 3) (by omega)
     have e1 := nq (a := o1) (b := M1 + 18) (by omega)
     simp -dsimp -implicitDefEqProofs (maxDischargeDepth := 6) [e0, e1, q0, app24 hl7]
     refine (c58 hr6).app ?_; try simp -dsimp -implicitDefEqProofs (maxDischargeDepth := 6) [e0, e1, q0, app24 hl7]
     exact hK _ _ ⟨rfl, rfl⟩
    rintro a σ ⟨ha, rfl⟩
    refine hK4 _ _ ?_; rw [ha]
    refine Rc.mk ?_
    refine AWP_rt tok [] [4, 9, 10, 11] (fun a σ => a = [(4, .sl (M1 + 18) 0 l7.length), (9, .fsl (encL rInstr p0)), (10, .int .i64 (ilen p0)), (11, .int .i64 (iadd .i64 s1 1))] ∧ σ = hp E0 [(M1 + 3, some ⟨47, 5, [[.int .i64 v4.Op, .int .i64 v4.Rd, .int .i64 v4.Rs, .int .i64 v4.Rt, .int .i64 v4.Imm]]⟩), (M1 + 18, some ⟨3, 1, encL rI l7⟩)] (M1 + 22)) (fun K hK => ?_) ?_
    ·
     skip
     simp -dsimp -implicitDefEqProofs (maxDischargeDepth := 6)
     exact hK _ _ ⟨rfl, rfl⟩
    rintro a σ ⟨ha, rfl⟩
    replace H := Option.some.inj H; subst H
    refine hK2 _ _ _ rfl ?_; rw [ha]
    exact Rc.fin (AHeap.Sub.trans (hp_skip (AHeap.Sub.refl _)) (hp_drop rfl (by simp; try omega))) ⟨M1 + 22, (M1 + 18), (by omega), (by omega), (by omega), rfl, rfl⟩
  ·
   replace H := ifF C1 H
   replace H := Option.some.inj H; subst H
   refine AWP_exit (hO2 _ _ _ _ rfl ⟨rfl, ?_⟩)
   refine Rc.rw (l := [4]) (X := [(4, .sl o1 0 s2.length)]) rfl ?_
   exact Rc.fin (AHeap.Sub.refl _) ⟨M1 + 1, o1, (by omega), (by omega), (by omega), rfl, rfl⟩
 ·
  intro x a σ hx
  rcases e1 with y3 | r0
  ·
   obtain ⟨rfl, b, τ, hr, M2, o2, fM2_0, fM2_1, fM2_2, rfl, rfl⟩ := hx
   dsimp only at H
   show K1 _ _
   refine hK1 _ _ (Rc_ref hr ?_)
   refine Rc.mk ?_
   refine AWP_sr tok [] [2, 3] (fun a σ => a = [(2, .sl o2 0 y3.length), (3, .bool true)] ∧ σ = hp E0 [(o2, some ⟨3, 1, encL rI y3⟩)] (M2 + 3)) (fun K hK => ?_) ?_
   ·
    skip
    simp -dsimp -implicitDefEqProofs (maxDischargeDepth := 6)
    exact hK _ _ ⟨rfl, rfl⟩
   rintro a σ ⟨rfl, rfl⟩
   replace H := Option.some.inj H; subst H
   refine AWP_kp [2, 3] [(2, .sl o2 0 y3.length), (3, .bool true)] rfl ?_
   refine AWP_ret ?_
   exact ⟨[.sl o2 0 y3.length, .bool true], by simp, 4, by simp [encL_nil]⟩
  ·
   obtain ⟨rfl, hx2⟩ := hx
   dsimp only at H
   replace H := Option.some.inj H; subst H; exact hx2
theorem c17 {p0 : (List gInstr)} {r : gMachine × Bool} (H : i_HartNew p0 = some r) : APure Tryd.prog G 17 [.fsl (encL rInstr p0)] (.tup [.agg [.fsl (encL rI r.1.Regs), .int .i64 r.1.Pc, .fsl (encL rI r.1.Mem)], .bool r.2]) := by
 refine APure_fn (fun N0 => ?_) (by simp)
 refine ACalls_fn tok Tryd.func17 (by kernel_rfl) rfl Tryd.ntmps17 Tryd.results17 rfl ?_
 simp only [argsA, Nat.reduceAdd, hp_next]
 unfold i_HartNew at H
 refine AWP_sr tok [] [0, 2] (fun a σ => a = [(0, .fsl (encL rInstr p0)), (2, .ptr N0 0 0)] ∧ σ = hp E0 [(N0, some ⟨26, 3, [[.nilsl, .int .i64 0, .nilsl]]⟩)] (N0 + 2)) (fun K hK => ?_) ?_
 ·
  skip
  simp -dsimp -implicitDefEqProofs (maxDischargeDepth := 6)
  exact hK _ _ ⟨rfl, rfl⟩
 rintro a σ ⟨rfl, rfl⟩
 refine gWkC AWP_ref (o := N0) (ob := ⟨26, 3, [[.nilsl, .int .i64 0, .nilsl]]⟩) (row := [.nilsl, .int .i64 0, .nilsl]) (r := 0) (i := 0) [(N0, some ⟨26, 3, [[.fsl [], .int .i64 0, .nilsl]]⟩)] (by simp (disch := omega)) rfl rfl (by simp (disch := omega)) (by simp (disch := omega) [encL_nil, List.set_set, app_set]) ?_
 refine gWkC AWP_ref (o := N0) (ob := ⟨26, 3, [[.fsl [], .int .i64 0, .nilsl]]⟩) (row := [.fsl [], .int .i64 0, .nilsl]) (r := 0) (i := 2) [(N0, some ⟨26, 3, [[.fsl [], .int .i64 0, .fsl []]]⟩)] (by simp (disch := omega)) rfl rfl (by simp (disch := omega)) (by simp (disch := omega) [encL_nil, List.set_set, app_set]) ?_
 obtain ⟨r1, hr1, H⟩ := bindE H
 refine AWP_sr tok [] [2, 4, 5] (fun a σ => a = [(2, .ptr N0 0 0), (4, .fsl (encL rI r1.1)), (5, .bool r1.2)] ∧ σ = hp E0 [(N0, some ⟨26, 3, [[.fsl [], .int .i64 0, .fsl []]]⟩)] (N0 + 9)) (fun K hK => ?_) ?_
 ·
  skip
  simp -dsimp -implicitDefEqProofs (maxDischargeDepth := 6)
  refine (c62 hr1).app ?_; try simp -dsimp -implicitDefEqProofs (maxDischargeDepth := 6)
  exact hK _ _ ⟨rfl, rfl⟩
 rintro a σ ⟨rfl, rfl⟩
 refine AWP_sq [2, 4] fun K1 hK1 => ?_
 obtain ⟨g2, hg2, H⟩ := bindE H
 refine AWP_sr tok [] [2, 4, 20] (fun a σ => a = [(2, .ptr N0 0 0), (4, .fsl (encL rI r1.1)), (20, .bool g2)] ∧ σ = hp E0 [(N0, some ⟨26, 3, [[.fsl [], .int .i64 0, .fsl []]]⟩)] (N0 + 18)) (fun K hK => ?_) ?_
 ·
  skip
  simp -dsimp -implicitDefEqProofs (maxDischargeDepth := 6)
  cases hbg2 : bnot r1.2
  ·
   replace hg2 := ifF hbg2 hg2
   replace hg2 := Option.some.inj hg2; subst hg2
   try simp -dsimp -implicitDefEqProofs (maxDischargeDepth := 6) [hbg2]
   exact hK _ _ ⟨rfl, rfl⟩
  ·
   replace hg2 := ifT hbg2 hg2
   replace hg2 := Option.some.inj hg2; subst hg2
   try simp -dsimp -implicitDefEqProofs (maxDischargeDepth := 6) [hbg2]
   exact hK _ _ ⟨rfl, rfl⟩
 rintro a σ ⟨rfl, rfl⟩
 refine AWP_cond g2 rfl (fun C1 => ?_) (fun C1 => ?_)
 ·
  replace H := ifT C1 H
  refine AWP_sr tok [] [2, 3] (fun a σ => a = [(2, .ptr N0 0 0), (3, .bool false)] ∧ σ = hp E0 [(N0, some ⟨26, 3, [[.fsl [], .int .i64 0, .fsl []]]⟩)] (N0 + 21)) (fun K hK => ?_) ?_
  ·
   skip
   simp -dsimp -implicitDefEqProofs (maxDischargeDepth := 6)
   exact hK _ _ ⟨rfl, rfl⟩
  rintro a σ ⟨rfl, rfl⟩
  replace H := Option.some.inj H; subst H
  refine AWP_kp [2, 3] [(2, .ptr N0 0 0), (3, .bool false)] rfl ?_
  refine AWP_ret ?_
  exact ⟨[.agg [.fsl [], .int .i64 0, .fsl []], .bool false], by simp, 4, by simp [encL_nil]⟩
 ·
  replace H := ifF C1 H
  refine AWP_skip ?_
  show K1 _ _
  refine keepE (l := [2, 4]) (x := [(2, .ptr N0 0 0), (4, .fsl (encL rI r1.1))]) rfl fun a' ha => ?_
  refine hK1 _ _ ?_; rw [ha]
  refine Rc.mk ?_
  obtain ⟨l3, hl3, H⟩ := bindE H
  obtain ⟨l4, hl4, H⟩ := bindE H
  obtain ⟨l5, hl5, H⟩ := bindE H
  have q0 : ∀ σ i, buildSliceA T 24 false i 1 [(0, .int .i64 0)] σ = some (.sl i 0 (List.length l3), σ.put i ⟨3, 1, encL rI l3⟩) := by rw [← Option.some.inj hl3]; intro _ _; rfl
  refine AWP_sd tok tokM [] [0, 1, 3, 5, 6] [2, 1, 3, 0, 4, 5, 6] [2, 6] (fun a σ => a = [(2, .ptr N0 0 0), (6, .ptr (N0 + 23) 0 0)] ∧ σ = hp E0 [(N0, some ⟨26, 3, [[.fsl [], .int .i64 0, .fsl []]]⟩), (N0 + 21, some ⟨3, 1, encL rI l4⟩), (N0 + 18, some ⟨3, 1, encL rI l5⟩), (N0 + 23, some ⟨26, 3, [[.sl (N0 + 18) 0 l5.length, .int .i64 4, .sl (N0 + 21) 0 l4.length]]⟩)] (N0 + 25)) (by decide) (fun K hK => ?_) ?_
  ·
   simp only [pickL, nthO_succ, nthO_zero]
   simp -dsimp -implicitDefEqProofs (maxDischargeDepth := 6) [q0, app24 hl4, mak24 hl5]
   exact hK _ _ ⟨rfl, rfl⟩
  rintro a σ ⟨rfl, rfl⟩
  obtain ⟨v6, hv6, H⟩ := bindE H
  obtain ⟨l7, hl7, H⟩ := bindE H
  refine AWP_sr tok [] [2, 6] (fun a σ => a = [(2, .ptr N0 0 0), (6, .ptr (N0 + 23) 0 0)] ∧ σ = hp E0 [(N0, some ⟨26, 3, [[.fsl [], .int .i64 0, .fsl []]]⟩), (N0 + 21, some ⟨3, 1, encL rI l4⟩), (N0 + 18, some ⟨3, 1, encL rI l7⟩), (N0 + 23, some ⟨26, 3, [[.sl (N0 + 18) 0 l5.length, .int .i64 4, .sl (N0 + 21) 0 l4.length]]⟩)] (N0 + 33)) (fun K hK => ?_) ?_
  ·
   skip
   simp -dsimp -implicitDefEqProofs (maxDischargeDepth := 6) [ixo24 hv6, (show _[2]? = some v6 from (idx_lt3 hv6).2.2), (show List.set _ 2 _ = l7 from (setx_iff.1 hl7).2.symm)]
   exact hK _ _ ⟨rfl, rfl⟩
  rintro a σ ⟨rfl, rfl⟩
  try rw [← setx_len hl7]
  obtain ⟨l8, hl8, H⟩ := bindE H
  refine AWP_sr tok [] [2, 6] (fun a σ => a = [(2, .ptr N0 0 0), (6, .ptr (N0 + 23) 0 0)] ∧ σ = hp E0 [(N0, some ⟨26, 3, [[.fsl [], .int .i64 0, .fsl []]]⟩), (N0 + 18, some ⟨3, 1, encL rI l7⟩), (N0 + 23, some ⟨26, 3, [[.sl (N0 + 18) 0 l7.length, .int .i64 4, .sl (N0 + 35) 0 l8.length]]⟩), (N0 + 35, some ⟨3, 1, encL rI l8⟩)] (N0 + 38)) (fun K hK => ?_) ?_
  ·
   skip
   simp -dsimp -implicitDefEqProofs (maxDischargeDepth := 6) [appz24_3 hl8]
   exact hK _ _ ⟨rfl, rfl⟩
  rintro a σ ⟨rfl, rfl⟩
  refine AWP_sr tok [] [2, 3] (fun a σ => a = [(2, .ptr N0 0 0), (3, .bool true)] ∧ σ = hp E0 [(N0, some ⟨26, 3, [[.sl (N0 + 18) 0 l7.length, .int .i64 4, .sl (N0 + 35) 0 l8.length]]⟩), (N0 + 18, some ⟨3, 1, encL rI l7⟩), (N0 + 23, some ⟨26, 3, [[.sl (N0 + 18) 0 l7.length, .int .i64 4, .sl (N0 + 35) 0 l8.length]]⟩), (N0 + 35, some ⟨3, 1, encL rI l8⟩)] (N0 + 41)) (fun K hK => ?_) ?_
  ·
   skip
   simp -dsimp -implicitDefEqProofs (maxDischargeDepth := 6)
   exact hK _ _ ⟨rfl, rfl⟩
  rintro a σ ⟨rfl, rfl⟩
  replace H := Option.some.inj H; subst H
  refine AWP_kp [2, 3] [(2, .ptr N0 0 0), (3, .bool true)] rfl ?_
  refine AWP_ret ?_
  exact ⟨[.agg [.sl (N0 + 18) 0 l7.length, .int .i64 4, .sl (N0 + 35) 0 l8.length], .bool true], by simp, 4, by simp [encL_nil]⟩
theorem c39 {p0 : (List Int)} {p1 : (List Int)} {r : Bool} (H : l_eqIntS p0 p1 = some r) : APure Tryd.prog G 39 [.fsl (encL rI p0), .fsl (encL rI p1)] (.bool r) := by
 refine APure_fn (fun N0 => ?_) (by simp)
 refine ACalls_fn tok Tryd.func39 (by kernel_rfl) rfl Tryd.ntmps39 Tryd.results39 rfl ?_
 simp only [argsA, Nat.reduceAdd, hp_next]
 unfold l_eqIntS at H
 refine AWP_sr tok [] [0, 1] (fun a σ => a = [(0, .fsl (encL rI p0)), (1, .fsl (encL rI p1))] ∧ σ = hp E0 [] (N0 + 1)) (fun K hK => ?_) ?_
 ·
  skip
  simp -dsimp -implicitDefEqProofs (maxDischargeDepth := 6)
  exact hK _ _ ⟨rfl, rfl⟩
 rintro a σ ⟨rfl, rfl⟩
 refine AWP_sq [0, 1] fun K1 hK1 => ?_
 refine AWP_sr tok [] [0, 1, 10] (fun a σ => a = [(0, .fsl (encL rI p0)), (1, .fsl (encL rI p1)), (10, .bool (ine (ilen p0) (ilen p1)))] ∧ σ = hp E0 [] (N0 + 6)) (fun K hK => ?_) ?_
 ·
  skip
  simp -dsimp -implicitDefEqProofs (maxDischargeDepth := 6)
  exact hK _ _ ⟨rfl, rfl⟩
 rintro a σ ⟨rfl, rfl⟩
 refine AWP_cond (ine (ilen p0) (ilen p1)) rfl (fun C1 => ?_) (fun C1 => ?_)
 ·
  replace H := ifT C1 H
  refine AWP_sr tok [] [4] (fun a σ => a = [(4, .bool false)] ∧ σ = hp E0 [] (N0 + 7)) (fun K hK => ?_) ?_
  ·
   skip
   simp -dsimp -implicitDefEqProofs (maxDischargeDepth := 6)
   exact hK _ _ ⟨rfl, rfl⟩
  rintro a σ ⟨rfl, rfl⟩
  replace H := Option.some.inj H; subst H
  refine AWP_kp [4] [(4, .bool false)] rfl ?_
  refine AWP_ret ?_
  exact ⟨[.bool false], by simp, 4, by simp [encL_nil]⟩
 ·
  replace H := ifF C1 H
  refine AWP_skip ?_
  show K1 _ _
  refine keepE (l := [0, 1]) (x := [(0, .fsl (encL rI p0)), (1, .fsl (encL rI p1))]) rfl fun a' ha => ?_
  refine hK1 _ _ ?_; rw [ha]
  refine Rc.mk ?_
  refine AWP_sq [] fun K2 hK2 => ?_
  refine AWP_sr tok [] [0, 1, 5] (fun a σ => a = [(0, .fsl (encL rI p0)), (1, .fsl (encL rI p1)), (5, .int .i64 0)] ∧ σ = hp E0 [] (N0 + 7)) (fun K hK => ?_) ?_
  ·
   skip
   simp -dsimp -implicitDefEqProofs (maxDischargeDepth := 6)
   exact hK _ _ ⟨rfl, rfl⟩
  rintro a σ ⟨rfl, rfl⟩
  refine AWP_block (AWP_thenB ?_)
  obtain ⟨e1, hse1, H⟩ := bindE H
  refine AWP_lp [0, 1, 5] (fun s a σ => ∃ M1 : Nat, N0 ≤ M1 ∧ a = [(0, .fsl (encL rI p0)), (1, .fsl (encL rI p1)), (5, .int .i64 s)] ∧ σ = hp E0 [] M1) (fun e x a σ => match e with | .inl s => x = .exit 0 ∧ Rc G 26 N0 (fun a σ => ∃ M2 : Nat, N0 ≤ M2 ∧ a = [] ∧ σ = hp E0 [] M2) (AAct.keep a []) σ | .inr s => x = .ret ∧ ∃ vs, resA T σ a [.tmp 4] = some vs ∧ ∃ d, thawA (fun _ => true) σ d (tupA vs) = .bool s) hse1 ?_ ?_ ?_
  ·
   refine Rc.kp [0, 1, 5] [(0, .fsl (encL rI p0)), (1, .fsl (encL rI p1)), (5, .int .i64 0)] rfl ?_
   exact Rc.fin (AHeap.Sub.refl _) ⟨N0 + 7, (by omega), rfl, rfl⟩
  ·
   clear H hse1
   rintro s1 fl a σ H ⟨M1, fM1_0, rfl, rfl⟩ K3 O3 hK3 hO3
   unfold l_eqIntS_L1 at H; dsimp only at H
   refine AWP_sq [0, 1, 5] fun K4 hK4 => ?_
   refine AWP_sr tok [] [0, 1, 5, 14] (fun a σ => a = [(0, .fsl (encL rI p0)), (1, .fsl (encL rI p1)), (5, .int .i64 s1), (14, .bool (ilt s1 (ilen p0)))] ∧ σ = hp E0 [] (M1 + 4)) (fun K hK => ?_) ?_
   ·
    skip
    simp -dsimp -implicitDefEqProofs (maxDischargeDepth := 6)
    exact hK _ _ ⟨rfl, rfl⟩
   rintro a σ ⟨rfl, rfl⟩
   refine AWP_cond (ilt s1 (ilen p0)) rfl (fun C2 => ?_) (fun C2 => ?_)
   ·
    replace H := ifT C2 H
    refine AWP_skip ?_
    show K4 _ _
    refine keepE (l := [0, 1, 5]) (x := [(0, .fsl (encL rI p0)), (1, .fsl (encL rI p1)), (5, .int .i64 s1)]) rfl fun a' ha => ?_
    refine hK4 _ _ ?_; rw [ha]
    refine Rc.mk ?_
    refine AWP_sq [0, 1, 5] fun K5 hK5 => ?_
    refine AWP_block (AWP_thenB ?_)
    obtain ⟨v2, hv2, H⟩ := bindE H
    obtain ⟨v3, hv3, H⟩ := bindE H
    refine AWP_sd tok tokM [] [] [0, 1, 2, 3, 4, 5, 6, 7, 8] [0, 1, 5, 25] (fun a σ => a = [(0, .fsl (encL rI p0)), (1, .fsl (encL rI p1)), (5, .int .i64 s1), (25, .bool (ine v2 v3))] ∧ σ = hp E0 [] (M1 + 13)) (by decide) (fun K hK => ?_) ?_
    ·
     simp only [pickL, nthO_succ, nthO_zero]
     simp -dsimp -implicitDefEqProofs (maxDischargeDepth := 6) [ix24 hv2, ix24 hv3]
     exact hK _ _ ⟨rfl, rfl⟩
    rintro a σ ⟨rfl, rfl⟩
    refine AWP_cond (ine v2 v3) rfl (fun C3 => ?_) (fun C3 => ?_)
    ·
     replace H := ifT C3 H
     refine AWP_sr tok [] [4] (fun a σ => a = [(4, .bool false)] ∧ σ = hp E0 [] (M1 + 14)) (fun K hK => ?_) ?_
     ·
      skip
      simp -dsimp -implicitDefEqProofs (maxDischargeDepth := 6)
      exact hK _ _ ⟨rfl, rfl⟩
     rintro a σ ⟨rfl, rfl⟩
     replace H := Option.some.inj H; subst H
     refine AWP_kp [4] [(4, .bool false)] rfl ?_
     refine AWP_ret (hO3 _ _ _ _ rfl ⟨rfl, ?_⟩)
     exact ⟨[.bool false], by simp, 4, by simp [encL_nil]⟩
    ·
     replace H := ifF C3 H
     refine AWP_skip ?_
     show K5 _ _
     refine keepE (l := [0, 1, 5]) (x := [(0, .fsl (encL rI p0)), (1, .fsl (encL rI p1)), (5, .int .i64 s1)]) rfl fun a' ha => ?_
     refine hK5 _ _ ?_; rw [ha]
     refine Rc.mk ?_
     refine AWP_rt tok [] [0, 1, 5] (fun a σ => a = [(0, .fsl (encL rI p0)), (1, .fsl (encL rI p1)), (5, .int .i64 (iadd .i64 s1 1))] ∧ σ = hp E0 [] (M1 + 16)) (fun K hK => ?_) ?_
     ·
      skip
      simp -dsimp -implicitDefEqProofs (maxDischargeDepth := 6)
      exact hK _ _ ⟨rfl, rfl⟩
     rintro a σ ⟨ha, rfl⟩
     replace H := Option.some.inj H; subst H
     refine hK3 _ _ _ rfl ?_; rw [ha]
     exact Rc.fin (AHeap.Sub.refl _) ⟨M1 + 16, (by omega), rfl, rfl⟩
   ·
    replace H := ifF C2 H
    replace H := Option.some.inj H; subst H
    refine AWP_exit (hO3 _ _ _ _ rfl ⟨rfl, ?_⟩)
    refine Rc.rw (l := []) (X := []) rfl ?_
    exact Rc.fin (AHeap.Sub.refl _) ⟨M1 + 4, (by omega), rfl, rfl⟩
  ·
   intro x a σ hx
   rcases e1 with ⟨⟩ | r0
   ·
    obtain ⟨rfl, b, τ, hr, M2, fM2_0, rfl, rfl⟩ := hx
    dsimp only at H
    show K2 _ _
    refine hK2 _ _ (Rc_ref hr ?_)
    refine Rc.mk ?_
    refine AWP_sr tok [] [4] (fun a σ => a = [(4, .bool true)] ∧ σ = hp E0 [] (M2 + 1)) (fun K hK => ?_) ?_
    ·
     skip
     simp -dsimp -implicitDefEqProofs (maxDischargeDepth := 6)
     exact hK _ _ ⟨rfl, rfl⟩
    rintro a σ ⟨rfl, rfl⟩
    replace H := Option.some.inj H; subst H
    refine AWP_kp [4] [(4, .bool true)] rfl ?_
    refine AWP_ret ?_
    exact ⟨[.bool true], by simp, 4, by simp [encL_nil]⟩
   ·
    obtain ⟨rfl, hx2⟩ := hx
    dsimp only at H
    replace H := Option.some.inj H; subst H; exact hx2
theorem c18 {p0 : gMachine} {p1 : gMachine} {r : Bool} (H : l_eqMachine p0 p1 = some r) : APure Tryd.prog G 18 [.agg [.fsl (encL rI p0.Regs), .int .i64 p0.Pc, .fsl (encL rI p0.Mem)], .agg [.fsl (encL rI p1.Regs), .int .i64 p1.Pc, .fsl (encL rI p1.Mem)]] (.bool r) := by
 refine APure_fn (fun N0 => ?_) (by simp)
 refine ACalls_fn tok Tryd.func18 (by kernel_rfl) rfl Tryd.ntmps18 Tryd.results18 rfl ?_
 simp only [argsA, Nat.reduceAdd, hp_next]
 unfold l_eqMachine at H
 refine AWP_sr tok [0, 1] [2, 3] (fun a σ => a = [(2, .fptr [.fsl (encL rI p0.Regs), .int .i64 p0.Pc, .fsl (encL rI p0.Mem)] 0), (3, .fptr [.fsl (encL rI p1.Regs), .int .i64 p1.Pc, .fsl (encL rI p1.Mem)] 0)] ∧ σ = hp E0 [] (N0 + 3)) (fun K hK => ?_) ?_
 ·
  skip
  simp -dsimp -implicitDefEqProofs (maxDischargeDepth := 6)
  exact hK _ _ ⟨rfl, rfl⟩
 rintro a σ ⟨rfl, rfl⟩
 refine AWP_sq [2, 3] fun K1 hK1 => ?_
 obtain ⟨r1, hr1, H⟩ := bindE H
 refine AWP_sr tok [] [2, 3, 10] (fun a σ => a = [(2, .fptr [.fsl (encL rI p0.Regs), .int .i64 p0.Pc, .fsl (encL rI p0.Mem)] 0), (3, .fptr [.fsl (encL rI p1.Regs), .int .i64 p1.Pc, .fsl (encL rI p1.Mem)] 0), (10, .bool (bnot r1))] ∧ σ = hp E0 [] (N0 + 9)) (fun K hK => ?_) ?_
 ·
  skip
  simp -dsimp -implicitDefEqProofs (maxDischargeDepth := 6)
  refine (c39 hr1).app ?_; try simp -dsimp -implicitDefEqProofs (maxDischargeDepth := 6)
  exact hK _ _ ⟨rfl, rfl⟩
 rintro a σ ⟨rfl, rfl⟩
 refine AWP_cond (bnot r1) rfl (fun C1 => ?_) (fun C1 => ?_)
 ·
  replace H := ifT C1 H
  refine AWP_sr tok [] [4] (fun a σ => a = [(4, .bool false)] ∧ σ = hp E0 [] (N0 + 10)) (fun K hK => ?_) ?_
  ·
   skip
   simp -dsimp -implicitDefEqProofs (maxDischargeDepth := 6)
   exact hK _ _ ⟨rfl, rfl⟩
  rintro a σ ⟨rfl, rfl⟩
  replace H := Option.some.inj H; subst H
  refine AWP_kp [4] [(4, .bool false)] rfl ?_
  refine AWP_ret ?_
  exact ⟨[.bool false], by simp, 4, by simp [encL_nil]⟩
 ·
  replace H := ifF C1 H
  refine AWP_skip ?_
  show K1 _ _
  refine keepE (l := [2, 3]) (x := [(2, .fptr [.fsl (encL rI p0.Regs), .int .i64 p0.Pc, .fsl (encL rI p0.Mem)] 0), (3, .fptr [.fsl (encL rI p1.Regs), .int .i64 p1.Pc, .fsl (encL rI p1.Mem)] 0)]) rfl fun a' ha => ?_
  refine hK1 _ _ ?_; rw [ha]
  refine Rc.mk ?_
  refine AWP_sq [2, 3] fun K2 hK2 => ?_
  refine AWP_sr tok [] [2, 3, 15] (fun a σ => a = [(2, .fptr [.fsl (encL rI p0.Regs), .int .i64 p0.Pc, .fsl (encL rI p0.Mem)] 0), (3, .fptr [.fsl (encL rI p1.Regs), .int .i64 p1.Pc, .fsl (encL rI p1.Mem)] 0), (15, .bool (ine p0.Pc p1.Pc))] ∧ σ = hp E0 [] (N0 + 14)) (fun K hK => ?_) ?_
  ·
   skip
   simp -dsimp -implicitDefEqProofs (maxDischargeDepth := 6)
   exact hK _ _ ⟨rfl, rfl⟩
  rintro a σ ⟨rfl, rfl⟩
  refine AWP_cond (ine p0.Pc p1.Pc) rfl (fun C2 => ?_) (fun C2 => ?_)
  ·
   replace H := ifT C2 H
   refine AWP_sr tok [] [4] (fun a σ => a = [(4, .bool false)] ∧ σ = hp E0 [] (N0 + 15)) (fun K hK => ?_) ?_
   ·
    skip
    simp -dsimp -implicitDefEqProofs (maxDischargeDepth := 6)
    exact hK _ _ ⟨rfl, rfl⟩
   rintro a σ ⟨rfl, rfl⟩
   replace H := Option.some.inj H; subst H
   refine AWP_kp [4] [(4, .bool false)] rfl ?_
   refine AWP_ret ?_
   exact ⟨[.bool false], by simp, 4, by simp [encL_nil]⟩
  ·
   replace H := ifF C2 H
   refine AWP_skip ?_
   show K2 _ _
   refine keepE (l := [2, 3]) (x := [(2, .fptr [.fsl (encL rI p0.Regs), .int .i64 p0.Pc, .fsl (encL rI p0.Mem)] 0), (3, .fptr [.fsl (encL rI p1.Regs), .int .i64 p1.Pc, .fsl (encL rI p1.Mem)] 0)]) rfl fun a' ha => ?_
   refine hK2 _ _ ?_; rw [ha]
   refine Rc.mk ?_
   refine AWP_sq [] fun K3 hK3 => ?_
   obtain ⟨r2, hr2, H⟩ := bindE H
   refine AWP_sr tok [] [21] (fun a σ => a = [(21, .bool (bnot r2))] ∧ σ = hp E0 [] (N0 + 20)) (fun K hK => ?_) ?_
   ·
    skip
    simp -dsimp -implicitDefEqProofs (maxDischargeDepth := 6)
    refine (c39 hr2).app ?_; try simp -dsimp -implicitDefEqProofs (maxDischargeDepth := 6)
    exact hK _ _ ⟨rfl, rfl⟩
   rintro a σ ⟨rfl, rfl⟩
   refine AWP_cond (bnot r2) rfl (fun C3 => ?_) (fun C3 => ?_)
   ·
    replace H := ifT C3 H
    refine AWP_sr tok [] [4] (fun a σ => a = [(4, .bool false)] ∧ σ = hp E0 [] (N0 + 21)) (fun K hK => ?_) ?_
    ·
     skip
     simp -dsimp -implicitDefEqProofs (maxDischargeDepth := 6)
     exact hK _ _ ⟨rfl, rfl⟩
    rintro a σ ⟨rfl, rfl⟩
    replace H := Option.some.inj H; subst H
    refine AWP_kp [4] [(4, .bool false)] rfl ?_
    refine AWP_ret ?_
    exact ⟨[.bool false], by simp, 4, by simp [encL_nil]⟩
   ·
    replace H := ifF C3 H
    refine AWP_skip ?_
    show K3 _ _
    refine keepE (l := []) (x := []) rfl fun a' ha => ?_
    refine hK3 _ _ ?_; rw [ha]
    refine Rc.mk ?_
    refine AWP_sr tok [] [4] (fun a σ => a = [(4, .bool true)] ∧ σ = hp E0 [] (N0 + 21)) (fun K hK => ?_) ?_
    ·
     skip
     simp -dsimp -implicitDefEqProofs (maxDischargeDepth := 6)
     exact hK _ _ ⟨rfl, rfl⟩
    rintro a σ ⟨rfl, rfl⟩
    replace H := Option.some.inj H; subst H
    refine AWP_kp [4] [(4, .bool true)] rfl ?_
    refine AWP_ret ?_
    exact ⟨[.bool true], by simp, 4, by simp [encL_nil]⟩
theorem c63 {p0 : gInstr} {p1 : gInstr} {r : Bool} (H : l_eqInstr p0 p1 = some r) : APure Tryd.prog G 63 [.agg [.int .i64 p0.Op, .int .i64 p0.Rd, .int .i64 p0.Rs, .int .i64 p0.Rt, .int .i64 p0.Imm], .agg [.int .i64 p1.Op, .int .i64 p1.Rd, .int .i64 p1.Rs, .int .i64 p1.Rt, .int .i64 p1.Imm]] (.bool r) := by
 refine APure_fn (fun N0 => ?_) (by simp)
 refine ACalls_fn tok Tryd.func63 (by kernel_rfl) rfl Tryd.ntmps63 Tryd.results63 rfl ?_
 simp only [argsA, Nat.reduceAdd, hp_next]
 unfold l_eqInstr at H
 refine AWP_sr tok [0, 1] [2, 3] (fun a σ => a = [(2, .fptr [.int .i64 p0.Op, .int .i64 p0.Rd, .int .i64 p0.Rs, .int .i64 p0.Rt, .int .i64 p0.Imm] 0), (3, .fptr [.int .i64 p1.Op, .int .i64 p1.Rd, .int .i64 p1.Rs, .int .i64 p1.Rt, .int .i64 p1.Imm] 0)] ∧ σ = hp E0 [] (N0 + 3)) (fun K hK => ?_) ?_
 ·
  skip
  simp -dsimp -implicitDefEqProofs (maxDischargeDepth := 6)
  exact hK _ _ ⟨rfl, rfl⟩
 rintro a σ ⟨rfl, rfl⟩
 refine AWP_sq [2, 3] fun K1 hK1 => ?_
 refine AWP_sr tok [] [2, 3, 9] (fun a σ => a = [(2, .fptr [.int .i64 p0.Op, .int .i64 p0.Rd, .int .i64 p0.Rs, .int .i64 p0.Rt, .int .i64 p0.Imm] 0), (3, .fptr [.int .i64 p1.Op, .int .i64 p1.Rd, .int .i64 p1.Rs, .int .i64 p1.Rt, .int .i64 p1.Imm] 0), (9, .bool (ine p0.Op p1.Op))] ∧ σ = hp E0 [] (N0 + 8)) (fun K hK => ?_) ?_
 ·
  skip
  simp -dsimp -implicitDefEqProofs (maxDischargeDepth := 6)
  exact hK _ _ ⟨rfl, rfl⟩
 rintro a σ ⟨rfl, rfl⟩
 refine AWP_cond (ine p0.Op p1.Op) rfl (fun C1 => ?_) (fun C1 => ?_)
 ·
  replace H := ifT C1 H
  refine AWP_sr tok [] [4] (fun a σ => a = [(4, .bool false)] ∧ σ = hp E0 [] (N0 + 9)) (fun K hK => ?_) ?_
  ·
   skip
   simp -dsimp -implicitDefEqProofs (maxDischargeDepth := 6)
   exact hK _ _ ⟨rfl, rfl⟩
  rintro a σ ⟨rfl, rfl⟩
  replace H := Option.some.inj H; subst H
  refine AWP_kp [4] [(4, .bool false)] rfl ?_
  refine AWP_ret ?_
  exact ⟨[.bool false], by simp, 4, by simp [encL_nil]⟩
 ·
  replace H := ifF C1 H
  refine AWP_skip ?_
  show K1 _ _
  refine keepE (l := [2, 3]) (x := [(2, .fptr [.int .i64 p0.Op, .int .i64 p0.Rd, .int .i64 p0.Rs, .int .i64 p0.Rt, .int .i64 p0.Imm] 0), (3, .fptr [.int .i64 p1.Op, .int .i64 p1.Rd, .int .i64 p1.Rs, .int .i64 p1.Rt, .int .i64 p1.Imm] 0)]) rfl fun a' ha => ?_
  refine hK1 _ _ ?_; rw [ha]
  refine Rc.mk ?_
  refine AWP_sq [2, 3] fun K2 hK2 => ?_
  refine AWP_sr tok [] [2, 3, 14] (fun a σ => a = [(2, .fptr [.int .i64 p0.Op, .int .i64 p0.Rd, .int .i64 p0.Rs, .int .i64 p0.Rt, .int .i64 p0.Imm] 0), (3, .fptr [.int .i64 p1.Op, .int .i64 p1.Rd, .int .i64 p1.Rs, .int .i64 p1.Rt, .int .i64 p1.Imm] 0), (14, .bool (ine p0.Rd p1.Rd))] ∧ σ = hp E0 [] (N0 + 13)) (fun K hK => ?_) ?_
  ·
   skip
   simp -dsimp -implicitDefEqProofs (maxDischargeDepth := 6)
   exact hK _ _ ⟨rfl, rfl⟩
  rintro a σ ⟨rfl, rfl⟩
  refine AWP_cond (ine p0.Rd p1.Rd) rfl (fun C2 => ?_) (fun C2 => ?_)
  ·
   replace H := ifT C2 H
   refine AWP_sr tok [] [4] (fun a σ => a = [(4, .bool false)] ∧ σ = hp E0 [] (N0 + 14)) (fun K hK => ?_) ?_
   ·
    skip
    simp -dsimp -implicitDefEqProofs (maxDischargeDepth := 6)
    exact hK _ _ ⟨rfl, rfl⟩
   rintro a σ ⟨rfl, rfl⟩
   replace H := Option.some.inj H; subst H
   refine AWP_kp [4] [(4, .bool false)] rfl ?_
   refine AWP_ret ?_
   exact ⟨[.bool false], by simp, 4, by simp [encL_nil]⟩
  ·
   replace H := ifF C2 H
   refine AWP_skip ?_
   show K2 _ _
   refine keepE (l := [2, 3]) (x := [(2, .fptr [.int .i64 p0.Op, .int .i64 p0.Rd, .int .i64 p0.Rs, .int .i64 p0.Rt, .int .i64 p0.Imm] 0), (3, .fptr [.int .i64 p1.Op, .int .i64 p1.Rd, .int .i64 p1.Rs, .int .i64 p1.Rt, .int .i64 p1.Imm] 0)]) rfl fun a' ha => ?_
   refine hK2 _ _ ?_; rw [ha]
   refine Rc.mk ?_
   refine AWP_sq [2, 3] fun K3 hK3 => ?_
   refine AWP_sr tok [] [2, 3, 19] (fun a σ => a = [(2, .fptr [.int .i64 p0.Op, .int .i64 p0.Rd, .int .i64 p0.Rs, .int .i64 p0.Rt, .int .i64 p0.Imm] 0), (3, .fptr [.int .i64 p1.Op, .int .i64 p1.Rd, .int .i64 p1.Rs, .int .i64 p1.Rt, .int .i64 p1.Imm] 0), (19, .bool (ine p0.Rs p1.Rs))] ∧ σ = hp E0 [] (N0 + 18)) (fun K hK => ?_) ?_
   ·
    skip
    simp -dsimp -implicitDefEqProofs (maxDischargeDepth := 6)
    exact hK _ _ ⟨rfl, rfl⟩
   rintro a σ ⟨rfl, rfl⟩
   refine AWP_cond (ine p0.Rs p1.Rs) rfl (fun C3 => ?_) (fun C3 => ?_)
   ·
    replace H := ifT C3 H
    refine AWP_sr tok [] [4] (fun a σ => a = [(4, .bool false)] ∧ σ = hp E0 [] (N0 + 19)) (fun K hK => ?_) ?_
    ·
     skip
     simp -dsimp -implicitDefEqProofs (maxDischargeDepth := 6)
     exact hK _ _ ⟨rfl, rfl⟩
    rintro a σ ⟨rfl, rfl⟩
    replace H := Option.some.inj H; subst H
    refine AWP_kp [4] [(4, .bool false)] rfl ?_
    refine AWP_ret ?_
    exact ⟨[.bool false], by simp, 4, by simp [encL_nil]⟩
   ·
    replace H := ifF C3 H
    refine AWP_skip ?_
    show K3 _ _
    refine keepE (l := [2, 3]) (x := [(2, .fptr [.int .i64 p0.Op, .int .i64 p0.Rd, .int .i64 p0.Rs, .int .i64 p0.Rt, .int .i64 p0.Imm] 0), (3, .fptr [.int .i64 p1.Op, .int .i64 p1.Rd, .int .i64 p1.Rs, .int .i64 p1.Rt, .int .i64 p1.Imm] 0)]) rfl fun a' ha => ?_
    refine hK3 _ _ ?_; rw [ha]
    refine Rc.mk ?_
    refine AWP_sq [2, 3] fun K4 hK4 => ?_
    refine AWP_sr tok [] [2, 3, 24] (fun a σ => a = [(2, .fptr [.int .i64 p0.Op, .int .i64 p0.Rd, .int .i64 p0.Rs, .int .i64 p0.Rt, .int .i64 p0.Imm] 0), (3, .fptr [.int .i64 p1.Op, .int .i64 p1.Rd, .int .i64 p1.Rs, .int .i64 p1.Rt, .int .i64 p1.Imm] 0), (24, .bool (ine p0.Rt p1.Rt))] ∧ σ = hp E0 [] (N0 + 23)) (fun K hK => ?_) ?_
    ·
     skip
     simp -dsimp -implicitDefEqProofs (maxDischargeDepth := 6)
     exact hK _ _ ⟨rfl, rfl⟩
    rintro a σ ⟨rfl, rfl⟩
    refine AWP_cond (ine p0.Rt p1.Rt) rfl (fun C4 => ?_) (fun C4 => ?_)
    ·
     replace H := ifT C4 H
     refine AWP_sr tok [] [4] (fun a σ => a = [(4, .bool false)] ∧ σ = hp E0 [] (N0 + 24)) (fun K hK => ?_) ?_
     ·
      skip
      simp -dsimp -implicitDefEqProofs (maxDischargeDepth := 6)
      exact hK _ _ ⟨rfl, rfl⟩
     rintro a σ ⟨rfl, rfl⟩
     replace H := Option.some.inj H; subst H
     refine AWP_kp [4] [(4, .bool false)] rfl ?_
     refine AWP_ret ?_
     exact ⟨[.bool false], by simp, 4, by simp [encL_nil]⟩
    ·
     replace H := ifF C4 H
     refine AWP_skip ?_
     show K4 _ _
     refine keepE (l := [2, 3]) (x := [(2, .fptr [.int .i64 p0.Op, .int .i64 p0.Rd, .int .i64 p0.Rs, .int .i64 p0.Rt, .int .i64 p0.Imm] 0), (3, .fptr [.int .i64 p1.Op, .int .i64 p1.Rd, .int .i64 p1.Rs, .int .i64 p1.Rt, .int .i64 p1.Imm] 0)]) rfl fun a' ha => ?_
     refine hK4 _ _ ?_; rw [ha]
     refine Rc.mk ?_
     refine AWP_sq [] fun K5 hK5 => ?_
     refine AWP_sr tok [] [29] (fun a σ => a = [(29, .bool (ine p0.Imm p1.Imm))] ∧ σ = hp E0 [] (N0 + 28)) (fun K hK => ?_) ?_
     ·
      skip
      simp -dsimp -implicitDefEqProofs (maxDischargeDepth := 6)
      exact hK _ _ ⟨rfl, rfl⟩
     rintro a σ ⟨rfl, rfl⟩
     refine AWP_cond (ine p0.Imm p1.Imm) rfl (fun C5 => ?_) (fun C5 => ?_)
     ·
      replace H := ifT C5 H
      refine AWP_sr tok [] [4] (fun a σ => a = [(4, .bool false)] ∧ σ = hp E0 [] (N0 + 29)) (fun K hK => ?_) ?_
      ·
       skip
       simp -dsimp -implicitDefEqProofs (maxDischargeDepth := 6)
       exact hK _ _ ⟨rfl, rfl⟩
      rintro a σ ⟨rfl, rfl⟩
      replace H := Option.some.inj H; subst H
      refine AWP_kp [4] [(4, .bool false)] rfl ?_
      refine AWP_ret ?_
      exact ⟨[.bool false], by simp, 4, by simp [encL_nil]⟩
     ·
      replace H := ifF C5 H
      refine AWP_skip ?_
      show K5 _ _
      refine keepE (l := []) (x := []) rfl fun a' ha => ?_
      refine hK5 _ _ ?_; rw [ha]
      refine Rc.mk ?_
      refine AWP_sr tok [] [4] (fun a σ => a = [(4, .bool true)] ∧ σ = hp E0 [] (N0 + 29)) (fun K hK => ?_) ?_
      ·
       skip
       simp -dsimp -implicitDefEqProofs (maxDischargeDepth := 6)
       exact hK _ _ ⟨rfl, rfl⟩
      rintro a σ ⟨rfl, rfl⟩
      replace H := Option.some.inj H; subst H
      refine AWP_kp [4] [(4, .bool true)] rfl ?_
      refine AWP_ret ?_
      exact ⟨[.bool true], by simp, 4, by simp [encL_nil]⟩
theorem c19 {p0 : (List gInstr)} {p1 : (List gInstr)} {r : Bool} (H : l_eqInstrS p0 p1 = some r) : APure Tryd.prog G 19 [.fsl (encL rInstr p0), .fsl (encL rInstr p1)] (.bool r) := by
 refine APure_fn (fun N0 => ?_) (by simp)
 refine ACalls_fn tok Tryd.func19 (by kernel_rfl) rfl Tryd.ntmps19 Tryd.results19 rfl ?_
 simp only [argsA, Nat.reduceAdd, hp_next]
 unfold l_eqInstrS at H
 refine AWP_sr tok [] [0, 1] (fun a σ => a = [(0, .fsl (encL rInstr p0)), (1, .fsl (encL rInstr p1))] ∧ σ = hp E0 [] (N0 + 1)) (fun K hK => ?_) ?_
 ·
  skip
  simp -dsimp -implicitDefEqProofs (maxDischargeDepth := 6)
  exact hK _ _ ⟨rfl, rfl⟩
 rintro a σ ⟨rfl, rfl⟩
 refine AWP_sq [0, 1] fun K1 hK1 => ?_
 refine AWP_sr tok [] [0, 1, 10] (fun a σ => a = [(0, .fsl (encL rInstr p0)), (1, .fsl (encL rInstr p1)), (10, .bool (ine (ilen p0) (ilen p1)))] ∧ σ = hp E0 [] (N0 + 6)) (fun K hK => ?_) ?_
 ·
  skip
  simp -dsimp -implicitDefEqProofs (maxDischargeDepth := 6)
  exact hK _ _ ⟨rfl, rfl⟩
 rintro a σ ⟨rfl, rfl⟩
 refine AWP_cond (ine (ilen p0) (ilen p1)) rfl (fun C1 => ?_) (fun C1 => ?_)
 ·
  replace H := ifT C1 H
  refine AWP_sr tok [] [4] (fun a σ => a = [(4, .bool false)] ∧ σ = hp E0 [] (N0 + 7)) (fun K hK => ?_) ?_
  ·
   skip
   simp -dsimp -implicitDefEqProofs (maxDischargeDepth := 6)
   exact hK _ _ ⟨rfl, rfl⟩
  rintro a σ ⟨rfl, rfl⟩
  replace H := Option.some.inj H; subst H
  refine AWP_kp [4] [(4, .bool false)] rfl ?_
  refine AWP_ret ?_
  exact ⟨[.bool false], by simp, 4, by simp [encL_nil]⟩
 ·
  replace H := ifF C1 H
  refine AWP_skip ?_
  show K1 _ _
  refine keepE (l := [0, 1]) (x := [(0, .fsl (encL rInstr p0)), (1, .fsl (encL rInstr p1))]) rfl fun a' ha => ?_
  refine hK1 _ _ ?_; rw [ha]
  refine Rc.mk ?_
  refine AWP_sq [] fun K2 hK2 => ?_
  refine AWP_sr tok [] [0, 1, 5] (fun a σ => a = [(0, .fsl (encL rInstr p0)), (1, .fsl (encL rInstr p1)), (5, .int .i64 0)] ∧ σ = hp E0 [] (N0 + 7)) (fun K hK => ?_) ?_
  ·
   skip
   simp -dsimp -implicitDefEqProofs (maxDischargeDepth := 6)
   exact hK _ _ ⟨rfl, rfl⟩
  rintro a σ ⟨rfl, rfl⟩
  refine AWP_block (AWP_thenB ?_)
  obtain ⟨e1, hse1, H⟩ := bindE H
  refine AWP_lp [0, 1, 5] (fun s a σ => ∃ M1 : Nat, N0 ≤ M1 ∧ a = [(0, .fsl (encL rInstr p0)), (1, .fsl (encL rInstr p1)), (5, .int .i64 s)] ∧ σ = hp E0 [] M1) (fun e x a σ => match e with | .inl s => x = .exit 0 ∧ Rc G 27 N0 (fun a σ => ∃ M2 : Nat, N0 ≤ M2 ∧ a = [] ∧ σ = hp E0 [] M2) (AAct.keep a []) σ | .inr s => x = .ret ∧ ∃ vs, resA T σ a [.tmp 4] = some vs ∧ ∃ d, thawA (fun _ => true) σ d (tupA vs) = .bool s) hse1 ?_ ?_ ?_
  ·
   refine Rc.kp [0, 1, 5] [(0, .fsl (encL rInstr p0)), (1, .fsl (encL rInstr p1)), (5, .int .i64 0)] rfl ?_
   exact Rc.fin (AHeap.Sub.refl _) ⟨N0 + 7, (by omega), rfl, rfl⟩
  ·
   clear H hse1
   rintro s1 fl a σ H ⟨M1, fM1_0, rfl, rfl⟩ K3 O3 hK3 hO3
   unfold l_eqInstrS_L1 at H; dsimp only at H
   refine AWP_sq [0, 1, 5] fun K4 hK4 => ?_
   refine AWP_sr tok [] [0, 1, 5, 14] (fun a σ => a = [(0, .fsl (encL rInstr p0)), (1, .fsl (encL rInstr p1)), (5, .int .i64 s1), (14, .bool (ilt s1 (ilen p0)))] ∧ σ = hp E0 [] (M1 + 4)) (fun K hK => ?_) ?_
   ·
    skip
    simp -dsimp -implicitDefEqProofs (maxDischargeDepth := 6)
    exact hK _ _ ⟨rfl, rfl⟩
   rintro a σ ⟨rfl, rfl⟩
   refine AWP_cond (ilt s1 (ilen p0)) rfl (fun C2 => ?_) (fun C2 => ?_)
   ·
    replace H := ifT C2 H
    refine AWP_skip ?_
    show K4 _ _
    refine keepE (l := [0, 1, 5]) (x := [(0, .fsl (encL rInstr p0)), (1, .fsl (encL rInstr p1)), (5, .int .i64 s1)]) rfl fun a' ha => ?_
    refine hK4 _ _ ?_; rw [ha]
    refine Rc.mk ?_
    refine AWP_sq [0, 1, 5] fun K5 hK5 => ?_
    refine AWP_block (AWP_thenB ?_)
    obtain ⟨v2, hv2, H⟩ := bindE H
    obtain ⟨v3, hv3, H⟩ := bindE H
    obtain ⟨r4, hr4, H⟩ := bindE H
    refine AWP_sd tok tokM [] [] [0, 1, 2, 3, 4, 5, 6, 7, 8, 9] [0, 1, 5, 26] (fun a σ => a = [(0, .fsl (encL rInstr p0)), (1, .fsl (encL rInstr p1)), (5, .int .i64 s1), (26, .bool (bnot r4))] ∧ σ = hp E0 [] (M1 + 14)) (by decide) (fun K hK => ?_) ?_
    ·
     simp only [pickL, nthO_succ, nthO_zero]
     simp -dsimp -implicitDefEqProofs (maxDischargeDepth := 6) [ix29 hv2, ix29 hv3]
     refine Pc.mk (c63 hr4) ?_; try simp -dsimp -implicitDefEqProofs (maxDischargeDepth := 6) [ix29 hv2, ix29 hv3]
     exact hK _ _ ⟨rfl, rfl⟩
    rintro a σ ⟨rfl, rfl⟩
    refine AWP_cond (bnot r4) rfl (fun C3 => ?_) (fun C3 => ?_)
    ·
     replace H := ifT C3 H
     refine AWP_sr tok [] [4] (fun a σ => a = [(4, .bool false)] ∧ σ = hp E0 [] (M1 + 15)) (fun K hK => ?_) ?_
     ·
      skip
      simp -dsimp -implicitDefEqProofs (maxDischargeDepth := 6)
      exact hK _ _ ⟨rfl, rfl⟩
     rintro a σ ⟨rfl, rfl⟩
     replace H := Option.some.inj H; subst H
     refine AWP_kp [4] [(4, .bool false)] rfl ?_
     refine AWP_ret (hO3 _ _ _ _ rfl ⟨rfl, ?_⟩)
     exact ⟨[.bool false], by simp, 4, by simp [encL_nil]⟩
    ·
     replace H := ifF C3 H
     refine AWP_skip ?_
     show K5 _ _
     refine keepE (l := [0, 1, 5]) (x := [(0, .fsl (encL rInstr p0)), (1, .fsl (encL rInstr p1)), (5, .int .i64 s1)]) rfl fun a' ha => ?_
     refine hK5 _ _ ?_; rw [ha]
     refine Rc.mk ?_
     refine AWP_rt tok [] [0, 1, 5] (fun a σ => a = [(0, .fsl (encL rInstr p0)), (1, .fsl (encL rInstr p1)), (5, .int .i64 (iadd .i64 s1 1))] ∧ σ = hp E0 [] (M1 + 17)) (fun K hK => ?_) ?_
     ·
      skip
      simp -dsimp -implicitDefEqProofs (maxDischargeDepth := 6)
      exact hK _ _ ⟨rfl, rfl⟩
     rintro a σ ⟨ha, rfl⟩
     replace H := Option.some.inj H; subst H
     refine hK3 _ _ _ rfl ?_; rw [ha]
     exact Rc.fin (AHeap.Sub.refl _) ⟨M1 + 17, (by omega), rfl, rfl⟩
   ·
    replace H := ifF C2 H
    replace H := Option.some.inj H; subst H
    refine AWP_exit (hO3 _ _ _ _ rfl ⟨rfl, ?_⟩)
    refine Rc.rw (l := []) (X := []) rfl ?_
    exact Rc.fin (AHeap.Sub.refl _) ⟨M1 + 4, (by omega), rfl, rfl⟩
  ·
   intro x a σ hx
   rcases e1 with ⟨⟩ | r0
   ·
    obtain ⟨rfl, b, τ, hr, M2, fM2_0, rfl, rfl⟩ := hx
    dsimp only at H
    show K2 _ _
    refine hK2 _ _ (Rc_ref hr ?_)
    refine Rc.mk ?_
    refine AWP_sr tok [] [4] (fun a σ => a = [(4, .bool true)] ∧ σ = hp E0 [] (M2 + 1)) (fun K hK => ?_) ?_
    ·
     skip
     simp -dsimp -implicitDefEqProofs (maxDischargeDepth := 6)
     exact hK _ _ ⟨rfl, rfl⟩
    rintro a σ ⟨rfl, rfl⟩
    replace H := Option.some.inj H; subst H
    refine AWP_kp [4] [(4, .bool true)] rfl ?_
    refine AWP_ret ?_
    exact ⟨[.bool true], by simp, 4, by simp [encL_nil]⟩
   ·
    obtain ⟨rfl, hx2⟩ := hx
    dsimp only at H
    replace H := Option.some.inj H; subst H; exact hx2
theorem c20 {p0 : (List gInstr)} {p1 : Int} {r : Int × (List gInstr)} (H : l_markInstrS p0 p1 = some r) {σ : AHeap} {w0 : Nat} (q0 : σ.objs w0 = some ⟨47, 5, encL rInstr p0⟩) : ACalls Tryd.prog G 20 [.sl w0 0 p0.length, .int .i64 p1] σ (fun v σ' => ∃ M : Nat, σ.next ≤ M ∧ r.2.length = p0.length ∧ v = .int .i64 r.1 ∧ σ' = hp σ.objs [(w0, some ⟨47, 5, encL rInstr r.2⟩)] M) := by
 refine ACalls_fr (L := [(w0, some ⟨47, 5, encL rInstr p0⟩)]) (Q1 := fun v σ' => ∃ M : Nat, σ.next ≤ M ∧ r.2.length = p0.length ∧ v = .int .i64 r.1 ∧ σ' = hp E0 [(w0, some ⟨47, 5, encL rInstr r.2⟩)] M) (by simp [q0]) (fun hlt => ?_) ?_ ⟨_, Tryd.func20, rfl, rfl⟩
 rotate_left
 ·
  rintro v σ1 ⟨M, h0, h1, rfl, rfl⟩
  exact ⟨_, M, rfl, by simp, by simp; try omega, M, h0, h1, rfl, rfl⟩
 generalize σ.next = N0 at hlt ⊢
 have lw0 : w0 < N0 := hlt _ (.head _) rfl
 refine ACalls_fn tok Tryd.func20 (by kernel_rfl) rfl Tryd.ntmps20 Tryd.results20 rfl ?_
 simp only [argsA, Nat.reduceAdd, hp_next]
 unfold l_markInstrS at H
 refine AWP_sr tok [] [0, 1] (fun a σ => a = [(0, .sl w0 0 p0.length), (1, .int .i64 p1)] ∧ σ = hp E0 [(w0, some ⟨47, 5, encL rInstr p0⟩)] (N0 + 1)) (fun K hK => ?_) ?_
 ·
  skip
  simp -dsimp -implicitDefEqProofs (maxDischargeDepth := 6)
  exact hK _ _ ⟨rfl, rfl⟩
 rintro a σ ⟨rfl, rfl⟩
 refine AWP_sq [1] fun K1 hK1 => ?_
 refine AWP_sr tok [] [0, 1, 5] (fun a σ => a = [(0, .sl w0 0 p0.length), (1, .int .i64 p1), (5, .int .i64 0)] ∧ σ = hp E0 [(w0, some ⟨47, 5, encL rInstr p0⟩)] (N0 + 2)) (fun K hK => ?_) ?_
 ·
  skip
  simp -dsimp -implicitDefEqProofs (maxDischargeDepth := 6)
  exact hK _ _ ⟨rfl, rfl⟩
 rintro a σ ⟨rfl, rfl⟩
 refine AWP_block (AWP_thenB ?_)
 obtain ⟨e1, hse1, H⟩ := bindE H
 refine AWP_lp [0, 1, 5] (fun s a σ => ∃ M1 : Nat, N0 ≤ M1 ∧ s.2.2.length = p0.length ∧ a = [(0, .sl w0 0 s.2.2.length), (1, .int .i64 s.1), (5, .int .i64 s.2.1)] ∧ σ = hp E0 [(w0, some ⟨47, 5, encL rInstr s.2.2⟩)] M1) (fun s x a σ => x = .exit 0 ∧ Rc G 48 N0 (fun a σ => ∃ M2 : Nat, N0 ≤ M2 ∧ s.2.length = p0.length ∧ a = [(1, .int .i64 s.1)] ∧ σ = hp E0 [(w0, some ⟨47, 5, encL rInstr s.2⟩)] M2) (AAct.keep a [1]) σ) hse1 ?_ ?_ ?_
 ·
  refine Rc.kp [0, 1, 5] [(0, .sl w0 0 p0.length), (1, .int .i64 p1), (5, .int .i64 0)] rfl ?_
  exact Rc.fin (AHeap.Sub.refl _) ⟨N0 + 2, (by omega), (by first | rfl | exact rfl | omega), rfl, rfl⟩
 ·
  clear H hse1
  rintro ⟨s1, s2, s3⟩ fl a σ H ⟨M1, fM1_0, fM1_1, rfl, rfl⟩ K2 O2 hK2 hO2
  unfold l_markInstrS_L1 at H; dsimp only at H
  refine AWP_sq [0, 1, 5] fun K3 hK3 => ?_
  refine AWP_sr tok [] [0, 1, 5, 9] (fun a σ => a = [(0, .sl w0 0 s3.length), (1, .int .i64 s1), (5, .int .i64 s2), (9, .bool (ilt s2 (ilen s3)))] ∧ σ = hp E0 [(w0, some ⟨47, 5, encL rInstr s3⟩)] (M1 + 4)) (fun K hK => ?_) ?_
  ·
   skip
   simp -dsimp -implicitDefEqProofs (maxDischargeDepth := 6)
   exact hK _ _ ⟨rfl, rfl⟩
  rintro a σ ⟨rfl, rfl⟩
  refine AWP_cond (ilt s2 (ilen s3)) rfl (fun C1 => ?_) (fun C1 => ?_)
  ·
   replace H := ifT C1 H
   refine AWP_skip ?_
   show K3 _ _
   refine keepE (l := [0, 1, 5]) (x := [(0, .sl w0 0 s3.length), (1, .int .i64 s1), (5, .int .i64 s2)]) rfl fun a' ha => ?_
   refine hK3 _ _ ?_; rw [ha]
   refine Rc.mk ?_
   refine AWP_sq [0, 1, 5] fun K4 hK4 => ?_
   refine AWP_block (AWP_thenB ?_)
   obtain ⟨v6, hv6, H⟩ := bindE H
   obtain ⟨l7, hl7, H⟩ := bindE H
   refine AWP_sr tok [] [0, 1, 5] (fun a σ => a = [(0, .sl w0 0 s3.length), (1, .int .i64 s1), (5, .int .i64 s2)] ∧ σ = hp E0 [(w0, some ⟨47, 5, encL rInstr l7⟩)] (M1 + 10)) (fun K hK => ?_) ?_
   ·
    skip
    simp -dsimp -implicitDefEqProofs (maxDischargeDepth := 6) [ixo29 hv6, (idx_lt3 hv6).2.2, (setx_iff.1 hl7).2.symm]
    exact hK _ _ ⟨rfl, rfl⟩
   rintro a σ ⟨rfl, rfl⟩
   try rw [← setx_len hl7]
   refine AWP_sr tok [] [0, 1, 5] (fun a σ => a = [(0, .sl w0 0 l7.length), (1, .int .i64 (iadd .i64 s1 1)), (5, .int .i64 s2)] ∧ σ = hp E0 [(w0, some ⟨47, 5, encL rInstr l7⟩)] (M1 + 13)) (fun K hK => ?_) ?_
   ·
    skip
    simp -dsimp -implicitDefEqProofs (maxDischargeDepth := 6)
    exact hK _ _ ⟨rfl, rfl⟩
   rintro a σ ⟨rfl, rfl⟩
   obtain ⟨v8, hv8, H⟩ := bindE H
   obtain ⟨l9, hl9, H⟩ := bindE H
   refine AWP_sr tok [] [0, 1, 5] (fun a σ => a = [(0, .sl w0 0 l7.length), (1, .int .i64 (iadd .i64 s1 1)), (5, .int .i64 s2)] ∧ σ = hp E0 [(w0, some ⟨47, 5, encL rInstr l9⟩)] (M1 + 19)) (fun K hK => ?_) ?_
   ·
    skip
    simp -dsimp -implicitDefEqProofs (maxDischargeDepth := 6) [ixo29 hv8, (idx_lt3 hv8).2.2, (setx_iff.1 hl9).2.symm]
    exact hK _ _ ⟨rfl, rfl⟩
   rintro a σ ⟨rfl, rfl⟩
   try rw [← setx_len hl9]
   refine AWP_sr tok [] [0, 1, 5] (fun a σ => a = [(0, .sl w0 0 l9.length), (1, .int .i64 (iadd .i64 (iadd .i64 s1 1) 1)), (5, .int .i64 s2)] ∧ σ = hp E0 [(w0, some ⟨47, 5, encL rInstr l9⟩)] (M1 + 22)) (fun K hK => ?_) ?_
   ·
    skip
    simp -dsimp -implicitDefEqProofs (maxDischargeDepth := 6)
    exact hK _ _ ⟨rfl, rfl⟩
   rintro a σ ⟨rfl, rfl⟩
   obtain ⟨v10, hv10, H⟩ := bindE H
   obtain ⟨l11, hl11, H⟩ := bindE H
   refine AWP_sr tok [] [0, 1, 5] (fun a σ => a = [(0, .sl w0 0 l9.length), (1, .int .i64 (iadd .i64 (iadd .i64 s1 1) 1)), (5, .int .i64 s2)] ∧ σ = hp E0 [(w0, some ⟨47, 5, encL rInstr l11⟩)] (M1 + 28)) (fun K hK => ?_) ?_
   ·
    skip
    simp -dsimp -implicitDefEqProofs (maxDischargeDepth := 6) [ixo29 hv10, (idx_lt3 hv10).2.2, (setx_iff.1 hl11).2.symm]
    exact hK _ _ ⟨rfl, rfl⟩
   rintro a σ ⟨rfl, rfl⟩
   try rw [← setx_len hl11]
   refine AWP_sr tok [] [0, 1, 5] (fun a σ => a = [(0, .sl w0 0 l11.length), (1, .int .i64 (iadd .i64 (iadd .i64 (iadd .i64 s1 1) 1) 1)), (5, .int .i64 s2)] ∧ σ = hp E0 [(w0, some ⟨47, 5, encL rInstr l11⟩)] (M1 + 31)) (fun K hK => ?_) ?_
   ·
    skip
    simp -dsimp -implicitDefEqProofs (maxDischargeDepth := 6)
    exact hK _ _ ⟨rfl, rfl⟩
   rintro a σ ⟨rfl, rfl⟩
   obtain ⟨v12, hv12, H⟩ := bindE H
   obtain ⟨l13, hl13, H⟩ := bindE H
   refine AWP_sr tok [] [0, 1, 5] (fun a σ => a = [(0, .sl w0 0 l11.length), (1, .int .i64 (iadd .i64 (iadd .i64 (iadd .i64 s1 1) 1) 1)), (5, .int .i64 s2)] ∧ σ = hp E0 [(w0, some ⟨47, 5, encL rInstr l13⟩)] (M1 + 37)) (fun K hK => ?_) ?_
   ·
    skip
    simp -dsimp -implicitDefEqProofs (maxDischargeDepth := 6) [ixo29 hv12, (idx_lt3 hv12).2.2, (setx_iff.1 hl13).2.symm]
    exact hK _ _ ⟨rfl, rfl⟩
   rintro a σ ⟨rfl, rfl⟩
   try rw [← setx_len hl13]
   refine AWP_sr tok [] [0, 1, 5] (fun a σ => a = [(0, .sl w0 0 l13.length), (1, .int .i64 (iadd .i64 (iadd .i64 (iadd .i64 (iadd .i64 s1 1) 1) 1) 1)), (5, .int .i64 s2)] ∧ σ = hp E0 [(w0, some ⟨47, 5, encL rInstr l13⟩)] (M1 + 40)) (fun K hK => ?_) ?_
   ·
    skip
    simp -dsimp -implicitDefEqProofs (maxDischargeDepth := 6)
    exact hK _ _ ⟨rfl, rfl⟩
   rintro a σ ⟨rfl, rfl⟩
   obtain ⟨v14, hv14, H⟩ := bindE H
   obtain ⟨l15, hl15, H⟩ := bindE H
   refine AWP_sr tok [] [0, 1, 5] (fun a σ => a = [(0, .sl w0 0 l13.length), (1, .int .i64 (iadd .i64 (iadd .i64 (iadd .i64 (iadd .i64 s1 1) 1) 1) 1)), (5, .int .i64 s2)] ∧ σ = hp E0 [(w0, some ⟨47, 5, encL rInstr l15⟩)] (M1 + 46)) (fun K hK => ?_) ?_
   ·
    skip
    simp -dsimp -implicitDefEqProofs (maxDischargeDepth := 6) [ixo29 hv14, (idx_lt3 hv14).2.2, (setx_iff.1 hl15).2.symm]
    exact hK _ _ ⟨rfl, rfl⟩
   rintro a σ ⟨rfl, rfl⟩
   try rw [← setx_len hl15]
   refine AWP_rt tok [] [0, 1, 5] (fun a σ => a = [(0, .sl w0 0 l15.length), (1, .int .i64 (iadd .i64 (iadd .i64 (iadd .i64 (iadd .i64 (iadd .i64 s1 1) 1) 1) 1) 1)), (5, .int .i64 s2)] ∧ σ = hp E0 [(w0, some ⟨47, 5, encL rInstr l15⟩)] (M1 + 49)) (fun K hK => ?_) ?_
   ·
    skip
    simp -dsimp -implicitDefEqProofs (maxDischargeDepth := 6)
    exact hK _ _ ⟨rfl, rfl⟩
   rintro a σ ⟨ha, rfl⟩
   refine hK4 _ _ ?_; rw [ha]
   refine Rc.mk ?_
   refine AWP_rt tok [] [0, 1, 5] (fun a σ => a = [(0, .sl w0 0 l15.length), (1, .int .i64 (iadd .i64 (iadd .i64 (iadd .i64 (iadd .i64 (iadd .i64 s1 1) 1) 1) 1) 1)), (5, .int .i64 (iadd .i64 s2 1))] ∧ σ = hp E0 [(w0, some ⟨47, 5, encL rInstr l15⟩)] (M1 + 52)) (fun K hK => ?_) ?_
   ·
    skip
    simp -dsimp -implicitDefEqProofs (maxDischargeDepth := 6)
    exact hK _ _ ⟨rfl, rfl⟩
   rintro a σ ⟨ha, rfl⟩
   replace H := Option.some.inj H; subst H
   refine hK2 _ _ _ rfl ?_; rw [ha]
   exact Rc.fin (AHeap.Sub.refl _) ⟨M1 + 52, (by omega), (by first | rfl | exact ((setx_len hl15).trans ((setx_len hl13).trans ((setx_len hl11).trans ((setx_len hl9).trans ((setx_len hl7).trans fM1_1))))) | omega), rfl, rfl⟩
  ·
   replace H := ifF C1 H
   replace H := Option.some.inj H; subst H
   refine AWP_exit (hO2 _ _ _ _ rfl ⟨rfl, ?_⟩)
   refine Rc.rw (l := [1]) (X := [(1, .int .i64 s1)]) rfl ?_
   exact Rc.fin (AHeap.Sub.refl _) ⟨M1 + 4, (by omega), (by first | rfl | exact fM1_1 | omega), rfl, rfl⟩
 ·
  intro x a σ hx
  obtain ⟨y4, y5⟩ := e1
  obtain ⟨rfl, b, τ, hr, M2, fM2_0, fM2_1, rfl, rfl⟩ := hx
  dsimp only at H
  show K1 _ _
  refine hK1 _ _ (Rc_ref hr ?_)
  refine Rc.mk ?_
  refine AWP_sr tok [] [4] (fun a σ => a = [(4, .int .i64 y4)] ∧ σ = hp E0 [(w0, some ⟨47, 5, encL rInstr y5⟩)] (M2 + 2)) (fun K hK => ?_) ?_
  ·
   skip
   simp -dsimp -implicitDefEqProofs (maxDischargeDepth := 6)
   exact hK _ _ ⟨rfl, rfl⟩
  rintro a σ ⟨rfl, rfl⟩
  replace H := Option.some.inj H; subst H
  refine AWP_kp [4] [(4, .int .i64 y4)] rfl ?_
  refine AWP_ret ?_
  refine ⟨[.int .i64 y4], by simp, M2 + 2, by omega, by first | rfl | exact fM2_1 | omega, ?_, ?_⟩
  ·
   simp [encL_nil]
  ·
   first | rfl | simp [List.set_set]
theorem c16_o {p0 : (List gInstr)} {r : (List gInstr)} (H : l_toInstrS_o p0 = some r) {σ : AHeap} : ACalls Tryd.prog G 16 [.fsl (encL rInstr p0)] σ (fun v σ' => ∃ M n0 : Nat, σ.next ≤ M ∧ σ.next ≤ n0 ∧ n0 < M ∧ v = .sl n0 0 r.length ∧ σ' = hp σ.objs [(n0, some ⟨47, 5, encL rInstr r⟩)] M) := by
 refine ACalls_fr (L := []) (Q1 := fun v σ' => ∃ M n0 : Nat, σ.next ≤ M ∧ σ.next ≤ n0 ∧ n0 < M ∧ v = .sl n0 0 r.length ∧ σ' = hp E0 [(n0, some ⟨47, 5, encL rInstr r⟩)] M) (by simp []) (fun hlt => ?_) ?_ ⟨_, Tryd.func16, rfl, rfl⟩
 rotate_left
 ·
  rintro v σ1 ⟨M, n0, h0, h1, h2, rfl, rfl⟩
  exact ⟨_, M, rfl, by simp, by simp; try omega, M, n0, h0, h1, h2, rfl, rfl⟩
 generalize σ.next = N0 at hlt ⊢
 refine ACalls_fn tok Tryd.func16 (by kernel_rfl) rfl Tryd.ntmps16 Tryd.results16 rfl ?_
 simp only [argsA, Nat.reduceAdd, hp_next]
 unfold l_toInstrS_o at H
 refine AWP_sr tok [] [0] (fun a σ => a = [(0, .fsl (encL rInstr p0))] ∧ σ = hp E0 [] (N0 + 1)) (fun K hK => ?_) ?_
 ·
  skip
  simp -dsimp -implicitDefEqProofs (maxDischargeDepth := 6)
  exact hK _ _ ⟨rfl, rfl⟩
 rintro a σ ⟨rfl, rfl⟩
 obtain ⟨l1, hl1, H⟩ := bindE H
 refine AWP_sr tok [] [0, 3] (fun a σ => a = [(0, .fsl (encL rInstr p0)), (3, .sl (N0 + 3) 0 l1.length)] ∧ σ = hp E0 [(N0 + 3, some ⟨47, 5, encL rInstr l1⟩)] (N0 + 5)) (fun K hK => ?_) ?_
 ·
  skip
  simp -dsimp -implicitDefEqProofs (maxDischargeDepth := 6) [mak29 hl1]
  exact hK _ _ ⟨rfl, rfl⟩
 rintro a σ ⟨rfl, rfl⟩
 refine AWP_sq [3] fun K1 hK1 => ?_
 refine AWP_sr tok [] [0, 3, 4] (fun a σ => a = [(0, .fsl (encL rInstr p0)), (3, .sl (N0 + 3) 0 l1.length), (4, .int .i64 0)] ∧ σ = hp E0 [(N0 + 3, some ⟨47, 5, encL rInstr l1⟩)] (N0 + 6)) (fun K hK => ?_) ?_
 ·
  skip
  simp -dsimp -implicitDefEqProofs (maxDischargeDepth := 6)
  exact hK _ _ ⟨rfl, rfl⟩
 rintro a σ ⟨rfl, rfl⟩
 refine AWP_block (AWP_thenB ?_)
 obtain ⟨e1, hse1, H⟩ := bindE H
 refine AWP_lp [0, 3, 4] (fun s a σ => ∃ M1 o1 : Nat, N0 ≤ M1 ∧ N0 ≤ o1 ∧ o1 < M1 ∧ a = [(0, .fsl (encL rInstr p0)), (3, .sl o1 0 s.2.length), (4, .int .i64 s.1)] ∧ σ = hp E0 [(o1, some ⟨47, 5, encL rInstr s.2⟩)] M1) (fun s x a σ => x = .exit 0 ∧ Rc G 23 N0 (fun a σ => ∃ M2 o2 : Nat, N0 ≤ M2 ∧ N0 ≤ o2 ∧ o2 < M2 ∧ a = [(3, .sl o2 0 s.length)] ∧ σ = hp E0 [(o2, some ⟨47, 5, encL rInstr s⟩)] M2) (AAct.keep a [3]) σ) hse1 ?_ ?_ ?_
 ·
  refine Rc.kp [0, 3, 4] [(0, .fsl (encL rInstr p0)), (3, .sl (N0 + 3) 0 l1.length), (4, .int .i64 0)] rfl ?_
  exact Rc.fin (AHeap.Sub.refl _) ⟨N0 + 6, (N0 + 3), (by omega), (by omega), (by omega), rfl, rfl⟩
 ·
  clear H hse1
  rintro ⟨s2, s3⟩ fl a σ H ⟨M1, o1, fM1_0, fM1_1, fM1_2, rfl, rfl⟩ K2 O2 hK2 hO2
  unfold l_toInstrS_o_L1 at H; dsimp only at H
  refine AWP_sq [0, 3, 4] fun K3 hK3 => ?_
  refine AWP_sr tok [] [0, 3, 4, 11] (fun a σ => a = [(0, .fsl (encL rInstr p0)), (3, .sl o1 0 s3.length), (4, .int .i64 s2), (11, .bool (ilt s2 (ilen p0)))] ∧ σ = hp E0 [(o1, some ⟨47, 5, encL rInstr s3⟩)] (M1 + 4)) (fun K hK => ?_) ?_
  ·
   skip
   simp -dsimp -implicitDefEqProofs (maxDischargeDepth := 6)
   exact hK _ _ ⟨rfl, rfl⟩
  rintro a σ ⟨rfl, rfl⟩
  refine AWP_cond (ilt s2 (ilen p0)) rfl (fun C1 => ?_) (fun C1 => ?_)
  ·
   replace H := ifT C1 H
   refine AWP_skip ?_
   show K3 _ _
   refine keepE (l := [0, 3, 4]) (x := [(0, .fsl (encL rInstr p0)), (3, .sl o1 0 s3.length), (4, .int .i64 s2)]) rfl fun a' ha => ?_
   refine hK3 _ _ ?_; rw [ha]
   refine Rc.mk ?_
   refine AWP_sq [0, 3, 4] fun K4 hK4 => ?_
   refine AWP_block (AWP_thenB ?_)
   obtain ⟨v5, hv5, H⟩ := bindE H
   obtain ⟨r6, hr6, H⟩ := bindE H
   obtain ⟨v7, hv7, H⟩ := bindE H
   obtain ⟨l8, hl8, H⟩ := bindE H
   refine AWP_rt tok [] [0, 3, 4] (fun a σ => a = [(0, .fsl (encL rInstr p0)), (3, .sl o1 0 s3.length), (4, .int .i64 s2)] ∧ σ = hp E0 [(o1, some ⟨47, 5, encL rInstr l8⟩)] (M1 + 13)) (fun K hK => ?_) ?_
   ·
    skip
    simp -dsimp -implicitDefEqProofs (maxDischargeDepth := 6) [ix22 hv5, ixo29 hv7, (idx_lt3 hv7).2.2, (setx_iff.1 hl8).2.symm]
    refine (c61 hr6).app ?_; try simp -dsimp -implicitDefEqProofs (maxDischargeDepth := 6) [ix22 hv5, ixo29 hv7, (idx_lt3 hv7).2.2, (setx_iff.1 hl8).2.symm]
    exact hK _ _ ⟨rfl, rfl⟩
   rintro a σ ⟨ha, rfl⟩
   (try rw [← setx_len hl8] at ha); (try rw [← setx_len hl8])
   refine hK4 _ _ ?_; rw [ha]
   refine Rc.mk ?_
   refine AWP_rt tok [] [0, 3, 4] (fun a σ => a = [(0, .fsl (encL rInstr p0)), (3, .sl o1 0 l8.length), (4, .int .i64 (iadd .i64 s2 1))] ∧ σ = hp E0 [(o1, some ⟨47, 5, encL rInstr l8⟩)] (M1 + 16)) (fun K hK => ?_) ?_
   ·
    skip
    simp -dsimp -implicitDefEqProofs (maxDischargeDepth := 6)
    exact hK _ _ ⟨rfl, rfl⟩
   rintro a σ ⟨ha, rfl⟩
   replace H := Option.some.inj H; subst H
   refine hK2 _ _ _ rfl ?_; rw [ha]
   exact Rc.fin (AHeap.Sub.refl _) ⟨M1 + 16, o1, (by omega), (by omega), (by omega), rfl, rfl⟩
  ·
   replace H := ifF C1 H
   replace H := Option.some.inj H; subst H
   refine AWP_exit (hO2 _ _ _ _ rfl ⟨rfl, ?_⟩)
   refine Rc.rw (l := [3]) (X := [(3, .sl o1 0 s3.length)]) rfl ?_
   exact Rc.fin (AHeap.Sub.refl _) ⟨M1 + 4, o1, (by omega), (by omega), (by omega), rfl, rfl⟩
 ·
  intro x a σ hx
  obtain ⟨y4, rfl⟩ : ∃ x, x = e1 := ⟨_, rfl⟩
  obtain ⟨rfl, b, τ, hr, M2, o2, fM2_0, fM2_1, fM2_2, rfl, rfl⟩ := hx
  dsimp only at H
  show K1 _ _
  refine hK1 _ _ (Rc_ref hr ?_)
  refine Rc.mk ?_
  refine AWP_sr tok [] [2] (fun a σ => a = [(2, .sl o2 0 y4.length)] ∧ σ = hp E0 [(o2, some ⟨47, 5, encL rInstr y4⟩)] (M2 + 2)) (fun K hK => ?_) ?_
  ·
   skip
   simp -dsimp -implicitDefEqProofs (maxDischargeDepth := 6)
   exact hK _ _ ⟨rfl, rfl⟩
  rintro a σ ⟨rfl, rfl⟩
  replace H := Option.some.inj H; subst H
  refine AWP_kp [2] [(2, .sl o2 0 y4.length)] rfl ?_
  refine AWP_ret ?_
  refine ⟨[.sl o2 0 y4.length], by simp, M2 + 2, o2, by omega, by omega, by omega, ?_, ?_⟩
  ·
   simp [encL_nil]
  ·
   first | rfl | simp [List.set_set]
theorem c17_o2 {p0 : (List gInstr)} {r : gMachine × Bool} (H : i_HartNew_o2 p0 = some r) {σ : AHeap} : ACalls Tryd.prog G 17 [.fsl (encL rInstr p0)] σ (fun v σ' => ∃ M n0 n1 : Nat, σ.next ≤ M ∧ σ.next ≤ n0 ∧ n0 < M ∧ σ.next ≤ n1 ∧ n1 < M ∧ ¬ n0 = n1 ∧ v = .tup [.agg [.sl n0 0 r.1.Regs.length, .int .i64 r.1.Pc, .sl n1 0 r.1.Mem.length], .bool r.2] ∧ σ' = hp σ.objs [(n0, some ⟨3, 1, encL rI r.1.Regs⟩), (n1, some ⟨3, 1, encL rI r.1.Mem⟩)] M) := by
 refine ACalls_fr (L := []) (Q1 := fun v σ' => ∃ M n0 n1 : Nat, σ.next ≤ M ∧ σ.next ≤ n0 ∧ n0 < M ∧ σ.next ≤ n1 ∧ n1 < M ∧ ¬ n0 = n1 ∧ v = .tup [.agg [.sl n0 0 r.1.Regs.length, .int .i64 r.1.Pc, .sl n1 0 r.1.Mem.length], .bool r.2] ∧ σ' = hp E0 [(n0, some ⟨3, 1, encL rI r.1.Regs⟩), (n1, some ⟨3, 1, encL rI r.1.Mem⟩)] M) (by simp []) (fun hlt => ?_) ?_ ⟨_, Tryd.func17, rfl, rfl⟩
 rotate_left
 ·
  rintro v σ1 ⟨M, n0, n1, h0, h1, h2, h3, h4, h5, rfl, rfl⟩
  exact ⟨_, M, rfl, by simp, by simp; try omega, M, n0, n1, h0, h1, h2, h3, h4, h5, rfl, rfl⟩
 generalize σ.next = N0 at hlt ⊢
 refine ACalls_thaw 4 ?_
 refine ACalls_fn tok Tryd.func17 (by kernel_rfl) rfl Tryd.ntmps17 Tryd.results17 rfl ?_
 simp only [argsA, Nat.reduceAdd, hp_next]
 unfold i_HartNew_o2 at H
 refine AWP_sr tok [] [0, 2] (fun a σ => a = [(0, .fsl (encL rInstr p0)), (2, .ptr N0 0 0)] ∧ σ = hp E0 [(N0, some ⟨26, 3, [[.nilsl, .int .i64 0, .nilsl]]⟩)] (N0 + 2)) (fun K hK => ?_) ?_
 ·
  skip
  simp -dsimp -implicitDefEqProofs (maxDischargeDepth := 6)
  exact hK _ _ ⟨rfl, rfl⟩
 rintro a σ ⟨rfl, rfl⟩
 refine gPk0 AWP_ref (o := N0) (ob := ⟨26, 3, [[.nilsl, .int .i64 0, .nilsl]]⟩) (row := [.nilsl, .int .i64 0, .nilsl]) (r := 0) (i := 0) 3 1 [(N0, some ⟨26, 3, [[.osl 3 1 (encL rI ([] : List Int)), .int .i64 0, .nilsl]]⟩)] (by simp (disch := omega)) rfl rfl (by simp (disch := omega)) (by simp (disch := omega) [encL_nil, List.set_set, app_set]) ?_
 refine gPk0 AWP_ref (o := N0) (ob := ⟨26, 3, [[.osl 3 1 (encL rI ([] : List Int)), .int .i64 0, .nilsl]]⟩) (row := [.osl 3 1 (encL rI ([] : List Int)), .int .i64 0, .nilsl]) (r := 0) (i := 2) 3 1 [(N0, some ⟨26, 3, [[.osl 3 1 (encL rI ([] : List Int)), .int .i64 0, .osl 3 1 (encL rI ([] : List Int))]]⟩)] (by simp (disch := omega)) rfl rfl (by simp (disch := omega)) (by simp (disch := omega) [encL_nil, List.set_set, app_set]) ?_
 obtain ⟨r1, hr1, H⟩ := bindE H
 refine AWP_sr tok [] [2, 4, 5] (fun a σ => a = [(2, .ptr N0 0 0), (4, .fsl (encL rI r1.1)), (5, .bool r1.2)] ∧ σ = hp E0 [(N0, some ⟨26, 3, [[.osl 3 1 (encL rI ([] : List Int)), .int .i64 0, .osl 3 1 (encL rI ([] : List Int))]]⟩)] (N0 + 9)) (fun K hK => ?_) ?_
 ·
  skip
  simp -dsimp -implicitDefEqProofs (maxDischargeDepth := 6)
  refine (c62 hr1).app ?_; try simp -dsimp -implicitDefEqProofs (maxDischargeDepth := 6)
  exact hK _ _ ⟨rfl, rfl⟩
 rintro a σ ⟨rfl, rfl⟩
 refine AWP_sq [2, 4] fun K1 hK1 => ?_
 obtain ⟨g2, hg2, H⟩ := bindE H
 refine AWP_sr tok [] [2, 4, 20] (fun a σ => a = [(2, .ptr N0 0 0), (4, .fsl (encL rI r1.1)), (20, .bool g2)] ∧ σ = hp E0 [(N0, some ⟨26, 3, [[.osl 3 1 (encL rI ([] : List Int)), .int .i64 0, .osl 3 1 (encL rI ([] : List Int))]]⟩)] (N0 + 18)) (fun K hK => ?_) ?_
 ·
  skip
  simp -dsimp -implicitDefEqProofs (maxDischargeDepth := 6)
  cases hbg2 : bnot r1.2
  ·
   replace hg2 := ifF hbg2 hg2
   replace hg2 := Option.some.inj hg2; subst hg2
   try simp -dsimp -implicitDefEqProofs (maxDischargeDepth := 6) [hbg2]
   exact hK _ _ ⟨rfl, rfl⟩
  ·
   replace hg2 := ifT hbg2 hg2
   replace hg2 := Option.some.inj hg2; subst hg2
   try simp -dsimp -implicitDefEqProofs (maxDischargeDepth := 6) [hbg2]
   exact hK _ _ ⟨rfl, rfl⟩
 rintro a σ ⟨rfl, rfl⟩
 refine AWP_cond g2 rfl (fun C1 => ?_) (fun C1 => ?_)
 ·
  replace H := ifT C1 H
  refine AWP_sr tok [0] [2, 3] (fun a σ => a = [(2, .ptr N0 0 0), (3, .bool false)] ∧ σ = hp E0 [(N0, some ⟨26, 3, [[.nilsl, .int .i64 0, .nilsl]]⟩)] (N0 + 21)) (fun K hK => ?_) ?_
  ·
   skip
   simp -dsimp -implicitDefEqProofs (maxDischargeDepth := 6)
   exact hK _ _ ⟨rfl, rfl⟩
  rintro a σ ⟨rfl, rfl⟩
  replace H := Option.some.inj H; subst H
  refine AWP_kp [2, 3] [(2, .ptr N0 0 0), (3, .bool false)] rfl ?_
  refine gPk0 AWP_ref (o := N0) (ob := ⟨26, 3, [[.nilsl, .int .i64 0, .nilsl]]⟩) (row := [.nilsl, .int .i64 0, .nilsl]) (r := 0) (i := 0) 3 1 [(N0, some ⟨26, 3, [[.osl 3 1 (encL rI ([] : List Int)), .int .i64 0, .nilsl]]⟩)] (by simp (disch := omega)) rfl rfl (by simp (disch := omega)) (by simp (disch := omega) [encL_nil, List.set_set, app_set]) ?_
  refine gPk0 AWP_ref (o := N0) (ob := ⟨26, 3, [[.osl 3 1 (encL rI ([] : List Int)), .int .i64 0, .nilsl]]⟩) (row := [.osl 3 1 (encL rI ([] : List Int)), .int .i64 0, .nilsl]) (r := 0) (i := 2) 3 1 [(N0, some ⟨26, 3, [[.osl 3 1 (encL rI ([] : List Int)), .int .i64 0, .osl 3 1 (encL rI ([] : List Int))]]⟩)] (by simp (disch := omega)) rfl rfl (by simp (disch := omega)) (by simp (disch := omega) [encL_nil, List.set_set, app_set]) ?_
  refine gUnp AWP_ref (ty := 3) (sz := 1) (es := encL rI ([] : List Int)) (o := N0) (ob := ⟨26, 3, [[.osl 3 1 (encL rI ([] : List Int)), .int .i64 0, .osl 3 1 (encL rI ([] : List Int))]]⟩) (row := [.osl 3 1 (encL rI ([] : List Int)), .int .i64 0, .osl 3 1 (encL rI ([] : List Int))]) (r := 0) (i := 0) [(N0, some ⟨26, 3, [[.sl (N0 + 21) 0 ([] : List Int).length, .int .i64 0, .osl 3 1 (encL rI ([] : List Int))]]⟩), (N0 + 21, some ⟨3, 1, encL rI ([] : List Int)⟩)] (by simp (disch := omega)) rfl rfl (by simp (disch := omega) [List.set_set]) ?_
  refine gUnp AWP_ref (ty := 3) (sz := 1) (es := encL rI ([] : List Int)) (o := N0) (ob := ⟨26, 3, [[.sl (N0 + 21) 0 ([] : List Int).length, .int .i64 0, .osl 3 1 (encL rI ([] : List Int))]]⟩) (row := [.sl (N0 + 21) 0 ([] : List Int).length, .int .i64 0, .osl 3 1 (encL rI ([] : List Int))]) (r := 0) (i := 2) [(N0, some ⟨26, 3, [[.sl (N0 + 21) 0 ([] : List Int).length, .int .i64 0, .sl (N0 + 22) 0 ([] : List Int).length]]⟩), (N0 + 21, some ⟨3, 1, encL rI ([] : List Int)⟩), (N0 + 22, some ⟨3, 1, encL rI ([] : List Int)⟩)] (by simp (disch := omega)) rfl rfl (by simp (disch := omega) [List.set_set]) ?_
  refine AWP_ret ?_
  refine ⟨[.agg [.sl (N0 + 21) 0 ([] : List Int).length, .int .i64 0, .sl (N0 + 22) 0 ([] : List Int).length], .bool false], by simp, (fun o => [N0].contains o), N0 + 23, N0 + 21, N0 + 22, by omega, by omega, by omega, by omega, by omega, by omega, ?_, ?_⟩
  ·
   simp [encL_nil]
  ·
   rw [cutD (L' := [(N0 + 21, some ⟨3, 1, encL rI ([] : List Int)⟩), (N0 + 22, some ⟨3, 1, encL rI ([] : List Int)⟩)]) (by simp)]
   first | done | rfl | simp [List.set_set]
 ·
  replace H := ifF C1 H
  refine AWP_skip ?_
  show K1 _ _
  refine keepE (l := [2, 4]) (x := [(2, .ptr N0 0 0), (4, .fsl (encL rI r1.1))]) rfl fun a' ha => ?_
  refine hK1 _ _ ?_; rw [ha]
  refine Rc.mk ?_
  obtain ⟨l3, hl3, H⟩ := bindE H
  obtain ⟨l4, hl4, H⟩ := bindE H
  obtain ⟨l5, hl5, H⟩ := bindE H
  have q0 : ∀ σ i, buildSliceA T 24 false i 1 [(0, .int .i64 0)] σ = some (.sl i 0 (List.length l3), σ.put i ⟨3, 1, encL rI l3⟩) := by rw [← Option.some.inj hl3]; intro _ _; rfl
  refine AWP_sd tok tokM [] [0, 1, 3, 5, 6] [2, 1, 3, 0, 4, 5, 6] [2, 6] (fun a σ => a = [(2, .ptr N0 0 0), (6, .ptr (N0 + 23) 0 0)] ∧ σ = hp E0 [(N0, some ⟨26, 3, [[.osl 3 1 (encL rI ([] : List Int)), .int .i64 0, .osl 3 1 (encL rI ([] : List Int))]]⟩), (N0 + 21, some ⟨3, 1, encL rI l4⟩), (N0 + 18, some ⟨3, 1, encL rI l5⟩), (N0 + 23, some ⟨26, 3, [[.sl (N0 + 18) 0 l5.length, .int .i64 4, .sl (N0 + 21) 0 l4.length]]⟩)] (N0 + 25)) (by decide) (fun K hK => ?_) ?_
  ·
   simp only [pickL, nthO_succ, nthO_zero]
   simp -dsimp -implicitDefEqProofs (maxDischargeDepth := 6) [q0, app24 hl4, mak24 hl5]
   exact hK _ _ ⟨rfl, rfl⟩
  rintro a σ ⟨rfl, rfl⟩
  obtain ⟨v6, hv6, H⟩ := bindE H
  obtain ⟨l7, hl7, H⟩ := bindE H
  refine AWP_sr tok [] [2, 6] (fun a σ => a = [(2, .ptr N0 0 0), (6, .ptr (N0 + 23) 0 0)] ∧ σ = hp E0 [(N0, some ⟨26, 3, [[.osl 3 1 (encL rI ([] : List Int)), .int .i64 0, .osl 3 1 (encL rI ([] : List Int))]]⟩), (N0 + 21, some ⟨3, 1, encL rI l4⟩), (N0 + 18, some ⟨3, 1, encL rI l7⟩), (N0 + 23, some ⟨26, 3, [[.sl (N0 + 18) 0 l5.length, .int .i64 4, .sl (N0 + 21) 0 l4.length]]⟩)] (N0 + 33)) (fun K hK => ?_) ?_
  ·
   skip
   simp -dsimp -implicitDefEqProofs (maxDischargeDepth := 6) [ixo24 hv6, (show _[2]? = some v6 from (idx_lt3 hv6).2.2), (show List.set _ 2 _ = l7 from (setx_iff.1 hl7).2.symm)]
   exact hK _ _ ⟨rfl, rfl⟩
  rintro a σ ⟨rfl, rfl⟩
  try rw [← setx_len hl7]
  obtain ⟨l8, hl8, H⟩ := bindE H
  refine AWP_sr tok [] [2, 6] (fun a σ => a = [(2, .ptr N0 0 0), (6, .ptr (N0 + 23) 0 0)] ∧ σ = hp E0 [(N0, some ⟨26, 3, [[.osl 3 1 (encL rI ([] : List Int)), .int .i64 0, .osl 3 1 (encL rI ([] : List Int))]]⟩), (N0 + 18, some ⟨3, 1, encL rI l7⟩), (N0 + 23, some ⟨26, 3, [[.sl (N0 + 18) 0 l7.length, .int .i64 4, .sl (N0 + 35) 0 l8.length]]⟩), (N0 + 35, some ⟨3, 1, encL rI l8⟩)] (N0 + 38)) (fun K hK => ?_) ?_
  ·
   skip
   simp -dsimp -implicitDefEqProofs (maxDischargeDepth := 6) [appz24_3 hl8]
   exact hK _ _ ⟨rfl, rfl⟩
  rintro a σ ⟨rfl, rfl⟩
  refine AWP_sr tok [] [2, 3] (fun a σ => a = [(2, .ptr N0 0 0), (3, .bool true)] ∧ σ = hp E0 [(N0, some ⟨26, 3, [[.sl (N0 + 18) 0 l7.length, .int .i64 4, .sl (N0 + 35) 0 l8.length]]⟩), (N0 + 18, some ⟨3, 1, encL rI l7⟩), (N0 + 23, some ⟨26, 3, [[.sl (N0 + 18) 0 l7.length, .int .i64 4, .sl (N0 + 35) 0 l8.length]]⟩), (N0 + 35, some ⟨3, 1, encL rI l8⟩)] (N0 + 41)) (fun K hK => ?_) ?_
  ·
   skip
   simp -dsimp -implicitDefEqProofs (maxDischargeDepth := 6)
   exact hK _ _ ⟨rfl, rfl⟩
  rintro a σ ⟨rfl, rfl⟩
  replace H := Option.some.inj H; subst H
  refine AWP_kp [2, 3] [(2, .ptr N0 0 0), (3, .bool true)] rfl ?_
  refine gDrop AWP_ref [(N0, some ⟨26, 3, [[.sl (N0 + 18) 0 l7.length, .int .i64 4, .sl (N0 + 35) 0 l8.length]]⟩), (N0 + 18, some ⟨3, 1, encL rI l7⟩), (N0 + 35, some ⟨3, 1, encL rI l8⟩)] (hp_skip (hp_skip (AHeap.Sub.trans (hp_skip (AHeap.Sub.refl _)) (hp_drop rfl (by simp; try omega))))) ?_
  refine gPk AWP_ref (k := l7.length) (o := N0) (ob := ⟨26, 3, [[.sl (N0 + 18) 0 l7.length, .int .i64 4, .sl (N0 + 35) 0 l8.length]]⟩) (row := [.sl (N0 + 18) 0 l7.length, .int .i64 4, .sl (N0 + 35) 0 l8.length]) (d := (N0 + 18)) (obd := ⟨3, 1, encL rI l7⟩) (r := 0) (i := 0) [(N0, some ⟨26, 3, [[.osl 3 1 (encL rI l7), .int .i64 4, .sl (N0 + 35) 0 l8.length]]⟩), (N0 + 35, some ⟨3, 1, encL rI l8⟩)] (by simp (disch := omega)) rfl rfl (by simp (disch := omega)) (by simp (disch := omega)) (by first | omega | simp) (by simp (disch := omega) [List.set_set, app_set] <;> omega) (by simp (disch := omega) [List.set_set, app_set]) ?_
  refine gPk AWP_ref (k := l8.length) (o := N0) (ob := ⟨26, 3, [[.osl 3 1 (encL rI l7), .int .i64 4, .sl (N0 + 35) 0 l8.length]]⟩) (row := [.osl 3 1 (encL rI l7), .int .i64 4, .sl (N0 + 35) 0 l8.length]) (d := (N0 + 35)) (obd := ⟨3, 1, encL rI l8⟩) (r := 0) (i := 2) [(N0, some ⟨26, 3, [[.osl 3 1 (encL rI l7), .int .i64 4, .osl 3 1 (encL rI l8)]]⟩)] (by simp (disch := omega)) rfl rfl (by simp (disch := omega)) (by simp (disch := omega)) (by first | omega | simp) (by simp (disch := omega) [List.set_set, app_set] <;> omega) (by simp (disch := omega) [List.set_set, app_set]) ?_
  refine gUnp AWP_ref (ty := 3) (sz := 1) (es := encL rI l7) (o := N0) (ob := ⟨26, 3, [[.osl 3 1 (encL rI l7), .int .i64 4, .osl 3 1 (encL rI l8)]]⟩) (row := [.osl 3 1 (encL rI l7), .int .i64 4, .osl 3 1 (encL rI l8)]) (r := 0) (i := 0) [(N0, some ⟨26, 3, [[.sl (N0 + 41) 0 l7.length, .int .i64 4, .osl 3 1 (encL rI l8)]]⟩), (N0 + 41, some ⟨3, 1, encL rI l7⟩)] (by simp (disch := omega)) rfl rfl (by simp (disch := omega) [List.set_set]) ?_
  refine gUnp AWP_ref (ty := 3) (sz := 1) (es := encL rI l8) (o := N0) (ob := ⟨26, 3, [[.sl (N0 + 41) 0 l7.length, .int .i64 4, .osl 3 1 (encL rI l8)]]⟩) (row := [.sl (N0 + 41) 0 l7.length, .int .i64 4, .osl 3 1 (encL rI l8)]) (r := 0) (i := 2) [(N0, some ⟨26, 3, [[.sl (N0 + 41) 0 l7.length, .int .i64 4, .sl (N0 + 42) 0 l8.length]]⟩), (N0 + 41, some ⟨3, 1, encL rI l7⟩), (N0 + 42, some ⟨3, 1, encL rI l8⟩)] (by simp (disch := omega)) rfl rfl (by simp (disch := omega) [List.set_set]) ?_
  refine AWP_ret ?_
  refine ⟨[.agg [.sl (N0 + 41) 0 l7.length, .int .i64 4, .sl (N0 + 42) 0 l8.length], .bool true], by simp, (fun o => [N0].contains o), N0 + 43, N0 + 41, N0 + 42, by omega, by omega, by omega, by omega, by omega, by omega, ?_, ?_⟩
  ·
   simp [encL_nil]
  ·
   rw [cutD (L' := [(N0 + 41, some ⟨3, 1, encL rI l7⟩), (N0 + 42, some ⟨3, 1, encL rI l8⟩)]) (by simp)]
   first | done | rfl | simp [List.set_set]
theorem c17_o2_b {p0 : (List gInstr)} {r : gMachine × Bool} (H : i_HartNew_o2 p0 = some r) {σ : AHeap} {args : List AV} (hy : args.map (thawA (fun _ => true) σ 8) = [.fsl (encL rInstr p0)]) : ACalls Tryd.prog G 17 args σ (fun v σ' => ∃ M n0 n1 : Nat, σ.next ≤ M ∧ σ.next ≤ n0 ∧ n0 < M ∧ σ.next ≤ n1 ∧ n1 < M ∧ ¬ n0 = n1 ∧ v = .tup [.agg [.sl n0 0 r.1.Regs.length, .int .i64 r.1.Pc, .sl n1 0 r.1.Mem.length], .bool r.2] ∧ σ' = hp σ.objs [(n0, some ⟨3, 1, encL rI r.1.Regs⟩), (n1, some ⟨3, 1, encL rI r.1.Mem⟩)] M) := by
 refine borrowQ 8 8 (c17_o2 (σ := ⟨E0, σ.next⟩) H) hy ?_
 rintro _ _ ⟨M, n0, n1, h0, h1, h2, h3, h4, h5, rfl, rfl⟩
 refine ⟨_, M, rfl, by simp [AV.rnf, AV.simp1], fun p hp ob ho => ?_, by simp, M, n0, n1, h0, h1, h2, h3, h4, h5, rfl, rfl⟩
 simp only [List.mem_cons, List.not_mem_nil, or_false] at hp
 rcases hp with rfl | rfl <;> (cases ho; first | exact encL_nf (fun x => nf_rI 7 x) _ | exact encL_nf (fun x => nf_rI 7 x) _ | simp [AV.nf, AV.simp1])
theorem c42 {p0 : (List Int)} {p1 : Int} {r : Int × (List Int)} (H : l_markIntS p0 p1 = some r) {σ : AHeap} {w0 : Nat} (q0 : σ.objs w0 = some ⟨3, 1, encL rI p0⟩) : ACalls Tryd.prog G 42 [.sl w0 0 p0.length, .int .i64 p1] σ (fun v σ' => ∃ M : Nat, σ.next ≤ M ∧ r.2.length = p0.length ∧ v = .int .i64 r.1 ∧ σ' = hp σ.objs [(w0, some ⟨3, 1, encL rI r.2⟩)] M) := by
 refine ACalls_fr (L := [(w0, some ⟨3, 1, encL rI p0⟩)]) (Q1 := fun v σ' => ∃ M : Nat, σ.next ≤ M ∧ r.2.length = p0.length ∧ v = .int .i64 r.1 ∧ σ' = hp E0 [(w0, some ⟨3, 1, encL rI r.2⟩)] M) (by simp [q0]) (fun hlt => ?_) ?_ ⟨_, Tryd.func42, rfl, rfl⟩
 rotate_left
 ·
  rintro v σ1 ⟨M, h0, h1, rfl, rfl⟩
  exact ⟨_, M, rfl, by simp, by simp; try omega, M, h0, h1, rfl, rfl⟩
 generalize σ.next = N0 at hlt ⊢
 have lw0 : w0 < N0 := hlt _ (.head _) rfl
 refine ACalls_fn tok Tryd.func42 (by kernel_rfl) rfl Tryd.ntmps42 Tryd.results42 rfl ?_
 simp only [argsA, Nat.reduceAdd, hp_next]
 unfold l_markIntS at H
 refine AWP_sr tok [] [0, 1] (fun a σ => a = [(0, .sl w0 0 p0.length), (1, .int .i64 p1)] ∧ σ = hp E0 [(w0, some ⟨3, 1, encL rI p0⟩)] (N0 + 1)) (fun K hK => ?_) ?_
 ·
  skip
  simp -dsimp -implicitDefEqProofs (maxDischargeDepth := 6)
  exact hK _ _ ⟨rfl, rfl⟩
 rintro a σ ⟨rfl, rfl⟩
 refine AWP_sq [1] fun K1 hK1 => ?_
 refine AWP_sr tok [] [0, 1, 5] (fun a σ => a = [(0, .sl w0 0 p0.length), (1, .int .i64 p1), (5, .int .i64 0)] ∧ σ = hp E0 [(w0, some ⟨3, 1, encL rI p0⟩)] (N0 + 2)) (fun K hK => ?_) ?_
 ·
  skip
  simp -dsimp -implicitDefEqProofs (maxDischargeDepth := 6)
  exact hK _ _ ⟨rfl, rfl⟩
 rintro a σ ⟨rfl, rfl⟩
 refine AWP_block (AWP_thenB ?_)
 obtain ⟨e1, hse1, H⟩ := bindE H
 refine AWP_lp [0, 1, 5] (fun s a σ => ∃ M1 : Nat, N0 ≤ M1 ∧ s.2.2.length = p0.length ∧ a = [(0, .sl w0 0 s.2.2.length), (1, .int .i64 s.1), (5, .int .i64 s.2.1)] ∧ σ = hp E0 [(w0, some ⟨3, 1, encL rI s.2.2⟩)] M1) (fun s x a σ => x = .exit 0 ∧ Rc G 19 N0 (fun a σ => ∃ M2 : Nat, N0 ≤ M2 ∧ s.2.length = p0.length ∧ a = [(1, .int .i64 s.1)] ∧ σ = hp E0 [(w0, some ⟨3, 1, encL rI s.2⟩)] M2) (AAct.keep a [1]) σ) hse1 ?_ ?_ ?_
 ·
  refine Rc.kp [0, 1, 5] [(0, .sl w0 0 p0.length), (1, .int .i64 p1), (5, .int .i64 0)] rfl ?_
  exact Rc.fin (AHeap.Sub.refl _) ⟨N0 + 2, (by omega), (by first | rfl | exact rfl | omega), rfl, rfl⟩
 ·
  clear H hse1
  rintro ⟨s1, s2, s3⟩ fl a σ H ⟨M1, fM1_0, fM1_1, rfl, rfl⟩ K2 O2 hK2 hO2
  unfold l_markIntS_L1 at H; dsimp only at H
  refine AWP_sq [0, 1, 5] fun K3 hK3 => ?_
  refine AWP_sr tok [] [0, 1, 5, 9] (fun a σ => a = [(0, .sl w0 0 s3.length), (1, .int .i64 s1), (5, .int .i64 s2), (9, .bool (ilt s2 (ilen s3)))] ∧ σ = hp E0 [(w0, some ⟨3, 1, encL rI s3⟩)] (M1 + 4)) (fun K hK => ?_) ?_
  ·
   skip
   simp -dsimp -implicitDefEqProofs (maxDischargeDepth := 6)
   exact hK _ _ ⟨rfl, rfl⟩
  rintro a σ ⟨rfl, rfl⟩
  refine AWP_cond (ilt s2 (ilen s3)) rfl (fun C1 => ?_) (fun C1 => ?_)
  ·
   replace H := ifT C1 H
   refine AWP_skip ?_
   show K3 _ _
   refine keepE (l := [0, 1, 5]) (x := [(0, .sl w0 0 s3.length), (1, .int .i64 s1), (5, .int .i64 s2)]) rfl fun a' ha => ?_
   refine hK3 _ _ ?_; rw [ha]
   refine Rc.mk ?_
   refine AWP_sq [0, 1, 5] fun K4 hK4 => ?_
   refine AWP_block (AWP_thenB ?_)
   obtain ⟨v6, hv6, H⟩ := bindE H
   obtain ⟨l7, hl7, H⟩ := bindE H
   refine AWP_sr tok [] [0, 1, 5] (fun a σ => a = [(0, .sl w0 0 s3.length), (1, .int .i64 s1), (5, .int .i64 s2)] ∧ σ = hp E0 [(w0, some ⟨3, 1, encL rI l7⟩)] (M1 + 9)) (fun K hK => ?_) ?_
   ·
    skip
    simp -dsimp -implicitDefEqProofs (maxDischargeDepth := 6) [ixo24 hv6, (idx_lt3 hv6).2.2, (setx_iff.1 hl7).2.symm]
    exact hK _ _ ⟨rfl, rfl⟩
   rintro a σ ⟨rfl, rfl⟩
   try rw [← setx_len hl7]
   refine AWP_rt tok [] [0, 1, 5] (fun a σ => a = [(0, .sl w0 0 l7.length), (1, .int .i64 (iadd .i64 s1 1)), (5, .int .i64 s2)] ∧ σ = hp E0 [(w0, some ⟨3, 1, encL rI l7⟩)] (M1 + 12)) (fun K hK => ?_) ?_
   ·
    skip
    simp -dsimp -implicitDefEqProofs (maxDischargeDepth := 6)
    exact hK _ _ ⟨rfl, rfl⟩
   rintro a σ ⟨ha, rfl⟩
   refine hK4 _ _ ?_; rw [ha]
   refine Rc.mk ?_
   refine AWP_rt tok [] [0, 1, 5] (fun a σ => a = [(0, .sl w0 0 l7.length), (1, .int .i64 (iadd .i64 s1 1)), (5, .int .i64 (iadd .i64 s2 1))] ∧ σ = hp E0 [(w0, some ⟨3, 1, encL rI l7⟩)] (M1 + 15)) (fun K hK => ?_) ?_
   ·
    skip
    simp -dsimp -implicitDefEqProofs (maxDischargeDepth := 6)
    exact hK _ _ ⟨rfl, rfl⟩
   rintro a σ ⟨ha, rfl⟩
   replace H := Option.some.inj H; subst H
   refine hK2 _ _ _ rfl ?_; rw [ha]
   exact Rc.fin (AHeap.Sub.refl _) ⟨M1 + 15, (by omega), (by first | rfl | exact ((setx_len hl7).trans fM1_1) | omega), rfl, rfl⟩
  ·
   replace H := ifF C1 H
   replace H := Option.some.inj H; subst H
   refine AWP_exit (hO2 _ _ _ _ rfl ⟨rfl, ?_⟩)
   refine Rc.rw (l := [1]) (X := [(1, .int .i64 s1)]) rfl ?_
   exact Rc.fin (AHeap.Sub.refl _) ⟨M1 + 4, (by omega), (by first | rfl | exact fM1_1 | omega), rfl, rfl⟩
 ·
  intro x a σ hx
  obtain ⟨y4, y5⟩ := e1
  obtain ⟨rfl, b, τ, hr, M2, fM2_0, fM2_1, rfl, rfl⟩ := hx
  dsimp only at H
  show K1 _ _
  refine hK1 _ _ (Rc_ref hr ?_)
  refine Rc.mk ?_
  refine AWP_sr tok [] [4] (fun a σ => a = [(4, .int .i64 y4)] ∧ σ = hp E0 [(w0, some ⟨3, 1, encL rI y5⟩)] (M2 + 2)) (fun K hK => ?_) ?_
  ·
   skip
   simp -dsimp -implicitDefEqProofs (maxDischargeDepth := 6)
   exact hK _ _ ⟨rfl, rfl⟩
  rintro a σ ⟨rfl, rfl⟩
  replace H := Option.some.inj H; subst H
  refine AWP_kp [4] [(4, .int .i64 y4)] rfl ?_
  refine AWP_ret ?_
  refine ⟨[.int .i64 y4], by simp, M2 + 2, by omega, by first | rfl | exact fM2_1 | omega, ?_, ?_⟩
  ·
   simp [encL_nil]
  ·
   first | rfl | simp [List.set_set]
theorem c21 {p0 : gMachine} {p1 : Int} {r : Int × gMachine} (H : l_markMachine p0 p1 = some r) {σ : AHeap} {w0_0 : Nat} {w0_1 : Nat} (q0_0 : σ.objs w0_0 = some ⟨3, 1, encL rI p0.Regs⟩) (q0_1 : σ.objs w0_1 = some ⟨3, 1, encL rI p0.Mem⟩) (d0_1 : ¬ w0_0 = w0_1) : ACalls Tryd.prog G 21 [.agg [.sl w0_0 0 p0.Regs.length, .int .i64 p0.Pc, .sl w0_1 0 p0.Mem.length], .int .i64 p1] σ (fun v σ' => ∃ M : Nat, σ.next ≤ M ∧ r.2.Regs.length = p0.Regs.length ∧ r.2.Mem.length = p0.Mem.length ∧ v = .int .i64 r.1 ∧ σ' = hp σ.objs [(w0_0, some ⟨3, 1, encL rI r.2.Regs⟩), (w0_1, some ⟨3, 1, encL rI r.2.Mem⟩)] M) := by
 refine ACalls_fr (L := [(w0_0, some ⟨3, 1, encL rI p0.Regs⟩), (w0_1, some ⟨3, 1, encL rI p0.Mem⟩)]) (Q1 := fun v σ' => ∃ M : Nat, σ.next ≤ M ∧ r.2.Regs.length = p0.Regs.length ∧ r.2.Mem.length = p0.Mem.length ∧ v = .int .i64 r.1 ∧ σ' = hp E0 [(w0_0, some ⟨3, 1, encL rI r.2.Regs⟩), (w0_1, some ⟨3, 1, encL rI r.2.Mem⟩)] M) (by simp [q0_0, q0_1]) (fun hlt => ?_) ?_ ⟨_, Tryd.func21, rfl, rfl⟩
 rotate_left
 ·
  rintro v σ1 ⟨M, h0, h1, h2, rfl, rfl⟩
  exact ⟨_, M, rfl, by simp, by simp; try omega, M, h0, h1, h2, rfl, rfl⟩
 generalize σ.next = N0 at hlt ⊢
 have lw0_0 : w0_0 < N0 := hlt _ (.head _) rfl
 have lw0_1 : w0_1 < N0 := hlt _ (.tail _ (.head _)) rfl
 refine ACalls_fn tok Tryd.func21 (by kernel_rfl) rfl Tryd.ntmps21 Tryd.results21 rfl ?_
 simp only [argsA, Nat.reduceAdd, hp_next]
 unfold l_markMachine at H
 refine AWP_sr tok [0] [1, 2] (fun a σ => a = [(1, .int .i64 p1), (2, .fptr [.sl w0_0 0 p0.Regs.length, .int .i64 p0.Pc, .sl w0_1 0 p0.Mem.length] 0)] ∧ σ = hp E0 [(w0_0, some ⟨3, 1, encL rI p0.Regs⟩), (w0_1, some ⟨3, 1, encL rI p0.Mem⟩)] (N0 + 2)) (fun K hK => ?_) ?_
 ·
  skip
  have e0 := nq (a := w0_0) (b := w0_1) (by omega)
  simp -dsimp -implicitDefEqProofs (maxDischargeDepth := 6) [e0]
  exact hK _ _ ⟨rfl, rfl⟩
 rintro a σ ⟨rfl, rfl⟩
 obtain ⟨r1, hr1, H⟩ := bindE H
 refine AWP_sr tok [] [1, 2] (fun a σ => ∃ M1 : Nat, N0 + 7 ≤ M1 ∧ r1.2.length = p0.Regs.length ∧ a = [(1, .int .i64 r1.1), (2, .fptr [.sl w0_0 0 p0.Regs.length, .int .i64 p0.Pc, .sl w0_1 0 p0.Mem.length] 0)] ∧ σ = hp E0 [(w0_0, some ⟨3, 1, encL rI r1.2⟩), (w0_1, some ⟨3, 1, encL rI p0.Mem⟩)] M1) (fun K hK => ?_) ?_
 ·
  skip
  have e0 := nq (a := w0_0) (b := w0_1) (by omega)
  simp -dsimp -implicitDefEqProofs (maxDischargeDepth := 6) [e0]
  refine (c42 (H := hr1) (by simp [e0])).mono ?_; rintro _ _ ⟨M1, fM1_0, fM1_1, rfl, rfl⟩; simp only [hp_next] at fM1_0
  try simp -dsimp -implicitDefEqProofs (maxDischargeDepth := 6) [e0, hp_over_some, hp_over_none]
  exact hK _ _ ⟨M1, (by omega), fM1_1, rfl, rfl⟩
 rintro a σ ⟨M1, fM1_0, fM1_1, rfl, rfl⟩
 try rw [← fM1_1]
 obtain ⟨r2, hr2, H⟩ := bindE H
 refine AWP_sr tok [] [1] (fun a σ => ∃ M2 : Nat, M1 + 5 ≤ M2 ∧ r2.2.length = p0.Mem.length ∧ a = [(1, .int .i64 r2.1)] ∧ σ = hp E0 [(w0_0, some ⟨3, 1, encL rI r1.2⟩), (w0_1, some ⟨3, 1, encL rI r2.2⟩)] M2) (fun K hK => ?_) ?_
 ·
  skip
  have e0 := nq (a := w0_0) (b := w0_1) (by omega)
  simp -dsimp -implicitDefEqProofs (maxDischargeDepth := 6) [e0]
  refine (c42 (H := hr2) (by simp [e0])).mono ?_; rintro _ _ ⟨M2, fM2_0, fM2_1, rfl, rfl⟩; simp only [hp_next] at fM2_0
  try simp -dsimp -implicitDefEqProofs (maxDischargeDepth := 6) [e0, hp_over_some, hp_over_none]
  exact hK _ _ ⟨M2, (by omega), fM2_1, rfl, rfl⟩
 rintro a σ ⟨M2, fM2_0, fM2_1, rfl, rfl⟩
 try rw [← fM2_1]
 refine AWP_sr tok [] [4] (fun a σ => a = [(4, .int .i64 r2.1)] ∧ σ = hp E0 [(w0_0, some ⟨3, 1, encL rI r1.2⟩), (w0_1, some ⟨3, 1, encL rI r2.2⟩)] (M2 + 2)) (fun K hK => ?_) ?_
 ·
  skip
  have e0 := nq (a := w0_0) (b := w0_1) (by omega)
  simp -dsimp -implicitDefEqProofs (maxDischargeDepth := 6) [e0]
  exact hK _ _ ⟨rfl, rfl⟩
 rintro a σ ⟨rfl, rfl⟩
 replace H := Option.some.inj H; subst H
 refine AWP_kp [4] [(4, .int .i64 r2.1)] rfl ?_
 have z0 := nq (a := w0_0) (b := w0_1) (by omega)
 refine AWP_ret ?_
 refine ⟨[.int .i64 r2.1], by simp [z0], M2 + 2, by omega, by first | rfl | exact (fM1_1) | omega, by first | rfl | exact (fM2_1) | omega, ?_, ?_⟩
 ·
  simp [encL_nil]
 ·
  first | rfl | simp [List.set_set]
theorem c43 {p0 : (List Int)} {p1 : Int} {r : Int} (H : l_heldIntS p0 p1 = some r) : APure Tryd.prog G 43 [.fsl (encL rI p0), .int .i64 p1] (.int .i64 r) := by
 refine APure_fn (fun N0 => ?_) (by simp)
 refine ACalls_fn tok Tryd.func43 (by kernel_rfl) rfl Tryd.ntmps43 Tryd.results43 rfl ?_
 simp only [argsA, Nat.reduceAdd, hp_next]
 unfold l_heldIntS at H
 refine AWP_sr tok [] [0, 1] (fun a σ => a = [(0, .fsl (encL rI p0)), (1, .int .i64 p1)] ∧ σ = hp E0 [] (N0 + 1)) (fun K hK => ?_) ?_
 ·
  skip
  simp -dsimp -implicitDefEqProofs (maxDischargeDepth := 6)
  exact hK _ _ ⟨rfl, rfl⟩
 rintro a σ ⟨rfl, rfl⟩
 refine AWP_sq [1] fun K1 hK1 => ?_
 refine AWP_sr tok [] [0, 1, 5] (fun a σ => a = [(0, .fsl (encL rI p0)), (1, .int .i64 p1), (5, .int .i64 0)] ∧ σ = hp E0 [] (N0 + 2)) (fun K hK => ?_) ?_
 ·
  skip
  simp -dsimp -implicitDefEqProofs (maxDischargeDepth := 6)
  exact hK _ _ ⟨rfl, rfl⟩
 rintro a σ ⟨rfl, rfl⟩
 refine AWP_block (AWP_thenB ?_)
 obtain ⟨e1, hse1, H⟩ := bindE H
 refine AWP_lp [0, 1, 5] (fun s a σ => ∃ M1 : Nat, N0 ≤ M1 ∧ a = [(0, .fsl (encL rI p0)), (1, .int .i64 s.1), (5, .int .i64 s.2)] ∧ σ = hp E0 [] M1) (fun e x a σ => match e with | .inl s => x = .exit 0 ∧ Rc G 21 N0 (fun a σ => ∃ M2 : Nat, N0 ≤ M2 ∧ a = [(1, .int .i64 s)] ∧ σ = hp E0 [] M2) (AAct.keep a [1]) σ | .inr s => x = .ret ∧ ∃ vs, resA T σ a [.tmp 4] = some vs ∧ ∃ d, thawA (fun _ => true) σ d (tupA vs) = .int .i64 s) hse1 ?_ ?_ ?_
 ·
  refine Rc.kp [0, 1, 5] [(0, .fsl (encL rI p0)), (1, .int .i64 p1), (5, .int .i64 0)] rfl ?_
  exact Rc.fin (AHeap.Sub.refl _) ⟨N0 + 2, (by omega), rfl, rfl⟩
 ·
  clear H hse1
  rintro ⟨s1, s2⟩ fl a σ H ⟨M1, fM1_0, rfl, rfl⟩ K2 O2 hK2 hO2
  unfold l_heldIntS_L1 at H; dsimp only at H
  refine AWP_sq [0, 1, 5] fun K3 hK3 => ?_
  refine AWP_sr tok [] [0, 1, 5, 9] (fun a σ => a = [(0, .fsl (encL rI p0)), (1, .int .i64 s1), (5, .int .i64 s2), (9, .bool (ilt s2 (ilen p0)))] ∧ σ = hp E0 [] (M1 + 4)) (fun K hK => ?_) ?_
  ·
   skip
   simp -dsimp -implicitDefEqProofs (maxDischargeDepth := 6)
   exact hK _ _ ⟨rfl, rfl⟩
  rintro a σ ⟨rfl, rfl⟩
  refine AWP_cond (ilt s2 (ilen p0)) rfl (fun C1 => ?_) (fun C1 => ?_)
  ·
   replace H := ifT C1 H
   refine AWP_skip ?_
   show K3 _ _
   refine keepE (l := [0, 1, 5]) (x := [(0, .fsl (encL rI p0)), (1, .int .i64 s1), (5, .int .i64 s2)]) rfl fun a' ha => ?_
   refine hK3 _ _ ?_; rw [ha]
   refine Rc.mk ?_
   refine AWP_sq [0, 1, 5] fun K4 hK4 => ?_
   refine AWP_block (AWP_thenB ?_)
   refine AWP_sq [0, 1, 5] fun K5 hK5 => ?_
   obtain ⟨v4, hv4, H⟩ := bindE H
   refine AWP_sr tok [] [0, 1, 5, 17] (fun a σ => a = [(0, .fsl (encL rI p0)), (1, .int .i64 s1), (5, .int .i64 s2), (17, .bool (ine v4 s1))] ∧ σ = hp E0 [] (M1 + 10)) (fun K hK => ?_) ?_
   ·
    skip
    simp -dsimp -implicitDefEqProofs (maxDischargeDepth := 6) [ix24 hv4]
    exact hK _ _ ⟨rfl, rfl⟩
   rintro a σ ⟨rfl, rfl⟩
   refine AWP_cond (ine v4 s1) rfl (fun C2 => ?_) (fun C2 => ?_)
   ·
    replace H := ifT C2 H
    refine AWP_sr tok [] [4] (fun a σ => a = [(4, .int .i64 (-1))] ∧ σ = hp E0 [] (M1 + 11)) (fun K hK => ?_) ?_
    ·
     skip
     simp -dsimp -implicitDefEqProofs (maxDischargeDepth := 6)
     exact hK _ _ ⟨rfl, rfl⟩
    rintro a σ ⟨rfl, rfl⟩
    replace H := Option.some.inj H; subst H
    refine AWP_kp [4] [(4, .int .i64 (-1))] rfl ?_
    refine AWP_ret (hO2 _ _ _ _ rfl ⟨rfl, ?_⟩)
    exact ⟨[.int .i64 (-1)], by simp, 4, by simp [encL_nil]⟩
   ·
    replace H := ifF C2 H
    refine AWP_skip ?_
    show K5 _ _
    refine keepE (l := [0, 1, 5]) (x := [(0, .fsl (encL rI p0)), (1, .int .i64 s1), (5, .int .i64 s2)]) rfl fun a' ha => ?_
    refine hK5 _ _ ?_; rw [ha]
    refine Rc.mk ?_
    refine AWP_rt tok [] [0, 1, 5] (fun a σ => a = [(0, .fsl (encL rI p0)), (1, .int .i64 (iadd .i64 s1 1)), (5, .int .i64 s2)] ∧ σ = hp E0 [] (M1 + 13)) (fun K hK => ?_) ?_
    ·
     skip
     simp -dsimp -implicitDefEqProofs (maxDischargeDepth := 6)
     exact hK _ _ ⟨rfl, rfl⟩
    rintro a σ ⟨ha, rfl⟩
    refine hK4 _ _ ?_; rw [ha]
    refine Rc.mk ?_
    refine AWP_rt tok [] [0, 1, 5] (fun a σ => a = [(0, .fsl (encL rI p0)), (1, .int .i64 (iadd .i64 s1 1)), (5, .int .i64 (iadd .i64 s2 1))] ∧ σ = hp E0 [] (M1 + 16)) (fun K hK => ?_) ?_
    ·
     skip
     simp -dsimp -implicitDefEqProofs (maxDischargeDepth := 6)
     exact hK _ _ ⟨rfl, rfl⟩
    rintro a σ ⟨ha, rfl⟩
    replace H := Option.some.inj H; subst H
    refine hK2 _ _ _ rfl ?_; rw [ha]
    exact Rc.fin (AHeap.Sub.refl _) ⟨M1 + 16, (by omega), rfl, rfl⟩
  ·
   replace H := ifF C1 H
   replace H := Option.some.inj H; subst H
   refine AWP_exit (hO2 _ _ _ _ rfl ⟨rfl, ?_⟩)
   refine Rc.rw (l := [1]) (X := [(1, .int .i64 s1)]) rfl ?_
   exact Rc.fin (AHeap.Sub.refl _) ⟨M1 + 4, (by omega), rfl, rfl⟩
 ·
  intro x a σ hx
  rcases e1 with y3 | r0
  ·
   obtain ⟨rfl, b, τ, hr, M2, fM2_0, rfl, rfl⟩ := hx
   dsimp only at H
   show K1 _ _
   refine hK1 _ _ (Rc_ref hr ?_)
   refine Rc.mk ?_
   refine AWP_sr tok [] [4] (fun a σ => a = [(4, .int .i64 y3)] ∧ σ = hp E0 [] (M2 + 2)) (fun K hK => ?_) ?_
   ·
    skip
    simp -dsimp -implicitDefEqProofs (maxDischargeDepth := 6)
    exact hK _ _ ⟨rfl, rfl⟩
   rintro a σ ⟨rfl, rfl⟩
   replace H := Option.some.inj H; subst H
   refine AWP_kp [4] [(4, .int .i64 y3)] rfl ?_
   refine AWP_ret ?_
   exact ⟨[.int .i64 y3], by simp, 4, by simp [encL_nil]⟩
  ·
   obtain ⟨rfl, hx2⟩ := hx
   dsimp only at H
   replace H := Option.some.inj H; subst H; exact hx2
theorem c22 {p0 : gMachine} {p1 : Int} {r : Int} (H : l_heldMachine p0 p1 = some r) : APure Tryd.prog G 22 [.agg [.fsl (encL rI p0.Regs), .int .i64 p0.Pc, .fsl (encL rI p0.Mem)], .int .i64 p1] (.int .i64 r) := by
 refine APure_fn (fun N0 => ?_) (by simp)
 refine ACalls_fn tok Tryd.func22 (by kernel_rfl) rfl Tryd.ntmps22 Tryd.results22 rfl ?_
 simp only [argsA, Nat.reduceAdd, hp_next]
 unfold l_heldMachine at H
 refine AWP_sr tok [0] [1, 2] (fun a σ => a = [(1, .int .i64 p1), (2, .fptr [.fsl (encL rI p0.Regs), .int .i64 p0.Pc, .fsl (encL rI p0.Mem)] 0)] ∧ σ = hp E0 [] (N0 + 2)) (fun K hK => ?_) ?_
 ·
  skip
  simp -dsimp -implicitDefEqProofs (maxDischargeDepth := 6)
  exact hK _ _ ⟨rfl, rfl⟩
 rintro a σ ⟨rfl, rfl⟩
 obtain ⟨r1, hr1, H⟩ := bindE H
 refine AWP_sr tok [] [1, 2] (fun a σ => a = [(1, .int .i64 r1), (2, .fptr [.fsl (encL rI p0.Regs), .int .i64 p0.Pc, .fsl (encL rI p0.Mem)] 0)] ∧ σ = hp E0 [] (N0 + 7)) (fun K hK => ?_) ?_
 ·
  skip
  simp -dsimp -implicitDefEqProofs (maxDischargeDepth := 6)
  refine (c43 hr1).app ?_; try simp -dsimp -implicitDefEqProofs (maxDischargeDepth := 6)
  exact hK _ _ ⟨rfl, rfl⟩
 rintro a σ ⟨rfl, rfl⟩
 refine AWP_sq [1, 2] fun K1 hK1 => ?_
 refine AWP_sr tok [] [1, 2, 10] (fun a σ => a = [(1, .int .i64 r1), (2, .fptr [.fsl (encL rI p0.Regs), .int .i64 p0.Pc, .fsl (encL rI p0.Mem)] 0), (10, .bool (ilt r1 0))] ∧ σ = hp E0 [] (N0 + 9)) (fun K hK => ?_) ?_
 ·
  skip
  simp -dsimp -implicitDefEqProofs (maxDischargeDepth := 6)
  exact hK _ _ ⟨rfl, rfl⟩
 rintro a σ ⟨rfl, rfl⟩
 refine AWP_cond (ilt r1 0) rfl (fun C1 => ?_) (fun C1 => ?_)
 ·
  replace H := ifT C1 H
  refine AWP_sr tok [] [4] (fun a σ => a = [(4, .int .i64 (-1))] ∧ σ = hp E0 [] (N0 + 10)) (fun K hK => ?_) ?_
  ·
   skip
   simp -dsimp -implicitDefEqProofs (maxDischargeDepth := 6)
   exact hK _ _ ⟨rfl, rfl⟩
  rintro a σ ⟨rfl, rfl⟩
  replace H := Option.some.inj H; subst H
  refine AWP_kp [4] [(4, .int .i64 (-1))] rfl ?_
  refine AWP_ret ?_
  exact ⟨[.int .i64 (-1)], by simp, 4, by simp [encL_nil]⟩
 ·
  replace H := ifF C1 H
  refine AWP_skip ?_
  show K1 _ _
  refine keepE (l := [1, 2]) (x := [(1, .int .i64 r1), (2, .fptr [.fsl (encL rI p0.Regs), .int .i64 p0.Pc, .fsl (encL rI p0.Mem)] 0)]) rfl fun a' ha => ?_
  refine hK1 _ _ ?_; rw [ha]
  refine Rc.mk ?_
  obtain ⟨r2, hr2, H⟩ := bindE H
  refine AWP_sr tok [] [1] (fun a σ => a = [(1, .int .i64 r2)] ∧ σ = hp E0 [] (N0 + 14)) (fun K hK => ?_) ?_
  ·
   skip
   simp -dsimp -implicitDefEqProofs (maxDischargeDepth := 6)
   refine (c43 hr2).app ?_; try simp -dsimp -implicitDefEqProofs (maxDischargeDepth := 6)
   exact hK _ _ ⟨rfl, rfl⟩
  rintro a σ ⟨rfl, rfl⟩
  refine AWP_sq [1] fun K2 hK2 => ?_
  refine AWP_sr tok [] [1, 16] (fun a σ => a = [(1, .int .i64 r2), (16, .bool (ilt r2 0))] ∧ σ = hp E0 [] (N0 + 16)) (fun K hK => ?_) ?_
  ·
   skip
   simp -dsimp -implicitDefEqProofs (maxDischargeDepth := 6)
   exact hK _ _ ⟨rfl, rfl⟩
  rintro a σ ⟨rfl, rfl⟩
  refine AWP_cond (ilt r2 0) rfl (fun C2 => ?_) (fun C2 => ?_)
  ·
   replace H := ifT C2 H
   refine AWP_sr tok [] [4] (fun a σ => a = [(4, .int .i64 (-1))] ∧ σ = hp E0 [] (N0 + 17)) (fun K hK => ?_) ?_
   ·
    skip
    simp -dsimp -implicitDefEqProofs (maxDischargeDepth := 6)
    exact hK _ _ ⟨rfl, rfl⟩
   rintro a σ ⟨rfl, rfl⟩
   replace H := Option.some.inj H; subst H
   refine AWP_kp [4] [(4, .int .i64 (-1))] rfl ?_
   refine AWP_ret ?_
   exact ⟨[.int .i64 (-1)], by simp, 4, by simp [encL_nil]⟩
  ·
   replace H := ifF C2 H
   refine AWP_skip ?_
   show K2 _ _
   refine keepE (l := [1]) (x := [(1, .int .i64 r2)]) rfl fun a' ha => ?_
   refine hK2 _ _ ?_; rw [ha]
   refine Rc.mk ?_
   refine AWP_sr tok [] [4] (fun a σ => a = [(4, .int .i64 r2)] ∧ σ = hp E0 [] (N0 + 18)) (fun K hK => ?_) ?_
   ·
    skip
    simp -dsimp -implicitDefEqProofs (maxDischargeDepth := 6)
    exact hK _ _ ⟨rfl, rfl⟩
   rintro a σ ⟨rfl, rfl⟩
   replace H := Option.some.inj H; subst H
   refine AWP_kp [4] [(4, .int .i64 r2)] rfl ?_
   refine AWP_ret ?_
   exact ⟨[.int .i64 r2], by simp, 4, by simp [encL_nil]⟩
theorem c3 {p0 : (List gInstr)} {r : Bool} (H : l_FnExactHartNew p0 = some r) : APure Tryd.prog G 3 [.fsl (encL rInstr p0)] (.bool r) := by
 refine APure_fn (fun N0 => ?_) (by simp)
 refine ACalls_fn tok Tryd.func3 (by kernel_rfl) rfl Tryd.ntmps3 Tryd.results3 rfl ?_
 simp only [argsA, Nat.reduceAdd, hp_next]
 unfold l_FnExactHartNew at H
 refine AWP_sr tok [] [0] (fun a σ => a = [(0, .fsl (encL rInstr p0))] ∧ σ = hp E0 [] (N0 + 1)) (fun K hK => ?_) ?_
 ·
  skip
  simp -dsimp -implicitDefEqProofs (maxDischargeDepth := 6)
  exact hK _ _ ⟨rfl, rfl⟩
 rintro a σ ⟨rfl, rfl⟩
 refine AWP_sr tok [] [0, 3] (fun a σ => a = [(0, .fsl (encL rInstr p0)), (3, .int .i64 1048576)] ∧ σ = hp E0 [] (N0 + 2)) (fun K hK => ?_) ?_
 ·
  skip
  simp -dsimp -implicitDefEqProofs (maxDischargeDepth := 6)
  exact hK _ _ ⟨rfl, rfl⟩
 rintro a σ ⟨rfl, rfl⟩
 obtain ⟨r1, hr1, H⟩ := bindE H
 refine AWP_sr tok [] [0, 3] (fun a σ => a = [(0, .fsl (encL rInstr p0)), (3, .int .i64 r1)] ∧ σ = hp E0 [] (N0 + 6)) (fun K hK => ?_) ?_
 ·
  skip
  simp -dsimp -implicitDefEqProofs (maxDischargeDepth := 6)
  refine (c14 hr1).app ?_; try simp -dsimp -implicitDefEqProofs (maxDischargeDepth := 6)
  exact hK _ _ ⟨rfl, rfl⟩
 rintro a σ ⟨rfl, rfl⟩
 refine AWP_sq [0] fun K1 hK1 => ?_
 refine AWP_sr tok [] [0, 18] (fun a σ => a = [(0, .fsl (encL rInstr p0)), (18, .bool (ilt r1 0))] ∧ σ = hp E0 [] (N0 + 8)) (fun K hK => ?_) ?_
 ·
  skip
  simp -dsimp -implicitDefEqProofs (maxDischargeDepth := 6)
  exact hK _ _ ⟨rfl, rfl⟩
 rintro a σ ⟨rfl, rfl⟩
 refine AWP_cond (ilt r1 0) rfl (fun C1 => ?_) (fun C1 => ?_)
 ·
  replace H := ifT C1 H
  refine AWP_sr tok [] [2] (fun a σ => a = [(2, .bool true)] ∧ σ = hp E0 [] (N0 + 9)) (fun K hK => ?_) ?_
  ·
   skip
   simp -dsimp -implicitDefEqProofs (maxDischargeDepth := 6)
   exact hK _ _ ⟨rfl, rfl⟩
  rintro a σ ⟨rfl, rfl⟩
  replace H := Option.some.inj H; subst H
  refine AWP_kp [2] [(2, .bool true)] rfl ?_
  refine AWP_ret ?_
  exact ⟨[.bool true], by simp, 4, by simp [encL_nil]⟩
 ·
  replace H := ifF C1 H
  refine AWP_skip ?_
  show K1 _ _
  refine keepE (l := [0]) (x := [(0, .fsl (encL rInstr p0))]) rfl fun a' ha => ?_
  refine hK1 _ _ ?_; rw [ha]
  refine Rc.mk ?_
  obtain ⟨r2, hr2, H⟩ := bindE H
  obtain ⟨r3, hr3, H⟩ := bindE H
  refine AWP_sr tok [] [0, 4, 5] (fun a σ => a = [(0, .fsl (encL rInstr p0)), (4, .ptr (N0 + 14) 0 0), (5, .bool r3.2)] ∧ σ = hp E0 [(N0 + 14, some ⟨26, 3, [[.fsl (encL rI r3.1.Regs), .int .i64 r3.1.Pc, .fsl (encL rI r3.1.Mem)]]⟩)] (N0 + 17)) (fun K hK => ?_) ?_
  ·
   skip
   simp -dsimp -implicitDefEqProofs (maxDischargeDepth := 6)
   refine (c16 hr2).app ?_; try simp -dsimp -implicitDefEqProofs (maxDischargeDepth := 6)
   refine (c15 hr3).app ?_; try simp -dsimp -implicitDefEqProofs (maxDischargeDepth := 6)
   exact hK _ _ ⟨rfl, rfl⟩
  rintro a σ ⟨rfl, rfl⟩
  obtain ⟨r4, hr4, H⟩ := bindE H
  refine AWP_sr tok [] [0, 4, 5, 6] (fun a σ => ∃ M1 o1 : Nat, N0 + 20 ≤ M1 ∧ N0 + 20 ≤ o1 ∧ o1 < M1 ∧ a = [(0, .fsl (encL rInstr p0)), (4, .ptr (N0 + 14) 0 0), (5, .bool r3.2), (6, .sl o1 0 r4.length)] ∧ σ = hp E0 [(N0 + 14, some ⟨26, 3, [[.fsl (encL rI r3.1.Regs), .int .i64 r3.1.Pc, .fsl (encL rI r3.1.Mem)]]⟩), (o1, some ⟨47, 5, encL rInstr r4⟩)] M1) (fun K hK => ?_) ?_
  ·
   skip
   simp -dsimp -implicitDefEqProofs (maxDischargeDepth := 6)
   refine (c16_o (H := hr4) ).mono ?_; rintro _ _ ⟨M1, o1, fM1_0, fM1_1, fM1_2, rfl, rfl⟩; simp only [hp_next] at fM1_0 fM1_1 fM1_2
   have eM1_0 := nq (a := o1) (b := N0 + 14) (by omega)
   try simp -dsimp -implicitDefEqProofs (maxDischargeDepth := 6) [eM1_0, hp_over_some, hp_over_none]
   exact hK _ _ ⟨M1, o1, (by omega), (by omega), (by omega), rfl, rfl⟩
  rintro a σ ⟨M1, o1, fM1_0, fM1_1, fM1_2, rfl, rfl⟩
  obtain ⟨r5, hr5, H⟩ := bindE H
  refine AWP_sr tok [] [0, 4, 5, 6, 7, 8] (fun a σ => ∃ M2 o2 o3 : Nat, M1 + 8 ≤ M2 ∧ M1 + 8 ≤ o2 ∧ o2 < M2 ∧ M1 + 8 ≤ o3 ∧ o3 < M2 ∧ ¬ o2 = o3 ∧ a = [(0, .fsl (encL rInstr p0)), (4, .ptr (N0 + 14) 0 0), (5, .bool r3.2), (6, .sl o1 0 r4.length), (7, .ptr (M1 + 5) 0 0), (8, .bool r5.2)] ∧ σ = hp E0 [(N0 + 14, some ⟨26, 3, [[.fsl (encL rI r3.1.Regs), .int .i64 r3.1.Pc, .fsl (encL rI r3.1.Mem)]]⟩), (o1, some ⟨47, 5, encL rInstr r4⟩), (o2, some ⟨3, 1, encL rI r5.1.Regs⟩), (o3, some ⟨3, 1, encL rI r5.1.Mem⟩), (M1 + 5, some ⟨26, 3, [[.sl o2 0 r5.1.Regs.length, .int .i64 r5.1.Pc, .sl o3 0 r5.1.Mem.length]]⟩)] M2) (fun K hK => ?_) ?_
  ·
   skip
   have e0 := nq (a := N0 + 14) (b := o1) (by omega)
   have e1 := nq (a := N0 + 14) (b := M1 + 5) (by omega)
   have e2 := nq (a := N0 + 9) (b := M1) (by omega)
   have e3 := nq (a := o1) (b := M1 + 5) (by omega)
   simp -dsimp -implicitDefEqProofs (maxDischargeDepth := 6) [e0, e1, e2, e3]
   refine (c17_o2_b (H := hr5) (by simp [e0, e1, e2, e3])).mono ?_; rintro _ _ ⟨M2, o2, o3, fM2_0, fM2_1, fM2_2, fM2_3, fM2_4, fM2_5, rfl, rfl⟩; simp only [hp_next] at fM2_0 fM2_1 fM2_2 fM2_3 fM2_4 fM2_5
   have eM2_0 := nq (a := o2) (b := N0 + 14) (by omega)
   have eM2_1 := nq (a := o2) (b := o1) (by omega)
   have eM2_2 := nq (a := o2) (b := M1 + 5) (by omega)
   have eM2_3 := nq (a := o2) (b := o3) (by omega)
   have eM2_4 := nq (a := o3) (b := N0 + 14) (by omega)
   have eM2_5 := nq (a := o3) (b := o1) (by omega)
   have eM2_6 := nq (a := o3) (b := M1 + 5) (by omega)
   try simp -dsimp -implicitDefEqProofs (maxDischargeDepth := 6) [e0, e1, e2, e3, eM2_0, eM2_1, eM2_2, eM2_3, eM2_4, eM2_5, eM2_6, hp_over_some, hp_over_none]
   exact hK _ _ ⟨M2, o2, o3, (by omega), (by omega), (by omega), (by omega), (by omega), (by omega), rfl, rfl⟩
  rintro a σ ⟨M2, o2, o3, fM2_0, fM2_1, fM2_2, fM2_3, fM2_4, fM2_5, rfl, rfl⟩
  refine AWP_sq [0, 4, 5, 6, 7, 8] fun K2 hK2 => ?_
  refine gPk AWP_ref (k := r5.1.Regs.length) (o := (M1 + 5)) (ob := ⟨26, 3, [[.sl o2 0 r5.1.Regs.length, .int .i64 r5.1.Pc, .sl o3 0 r5.1.Mem.length]]⟩) (row := [.sl o2 0 r5.1.Regs.length, .int .i64 r5.1.Pc, .sl o3 0 r5.1.Mem.length]) (d := o2) (obd := ⟨3, 1, encL rI r5.1.Regs⟩) (r := 0) (i := 0) [(N0 + 14, some ⟨26, 3, [[.fsl (encL rI r3.1.Regs), .int .i64 r3.1.Pc, .fsl (encL rI r3.1.Mem)]]⟩), (o1, some ⟨47, 5, encL rInstr r4⟩), (o3, some ⟨3, 1, encL rI r5.1.Mem⟩), (M1 + 5, some ⟨26, 3, [[.osl 3 1 (encL rI r5.1.Regs), .int .i64 r5.1.Pc, .sl o3 0 r5.1.Mem.length]]⟩)] (by simp (disch := omega)) rfl rfl (by simp (disch := omega)) (by simp (disch := omega)) (by first | omega | simp) (by simp (disch := omega) [List.set_set, app_set] <;> omega) (by simp (disch := omega) [List.set_set, app_set]) ?_
  refine gPk AWP_ref (k := r5.1.Mem.length) (o := (M1 + 5)) (ob := ⟨26, 3, [[.osl 3 1 (encL rI r5.1.Regs), .int .i64 r5.1.Pc, .sl o3 0 r5.1.Mem.length]]⟩) (row := [.osl 3 1 (encL rI r5.1.Regs), .int .i64 r5.1.Pc, .sl o3 0 r5.1.Mem.length]) (d := o3) (obd := ⟨3, 1, encL rI r5.1.Mem⟩) (r := 0) (i := 2) [(N0 + 14, some ⟨26, 3, [[.fsl (encL rI r3.1.Regs), .int .i64 r3.1.Pc, .fsl (encL rI r3.1.Mem)]]⟩), (o1, some ⟨47, 5, encL rInstr r4⟩), (M1 + 5, some ⟨26, 3, [[.osl 3 1 (encL rI r5.1.Regs), .int .i64 r5.1.Pc, .osl 3 1 (encL rI r5.1.Mem)]]⟩)] (by simp (disch := omega)) rfl rfl (by simp (disch := omega)) (by simp (disch := omega)) (by first | omega | simp) (by simp (disch := omega) [List.set_set, app_set] <;> omega) (by simp (disch := omega) [List.set_set, app_set]) ?_
  refine gUnp AWP_ref (ty := 3) (sz := 1) (es := encL rI r5.1.Regs) (o := (M1 + 5)) (ob := ⟨26, 3, [[.osl 3 1 (encL rI r5.1.Regs), .int .i64 r5.1.Pc, .osl 3 1 (encL rI r5.1.Mem)]]⟩) (row := [.osl 3 1 (encL rI r5.1.Regs), .int .i64 r5.1.Pc, .osl 3 1 (encL rI r5.1.Mem)]) (r := 0) (i := 0) [(N0 + 14, some ⟨26, 3, [[.fsl (encL rI r3.1.Regs), .int .i64 r3.1.Pc, .fsl (encL rI r3.1.Mem)]]⟩), (o1, some ⟨47, 5, encL rInstr r4⟩), (M1 + 5, some ⟨26, 3, [[.sl M2 0 r5.1.Regs.length, .int .i64 r5.1.Pc, .osl 3 1 (encL rI r5.1.Mem)]]⟩), (M2, some ⟨3, 1, encL rI r5.1.Regs⟩)] (by simp (disch := omega)) rfl rfl (by simp (disch := omega) [List.set_set]) ?_
  refine gUnp AWP_ref (ty := 3) (sz := 1) (es := encL rI r5.1.Mem) (o := (M1 + 5)) (ob := ⟨26, 3, [[.sl M2 0 r5.1.Regs.length, .int .i64 r5.1.Pc, .osl 3 1 (encL rI r5.1.Mem)]]⟩) (row := [.sl M2 0 r5.1.Regs.length, .int .i64 r5.1.Pc, .osl 3 1 (encL rI r5.1.Mem)]) (r := 0) (i := 2) [(N0 + 14, some ⟨26, 3, [[.fsl (encL rI r3.1.Regs), .int .i64 r3.1.Pc, .fsl (encL rI r3.1.Mem)]]⟩), (o1, some ⟨47, 5, encL rInstr r4⟩), (M1 + 5, some ⟨26, 3, [[.sl M2 0 r5.1.Regs.length, .int .i64 r5.1.Pc, .sl (M2 + 1) 0 r5.1.Mem.length]]⟩), (M2, some ⟨3, 1, encL rI r5.1.Regs⟩), (M2 + 1, some ⟨3, 1, encL rI r5.1.Mem⟩)] (by simp (disch := omega)) rfl rfl (by simp (disch := omega) [List.set_set]) ?_
  obtain ⟨r6, hr6, H⟩ := bindE H
  obtain ⟨g7, hg7, H⟩ := bindE H
  refine AWP_sr tok [] [0, 4, 5, 6, 7, 8, 40] (fun a σ => a = [(0, .fsl (encL rInstr p0)), (4, .ptr (N0 + 14) 0 0), (5, .bool r3.2), (6, .sl o1 0 r4.length), (7, .ptr (M1 + 5) 0 0), (8, .bool r5.2), (40, .bool g7)] ∧ σ = hp E0 [(N0 + 14, some ⟨26, 3, [[.fsl (encL rI r3.1.Regs), .int .i64 r3.1.Pc, .fsl (encL rI r3.1.Mem)]]⟩), (o1, some ⟨47, 5, encL rInstr r4⟩), (M1 + 5, some ⟨26, 3, [[.sl M2 0 r5.1.Regs.length, .int .i64 r5.1.Pc, .sl (M2 + 1) 0 r5.1.Mem.length]]⟩), (M2, some ⟨3, 1, encL rI r5.1.Regs⟩), (M2 + 1, some ⟨3, 1, encL rI r5.1.Mem⟩)] (M2 + 11)) (fun K hK => ?_) ?_
  ·
   skip
   have e0 := nq (a := N0 + 14) (b := o1) (by omega)
   have e1 := nq (a := N0 + 14) (b := M1 + 5) (by omega)
   have e2 := nq (a := N0 + 9) (b := M1) (by omega)
   have e3 := nq (a := N0 + 14) (b := M2) (by omega)
   have e4 := nq (a := N0 + 14) (b := M2 + 1) (by omega)
   have e5 := nq (a := N0 + 13) (b := M2) (by omega)
   have e6 := nq (a := o1) (b := M1 + 5) (by omega)
   have e7 := nq (a := o1) (b := M2) (by omega)
   have e8 := nq (a := o1) (b := M2 + 1) (by omega)
   have e9 := nq (a := M1 + 5) (b := M2) (by omega)
   have e10 := nq (a := M1 + 5) (b := M2 + 1) (by omega)
   have e11 := nq (a := M1 + 4) (b := M2) (by omega)
   simp -dsimp -implicitDefEqProofs (maxDischargeDepth := 6) [e0, e1, e2, e3, e4, e5, e6, e7, e8, e9, e10, e11]
   refine (borrow 8 (c18 hr6) (by simp [e0, e1, e2, e3, e4, e5, e6, e7, e8, e9, e10, e11]) rfl).mono ?_; rintro _ _ ⟨rfl, rfl⟩; try simp -dsimp -implicitDefEqProofs (maxDischargeDepth := 6) [e0, e1, e2, e3, e4, e5, e6, e7, e8, e9, e10, e11]
   cases hbg7 : bnot r6
   ·
    replace hg7 := ifF hbg7 hg7
    replace hg7 := Option.some.inj hg7; subst hg7
    try simp -dsimp -implicitDefEqProofs (maxDischargeDepth := 6) [e0, e1, e2, e3, e4, e5, e6, e7, e8, e9, e10, e11, hbg7]
    exact hK _ _ ⟨rfl, rfl⟩
   ·
    replace hg7 := ifT hbg7 hg7
    replace hg7 := Option.some.inj hg7; subst hg7
    try simp -dsimp -implicitDefEqProofs (maxDischargeDepth := 6) [e0, e1, e2, e3, e4, e5, e6, e7, e8, e9, e10, e11, hbg7]
    exact hK _ _ ⟨rfl, rfl⟩
  rintro a σ ⟨rfl, rfl⟩
  refine AWP_cond g7 rfl (fun C2 => ?_) (fun C2 => ?_)
  ·
   replace H := ifT C2 H
   refine AWP_sr tok [] [2] (fun a σ => a = [(2, .bool false)] ∧ σ = hp E0 [(N0 + 14, some ⟨26, 3, [[.fsl (encL rI r3.1.Regs), .int .i64 r3.1.Pc, .fsl (encL rI r3.1.Mem)]]⟩), (o1, some ⟨47, 5, encL rInstr r4⟩), (M1 + 5, some ⟨26, 3, [[.sl M2 0 r5.1.Regs.length, .int .i64 r5.1.Pc, .sl (M2 + 1) 0 r5.1.Mem.length]]⟩), (M2, some ⟨3, 1, encL rI r5.1.Regs⟩), (M2 + 1, some ⟨3, 1, encL rI r5.1.Mem⟩)] (M2 + 12)) (fun K hK => ?_) ?_
   ·
    skip
    have e0 := nq (a := N0 + 14) (b := o1) (by omega)
    have e1 := nq (a := N0 + 14) (b := M1 + 5) (by omega)
    have e2 := nq (a := N0 + 9) (b := M1) (by omega)
    have e3 := nq (a := N0 + 14) (b := M2) (by omega)
    have e4 := nq (a := N0 + 14) (b := M2 + 1) (by omega)
    have e5 := nq (a := N0 + 13) (b := M2) (by omega)
    have e6 := nq (a := o1) (b := M1 + 5) (by omega)
    have e7 := nq (a := o1) (b := M2) (by omega)
    have e8 := nq (a := o1) (b := M2 + 1) (by omega)
    have e9 := nq (a := M1 + 5) (b := M2) (by omega)
    have e10 := nq (a := M1 + 5) (b := M2 + 1) (by omega)
    have e11 := nq (a := M1 + 4) (b := M2) (by omega)
    simp -dsimp -implicitDefEqProofs (maxDischargeDepth := 6) [e0, e1, e2, e3, e4, e5, e6, e7, e8, e9, e10, e11]
    exact hK _ _ ⟨rfl, rfl⟩
   rintro a σ ⟨rfl, rfl⟩
   replace H := Option.some.inj H; subst H
   refine AWP_kp [2] [(2, .bool false)] rfl ?_
   have z0 := nq (a := N0 + 14) (b := o1) (by omega)
   have z1 := nq (a := N0 + 14) (b := M1 + 5) (by omega)
   have z2 := nq (a := N0 + 9) (b := M1) (by omega)
   have z3 := nq (a := N0 + 14) (b := M2) (by omega)
   have z4 := nq (a := N0 + 14) (b := M2 + 1) (by omega)
   have z5 := nq (a := N0 + 13) (b := M2) (by omega)
   have z6 := nq (a := o1) (b := M1 + 5) (by omega)
   have z7 := nq (a := o1) (b := M2) (by omega)
   have z8 := nq (a := o1) (b := M2 + 1) (by omega)
   have z9 := nq (a := M1 + 5) (b := M2) (by omega)
   have z10 := nq (a := M1 + 5) (b := M2 + 1) (by omega)
   have z11 := nq (a := M1 + 4) (b := M2) (by omega)
   refine AWP_ret ?_
   exact ⟨[.bool false], by simp [z0, z1, z2, z3, z4, z5, z6, z7, z8, z9, z10, z11], 4, by simp [encL_nil, z0, z1, z2, z3, z4, z5, z6, z7, z8, z9, z10, z11]⟩
  ·
   replace H := ifF C2 H
   refine AWP_skip ?_
   show K2 _ _
   refine keepE (l := [0, 4, 5, 6, 7, 8]) (x := [(0, .fsl (encL rInstr p0)), (4, .ptr (N0 + 14) 0 0), (5, .bool r3.2), (6, .sl o1 0 r4.length), (7, .ptr (M1 + 5) 0 0), (8, .bool r5.2)]) rfl fun a' ha => ?_
   refine hK2 _ _ ?_; rw [ha]
   refine Rc.mk ?_
   refine AWP_sq [0, 4, 5, 6, 7, 8] fun K3 hK3 => ?_
   refine gPk AWP_ref (k := r5.1.Regs.length) (o := (M1 + 5)) (ob := ⟨26, 3, [[.sl M2 0 r5.1.Regs.length, .int .i64 r5.1.Pc, .sl (M2 + 1) 0 r5.1.Mem.length]]⟩) (row := [.sl M2 0 r5.1.Regs.length, .int .i64 r5.1.Pc, .sl (M2 + 1) 0 r5.1.Mem.length]) (d := M2) (obd := ⟨3, 1, encL rI r5.1.Regs⟩) (r := 0) (i := 0) [(N0 + 14, some ⟨26, 3, [[.fsl (encL rI r3.1.Regs), .int .i64 r3.1.Pc, .fsl (encL rI r3.1.Mem)]]⟩), (o1, some ⟨47, 5, encL rInstr r4⟩), (M1 + 5, some ⟨26, 3, [[.osl 3 1 (encL rI r5.1.Regs), .int .i64 r5.1.Pc, .sl (M2 + 1) 0 r5.1.Mem.length]]⟩), (M2 + 1, some ⟨3, 1, encL rI r5.1.Mem⟩)] (by simp (disch := omega)) rfl rfl (by simp (disch := omega)) (by simp (disch := omega)) (by first | omega | simp) (by simp (disch := omega) [List.set_set, app_set] <;> omega) (by simp (disch := omega) [List.set_set, app_set]) ?_
   refine gPk AWP_ref (k := r5.1.Mem.length) (o := (M1 + 5)) (ob := ⟨26, 3, [[.osl 3 1 (encL rI r5.1.Regs), .int .i64 r5.1.Pc, .sl (M2 + 1) 0 r5.1.Mem.length]]⟩) (row := [.osl 3 1 (encL rI r5.1.Regs), .int .i64 r5.1.Pc, .sl (M2 + 1) 0 r5.1.Mem.length]) (d := (M2 + 1)) (obd := ⟨3, 1, encL rI r5.1.Mem⟩) (r := 0) (i := 2) [(N0 + 14, some ⟨26, 3, [[.fsl (encL rI r3.1.Regs), .int .i64 r3.1.Pc, .fsl (encL rI r3.1.Mem)]]⟩), (o1, some ⟨47, 5, encL rInstr r4⟩), (M1 + 5, some ⟨26, 3, [[.osl 3 1 (encL rI r5.1.Regs), .int .i64 r5.1.Pc, .osl 3 1 (encL rI r5.1.Mem)]]⟩)] (by simp (disch := omega)) rfl rfl (by simp (disch := omega)) (by simp (disch := omega)) (by first | omega | simp) (by simp (disch := omega) [List.set_set, app_set] <;> omega) (by simp (disch := omega) [List.set_set, app_set]) ?_
   obtain ⟨r8, hr8, H⟩ := bindE H
   refine AWP_sr tok [] [0, 4, 5, 6, 7, 8, 45] (fun a σ => a = [(0, .fsl (encL rInstr p0)), (4, .ptr (N0 + 14) 0 0), (5, .bool r3.2), (6, .sl o1 0 r4.length), (7, .ptr (M1 + 5) 0 0), (8, .bool r5.2), (45, .bool (bnot r8))] ∧ σ = hp E0 [(N0 + 14, some ⟨26, 3, [[.fsl (encL rI r3.1.Regs), .int .i64 r3.1.Pc, .fsl (encL rI r3.1.Mem)]]⟩), (o1, some ⟨47, 5, encL rInstr r4⟩), (M1 + 5, some ⟨26, 3, [[.osl 3 1 (encL rI r5.1.Regs), .int .i64 r5.1.Pc, .osl 3 1 (encL rI r5.1.Mem)]]⟩)] (M2 + 16)) (fun K hK => ?_) ?_
   ·
    skip
    have e0 := nq (a := N0 + 14) (b := o1) (by omega)
    have e1 := nq (a := N0 + 14) (b := M1 + 5) (by omega)
    have e2 := nq (a := N0 + 9) (b := M1) (by omega)
    have e3 := nq (a := o1) (b := M1 + 5) (by omega)
    simp -dsimp -implicitDefEqProofs (maxDischargeDepth := 6) [e0, e1, e2, e3]
    refine (c16 hr2).app ?_; try simp -dsimp -implicitDefEqProofs (maxDischargeDepth := 6) [e0, e1, e2, e3]
    refine (borrow 8 (c19 hr8) (by simp [e0, e1, e2, e3]) rfl).mono ?_; rintro _ _ ⟨rfl, rfl⟩; try simp -dsimp -implicitDefEqProofs (maxDischargeDepth := 6) [e0, e1, e2, e3]
    exact hK _ _ ⟨rfl, rfl⟩
   rintro a σ ⟨rfl, rfl⟩
   refine AWP_cond (bnot r8) rfl (fun C3 => ?_) (fun C3 => ?_)
   ·
    replace H := ifT C3 H
    refine AWP_sr tok [] [2] (fun a σ => a = [(2, .bool false)] ∧ σ = hp E0 [(N0 + 14, some ⟨26, 3, [[.fsl (encL rI r3.1.Regs), .int .i64 r3.1.Pc, .fsl (encL rI r3.1.Mem)]]⟩), (o1, some ⟨47, 5, encL rInstr r4⟩), (M1 + 5, some ⟨26, 3, [[.osl 3 1 (encL rI r5.1.Regs), .int .i64 r5.1.Pc, .osl 3 1 (encL rI r5.1.Mem)]]⟩)] (M2 + 17)) (fun K hK => ?_) ?_
    ·
     skip
     have e0 := nq (a := N0 + 14) (b := o1) (by omega)
     have e1 := nq (a := N0 + 14) (b := M1 + 5) (by omega)
     have e2 := nq (a := N0 + 9) (b := M1) (by omega)
     have e3 := nq (a := o1) (b := M1 + 5) (by omega)
     simp -dsimp -implicitDefEqProofs (maxDischargeDepth := 6) [e0, e1, e2, e3]
     exact hK _ _ ⟨rfl, rfl⟩
    rintro a σ ⟨rfl, rfl⟩
    replace H := Option.some.inj H; subst H
    refine AWP_kp [2] [(2, .bool false)] rfl ?_
    have z12 := nq (a := N0 + 14) (b := o1) (by omega)
    have z13 := nq (a := N0 + 14) (b := M1 + 5) (by omega)
    have z14 := nq (a := N0 + 9) (b := M1) (by omega)
    have z15 := nq (a := o1) (b := M1 + 5) (by omega)
    refine AWP_ret ?_
    exact ⟨[.bool false], by simp [z12, z13, z14, z15], 4, by simp [encL_nil, z12, z13, z14, z15]⟩
   ·
    replace H := ifF C3 H
    refine AWP_skip ?_
    show K3 _ _
    refine keepE (l := [0, 4, 5, 6, 7, 8]) (x := [(0, .fsl (encL rInstr p0)), (4, .ptr (N0 + 14) 0 0), (5, .bool r3.2), (6, .sl o1 0 r4.length), (7, .ptr (M1 + 5) 0 0), (8, .bool r5.2)]) rfl fun a' ha => ?_
    refine hK3 _ _ ?_; rw [ha]
    refine Rc.mk ?_
    refine AWP_sr tok [] [0, 4, 5, 6, 7, 8, 9] (fun a σ => a = [(0, .fsl (encL rInstr p0)), (4, .ptr (N0 + 14) 0 0), (5, .bool r3.2), (6, .sl o1 0 r4.length), (7, .ptr (M1 + 5) 0 0), (8, .bool r5.2), (9, .int .i64 1)] ∧ σ = hp E0 [(N0 + 14, some ⟨26, 3, [[.fsl (encL rI r3.1.Regs), .int .i64 r3.1.Pc, .fsl (encL rI r3.1.Mem)]]⟩), (o1, some ⟨47, 5, encL rInstr r4⟩), (M1 + 5, some ⟨26, 3, [[.osl 3 1 (encL rI r5.1.Regs), .int .i64 r5.1.Pc, .osl 3 1 (encL rI r5.1.Mem)]]⟩)] (M2 + 17)) (fun K hK => ?_) ?_
    ·
     skip
     have e0 := nq (a := N0 + 14) (b := o1) (by omega)
     have e1 := nq (a := N0 + 14) (b := M1 + 5) (by omega)
     have e2 := nq (a := N0 + 9) (b := M1) (by omega)
     have e3 := nq (a := o1) (b := M1 + 5) (by omega)
     simp -dsimp -implicitDefEqProofs (maxDischargeDepth := 6) [e0, e1, e2, e3]
     exact hK _ _ ⟨rfl, rfl⟩
    rintro a σ ⟨rfl, rfl⟩
    obtain ⟨r9, hr9, H⟩ := bindE H
    refine AWP_sr tok [] [0, 4, 5, 7, 8, 9] (fun a σ => ∃ M3 : Nat, M2 + 21 ≤ M3 ∧ r9.2.length = r4.length ∧ a = [(0, .fsl (encL rInstr p0)), (4, .ptr (N0 + 14) 0 0), (5, .bool r3.2), (7, .ptr (M1 + 5) 0 0), (8, .bool r5.2), (9, .int .i64 r9.1)] ∧ σ = hp E0 [(N0 + 14, some ⟨26, 3, [[.fsl (encL rI r3.1.Regs), .int .i64 r3.1.Pc, .fsl (encL rI r3.1.Mem)]]⟩), (o1, some ⟨47, 5, encL rInstr r9.2⟩), (M1 + 5, some ⟨26, 3, [[.osl 3 1 (encL rI r5.1.Regs), .int .i64 r5.1.Pc, .osl 3 1 (encL rI r5.1.Mem)]]⟩)] M3) (fun K hK => ?_) ?_
    ·
     skip
     have e0 := nq (a := N0 + 14) (b := o1) (by omega)
     have e1 := nq (a := N0 + 14) (b := M1 + 5) (by omega)
     have e2 := nq (a := N0 + 9) (b := M1) (by omega)
     have e3 := nq (a := o1) (b := M1 + 5) (by omega)
     simp -dsimp -implicitDefEqProofs (maxDischargeDepth := 6) [e0, e1, e2, e3]
     refine (c20 (H := hr9) (by simp [e0, e1, e2, e3])).mono ?_; rintro _ _ ⟨M3, fM3_0, fM3_1, rfl, rfl⟩; simp only [hp_next] at fM3_0
     try simp -dsimp -implicitDefEqProofs (maxDischargeDepth := 6) [e0, e1, e2, e3, hp_over_some, hp_over_none]
     exact hK _ _ ⟨M3, (by omega), fM3_1, rfl, rfl⟩
    rintro a σ ⟨M3, fM3_0, fM3_1, rfl, rfl⟩
    try rw [← fM3_1]
    refine AWP_sq [0, 4, 5, 7] fun K4 hK4 => ?_
    refine gUnp AWP_ref (ty := 3) (sz := 1) (es := encL rI r5.1.Regs) (o := (M1 + 5)) (ob := ⟨26, 3, [[.osl 3 1 (encL rI r5.1.Regs), .int .i64 r5.1.Pc, .osl 3 1 (encL rI r5.1.Mem)]]⟩) (row := [.osl 3 1 (encL rI r5.1.Regs), .int .i64 r5.1.Pc, .osl 3 1 (encL rI r5.1.Mem)]) (r := 0) (i := 0) [(N0 + 14, some ⟨26, 3, [[.fsl (encL rI r3.1.Regs), .int .i64 r3.1.Pc, .fsl (encL rI r3.1.Mem)]]⟩), (o1, some ⟨47, 5, encL rInstr r9.2⟩), (M1 + 5, some ⟨26, 3, [[.sl M3 0 r5.1.Regs.length, .int .i64 r5.1.Pc, .osl 3 1 (encL rI r5.1.Mem)]]⟩), (M3, some ⟨3, 1, encL rI r5.1.Regs⟩)] (by simp (disch := omega)) rfl rfl (by simp (disch := omega) [List.set_set]) ?_
    refine gUnp AWP_ref (ty := 3) (sz := 1) (es := encL rI r5.1.Mem) (o := (M1 + 5)) (ob := ⟨26, 3, [[.sl M3 0 r5.1.Regs.length, .int .i64 r5.1.Pc, .osl 3 1 (encL rI r5.1.Mem)]]⟩) (row := [.sl M3 0 r5.1.Regs.length, .int .i64 r5.1.Pc, .osl 3 1 (encL rI r5.1.Mem)]) (r := 0) (i := 2) [(N0 + 14, some ⟨26, 3, [[.fsl (encL rI r3.1.Regs), .int .i64 r3.1.Pc, .fsl (encL rI r3.1.Mem)]]⟩), (o1, some ⟨47, 5, encL rInstr r9.2⟩), (M1 + 5, some ⟨26, 3, [[.sl M3 0 r5.1.Regs.length, .int .i64 r5.1.Pc, .sl (M3 + 1) 0 r5.1.Mem.length]]⟩), (M3, some ⟨3, 1, encL rI r5.1.Regs⟩), (M3 + 1, some ⟨3, 1, encL rI r5.1.Mem⟩)] (by simp (disch := omega)) rfl rfl (by simp (disch := omega) [List.set_set]) ?_
    obtain ⟨g10, hg10, H⟩ := bindE H
    obtain ⟨g11, hg11, H⟩ := bindE H
    refine AWP_sr tok [] [0, 4, 5, 7, 61] (fun a σ => a = [(0, .fsl (encL rInstr p0)), (4, .ptr (N0 + 14) 0 0), (5, .bool r3.2), (7, .ptr (M1 + 5) 0 0), (61, .bool g11)] ∧ σ = hp E0 [(N0 + 14, some ⟨26, 3, [[.fsl (encL rI r3.1.Regs), .int .i64 r3.1.Pc, .fsl (encL rI r3.1.Mem)]]⟩), (o1, some ⟨47, 5, encL rInstr r9.2⟩), (M1 + 5, some ⟨26, 3, [[.sl M3 0 r5.1.Regs.length, .int .i64 r5.1.Pc, .sl (M3 + 1) 0 r5.1.Mem.length]]⟩), (M3, some ⟨3, 1, encL rI r5.1.Regs⟩), (M3 + 1, some ⟨3, 1, encL rI r5.1.Mem⟩)] (M3 + 15)) (fun K hK => ?_) ?_
    ·
     skip
     have e0 := nq (a := N0 + 14) (b := o1) (by omega)
     have e1 := nq (a := N0 + 14) (b := M1 + 5) (by omega)
     have e2 := nq (a := N0 + 9) (b := M1) (by omega)
     have e3 := nq (a := N0 + 14) (b := M3) (by omega)
     have e4 := nq (a := N0 + 14) (b := M3 + 1) (by omega)
     have e5 := nq (a := N0 + 13) (b := M3) (by omega)
     have e6 := nq (a := o1) (b := M1 + 5) (by omega)
     have e7 := nq (a := o1) (b := M3) (by omega)
     have e8 := nq (a := o1) (b := M3 + 1) (by omega)
     have e9 := nq (a := M1 + 5) (b := M3) (by omega)
     have e10 := nq (a := M1 + 5) (b := M3 + 1) (by omega)
     have e11 := nq (a := M1 + 4) (b := M3) (by omega)
     simp -dsimp -implicitDefEqProofs (maxDischargeDepth := 6) [e0, e1, e2, e3, e4, e5, e6, e7, e8, e9, e10, e11]
     cases hbg10 : ilt r9.1 0
     ·
      replace hg10 := ifF hbg10 hg10
      replace hg10 := Option.some.inj hg10; subst hg10
      try simp -dsimp -implicitDefEqProofs (maxDischargeDepth := 6) [e0, e1, e2, e3, e4, e5, e6, e7, e8, e9, e10, e11, hbg10]
      refine (borrow 8 (c18 hr6) (by simp [e0, e1, e2, e3, e4, e5, e6, e7, e8, e9, e10, e11, hbg10]) rfl).mono ?_; rintro _ _ ⟨rfl, rfl⟩; try simp -dsimp -implicitDefEqProofs (maxDischargeDepth := 6) [e0, e1, e2, e3, e4, e5, e6, e7, e8, e9, e10, e11, hbg10]
      cases hbg11 : (bnot r6)
      ·
       replace hg11 := ifF hbg11 hg11
       replace hg11 := Option.some.inj hg11; subst hg11
       try simp -dsimp -implicitDefEqProofs (maxDischargeDepth := 6) [e0, e1, e2, e3, e4, e5, e6, e7, e8, e9, e10, e11, hbg10, hbg11]
       exact hK _ _ ⟨rfl, rfl⟩
      ·
       replace hg11 := ifT hbg11 hg11
       replace hg11 := Option.some.inj hg11; subst hg11
       try simp -dsimp -implicitDefEqProofs (maxDischargeDepth := 6) [e0, e1, e2, e3, e4, e5, e6, e7, e8, e9, e10, e11, hbg10, hbg11]
       exact hK _ _ ⟨rfl, rfl⟩
     ·
      replace hg10 := ifT hbg10 hg10
      replace hg10 := Option.some.inj hg10; subst hg10
      try simp -dsimp -implicitDefEqProofs (maxDischargeDepth := 6) [e0, e1, e2, e3, e4, e5, e6, e7, e8, e9, e10, e11, hbg10]
      replace hg11 := ifT rfl hg11
      replace hg11 := Option.some.inj hg11; subst hg11
      try simp -dsimp -implicitDefEqProofs (maxDischargeDepth := 6) [e0, e1, e2, e3, e4, e5, e6, e7, e8, e9, e10, e11, hbg10]
      exact hK _ _ ⟨rfl, rfl⟩
    rintro a σ ⟨rfl, rfl⟩
    refine AWP_cond g11 rfl (fun C4 => ?_) (fun C4 => ?_)
    ·
     replace H := ifT C4 H
     refine AWP_sr tok [] [2] (fun a σ => a = [(2, .bool false)] ∧ σ = hp E0 [(N0 + 14, some ⟨26, 3, [[.fsl (encL rI r3.1.Regs), .int .i64 r3.1.Pc, .fsl (encL rI r3.1.Mem)]]⟩), (o1, some ⟨47, 5, encL rInstr r9.2⟩), (M1 + 5, some ⟨26, 3, [[.sl M3 0 r5.1.Regs.length, .int .i64 r5.1.Pc, .sl (M3 + 1) 0 r5.1.Mem.length]]⟩), (M3, some ⟨3, 1, encL rI r5.1.Regs⟩), (M3 + 1, some ⟨3, 1, encL rI r5.1.Mem⟩)] (M3 + 16)) (fun K hK => ?_) ?_
     ·
      skip
      have e0 := nq (a := N0 + 14) (b := o1) (by omega)
      have e1 := nq (a := N0 + 14) (b := M1 + 5) (by omega)
      have e2 := nq (a := N0 + 9) (b := M1) (by omega)
      have e3 := nq (a := N0 + 14) (b := M3) (by omega)
      have e4 := nq (a := N0 + 14) (b := M3 + 1) (by omega)
      have e5 := nq (a := N0 + 13) (b := M3) (by omega)
      have e6 := nq (a := o1) (b := M1 + 5) (by omega)
      have e7 := nq (a := o1) (b := M3) (by omega)
      have e8 := nq (a := o1) (b := M3 + 1) (by omega)
      have e9 := nq (a := M1 + 5) (b := M3) (by omega)
      have e10 := nq (a := M1 + 5) (b := M3 + 1) (by omega)
      have e11 := nq (a := M1 + 4) (b := M3) (by omega)
      simp -dsimp -implicitDefEqProofs (maxDischargeDepth := 6) [e0, e1, e2, e3, e4, e5, e6, e7, e8, e9, e10, e11]
      exact hK _ _ ⟨rfl, rfl⟩
     rintro a σ ⟨rfl, rfl⟩
     replace H := Option.some.inj H; subst H
     refine AWP_kp [2] [(2, .bool false)] rfl ?_
     have z16 := nq (a := N0 + 14) (b := o1) (by omega)
     have z17 := nq (a := N0 + 14) (b := M1 + 5) (by omega)
     have z18 := nq (a := N0 + 9) (b := M1) (by omega)
     have z19 := nq (a := N0 + 14) (b := M3) (by omega)
     have z20 := nq (a := N0 + 14) (b := M3 + 1) (by omega)
     have z21 := nq (a := N0 + 13) (b := M3) (by omega)
     have z22 := nq (a := o1) (b := M1 + 5) (by omega)
     have z23 := nq (a := o1) (b := M3) (by omega)
     have z24 := nq (a := o1) (b := M3 + 1) (by omega)
     have z25 := nq (a := M1 + 5) (b := M3) (by omega)
     have z26 := nq (a := M1 + 5) (b := M3 + 1) (by omega)
     have z27 := nq (a := M1 + 4) (b := M3) (by omega)
     refine AWP_ret ?_
     exact ⟨[.bool false], by simp [z16, z17, z18, z19, z20, z21, z22, z23, z24, z25, z26, z27], 4, by simp [encL_nil, z16, z17, z18, z19, z20, z21, z22, z23, z24, z25, z26, z27]⟩
    ·
     replace H := ifF C4 H
     refine AWP_skip ?_
     show K4 _ _
     refine keepE (l := [0, 4, 5, 7]) (x := [(0, .fsl (encL rInstr p0)), (4, .ptr (N0 + 14) 0 0), (5, .bool r3.2), (7, .ptr (M1 + 5) 0 0)]) rfl fun a' ha => ?_
     refine hK4 _ _ ?_; rw [ha]
     refine Rc.mk ?_
     refine AWP_sr tok [] [0, 4, 5, 7, 10] (fun a σ => a = [(0, .fsl (encL rInstr p0)), (4, .ptr (N0 + 14) 0 0), (5, .bool r3.2), (7, .ptr (M1 + 5) 0 0), (10, .int .i64 1)] ∧ σ = hp E0 [(N0 + 14, some ⟨26, 3, [[.fsl (encL rI r3.1.Regs), .int .i64 r3.1.Pc, .fsl (encL rI r3.1.Mem)]]⟩), (o1, some ⟨47, 5, encL rInstr r9.2⟩), (M1 + 5, some ⟨26, 3, [[.sl M3 0 r5.1.Regs.length, .int .i64 r5.1.Pc, .sl (M3 + 1) 0 r5.1.Mem.length]]⟩), (M3, some ⟨3, 1, encL rI r5.1.Regs⟩), (M3 + 1, some ⟨3, 1, encL rI r5.1.Mem⟩)] (M3 + 16)) (fun K hK => ?_) ?_
     ·
      skip
      have e0 := nq (a := N0 + 14) (b := o1) (by omega)
      have e1 := nq (a := N0 + 14) (b := M1 + 5) (by omega)
      have e2 := nq (a := N0 + 9) (b := M1) (by omega)
      have e3 := nq (a := N0 + 14) (b := M3) (by omega)
      have e4 := nq (a := N0 + 14) (b := M3 + 1) (by omega)
      have e5 := nq (a := N0 + 13) (b := M3) (by omega)
      have e6 := nq (a := o1) (b := M1 + 5) (by omega)
      have e7 := nq (a := o1) (b := M3) (by omega)
      have e8 := nq (a := o1) (b := M3 + 1) (by omega)
      have e9 := nq (a := M1 + 5) (b := M3) (by omega)
      have e10 := nq (a := M1 + 5) (b := M3 + 1) (by omega)
      have e11 := nq (a := M1 + 4) (b := M3) (by omega)
      simp -dsimp -implicitDefEqProofs (maxDischargeDepth := 6) [e0, e1, e2, e3, e4, e5, e6, e7, e8, e9, e10, e11]
      exact hK _ _ ⟨rfl, rfl⟩
     rintro a σ ⟨rfl, rfl⟩
     refine gPk AWP_ref (k := r5.1.Regs.length) (o := (M1 + 5)) (ob := ⟨26, 3, [[.sl M3 0 r5.1.Regs.length, .int .i64 r5.1.Pc, .sl (M3 + 1) 0 r5.1.Mem.length]]⟩) (row := [.sl M3 0 r5.1.Regs.length, .int .i64 r5.1.Pc, .sl (M3 + 1) 0 r5.1.Mem.length]) (d := M3) (obd := ⟨3, 1, encL rI r5.1.Regs⟩) (r := 0) (i := 0) [(N0 + 14, some ⟨26, 3, [[.fsl (encL rI r3.1.Regs), .int .i64 r3.1.Pc, .fsl (encL rI r3.1.Mem)]]⟩), (o1, some ⟨47, 5, encL rInstr r9.2⟩), (M1 + 5, some ⟨26, 3, [[.osl 3 1 (encL rI r5.1.Regs), .int .i64 r5.1.Pc, .sl (M3 + 1) 0 r5.1.Mem.length]]⟩), (M3 + 1, some ⟨3, 1, encL rI r5.1.Mem⟩)] (by simp (disch := omega)) rfl rfl (by simp (disch := omega)) (by simp (disch := omega)) (by first | omega | simp) (by simp (disch := omega) [List.set_set, app_set] <;> omega) (by simp (disch := omega) [List.set_set, app_set]) ?_
     refine gPk AWP_ref (k := r5.1.Mem.length) (o := (M1 + 5)) (ob := ⟨26, 3, [[.osl 3 1 (encL rI r5.1.Regs), .int .i64 r5.1.Pc, .sl (M3 + 1) 0 r5.1.Mem.length]]⟩) (row := [.osl 3 1 (encL rI r5.1.Regs), .int .i64 r5.1.Pc, .sl (M3 + 1) 0 r5.1.Mem.length]) (d := (M3 + 1)) (obd := ⟨3, 1, encL rI r5.1.Mem⟩) (r := 0) (i := 2) [(N0 + 14, some ⟨26, 3, [[.fsl (encL rI r3.1.Regs), .int .i64 r3.1.Pc, .fsl (encL rI r3.1.Mem)]]⟩), (o1, some ⟨47, 5, encL rInstr r9.2⟩), (M1 + 5, some ⟨26, 3, [[.osl 3 1 (encL rI r5.1.Regs), .int .i64 r5.1.Pc, .osl 3 1 (encL rI r5.1.Mem)]]⟩)] (by simp (disch := omega)) rfl rfl (by simp (disch := omega)) (by simp (disch := omega)) (by first | omega | simp) (by simp (disch := omega) [List.set_set, app_set] <;> omega) (by simp (disch := omega) [List.set_set, app_set]) ?_
     refine gUnp AWP_ref (ty := 3) (sz := 1) (es := encL rI r5.1.Regs) (o := (M1 + 5)) (ob := ⟨26, 3, [[.osl 3 1 (encL rI r5.1.Regs), .int .i64 r5.1.Pc, .osl 3 1 (encL rI r5.1.Mem)]]⟩) (row := [.osl 3 1 (encL rI r5.1.Regs), .int .i64 r5.1.Pc, .osl 3 1 (encL rI r5.1.Mem)]) (r := 0) (i := 0) [(N0 + 14, some ⟨26, 3, [[.fsl (encL rI r3.1.Regs), .int .i64 r3.1.Pc, .fsl (encL rI r3.1.Mem)]]⟩), (o1, some ⟨47, 5, encL rInstr r9.2⟩), (M1 + 5, some ⟨26, 3, [[.sl (M3 + 16) 0 r5.1.Regs.length, .int .i64 r5.1.Pc, .osl 3 1 (encL rI r5.1.Mem)]]⟩), (M3 + 16, some ⟨3, 1, encL rI r5.1.Regs⟩)] (by simp (disch := omega)) rfl rfl (by simp (disch := omega) [List.set_set]) ?_
     refine gUnp AWP_ref (ty := 3) (sz := 1) (es := encL rI r5.1.Mem) (o := (M1 + 5)) (ob := ⟨26, 3, [[.sl (M3 + 16) 0 r5.1.Regs.length, .int .i64 r5.1.Pc, .osl 3 1 (encL rI r5.1.Mem)]]⟩) (row := [.sl (M3 + 16) 0 r5.1.Regs.length, .int .i64 r5.1.Pc, .osl 3 1 (encL rI r5.1.Mem)]) (r := 0) (i := 2) [(N0 + 14, some ⟨26, 3, [[.fsl (encL rI r3.1.Regs), .int .i64 r3.1.Pc, .fsl (encL rI r3.1.Mem)]]⟩), (o1, some ⟨47, 5, encL rInstr r9.2⟩), (M1 + 5, some ⟨26, 3, [[.sl (M3 + 16) 0 r5.1.Regs.length, .int .i64 r5.1.Pc, .sl (M3 + 17) 0 r5.1.Mem.length]]⟩), (M3 + 16, some ⟨3, 1, encL rI r5.1.Regs⟩), (M3 + 17, some ⟨3, 1, encL rI r5.1.Mem⟩)] (by simp (disch := omega)) rfl rfl (by simp (disch := omega) [List.set_set]) ?_
     obtain ⟨r12, hr12, H⟩ := bindE H
     refine AWP_sr tok [] [0, 4, 5, 7, 10] (fun a σ => ∃ M4 : Nat, M3 + 22 ≤ M4 ∧ r12.2.Regs.length = r5.1.Regs.length ∧ r12.2.Mem.length = r5.1.Mem.length ∧ a = [(0, .fsl (encL rInstr p0)), (4, .ptr (N0 + 14) 0 0), (5, .bool r3.2), (7, .ptr (M1 + 5) 0 0), (10, .int .i64 r12.1)] ∧ σ = hp E0 [(N0 + 14, some ⟨26, 3, [[.fsl (encL rI r3.1.Regs), .int .i64 r3.1.Pc, .fsl (encL rI r3.1.Mem)]]⟩), (o1, some ⟨47, 5, encL rInstr r9.2⟩), (M1 + 5, some ⟨26, 3, [[.sl (M3 + 16) 0 r5.1.Regs.length, .int .i64 r5.1.Pc, .sl (M3 + 17) 0 r5.1.Mem.length]]⟩), (M3 + 16, some ⟨3, 1, encL rI r12.2.Regs⟩), (M3 + 17, some ⟨3, 1, encL rI r12.2.Mem⟩)] M4) (fun K hK => ?_) ?_
     ·
      skip
      have e0 := nq (a := N0 + 14) (b := o1) (by omega)
      have e1 := nq (a := N0 + 14) (b := M1 + 5) (by omega)
      have e2 := nq (a := N0 + 9) (b := M1) (by omega)
      have e3 := nq (a := N0 + 14) (b := M3 + 16) (by omega)
      have e4 := nq (a := N0) (b := M3 + 2) (by omega)
      have e5 := nq (a := N0 + 14) (b := M3 + 17) (by omega)
      have e6 := nq (a := N0) (b := M3 + 3) (by omega)
      have e7 := nq (a := o1) (b := M1 + 5) (by omega)
      have e8 := nq (a := o1) (b := M3 + 16) (by omega)
      have e9 := nq (a := o1) (b := M3 + 17) (by omega)
      have e10 := nq (a := M1 + 5) (b := M3 + 16) (by omega)
      have e11 := nq (a := M1) (b := M3 + 11) (by omega)
      have e12 := nq (a := M1 + 5) (b := M3 + 17) (by omega)
      have e13 := nq (a := M1) (b := M3 + 12) (by omega)
      simp -dsimp -implicitDefEqProofs (maxDischargeDepth := 6) [e0, e1, e2, e3, e4, e5, e6, e7, e8, e9, e10, e11, e12, e13]
      refine (c21 (H := hr12) (by simp [e0, e1, e2, e3, e4, e5, e6, e7, e8, e9, e10, e11, e12, e13]) (by simp [e0, e1, e2, e3, e4, e5, e6, e7, e8, e9, e10, e11, e12, e13]) (by simp [e0, e1, e2, e3, e4, e5, e6, e7, e8, e9, e10, e11, e12, e13])).mono ?_; rintro _ _ ⟨M4, fM4_0, fM4_1, fM4_2, rfl, rfl⟩; simp only [hp_next] at fM4_0
      try simp -dsimp -implicitDefEqProofs (maxDischargeDepth := 6) [e0, e1, e2, e3, e4, e5, e6, e7, e8, e9, e10, e11, e12, e13, hp_over_some, hp_over_none]
      exact hK _ _ ⟨M4, (by omega), fM4_1, fM4_2, rfl, rfl⟩
     rintro a σ ⟨M4, fM4_0, fM4_1, fM4_2, rfl, rfl⟩
     try rw [← fM4_1]
     try rw [← fM4_2]
     refine AWP_sr tok [] [0, 4, 5, 7, 10, 11] (fun a σ => a = [(0, .fsl (encL rInstr p0)), (4, .ptr (N0 + 14) 0 0), (5, .bool r3.2), (7, .ptr (M1 + 5) 0 0), (10, .int .i64 r12.1), (11, .int .i64 1)] ∧ σ = hp E0 [(N0 + 14, some ⟨26, 3, [[.fsl (encL rI r3.1.Regs), .int .i64 r3.1.Pc, .fsl (encL rI r3.1.Mem)]]⟩), (o1, some ⟨47, 5, encL rInstr r9.2⟩), (M1 + 5, some ⟨26, 3, [[.sl (M3 + 16) 0 r12.2.Regs.length, .int .i64 r5.1.Pc, .sl (M3 + 17) 0 r12.2.Mem.length]]⟩), (M3 + 16, some ⟨3, 1, encL rI r12.2.Regs⟩), (M3 + 17, some ⟨3, 1, encL rI r12.2.Mem⟩)] (M4 + 1)) (fun K hK => ?_) ?_
     ·
      skip
      have e0 := nq (a := N0 + 14) (b := o1) (by omega)
      have e1 := nq (a := N0 + 14) (b := M1 + 5) (by omega)
      have e2 := nq (a := N0 + 9) (b := M1) (by omega)
      have e3 := nq (a := N0 + 14) (b := M3 + 16) (by omega)
      have e4 := nq (a := N0) (b := M3 + 2) (by omega)
      have e5 := nq (a := N0 + 14) (b := M3 + 17) (by omega)
      have e6 := nq (a := N0) (b := M3 + 3) (by omega)
      have e7 := nq (a := o1) (b := M1 + 5) (by omega)
      have e8 := nq (a := o1) (b := M3 + 16) (by omega)
      have e9 := nq (a := o1) (b := M3 + 17) (by omega)
      have e10 := nq (a := M1 + 5) (b := M3 + 16) (by omega)
      have e11 := nq (a := M1) (b := M3 + 11) (by omega)
      have e12 := nq (a := M1 + 5) (b := M3 + 17) (by omega)
      have e13 := nq (a := M1) (b := M3 + 12) (by omega)
      simp -dsimp -implicitDefEqProofs (maxDischargeDepth := 6) [e0, e1, e2, e3, e4, e5, e6, e7, e8, e9, e10, e11, e12, e13]
      exact hK _ _ ⟨rfl, rfl⟩
     rintro a σ ⟨rfl, rfl⟩
     refine gPk AWP_ref (k := r12.2.Regs.length) (o := (M1 + 5)) (ob := ⟨26, 3, [[.sl (M3 + 16) 0 r12.2.Regs.length, .int .i64 r5.1.Pc, .sl (M3 + 17) 0 r12.2.Mem.length]]⟩) (row := [.sl (M3 + 16) 0 r12.2.Regs.length, .int .i64 r5.1.Pc, .sl (M3 + 17) 0 r12.2.Mem.length]) (d := (M3 + 16)) (obd := ⟨3, 1, encL rI r12.2.Regs⟩) (r := 0) (i := 0) [(N0 + 14, some ⟨26, 3, [[.fsl (encL rI r3.1.Regs), .int .i64 r3.1.Pc, .fsl (encL rI r3.1.Mem)]]⟩), (o1, some ⟨47, 5, encL rInstr r9.2⟩), (M1 + 5, some ⟨26, 3, [[.osl 3 1 (encL rI r12.2.Regs), .int .i64 r5.1.Pc, .sl (M3 + 17) 0 r12.2.Mem.length]]⟩), (M3 + 17, some ⟨3, 1, encL rI r12.2.Mem⟩)] (by simp (disch := omega)) rfl rfl (by simp (disch := omega)) (by simp (disch := omega)) (by first | omega | simp) (by simp (disch := omega) [List.set_set, app_set] <;> omega) (by simp (disch := omega) [List.set_set, app_set]) ?_
     refine gPk AWP_ref (k := r12.2.Mem.length) (o := (M1 + 5)) (ob := ⟨26, 3, [[.osl 3 1 (encL rI r12.2.Regs), .int .i64 r5.1.Pc, .sl (M3 + 17) 0 r12.2.Mem.length]]⟩) (row := [.osl 3 1 (encL rI r12.2.Regs), .int .i64 r5.1.Pc, .sl (M3 + 17) 0 r12.2.Mem.length]) (d := (M3 + 17)) (obd := ⟨3, 1, encL rI r12.2.Mem⟩) (r := 0) (i := 2) [(N0 + 14, some ⟨26, 3, [[.fsl (encL rI r3.1.Regs), .int .i64 r3.1.Pc, .fsl (encL rI r3.1.Mem)]]⟩), (o1, some ⟨47, 5, encL rInstr r9.2⟩), (M1 + 5, some ⟨26, 3, [[.osl 3 1 (encL rI r12.2.Regs), .int .i64 r5.1.Pc, .osl 3 1 (encL rI r12.2.Mem)]]⟩)] (by simp (disch := omega)) rfl rfl (by simp (disch := omega)) (by simp (disch := omega)) (by first | omega | simp) (by simp (disch := omega) [List.set_set, app_set] <;> omega) (by simp (disch := omega) [List.set_set, app_set]) ?_
     refine gUnp AWP_ref (ty := 3) (sz := 1) (es := encL rI r12.2.Regs) (o := (M1 + 5)) (ob := ⟨26, 3, [[.osl 3 1 (encL rI r12.2.Regs), .int .i64 r5.1.Pc, .osl 3 1 (encL rI r12.2.Mem)]]⟩) (row := [.osl 3 1 (encL rI r12.2.Regs), .int .i64 r5.1.Pc, .osl 3 1 (encL rI r12.2.Mem)]) (r := 0) (i := 0) [(N0 + 14, some ⟨26, 3, [[.fsl (encL rI r3.1.Regs), .int .i64 r3.1.Pc, .fsl (encL rI r3.1.Mem)]]⟩), (o1, some ⟨47, 5, encL rInstr r9.2⟩), (M1 + 5, some ⟨26, 3, [[.sl (M4 + 1) 0 r12.2.Regs.length, .int .i64 r5.1.Pc, .osl 3 1 (encL rI r12.2.Mem)]]⟩), (M4 + 1, some ⟨3, 1, encL rI r12.2.Regs⟩)] (by simp (disch := omega)) rfl rfl (by simp (disch := omega) [List.set_set]) ?_
     refine gUnp AWP_ref (ty := 3) (sz := 1) (es := encL rI r12.2.Mem) (o := (M1 + 5)) (ob := ⟨26, 3, [[.sl (M4 + 1) 0 r12.2.Regs.length, .int .i64 r5.1.Pc, .osl 3 1 (encL rI r12.2.Mem)]]⟩) (row := [.sl (M4 + 1) 0 r12.2.Regs.length, .int .i64 r5.1.Pc, .osl 3 1 (encL rI r12.2.Mem)]) (r := 0) (i := 2) [(N0 + 14, some ⟨26, 3, [[.fsl (encL rI r3.1.Regs), .int .i64 r3.1.Pc, .fsl (encL rI r3.1.Mem)]]⟩), (o1, some ⟨47, 5, encL rInstr r9.2⟩), (M1 + 5, some ⟨26, 3, [[.sl (M4 + 1) 0 r12.2.Regs.length, .int .i64 r5.1.Pc, .sl (M4 + 2) 0 r12.2.Mem.length]]⟩), (M4 + 1, some ⟨3, 1, encL rI r12.2.Regs⟩), (M4 + 2, some ⟨3, 1, encL rI r12.2.Mem⟩)] (by simp (disch := omega)) rfl rfl (by simp (disch := omega) [List.set_set]) ?_
     obtain ⟨r13, hr13, H⟩ := bindE H
     refine AWP_sr tok [] [0, 4, 5, 7, 10, 11] (fun a σ => a = [(0, .fsl (encL rInstr p0)), (4, .ptr (N0 + 14) 0 0), (5, .bool r3.2), (7, .ptr (M1 + 5) 0 0), (10, .int .i64 r12.1), (11, .int .i64 r13)] ∧ σ = hp E0 [(N0 + 14, some ⟨26, 3, [[.fsl (encL rI r3.1.Regs), .int .i64 r3.1.Pc, .fsl (encL rI r3.1.Mem)]]⟩), (o1, some ⟨47, 5, encL rInstr r9.2⟩), (M1 + 5, some ⟨26, 3, [[.sl (M4 + 1) 0 r12.2.Regs.length, .int .i64 r5.1.Pc, .sl (M4 + 2) 0 r12.2.Mem.length]]⟩), (M4 + 1, some ⟨3, 1, encL rI r12.2.Regs⟩), (M4 + 2, some ⟨3, 1, encL rI r12.2.Mem⟩)] (M4 + 7)) (fun K hK => ?_) ?_
     ·
      skip
      have e0 := nq (a := N0 + 14) (b := o1) (by omega)
      have e1 := nq (a := N0 + 14) (b := M1 + 5) (by omega)
      have e2 := nq (a := N0 + 9) (b := M1) (by omega)
      have e3 := nq (a := N0 + 14) (b := M4 + 1) (by omega)
      have e4 := nq (a := N0 + 13) (b := M4) (by omega)
      have e5 := nq (a := N0 + 14) (b := M4 + 2) (by omega)
      have e6 := nq (a := N0 + 12) (b := M4) (by omega)
      have e7 := nq (a := o1) (b := M1 + 5) (by omega)
      have e8 := nq (a := o1) (b := M4 + 1) (by omega)
      have e9 := nq (a := o1) (b := M4 + 2) (by omega)
      have e10 := nq (a := M1 + 5) (b := M4 + 1) (by omega)
      have e11 := nq (a := M1 + 4) (b := M4) (by omega)
      have e12 := nq (a := M1 + 5) (b := M4 + 2) (by omega)
      have e13 := nq (a := M1 + 3) (b := M4) (by omega)
      simp -dsimp -implicitDefEqProofs (maxDischargeDepth := 6) [e0, e1, e2, e3, e4, e5, e6, e7, e8, e9, e10, e11, e12, e13]
      refine (borrow 8 (c22 hr13) (by simp [e0, e1, e2, e3, e4, e5, e6, e7, e8, e9, e10, e11, e12, e13]) rfl).mono ?_; rintro _ _ ⟨rfl, rfl⟩; try simp -dsimp -implicitDefEqProofs (maxDischargeDepth := 6) [e0, e1, e2, e3, e4, e5, e6, e7, e8, e9, e10, e11, e12, e13]
      exact hK _ _ ⟨rfl, rfl⟩
     rintro a σ ⟨rfl, rfl⟩
     refine AWP_sq [0, 4, 5, 7, 10, 11] fun K5 hK5 => ?_
     refine AWP_sr tok [] [0, 4, 5, 7, 10, 11, 69] (fun a σ => a = [(0, .fsl (encL rInstr p0)), (4, .ptr (N0 + 14) 0 0), (5, .bool r3.2), (7, .ptr (M1 + 5) 0 0), (10, .int .i64 r12.1), (11, .int .i64 r13), (69, .bool (ilt r13 0))] ∧ σ = hp E0 [(N0 + 14, some ⟨26, 3, [[.fsl (encL rI r3.1.Regs), .int .i64 r3.1.Pc, .fsl (encL rI r3.1.Mem)]]⟩), (o1, some ⟨47, 5, encL rInstr r9.2⟩), (M1 + 5, some ⟨26, 3, [[.sl (M4 + 1) 0 r12.2.Regs.length, .int .i64 r5.1.Pc, .sl (M4 + 2) 0 r12.2.Mem.length]]⟩), (M4 + 1, some ⟨3, 1, encL rI r12.2.Regs⟩), (M4 + 2, some ⟨3, 1, encL rI r12.2.Mem⟩)] (M4 + 9)) (fun K hK => ?_) ?_
     ·
      skip
      have e0 := nq (a := N0 + 14) (b := o1) (by omega)
      have e1 := nq (a := N0 + 14) (b := M1 + 5) (by omega)
      have e2 := nq (a := N0 + 9) (b := M1) (by omega)
      have e3 := nq (a := N0 + 14) (b := M4 + 1) (by omega)
      have e4 := nq (a := N0 + 13) (b := M4) (by omega)
      have e5 := nq (a := N0 + 14) (b := M4 + 2) (by omega)
      have e6 := nq (a := N0 + 12) (b := M4) (by omega)
      have e7 := nq (a := o1) (b := M1 + 5) (by omega)
      have e8 := nq (a := o1) (b := M4 + 1) (by omega)
      have e9 := nq (a := o1) (b := M4 + 2) (by omega)
      have e10 := nq (a := M1 + 5) (b := M4 + 1) (by omega)
      have e11 := nq (a := M1 + 4) (b := M4) (by omega)
      have e12 := nq (a := M1 + 5) (b := M4 + 2) (by omega)
      have e13 := nq (a := M1 + 3) (b := M4) (by omega)
      simp -dsimp -implicitDefEqProofs (maxDischargeDepth := 6) [e0, e1, e2, e3, e4, e5, e6, e7, e8, e9, e10, e11, e12, e13]
      exact hK _ _ ⟨rfl, rfl⟩
     rintro a σ ⟨rfl, rfl⟩
     refine AWP_cond (ilt r13 0) rfl (fun C5 => ?_) (fun C5 => ?_)
     ·
      replace H := ifT C5 H
      refine AWP_sr tok [] [2] (fun a σ => a = [(2, .bool false)] ∧ σ = hp E0 [(N0 + 14, some ⟨26, 3, [[.fsl (encL rI r3.1.Regs), .int .i64 r3.1.Pc, .fsl (encL rI r3.1.Mem)]]⟩), (o1, some ⟨47, 5, encL rInstr r9.2⟩), (M1 + 5, some ⟨26, 3, [[.sl (M4 + 1) 0 r12.2.Regs.length, .int .i64 r5.1.Pc, .sl (M4 + 2) 0 r12.2.Mem.length]]⟩), (M4 + 1, some ⟨3, 1, encL rI r12.2.Regs⟩), (M4 + 2, some ⟨3, 1, encL rI r12.2.Mem⟩)] (M4 + 10)) (fun K hK => ?_) ?_
      ·
       skip
       have e0 := nq (a := N0 + 14) (b := o1) (by omega)
       have e1 := nq (a := N0 + 14) (b := M1 + 5) (by omega)
       have e2 := nq (a := N0 + 9) (b := M1) (by omega)
       have e3 := nq (a := N0 + 14) (b := M4 + 1) (by omega)
       have e4 := nq (a := N0 + 13) (b := M4) (by omega)
       have e5 := nq (a := N0 + 14) (b := M4 + 2) (by omega)
       have e6 := nq (a := N0 + 12) (b := M4) (by omega)
       have e7 := nq (a := o1) (b := M1 + 5) (by omega)
       have e8 := nq (a := o1) (b := M4 + 1) (by omega)
       have e9 := nq (a := o1) (b := M4 + 2) (by omega)
       have e10 := nq (a := M1 + 5) (b := M4 + 1) (by omega)
       have e11 := nq (a := M1 + 4) (b := M4) (by omega)
       have e12 := nq (a := M1 + 5) (b := M4 + 2) (by omega)
       have e13 := nq (a := M1 + 3) (b := M4) (by omega)
       simp -dsimp -implicitDefEqProofs (maxDischargeDepth := 6) [e0, e1, e2, e3, e4, e5, e6, e7, e8, e9, e10, e11, e12, e13]
       exact hK _ _ ⟨rfl, rfl⟩
      rintro a σ ⟨rfl, rfl⟩
      replace H := Option.some.inj H; subst H
      refine AWP_kp [2] [(2, .bool false)] rfl ?_
      have z28 := nq (a := N0 + 14) (b := o1) (by omega)
      have z29 := nq (a := N0 + 14) (b := M1 + 5) (by omega)
      have z30 := nq (a := N0 + 9) (b := M1) (by omega)
      have z31 := nq (a := N0 + 14) (b := M4 + 1) (by omega)
      have z32 := nq (a := N0 + 13) (b := M4) (by omega)
      have z33 := nq (a := N0 + 14) (b := M4 + 2) (by omega)
      have z34 := nq (a := N0 + 12) (b := M4) (by omega)
      have z35 := nq (a := o1) (b := M1 + 5) (by omega)
      have z36 := nq (a := o1) (b := M4 + 1) (by omega)
      have z37 := nq (a := o1) (b := M4 + 2) (by omega)
      have z38 := nq (a := M1 + 5) (b := M4 + 1) (by omega)
      have z39 := nq (a := M1 + 4) (b := M4) (by omega)
      have z40 := nq (a := M1 + 5) (b := M4 + 2) (by omega)
      have z41 := nq (a := M1 + 3) (b := M4) (by omega)
      refine AWP_ret ?_
      exact ⟨[.bool false], by simp [z28, z29, z30, z31, z32, z33, z34, z35, z36, z37, z38, z39, z40, z41], 4, by simp [encL_nil, z28, z29, z30, z31, z32, z33, z34, z35, z36, z37, z38, z39, z40, z41]⟩
     ·
      replace H := ifF C5 H
      refine AWP_skip ?_
      show K5 _ _
      refine keepE (l := [0, 4, 5, 7, 10, 11]) (x := [(0, .fsl (encL rInstr p0)), (4, .ptr (N0 + 14) 0 0), (5, .bool r3.2), (7, .ptr (M1 + 5) 0 0), (10, .int .i64 r12.1), (11, .int .i64 r13)]) rfl fun a' ha => ?_
      refine hK5 _ _ ?_; rw [ha]
      refine Rc.mk ?_
      refine AWP_sq [0, 4, 5, 7, 10] fun K6 hK6 => ?_
      refine AWP_sr tok [] [0, 4, 5, 7, 10, 72] (fun a σ => a = [(0, .fsl (encL rInstr p0)), (4, .ptr (N0 + 14) 0 0), (5, .bool r3.2), (7, .ptr (M1 + 5) 0 0), (10, .int .i64 r12.1), (72, .bool (ine r13 r12.1))] ∧ σ = hp E0 [(N0 + 14, some ⟨26, 3, [[.fsl (encL rI r3.1.Regs), .int .i64 r3.1.Pc, .fsl (encL rI r3.1.Mem)]]⟩), (o1, some ⟨47, 5, encL rInstr r9.2⟩), (M1 + 5, some ⟨26, 3, [[.sl (M4 + 1) 0 r12.2.Regs.length, .int .i64 r5.1.Pc, .sl (M4 + 2) 0 r12.2.Mem.length]]⟩), (M4 + 1, some ⟨3, 1, encL rI r12.2.Regs⟩), (M4 + 2, some ⟨3, 1, encL rI r12.2.Mem⟩)] (M4 + 12)) (fun K hK => ?_) ?_
      ·
       skip
       have e0 := nq (a := N0 + 14) (b := o1) (by omega)
       have e1 := nq (a := N0 + 14) (b := M1 + 5) (by omega)
       have e2 := nq (a := N0 + 9) (b := M1) (by omega)
       have e3 := nq (a := N0 + 14) (b := M4 + 1) (by omega)
       have e4 := nq (a := N0 + 13) (b := M4) (by omega)
       have e5 := nq (a := N0 + 14) (b := M4 + 2) (by omega)
       have e6 := nq (a := N0 + 12) (b := M4) (by omega)
       have e7 := nq (a := o1) (b := M1 + 5) (by omega)
       have e8 := nq (a := o1) (b := M4 + 1) (by omega)
       have e9 := nq (a := o1) (b := M4 + 2) (by omega)
       have e10 := nq (a := M1 + 5) (b := M4 + 1) (by omega)
       have e11 := nq (a := M1 + 4) (b := M4) (by omega)
       have e12 := nq (a := M1 + 5) (b := M4 + 2) (by omega)
       have e13 := nq (a := M1 + 3) (b := M4) (by omega)
       simp -dsimp -implicitDefEqProofs (maxDischargeDepth := 6) [e0, e1, e2, e3, e4, e5, e6, e7, e8, e9, e10, e11, e12, e13]
       exact hK _ _ ⟨rfl, rfl⟩
      rintro a σ ⟨rfl, rfl⟩
      refine AWP_cond (ine r13 r12.1) rfl (fun C6 => ?_) (fun C6 => ?_)
      ·
       replace H := ifT C6 H
       refine AWP_sr tok [] [2] (fun a σ => a = [(2, .bool false)] ∧ σ = hp E0 [(N0 + 14, some ⟨26, 3, [[.fsl (encL rI r3.1.Regs), .int .i64 r3.1.Pc, .fsl (encL rI r3.1.Mem)]]⟩), (o1, some ⟨47, 5, encL rInstr r9.2⟩), (M1 + 5, some ⟨26, 3, [[.sl (M4 + 1) 0 r12.2.Regs.length, .int .i64 r5.1.Pc, .sl (M4 + 2) 0 r12.2.Mem.length]]⟩), (M4 + 1, some ⟨3, 1, encL rI r12.2.Regs⟩), (M4 + 2, some ⟨3, 1, encL rI r12.2.Mem⟩)] (M4 + 13)) (fun K hK => ?_) ?_
       ·
        skip
        have e0 := nq (a := N0 + 14) (b := o1) (by omega)
        have e1 := nq (a := N0 + 14) (b := M1 + 5) (by omega)
        have e2 := nq (a := N0 + 9) (b := M1) (by omega)
        have e3 := nq (a := N0 + 14) (b := M4 + 1) (by omega)
        have e4 := nq (a := N0 + 13) (b := M4) (by omega)
        have e5 := nq (a := N0 + 14) (b := M4 + 2) (by omega)
        have e6 := nq (a := N0 + 12) (b := M4) (by omega)
        have e7 := nq (a := o1) (b := M1 + 5) (by omega)
        have e8 := nq (a := o1) (b := M4 + 1) (by omega)
        have e9 := nq (a := o1) (b := M4 + 2) (by omega)
        have e10 := nq (a := M1 + 5) (b := M4 + 1) (by omega)
        have e11 := nq (a := M1 + 4) (b := M4) (by omega)
        have e12 := nq (a := M1 + 5) (b := M4 + 2) (by omega)
        have e13 := nq (a := M1 + 3) (b := M4) (by omega)
        simp -dsimp -implicitDefEqProofs (maxDischargeDepth := 6) [e0, e1, e2, e3, e4, e5, e6, e7, e8, e9, e10, e11, e12, e13]
        exact hK _ _ ⟨rfl, rfl⟩
       rintro a σ ⟨rfl, rfl⟩
       replace H := Option.some.inj H; subst H
       refine AWP_kp [2] [(2, .bool false)] rfl ?_
       have z42 := nq (a := N0 + 14) (b := o1) (by omega)
       have z43 := nq (a := N0 + 14) (b := M1 + 5) (by omega)
       have z44 := nq (a := N0 + 9) (b := M1) (by omega)
       have z45 := nq (a := N0 + 14) (b := M4 + 1) (by omega)
       have z46 := nq (a := N0 + 13) (b := M4) (by omega)
       have z47 := nq (a := N0 + 14) (b := M4 + 2) (by omega)
       have z48 := nq (a := N0 + 12) (b := M4) (by omega)
       have z49 := nq (a := o1) (b := M1 + 5) (by omega)
       have z50 := nq (a := o1) (b := M4 + 1) (by omega)
       have z51 := nq (a := o1) (b := M4 + 2) (by omega)
       have z52 := nq (a := M1 + 5) (b := M4 + 1) (by omega)
       have z53 := nq (a := M1 + 4) (b := M4) (by omega)
       have z54 := nq (a := M1 + 5) (b := M4 + 2) (by omega)
       have z55 := nq (a := M1 + 3) (b := M4) (by omega)
       refine AWP_ret ?_
       exact ⟨[.bool false], by simp [z42, z43, z44, z45, z46, z47, z48, z49, z50, z51, z52, z53, z54, z55], 4, by simp [encL_nil, z42, z43, z44, z45, z46, z47, z48, z49, z50, z51, z52, z53, z54, z55]⟩
      ·
       replace H := ifF C6 H
       refine AWP_skip ?_
       show K6 _ _
       refine keepE (l := [0, 4, 5, 7, 10]) (x := [(0, .fsl (encL rInstr p0)), (4, .ptr (N0 + 14) 0 0), (5, .bool r3.2), (7, .ptr (M1 + 5) 0 0), (10, .int .i64 r12.1)]) rfl fun a' ha => ?_
       refine hK6 _ _ ?_; rw [ha]
       refine Rc.mk ?_
       refine gPk AWP_ref (k := r12.2.Regs.length) (o := (M1 + 5)) (ob := ⟨26, 3, [[.sl (M4 + 1) 0 r12.2.Regs.length, .int .i64 r5.1.Pc, .sl (M4 + 2) 0 r12.2.Mem.length]]⟩) (row := [.sl (M4 + 1) 0 r12.2.Regs.length, .int .i64 r5.1.Pc, .sl (M4 + 2) 0 r12.2.Mem.length]) (d := (M4 + 1)) (obd := ⟨3, 1, encL rI r12.2.Regs⟩) (r := 0) (i := 0) [(N0 + 14, some ⟨26, 3, [[.fsl (encL rI r3.1.Regs), .int .i64 r3.1.Pc, .fsl (encL rI r3.1.Mem)]]⟩), (o1, some ⟨47, 5, encL rInstr r9.2⟩), (M1 + 5, some ⟨26, 3, [[.osl 3 1 (encL rI r12.2.Regs), .int .i64 r5.1.Pc, .sl (M4 + 2) 0 r12.2.Mem.length]]⟩), (M4 + 2, some ⟨3, 1, encL rI r12.2.Mem⟩)] (by simp (disch := omega)) rfl rfl (by simp (disch := omega)) (by simp (disch := omega)) (by first | omega | simp) (by simp (disch := omega) [List.set_set, app_set] <;> omega) (by simp (disch := omega) [List.set_set, app_set]) ?_
       refine gPk AWP_ref (k := r12.2.Mem.length) (o := (M1 + 5)) (ob := ⟨26, 3, [[.osl 3 1 (encL rI r12.2.Regs), .int .i64 r5.1.Pc, .sl (M4 + 2) 0 r12.2.Mem.length]]⟩) (row := [.osl 3 1 (encL rI r12.2.Regs), .int .i64 r5.1.Pc, .sl (M4 + 2) 0 r12.2.Mem.length]) (d := (M4 + 2)) (obd := ⟨3, 1, encL rI r12.2.Mem⟩) (r := 0) (i := 2) [(N0 + 14, some ⟨26, 3, [[.fsl (encL rI r3.1.Regs), .int .i64 r3.1.Pc, .fsl (encL rI r3.1.Mem)]]⟩), (o1, some ⟨47, 5, encL rInstr r9.2⟩), (M1 + 5, some ⟨26, 3, [[.osl 3 1 (encL rI r12.2.Regs), .int .i64 r5.1.Pc, .osl 3 1 (encL rI r12.2.Mem)]]⟩)] (by simp (disch := omega)) rfl rfl (by simp (disch := omega)) (by simp (disch := omega)) (by first | omega | simp) (by simp (disch := omega) [List.set_set, app_set] <;> omega) (by simp (disch := omega) [List.set_set, app_set]) ?_
       obtain ⟨r14, hr14, H⟩ := bindE H
       refine AWP_sr tok [] [4, 5, 7, 10, 12, 13] (fun a σ => a = [(4, .ptr (N0 + 14) 0 0), (5, .bool r3.2), (7, .ptr (M1 + 5) 0 0), (10, .int .i64 r12.1), (12, .ptr (M4 + 18) 0 0), (13, .bool r14.2)] ∧ σ = hp E0 [(N0 + 14, some ⟨26, 3, [[.fsl (encL rI r3.1.Regs), .int .i64 r3.1.Pc, .fsl (encL rI r3.1.Mem)]]⟩), (o1, some ⟨47, 5, encL rInstr r9.2⟩), (M1 + 5, some ⟨26, 3, [[.osl 3 1 (encL rI r12.2.Regs), .int .i64 r5.1.Pc, .osl 3 1 (encL rI r12.2.Mem)]]⟩), (M4 + 18, some ⟨26, 3, [[.fsl (encL rI r14.1.Regs), .int .i64 r14.1.Pc, .fsl (encL rI r14.1.Mem)]]⟩)] (M4 + 21)) (fun K hK => ?_) ?_
       ·
        skip
        have e0 := nq (a := N0 + 14) (b := o1) (by omega)
        have e1 := nq (a := N0 + 14) (b := M1 + 5) (by omega)
        have e2 := nq (a := N0 + 9) (b := M1) (by omega)
        have e3 := nq (a := N0 + 14) (b := M4 + 18) (by omega)
        have e4 := nq (a := N0) (b := M4 + 4) (by omega)
        have e5 := nq (a := o1) (b := M1 + 5) (by omega)
        have e6 := nq (a := o1) (b := M4 + 18) (by omega)
        have e7 := nq (a := M1 + 5) (b := M4 + 18) (by omega)
        have e8 := nq (a := M1) (b := M4 + 13) (by omega)
        simp -dsimp -implicitDefEqProofs (maxDischargeDepth := 6) [e0, e1, e2, e3, e4, e5, e6, e7, e8]
        refine (c16 hr2).app ?_; try simp -dsimp -implicitDefEqProofs (maxDischargeDepth := 6) [e0, e1, e2, e3, e4, e5, e6, e7, e8]
        refine (c17 hr14).app ?_; try simp -dsimp -implicitDefEqProofs (maxDischargeDepth := 6) [e0, e1, e2, e3, e4, e5, e6, e7, e8]
        exact hK _ _ ⟨rfl, rfl⟩
       rintro a σ ⟨rfl, rfl⟩
       refine AWP_sq [7, 10] fun K7 hK7 => ?_
       obtain ⟨r15, hr15, H⟩ := bindE H
       obtain ⟨g16, hg16, H⟩ := bindE H
       refine AWP_sr tok [] [7, 10, 87] (fun a σ => a = [(7, .ptr (M1 + 5) 0 0), (10, .int .i64 r12.1), (87, .bool g16)] ∧ σ = hp E0 [(N0 + 14, some ⟨26, 3, [[.fsl (encL rI r3.1.Regs), .int .i64 r3.1.Pc, .fsl (encL rI r3.1.Mem)]]⟩), (o1, some ⟨47, 5, encL rInstr r9.2⟩), (M1 + 5, some ⟨26, 3, [[.osl 3 1 (encL rI r12.2.Regs), .int .i64 r5.1.Pc, .osl 3 1 (encL rI r12.2.Mem)]]⟩), (M4 + 18, some ⟨26, 3, [[.fsl (encL rI r14.1.Regs), .int .i64 r14.1.Pc, .fsl (encL rI r14.1.Mem)]]⟩)] (M4 + 30)) (fun K hK => ?_) ?_
       ·
        skip
        have e0 := nq (a := N0 + 14) (b := o1) (by omega)
        have e1 := nq (a := N0 + 14) (b := M1 + 5) (by omega)
        have e2 := nq (a := N0 + 9) (b := M1) (by omega)
        have e3 := nq (a := N0 + 14) (b := M4 + 18) (by omega)
        have e4 := nq (a := N0) (b := M4 + 4) (by omega)
        have e5 := nq (a := o1) (b := M1 + 5) (by omega)
        have e6 := nq (a := o1) (b := M4 + 18) (by omega)
        have e7 := nq (a := M1 + 5) (b := M4 + 18) (by omega)
        have e8 := nq (a := M1) (b := M4 + 13) (by omega)
        simp -dsimp -implicitDefEqProofs (maxDischargeDepth := 6) [e0, e1, e2, e3, e4, e5, e6, e7, e8]
        refine (c18 hr15).app ?_; try simp -dsimp -implicitDefEqProofs (maxDischargeDepth := 6) [e0, e1, e2, e3, e4, e5, e6, e7, e8]
        cases hbg16 : bnot r15
        ·
         replace hg16 := ifF hbg16 hg16
         replace hg16 := Option.some.inj hg16; subst hg16
         try simp -dsimp -implicitDefEqProofs (maxDischargeDepth := 6) [e0, e1, e2, e3, e4, e5, e6, e7, e8, hbg16]
         exact hK _ _ ⟨rfl, rfl⟩
        ·
         replace hg16 := ifT hbg16 hg16
         replace hg16 := Option.some.inj hg16; subst hg16
         try simp -dsimp -implicitDefEqProofs (maxDischargeDepth := 6) [e0, e1, e2, e3, e4, e5, e6, e7, e8, hbg16]
         exact hK _ _ ⟨rfl, rfl⟩
       rintro a σ ⟨rfl, rfl⟩
       refine AWP_cond g16 rfl (fun C7 => ?_) (fun C7 => ?_)
       ·
        replace H := ifT C7 H
        refine AWP_sr tok [] [2] (fun a σ => a = [(2, .bool false)] ∧ σ = hp E0 [(N0 + 14, some ⟨26, 3, [[.fsl (encL rI r3.1.Regs), .int .i64 r3.1.Pc, .fsl (encL rI r3.1.Mem)]]⟩), (o1, some ⟨47, 5, encL rInstr r9.2⟩), (M1 + 5, some ⟨26, 3, [[.osl 3 1 (encL rI r12.2.Regs), .int .i64 r5.1.Pc, .osl 3 1 (encL rI r12.2.Mem)]]⟩), (M4 + 18, some ⟨26, 3, [[.fsl (encL rI r14.1.Regs), .int .i64 r14.1.Pc, .fsl (encL rI r14.1.Mem)]]⟩)] (M4 + 31)) (fun K hK => ?_) ?_
        ·
         skip
         have e0 := nq (a := N0 + 14) (b := o1) (by omega)
         have e1 := nq (a := N0 + 14) (b := M1 + 5) (by omega)
         have e2 := nq (a := N0 + 9) (b := M1) (by omega)
         have e3 := nq (a := N0 + 14) (b := M4 + 18) (by omega)
         have e4 := nq (a := N0) (b := M4 + 4) (by omega)
         have e5 := nq (a := o1) (b := M1 + 5) (by omega)
         have e6 := nq (a := o1) (b := M4 + 18) (by omega)
         have e7 := nq (a := M1 + 5) (b := M4 + 18) (by omega)
         have e8 := nq (a := M1) (b := M4 + 13) (by omega)
         simp -dsimp -implicitDefEqProofs (maxDischargeDepth := 6) [e0, e1, e2, e3, e4, e5, e6, e7, e8]
         exact hK _ _ ⟨rfl, rfl⟩
        rintro a σ ⟨rfl, rfl⟩
        replace H := Option.some.inj H; subst H
        refine AWP_kp [2] [(2, .bool false)] rfl ?_
        have z56 := nq (a := N0 + 14) (b := o1) (by omega)
        have z57 := nq (a := N0 + 14) (b := M1 + 5) (by omega)
        have z58 := nq (a := N0 + 9) (b := M1) (by omega)
        have z59 := nq (a := N0 + 14) (b := M4 + 18) (by omega)
        have z60 := nq (a := N0) (b := M4 + 4) (by omega)
        have z61 := nq (a := o1) (b := M1 + 5) (by omega)
        have z62 := nq (a := o1) (b := M4 + 18) (by omega)
        have z63 := nq (a := M1 + 5) (b := M4 + 18) (by omega)
        have z64 := nq (a := M1) (b := M4 + 13) (by omega)
        refine AWP_ret ?_
        exact ⟨[.bool false], by simp [z56, z57, z58, z59, z60, z61, z62, z63, z64], 4, by simp [encL_nil, z56, z57, z58, z59, z60, z61, z62, z63, z64]⟩
       ·
        replace H := ifF C7 H
        refine AWP_skip ?_
        show K7 _ _
        refine keepE (l := [7, 10]) (x := [(7, .ptr (M1 + 5) 0 0), (10, .int .i64 r12.1)]) rfl fun a' ha => ?_
        refine hK7 _ _ ?_; rw [ha]
        refine Rc.mk ?_
        refine AWP_sr tok [] [7, 10, 11] (fun a σ => a = [(7, .ptr (M1 + 5) 0 0), (10, .int .i64 r12.1), (11, .int .i64 1)] ∧ σ = hp E0 [(N0 + 14, some ⟨26, 3, [[.fsl (encL rI r3.1.Regs), .int .i64 r3.1.Pc, .fsl (encL rI r3.1.Mem)]]⟩), (o1, some ⟨47, 5, encL rInstr r9.2⟩), (M1 + 5, some ⟨26, 3, [[.osl 3 1 (encL rI r12.2.Regs), .int .i64 r5.1.Pc, .osl 3 1 (encL rI r12.2.Mem)]]⟩), (M4 + 18, some ⟨26, 3, [[.fsl (encL rI r14.1.Regs), .int .i64 r14.1.Pc, .fsl (encL rI r14.1.Mem)]]⟩)] (M4 + 31)) (fun K hK => ?_) ?_
        ·
         skip
         have e0 := nq (a := N0 + 14) (b := o1) (by omega)
         have e1 := nq (a := N0 + 14) (b := M1 + 5) (by omega)
         have e2 := nq (a := N0 + 9) (b := M1) (by omega)
         have e3 := nq (a := N0 + 14) (b := M4 + 18) (by omega)
         have e4 := nq (a := N0) (b := M4 + 4) (by omega)
         have e5 := nq (a := o1) (b := M1 + 5) (by omega)
         have e6 := nq (a := o1) (b := M4 + 18) (by omega)
         have e7 := nq (a := M1 + 5) (b := M4 + 18) (by omega)
         have e8 := nq (a := M1) (b := M4 + 13) (by omega)
         simp -dsimp -implicitDefEqProofs (maxDischargeDepth := 6) [e0, e1, e2, e3, e4, e5, e6, e7, e8]
         exact hK _ _ ⟨rfl, rfl⟩
        rintro a σ ⟨rfl, rfl⟩
        refine gUnp AWP_ref (ty := 3) (sz := 1) (es := encL rI r12.2.Regs) (o := (M1 + 5)) (ob := ⟨26, 3, [[.osl 3 1 (encL rI r12.2.Regs), .int .i64 r5.1.Pc, .osl 3 1 (encL rI r12.2.Mem)]]⟩) (row := [.osl 3 1 (encL rI r12.2.Regs), .int .i64 r5.1.Pc, .osl 3 1 (encL rI r12.2.Mem)]) (r := 0) (i := 0) [(N0 + 14, some ⟨26, 3, [[.fsl (encL rI r3.1.Regs), .int .i64 r3.1.Pc, .fsl (encL rI r3.1.Mem)]]⟩), (o1, some ⟨47, 5, encL rInstr r9.2⟩), (M1 + 5, some ⟨26, 3, [[.sl (M4 + 31) 0 r12.2.Regs.length, .int .i64 r5.1.Pc, .osl 3 1 (encL rI r12.2.Mem)]]⟩), (M4 + 18, some ⟨26, 3, [[.fsl (encL rI r14.1.Regs), .int .i64 r14.1.Pc, .fsl (encL rI r14.1.Mem)]]⟩), (M4 + 31, some ⟨3, 1, encL rI r12.2.Regs⟩)] (by simp (disch := omega)) rfl rfl (by simp (disch := omega) [List.set_set]) ?_
        refine gUnp AWP_ref (ty := 3) (sz := 1) (es := encL rI r12.2.Mem) (o := (M1 + 5)) (ob := ⟨26, 3, [[.sl (M4 + 31) 0 r12.2.Regs.length, .int .i64 r5.1.Pc, .osl 3 1 (encL rI r12.2.Mem)]]⟩) (row := [.sl (M4 + 31) 0 r12.2.Regs.length, .int .i64 r5.1.Pc, .osl 3 1 (encL rI r12.2.Mem)]) (r := 0) (i := 2) [(N0 + 14, some ⟨26, 3, [[.fsl (encL rI r3.1.Regs), .int .i64 r3.1.Pc, .fsl (encL rI r3.1.Mem)]]⟩), (o1, some ⟨47, 5, encL rInstr r9.2⟩), (M1 + 5, some ⟨26, 3, [[.sl (M4 + 31) 0 r12.2.Regs.length, .int .i64 r5.1.Pc, .sl (M4 + 32) 0 r12.2.Mem.length]]⟩), (M4 + 18, some ⟨26, 3, [[.fsl (encL rI r14.1.Regs), .int .i64 r14.1.Pc, .fsl (encL rI r14.1.Mem)]]⟩), (M4 + 31, some ⟨3, 1, encL rI r12.2.Regs⟩), (M4 + 32, some ⟨3, 1, encL rI r12.2.Mem⟩)] (by simp (disch := omega)) rfl rfl (by simp (disch := omega) [List.set_set]) ?_
        refine AWP_sr tok [] [10, 11] (fun a σ => a = [(10, .int .i64 r12.1), (11, .int .i64 r13)] ∧ σ = hp E0 [(N0 + 14, some ⟨26, 3, [[.fsl (encL rI r3.1.Regs), .int .i64 r3.1.Pc, .fsl (encL rI r3.1.Mem)]]⟩), (o1, some ⟨47, 5, encL rInstr r9.2⟩), (M1 + 5, some ⟨26, 3, [[.sl (M4 + 31) 0 r12.2.Regs.length, .int .i64 r5.1.Pc, .sl (M4 + 32) 0 r12.2.Mem.length]]⟩), (M4 + 18, some ⟨26, 3, [[.fsl (encL rI r14.1.Regs), .int .i64 r14.1.Pc, .fsl (encL rI r14.1.Mem)]]⟩), (M4 + 31, some ⟨3, 1, encL rI r12.2.Regs⟩), (M4 + 32, some ⟨3, 1, encL rI r12.2.Mem⟩)] (M4 + 37)) (fun K hK => ?_) ?_
        ·
         skip
         have e0 := nq (a := N0 + 14) (b := o1) (by omega)
         have e1 := nq (a := N0 + 14) (b := M1 + 5) (by omega)
         have e2 := nq (a := N0 + 9) (b := M1) (by omega)
         have e3 := nq (a := N0 + 14) (b := M4 + 18) (by omega)
         have e4 := nq (a := N0) (b := M4 + 4) (by omega)
         have e5 := nq (a := N0 + 14) (b := M4 + 31) (by omega)
         have e6 := nq (a := N0) (b := M4 + 17) (by omega)
         have e7 := nq (a := N0 + 14) (b := M4 + 32) (by omega)
         have e8 := nq (a := N0) (b := M4 + 18) (by omega)
         have e9 := nq (a := o1) (b := M1 + 5) (by omega)
         have e10 := nq (a := o1) (b := M4 + 18) (by omega)
         have e11 := nq (a := o1) (b := M4 + 31) (by omega)
         have e12 := nq (a := o1) (b := M4 + 32) (by omega)
         have e13 := nq (a := M1 + 5) (b := M4 + 18) (by omega)
         have e14 := nq (a := M1) (b := M4 + 13) (by omega)
         have e15 := nq (a := M1 + 5) (b := M4 + 31) (by omega)
         have e16 := nq (a := M1) (b := M4 + 26) (by omega)
         have e17 := nq (a := M1 + 5) (b := M4 + 32) (by omega)
         have e18 := nq (a := M1) (b := M4 + 27) (by omega)
         simp -dsimp -implicitDefEqProofs (maxDischargeDepth := 6) [e0, e1, e2, e3, e4, e5, e6, e7, e8, e9, e10, e11, e12, e13, e14, e15, e16, e17, e18]
         refine (borrow 8 (c22 hr13) (by simp [e0, e1, e2, e3, e4, e5, e6, e7, e8, e9, e10, e11, e12, e13, e14, e15, e16, e17, e18]) rfl).mono ?_; rintro _ _ ⟨rfl, rfl⟩; try simp -dsimp -implicitDefEqProofs (maxDischargeDepth := 6) [e0, e1, e2, e3, e4, e5, e6, e7, e8, e9, e10, e11, e12, e13, e14, e15, e16, e17, e18]
         exact hK _ _ ⟨rfl, rfl⟩
        rintro a σ ⟨rfl, rfl⟩
        refine AWP_sq [10, 11] fun K8 hK8 => ?_
        refine AWP_sr tok [] [10, 11, 92] (fun a σ => a = [(10, .int .i64 r12.1), (11, .int .i64 r13), (92, .bool (ilt r13 0))] ∧ σ = hp E0 [(N0 + 14, some ⟨26, 3, [[.fsl (encL rI r3.1.Regs), .int .i64 r3.1.Pc, .fsl (encL rI r3.1.Mem)]]⟩), (o1, some ⟨47, 5, encL rInstr r9.2⟩), (M1 + 5, some ⟨26, 3, [[.sl (M4 + 31) 0 r12.2.Regs.length, .int .i64 r5.1.Pc, .sl (M4 + 32) 0 r12.2.Mem.length]]⟩), (M4 + 18, some ⟨26, 3, [[.fsl (encL rI r14.1.Regs), .int .i64 r14.1.Pc, .fsl (encL rI r14.1.Mem)]]⟩), (M4 + 31, some ⟨3, 1, encL rI r12.2.Regs⟩), (M4 + 32, some ⟨3, 1, encL rI r12.2.Mem⟩)] (M4 + 39)) (fun K hK => ?_) ?_
        ·
         skip
         have e0 := nq (a := N0 + 14) (b := o1) (by omega)
         have e1 := nq (a := N0 + 14) (b := M1 + 5) (by omega)
         have e2 := nq (a := N0 + 9) (b := M1) (by omega)
         have e3 := nq (a := N0 + 14) (b := M4 + 18) (by omega)
         have e4 := nq (a := N0) (b := M4 + 4) (by omega)
         have e5 := nq (a := N0 + 14) (b := M4 + 31) (by omega)
         have e6 := nq (a := N0) (b := M4 + 17) (by omega)
         have e7 := nq (a := N0 + 14) (b := M4 + 32) (by omega)
         have e8 := nq (a := N0) (b := M4 + 18) (by omega)
         have e9 := nq (a := o1) (b := M1 + 5) (by omega)
         have e10 := nq (a := o1) (b := M4 + 18) (by omega)
         have e11 := nq (a := o1) (b := M4 + 31) (by omega)
         have e12 := nq (a := o1) (b := M4 + 32) (by omega)
         have e13 := nq (a := M1 + 5) (b := M4 + 18) (by omega)
         have e14 := nq (a := M1) (b := M4 + 13) (by omega)
         have e15 := nq (a := M1 + 5) (b := M4 + 31) (by omega)
         have e16 := nq (a := M1) (b := M4 + 26) (by omega)
         have e17 := nq (a := M1 + 5) (b := M4 + 32) (by omega)
         have e18 := nq (a := M1) (b := M4 + 27) (by omega)
         simp -dsimp -implicitDefEqProofs (maxDischargeDepth := 6) [e0, e1, e2, e3, e4, e5, e6, e7, e8, e9, e10, e11, e12, e13, e14, e15, e16, e17, e18]
         exact hK _ _ ⟨rfl, rfl⟩
        rintro a σ ⟨rfl, rfl⟩
        refine AWP_cond (ilt r13 0) rfl (fun C8 => ?_) (fun C8 => ?_)
        ·
         replace H := ifT C8 H
         refine AWP_sr tok [] [2] (fun a σ => a = [(2, .bool false)] ∧ σ = hp E0 [(N0 + 14, some ⟨26, 3, [[.fsl (encL rI r3.1.Regs), .int .i64 r3.1.Pc, .fsl (encL rI r3.1.Mem)]]⟩), (o1, some ⟨47, 5, encL rInstr r9.2⟩), (M1 + 5, some ⟨26, 3, [[.sl (M4 + 31) 0 r12.2.Regs.length, .int .i64 r5.1.Pc, .sl (M4 + 32) 0 r12.2.Mem.length]]⟩), (M4 + 18, some ⟨26, 3, [[.fsl (encL rI r14.1.Regs), .int .i64 r14.1.Pc, .fsl (encL rI r14.1.Mem)]]⟩), (M4 + 31, some ⟨3, 1, encL rI r12.2.Regs⟩), (M4 + 32, some ⟨3, 1, encL rI r12.2.Mem⟩)] (M4 + 40)) (fun K hK => ?_) ?_
         ·
          skip
          have e0 := nq (a := N0 + 14) (b := o1) (by omega)
          have e1 := nq (a := N0 + 14) (b := M1 + 5) (by omega)
          have e2 := nq (a := N0 + 9) (b := M1) (by omega)
          have e3 := nq (a := N0 + 14) (b := M4 + 18) (by omega)
          have e4 := nq (a := N0) (b := M4 + 4) (by omega)
          have e5 := nq (a := N0 + 14) (b := M4 + 31) (by omega)
          have e6 := nq (a := N0) (b := M4 + 17) (by omega)
          have e7 := nq (a := N0 + 14) (b := M4 + 32) (by omega)
          have e8 := nq (a := N0) (b := M4 + 18) (by omega)
          have e9 := nq (a := o1) (b := M1 + 5) (by omega)
          have e10 := nq (a := o1) (b := M4 + 18) (by omega)
          have e11 := nq (a := o1) (b := M4 + 31) (by omega)
          have e12 := nq (a := o1) (b := M4 + 32) (by omega)
          have e13 := nq (a := M1 + 5) (b := M4 + 18) (by omega)
          have e14 := nq (a := M1) (b := M4 + 13) (by omega)
          have e15 := nq (a := M1 + 5) (b := M4 + 31) (by omega)
          have e16 := nq (a := M1) (b := M4 + 26) (by omega)
          have e17 := nq (a := M1 + 5) (b := M4 + 32) (by omega)
          have e18 := nq (a := M1) (b := M4 + 27) (by omega)
          simp -dsimp -implicitDefEqProofs (maxDischargeDepth := 6) [e0, e1, e2, e3, e4, e5, e6, e7, e8, e9, e10, e11, e12, e13, e14, e15, e16, e17, e18]
          exact hK _ _ ⟨rfl, rfl⟩
         rintro a σ ⟨rfl, rfl⟩
         replace H := Option.some.inj H; subst H
         refine AWP_kp [2] [(2, .bool false)] rfl ?_
         have z65 := nq (a := N0 + 14) (b := o1) (by omega)
         have z66 := nq (a := N0 + 14) (b := M1 + 5) (by omega)
         have z67 := nq (a := N0 + 9) (b := M1) (by omega)
         have z68 := nq (a := N0 + 14) (b := M4 + 18) (by omega)
         have z69 := nq (a := N0) (b := M4 + 4) (by omega)
         have z70 := nq (a := N0 + 14) (b := M4 + 31) (by omega)
         have z71 := nq (a := N0) (b := M4 + 17) (by omega)
         have z72 := nq (a := N0 + 14) (b := M4 + 32) (by omega)
         have z73 := nq (a := N0) (b := M4 + 18) (by omega)
         have z74 := nq (a := o1) (b := M1 + 5) (by omega)
         have z75 := nq (a := o1) (b := M4 + 18) (by omega)
         have z76 := nq (a := o1) (b := M4 + 31) (by omega)
         have z77 := nq (a := o1) (b := M4 + 32) (by omega)
         have z78 := nq (a := M1 + 5) (b := M4 + 18) (by omega)
         have z79 := nq (a := M1) (b := M4 + 13) (by omega)
         have z80 := nq (a := M1 + 5) (b := M4 + 31) (by omega)
         have z81 := nq (a := M1) (b := M4 + 26) (by omega)
         have z82 := nq (a := M1 + 5) (b := M4 + 32) (by omega)
         have z83 := nq (a := M1) (b := M4 + 27) (by omega)
         refine AWP_ret ?_
         exact ⟨[.bool false], by simp [z65, z66, z67, z68, z69, z70, z71, z72, z73, z74, z75, z76, z77, z78, z79, z80, z81, z82, z83], 4, by simp [encL_nil, z65, z66, z67, z68, z69, z70, z71, z72, z73, z74, z75, z76, z77, z78, z79, z80, z81, z82, z83]⟩
        ·
         replace H := ifF C8 H
         refine AWP_skip ?_
         show K8 _ _
         refine keepE (l := [10, 11]) (x := [(10, .int .i64 r12.1), (11, .int .i64 r13)]) rfl fun a' ha => ?_
         refine hK8 _ _ ?_; rw [ha]
         refine Rc.mk ?_
         refine AWP_sq [] fun K9 hK9 => ?_
         refine AWP_sr tok [] [95] (fun a σ => a = [(95, .bool (ine r13 r12.1))] ∧ σ = hp E0 [(N0 + 14, some ⟨26, 3, [[.fsl (encL rI r3.1.Regs), .int .i64 r3.1.Pc, .fsl (encL rI r3.1.Mem)]]⟩), (o1, some ⟨47, 5, encL rInstr r9.2⟩), (M1 + 5, some ⟨26, 3, [[.sl (M4 + 31) 0 r12.2.Regs.length, .int .i64 r5.1.Pc, .sl (M4 + 32) 0 r12.2.Mem.length]]⟩), (M4 + 18, some ⟨26, 3, [[.fsl (encL rI r14.1.Regs), .int .i64 r14.1.Pc, .fsl (encL rI r14.1.Mem)]]⟩), (M4 + 31, some ⟨3, 1, encL rI r12.2.Regs⟩), (M4 + 32, some ⟨3, 1, encL rI r12.2.Mem⟩)] (M4 + 42)) (fun K hK => ?_) ?_
         ·
          skip
          have e0 := nq (a := N0 + 14) (b := o1) (by omega)
          have e1 := nq (a := N0 + 14) (b := M1 + 5) (by omega)
          have e2 := nq (a := N0 + 9) (b := M1) (by omega)
          have e3 := nq (a := N0 + 14) (b := M4 + 18) (by omega)
          have e4 := nq (a := N0) (b := M4 + 4) (by omega)
          have e5 := nq (a := N0 + 14) (b := M4 + 31) (by omega)
          have e6 := nq (a := N0) (b := M4 + 17) (by omega)
          have e7 := nq (a := N0 + 14) (b := M4 + 32) (by omega)
          have e8 := nq (a := N0) (b := M4 + 18) (by omega)
          have e9 := nq (a := o1) (b := M1 + 5) (by omega)
          have e10 := nq (a := o1) (b := M4 + 18) (by omega)
          have e11 := nq (a := o1) (b := M4 + 31) (by omega)
          have e12 := nq (a := o1) (b := M4 + 32) (by omega)
          have e13 := nq (a := M1 + 5) (b := M4 + 18) (by omega)
          have e14 := nq (a := M1) (b := M4 + 13) (by omega)
          have e15 := nq (a := M1 + 5) (b := M4 + 31) (by omega)
          have e16 := nq (a := M1) (b := M4 + 26) (by omega)
          have e17 := nq (a := M1 + 5) (b := M4 + 32) (by omega)
          have e18 := nq (a := M1) (b := M4 + 27) (by omega)
          simp -dsimp -implicitDefEqProofs (maxDischargeDepth := 6) [e0, e1, e2, e3, e4, e5, e6, e7, e8, e9, e10, e11, e12, e13, e14, e15, e16, e17, e18]
          exact hK _ _ ⟨rfl, rfl⟩
         rintro a σ ⟨rfl, rfl⟩
         refine AWP_cond (ine r13 r12.1) rfl (fun C9 => ?_) (fun C9 => ?_)
         ·
          replace H := ifT C9 H
          refine AWP_sr tok [] [2] (fun a σ => a = [(2, .bool false)] ∧ σ = hp E0 [(N0 + 14, some ⟨26, 3, [[.fsl (encL rI r3.1.Regs), .int .i64 r3.1.Pc, .fsl (encL rI r3.1.Mem)]]⟩), (o1, some ⟨47, 5, encL rInstr r9.2⟩), (M1 + 5, some ⟨26, 3, [[.sl (M4 + 31) 0 r12.2.Regs.length, .int .i64 r5.1.Pc, .sl (M4 + 32) 0 r12.2.Mem.length]]⟩), (M4 + 18, some ⟨26, 3, [[.fsl (encL rI r14.1.Regs), .int .i64 r14.1.Pc, .fsl (encL rI r14.1.Mem)]]⟩), (M4 + 31, some ⟨3, 1, encL rI r12.2.Regs⟩), (M4 + 32, some ⟨3, 1, encL rI r12.2.Mem⟩)] (M4 + 43)) (fun K hK => ?_) ?_
          ·
           skip
           have e0 := nq (a := N0 + 14) (b := o1) (by omega)
           have e1 := nq (a := N0 + 14) (b := M1 + 5) (by omega)
           have e2 := nq (a := N0 + 9) (b := M1) (by omega)
           have e3 := nq (a := N0 + 14) (b := M4 + 18) (by omega)
           have e4 := nq (a := N0) (b := M4 + 4) (by omega)
           have e5 := nq (a := N0 + 14) (b := M4 + 31) (by omega)
           have e6 := nq (a := N0) (b := M4 + 17) (by omega)
           have e7 := nq (a := N0 + 14) (b := M4 + 32) (by omega)
           have e8 := nq (a := N0) (b := M4 + 18) (by omega)
           have e9 := nq (a := o1) (b := M1 + 5) (by omega)
           have e10 := nq (a := o1) (b := M4 + 18) (by omega)
           have e11 := nq (a := o1) (b := M4 + 31) (by omega)
           have e12 := nq (a := o1) (b := M4 + 32) (by omega)
           have e13 := nq (a := M1 + 5) (b := M4 + 18) (by omega)
           have e14 := nq (a := M1) (b := M4 + 13) (by omega)
           have e15 := nq (a := M1 + 5) (b := M4 + 31) (by omega)
           have e16 := nq (a := M1) (b := M4 + 26) (by omega)
           have e17 := nq (a := M1 + 5) (b := M4 + 32) (by omega)
           have e18 := nq (a := M1) (b := M4 + 27) (by omega)
           simp -dsimp -implicitDefEqProofs (maxDischargeDepth := 6) [e0, e1, e2, e3, e4, e5, e6, e7, e8, e9, e10, e11, e12, e13, e14, e15, e16, e17, e18]
           exact hK _ _ ⟨rfl, rfl⟩
          rintro a σ ⟨rfl, rfl⟩
          replace H := Option.some.inj H; subst H
          refine AWP_kp [2] [(2, .bool false)] rfl ?_
          have z84 := nq (a := N0 + 14) (b := o1) (by omega)
          have z85 := nq (a := N0 + 14) (b := M1 + 5) (by omega)
          have z86 := nq (a := N0 + 9) (b := M1) (by omega)
          have z87 := nq (a := N0 + 14) (b := M4 + 18) (by omega)
          have z88 := nq (a := N0) (b := M4 + 4) (by omega)
          have z89 := nq (a := N0 + 14) (b := M4 + 31) (by omega)
          have z90 := nq (a := N0) (b := M4 + 17) (by omega)
          have z91 := nq (a := N0 + 14) (b := M4 + 32) (by omega)
          have z92 := nq (a := N0) (b := M4 + 18) (by omega)
          have z93 := nq (a := o1) (b := M1 + 5) (by omega)
          have z94 := nq (a := o1) (b := M4 + 18) (by omega)
          have z95 := nq (a := o1) (b := M4 + 31) (by omega)
          have z96 := nq (a := o1) (b := M4 + 32) (by omega)
          have z97 := nq (a := M1 + 5) (b := M4 + 18) (by omega)
          have z98 := nq (a := M1) (b := M4 + 13) (by omega)
          have z99 := nq (a := M1 + 5) (b := M4 + 31) (by omega)
          have z100 := nq (a := M1) (b := M4 + 26) (by omega)
          have z101 := nq (a := M1 + 5) (b := M4 + 32) (by omega)
          have z102 := nq (a := M1) (b := M4 + 27) (by omega)
          refine AWP_ret ?_
          exact ⟨[.bool false], by simp [z84, z85, z86, z87, z88, z89, z90, z91, z92, z93, z94, z95, z96, z97, z98, z99, z100, z101, z102], 4, by simp [encL_nil, z84, z85, z86, z87, z88, z89, z90, z91, z92, z93, z94, z95, z96, z97, z98, z99, z100, z101, z102]⟩
         ·
          replace H := ifF C9 H
          refine AWP_skip ?_
          show K9 _ _
          refine keepE (l := []) (x := []) rfl fun a' ha => ?_
          refine hK9 _ _ ?_; rw [ha]
          refine Rc.mk ?_
          refine AWP_sr tok [] [2] (fun a σ => a = [(2, .bool true)] ∧ σ = hp E0 [(N0 + 14, some ⟨26, 3, [[.fsl (encL rI r3.1.Regs), .int .i64 r3.1.Pc, .fsl (encL rI r3.1.Mem)]]⟩), (o1, some ⟨47, 5, encL rInstr r9.2⟩), (M1 + 5, some ⟨26, 3, [[.sl (M4 + 31) 0 r12.2.Regs.length, .int .i64 r5.1.Pc, .sl (M4 + 32) 0 r12.2.Mem.length]]⟩), (M4 + 18, some ⟨26, 3, [[.fsl (encL rI r14.1.Regs), .int .i64 r14.1.Pc, .fsl (encL rI r14.1.Mem)]]⟩), (M4 + 31, some ⟨3, 1, encL rI r12.2.Regs⟩), (M4 + 32, some ⟨3, 1, encL rI r12.2.Mem⟩)] (M4 + 43)) (fun K hK => ?_) ?_
          ·
           skip
           have e0 := nq (a := N0 + 14) (b := o1) (by omega)
           have e1 := nq (a := N0 + 14) (b := M1 + 5) (by omega)
           have e2 := nq (a := N0 + 9) (b := M1) (by omega)
           have e3 := nq (a := N0 + 14) (b := M4 + 18) (by omega)
           have e4 := nq (a := N0) (b := M4 + 4) (by omega)
           have e5 := nq (a := N0 + 14) (b := M4 + 31) (by omega)
           have e6 := nq (a := N0) (b := M4 + 17) (by omega)
           have e7 := nq (a := N0 + 14) (b := M4 + 32) (by omega)
           have e8 := nq (a := N0) (b := M4 + 18) (by omega)
           have e9 := nq (a := o1) (b := M1 + 5) (by omega)
           have e10 := nq (a := o1) (b := M4 + 18) (by omega)
           have e11 := nq (a := o1) (b := M4 + 31) (by omega)
           have e12 := nq (a := o1) (b := M4 + 32) (by omega)
           have e13 := nq (a := M1 + 5) (b := M4 + 18) (by omega)
           have e14 := nq (a := M1) (b := M4 + 13) (by omega)
           have e15 := nq (a := M1 + 5) (b := M4 + 31) (by omega)
           have e16 := nq (a := M1) (b := M4 + 26) (by omega)
           have e17 := nq (a := M1 + 5) (b := M4 + 32) (by omega)
           have e18 := nq (a := M1) (b := M4 + 27) (by omega)
           simp -dsimp -implicitDefEqProofs (maxDischargeDepth := 6) [e0, e1, e2, e3, e4, e5, e6, e7, e8, e9, e10, e11, e12, e13, e14, e15, e16, e17, e18]
           exact hK _ _ ⟨rfl, rfl⟩
          rintro a σ ⟨rfl, rfl⟩
          replace H := Option.some.inj H; subst H
          refine AWP_kp [2] [(2, .bool true)] rfl ?_
          have z103 := nq (a := N0 + 14) (b := o1) (by omega)
          have z104 := nq (a := N0 + 14) (b := M1 + 5) (by omega)
          have z105 := nq (a := N0 + 9) (b := M1) (by omega)
          have z106 := nq (a := N0 + 14) (b := M4 + 18) (by omega)
          have z107 := nq (a := N0) (b := M4 + 4) (by omega)
          have z108 := nq (a := N0 + 14) (b := M4 + 31) (by omega)
          have z109 := nq (a := N0) (b := M4 + 17) (by omega)
          have z110 := nq (a := N0 + 14) (b := M4 + 32) (by omega)
          have z111 := nq (a := N0) (b := M4 + 18) (by omega)
          have z112 := nq (a := o1) (b := M1 + 5) (by omega)
          have z113 := nq (a := o1) (b := M4 + 18) (by omega)
          have z114 := nq (a := o1) (b := M4 + 31) (by omega)
          have z115 := nq (a := o1) (b := M4 + 32) (by omega)
          have z116 := nq (a := M1 + 5) (b := M4 + 18) (by omega)
          have z117 := nq (a := M1) (b := M4 + 13) (by omega)
          have z118 := nq (a := M1 + 5) (b := M4 + 31) (by omega)
          have z119 := nq (a := M1) (b := M4 + 26) (by omega)
          have z120 := nq (a := M1 + 5) (b := M4 + 32) (by omega)
          have z121 := nq (a := M1) (b := M4 + 27) (by omega)
          refine AWP_ret ?_
          exact ⟨[.bool true], by simp [z103, z104, z105, z106, z107, z108, z109, z110, z111, z112, z113, z114, z115, z116, z117, z118, z119, z120, z121], 4, by simp [encL_nil, z103, z104, z105, z106, z107, z108, z109, z110, z111, z112, z113, z114, z115, z116, z117, z118, z119, z120, z121]⟩
end Go.Proofs.YtoklfbdcghgmlaaDoor
