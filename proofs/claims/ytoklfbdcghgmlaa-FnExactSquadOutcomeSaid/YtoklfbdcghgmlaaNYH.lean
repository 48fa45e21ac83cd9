/- Words of the proof: YH. No conditions. -/
import Derived.Test.YtoklfbdcghgmlaaNYR0
import Derived.Test.YtoklfbdcghgmlaaProg
import Derived.KernelRfl
set_option linter.unusedSimpArgs false
set_option linter.unusedVariables false
set_option maxRecDepth 20000
namespace Go.Proofs.Ytoklfbdcghgmlaa
open Go Go.Abs Go.RowKit

def T : Types := fun t =>
  match t with
  | 3 => some ⟨1, 8, [.int .i64 0], .int .i64⟩ -- int
  | 4 => some ⟨1, 1, [.bool false], .bool⟩ -- bool
  | 22 => some ⟨1, 24, [.nilsl], .slice 3⟩ -- []int
  | 24 => some ⟨3, 56, [.nilsl, .int .i64 0, .nilsl], .struct [(0, 22), (1, 3), (2, 22)]⟩ -- laws.Machine
  | 25 => some ⟨1, 24, [.nilsl], .slice 72⟩ -- []laws.Box
  | 28 => some ⟨3, 56, [.nilsl, .int .i64 0, .nilsl], .struct [(0, 22), (1, 3), (2, 22)]⟩ -- impl.Machine
  | 29 => some ⟨1, 24, [.nilsl], .slice 64⟩ -- []impl.Box
  | 41 => some ⟨1, 24, [.nilsl], .slice 24⟩ -- []laws.Machine
  | 43 => some ⟨5, 88, [.nilsl, .nilsl, .int .i64 0, .int .i64 0, .nilsl], .struct [(0, 41), (1, 25), (2, 3), (3, 3), (4, 22)]⟩ -- laws.Squad
  | 45 => some ⟨1, 24, [.nilsl], .slice 22⟩ -- [][]int
  | 46 => some ⟨1, 24, [.nilsl], .slice 4⟩ -- []bool
  | 48 => some ⟨4, 80, [.nilsl, .nilsl, .nilsl, .bool false], .struct [(0, 22), (1, 45), (2, 46), (3, 4)]⟩ -- impl.Outcome
  | 50 => some ⟨1, 24, [.nilsl], .slice 28⟩ -- []impl.Machine
  | 52 => some ⟨5, 88, [.nilsl, .nilsl, .int .i64 0, .int .i64 0, .nilsl], .struct [(0, 50), (1, 29), (2, 3), (3, 3), (4, 22)]⟩ -- impl.Squad
  | 64 => some ⟨2, 32, [.int .i64 0, .nilsl], .struct [(0, 3), (1, 22)]⟩ -- impl.Box
  | 72 => some ⟨2, 32, [.int .i64 0, .nilsl], .struct [(0, 3), (1, 22)]⟩ -- laws.Box
  | 76 => some ⟨1, 8, [.nilp], .ptr⟩ -- *impl.Machine
  | 84 => some ⟨1, 8, [.nilp], .ptr⟩ -- *[]int
  | 127 => some ⟨1, 8, [.nilp], .ptr⟩ -- *impl.Box
  | _ => none

@[simp] theorem T_3 : T 3 = some ⟨1, 8, [.int .i64 0], .int .i64⟩ := rfl
@[simp] theorem T_4 : T 4 = some ⟨1, 1, [.bool false], .bool⟩ := rfl
@[simp] theorem T_22 : T 22 = some ⟨1, 24, [.nilsl], .slice 3⟩ := rfl
@[simp] theorem T_24 : T 24 = some ⟨3, 56, [.nilsl, .int .i64 0, .nilsl], .struct [(0, 22), (1, 3), (2, 22)]⟩ := rfl
@[simp] theorem T_25 : T 25 = some ⟨1, 24, [.nilsl], .slice 72⟩ := rfl
@[simp] theorem T_28 : T 28 = some ⟨3, 56, [.nilsl, .int .i64 0, .nilsl], .struct [(0, 22), (1, 3), (2, 22)]⟩ := rfl
@[simp] theorem T_29 : T 29 = some ⟨1, 24, [.nilsl], .slice 64⟩ := rfl
@[simp] theorem T_41 : T 41 = some ⟨1, 24, [.nilsl], .slice 24⟩ := rfl
@[simp] theorem T_43 : T 43 = some ⟨5, 88, [.nilsl, .nilsl, .int .i64 0, .int .i64 0, .nilsl], .struct [(0, 41), (1, 25), (2, 3), (3, 3), (4, 22)]⟩ := rfl
@[simp] theorem T_45 : T 45 = some ⟨1, 24, [.nilsl], .slice 22⟩ := rfl
@[simp] theorem T_46 : T 46 = some ⟨1, 24, [.nilsl], .slice 4⟩ := rfl
@[simp] theorem T_48 : T 48 = some ⟨4, 80, [.nilsl, .nilsl, .nilsl, .bool false], .struct [(0, 22), (1, 45), (2, 46), (3, 4)]⟩ := rfl
@[simp] theorem T_50 : T 50 = some ⟨1, 24, [.nilsl], .slice 28⟩ := rfl
@[simp] theorem T_52 : T 52 = some ⟨5, 88, [.nilsl, .nilsl, .int .i64 0, .int .i64 0, .nilsl], .struct [(0, 50), (1, 29), (2, 3), (3, 3), (4, 22)]⟩ := rfl
@[simp] theorem T_64 : T 64 = some ⟨2, 32, [.int .i64 0, .nilsl], .struct [(0, 3), (1, 22)]⟩ := rfl
@[simp] theorem T_72 : T 72 = some ⟨2, 32, [.int .i64 0, .nilsl], .struct [(0, 3), (1, 22)]⟩ := rfl
@[simp] theorem T_76 : T 76 = some ⟨1, 8, [.nilp], .ptr⟩ := rfl
@[simp] theorem T_84 : T 84 = some ⟨1, 8, [.nilp], .ptr⟩ := rfl
@[simp] theorem T_127 : T 127 = some ⟨1, 8, [.nilp], .ptr⟩ := rfl
theorem tok : TOk Try.prog T := by
  intro t i h
  unfold T at h
  split at h <;> first | (cases h; done) | skip
  all_goals (cases h; refine ⟨by kernel_rfl, by kernel_rfl, by kernel_rfl, by kernel_rfl, by kernel_rfl⟩)
theorem tokM : Try.prog.follows .mixedOrders = true := by kernel_rfl
abbrev G : Globs := fun _ => none
@[simp] theorem bin_ii (op : BinOp) (t : TypeId) (k : IntKind) (a b : Int) : bin T op t (.int k a) (.int k b) = ibin op k a b := by simp [bin]
@[simp] theorem bin_shl (t : TypeId) (k k' : IntKind) (a b : Int) : bin T .shl t (.int k a) (.int k' b) = ibin .shl k a b := by simp [bin]
@[simp] theorem bin_shr (t : TypeId) (k k' : IntKind) (a b : Int) : bin T .shr t (.int k a) (.int k' b) = ibin .shr k a b := by simp [bin]
@[simp] theorem bineq_4 (a b : Bool) : bin T .eql 4 (.bool a) (.bool b) = some (.bool (beqb a b)) := rfl
@[simp] theorem binne_4 (a b : Bool) : bin T .neq 4 (.bool a) (.bool b) = some (.bool (bneb a b)) := rfl
@[simp] theorem len22 (l : List Int) : lenA T 22 (.fsl (encL rI l)) = some (.int .i64 (ilen l)) := lenA_fsl (e := 3) rfl rI l
@[simp] theorem leno22 (o r : Nat) (l : List Int) : lenA T 22 (.sl o r l.length) = some (.int .i64 (ilen l)) := lenA_sl (e := 3) rfl o r l
@[simp] theorem lenn22 : lenA T 22 .nilsl = some (.int .i64 0) := rfl
@[simp] theorem lene22 : lenA T 22 .esl = some (.int .i64 0) := rfl
@[simp] theorem src22 (σ : AHeap) (l : List Int) (z : List AV) (k : TK) : srcA ⟨1, 8, z, k⟩ σ (.fsl (encL rI l)) = some (encL rI l) := srcA_fsl (f := rI) (fun _ => rfl) σ l
@[simp] theorem srco22 {σ : AHeap} {o : Nat} {l : List Int} (z : List AV) (k : TK) (h : σ.objs o = some ⟨3, 1, encL rI l⟩) : srcA ⟨1, 8, z, k⟩ σ (.sl o 0 l.length) = some (encL rI l) := srcA_sl (ti := ⟨1, 8, z, k⟩) (fun _ => rfl) h
theorem ix22 {l : List Int} {i : Int} {v : Int} (h : idx l i = some v) (σ : AHeap) (k : IntKind) : indexAddrA T σ 22 (.fsl (encL rI l)) (.int k i) = some (.fptr (rI v) 0) := ixA_fsl (e := 3) rfl rfl (fun _ => rfl) h σ k
theorem ixo22 {l : List Int} {i : Int} {v : Int} (h : idx l i = some v) {σ : AHeap} {o : Nat} (hs : (σ.objs o).map AObj.sz = some 1) (k : IntKind) : indexAddrA T σ 22 (.sl o 0 l.length) (.int k i) = some (.ptr o i.toNat 0) := ixA_sl (e := 3) rfl rfl h hs k
theorem app22 {l m r : List Int} (h : appx 8 l m = some r) {σ : AHeap} {o : Nat} {x : AV} (id : Nat) (ho : σ.objs o = some ⟨3, 1, encL rI l⟩) (hx : srcA ⟨1, 8, [.int .i64 0], .int .i64⟩ σ x = some (encL rI m)) :
    appendA T 22 id (.sl o 0 l.length) x σ = some (.sl id 0 r.length, (σ.kill o).put id ⟨3, 1, encL rI r⟩) := appA_sl (e := 3) rfl rfl (by decide) h id ho hx
theorem appn22 {m r : List Int} (h : appx 8 [] m = some r) {σ : AHeap} {x : AV} (id : Nat) (hx : srcA ⟨1, 8, [.int .i64 0], .int .i64⟩ σ x = some (encL rI m)) :
    appendA T 22 id .nilsl x σ = some (.sl id 0 r.length, σ.put id ⟨3, 1, encL rI r⟩) := appA_nil (e := 3) rfl rfl (by decide) h id hx
theorem appe22 {m r : List Int} (h : appx 8 [] m = some r) {σ : AHeap} {x : AV} (id : Nat) (hx : srcA ⟨1, 8, [.int .i64 0], .int .i64⟩ σ x = some (encL rI m)) :
    appendA T 22 id .esl x σ = some (.sl id 0 r.length, σ.put id ⟨3, 1, encL rI r⟩) := appA_esl (e := 3) rfl rfl (by decide) h id hx
theorem appf22 {m r : List Int} (h : appx 8 [] m = some r) {σ : AHeap} {s x : AV} (hs : s.noRoom = true) (hx : srcA ⟨1, 8, [.int .i64 0], .int .i64⟩ σ x = some (encL rI m)) :
    appendF T 22 s x σ = some (.fsl (encL rI r), σ) := appF_nil (e := 3) (ti := ⟨1, 8, [.int .i64 0], .int .i64⟩) rfl rfl (by decide) h hs hx
theorem mak22 {n : Int} {r : List Int} (h : makex 8 n (0 : Int) = some r) (σ : AHeap) (id : Nat) (k k' : IntKind) : makeA T 22 false id (.int k n) (.int k' n) σ = some (.sl id 0 r.length, σ.put id ⟨3, 1, encL rI r⟩) := makA_sl (e := 3) (ti := ⟨1, 8, [.int .i64 0], .int .i64⟩) rfl rfl (by decide) (z := (0 : Int)) rfl h σ id k k'
theorem makf22 {n : Int} {r : List Int} (h : makex 8 n (0 : Int) = some r) (σ : AHeap) (id : Nat) (k k' : IntKind) : makeA T 22 true id (.int k n) (.int k' n) σ = some (.fsl (encL rI r), σ) := makA_fsl (e := 3) (ti := ⟨1, 8, [.int .i64 0], .int .i64⟩) rfl rfl (by decide) (z := (0 : Int)) rfl h σ id k k'
theorem cut_22 {l r : List Int} (h : cutx l 0 (ilen l) = some r) (σ : AHeap) : cutA T σ 22 (.fsl (encL rI l)) none none = some (.fsl (encL rI r)) := cutA_fsl (e := 3) rfl rfl (fun _ => rfl) rfl rfl h σ
theorem cuth_22 {l r : List Int} {b : Int} (h : cutx l 0 b = some r) (σ : AHeap) {kb : IntKind} : cutA T σ 22 (.fsl (encL rI l)) none (some (.int kb b)) = some (.fsl (encL rI r)) := cutA_fsl (e := 3) rfl rfl (fun _ => rfl) rfl rfl h σ
theorem cutl_22 {l r : List Int} {a : Int} (h : cutx l a (ilen l) = some r) (σ : AHeap) {ka : IntKind} : cutA T σ 22 (.fsl (encL rI l)) (some (.int ka a)) none = some (.fsl (encL rI r)) := cutA_fsl (e := 3) rfl rfl (fun _ => rfl) rfl rfl h σ
theorem cutlh_22 {l r : List Int} {a : Int} {b : Int} (h : cutx l a b = some r) (σ : AHeap) {ka : IntKind} {kb : IntKind} : cutA T σ 22 (.fsl (encL rI l)) (some (.int ka a)) (some (.int kb b)) = some (.fsl (encL rI r)) := cutA_fsl (e := 3) rfl rfl (fun _ => rfl) rfl rfl h σ
@[simp] theorem len25 (l : List gBox) : lenA T 25 (.fsl (encL rBox l)) = some (.int .i64 (ilen l)) := lenA_fsl (e := 72) rfl rBox l
@[simp] theorem leno25 (o r : Nat) (l : List gBox) : lenA T 25 (.sl o r l.length) = some (.int .i64 (ilen l)) := lenA_sl (e := 72) rfl o r l
@[simp] theorem lenn25 : lenA T 25 .nilsl = some (.int .i64 0) := rfl
@[simp] theorem lene25 : lenA T 25 .esl = some (.int .i64 0) := rfl
@[simp] theorem src25 (σ : AHeap) (l : List gBox) (z : List AV) (k : TK) : srcA ⟨2, 32, z, k⟩ σ (.fsl (encL rBox l)) = some (encL rBox l) := srcA_fsl (f := rBox) (fun _ => rfl) σ l
@[simp] theorem srco25 {σ : AHeap} {o : Nat} {l : List gBox} (z : List AV) (k : TK) (h : σ.objs o = some ⟨72, 2, encL rBox l⟩) : srcA ⟨2, 32, z, k⟩ σ (.sl o 0 l.length) = some (encL rBox l) := srcA_sl (ti := ⟨2, 32, z, k⟩) (fun _ => rfl) h
theorem ix25 {l : List gBox} {i : Int} {v : gBox} (h : idx l i = some v) (σ : AHeap) (k : IntKind) : indexAddrA T σ 25 (.fsl (encL rBox l)) (.int k i) = some (.fptr (rBox v) 0) := ixA_fsl (e := 72) rfl rfl (fun _ => rfl) h σ k
theorem ixo25 {l : List gBox} {i : Int} {v : gBox} (h : idx l i = some v) {σ : AHeap} {o : Nat} (hs : (σ.objs o).map AObj.sz = some 2) (k : IntKind) : indexAddrA T σ 25 (.sl o 0 l.length) (.int k i) = some (.ptr o i.toNat 0) := ixA_sl (e := 72) rfl rfl h hs k
theorem app25 {l m r : List gBox} (h : appx 32 l m = some r) {σ : AHeap} {o : Nat} {x : AV} (id : Nat) (ho : σ.objs o = some ⟨72, 2, encL rBox l⟩) (hx : srcA ⟨2, 32, [.int .i64 0, .nilsl], .struct [(0, 3), (1, 22)]⟩ σ x = some (encL rBox m)) :
    appendA T 25 id (.sl o 0 l.length) x σ = some (.sl id 0 r.length, (σ.kill o).put id ⟨72, 2, encL rBox r⟩) := appA_sl (e := 72) rfl rfl (by decide) h id ho hx
theorem appn25 {m r : List gBox} (h : appx 32 [] m = some r) {σ : AHeap} {x : AV} (id : Nat) (hx : srcA ⟨2, 32, [.int .i64 0, .nilsl], .struct [(0, 3), (1, 22)]⟩ σ x = some (encL rBox m)) :
    appendA T 25 id .nilsl x σ = some (.sl id 0 r.length, σ.put id ⟨72, 2, encL rBox r⟩) := appA_nil (e := 72) rfl rfl (by decide) h id hx
theorem appe25 {m r : List gBox} (h : appx 32 [] m = some r) {σ : AHeap} {x : AV} (id : Nat) (hx : srcA ⟨2, 32, [.int .i64 0, .nilsl], .struct [(0, 3), (1, 22)]⟩ σ x = some (encL rBox m)) :
    appendA T 25 id .esl x σ = some (.sl id 0 r.length, σ.put id ⟨72, 2, encL rBox r⟩) := appA_esl (e := 72) rfl rfl (by decide) h id hx
theorem appf25 {m r : List gBox} (h : appx 32 [] m = some r) {σ : AHeap} {s x : AV} (hs : s.noRoom = true) (hx : srcA ⟨2, 32, [.int .i64 0, .nilsl], .struct [(0, 3), (1, 22)]⟩ σ x = some (encL rBox m)) :
    appendF T 25 s x σ = some (.fsl (encL rBox r), σ) := appF_nil (e := 72) (ti := ⟨2, 32, [.int .i64 0, .nilsl], .struct [(0, 3), (1, 22)]⟩) rfl rfl (by decide) h hs hx
theorem makr25 {n : Int} {r : List gBox} (h : makex 32 n (⟨0, ([] : List Int)⟩ : gBox) = some r) (σ : AHeap) (id : Nat) (k k' : IntKind) : makeA T 25 false id (.int k n) (.int k' n) σ = some (.sl id 0 r.length, σ.put id ⟨72, 2, List.replicate n.toNat [.int .i64 0, .nilsl]⟩) := makA_rep (e := 72) (ti := ⟨2, 32, [.int .i64 0, .nilsl], .struct [(0, 3), (1, 22)]⟩) rfl rfl (by decide) h σ id k k'
theorem makf25 {n : Int} {r : List gBox} (h : makex 32 n (⟨0, ([] : List Int)⟩ : gBox) = some r) (σ : AHeap) (id : Nat) (k k' : IntKind) : makeA T 25 true id (.int k n) (.int k' n) σ = some (.fsl (encL rBox r), σ) := makA_fsl (e := 72) (ti := ⟨2, 32, [.int .i64 0, .nilsl], .struct [(0, 3), (1, 22)]⟩) rfl rfl (by decide) (z := (⟨0, ([] : List Int)⟩ : gBox)) rfl h σ id k k'
theorem cut_25 {l r : List gBox} (h : cutx l 0 (ilen l) = some r) (σ : AHeap) : cutA T σ 25 (.fsl (encL rBox l)) none none = some (.fsl (encL rBox r)) := cutA_fsl (e := 72) rfl rfl (fun _ => rfl) rfl rfl h σ
theorem cuth_25 {l r : List gBox} {b : Int} (h : cutx l 0 b = some r) (σ : AHeap) {kb : IntKind} : cutA T σ 25 (.fsl (encL rBox l)) none (some (.int kb b)) = some (.fsl (encL rBox r)) := cutA_fsl (e := 72) rfl rfl (fun _ => rfl) rfl rfl h σ
theorem cutl_25 {l r : List gBox} {a : Int} (h : cutx l a (ilen l) = some r) (σ : AHeap) {ka : IntKind} : cutA T σ 25 (.fsl (encL rBox l)) (some (.int ka a)) none = some (.fsl (encL rBox r)) := cutA_fsl (e := 72) rfl rfl (fun _ => rfl) rfl rfl h σ
theorem cutlh_25 {l r : List gBox} {a : Int} {b : Int} (h : cutx l a b = some r) (σ : AHeap) {ka : IntKind} {kb : IntKind} : cutA T σ 25 (.fsl (encL rBox l)) (some (.int ka a)) (some (.int kb b)) = some (.fsl (encL rBox r)) := cutA_fsl (e := 72) rfl rfl (fun _ => rfl) rfl rfl h σ
@[simp] theorem len29 (l : List gBox) : lenA T 29 (.fsl (encL rBox l)) = some (.int .i64 (ilen l)) := lenA_fsl (e := 64) rfl rBox l
@[simp] theorem leno29 (o r : Nat) (l : List gBox) : lenA T 29 (.sl o r l.length) = some (.int .i64 (ilen l)) := lenA_sl (e := 64) rfl o r l
@[simp] theorem lenn29 : lenA T 29 .nilsl = some (.int .i64 0) := rfl
@[simp] theorem lene29 : lenA T 29 .esl = some (.int .i64 0) := rfl
@[simp] theorem src29 (σ : AHeap) (l : List gBox) (z : List AV) (k : TK) : srcA ⟨2, 32, z, k⟩ σ (.fsl (encL rBox l)) = some (encL rBox l) := srcA_fsl (f := rBox) (fun _ => rfl) σ l
@[simp] theorem srco29 {σ : AHeap} {o : Nat} {l : List gBox} (z : List AV) (k : TK) (h : σ.objs o = some ⟨64, 2, encL rBox l⟩) : srcA ⟨2, 32, z, k⟩ σ (.sl o 0 l.length) = some (encL rBox l) := srcA_sl (ti := ⟨2, 32, z, k⟩) (fun _ => rfl) h
theorem ix29 {l : List gBox} {i : Int} {v : gBox} (h : idx l i = some v) (σ : AHeap) (k : IntKind) : indexAddrA T σ 29 (.fsl (encL rBox l)) (.int k i) = some (.fptr (rBox v) 0) := ixA_fsl (e := 64) rfl rfl (fun _ => rfl) h σ k
theorem ixo29 {l : List gBox} {i : Int} {v : gBox} (h : idx l i = some v) {σ : AHeap} {o : Nat} (hs : (σ.objs o).map AObj.sz = some 2) (k : IntKind) : indexAddrA T σ 29 (.sl o 0 l.length) (.int k i) = some (.ptr o i.toNat 0) := ixA_sl (e := 64) rfl rfl h hs k
theorem app29 {l m r : List gBox} (h : appx 32 l m = some r) {σ : AHeap} {o : Nat} {x : AV} (id : Nat) (ho : σ.objs o = some ⟨64, 2, encL rBox l⟩) (hx : srcA ⟨2, 32, [.int .i64 0, .nilsl], .struct [(0, 3), (1, 22)]⟩ σ x = some (encL rBox m)) :
    appendA T 29 id (.sl o 0 l.length) x σ = some (.sl id 0 r.length, (σ.kill o).put id ⟨64, 2, encL rBox r⟩) := appA_sl (e := 64) rfl rfl (by decide) h id ho hx
theorem appn29 {m r : List gBox} (h : appx 32 [] m = some r) {σ : AHeap} {x : AV} (id : Nat) (hx : srcA ⟨2, 32, [.int .i64 0, .nilsl], .struct [(0, 3), (1, 22)]⟩ σ x = some (encL rBox m)) :
    appendA T 29 id .nilsl x σ = some (.sl id 0 r.length, σ.put id ⟨64, 2, encL rBox r⟩) := appA_nil (e := 64) rfl rfl (by decide) h id hx
theorem appe29 {m r : List gBox} (h : appx 32 [] m = some r) {σ : AHeap} {x : AV} (id : Nat) (hx : srcA ⟨2, 32, [.int .i64 0, .nilsl], .struct [(0, 3), (1, 22)]⟩ σ x = some (encL rBox m)) :
    appendA T 29 id .esl x σ = some (.sl id 0 r.length, σ.put id ⟨64, 2, encL rBox r⟩) := appA_esl (e := 64) rfl rfl (by decide) h id hx
theorem appf29 {m r : List gBox} (h : appx 32 [] m = some r) {σ : AHeap} {s x : AV} (hs : s.noRoom = true) (hx : srcA ⟨2, 32, [.int .i64 0, .nilsl], .struct [(0, 3), (1, 22)]⟩ σ x = some (encL rBox m)) :
    appendF T 29 s x σ = some (.fsl (encL rBox r), σ) := appF_nil (e := 64) (ti := ⟨2, 32, [.int .i64 0, .nilsl], .struct [(0, 3), (1, 22)]⟩) rfl rfl (by decide) h hs hx
theorem makr29 {n : Int} {r : List gBox} (h : makex 32 n (⟨0, ([] : List Int)⟩ : gBox) = some r) (σ : AHeap) (id : Nat) (k k' : IntKind) : makeA T 29 false id (.int k n) (.int k' n) σ = some (.sl id 0 r.length, σ.put id ⟨64, 2, List.replicate n.toNat [.int .i64 0, .nilsl]⟩) := makA_rep (e := 64) (ti := ⟨2, 32, [.int .i64 0, .nilsl], .struct [(0, 3), (1, 22)]⟩) rfl rfl (by decide) h σ id k k'
theorem makf29 {n : Int} {r : List gBox} (h : makex 32 n (⟨0, ([] : List Int)⟩ : gBox) = some r) (σ : AHeap) (id : Nat) (k k' : IntKind) : makeA T 29 true id (.int k n) (.int k' n) σ = some (.fsl (encL rBox r), σ) := makA_fsl (e := 64) (ti := ⟨2, 32, [.int .i64 0, .nilsl], .struct [(0, 3), (1, 22)]⟩) rfl rfl (by decide) (z := (⟨0, ([] : List Int)⟩ : gBox)) rfl h σ id k k'
theorem cut_29 {l r : List gBox} (h : cutx l 0 (ilen l) = some r) (σ : AHeap) : cutA T σ 29 (.fsl (encL rBox l)) none none = some (.fsl (encL rBox r)) := cutA_fsl (e := 64) rfl rfl (fun _ => rfl) rfl rfl h σ
theorem cuth_29 {l r : List gBox} {b : Int} (h : cutx l 0 b = some r) (σ : AHeap) {kb : IntKind} : cutA T σ 29 (.fsl (encL rBox l)) none (some (.int kb b)) = some (.fsl (encL rBox r)) := cutA_fsl (e := 64) rfl rfl (fun _ => rfl) rfl rfl h σ
theorem cutl_29 {l r : List gBox} {a : Int} (h : cutx l a (ilen l) = some r) (σ : AHeap) {ka : IntKind} : cutA T σ 29 (.fsl (encL rBox l)) (some (.int ka a)) none = some (.fsl (encL rBox r)) := cutA_fsl (e := 64) rfl rfl (fun _ => rfl) rfl rfl h σ
theorem cutlh_29 {l r : List gBox} {a : Int} {b : Int} (h : cutx l a b = some r) (σ : AHeap) {ka : IntKind} {kb : IntKind} : cutA T σ 29 (.fsl (encL rBox l)) (some (.int ka a)) (some (.int kb b)) = some (.fsl (encL rBox r)) := cutA_fsl (e := 64) rfl rfl (fun _ => rfl) rfl rfl h σ
@[simp] theorem len41 (l : List gMachine) : lenA T 41 (.fsl (encL rMachine l)) = some (.int .i64 (ilen l)) := lenA_fsl (e := 24) rfl rMachine l
@[simp] theorem leno41 (o r : Nat) (l : List gMachine) : lenA T 41 (.sl o r l.length) = some (.int .i64 (ilen l)) := lenA_sl (e := 24) rfl o r l
@[simp] theorem lenn41 : lenA T 41 .nilsl = some (.int .i64 0) := rfl
@[simp] theorem lene41 : lenA T 41 .esl = some (.int .i64 0) := rfl
@[simp] theorem src41 (σ : AHeap) (l : List gMachine) (z : List AV) (k : TK) : srcA ⟨3, 56, z, k⟩ σ (.fsl (encL rMachine l)) = some (encL rMachine l) := srcA_fsl (f := rMachine) (fun _ => rfl) σ l
@[simp] theorem srco41 {σ : AHeap} {o : Nat} {l : List gMachine} (z : List AV) (k : TK) (h : σ.objs o = some ⟨24, 3, encL rMachine l⟩) : srcA ⟨3, 56, z, k⟩ σ (.sl o 0 l.length) = some (encL rMachine l) := srcA_sl (ti := ⟨3, 56, z, k⟩) (fun _ => rfl) h
theorem ix41 {l : List gMachine} {i : Int} {v : gMachine} (h : idx l i = some v) (σ : AHeap) (k : IntKind) : indexAddrA T σ 41 (.fsl (encL rMachine l)) (.int k i) = some (.fptr (rMachine v) 0) := ixA_fsl (e := 24) rfl rfl (fun _ => rfl) h σ k
theorem ixo41 {l : List gMachine} {i : Int} {v : gMachine} (h : idx l i = some v) {σ : AHeap} {o : Nat} (hs : (σ.objs o).map AObj.sz = some 3) (k : IntKind) : indexAddrA T σ 41 (.sl o 0 l.length) (.int k i) = some (.ptr o i.toNat 0) := ixA_sl (e := 24) rfl rfl h hs k
theorem app41 {l m r : List gMachine} (h : appx 56 l m = some r) {σ : AHeap} {o : Nat} {x : AV} (id : Nat) (ho : σ.objs o = some ⟨24, 3, encL rMachine l⟩) (hx : srcA ⟨3, 56, [.nilsl, .int .i64 0, .nilsl], .struct [(0, 22), (1, 3), (2, 22)]⟩ σ x = some (encL rMachine m)) :
    appendA T 41 id (.sl o 0 l.length) x σ = some (.sl id 0 r.length, (σ.kill o).put id ⟨24, 3, encL rMachine r⟩) := appA_sl (e := 24) rfl rfl (by decide) h id ho hx
theorem appn41 {m r : List gMachine} (h : appx 56 [] m = some r) {σ : AHeap} {x : AV} (id : Nat) (hx : srcA ⟨3, 56, [.nilsl, .int .i64 0, .nilsl], .struct [(0, 22), (1, 3), (2, 22)]⟩ σ x = some (encL rMachine m)) :
    appendA T 41 id .nilsl x σ = some (.sl id 0 r.length, σ.put id ⟨24, 3, encL rMachine r⟩) := appA_nil (e := 24) rfl rfl (by decide) h id hx
theorem appe41 {m r : List gMachine} (h : appx 56 [] m = some r) {σ : AHeap} {x : AV} (id : Nat) (hx : srcA ⟨3, 56, [.nilsl, .int .i64 0, .nilsl], .struct [(0, 22), (1, 3), (2, 22)]⟩ σ x = some (encL rMachine m)) :
    appendA T 41 id .esl x σ = some (.sl id 0 r.length, σ.put id ⟨24, 3, encL rMachine r⟩) := appA_esl (e := 24) rfl rfl (by decide) h id hx
theorem appf41 {m r : List gMachine} (h : appx 56 [] m = some r) {σ : AHeap} {s x : AV} (hs : s.noRoom = true) (hx : srcA ⟨3, 56, [.nilsl, .int .i64 0, .nilsl], .struct [(0, 22), (1, 3), (2, 22)]⟩ σ x = some (encL rMachine m)) :
    appendF T 41 s x σ = some (.fsl (encL rMachine r), σ) := appF_nil (e := 24) (ti := ⟨3, 56, [.nilsl, .int .i64 0, .nilsl], .struct [(0, 22), (1, 3), (2, 22)]⟩) rfl rfl (by decide) h hs hx
theorem makr41 {n : Int} {r : List gMachine} (h : makex 56 n (⟨([] : List Int), 0, ([] : List Int)⟩ : gMachine) = some r) (σ : AHeap) (id : Nat) (k k' : IntKind) : makeA T 41 false id (.int k n) (.int k' n) σ = some (.sl id 0 r.length, σ.put id ⟨24, 3, List.replicate n.toNat [.nilsl, .int .i64 0, .nilsl]⟩) := makA_rep (e := 24) (ti := ⟨3, 56, [.nilsl, .int .i64 0, .nilsl], .struct [(0, 22), (1, 3), (2, 22)]⟩) rfl rfl (by decide) h σ id k k'
theorem makf41 {n : Int} {r : List gMachine} (h : makex 56 n (⟨([] : List Int), 0, ([] : List Int)⟩ : gMachine) = some r) (σ : AHeap) (id : Nat) (k k' : IntKind) : makeA T 41 true id (.int k n) (.int k' n) σ = some (.fsl (encL rMachine r), σ) := makA_fsl (e := 24) (ti := ⟨3, 56, [.nilsl, .int .i64 0, .nilsl], .struct [(0, 22), (1, 3), (2, 22)]⟩) rfl rfl (by decide) (z := (⟨([] : List Int), 0, ([] : List Int)⟩ : gMachine)) rfl h σ id k k'
theorem cut_41 {l r : List gMachine} (h : cutx l 0 (ilen l) = some r) (σ : AHeap) : cutA T σ 41 (.fsl (encL rMachine l)) none none = some (.fsl (encL rMachine r)) := cutA_fsl (e := 24) rfl rfl (fun _ => rfl) rfl rfl h σ
theorem cuth_41 {l r : List gMachine} {b : Int} (h : cutx l 0 b = some r) (σ : AHeap) {kb : IntKind} : cutA T σ 41 (.fsl (encL rMachine l)) none (some (.int kb b)) = some (.fsl (encL rMachine r)) := cutA_fsl (e := 24) rfl rfl (fun _ => rfl) rfl rfl h σ
theorem cutl_41 {l r : List gMachine} {a : Int} (h : cutx l a (ilen l) = some r) (σ : AHeap) {ka : IntKind} : cutA T σ 41 (.fsl (encL rMachine l)) (some (.int ka a)) none = some (.fsl (encL rMachine r)) := cutA_fsl (e := 24) rfl rfl (fun _ => rfl) rfl rfl h σ
theorem cutlh_41 {l r : List gMachine} {a : Int} {b : Int} (h : cutx l a b = some r) (σ : AHeap) {ka : IntKind} {kb : IntKind} : cutA T σ 41 (.fsl (encL rMachine l)) (some (.int ka a)) (some (.int kb b)) = some (.fsl (encL rMachine r)) := cutA_fsl (e := 24) rfl rfl (fun _ => rfl) rfl rfl h σ
@[simp] theorem len45 (l : List (List Int)) : lenA T 45 (.fsl (encL rL_I l)) = some (.int .i64 (ilen l)) := lenA_fsl (e := 22) rfl rL_I l
@[simp] theorem leno45 (o r : Nat) (l : List (List Int)) : lenA T 45 (.sl o r l.length) = some (.int .i64 (ilen l)) := lenA_sl (e := 22) rfl o r l
@[simp] theorem lenn45 : lenA T 45 .nilsl = some (.int .i64 0) := rfl
@[simp] theorem lene45 : lenA T 45 .esl = some (.int .i64 0) := rfl
@[simp] theorem src45 (σ : AHeap) (l : List (List Int)) (z : List AV) (k : TK) : srcA ⟨1, 24, z, k⟩ σ (.fsl (encL rL_I l)) = some (encL rL_I l) := srcA_fsl (f := rL_I) (fun _ => rfl) σ l
@[simp] theorem srco45 {σ : AHeap} {o : Nat} {l : List (List Int)} (z : List AV) (k : TK) (h : σ.objs o = some ⟨22, 1, encL rL_I l⟩) : srcA ⟨1, 24, z, k⟩ σ (.sl o 0 l.length) = some (encL rL_I l) := srcA_sl (ti := ⟨1, 24, z, k⟩) (fun _ => rfl) h
theorem ix45 {l : List (List Int)} {i : Int} {v : (List Int)} (h : idx l i = some v) (σ : AHeap) (k : IntKind) : indexAddrA T σ 45 (.fsl (encL rL_I l)) (.int k i) = some (.fptr (rL_I v) 0) := ixA_fsl (e := 22) rfl rfl (fun _ => rfl) h σ k
theorem ixo45 {l : List (List Int)} {i : Int} {v : (List Int)} (h : idx l i = some v) {σ : AHeap} {o : Nat} (hs : (σ.objs o).map AObj.sz = some 1) (k : IntKind) : indexAddrA T σ 45 (.sl o 0 l.length) (.int k i) = some (.ptr o i.toNat 0) := ixA_sl (e := 22) rfl rfl h hs k
theorem app45 {l m r : List (List Int)} (h : appx 24 l m = some r) {σ : AHeap} {o : Nat} {x : AV} (id : Nat) (ho : σ.objs o = some ⟨22, 1, encL rL_I l⟩) (hx : srcA ⟨1, 24, [.nilsl], .slice 3⟩ σ x = some (encL rL_I m)) :
    appendA T 45 id (.sl o 0 l.length) x σ = some (.sl id 0 r.length, (σ.kill o).put id ⟨22, 1, encL rL_I r⟩) := appA_sl (e := 22) rfl rfl (by decide) h id ho hx
theorem appn45 {m r : List (List Int)} (h : appx 24 [] m = some r) {σ : AHeap} {x : AV} (id : Nat) (hx : srcA ⟨1, 24, [.nilsl], .slice 3⟩ σ x = some (encL rL_I m)) :
    appendA T 45 id .nilsl x σ = some (.sl id 0 r.length, σ.put id ⟨22, 1, encL rL_I r⟩) := appA_nil (e := 22) rfl rfl (by decide) h id hx
theorem appe45 {m r : List (List Int)} (h : appx 24 [] m = some r) {σ : AHeap} {x : AV} (id : Nat) (hx : srcA ⟨1, 24, [.nilsl], .slice 3⟩ σ x = some (encL rL_I m)) :
    appendA T 45 id .esl x σ = some (.sl id 0 r.length, σ.put id ⟨22, 1, encL rL_I r⟩) := appA_esl (e := 22) rfl rfl (by decide) h id hx
theorem appf45 {m r : List (List Int)} (h : appx 24 [] m = some r) {σ : AHeap} {s x : AV} (hs : s.noRoom = true) (hx : srcA ⟨1, 24, [.nilsl], .slice 3⟩ σ x = some (encL rL_I m)) :
    appendF T 45 s x σ = some (.fsl (encL rL_I r), σ) := appF_nil (e := 22) (ti := ⟨1, 24, [.nilsl], .slice 3⟩) rfl rfl (by decide) h hs hx
theorem makr45 {n : Int} {r : List (List Int)} (h : makex 24 n ([] : List Int) = some r) (σ : AHeap) (id : Nat) (k k' : IntKind) : makeA T 45 false id (.int k n) (.int k' n) σ = some (.sl id 0 r.length, σ.put id ⟨22, 1, List.replicate n.toNat [.nilsl]⟩) := makA_rep (e := 22) (ti := ⟨1, 24, [.nilsl], .slice 3⟩) rfl rfl (by decide) h σ id k k'
theorem makf45 {n : Int} {r : List (List Int)} (h : makex 24 n (([] : List Int) : (List Int)) = some r) (σ : AHeap) (id : Nat) (k k' : IntKind) : makeA T 45 true id (.int k n) (.int k' n) σ = some (.fsl (encL rL_I r), σ) := makA_fsl (e := 22) (ti := ⟨1, 24, [.nilsl], .slice 3⟩) rfl rfl (by decide) (z := (([] : List Int) : (List Int))) rfl h σ id k k'
theorem cut_45 {l r : List (List Int)} (h : cutx l 0 (ilen l) = some r) (σ : AHeap) : cutA T σ 45 (.fsl (encL rL_I l)) none none = some (.fsl (encL rL_I r)) := cutA_fsl (e := 22) rfl rfl (fun _ => rfl) rfl rfl h σ
theorem cuth_45 {l r : List (List Int)} {b : Int} (h : cutx l 0 b = some r) (σ : AHeap) {kb : IntKind} : cutA T σ 45 (.fsl (encL rL_I l)) none (some (.int kb b)) = some (.fsl (encL rL_I r)) := cutA_fsl (e := 22) rfl rfl (fun _ => rfl) rfl rfl h σ
theorem cutl_45 {l r : List (List Int)} {a : Int} (h : cutx l a (ilen l) = some r) (σ : AHeap) {ka : IntKind} : cutA T σ 45 (.fsl (encL rL_I l)) (some (.int ka a)) none = some (.fsl (encL rL_I r)) := cutA_fsl (e := 22) rfl rfl (fun _ => rfl) rfl rfl h σ
theorem cutlh_45 {l r : List (List Int)} {a : Int} {b : Int} (h : cutx l a b = some r) (σ : AHeap) {ka : IntKind} {kb : IntKind} : cutA T σ 45 (.fsl (encL rL_I l)) (some (.int ka a)) (some (.int kb b)) = some (.fsl (encL rL_I r)) := cutA_fsl (e := 22) rfl rfl (fun _ => rfl) rfl rfl h σ
@[simp] theorem len46 (l : List Bool) : lenA T 46 (.fsl (encL rB l)) = some (.int .i64 (ilen l)) := lenA_fsl (e := 4) rfl rB l
@[simp] theorem leno46 (o r : Nat) (l : List Bool) : lenA T 46 (.sl o r l.length) = some (.int .i64 (ilen l)) := lenA_sl (e := 4) rfl o r l
@[simp] theorem lenn46 : lenA T 46 .nilsl = some (.int .i64 0) := rfl
@[simp] theorem lene46 : lenA T 46 .esl = some (.int .i64 0) := rfl
@[simp] theorem src46 (σ : AHeap) (l : List Bool) (z : List AV) (k : TK) : srcA ⟨1, 1, z, k⟩ σ (.fsl (encL rB l)) = some (encL rB l) := srcA_fsl (f := rB) (fun _ => rfl) σ l
@[simp] theorem srco46 {σ : AHeap} {o : Nat} {l : List Bool} (z : List AV) (k : TK) (h : σ.objs o = some ⟨4, 1, encL rB l⟩) : srcA ⟨1, 1, z, k⟩ σ (.sl o 0 l.length) = some (encL rB l) := srcA_sl (ti := ⟨1, 1, z, k⟩) (fun _ => rfl) h
theorem ix46 {l : List Bool} {i : Int} {v : Bool} (h : idx l i = some v) (σ : AHeap) (k : IntKind) : indexAddrA T σ 46 (.fsl (encL rB l)) (.int k i) = some (.fptr (rB v) 0) := ixA_fsl (e := 4) rfl rfl (fun _ => rfl) h σ k
theorem ixo46 {l : List Bool} {i : Int} {v : Bool} (h : idx l i = some v) {σ : AHeap} {o : Nat} (hs : (σ.objs o).map AObj.sz = some 1) (k : IntKind) : indexAddrA T σ 46 (.sl o 0 l.length) (.int k i) = some (.ptr o i.toNat 0) := ixA_sl (e := 4) rfl rfl h hs k
theorem app46 {l m r : List Bool} (h : appx 1 l m = some r) {σ : AHeap} {o : Nat} {x : AV} (id : Nat) (ho : σ.objs o = some ⟨4, 1, encL rB l⟩) (hx : srcA ⟨1, 1, [.bool false], .bool⟩ σ x = some (encL rB m)) :
    appendA T 46 id (.sl o 0 l.length) x σ = some (.sl id 0 r.length, (σ.kill o).put id ⟨4, 1, encL rB r⟩) := appA_sl (e := 4) rfl rfl (by decide) h id ho hx
theorem appn46 {m r : List Bool} (h : appx 1 [] m = some r) {σ : AHeap} {x : AV} (id : Nat) (hx : srcA ⟨1, 1, [.bool false], .bool⟩ σ x = some (encL rB m)) :
    appendA T 46 id .nilsl x σ = some (.sl id 0 r.length, σ.put id ⟨4, 1, encL rB r⟩) := appA_nil (e := 4) rfl rfl (by decide) h id hx
theorem appe46 {m r : List Bool} (h : appx 1 [] m = some r) {σ : AHeap} {x : AV} (id : Nat) (hx : srcA ⟨1, 1, [.bool false], .bool⟩ σ x = some (encL rB m)) :
    appendA T 46 id .esl x σ = some (.sl id 0 r.length, σ.put id ⟨4, 1, encL rB r⟩) := appA_esl (e := 4) rfl rfl (by decide) h id hx
theorem appf46 {m r : List Bool} (h : appx 1 [] m = some r) {σ : AHeap} {s x : AV} (hs : s.noRoom = true) (hx : srcA ⟨1, 1, [.bool false], .bool⟩ σ x = some (encL rB m)) :
    appendF T 46 s x σ = some (.fsl (encL rB r), σ) := appF_nil (e := 4) (ti := ⟨1, 1, [.bool false], .bool⟩) rfl rfl (by decide) h hs hx
theorem mak46 {n : Int} {r : List Bool} (h : makex 1 n (false : Bool) = some r) (σ : AHeap) (id : Nat) (k k' : IntKind) : makeA T 46 false id (.int k n) (.int k' n) σ = some (.sl id 0 r.length, σ.put id ⟨4, 1, encL rB r⟩) := makA_sl (e := 4) (ti := ⟨1, 1, [.bool false], .bool⟩) rfl rfl (by decide) (z := (false : Bool)) rfl h σ id k k'
theorem makf46 {n : Int} {r : List Bool} (h : makex 1 n (false : Bool) = some r) (σ : AHeap) (id : Nat) (k k' : IntKind) : makeA T 46 true id (.int k n) (.int k' n) σ = some (.fsl (encL rB r), σ) := makA_fsl (e := 4) (ti := ⟨1, 1, [.bool false], .bool⟩) rfl rfl (by decide) (z := (false : Bool)) rfl h σ id k k'
theorem cut_46 {l r : List Bool} (h : cutx l 0 (ilen l) = some r) (σ : AHeap) : cutA T σ 46 (.fsl (encL rB l)) none none = some (.fsl (encL rB r)) := cutA_fsl (e := 4) rfl rfl (fun _ => rfl) rfl rfl h σ
theorem cuth_46 {l r : List Bool} {b : Int} (h : cutx l 0 b = some r) (σ : AHeap) {kb : IntKind} : cutA T σ 46 (.fsl (encL rB l)) none (some (.int kb b)) = some (.fsl (encL rB r)) := cutA_fsl (e := 4) rfl rfl (fun _ => rfl) rfl rfl h σ
theorem cutl_46 {l r : List Bool} {a : Int} (h : cutx l a (ilen l) = some r) (σ : AHeap) {ka : IntKind} : cutA T σ 46 (.fsl (encL rB l)) (some (.int ka a)) none = some (.fsl (encL rB r)) := cutA_fsl (e := 4) rfl rfl (fun _ => rfl) rfl rfl h σ
theorem cutlh_46 {l r : List Bool} {a : Int} {b : Int} (h : cutx l a b = some r) (σ : AHeap) {ka : IntKind} {kb : IntKind} : cutA T σ 46 (.fsl (encL rB l)) (some (.int ka a)) (some (.int kb b)) = some (.fsl (encL rB r)) := cutA_fsl (e := 4) rfl rfl (fun _ => rfl) rfl rfl h σ
@[simp] theorem len50 (l : List gMachine) : lenA T 50 (.fsl (encL rMachine l)) = some (.int .i64 (ilen l)) := lenA_fsl (e := 28) rfl rMachine l
@[simp] theorem leno50 (o r : Nat) (l : List gMachine) : lenA T 50 (.sl o r l.length) = some (.int .i64 (ilen l)) := lenA_sl (e := 28) rfl o r l
@[simp] theorem lenn50 : lenA T 50 .nilsl = some (.int .i64 0) := rfl
@[simp] theorem lene50 : lenA T 50 .esl = some (.int .i64 0) := rfl
@[simp] theorem src50 (σ : AHeap) (l : List gMachine) (z : List AV) (k : TK) : srcA ⟨3, 56, z, k⟩ σ (.fsl (encL rMachine l)) = some (encL rMachine l) := srcA_fsl (f := rMachine) (fun _ => rfl) σ l
@[simp] theorem srco50 {σ : AHeap} {o : Nat} {l : List gMachine} (z : List AV) (k : TK) (h : σ.objs o = some ⟨28, 3, encL rMachine l⟩) : srcA ⟨3, 56, z, k⟩ σ (.sl o 0 l.length) = some (encL rMachine l) := srcA_sl (ti := ⟨3, 56, z, k⟩) (fun _ => rfl) h
theorem ix50 {l : List gMachine} {i : Int} {v : gMachine} (h : idx l i = some v) (σ : AHeap) (k : IntKind) : indexAddrA T σ 50 (.fsl (encL rMachine l)) (.int k i) = some (.fptr (rMachine v) 0) := ixA_fsl (e := 28) rfl rfl (fun _ => rfl) h σ k
theorem ixo50 {l : List gMachine} {i : Int} {v : gMachine} (h : idx l i = some v) {σ : AHeap} {o : Nat} (hs : (σ.objs o).map AObj.sz = some 3) (k : IntKind) : indexAddrA T σ 50 (.sl o 0 l.length) (.int k i) = some (.ptr o i.toNat 0) := ixA_sl (e := 28) rfl rfl h hs k
theorem app50 {l m r : List gMachine} (h : appx 56 l m = some r) {σ : AHeap} {o : Nat} {x : AV} (id : Nat) (ho : σ.objs o = some ⟨28, 3, encL rMachine l⟩) (hx : srcA ⟨3, 56, [.nilsl, .int .i64 0, .nilsl], .struct [(0, 22), (1, 3), (2, 22)]⟩ σ x = some (encL rMachine m)) :
    appendA T 50 id (.sl o 0 l.length) x σ = some (.sl id 0 r.length, (σ.kill o).put id ⟨28, 3, encL rMachine r⟩) := appA_sl (e := 28) rfl rfl (by decide) h id ho hx
theorem appn50 {m r : List gMachine} (h : appx 56 [] m = some r) {σ : AHeap} {x : AV} (id : Nat) (hx : srcA ⟨3, 56, [.nilsl, .int .i64 0, .nilsl], .struct [(0, 22), (1, 3), (2, 22)]⟩ σ x = some (encL rMachine m)) :
    appendA T 50 id .nilsl x σ = some (.sl id 0 r.length, σ.put id ⟨28, 3, encL rMachine r⟩) := appA_nil (e := 28) rfl rfl (by decide) h id hx
theorem appe50 {m r : List gMachine} (h : appx 56 [] m = some r) {σ : AHeap} {x : AV} (id : Nat) (hx : srcA ⟨3, 56, [.nilsl, .int .i64 0, .nilsl], .struct [(0, 22), (1, 3), (2, 22)]⟩ σ x = some (encL rMachine m)) :
    appendA T 50 id .esl x σ = some (.sl id 0 r.length, σ.put id ⟨28, 3, encL rMachine r⟩) := appA_esl (e := 28) rfl rfl (by decide) h id hx
theorem appf50 {m r : List gMachine} (h : appx 56 [] m = some r) {σ : AHeap} {s x : AV} (hs : s.noRoom = true) (hx : srcA ⟨3, 56, [.nilsl, .int .i64 0, .nilsl], .struct [(0, 22), (1, 3), (2, 22)]⟩ σ x = some (encL rMachine m)) :
    appendF T 50 s x σ = some (.fsl (encL rMachine r), σ) := appF_nil (e := 28) (ti := ⟨3, 56, [.nilsl, .int .i64 0, .nilsl], .struct [(0, 22), (1, 3), (2, 22)]⟩) rfl rfl (by decide) h hs hx
theorem makr50 {n : Int} {r : List gMachine} (h : makex 56 n (⟨([] : List Int), 0, ([] : List Int)⟩ : gMachine) = some r) (σ : AHeap) (id : Nat) (k k' : IntKind) : makeA T 50 false id (.int k n) (.int k' n) σ = some (.sl id 0 r.length, σ.put id ⟨28, 3, List.replicate n.toNat [.nilsl, .int .i64 0, .nilsl]⟩) := makA_rep (e := 28) (ti := ⟨3, 56, [.nilsl, .int .i64 0, .nilsl], .struct [(0, 22), (1, 3), (2, 22)]⟩) rfl rfl (by decide) h σ id k k'
theorem makf50 {n : Int} {r : List gMachine} (h : makex 56 n (⟨([] : List Int), 0, ([] : List Int)⟩ : gMachine) = some r) (σ : AHeap) (id : Nat) (k k' : IntKind) : makeA T 50 true id (.int k n) (.int k' n) σ = some (.fsl (encL rMachine r), σ) := makA_fsl (e := 28) (ti := ⟨3, 56, [.nilsl, .int .i64 0, .nilsl], .struct [(0, 22), (1, 3), (2, 22)]⟩) rfl rfl (by decide) (z := (⟨([] : List Int), 0, ([] : List Int)⟩ : gMachine)) rfl h σ id k k'
theorem cut_50 {l r : List gMachine} (h : cutx l 0 (ilen l) = some r) (σ : AHeap) : cutA T σ 50 (.fsl (encL rMachine l)) none none = some (.fsl (encL rMachine r)) := cutA_fsl (e := 28) rfl rfl (fun _ => rfl) rfl rfl h σ
theorem cuth_50 {l r : List gMachine} {b : Int} (h : cutx l 0 b = some r) (σ : AHeap) {kb : IntKind} : cutA T σ 50 (.fsl (encL rMachine l)) none (some (.int kb b)) = some (.fsl (encL rMachine r)) := cutA_fsl (e := 28) rfl rfl (fun _ => rfl) rfl rfl h σ
theorem cutl_50 {l r : List gMachine} {a : Int} (h : cutx l a (ilen l) = some r) (σ : AHeap) {ka : IntKind} : cutA T σ 50 (.fsl (encL rMachine l)) (some (.int ka a)) none = some (.fsl (encL rMachine r)) := cutA_fsl (e := 28) rfl rfl (fun _ => rfl) rfl rfl h σ
theorem cutlh_50 {l r : List gMachine} {a : Int} {b : Int} (h : cutx l a b = some r) (σ : AHeap) {ka : IntKind} {kb : IntKind} : cutA T σ 50 (.fsl (encL rMachine l)) (some (.int ka a)) (some (.int kb b)) = some (.fsl (encL rMachine r)) := cutA_fsl (e := 28) rfl rfl (fun _ => rfl) rfl rfl h σ
theorem cuto_22 {l r : List Int} (h : cutx l 0 (ilen l) = some r) {σ : AHeap} {o : Nat} (hs : (σ.objs o).map AObj.sz = some 1) : cutA T σ 22 (.sl o 0 l.length) none none = some (.sl o 0 r.length) := cutA_sl (e := 3) rfl rfl rfl rfl h hs
theorem cutoh_22 {l r : List Int} {b : Int} (h : cutx l 0 b = some r) {σ : AHeap} {o : Nat} {kb : IntKind} (hs : (σ.objs o).map AObj.sz = some 1) : cutA T σ 22 (.sl o 0 l.length) none (some (.int kb b)) = some (.sl o 0 r.length) := cutA_sl (e := 3) rfl rfl rfl rfl h hs
theorem cutol_22 {l r : List Int} {a : Int} (h : cutx l a (ilen l) = some r) {σ : AHeap} {o : Nat} {ka : IntKind} (hs : (σ.objs o).map AObj.sz = some 1) : cutA T σ 22 (.sl o 0 l.length) (some (.int ka a)) none = some (.sl o a.toNat r.length) := cutA_sl (e := 3) rfl rfl rfl rfl h hs
theorem cutolh_22 {l r : List Int} {a : Int} {b : Int} (h : cutx l a b = some r) {σ : AHeap} {o : Nat} {ka : IntKind} {kb : IntKind} (hs : (σ.objs o).map AObj.sz = some 1) : cutA T σ 22 (.sl o 0 l.length) (some (.int ka a)) (some (.int kb b)) = some (.sl o a.toNat r.length) := cutA_sl (e := 3) rfl rfl rfl rfl h hs
theorem appz22_3 {l r : List Int} {n : Int} (h : appzx 8 l n 0 = some r) {σ : AHeap} {o : Nat} {kx : IntKind} (id : Nat) (ho : σ.objs o = some ⟨3, 1, encL rI l⟩) : appendZ T 22 3 id (.sl o 0 l.length) (.int kx n) σ = some (.sl id 0 r.length, (σ.kill o).put id ⟨3, 1, encL rI r⟩) := appZ_sl (e := 3) (f := rI) (z := 0) (ti := ⟨1, 8, [.int .i64 0], .int .i64⟩) rfl rfl rfl rfl (by decide) h id ho
theorem appzn22_3 {r : List Int} {n : Int} (h : appzx 8 ([] : List Int) n 0 = some r) {σ : AHeap} {kx : IntKind} (id : Nat) : appendZ T 22 3 id .nilsl (.int kx n) σ = some (.sl id 0 r.length, σ.put id ⟨3, 1, encL rI r⟩) := appZ_nil (e := 3) (f := rI) (z := 0) (ti := ⟨1, 8, [.int .i64 0], .int .i64⟩) rfl rfl rfl rfl (by decide) h id (by simp)
theorem appze22_3 {r : List Int} {n : Int} (h : appzx 8 ([] : List Int) n 0 = some r) {σ : AHeap} {kx : IntKind} (id : Nat) : appendZ T 22 3 id .esl (.int kx n) σ = some (.sl id 0 r.length, σ.put id ⟨3, 1, encL rI r⟩) := appZ_nil (e := 3) (f := rI) (z := 0) (ti := ⟨1, 8, [.int .i64 0], .int .i64⟩) rfl rfl rfl rfl (by decide) h id (by simp)
theorem appv22 {l l' m r : List Int} {b : Int} (hc : cutx l 0 b = some l') (h : appx 8 l' m = some r) {σ : AHeap} {o : Nat} {x : AV} (id : Nat) (ho : σ.objs o = some ⟨3, 1, encL rI l⟩) (hx : srcA ⟨1, 8, [.int .i64 0], .int .i64⟩ σ x = some (encL rI m)) :
    appendA T 22 id (.sl o 0 l'.length) x σ = some (.sl id 0 r.length, (σ.kill o).put id ⟨3, 1, encL rI r⟩) := appA_slv (e := 3) (ti := ⟨1, 8, [.int .i64 0], .int .i64⟩) rfl rfl (by decide) hc h id ho hx
theorem srcv22 {l r : List Int} {a b : Int} (hv : cutx l a b = some r) {σ : AHeap} {o : Nat} (z : List AV) (k : TK) (h : σ.objs o = some ⟨3, 1, encL rI l⟩) : srcA ⟨1, 8, z, k⟩ σ (.sl o a.toNat r.length) = some (encL rI r) := srcA_slv (ti := ⟨1, 8, z, k⟩) (fun _ => rfl) hv h
theorem srcvn22 {l r : List Int} {a b : Int} (n : Nat) (hv : cutx l a b = some r) (hn : a.toNat = n) {σ : AHeap} {o : Nat} (z : List AV) (k : TK) (h : σ.objs o = some ⟨3, 1, encL rI l⟩) : srcA ⟨1, 8, z, k⟩ σ (.sl o n r.length) = some (encL rI r) := hn ▸ srcv22 hv z k h
theorem cuto_25 {l r : List gBox} (h : cutx l 0 (ilen l) = some r) {σ : AHeap} {o : Nat} (hs : (σ.objs o).map AObj.sz = some 2) : cutA T σ 25 (.sl o 0 l.length) none none = some (.sl o 0 r.length) := cutA_sl (e := 72) rfl rfl rfl rfl h hs
theorem cutoh_25 {l r : List gBox} {b : Int} (h : cutx l 0 b = some r) {σ : AHeap} {o : Nat} {kb : IntKind} (hs : (σ.objs o).map AObj.sz = some 2) : cutA T σ 25 (.sl o 0 l.length) none (some (.int kb b)) = some (.sl o 0 r.length) := cutA_sl (e := 72) rfl rfl rfl rfl h hs
theorem cutol_25 {l r : List gBox} {a : Int} (h : cutx l a (ilen l) = some r) {σ : AHeap} {o : Nat} {ka : IntKind} (hs : (σ.objs o).map AObj.sz = some 2) : cutA T σ 25 (.sl o 0 l.length) (some (.int ka a)) none = some (.sl o a.toNat r.length) := cutA_sl (e := 72) rfl rfl rfl rfl h hs
theorem cutolh_25 {l r : List gBox} {a : Int} {b : Int} (h : cutx l a b = some r) {σ : AHeap} {o : Nat} {ka : IntKind} {kb : IntKind} (hs : (σ.objs o).map AObj.sz = some 2) : cutA T σ 25 (.sl o 0 l.length) (some (.int ka a)) (some (.int kb b)) = some (.sl o a.toNat r.length) := cutA_sl (e := 72) rfl rfl rfl rfl h hs
theorem appz25_3 {l r : List gBox} {n : Int} (h : appzx 32 l n (⟨0, ([] : List Int)⟩ : gBox) = some r) {σ : AHeap} {o : Nat} {kx : IntKind} (id : Nat) (ho : σ.objs o = some ⟨72, 2, encL rBox l⟩) : appendZ T 25 3 id (.sl o 0 l.length) (.int kx n) σ = some (.sl id 0 r.length, (σ.kill o).put id ⟨72, 2, encL rBox r⟩) := appZ_sl (e := 72) (f := rBox) (z := (⟨0, ([] : List Int)⟩ : gBox)) (ti := ⟨2, 32, [.int .i64 0, .nilsl], .struct [(0, 3), (1, 22)]⟩) rfl rfl rfl rfl (by decide) h id ho
theorem appzn25_3 {r : List gBox} {n : Int} (h : appzx 32 ([] : List gBox) n (⟨0, ([] : List Int)⟩ : gBox) = some r) {σ : AHeap} {kx : IntKind} (id : Nat) : appendZ T 25 3 id .nilsl (.int kx n) σ = some (.sl id 0 r.length, σ.put id ⟨72, 2, encL rBox r⟩) := appZ_nil (e := 72) (f := rBox) (z := (⟨0, ([] : List Int)⟩ : gBox)) (ti := ⟨2, 32, [.int .i64 0, .nilsl], .struct [(0, 3), (1, 22)]⟩) rfl rfl rfl rfl (by decide) h id (by simp)
theorem appze25_3 {r : List gBox} {n : Int} (h : appzx 32 ([] : List gBox) n (⟨0, ([] : List Int)⟩ : gBox) = some r) {σ : AHeap} {kx : IntKind} (id : Nat) : appendZ T 25 3 id .esl (.int kx n) σ = some (.sl id 0 r.length, σ.put id ⟨72, 2, encL rBox r⟩) := appZ_nil (e := 72) (f := rBox) (z := (⟨0, ([] : List Int)⟩ : gBox)) (ti := ⟨2, 32, [.int .i64 0, .nilsl], .struct [(0, 3), (1, 22)]⟩) rfl rfl rfl rfl (by decide) h id (by simp)
theorem appv25 {l l' m r : List gBox} {b : Int} (hc : cutx l 0 b = some l') (h : appx 32 l' m = some r) {σ : AHeap} {o : Nat} {x : AV} (id : Nat) (ho : σ.objs o = some ⟨72, 2, encL rBox l⟩) (hx : srcA ⟨2, 32, [.int .i64 0, .nilsl], .struct [(0, 3), (1, 22)]⟩ σ x = some (encL rBox m)) :
    appendA T 25 id (.sl o 0 l'.length) x σ = some (.sl id 0 r.length, (σ.kill o).put id ⟨72, 2, encL rBox r⟩) := appA_slv (e := 72) (ti := ⟨2, 32, [.int .i64 0, .nilsl], .struct [(0, 3), (1, 22)]⟩) rfl rfl (by decide) hc h id ho hx
theorem srcv25 {l r : List gBox} {a b : Int} (hv : cutx l a b = some r) {σ : AHeap} {o : Nat} (z : List AV) (k : TK) (h : σ.objs o = some ⟨72, 2, encL rBox l⟩) : srcA ⟨2, 32, z, k⟩ σ (.sl o a.toNat r.length) = some (encL rBox r) := srcA_slv (ti := ⟨2, 32, z, k⟩) (fun _ => rfl) hv h
theorem srcvn25 {l r : List gBox} {a b : Int} (n : Nat) (hv : cutx l a b = some r) (hn : a.toNat = n) {σ : AHeap} {o : Nat} (z : List AV) (k : TK) (h : σ.objs o = some ⟨72, 2, encL rBox l⟩) : srcA ⟨2, 32, z, k⟩ σ (.sl o n r.length) = some (encL rBox r) := hn ▸ srcv25 hv z k h
theorem cuto_29 {l r : List gBox} (h : cutx l 0 (ilen l) = some r) {σ : AHeap} {o : Nat} (hs : (σ.objs o).map AObj.sz = some 2) : cutA T σ 29 (.sl o 0 l.length) none none = some (.sl o 0 r.length) := cutA_sl (e := 64) rfl rfl rfl rfl h hs
theorem cutoh_29 {l r : List gBox} {b : Int} (h : cutx l 0 b = some r) {σ : AHeap} {o : Nat} {kb : IntKind} (hs : (σ.objs o).map AObj.sz = some 2) : cutA T σ 29 (.sl o 0 l.length) none (some (.int kb b)) = some (.sl o 0 r.length) := cutA_sl (e := 64) rfl rfl rfl rfl h hs
theorem cutol_29 {l r : List gBox} {a : Int} (h : cutx l a (ilen l) = some r) {σ : AHeap} {o : Nat} {ka : IntKind} (hs : (σ.objs o).map AObj.sz = some 2) : cutA T σ 29 (.sl o 0 l.length) (some (.int ka a)) none = some (.sl o a.toNat r.length) := cutA_sl (e := 64) rfl rfl rfl rfl h hs
theorem cutolh_29 {l r : List gBox} {a : Int} {b : Int} (h : cutx l a b = some r) {σ : AHeap} {o : Nat} {ka : IntKind} {kb : IntKind} (hs : (σ.objs o).map AObj.sz = some 2) : cutA T σ 29 (.sl o 0 l.length) (some (.int ka a)) (some (.int kb b)) = some (.sl o a.toNat r.length) := cutA_sl (e := 64) rfl rfl rfl rfl h hs
theorem appz29_3 {l r : List gBox} {n : Int} (h : appzx 32 l n (⟨0, ([] : List Int)⟩ : gBox) = some r) {σ : AHeap} {o : Nat} {kx : IntKind} (id : Nat) (ho : σ.objs o = some ⟨64, 2, encL rBox l⟩) : appendZ T 29 3 id (.sl o 0 l.length) (.int kx n) σ = some (.sl id 0 r.length, (σ.kill o).put id ⟨64, 2, encL rBox r⟩) := appZ_sl (e := 64) (f := rBox) (z := (⟨0, ([] : List Int)⟩ : gBox)) (ti := ⟨2, 32, [.int .i64 0, .nilsl], .struct [(0, 3), (1, 22)]⟩) rfl rfl rfl rfl (by decide) h id ho
theorem appzn29_3 {r : List gBox} {n : Int} (h : appzx 32 ([] : List gBox) n (⟨0, ([] : List Int)⟩ : gBox) = some r) {σ : AHeap} {kx : IntKind} (id : Nat) : appendZ T 29 3 id .nilsl (.int kx n) σ = some (.sl id 0 r.length, σ.put id ⟨64, 2, encL rBox r⟩) := appZ_nil (e := 64) (f := rBox) (z := (⟨0, ([] : List Int)⟩ : gBox)) (ti := ⟨2, 32, [.int .i64 0, .nilsl], .struct [(0, 3), (1, 22)]⟩) rfl rfl rfl rfl (by decide) h id (by simp)
theorem appze29_3 {r : List gBox} {n : Int} (h : appzx 32 ([] : List gBox) n (⟨0, ([] : List Int)⟩ : gBox) = some r) {σ : AHeap} {kx : IntKind} (id : Nat) : appendZ T 29 3 id .esl (.int kx n) σ = some (.sl id 0 r.length, σ.put id ⟨64, 2, encL rBox r⟩) := appZ_nil (e := 64) (f := rBox) (z := (⟨0, ([] : List Int)⟩ : gBox)) (ti := ⟨2, 32, [.int .i64 0, .nilsl], .struct [(0, 3), (1, 22)]⟩) rfl rfl rfl rfl (by decide) h id (by simp)
theorem appv29 {l l' m r : List gBox} {b : Int} (hc : cutx l 0 b = some l') (h : appx 32 l' m = some r) {σ : AHeap} {o : Nat} {x : AV} (id : Nat) (ho : σ.objs o = some ⟨64, 2, encL rBox l⟩) (hx : srcA ⟨2, 32, [.int .i64 0, .nilsl], .struct [(0, 3), (1, 22)]⟩ σ x = some (encL rBox m)) :
    appendA T 29 id (.sl o 0 l'.length) x σ = some (.sl id 0 r.length, (σ.kill o).put id ⟨64, 2, encL rBox r⟩) := appA_slv (e := 64) (ti := ⟨2, 32, [.int .i64 0, .nilsl], .struct [(0, 3), (1, 22)]⟩) rfl rfl (by decide) hc h id ho hx
theorem srcv29 {l r : List gBox} {a b : Int} (hv : cutx l a b = some r) {σ : AHeap} {o : Nat} (z : List AV) (k : TK) (h : σ.objs o = some ⟨64, 2, encL rBox l⟩) : srcA ⟨2, 32, z, k⟩ σ (.sl o a.toNat r.length) = some (encL rBox r) := srcA_slv (ti := ⟨2, 32, z, k⟩) (fun _ => rfl) hv h
theorem srcvn29 {l r : List gBox} {a b : Int} (n : Nat) (hv : cutx l a b = some r) (hn : a.toNat = n) {σ : AHeap} {o : Nat} (z : List AV) (k : TK) (h : σ.objs o = some ⟨64, 2, encL rBox l⟩) : srcA ⟨2, 32, z, k⟩ σ (.sl o n r.length) = some (encL rBox r) := hn ▸ srcv29 hv z k h
theorem cuto_41 {l r : List gMachine} (h : cutx l 0 (ilen l) = some r) {σ : AHeap} {o : Nat} (hs : (σ.objs o).map AObj.sz = some 3) : cutA T σ 41 (.sl o 0 l.length) none none = some (.sl o 0 r.length) := cutA_sl (e := 24) rfl rfl rfl rfl h hs
theorem cutoh_41 {l r : List gMachine} {b : Int} (h : cutx l 0 b = some r) {σ : AHeap} {o : Nat} {kb : IntKind} (hs : (σ.objs o).map AObj.sz = some 3) : cutA T σ 41 (.sl o 0 l.length) none (some (.int kb b)) = some (.sl o 0 r.length) := cutA_sl (e := 24) rfl rfl rfl rfl h hs
theorem cutol_41 {l r : List gMachine} {a : Int} (h : cutx l a (ilen l) = some r) {σ : AHeap} {o : Nat} {ka : IntKind} (hs : (σ.objs o).map AObj.sz = some 3) : cutA T σ 41 (.sl o 0 l.length) (some (.int ka a)) none = some (.sl o a.toNat r.length) := cutA_sl (e := 24) rfl rfl rfl rfl h hs
theorem cutolh_41 {l r : List gMachine} {a : Int} {b : Int} (h : cutx l a b = some r) {σ : AHeap} {o : Nat} {ka : IntKind} {kb : IntKind} (hs : (σ.objs o).map AObj.sz = some 3) : cutA T σ 41 (.sl o 0 l.length) (some (.int ka a)) (some (.int kb b)) = some (.sl o a.toNat r.length) := cutA_sl (e := 24) rfl rfl rfl rfl h hs
theorem appz41_3 {l r : List gMachine} {n : Int} (h : appzx 56 l n (⟨([] : List Int), 0, ([] : List Int)⟩ : gMachine) = some r) {σ : AHeap} {o : Nat} {kx : IntKind} (id : Nat) (ho : σ.objs o = some ⟨24, 3, encL rMachine l⟩) : appendZ T 41 3 id (.sl o 0 l.length) (.int kx n) σ = some (.sl id 0 r.length, (σ.kill o).put id ⟨24, 3, encL rMachine r⟩) := appZ_sl (e := 24) (f := rMachine) (z := (⟨([] : List Int), 0, ([] : List Int)⟩ : gMachine)) (ti := ⟨3, 56, [.nilsl, .int .i64 0, .nilsl], .struct [(0, 22), (1, 3), (2, 22)]⟩) rfl rfl rfl rfl (by decide) h id ho
theorem appzn41_3 {r : List gMachine} {n : Int} (h : appzx 56 ([] : List gMachine) n (⟨([] : List Int), 0, ([] : List Int)⟩ : gMachine) = some r) {σ : AHeap} {kx : IntKind} (id : Nat) : appendZ T 41 3 id .nilsl (.int kx n) σ = some (.sl id 0 r.length, σ.put id ⟨24, 3, encL rMachine r⟩) := appZ_nil (e := 24) (f := rMachine) (z := (⟨([] : List Int), 0, ([] : List Int)⟩ : gMachine)) (ti := ⟨3, 56, [.nilsl, .int .i64 0, .nilsl], .struct [(0, 22), (1, 3), (2, 22)]⟩) rfl rfl rfl rfl (by decide) h id (by simp)
theorem appze41_3 {r : List gMachine} {n : Int} (h : appzx 56 ([] : List gMachine) n (⟨([] : List Int), 0, ([] : List Int)⟩ : gMachine) = some r) {σ : AHeap} {kx : IntKind} (id : Nat) : appendZ T 41 3 id .esl (.int kx n) σ = some (.sl id 0 r.length, σ.put id ⟨24, 3, encL rMachine r⟩) := appZ_nil (e := 24) (f := rMachine) (z := (⟨([] : List Int), 0, ([] : List Int)⟩ : gMachine)) (ti := ⟨3, 56, [.nilsl, .int .i64 0, .nilsl], .struct [(0, 22), (1, 3), (2, 22)]⟩) rfl rfl rfl rfl (by decide) h id (by simp)
theorem appv41 {l l' m r : List gMachine} {b : Int} (hc : cutx l 0 b = some l') (h : appx 56 l' m = some r) {σ : AHeap} {o : Nat} {x : AV} (id : Nat) (ho : σ.objs o = some ⟨24, 3, encL rMachine l⟩) (hx : srcA ⟨3, 56, [.nilsl, .int .i64 0, .nilsl], .struct [(0, 22), (1, 3), (2, 22)]⟩ σ x = some (encL rMachine m)) :
    appendA T 41 id (.sl o 0 l'.length) x σ = some (.sl id 0 r.length, (σ.kill o).put id ⟨24, 3, encL rMachine r⟩) := appA_slv (e := 24) (ti := ⟨3, 56, [.nilsl, .int .i64 0, .nilsl], .struct [(0, 22), (1, 3), (2, 22)]⟩) rfl rfl (by decide) hc h id ho hx
theorem srcv41 {l r : List gMachine} {a b : Int} (hv : cutx l a b = some r) {σ : AHeap} {o : Nat} (z : List AV) (k : TK) (h : σ.objs o = some ⟨24, 3, encL rMachine l⟩) : srcA ⟨3, 56, z, k⟩ σ (.sl o a.toNat r.length) = some (encL rMachine r) := srcA_slv (ti := ⟨3, 56, z, k⟩) (fun _ => rfl) hv h
theorem srcvn41 {l r : List gMachine} {a b : Int} (n : Nat) (hv : cutx l a b = some r) (hn : a.toNat = n) {σ : AHeap} {o : Nat} (z : List AV) (k : TK) (h : σ.objs o = some ⟨24, 3, encL rMachine l⟩) : srcA ⟨3, 56, z, k⟩ σ (.sl o n r.length) = some (encL rMachine r) := hn ▸ srcv41 hv z k h
theorem cuto_45 {l r : List (List Int)} (h : cutx l 0 (ilen l) = some r) {σ : AHeap} {o : Nat} (hs : (σ.objs o).map AObj.sz = some 1) : cutA T σ 45 (.sl o 0 l.length) none none = some (.sl o 0 r.length) := cutA_sl (e := 22) rfl rfl rfl rfl h hs
theorem cutoh_45 {l r : List (List Int)} {b : Int} (h : cutx l 0 b = some r) {σ : AHeap} {o : Nat} {kb : IntKind} (hs : (σ.objs o).map AObj.sz = some 1) : cutA T σ 45 (.sl o 0 l.length) none (some (.int kb b)) = some (.sl o 0 r.length) := cutA_sl (e := 22) rfl rfl rfl rfl h hs
theorem cutol_45 {l r : List (List Int)} {a : Int} (h : cutx l a (ilen l) = some r) {σ : AHeap} {o : Nat} {ka : IntKind} (hs : (σ.objs o).map AObj.sz = some 1) : cutA T σ 45 (.sl o 0 l.length) (some (.int ka a)) none = some (.sl o a.toNat r.length) := cutA_sl (e := 22) rfl rfl rfl rfl h hs
theorem cutolh_45 {l r : List (List Int)} {a : Int} {b : Int} (h : cutx l a b = some r) {σ : AHeap} {o : Nat} {ka : IntKind} {kb : IntKind} (hs : (σ.objs o).map AObj.sz = some 1) : cutA T σ 45 (.sl o 0 l.length) (some (.int ka a)) (some (.int kb b)) = some (.sl o a.toNat r.length) := cutA_sl (e := 22) rfl rfl rfl rfl h hs
theorem appz45_3 {l r : List (List Int)} {n : Int} (h : appzx 24 l n ([] : List Int) = some r) {σ : AHeap} {o : Nat} {kx : IntKind} (id : Nat) (ho : σ.objs o = some ⟨22, 1, encL rL_I l⟩) : appendZ T 45 3 id (.sl o 0 l.length) (.int kx n) σ = some (.sl id 0 r.length, (σ.kill o).put id ⟨22, 1, encL rL_I r⟩) := appZ_sl (e := 22) (f := rL_I) (z := ([] : List Int)) (ti := ⟨1, 24, [.nilsl], .slice 3⟩) rfl rfl rfl rfl (by decide) h id ho
theorem appzn45_3 {r : List (List Int)} {n : Int} (h : appzx 24 ([] : List (List Int)) n ([] : List Int) = some r) {σ : AHeap} {kx : IntKind} (id : Nat) : appendZ T 45 3 id .nilsl (.int kx n) σ = some (.sl id 0 r.length, σ.put id ⟨22, 1, encL rL_I r⟩) := appZ_nil (e := 22) (f := rL_I) (z := ([] : List Int)) (ti := ⟨1, 24, [.nilsl], .slice 3⟩) rfl rfl rfl rfl (by decide) h id (by simp)
theorem appze45_3 {r : List (List Int)} {n : Int} (h : appzx 24 ([] : List (List Int)) n ([] : List Int) = some r) {σ : AHeap} {kx : IntKind} (id : Nat) : appendZ T 45 3 id .esl (.int kx n) σ = some (.sl id 0 r.length, σ.put id ⟨22, 1, encL rL_I r⟩) := appZ_nil (e := 22) (f := rL_I) (z := ([] : List Int)) (ti := ⟨1, 24, [.nilsl], .slice 3⟩) rfl rfl rfl rfl (by decide) h id (by simp)
theorem appv45 {l l' m r : List (List Int)} {b : Int} (hc : cutx l 0 b = some l') (h : appx 24 l' m = some r) {σ : AHeap} {o : Nat} {x : AV} (id : Nat) (ho : σ.objs o = some ⟨22, 1, encL rL_I l⟩) (hx : srcA ⟨1, 24, [.nilsl], .slice 3⟩ σ x = some (encL rL_I m)) :
    appendA T 45 id (.sl o 0 l'.length) x σ = some (.sl id 0 r.length, (σ.kill o).put id ⟨22, 1, encL rL_I r⟩) := appA_slv (e := 22) (ti := ⟨1, 24, [.nilsl], .slice 3⟩) rfl rfl (by decide) hc h id ho hx
theorem srcv45 {l r : List (List Int)} {a b : Int} (hv : cutx l a b = some r) {σ : AHeap} {o : Nat} (z : List AV) (k : TK) (h : σ.objs o = some ⟨22, 1, encL rL_I l⟩) : srcA ⟨1, 24, z, k⟩ σ (.sl o a.toNat r.length) = some (encL rL_I r) := srcA_slv (ti := ⟨1, 24, z, k⟩) (fun _ => rfl) hv h
theorem srcvn45 {l r : List (List Int)} {a b : Int} (n : Nat) (hv : cutx l a b = some r) (hn : a.toNat = n) {σ : AHeap} {o : Nat} (z : List AV) (k : TK) (h : σ.objs o = some ⟨22, 1, encL rL_I l⟩) : srcA ⟨1, 24, z, k⟩ σ (.sl o n r.length) = some (encL rL_I r) := hn ▸ srcv45 hv z k h
theorem cuto_46 {l r : List Bool} (h : cutx l 0 (ilen l) = some r) {σ : AHeap} {o : Nat} (hs : (σ.objs o).map AObj.sz = some 1) : cutA T σ 46 (.sl o 0 l.length) none none = some (.sl o 0 r.length) := cutA_sl (e := 4) rfl rfl rfl rfl h hs
theorem cutoh_46 {l r : List Bool} {b : Int} (h : cutx l 0 b = some r) {σ : AHeap} {o : Nat} {kb : IntKind} (hs : (σ.objs o).map AObj.sz = some 1) : cutA T σ 46 (.sl o 0 l.length) none (some (.int kb b)) = some (.sl o 0 r.length) := cutA_sl (e := 4) rfl rfl rfl rfl h hs
theorem cutol_46 {l r : List Bool} {a : Int} (h : cutx l a (ilen l) = some r) {σ : AHeap} {o : Nat} {ka : IntKind} (hs : (σ.objs o).map AObj.sz = some 1) : cutA T σ 46 (.sl o 0 l.length) (some (.int ka a)) none = some (.sl o a.toNat r.length) := cutA_sl (e := 4) rfl rfl rfl rfl h hs
theorem cutolh_46 {l r : List Bool} {a : Int} {b : Int} (h : cutx l a b = some r) {σ : AHeap} {o : Nat} {ka : IntKind} {kb : IntKind} (hs : (σ.objs o).map AObj.sz = some 1) : cutA T σ 46 (.sl o 0 l.length) (some (.int ka a)) (some (.int kb b)) = some (.sl o a.toNat r.length) := cutA_sl (e := 4) rfl rfl rfl rfl h hs
theorem appz46_3 {l r : List Bool} {n : Int} (h : appzx 1 l n false = some r) {σ : AHeap} {o : Nat} {kx : IntKind} (id : Nat) (ho : σ.objs o = some ⟨4, 1, encL rB l⟩) : appendZ T 46 3 id (.sl o 0 l.length) (.int kx n) σ = some (.sl id 0 r.length, (σ.kill o).put id ⟨4, 1, encL rB r⟩) := appZ_sl (e := 4) (f := rB) (z := false) (ti := ⟨1, 1, [.bool false], .bool⟩) rfl rfl rfl rfl (by decide) h id ho
theorem appzn46_3 {r : List Bool} {n : Int} (h : appzx 1 ([] : List Bool) n false = some r) {σ : AHeap} {kx : IntKind} (id : Nat) : appendZ T 46 3 id .nilsl (.int kx n) σ = some (.sl id 0 r.length, σ.put id ⟨4, 1, encL rB r⟩) := appZ_nil (e := 4) (f := rB) (z := false) (ti := ⟨1, 1, [.bool false], .bool⟩) rfl rfl rfl rfl (by decide) h id (by simp)
theorem appze46_3 {r : List Bool} {n : Int} (h : appzx 1 ([] : List Bool) n false = some r) {σ : AHeap} {kx : IntKind} (id : Nat) : appendZ T 46 3 id .esl (.int kx n) σ = some (.sl id 0 r.length, σ.put id ⟨4, 1, encL rB r⟩) := appZ_nil (e := 4) (f := rB) (z := false) (ti := ⟨1, 1, [.bool false], .bool⟩) rfl rfl rfl rfl (by decide) h id (by simp)
theorem appv46 {l l' m r : List Bool} {b : Int} (hc : cutx l 0 b = some l') (h : appx 1 l' m = some r) {σ : AHeap} {o : Nat} {x : AV} (id : Nat) (ho : σ.objs o = some ⟨4, 1, encL rB l⟩) (hx : srcA ⟨1, 1, [.bool false], .bool⟩ σ x = some (encL rB m)) :
    appendA T 46 id (.sl o 0 l'.length) x σ = some (.sl id 0 r.length, (σ.kill o).put id ⟨4, 1, encL rB r⟩) := appA_slv (e := 4) (ti := ⟨1, 1, [.bool false], .bool⟩) rfl rfl (by decide) hc h id ho hx
theorem srcv46 {l r : List Bool} {a b : Int} (hv : cutx l a b = some r) {σ : AHeap} {o : Nat} (z : List AV) (k : TK) (h : σ.objs o = some ⟨4, 1, encL rB l⟩) : srcA ⟨1, 1, z, k⟩ σ (.sl o a.toNat r.length) = some (encL rB r) := srcA_slv (ti := ⟨1, 1, z, k⟩) (fun _ => rfl) hv h
theorem srcvn46 {l r : List Bool} {a b : Int} (n : Nat) (hv : cutx l a b = some r) (hn : a.toNat = n) {σ : AHeap} {o : Nat} (z : List AV) (k : TK) (h : σ.objs o = some ⟨4, 1, encL rB l⟩) : srcA ⟨1, 1, z, k⟩ σ (.sl o n r.length) = some (encL rB r) := hn ▸ srcv46 hv z k h
theorem cuto_50 {l r : List gMachine} (h : cutx l 0 (ilen l) = some r) {σ : AHeap} {o : Nat} (hs : (σ.objs o).map AObj.sz = some 3) : cutA T σ 50 (.sl o 0 l.length) none none = some (.sl o 0 r.length) := cutA_sl (e := 28) rfl rfl rfl rfl h hs
theorem cutoh_50 {l r : List gMachine} {b : Int} (h : cutx l 0 b = some r) {σ : AHeap} {o : Nat} {kb : IntKind} (hs : (σ.objs o).map AObj.sz = some 3) : cutA T σ 50 (.sl o 0 l.length) none (some (.int kb b)) = some (.sl o 0 r.length) := cutA_sl (e := 28) rfl rfl rfl rfl h hs
theorem cutol_50 {l r : List gMachine} {a : Int} (h : cutx l a (ilen l) = some r) {σ : AHeap} {o : Nat} {ka : IntKind} (hs : (σ.objs o).map AObj.sz = some 3) : cutA T σ 50 (.sl o 0 l.length) (some (.int ka a)) none = some (.sl o a.toNat r.length) := cutA_sl (e := 28) rfl rfl rfl rfl h hs
theorem cutolh_50 {l r : List gMachine} {a : Int} {b : Int} (h : cutx l a b = some r) {σ : AHeap} {o : Nat} {ka : IntKind} {kb : IntKind} (hs : (σ.objs o).map AObj.sz = some 3) : cutA T σ 50 (.sl o 0 l.length) (some (.int ka a)) (some (.int kb b)) = some (.sl o a.toNat r.length) := cutA_sl (e := 28) rfl rfl rfl rfl h hs
theorem appz50_3 {l r : List gMachine} {n : Int} (h : appzx 56 l n (⟨([] : List Int), 0, ([] : List Int)⟩ : gMachine) = some r) {σ : AHeap} {o : Nat} {kx : IntKind} (id : Nat) (ho : σ.objs o = some ⟨28, 3, encL rMachine l⟩) : appendZ T 50 3 id (.sl o 0 l.length) (.int kx n) σ = some (.sl id 0 r.length, (σ.kill o).put id ⟨28, 3, encL rMachine r⟩) := appZ_sl (e := 28) (f := rMachine) (z := (⟨([] : List Int), 0, ([] : List Int)⟩ : gMachine)) (ti := ⟨3, 56, [.nilsl, .int .i64 0, .nilsl], .struct [(0, 22), (1, 3), (2, 22)]⟩) rfl rfl rfl rfl (by decide) h id ho
theorem appzn50_3 {r : List gMachine} {n : Int} (h : appzx 56 ([] : List gMachine) n (⟨([] : List Int), 0, ([] : List Int)⟩ : gMachine) = some r) {σ : AHeap} {kx : IntKind} (id : Nat) : appendZ T 50 3 id .nilsl (.int kx n) σ = some (.sl id 0 r.length, σ.put id ⟨28, 3, encL rMachine r⟩) := appZ_nil (e := 28) (f := rMachine) (z := (⟨([] : List Int), 0, ([] : List Int)⟩ : gMachine)) (ti := ⟨3, 56, [.nilsl, .int .i64 0, .nilsl], .struct [(0, 22), (1, 3), (2, 22)]⟩) rfl rfl rfl rfl (by decide) h id (by simp)
theorem appze50_3 {r : List gMachine} {n : Int} (h : appzx 56 ([] : List gMachine) n (⟨([] : List Int), 0, ([] : List Int)⟩ : gMachine) = some r) {σ : AHeap} {kx : IntKind} (id : Nat) : appendZ T 50 3 id .esl (.int kx n) σ = some (.sl id 0 r.length, σ.put id ⟨28, 3, encL rMachine r⟩) := appZ_nil (e := 28) (f := rMachine) (z := (⟨([] : List Int), 0, ([] : List Int)⟩ : gMachine)) (ti := ⟨3, 56, [.nilsl, .int .i64 0, .nilsl], .struct [(0, 22), (1, 3), (2, 22)]⟩) rfl rfl rfl rfl (by decide) h id (by simp)
theorem appv50 {l l' m r : List gMachine} {b : Int} (hc : cutx l 0 b = some l') (h : appx 56 l' m = some r) {σ : AHeap} {o : Nat} {x : AV} (id : Nat) (ho : σ.objs o = some ⟨28, 3, encL rMachine l⟩) (hx : srcA ⟨3, 56, [.nilsl, .int .i64 0, .nilsl], .struct [(0, 22), (1, 3), (2, 22)]⟩ σ x = some (encL rMachine m)) :
    appendA T 50 id (.sl o 0 l'.length) x σ = some (.sl id 0 r.length, (σ.kill o).put id ⟨28, 3, encL rMachine r⟩) := appA_slv (e := 28) (ti := ⟨3, 56, [.nilsl, .int .i64 0, .nilsl], .struct [(0, 22), (1, 3), (2, 22)]⟩) rfl rfl (by decide) hc h id ho hx
theorem srcv50 {l r : List gMachine} {a b : Int} (hv : cutx l a b = some r) {σ : AHeap} {o : Nat} (z : List AV) (k : TK) (h : σ.objs o = some ⟨28, 3, encL rMachine l⟩) : srcA ⟨3, 56, z, k⟩ σ (.sl o a.toNat r.length) = some (encL rMachine r) := srcA_slv (ti := ⟨3, 56, z, k⟩) (fun _ => rfl) hv h
theorem srcvn50 {l r : List gMachine} {a b : Int} (n : Nat) (hv : cutx l a b = some r) (hn : a.toNat = n) {σ : AHeap} {o : Nat} (z : List AV) (k : TK) (h : σ.objs o = some ⟨28, 3, encL rMachine l⟩) : srcA ⟨3, 56, z, k⟩ σ (.sl o n r.length) = some (encL rMachine r) := hn ▸ srcv50 hv z k h
theorem apr25 (f : gBox → List AV) {l r : List gBox} {v : gBox} (h : appx 32 l [v] = some r) {σ : AHeap} {o : Nat} (x0 x1 : AV) (id : Nat) (ho : σ.objs o = some ⟨72, 2, encL f l⟩) :
    appendA T 25 id (.sl o 0 l.length) (.fsl [[x0, x1]]) σ = some (.sl id 0 r.length, (σ.kill o).put id ⟨72, 2, encL f l ++ [[x0, x1]]⟩) := aprA_sl (e := 72) (ti := ⟨2, 32, [.int .i64 0, .nilsl], .struct [(0, 3), (1, 22)]⟩) rfl rfl (by decide) h id ho (srcA_raw rfl σ)
theorem aprn25 {r : List gBox} {v : gBox} (h : appx 32 ([] : List gBox) [v] = some r) {σ : AHeap} {s : AV} (x0 x1 : AV) (id : Nat) (hs : s = .nilsl ∨ s = .esl) :
    appendA T 25 id s (.fsl [[x0, x1]]) σ = some (.sl id 0 r.length, σ.put id ⟨72, 2, [[x0, x1]]⟩) := aprA_nil (e := 72) (ti := ⟨2, 32, [.int .i64 0, .nilsl], .struct [(0, 3), (1, 22)]⟩) rfl rfl (by decide) rfl h id hs (srcA_raw rfl σ)
theorem apr29 (f : gBox → List AV) {l r : List gBox} {v : gBox} (h : appx 32 l [v] = some r) {σ : AHeap} {o : Nat} (x0 x1 : AV) (id : Nat) (ho : σ.objs o = some ⟨64, 2, encL f l⟩) :
    appendA T 29 id (.sl o 0 l.length) (.fsl [[x0, x1]]) σ = some (.sl id 0 r.length, (σ.kill o).put id ⟨64, 2, encL f l ++ [[x0, x1]]⟩) := aprA_sl (e := 64) (ti := ⟨2, 32, [.int .i64 0, .nilsl], .struct [(0, 3), (1, 22)]⟩) rfl rfl (by decide) h id ho (srcA_raw rfl σ)
theorem aprn29 {r : List gBox} {v : gBox} (h : appx 32 ([] : List gBox) [v] = some r) {σ : AHeap} {s : AV} (x0 x1 : AV) (id : Nat) (hs : s = .nilsl ∨ s = .esl) :
    appendA T 29 id s (.fsl [[x0, x1]]) σ = some (.sl id 0 r.length, σ.put id ⟨64, 2, [[x0, x1]]⟩) := aprA_nil (e := 64) (ti := ⟨2, 32, [.int .i64 0, .nilsl], .struct [(0, 3), (1, 22)]⟩) rfl rfl (by decide) rfl h id hs (srcA_raw rfl σ)
theorem apr41 (f : gMachine → List AV) {l r : List gMachine} {v : gMachine} (h : appx 56 l [v] = some r) {σ : AHeap} {o : Nat} (x0 x1 x2 : AV) (id : Nat) (ho : σ.objs o = some ⟨24, 3, encL f l⟩) :
    appendA T 41 id (.sl o 0 l.length) (.fsl [[x0, x1, x2]]) σ = some (.sl id 0 r.length, (σ.kill o).put id ⟨24, 3, encL f l ++ [[x0, x1, x2]]⟩) := aprA_sl (e := 24) (ti := ⟨3, 56, [.nilsl, .int .i64 0, .nilsl], .struct [(0, 22), (1, 3), (2, 22)]⟩) rfl rfl (by decide) h id ho (srcA_raw rfl σ)
theorem aprn41 {r : List gMachine} {v : gMachine} (h : appx 56 ([] : List gMachine) [v] = some r) {σ : AHeap} {s : AV} (x0 x1 x2 : AV) (id : Nat) (hs : s = .nilsl ∨ s = .esl) :
    appendA T 41 id s (.fsl [[x0, x1, x2]]) σ = some (.sl id 0 r.length, σ.put id ⟨24, 3, [[x0, x1, x2]]⟩) := aprA_nil (e := 24) (ti := ⟨3, 56, [.nilsl, .int .i64 0, .nilsl], .struct [(0, 22), (1, 3), (2, 22)]⟩) rfl rfl (by decide) rfl h id hs (srcA_raw rfl σ)
theorem apr45 (f : (List Int) → List AV) {l r : List (List Int)} {v : (List Int)} (h : appx 24 l [v] = some r) {σ : AHeap} {o : Nat} (x0 : AV) (id : Nat) (ho : σ.objs o = some ⟨22, 1, encL f l⟩) :
    appendA T 45 id (.sl o 0 l.length) (.fsl [[x0]]) σ = some (.sl id 0 r.length, (σ.kill o).put id ⟨22, 1, encL f l ++ [[x0]]⟩) := aprA_sl (e := 22) (ti := ⟨1, 24, [.nilsl], .slice 3⟩) rfl rfl (by decide) h id ho (srcA_raw rfl σ)
theorem aprn45 {r : List (List Int)} {v : (List Int)} (h : appx 24 ([] : List (List Int)) [v] = some r) {σ : AHeap} {s : AV} (x0 : AV) (id : Nat) (hs : s = .nilsl ∨ s = .esl) :
    appendA T 45 id s (.fsl [[x0]]) σ = some (.sl id 0 r.length, σ.put id ⟨22, 1, [[x0]]⟩) := aprA_nil (e := 22) (ti := ⟨1, 24, [.nilsl], .slice 3⟩) rfl rfl (by decide) rfl h id hs (srcA_raw rfl σ)
theorem apr50 (f : gMachine → List AV) {l r : List gMachine} {v : gMachine} (h : appx 56 l [v] = some r) {σ : AHeap} {o : Nat} (x0 x1 x2 : AV) (id : Nat) (ho : σ.objs o = some ⟨28, 3, encL f l⟩) :
    appendA T 50 id (.sl o 0 l.length) (.fsl [[x0, x1, x2]]) σ = some (.sl id 0 r.length, (σ.kill o).put id ⟨28, 3, encL f l ++ [[x0, x1, x2]]⟩) := aprA_sl (e := 28) (ti := ⟨3, 56, [.nilsl, .int .i64 0, .nilsl], .struct [(0, 22), (1, 3), (2, 22)]⟩) rfl rfl (by decide) h id ho (srcA_raw rfl σ)
theorem aprn50 {r : List gMachine} {v : gMachine} (h : appx 56 ([] : List gMachine) [v] = some r) {σ : AHeap} {s : AV} (x0 x1 x2 : AV) (id : Nat) (hs : s = .nilsl ∨ s = .esl) :
    appendA T 50 id s (.fsl [[x0, x1, x2]]) σ = some (.sl id 0 r.length, σ.put id ⟨28, 3, [[x0, x1, x2]]⟩) := aprA_nil (e := 28) (ti := ⟨3, 56, [.nilsl, .int .i64 0, .nilsl], .struct [(0, 22), (1, 3), (2, 22)]⟩) rfl rfl (by decide) rfl h id hs (srcA_raw rfl σ)
theorem nf_rI (n : Nat) (x : Int) : ((rI x).all (AV.nf (n + 1))) = true := by simp [AV.nf, AV.simp1]
theorem nf_rB (n : Nat) (x : Bool) : ((rB x).all (AV.nf (n + 1))) = true := by simp [AV.nf, AV.simp1]
def rBox_o (x : gBox) : List AV := [.int .i64 x.Room, .osl 3 1 (encL rI x.Items)]
@[simp] theorem rBox_o_eq (x : gBox) : rBox_o x = [.int .i64 x.Room, .osl 3 1 (encL rI x.Items)] := rfl
theorem nf_rBox_o (n : Nat) (x : gBox) : ((rBox_o x).all (AV.nf (n + 2))) = true := by
  simp only [rBox_o_eq, List.all_cons, List.all_nil, Bool.and_true, Bool.and_eq_true]
  exact ⟨rfl, encL_nf (fun x => nf_rI (n + 0) x) _⟩
@[simp] theorem thawm_rBox_o {D : Nat → Bool} {σ : AHeap} {d : Nat} (l : List gBox) : (encL rBox_o l).map (fun e => e.map (thawA D σ (d + 1))) = encL rBox l := by
  simp only [encL, List.map_map]
  refine List.map_congr_left fun x _ => ?_
  simp [thawA]
theorem set_rBox_o (l : List gBox) (k : Nat) (xRoom : Int) (xItems : (List Int)) : (encL rBox_o l).set k [.int .i64 xRoom, .osl 3 1 (encL rI xItems)] = encL rBox_o (l.set k (⟨xRoom, xItems⟩ : gBox)) := encL_set rBox_o l k (⟨xRoom, xItems⟩ : gBox)
@[simp] theorem len_rBox_o (x : gBox) : (rBox_o x).length = 2 := rfl
def rL_I_o (x : (List Int)) : List AV := [.osl 3 1 (encL rI x)]
@[simp] theorem rL_I_o_eq (x : (List Int)) : rL_I_o x = [.osl 3 1 (encL rI x)] := rfl
theorem nf_rL_I_o (n : Nat) (x : (List Int)) : ((rL_I_o x).all (AV.nf (n + 2))) = true := by
  simp only [rL_I_o_eq, List.all_cons, List.all_nil, Bool.and_true, Bool.and_eq_true]
  exact encL_nf (fun x => nf_rI (n + 0) x) _
@[simp] theorem thawm_rL_I_o {D : Nat → Bool} {σ : AHeap} {d : Nat} (l : List (List Int)) : (encL rL_I_o l).map (fun e => e.map (thawA D σ (d + 1))) = encL rL_I l := by
  simp only [encL, List.map_map]
  refine List.map_congr_left fun x _ => ?_
  simp [thawA]
theorem set_rL_I_o (l : List (List Int)) (k : Nat) (x : (List Int)) : (encL rL_I_o l).set k [.osl 3 1 (encL rI x)] = encL rL_I_o (l.set k x) := encL_set rL_I_o l k x
@[simp] theorem len_rL_I_o (x : (List Int)) : (rL_I_o x).length = 1 := rfl
def rMachine_of (x : gMachine) : List AV := [.osl 3 1 (encL rI x.Regs), .int .i64 x.Pc, .fsl (encL rI x.Mem)]
@[simp] theorem rMachine_of_eq (x : gMachine) : rMachine_of x = [.osl 3 1 (encL rI x.Regs), .int .i64 x.Pc, .fsl (encL rI x.Mem)] := rfl
theorem set_rMachine_of (l : List gMachine) (k : Nat) (xRegs : (List Int)) (xPc : Int) (xMem : (List Int)) : (encL rMachine_of l).set k [.osl 3 1 (encL rI xRegs), .int .i64 xPc, .fsl (encL rI xMem)] = encL rMachine_of (l.set k (⟨xRegs, xPc, xMem⟩ : gMachine)) := encL_set rMachine_of l k (⟨xRegs, xPc, xMem⟩ : gMachine)
@[simp] theorem len_rMachine_of (x : gMachine) : (rMachine_of x).length = 3 := rfl
def rMachine_oo (x : gMachine) : List AV := [.osl 3 1 (encL rI x.Regs), .int .i64 x.Pc, .osl 3 1 (encL rI x.Mem)]
@[simp] theorem rMachine_oo_eq (x : gMachine) : rMachine_oo x = [.osl 3 1 (encL rI x.Regs), .int .i64 x.Pc, .osl 3 1 (encL rI x.Mem)] := rfl
theorem nf_rMachine_oo (n : Nat) (x : gMachine) : ((rMachine_oo x).all (AV.nf (n + 2))) = true := by
  simp only [rMachine_oo_eq, List.all_cons, List.all_nil, Bool.and_true, Bool.and_eq_true]
  exact ⟨encL_nf (fun x => nf_rI (n + 0) x) _, rfl, encL_nf (fun x => nf_rI (n + 0) x) _⟩
@[simp] theorem thawm_rMachine_oo {D : Nat → Bool} {σ : AHeap} {d : Nat} (l : List gMachine) : (encL rMachine_oo l).map (fun e => e.map (thawA D σ (d + 1))) = encL rMachine l := by
  simp only [encL, List.map_map]
  refine List.map_congr_left fun x _ => ?_
  simp [thawA]
theorem set_rMachine_oo (l : List gMachine) (k : Nat) (xRegs : (List Int)) (xPc : Int) (xMem : (List Int)) : (encL rMachine_oo l).set k [.osl 3 1 (encL rI xRegs), .int .i64 xPc, .osl 3 1 (encL rI xMem)] = encL rMachine_oo (l.set k (⟨xRegs, xPc, xMem⟩ : gMachine)) := encL_set rMachine_oo l k (⟨xRegs, xPc, xMem⟩ : gMachine)
@[simp] theorem len_rMachine_oo (x : gMachine) : (rMachine_oo x).length = 3 := rfl
end Go.Proofs.Ytoklfbdcghgmlaa
