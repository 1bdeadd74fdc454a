import Derived.Test.YtnbkmenlaogblaaPure2
set_option linter.unusedVariables false
namespace Go.V

def wp.spec_WarpOk (xs0 : List D.Ins) (s1 : D.Warp) (Q : Bool → Prop) : Prop :=
  (M.spec_ProgramOk_pre xs0 ∧ ∀ r23, r23 = M.spec_ProgramOk xs0 → bcase (!r23) (Q false) ((∀ r28, r28 = M.spec_l01In s1.Number 0 2 → bcase (!r28) (Q false) (bcase (((s1.Regs.length : Nat) : Int) != 32) (Q false) ((M.spec_AreWords_pre s1.Regs ∧ ∀ r33, r33 = M.spec_AreWords s1.Regs → bcase (!r33) (Q false) (bcase (decide (((s1.Frames.length : Nat) : Int) > 24)) (Q false) (LoopP (σ := Int × Unit) (fun (p94 : Int × Unit) next42 => match p94 with | (i38, _) => bcase (decide (i38 < ((s1.Frames.length : Nat) : Int))) (((0 ≤ i38 ∧ i38 < ((s1.Frames.length : Nat) : Int)) ∧ (∀ r53, r53 = M.spec_l01In ((rd s1.Frames i38).Pc) 0 ((xs0.length : Nat) : Int) → bcase (!r53) (Q false) ((∀ r58, r58 = M.spec_l01In ((rd s1.Frames i38).Stop) 0 ((xs0.length : Nat) : Int) → bcase (!r58) (Q false) ((∀ r63, r63 = M.spec_IsMask ((rd s1.Frames i38).Mask) → bcase (!r63) (Q false) (bcase ((rd s1.Frames i38).Mask == 0) (Q false) (bcase (i38 == 0) (bcase ((rd s1.Frames i38).Stop != ((xs0.length : Nat) : Int)) (Q false) (bcase ((rd s1.Frames i38).Mask != 255) (Q false) (bcase (i38 == (IntKind.wrap .i64 (((s1.Frames.length : Nat) : Int) - 1))) (bcase ((rd s1.Frames i38).Pc == (rd s1.Frames i38).Stop) (Q false) (bcase ((rd s1.Frames i38).Pc == ((xs0.length : Nat) : Int)) (Q false) (next42 ((IntKind.wrap .i64 (i38 + 1)), ())))) (next42 ((IntKind.wrap .i64 (i38 + 1)), ()))))) (bcase (i38 == (IntKind.wrap .i64 (((s1.Frames.length : Nat) : Int) - 1))) (bcase ((rd s1.Frames i38).Pc == (rd s1.Frames i38).Stop) (Q false) (bcase ((rd s1.Frames i38).Pc == ((xs0.length : Nat) : Int)) (Q false) (next42 ((IntKind.wrap .i64 (i38 + 1)), ())))) (next42 ((IntKind.wrap .i64 (i38 + 1)), ())))))))))))) (Q true)) (0, ())))))))))

def wp.spec_BlockOk (s0 : D.Block) (Q : Bool → Prop) : Prop :=
  (M.spec_ProgramOk_pre s0.Code ∧ ∀ r29, r29 = M.spec_ProgramOk s0.Code → bcase (!r29) (Q false) ((∀ r34, r34 = M.spec_l01In ((s0.Warps.length : Nat) : Int) 1 3 → bcase (!r34) (Q false) (bcase (((s0.Memory.length : Nat) : Int) != 32) (Q false) ((M.spec_AreWords_pre s0.Memory ∧ ∀ r39, r39 = M.spec_AreWords s0.Memory → bcase (!r39) (Q false) (((0 ≤ ((s0.Warps.length : Nat) : Int)) ∧ (∀ r45, r45 = M.spec_l01In s0.Waiting 0 (IntKind.wrap .i64 ((IntKind.wrap .i64 (1 * 2 ^ (min (((s0.Warps.length : Nat) : Int).toNat) (IntKind.bits .i64)))) - 2)) → bcase (!r45) (Q false) ((∀ r50, r50 = M.spec_l01In s0.Phase 0 100000 → bcase (!r50) (Q false) (LoopP (σ := Int × Unit) (fun (p126 : Int × Unit) next59 => match p126 with | (i55, _) => bcase (decide (i55 < ((s0.Warps.length : Nat) : Int))) (((0 ≤ i55 ∧ i55 < ((s0.Warps.length : Nat) : Int)) ∧ (M.spec_WarpOk_pre s0.Code (rd s0.Warps i55) ∧ ∀ r99, r99 = M.spec_WarpOk s0.Code (rd s0.Warps i55) → bcase (!r99) (Q false) (((0 ≤ i55 ∧ i55 < ((s0.Warps.length : Nat) : Int)) ∧ bcase ((rd s0.Warps i55).Number != i55) (Q false) (next59 ((IntKind.wrap .i64 (i55 + 1)), ()))))))) (Q true)) (0, ())))))))))))))

def wp.spec_l30Ok (s0 : D.Block) (x1 : Int) (Q : Bool → Prop) : Prop :=
  (M.spec_BlockOk_pre s0 ∧ ∀ r23, r23 = M.spec_BlockOk s0 → bcase r23 ((∀ r28, r28 = M.spec_l01In x1 0 (IntKind.wrap .i64 (((s0.Warps.length : Nat) : Int) - 1)) → Q r28)) (Q false))

def wp.spec_IsWaiting (s0 : D.Block) (x1 : Int) (Q : Bool → Prop) : Prop :=
  (M.spec_l30Ok_pre s0 x1 ∧ ∀ r23, r23 = M.spec_l30Ok s0 x1 → bcase r23 (((0 ≤ x1) ∧ Q ((bitAnd .i64 (Int.fdiv s0.Waiting (2 ^ (min (x1.toNat) (IntKind.bits .i64)))) 1) == 1))) (Q false))

def wp.impl_isWarpCount (x0 : Int) (Q : Bool → Prop) : Prop :=
  (∀ r21, r21 = M.impl_within x0 1 3 → Q r21)

def wp.impl_isMemory (xs0 : List Int) (Q : Bool → Prop) : Prop :=
  bcase (((xs0.length : Nat) : Int) == 32) ((M.impl_AreWords_pre xs0 ∧ ∀ r21, r21 = M.impl_AreWords xs0 → Q r21)) (Q false)

def wp.impl_areAllRegs (xs0 : List Int) (Q : Bool → Prop) : Prop :=
  Q (((xs0.length : Nat) : Int) == 32)

def wp.impl_areFrames (xs0 : List D.Frame) (x1 : Int) (Q : Bool → Prop) : Prop :=
  LoopP (σ := Int × Unit) (fun (p83 : Int × Unit) next25 => match p83 with | (i21, _) => bcase (decide (i21 < ((xs0.length : Nat) : Int))) (((0 ≤ i21 ∧ i21 < ((xs0.length : Nat) : Int)) ∧ (∀ r36, r36 = M.impl_within ((rd xs0 i21).Pc) 0 x1 → bcase (!r36) (Q false) ((∀ r41, r41 = M.impl_within ((rd xs0 i21).Stop) 0 x1 → bcase (!r41) (Q false) ((∀ r46, r46 = M.impl_IsMask ((rd xs0 i21).Mask) → bcase (!r46) (Q false) (bcase ((rd xs0 i21).Mask == 0) (Q false) (next25 ((IntKind.wrap .i64 (i21 + 1)), ())))))))))) (bcase (((xs0.length : Nat) : Int) == 0) (Q true) (((0 ≤ (IntKind.wrap .i64 (((xs0.length : Nat) : Int) - 1)) ∧ (IntKind.wrap .i64 (((xs0.length : Nat) : Int) - 1)) < ((xs0.length : Nat) : Int)) ∧ bcase (decide (((xs0.length : Nat) : Int) ≤ 24)) (bcase ((rd xs0 (IntKind.wrap .i64 (((xs0.length : Nat) : Int) - 1))).Pc != (rd xs0 (IntKind.wrap .i64 (((xs0.length : Nat) : Int) - 1))).Stop) (bcase ((rd xs0 (IntKind.wrap .i64 (((xs0.length : Nat) : Int) - 1))).Pc != x1) (((0 ≤ (0 : Int) ∧ (0 : Int) < ((xs0.length : Nat) : Int)) ∧ bcase ((rd xs0 0).Stop == x1) (((0 ≤ (0 : Int) ∧ (0 : Int) < ((xs0.length : Nat) : Int)) ∧ Q ((rd xs0 0).Mask == 255))) (Q false))) (Q false)) (Q false)) (Q false))))) (0, ())

def wp.impl_isWarpOf (xs0 : List D.Ins) (s1 : D.Warp) (Q : Bool → Prop) : Prop :=
  (∀ r23, r23 = M.impl_isWarpNumber s1.Number → bcase r23 ((∀ r28, r28 = M.impl_areAllRegs s1.Regs → bcase r28 ((M.impl_AreWords_pre s1.Regs ∧ ∀ r33, r33 = M.impl_AreWords s1.Regs → bcase r33 ((M.impl_areFrames_pre s1.Frames ((xs0.length : Nat) : Int) ∧ ∀ r38, r38 = M.impl_areFrames s1.Frames ((xs0.length : Nat) : Int) → Q r38)) (Q false))) (Q false))) (Q false))

def wp.impl_BlockOk (s0 : D.Block) (Q : Bool → Prop) : Prop :=
  (M.impl_ProgramOk_pre s0.Code ∧ ∀ r29, r29 = M.impl_ProgramOk s0.Code → bcase (!r29) (Q false) ((∀ r34, r34 = M.impl_isWarpCount ((s0.Warps.length : Nat) : Int) → bcase (!r34) (Q false) ((M.impl_isMemory_pre s0.Memory ∧ ∀ r39, r39 = M.impl_isMemory s0.Memory → bcase (!r39) (Q false) (((0 ≤ ((s0.Warps.length : Nat) : Int)) ∧ (∀ r45, r45 = M.impl_within s0.Waiting 0 (IntKind.wrap .i64 ((IntKind.wrap .i64 (1 * 2 ^ (min (((s0.Warps.length : Nat) : Int).toNat) (IntKind.bits .i64)))) - 2)) → bcase (!r45) (Q false) ((∀ r50, r50 = M.impl_within s0.Phase 0 100000 → bcase (!r50) (Q false) (LoopP (σ := Int × Unit) (fun (p92 : Int × Unit) next59 => match p92 with | (i55, _) => bcase (decide (i55 < ((s0.Warps.length : Nat) : Int))) (((0 ≤ i55 ∧ i55 < ((s0.Warps.length : Nat) : Int)) ∧ bcase ((rd s0.Warps i55).Number != i55) (Q false) ((M.impl_isWarpOf_pre s0.Code (rd s0.Warps i55) ∧ ∀ r81, r81 = M.impl_isWarpOf s0.Code (rd s0.Warps i55) → bcase (!r81) (Q false) (next59 ((IntKind.wrap .i64 (i55 + 1)), ())))))) (Q true)) (0, ()))))))))))))

def wp.impl_hasWarp (s0 : D.Block) (x1 : Int) (Q : Bool → Prop) : Prop :=
  (M.impl_BlockOk_pre s0 ∧ ∀ r23, r23 = M.impl_BlockOk s0 → bcase r23 ((∀ r28, r28 = M.impl_within x1 0 (IntKind.wrap .i64 (((s0.Warps.length : Nat) : Int) - 1)) → Q r28)) (Q false))

def wp.impl_Block_waits (s0 : D.Block) (x1 : Int) (Q : Bool → Prop) : Prop :=
  ((0 ≤ x1) ∧ Q ((bitAnd .i64 (Int.fdiv s0.Waiting (2 ^ (min (x1.toNat) (IntKind.bits .i64)))) 1) == 1))

def wp.impl_IsWaiting (s0 : D.Block) (x1 : Int) (Q : Bool → Prop) : Prop :=
  (M.impl_hasWarp_pre s0 x1 ∧ ∀ r23, r23 = M.impl_hasWarp s0 x1 → bcase r23 ((M.impl_Block_waits_pre s0 x1 ∧ ∀ r28, r28 = M.impl_Block_waits s0 x1 → Q r28)) (Q false))

def wp.laws_FnExactBlockOk (s0 : D.Block) (Q : Bool → Prop) : Prop :=
  (M.laws_szBlock_pre s0 1048576 ∧ ∀ r23, r23 = M.laws_szBlock s0 1048576 → bcase (decide (r23 < 0)) (Q true) ((M.laws_toBlock_pre s0 ∧ ∀ r28, r28 = M.laws_toBlock s0 → (M.spec_BlockOk_pre r28 ∧ ∀ r40, r40 = M.spec_BlockOk r28 → (M.laws_toBlock_pre s0 ∧ ∀ r45, r45 = M.laws_toBlock s0 → (M.impl_BlockOk_pre r45 ∧ ∀ r61, r61 = M.impl_BlockOk r45 → bcase (!(r61 == r40)) (Q false) ((M.laws_toBlock_pre s0 ∧ ∀ r67, r67 = M.laws_toBlock s0 → (M.laws_eqBlock_pre r45 r67 ∧ ∀ r79, r79 = M.laws_eqBlock r45 r67 → bcase (!r79) (Q false) (Q true))))))))))

def wp.laws_FnExactIsWaiting (s0 : D.Block) (x1 : Int) (Q : Bool → Prop) : Prop :=
  (M.laws_szBlock_pre s0 1048576 ∧ ∀ r23, r23 = M.laws_szBlock s0 1048576 → bcase (decide (r23 < 0)) (Q true) ((M.laws_toBlock_pre s0 ∧ ∀ r28, r28 = M.laws_toBlock s0 → (M.spec_IsWaiting_pre r28 x1 ∧ ∀ r40, r40 = M.spec_IsWaiting r28 x1 → (M.laws_toBlock_pre s0 ∧ ∀ r45, r45 = M.laws_toBlock s0 → (M.impl_IsWaiting_pre r45 x1 ∧ ∀ r61, r61 = M.impl_IsWaiting r45 x1 → bcase (!(r61 == r40)) (Q false) ((M.laws_toBlock_pre s0 ∧ ∀ r67, r67 = M.laws_toBlock s0 → (M.laws_eqBlock_pre r45 r67 ∧ ∀ r79, r79 = M.laws_eqBlock r45 r67 → bcase (!r79) (Q false) (Q true))))))))))

end Go.V
