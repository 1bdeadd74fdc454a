import Derived.Test.YtnbkmenlaogblaaPure2
set_option linter.unusedVariables false
namespace Go.V

def wp.spec_l29Ended (s0 : D.Block) (Q : Bool → Prop) : Prop :=
  LoopP (σ := Int × Unit) (fun (p50 : Int × Unit) next27 => match p50 with | (i23, _) => bcase (decide (i23 < ((s0.Warps.length : Nat) : Int))) (((0 ≤ i23 ∧ i23 < ((s0.Warps.length : Nat) : Int)) ∧ bcase (decide ((((rd s0.Warps i23).Frames.length : Nat) : Int) > 0)) (Q false) (next27 ((IntKind.wrap .i64 (i23 + 1)), ())))) (Q true)) (0, ())

def wp.spec_BlockEnded (s0 : D.Block) (Q : Bool → Prop) : Prop :=
  (M.spec_BlockOk_pre s0 ∧ ∀ r23, r23 = M.spec_BlockOk s0 → bcase r23 ((M.spec_l29Ended_pre s0 ∧ ∀ r28, r28 = M.spec_l29Ended s0 → Q r28)) (Q false))

def wp.slices_IndexFunc_impl_Warp_impl_Warp (xs0 : List D.Warp) (g1 : D.Warp → Bool) (D1 : D.Warp → Prop) (Q : Int → Prop) : Prop :=
  LoopP (σ := Int × Unit) (fun (p53 : Int × Unit) next25 => match p53 with | (i21, _) => bcase (decide (i21 < ((xs0.length : Nat) : Int))) (((0 ≤ i21 ∧ i21 < ((xs0.length : Nat) : Int)) ∧ (D1 (rd xs0 i21) ∧ ∀ r43, r43 = g1 (rd xs0 i21) → bcase r43 (Q i21) (next25 ((IntKind.wrap .i64 (i21 + 1)), ()))))) (Q (-1))) (0, ())

def wp.slices_ContainsFunc_impl_Warp_impl_Warp (xs0 : List D.Warp) (g1 : D.Warp → Bool) (D1 : D.Warp → Prop) (Q : Bool → Prop) : Prop :=
  (M.slices_IndexFunc_impl_Warp_impl_Warp_pre xs0 g1 D1 ∧ ∀ r21, r21 = M.slices_IndexFunc_impl_Warp_impl_Warp xs0 g1 → Q (decide (r21 ≥ 0)))

def wp.impl_Block_ended_1 (s0 : D.Warp) (Q : Bool → Prop) : Prop :=
  Q (decide (((s0.Frames.length : Nat) : Int) > 0))

def wp.impl_Block_ended (s0 : D.Block) (Q : Bool → Prop) : Prop :=
  (M.slices_ContainsFunc_impl_Warp_impl_Warp_pre s0.Warps (fun z0_ => M.impl_Block_ended_1 z0_) (fun z0_ => M.impl_Block_ended_1_pre z0_) ∧ ∀ r23, r23 = M.slices_ContainsFunc_impl_Warp_impl_Warp s0.Warps (fun z0_ => M.impl_Block_ended_1 z0_) → Q (!r23))

def wp.impl_BlockEnded (s0 : D.Block) (Q : Bool → Prop) : Prop :=
  (M.impl_BlockOk_pre s0 ∧ ∀ r23, r23 = M.impl_BlockOk s0 → bcase r23 ((M.impl_Block_ended_pre s0 ∧ ∀ r28, r28 = M.impl_Block_ended s0 → Q r28)) (Q false))

def wp.laws_FnExactBlockEnded (s0 : D.Block) (Q : Bool → Prop) : Prop :=
  (M.laws_szBlock_pre s0 1048576 ∧ ∀ r23, r23 = M.laws_szBlock s0 1048576 → bcase (decide (r23 < 0)) (Q true) ((M.laws_toBlock_pre s0 ∧ ∀ r28, r28 = M.laws_toBlock s0 → (M.spec_BlockEnded_pre r28 ∧ ∀ r40, r40 = M.spec_BlockEnded r28 → (M.laws_toBlock_pre s0 ∧ ∀ r45, r45 = M.laws_toBlock s0 → (M.impl_BlockEnded_pre r45 ∧ ∀ r61, r61 = M.impl_BlockEnded r45 → bcase (!(r61 == r40)) (Q false) ((M.laws_toBlock_pre s0 ∧ ∀ r67, r67 = M.laws_toBlock s0 → (M.laws_eqBlock_pre r45 r67 ∧ ∀ r79, r79 = M.laws_eqBlock r45 r67 → bcase (!r79) (Q false) (Q true))))))))))

def wp.spec_l30Next (s0 : D.Block) (x1 : Int) (Q : D.Ins → Prop) : Prop :=
  ((0 ≤ x1 ∧ x1 < ((s0.Warps.length : Nat) : Int)) ∧ ((0 ≤ (IntKind.wrap .i64 ((((rd s0.Warps x1).Frames.length : Nat) : Int) - 1)) ∧ (IntKind.wrap .i64 ((((rd s0.Warps x1).Frames.length : Nat) : Int) - 1)) < ((((rd s0.Warps x1).Frames).length : Nat) : Int)) ∧ ((0 ≤ (rd ((rd s0.Warps x1).Frames) (IntKind.wrap .i64 ((((rd s0.Warps x1).Frames.length : Nat) : Int) - 1))).Pc ∧ (rd ((rd s0.Warps x1).Frames) (IntKind.wrap .i64 ((((rd s0.Warps x1).Frames.length : Nat) : Int) - 1))).Pc < ((s0.Code.length : Nat) : Int)) ∧ Q (⟨(rd s0.Code ((rd ((rd s0.Warps x1).Frames) (IntKind.wrap .i64 ((((rd s0.Warps x1).Frames.length : Nat) : Int) - 1))).Pc)).Op, (rd s0.Code ((rd ((rd s0.Warps x1).Frames) (IntKind.wrap .i64 ((((rd s0.Warps x1).Frames.length : Nat) : Int) - 1))).Pc)).A, (rd s0.Code ((rd ((rd s0.Warps x1).Frames) (IntKind.wrap .i64 ((((rd s0.Warps x1).Frames.length : Nat) : Int) - 1))).Pc)).B, (rd s0.Code ((rd ((rd s0.Warps x1).Frames) (IntKind.wrap .i64 ((((rd s0.Warps x1).Frames.length : Nat) : Int) - 1))).Pc)).C⟩ : D.Ins))))

def wp.spec_NextOp (s0 : D.Block) (x1 : Int) (Q : Int → Prop) : Prop :=
  (M.spec_l30Ok_pre s0 x1 ∧ ∀ r23, r23 = M.spec_l30Ok s0 x1 → bcase (!r23) (Q (-1)) (((0 ≤ x1 ∧ x1 < ((s0.Warps.length : Nat) : Int)) ∧ bcase ((((rd s0.Warps x1).Frames.length : Nat) : Int) == 0) (Q (-1)) ((M.spec_l30Next_pre s0 x1 ∧ ∀ r44, r44 = M.spec_l30Next s0 x1 → Q r44.Op)))))

def wp.impl_Block_nextIns (s0 : D.Block) (x1 : Int) (Q : (D.Ins × Bool) → Prop) : Prop :=
  ((0 ≤ x1 ∧ x1 < ((s0.Warps.length : Nat) : Int)) ∧ bcase ((((rd s0.Warps x1).Frames.length : Nat) : Int) == 0) (Q ((⟨0, 0, 0, 0⟩ : D.Ins), false)) (((0 ≤ (IntKind.wrap .i64 ((((rd s0.Warps x1).Frames.length : Nat) : Int) - 1)) ∧ (IntKind.wrap .i64 ((((rd s0.Warps x1).Frames.length : Nat) : Int) - 1)) < ((((rd s0.Warps x1).Frames).length : Nat) : Int)) ∧ ((0 ≤ (rd ((rd s0.Warps x1).Frames) (IntKind.wrap .i64 ((((rd s0.Warps x1).Frames.length : Nat) : Int) - 1))).Pc ∧ (rd ((rd s0.Warps x1).Frames) (IntKind.wrap .i64 ((((rd s0.Warps x1).Frames.length : Nat) : Int) - 1))).Pc < ((s0.Code.length : Nat) : Int)) ∧ Q ((⟨(rd s0.Code ((rd ((rd s0.Warps x1).Frames) (IntKind.wrap .i64 ((((rd s0.Warps x1).Frames.length : Nat) : Int) - 1))).Pc)).Op, (rd s0.Code ((rd ((rd s0.Warps x1).Frames) (IntKind.wrap .i64 ((((rd s0.Warps x1).Frames.length : Nat) : Int) - 1))).Pc)).A, (rd s0.Code ((rd ((rd s0.Warps x1).Frames) (IntKind.wrap .i64 ((((rd s0.Warps x1).Frames.length : Nat) : Int) - 1))).Pc)).B, (rd s0.Code ((rd ((rd s0.Warps x1).Frames) (IntKind.wrap .i64 ((((rd s0.Warps x1).Frames.length : Nat) : Int) - 1))).Pc)).C⟩ : D.Ins), true)))))

def wp.impl_NextOp (s0 : D.Block) (x1 : Int) (Q : Int → Prop) : Prop :=
  (M.impl_hasWarp_pre s0 x1 ∧ ∀ r23, r23 = M.impl_hasWarp s0 x1 → bcase (!r23) (Q (-1)) ((M.impl_Block_nextIns_pre s0 x1 ∧ ∀ r28, r28 = M.impl_Block_nextIns s0 x1 → bcase (!r28.2) (Q (-1)) (Q r28.1.Op))))

def wp.laws_FnExactNextOp (s0 : D.Block) (x1 : Int) (Q : Bool → Prop) : Prop :=
  (M.laws_szBlock_pre s0 1048576 ∧ ∀ r23, r23 = M.laws_szBlock s0 1048576 → bcase (decide (r23 < 0)) (Q true) ((M.laws_toBlock_pre s0 ∧ ∀ r28, r28 = M.laws_toBlock s0 → (M.spec_NextOp_pre r28 x1 ∧ ∀ r40, r40 = M.spec_NextOp r28 x1 → (M.laws_toBlock_pre s0 ∧ ∀ r45, r45 = M.laws_toBlock s0 → (M.impl_NextOp_pre r45 x1 ∧ ∀ r61, r61 = M.impl_NextOp r45 x1 → bcase (r61 != r40) (Q false) ((M.laws_toBlock_pre s0 ∧ ∀ r67, r67 = M.laws_toBlock s0 → (M.laws_eqBlock_pre r45 r67 ∧ ∀ r79, r79 = M.laws_eqBlock r45 r67 → bcase (!r79) (Q false) (Q true))))))))))

def wp.spec_AtBarrier (s0 : D.Block) (x1 : Int) (Q : Bool → Prop) : Prop :=
  (M.spec_NextOp_pre s0 x1 ∧ ∀ r23, r23 = M.spec_NextOp s0 x1 → Q (r23 == 16))

def wp.impl_AtBarrier (s0 : D.Block) (x1 : Int) (Q : Bool → Prop) : Prop :=
  (M.impl_NextOp_pre s0 x1 ∧ ∀ r23, r23 = M.impl_NextOp s0 x1 → Q (r23 == 16))

def wp.laws_FnExactAtBarrier (s0 : D.Block) (x1 : Int) (Q : Bool → Prop) : Prop :=
  (M.laws_szBlock_pre s0 1048576 ∧ ∀ r23, r23 = M.laws_szBlock s0 1048576 → bcase (decide (r23 < 0)) (Q true) ((M.laws_toBlock_pre s0 ∧ ∀ r28, r28 = M.laws_toBlock s0 → (M.spec_AtBarrier_pre r28 x1 ∧ ∀ r40, r40 = M.spec_AtBarrier r28 x1 → (M.laws_toBlock_pre s0 ∧ ∀ r45, r45 = M.laws_toBlock s0 → (M.impl_AtBarrier_pre r45 x1 ∧ ∀ r61, r61 = M.impl_AtBarrier r45 x1 → bcase (!(r61 == r40)) (Q false) ((M.laws_toBlock_pre s0 ∧ ∀ r67, r67 = M.laws_toBlock s0 → (M.laws_eqBlock_pre r45 r67 ∧ ∀ r79, r79 = M.laws_eqBlock r45 r67 → bcase (!r79) (Q false) (Q true))))))))))

def wp.spec_IsSplitBarrier (s0 : D.Block) (x1 : Int) (Q : Bool → Prop) : Prop :=
  (M.spec_AtBarrier_pre s0 x1 ∧ ∀ r23, r23 = M.spec_AtBarrier s0 x1 → bcase r23 (((0 ≤ x1 ∧ x1 < ((s0.Warps.length : Nat) : Int)) ∧ Q (decide ((((rd s0.Warps x1).Frames.length : Nat) : Int) > 1)))) (Q false))

def wp.impl_IsSplitBarrier (s0 : D.Block) (x1 : Int) (Q : Bool → Prop) : Prop :=
  (M.impl_AtBarrier_pre s0 x1 ∧ ∀ r23, r23 = M.impl_AtBarrier s0 x1 → bcase r23 (((0 ≤ x1 ∧ x1 < ((s0.Warps.length : Nat) : Int)) ∧ Q (decide ((((rd s0.Warps x1).Frames.length : Nat) : Int) > 1)))) (Q false))

def wp.laws_FnExactIsSplitBarrier (s0 : D.Block) (x1 : Int) (Q : Bool → Prop) : Prop :=
  (M.laws_szBlock_pre s0 1048576 ∧ ∀ r23, r23 = M.laws_szBlock s0 1048576 → bcase (decide (r23 < 0)) (Q true) ((M.laws_toBlock_pre s0 ∧ ∀ r28, r28 = M.laws_toBlock s0 → (M.spec_IsSplitBarrier_pre r28 x1 ∧ ∀ r40, r40 = M.spec_IsSplitBarrier r28 x1 → (M.laws_toBlock_pre s0 ∧ ∀ r45, r45 = M.laws_toBlock s0 → (M.impl_IsSplitBarrier_pre r45 x1 ∧ ∀ r61, r61 = M.impl_IsSplitBarrier r45 x1 → bcase (!(r61 == r40)) (Q false) ((M.laws_toBlock_pre s0 ∧ ∀ r67, r67 = M.laws_toBlock s0 → (M.laws_eqBlock_pre r45 r67 ∧ ∀ r79, r79 = M.laws_eqBlock r45 r67 → bcase (!r79) (Q false) (Q true))))))))))

end Go.V
