import Derived.Test.YtnbkmenlaogblaaPure2
set_option linter.unusedVariables false
namespace Go.V

def wp.laws_szFrameS (xs0 : List D.Frame) (x1 : Int) (Q : Int → Prop) : Prop :=
  bcase (decide ((IntKind.wrap .i64 (x1 - ((xs0.length : Nat) : Int))) < 0)) (Q (-1)) (Q (IntKind.wrap .i64 (x1 - ((xs0.length : Nat) : Int))))

def wp.laws_szWarp (s0 : D.Warp) (x1 : Int) (Q : Int → Prop) : Prop :=
  (M.laws_szFrameS_pre s0.Frames x1 ∧ ∀ r23, r23 = M.laws_szFrameS s0.Frames x1 → bcase (decide (r23 < 0)) (Q (-1)) ((M.laws_szIntS_pre s0.Regs r23 ∧ ∀ r28, r28 = M.laws_szIntS s0.Regs r23 → bcase (decide (r28 < 0)) (Q (-1)) (Q r28))))

def wp.laws_szWarpS (xs0 : List D.Warp) (x1 : Int) (Q : Int → Prop) : Prop :=
  bcase (decide ((IntKind.wrap .i64 (x1 - ((xs0.length : Nat) : Int))) < 0)) (Q (-1)) (LoopP (σ := Int × Int × Unit) (fun (p54 : Int × Int × Unit) next26 => match p54 with | (i21, i22, _) => bcase (decide (i22 < ((xs0.length : Nat) : Int))) (((0 ≤ i22 ∧ i22 < ((xs0.length : Nat) : Int)) ∧ (M.laws_szWarp_pre (rd xs0 i22) i21 ∧ ∀ r44, r44 = M.laws_szWarp (rd xs0 i22) i21 → bcase (decide (r44 < 0)) (Q (-1)) (next26 (r44, (IntKind.wrap .i64 (i22 + 1)), ()))))) (Q i21)) ((IntKind.wrap .i64 (x1 - ((xs0.length : Nat) : Int))), 0, ()))

def wp.laws_szBlock (s0 : D.Block) (x1 : Int) (Q : Int → Prop) : Prop :=
  (M.laws_szInsS_pre s0.Code x1 ∧ ∀ r23, r23 = M.laws_szInsS s0.Code x1 → bcase (decide (r23 < 0)) (Q (-1)) ((M.laws_szWarpS_pre s0.Warps r23 ∧ ∀ r28, r28 = M.laws_szWarpS s0.Warps r23 → bcase (decide (r28 < 0)) (Q (-1)) ((M.laws_szIntS_pre s0.Memory r28 ∧ ∀ r33, r33 = M.laws_szIntS s0.Memory r28 → bcase (decide (r33 < 0)) (Q (-1)) (Q r33))))))

def wp.laws_toFrame (s0 : D.Frame) (Q : D.Frame → Prop) : Prop :=
  Q (⟨s0.Pc, s0.Stop, s0.Mask⟩ : D.Frame)

def wp.laws_toFrameS (xs0 : List D.Frame) (Q : (List D.Frame) → Prop) : Prop :=
  ((0 ≤ ((xs0.length : Nat) : Int) ∧ ((xs0.length : Nat) : Int) ≤ 17179869184) ∧ LoopP (σ := Int × (List D.Frame) × Unit) (fun (p80 : Int × (List D.Frame) × Unit) next56 => match p80 with | (i50, xs51, _) => bcase (decide (i50 < ((xs0.length : Nat) : Int))) (((0 ≤ i50 ∧ i50 < ((xs0.length : Nat) : Int)) ∧ (∀ r63, r63 = M.laws_toFrame (rd xs0 i50) → ((0 ≤ i50 ∧ i50 < ((xs51.length : Nat) : Int)) ∧ next56 ((IntKind.wrap .i64 (i50 + 1)), (List.set xs51 (i50.toNat) (⟨r63.Pc, r63.Stop, r63.Mask⟩ : D.Frame)), ()))))) (Q xs51)) (0, (List.replicate (((xs0.length : Nat) : Int).toNat) (default : D.Frame)), ()))

def wp.laws_toWarp (s0 : D.Warp) (Q : D.Warp → Prop) : Prop :=
  (M.laws_toFrameS_pre s0.Frames ∧ ∀ r29, r29 = M.laws_toFrameS s0.Frames → (M.laws_toIntS_pre s0.Regs ∧ ∀ r38, r38 = M.laws_toIntS s0.Regs → Q (⟨s0.Number, r29, r38⟩ : D.Warp)))

def wp.laws_toWarpS (xs0 : List D.Warp) (Q : (List D.Warp) → Prop) : Prop :=
  ((0 ≤ ((xs0.length : Nat) : Int) ∧ ((xs0.length : Nat) : Int) ≤ 17179869184) ∧ LoopP (σ := Int × (List D.Warp) × Unit) (fun (p111 : Int × (List D.Warp) × Unit) next72 => match p111 with | (i65, xs66, _) => bcase (decide (i65 < ((xs0.length : Nat) : Int))) (((0 ≤ i65 ∧ i65 < ((xs0.length : Nat) : Int)) ∧ (M.laws_toWarp_pre (rd xs0 i65) ∧ ∀ r90, r90 = M.laws_toWarp (rd xs0 i65) → ((0 ≤ i65 ∧ i65 < ((xs66.length : Nat) : Int)) ∧ next72 ((IntKind.wrap .i64 (i65 + 1)), (List.set xs66 (i65.toNat) r90), ()))))) (Q xs66)) (0, (List.replicate (((xs0.length : Nat) : Int).toNat) (default : D.Warp)), ()))

def wp.laws_toBlock (s0 : D.Block) (Q : D.Block → Prop) : Prop :=
  (M.laws_toInsS_pre s0.Code ∧ ∀ r27, r27 = M.laws_toInsS s0.Code → (M.laws_toWarpS_pre s0.Warps ∧ ∀ r36, r36 = M.laws_toWarpS s0.Warps → (M.laws_toIntS_pre s0.Memory ∧ ∀ r46, r46 = M.laws_toIntS s0.Memory → Q (⟨r27, r36, r46, s0.Waiting, s0.Phase⟩ : D.Block))))

def wp.laws_eqFrame (s0 : D.Frame) (s1 : D.Frame) (Q : Bool → Prop) : Prop :=
  bcase (s0.Pc != s1.Pc) (Q false) (bcase (s0.Stop != s1.Stop) (Q false) (bcase (s0.Mask != s1.Mask) (Q false) (Q true)))

def wp.laws_eqFrameS (xs0 : List D.Frame) (xs1 : List D.Frame) (Q : Bool → Prop) : Prop :=
  bcase (((xs0.length : Nat) : Int) != ((xs1.length : Nat) : Int)) (Q false) (LoopP (σ := Int × Unit) (fun (p48 : Int × Unit) next25 => match p48 with | (i21, _) => bcase (decide (i21 < ((xs0.length : Nat) : Int))) (((0 ≤ i21 ∧ i21 < ((xs0.length : Nat) : Int)) ∧ ((0 ≤ i21 ∧ i21 < ((xs1.length : Nat) : Int)) ∧ (∀ r38, r38 = M.laws_eqFrame (rd xs0 i21) (rd xs1 i21) → bcase (!r38) (Q false) (next25 ((IntKind.wrap .i64 (i21 + 1)), ())))))) (Q true)) (0, ()))

def wp.laws_eqWarp (s0 : D.Warp) (s1 : D.Warp) (Q : Bool → Prop) : Prop :=
  bcase (s0.Number != s1.Number) (Q false) ((M.laws_eqFrameS_pre s0.Frames s1.Frames ∧ ∀ r25, r25 = M.laws_eqFrameS s0.Frames s1.Frames → bcase (!r25) (Q false) ((M.laws_eqIntS_pre s0.Regs s1.Regs ∧ ∀ r30, r30 = M.laws_eqIntS s0.Regs s1.Regs → bcase (!r30) (Q false) (Q true)))))

def wp.laws_eqWarpS (xs0 : List D.Warp) (xs1 : List D.Warp) (Q : Bool → Prop) : Prop :=
  bcase (((xs0.length : Nat) : Int) != ((xs1.length : Nat) : Int)) (Q false) (LoopP (σ := Int × Unit) (fun (p70 : Int × Unit) next25 => match p70 with | (i21, _) => bcase (decide (i21 < ((xs0.length : Nat) : Int))) (((0 ≤ i21 ∧ i21 < ((xs0.length : Nat) : Int)) ∧ ((0 ≤ i21 ∧ i21 < ((xs1.length : Nat) : Int)) ∧ (M.laws_eqWarp_pre (rd xs0 i21) (rd xs1 i21) ∧ ∀ r60, r60 = M.laws_eqWarp (rd xs0 i21) (rd xs1 i21) → bcase (!r60) (Q false) (next25 ((IntKind.wrap .i64 (i21 + 1)), ())))))) (Q true)) (0, ()))

def wp.laws_eqBlock (s0 : D.Block) (s1 : D.Block) (Q : Bool → Prop) : Prop :=
  (M.laws_eqInsS_pre s0.Code s1.Code ∧ ∀ r25, r25 = M.laws_eqInsS s0.Code s1.Code → bcase (!r25) (Q false) ((M.laws_eqWarpS_pre s0.Warps s1.Warps ∧ ∀ r30, r30 = M.laws_eqWarpS s0.Warps s1.Warps → bcase (!r30) (Q false) ((M.laws_eqIntS_pre s0.Memory s1.Memory ∧ ∀ r35, r35 = M.laws_eqIntS s0.Memory s1.Memory → bcase (!r35) (Q false) (bcase (s0.Waiting != s1.Waiting) (Q false) (bcase (s0.Phase != s1.Phase) (Q false) (Q true))))))))

end Go.V
