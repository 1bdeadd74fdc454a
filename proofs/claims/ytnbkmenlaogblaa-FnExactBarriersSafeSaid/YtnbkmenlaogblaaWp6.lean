import Derived.Test.YtnbkmenlaogblaaPure
set_option linter.unusedVariables false
namespace Go.V

def wp.spec_l15Alone (xs0 : List D.Ins) (x1 : Int) (Q : ((List Int) × Bool) → Prop) : Prop :=
  (∀ r24, r24 = M.spec_l01In x1 0 2 → bcase (!r24) (Q (([] : List Int), false)) (LoopP (σ := (List Int) × Int × Unit) (fun (p59 : (List Int) × Int × Unit) next36 => match p59 with | (xs29, i32, _) => bcase (decide (i32 < 8)) ((M.spec_StepsAlone_pre xs0 (IntKind.wrap .i64 ((IntKind.wrap .i64 (x1 * 8)) + i32)) ∧ ∀ r38, r38 = M.spec_StepsAlone xs0 (IntKind.wrap .i64 ((IntKind.wrap .i64 (x1 * 8)) + i32)) → bcase (decide (r38 < 0)) (Q (([] : List Int), false)) (((xs29.length + ([r38] : List Int).length ≤ 17179869184) ∧ next36 ((xs29 ++ ([r38] : List Int)), (IntKind.wrap .i64 (i32 + 1)), ()))))) (Q (xs29, true))) (([] : List Int), 0, ())))

def wp.spec_SumAlone (xs0 : List D.Ins) (x1 : Int) (Q : Int → Prop) : Prop :=
  (M.spec_l15Alone_pre xs0 x1 ∧ ∀ r21, r21 = M.spec_l15Alone xs0 x1 → bcase (!r21.2) (Q (-1)) (LoopP (σ := Int × Int × Unit) (fun (p44 : Int × Int × Unit) next33 => match p44 with | (i28, i29, _) => bcase (decide (i29 < ((r21.1.length : Nat) : Int))) (((0 ≤ i29 ∧ i29 < ((r21.1.length : Nat) : Int)) ∧ next33 ((IntKind.wrap .i64 (i28 + (rd r21.1 i29))), (IntKind.wrap .i64 (i29 + 1)), ()))) (Q i28)) (0, 0, ())))

def wp.impl_isWarpNumber (x0 : Int) (Q : Bool → Prop) : Prop :=
  (∀ r21, r21 = M.impl_within x0 0 2 → Q r21)

def wp.slices_Index_int_int (xs0 : List Int) (x1 : Int) (Q : Int → Prop) : Prop :=
  LoopP (σ := Int × Unit) (fun (p37 : Int × Unit) next25 => match p37 with | (i21, _) => bcase (decide (i21 < ((xs0.length : Nat) : Int))) (((0 ≤ i21 ∧ i21 < ((xs0.length : Nat) : Int)) ∧ bcase (x1 == (rd xs0 i21)) (Q i21) (next25 ((IntKind.wrap .i64 (i21 + 1)), ())))) (Q (-1))) (0, ())

def wp.slices_Contains_int_int (xs0 : List Int) (x1 : Int) (Q : Bool → Prop) : Prop :=
  (M.slices_Index_int_int_pre xs0 x1 ∧ ∀ r21, r21 = M.slices_Index_int_int xs0 x1 → Q (decide (r21 ≥ 0)))

def wp.impl_stepsOf (xs0 : List D.Ins) (x1 : Int) (Q : ((List Int) × Bool) → Prop) : Prop :=
  (∀ r21, r21 = M.impl_isWarpNumber x1 → bcase (!r21) (Q (([] : List Int), false)) (LoopP (σ := (List Int) × Int × Unit) (fun (p60 : (List Int) × Int × Unit) next36 => match p60 with | (xs29, i32, _) => bcase (decide (i32 < 8)) ((M.impl_StepsAlone_pre xs0 (IntKind.wrap .i64 ((IntKind.wrap .i64 (x1 * 8)) + i32)) ∧ ∀ r38, r38 = M.impl_StepsAlone xs0 (IntKind.wrap .i64 ((IntKind.wrap .i64 (x1 * 8)) + i32)) → ((xs29.length + ([r38] : List Int).length ≤ 17179869184) ∧ next36 ((xs29 ++ ([r38] : List Int)), (IntKind.wrap .i64 (i32 + 1)), ())))) ((M.slices_Contains_int_int_pre xs29 (-1) ∧ ∀ r54, r54 = M.slices_Contains_int_int xs29 (-1) → Q (xs29, (!r54))))) (([] : List Int), 0, ())))

def wp.impl_SumAlone (xs0 : List D.Ins) (x1 : Int) (Q : Int → Prop) : Prop :=
  (M.impl_stepsOf_pre xs0 x1 ∧ ∀ r21, r21 = M.impl_stepsOf xs0 x1 → bcase (!r21.2) (Q (-1)) (LoopP (σ := Int × Int × Unit) (fun (p44 : Int × Int × Unit) next33 => match p44 with | (i28, i29, _) => bcase (decide (i29 < ((r21.1.length : Nat) : Int))) (((0 ≤ i29 ∧ i29 < ((r21.1.length : Nat) : Int)) ∧ next33 ((IntKind.wrap .i64 (i28 + (rd r21.1 i29))), (IntKind.wrap .i64 (i29 + 1)), ()))) (Q i28)) (0, 0, ())))

def wp.laws_FnExactSumAlone (xs0 : List D.Ins) (x1 : Int) (Q : Bool → Prop) : Prop :=
  (M.laws_szInsS_pre xs0 1048576 ∧ ∀ r21, r21 = M.laws_szInsS xs0 1048576 → bcase (decide (r21 < 0)) (Q true) ((M.laws_toInsS_pre xs0 ∧ ∀ r26, r26 = M.laws_toInsS xs0 → (M.spec_SumAlone_pre r26 x1 ∧ ∀ r33, r33 = M.spec_SumAlone r26 x1 → (M.laws_toInsS_pre xs0 ∧ ∀ r38, r38 = M.laws_toInsS xs0 → (M.impl_SumAlone_pre r38 x1 ∧ ∀ r45, r45 = M.impl_SumAlone r38 x1 → bcase (r45 != r33) (Q false) ((M.laws_toInsS_pre xs0 ∧ ∀ r50, r50 = M.laws_toInsS xs0 → (M.laws_eqInsS_pre r38 r50 ∧ ∀ r57, r57 = M.laws_eqInsS r38 r50 → bcase (!r57) (Q false) (Q true))))))))))

def wp.spec_MostAlone (xs0 : List D.Ins) (x1 : Int) (Q : Int → Prop) : Prop :=
  (M.spec_l15Alone_pre xs0 x1 ∧ ∀ r21, r21 = M.spec_l15Alone xs0 x1 → bcase (!r21.2) (Q (-1)) (LoopP (σ := Int × Int × Unit) (fun (p44 : Int × Int × Unit) next33 => match p44 with | (i28, i29, _) => bcase (decide (i29 < ((r21.1.length : Nat) : Int))) (((0 ≤ i29 ∧ i29 < ((r21.1.length : Nat) : Int)) ∧ next33 ((if (rd r21.1 i29) > i28 then (rd r21.1 i29) else i28), (IntKind.wrap .i64 (i29 + 1)), ()))) (Q i28)) (0, 0, ())))

def wp.slices_Max_int_int (xs0 : List Int) (Q : Int → Prop) : Prop :=
  bcase (decide (((xs0.length : Nat) : Int) < 1)) (False) (((0 ≤ (0 : Int) ∧ (0 : Int) < ((xs0.length : Nat) : Int)) ∧ LoopP (σ := Int × Int × Unit) (fun (p42 : Int × Int × Unit) next31 => match p42 with | (i26, i27, _) => bcase (decide (i27 < ((xs0.length : Nat) : Int))) (((0 ≤ i27 ∧ i27 < ((xs0.length : Nat) : Int)) ∧ next31 ((if (rd xs0 i27) > i26 then (rd xs0 i27) else i26), (IntKind.wrap .i64 (i27 + 1)), ()))) (Q i26)) ((rd xs0 0), 1, ())))

def wp.impl_MostAlone (xs0 : List D.Ins) (x1 : Int) (Q : Int → Prop) : Prop :=
  (M.impl_stepsOf_pre xs0 x1 ∧ ∀ r21, r21 = M.impl_stepsOf xs0 x1 → bcase (!r21.2) (Q (-1)) ((M.slices_Max_int_int_pre r21.1 ∧ ∀ r28, r28 = M.slices_Max_int_int r21.1 → Q r28)))

def wp.laws_FnExactMostAlone (xs0 : List D.Ins) (x1 : Int) (Q : Bool → Prop) : Prop :=
  (M.laws_szInsS_pre xs0 1048576 ∧ ∀ r21, r21 = M.laws_szInsS xs0 1048576 → bcase (decide (r21 < 0)) (Q true) ((M.laws_toInsS_pre xs0 ∧ ∀ r26, r26 = M.laws_toInsS xs0 → (M.spec_MostAlone_pre r26 x1 ∧ ∀ r33, r33 = M.spec_MostAlone r26 x1 → (M.laws_toInsS_pre xs0 ∧ ∀ r38, r38 = M.laws_toInsS xs0 → (M.impl_MostAlone_pre r38 x1 ∧ ∀ r45, r45 = M.impl_MostAlone r38 x1 → bcase (r45 != r33) (Q false) ((M.laws_toInsS_pre xs0 ∧ ∀ r50, r50 = M.laws_toInsS xs0 → (M.laws_eqInsS_pre r38 r50 ∧ ∀ r57, r57 = M.laws_eqInsS r38 r50 → bcase (!r57) (Q false) (Q true))))))))))

end Go.V
