import Derived.Test.YtnbkmenlaogblaaPure
set_option linter.unusedVariables false
namespace Go.V

def wp.spec_ValuesOk (xs0 : List Int) (Q : Bool → Prop) : Prop :=
  bcase (((xs0.length : Nat) : Int) == 8) ((M.spec_AreWords_pre xs0 ∧ ∀ r21, r21 = M.spec_AreWords xs0 → Q r21)) (Q false)

def wp.spec_MaskOf (xs0 : List Int) (Q : (Int × Bool) → Prop) : Prop :=
  LoopP (σ := Int × Int × Unit) (fun (p49 : Int × Int × Unit) next26 => match p49 with | (i21, i22, _) => bcase (decide (i22 < ((xs0.length : Nat) : Int))) (((0 ≤ i22 ∧ i22 < ((xs0.length : Nat) : Int)) ∧ (∀ r33, r33 = M.spec_l01In (rd xs0 i22) 0 7 → bcase (!r33) (Q (0, false)) (((0 ≤ i22 ∧ i22 < ((xs0.length : Nat) : Int)) ∧ ((0 ≤ (rd xs0 i22)) ∧ next26 ((bitOr .i64 i21 (IntKind.wrap .i64 (1 * 2 ^ (min ((rd xs0 i22).toNat) (IntKind.bits .i64))))), (IntKind.wrap .i64 (i22 + 1)), ()))))))) (Q (i21, true))) (0, 0, ())

def wp.spec_IsPermutation (xs0 : List Int) (Q : Bool → Prop) : Prop :=
  (M.spec_MaskOf_pre xs0 ∧ ∀ r21, r21 = M.spec_MaskOf xs0 → bcase r21.2 (bcase (((xs0.length : Nat) : Int) == 8) (Q (r21.1 == 255)) (Q false)) (Q false))

def wp.spec_WrapWord (x0 : Int) (Q : Int → Prop) : Prop :=
  Q (Int.tmod (IntKind.wrap .i64 ((Int.tmod x0 65536) + 65536)) 65536)

def wp.spec_AddWords (x0 : Int) (x1 : Int) (Q : Int → Prop) : Prop :=
  (∀ r21, r21 = M.spec_IsWord x0 → bcase (!r21) (Q 0) ((∀ r26, r26 = M.spec_IsWord x1 → bcase (!r26) (Q 0) ((∀ r31, r31 = M.spec_WrapWord (IntKind.wrap .i64 (x0 + x1)) → Q r31)))))

def wp.spec_AddInOrder (x0 : Int) (xs1 : List Int) (xs2 : List Int) (Q : ((List Int) × Int × Bool) → Prop) : Prop :=
  (∀ r21, r21 = M.spec_IsWord x0 → bcase (!r21) (Q (([] : List Int), 0, false)) ((∀ r29, r29 = M.spec_ValuesOk xs1 → bcase (!r29) (Q (([] : List Int), 0, false)) ((M.spec_IsPermutation_pre xs2 ∧ ∀ r37, r37 = M.spec_IsPermutation xs2 → bcase (!r37) (Q (([] : List Int), 0, false)) (((0 ≤ (8 : Int) ∧ (8 : Int) ≤ 17179869184) ∧ LoopP (σ := Int × Int × (List Int) × Unit) (fun (p126 : Int × Int × (List Int) × Unit) next92 => match p126 with | (i85, i86, xs87, _) => bcase (decide (i86 < 8)) (((0 ≤ i86 ∧ i86 < ((xs2.length : Nat) : Int)) ∧ ((0 ≤ (rd xs2 i86) ∧ (rd xs2 i86) < ((xs87.length : Nat) : Int)) ∧ ((0 ≤ i86 ∧ i86 < ((xs2.length : Nat) : Int)) ∧ ((0 ≤ (rd xs2 i86) ∧ (rd xs2 i86) < ((xs1.length : Nat) : Int)) ∧ (∀ r117, r117 = M.spec_AddWords i85 (rd xs1 (rd xs2 i86)) → next92 (r117, (IntKind.wrap .i64 (i86 + 1)), (List.set xs87 ((rd xs2 i86).toNat) i85), ()))))))) (Q (xs87, i85, true))) (x0, 0, (List.replicate ((8 : Int).toNat) (default : Int)), ()))))))))

def wp.slices_IndexFunc_int_int (xs0 : List Int) (g1 : Int → Bool) (D1 : Int → Prop) (Q : Int → Prop) : Prop :=
  LoopP (σ := Int × Unit) (fun (p42 : Int × Unit) next25 => match p42 with | (i21, _) => bcase (decide (i21 < ((xs0.length : Nat) : Int))) (((0 ≤ i21 ∧ i21 < ((xs0.length : Nat) : Int)) ∧ (D1 (rd xs0 i21) ∧ ∀ r32, r32 = g1 (rd xs0 i21) → bcase r32 (Q i21) (next25 ((IntKind.wrap .i64 (i21 + 1)), ()))))) (Q (-1))) (0, ())

def wp.slices_ContainsFunc_int_int (xs0 : List Int) (g1 : Int → Bool) (D1 : Int → Prop) (Q : Bool → Prop) : Prop :=
  (M.slices_IndexFunc_int_int_pre xs0 g1 D1 ∧ ∀ r21, r21 = M.slices_IndexFunc_int_int xs0 g1 → Q (decide (r21 ≥ 0)))

def wp.impl_AreWords_1 (x0 : Int) (Q : Bool → Prop) : Prop :=
  (∀ r21, r21 = M.impl_IsWord x0 → Q (!r21))

def wp.impl_AreWords (xs0 : List Int) (Q : Bool → Prop) : Prop :=
  (M.slices_ContainsFunc_int_int_pre xs0 (fun z0_ => M.impl_AreWords_1 z0_) (fun _ => True) ∧ ∀ r21, r21 = M.slices_ContainsFunc_int_int xs0 (fun z0_ => M.impl_AreWords_1 z0_) → Q (!r21))

def wp.impl_ValuesOk (xs0 : List Int) (Q : Bool → Prop) : Prop :=
  bcase (((xs0.length : Nat) : Int) == 8) ((M.impl_AreWords_pre xs0 ∧ ∀ r21, r21 = M.impl_AreWords xs0 → Q r21)) (Q false)

def wp.impl_MaskOf (xs0 : List Int) (Q : (Int × Bool) → Prop) : Prop :=
  LoopP (σ := Int × Int × Unit) (fun (p44 : Int × Int × Unit) next26 => match p44 with | (i21, i22, _) => bcase (decide (i22 < ((xs0.length : Nat) : Int))) (((0 ≤ i22 ∧ i22 < ((xs0.length : Nat) : Int)) ∧ (∀ r33, r33 = M.impl_isLane (rd xs0 i22) → bcase (!r33) (Q (0, false)) (((0 ≤ (rd xs0 i22)) ∧ next26 ((bitOr .i64 i21 (IntKind.wrap .i64 (1 * 2 ^ (min ((rd xs0 i22).toNat) (IntKind.bits .i64))))), (IntKind.wrap .i64 (i22 + 1)), ())))))) (Q (i21, true))) (0, 0, ())

def wp.impl_IsPermutation (xs0 : List Int) (Q : Bool → Prop) : Prop :=
  (M.impl_MaskOf_pre xs0 ∧ ∀ r21, r21 = M.impl_MaskOf xs0 → bcase r21.2 (bcase (((xs0.length : Nat) : Int) == 8) (Q (r21.1 == 255)) (Q false)) (Q false))

def wp.impl_WrapWord (x0 : Int) (Q : Int → Prop) : Prop :=
  Q (bitAnd .i64 x0 65535)

def wp.impl_wrapped (x0 : Int) (x1 : Int) (x2 : Int) (Q : Int → Prop) : Prop :=
  (∀ r21, r21 = M.impl_IsWord x0 → bcase (!r21) (Q 0) ((∀ r26, r26 = M.impl_IsWord x1 → bcase (!r26) (Q 0) ((∀ r31, r31 = M.impl_WrapWord x2 → Q r31)))))

def wp.impl_AddWords (x0 : Int) (x1 : Int) (Q : Int → Prop) : Prop :=
  (∀ r21, r21 = M.impl_wrapped x0 x1 (IntKind.wrap .i64 (x0 + x1)) → Q r21)

def wp.impl_AddInOrder (x0 : Int) (xs1 : List Int) (xs2 : List Int) (Q : ((List Int) × Int × Bool) → Prop) : Prop :=
  (∀ r21, r21 = M.impl_IsWord x0 → bcase (!r21) (Q (([] : List Int), 0, false)) ((∀ r26, r26 = M.impl_ValuesOk xs1 → bcase (!r26) (Q (([] : List Int), 0, false)) ((M.impl_IsPermutation_pre xs2 ∧ ∀ r31, r31 = M.impl_IsPermutation xs2 → bcase (!r31) (Q (([] : List Int), 0, false)) (((0 ≤ (8 : Int) ∧ (8 : Int) ≤ 17179869184) ∧ LoopP (σ := Int × Int × (List Int) × Unit) (fun (p107 : Int × Int × (List Int) × Unit) next78 => match p107 with | (i71, i72, xs73, _) => bcase (decide (i72 < ((xs2.length : Nat) : Int))) (((0 ≤ i72 ∧ i72 < ((xs2.length : Nat) : Int)) ∧ ((0 ≤ (rd xs2 i72) ∧ (rd xs2 i72) < ((xs73.length : Nat) : Int)) ∧ ((0 ≤ (rd xs2 i72) ∧ (rd xs2 i72) < ((xs1.length : Nat) : Int)) ∧ (∀ r98, r98 = M.impl_AddWords i71 (rd xs1 (rd xs2 i72)) → next78 (r98, (IntKind.wrap .i64 (i72 + 1)), (List.set xs73 ((rd xs2 i72).toNat) i71), ())))))) (Q (xs73, i71, true))) (x0, 0, (List.replicate ((8 : Int).toNat) (default : Int)), ()))))))))

def wp.spec_l21Op (x0 : Int) (Q : Bool → Prop) : Prop :=
  (∀ r21, r21 = M.spec_l01In x0 0 3 → Q r21)

def wp.spec_Combine (x0 : Int) (x1 : Int) (x2 : Int) (Q : Int → Prop) : Prop :=
  (∀ r21, r21 = M.spec_IsWord x1 → bcase (!r21) (Q 0) ((∀ r26, r26 = M.spec_IsWord x2 → bcase (!r26) (Q 0) (bcase (x0 == 0) ((∀ r31, r31 = M.spec_AddWords x1 x2 → Q r31)) (bcase (x0 == 1) (Q (bitXor .i64 x1 x2)) (bcase (x0 == 2) (Q (if x2 < x1 then x2 else x1)) (bcase (x0 == 3) (Q (if x2 > x1 then x2 else x1)) (Q 0))))))))

def wp.spec_ScanRound (x0 : Int) (xs1 : List Int) (x2 : Int) (Q : (List Int) → Prop) : Prop :=
  (∀ r24, r24 = M.spec_ValuesOk xs1 → bcase (!r24) (Q ([] : List Int)) ((∀ r29, r29 = M.spec_l21Op x0 → bcase (!r29) (Q ([] : List Int)) ((∀ r34, r34 = M.spec_l01In x2 1 7 → bcase (!r34) (Q ([] : List Int)) (LoopP (σ := (List Int) × Int × Unit) (fun (p87 : (List Int) × Int × Unit) next46 => match p87 with | (xs39, i42, _) => bcase (decide (i42 < 8)) (((0 ≤ i42 ∧ i42 < ((xs1.length : Nat) : Int)) ∧ bcase (decide (i42 ≥ x2)) (((0 ≤ (IntKind.wrap .i64 (i42 - x2)) ∧ (IntKind.wrap .i64 (i42 - x2)) < ((xs1.length : Nat) : Int)) ∧ (∀ r58, r58 = M.spec_Combine x0 (rd xs1 (IntKind.wrap .i64 (i42 - x2))) (rd xs1 i42) → ((xs39.length + ([r58] : List Int).length ≤ 17179869184) ∧ next46 ((xs39 ++ ([r58] : List Int)), (IntKind.wrap .i64 (i42 + 1)), ()))))) (((xs39.length + ([(rd xs1 i42)] : List Int).length ≤ 17179869184) ∧ next46 ((xs39 ++ ([(rd xs1 i42)] : List Int)), (IntKind.wrap .i64 (i42 + 1)), ()))))) (Q xs39)) (([] : List Int), 0, ())))))))

def wp.spec_ScanAll (x0 : Int) (xs1 : List Int) (Q : (List Int) → Prop) : Prop :=
  (∀ r21, r21 = M.spec_ScanRound x0 xs1 1 → (∀ r28, r28 = M.spec_ScanRound x0 r21 2 → (∀ r35, r35 = M.spec_ScanRound x0 r28 4 → Q r35)))

def wp.spec_NeutralOf (x0 : Int) (Q : Int → Prop) : Prop :=
  (∀ r21, r21 = M.spec_l21Op x0 → bcase (!r21) (Q (-1)) (bcase (x0 == 2) (Q 65535) (Q 0)))

def wp.spec_ScanBefore (x0 : Int) (xs1 : List Int) (Q : (List Int) → Prop) : Prop :=
  (∀ r21, r21 = M.spec_ScanAll x0 xs1 → bcase (((r21.length : Nat) : Int) == 0) (Q r21) (((0 ≤ (7 : Int) ∧ (7 : Int) ≤ ((r21.length : Nat) : Int)) ∧ (∀ r30, r30 = M.spec_NeutralOf x0 → ((([r30] : List Int).length + (List.take ((7 : Int).toNat) r21).length ≤ 17179869184) ∧ Q (([r30] : List Int) ++ (List.take ((7 : Int).toNat) r21)))))))

def wp.spec_IsMask (x0 : Int) (Q : Bool → Prop) : Prop :=
  (∀ r21, r21 = M.spec_l01In x0 0 255 → Q r21)

def wp.spec_HasLane (x0 : Int) (x1 : Int) (Q : Bool → Prop) : Prop :=
  (∀ r21, r21 = M.spec_IsMask x0 → bcase r21 ((∀ r26, r26 = M.spec_l01In x1 0 7 → bcase r26 (((0 ≤ x1) ∧ Q ((bitAnd .i64 (Int.fdiv x0 (2 ^ (min (x1.toNat) (IntKind.bits .i64)))) 1) == 1))) (Q false))) (Q false))

def wp.spec_ReduceMasked (x0 : Int) (xs1 : List Int) (x2 : Int) (Q : Int → Prop) : Prop :=
  (∀ r21, r21 = M.spec_ValuesOk xs1 → bcase (!r21) (Q 0) ((∀ r26, r26 = M.spec_IsMask x2 → bcase (!r26) (Q 0) ((∀ r31, r31 = M.spec_l21Op x0 → bcase (!r31) (Q 0) ((∀ r36, r36 = M.spec_NeutralOf x0 → LoopP (σ := Int × Int × Unit) (fun (p71 : Int × Int × Unit) next46 => match p71 with | (i41, i42, _) => bcase (decide (i42 < 8)) ((∀ r48, r48 = M.spec_HasLane x2 i42 → bcase r48 (((0 ≤ i42 ∧ i42 < ((xs1.length : Nat) : Int)) ∧ (∀ r58, r58 = M.spec_Combine x0 i41 (rd xs1 i42) → next46 (r58, (IntKind.wrap .i64 (i42 + 1)), ())))) (next46 (i41, (IntKind.wrap .i64 (i42 + 1)), ())))) (Q i41)) (r36, 0, ()))))))))

def wp.spec_AddTogether (x0 : Int) (xs1 : List Int) (Q : ((List Int) × Int × Bool) → Prop) : Prop :=
  (∀ r21, r21 = M.spec_IsWord x0 → bcase (!r21) (Q (([] : List Int), 0, false)) ((∀ r29, r29 = M.spec_ValuesOk xs1 → bcase (!r29) (Q (([] : List Int), 0, false)) ((∀ r37, r37 = M.spec_ScanBefore 0 xs1 → LoopP (σ := (List Int) × Int × Unit) (fun (p88 : (List Int) × Int × Unit) next54 => match p88 with | (xs47, i50, _) => bcase (decide (i50 < 8)) (((0 ≤ i50 ∧ i50 < ((r37.length : Nat) : Int)) ∧ (∀ r61, r61 = M.spec_AddWords x0 (rd r37 i50) → ((xs47.length + ([r61] : List Int).length ≤ 17179869184) ∧ next54 ((xs47 ++ ([r61] : List Int)), (IntKind.wrap .i64 (i50 + 1)), ()))))) ((∀ r77, r77 = M.spec_ReduceMasked 0 xs1 255 → (∀ r82, r82 = M.spec_AddWords x0 r77 → Q (xs47, r82, true))))) (([] : List Int), 0, ()))))))

def wp.impl_ascending  (Q : (List Int) → Prop) : Prop :=
  (∀ r21, r21 = M.impl_LanesOf 255 → Q r21)

def wp.impl_AddTogether (x0 : Int) (xs1 : List Int) (Q : ((List Int) × Int × Bool) → Prop) : Prop :=
  (∀ r21, r21 = M.impl_ascending → (M.impl_AddInOrder_pre x0 xs1 r21 ∧ ∀ r28, r28 = M.impl_AddInOrder x0 xs1 r21 → Q (r28.1, r28.2.1, r28.2.2)))

def wp.laws_FnExactAddTogether (x0 : Int) (xs1 : List Int) (Q : Bool → Prop) : Prop :=
  bcase (decide (((xs1.length : Nat) : Int) > 1048576)) (Q true) ((M.laws_toIntS_pre xs1 ∧ ∀ r21, r21 = M.laws_toIntS xs1 → (∀ r28, r28 = M.spec_AddTogether x0 r21 → (M.laws_toIntS_pre xs1 ∧ ∀ r35, r35 = M.laws_toIntS xs1 → (∀ r42, r42 = M.impl_AddTogether x0 r35 → (M.laws_eqIntS_pre r42.1 r28.1 ∧ ∀ r49, r49 = M.laws_eqIntS r42.1 r28.1 → bcase (!r49) (Q false) (bcase (r42.2.1 != r28.2.1) (Q false) (bcase (!(r42.2.2 == r28.2.2)) (Q false) ((M.laws_toIntS_pre xs1 ∧ ∀ r54, r54 = M.laws_toIntS xs1 → (M.laws_eqIntS_pre r35 r54 ∧ ∀ r61, r61 = M.laws_eqIntS r35 r54 → bcase (!r61) (Q false) ((M.laws_markIntS_pre r35 1 ∧ ∀ r66, r66 = M.laws_markIntS r35 1 → bcase (decide (r66.1 < 0)) (Q false) ((M.laws_eqIntS_pre r42.1 r28.1 ∧ ∀ r72, r72 = M.laws_eqIntS r42.1 r28.1 → bcase (!r72) (Q false) (bcase (r42.2.1 != r28.2.1) (Q false) (bcase (!(r42.2.2 == r28.2.2)) (Q false) ((M.laws_markIntS_pre r42.1 1 ∧ ∀ r77, r77 = M.laws_markIntS r42.1 1 → (M.laws_heldIntS_pre r77.2 1 ∧ ∀ r83, r83 = M.laws_heldIntS r77.2 1 → bcase (decide (r83 < 0)) (Q false) (bcase (r83 != r77.1) (Q false) ((M.laws_toIntS_pre xs1 ∧ ∀ r88, r88 = M.laws_toIntS xs1 → (∀ r95, r95 = M.impl_AddTogether x0 r88 → (M.laws_eqIntS_pre r95.1 r28.1 ∧ ∀ r102, r102 = M.laws_eqIntS r95.1 r28.1 → bcase (!r102) (Q false) (bcase (r95.2.1 != r28.2.1) (Q false) (bcase (!(r95.2.2 == r28.2.2)) (Q false) ((M.laws_heldIntS_pre r77.2 1 ∧ ∀ r107, r107 = M.laws_heldIntS r77.2 1 → bcase (decide (r107 < 0)) (Q false) (bcase (r107 != r77.1) (Q false) (Q true)))))))))))))))))))))))))))))))

end Go.V
