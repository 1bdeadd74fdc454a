import Derived.Test.YtnafhlbbbgpmgaaPure
set_option linter.unusedVariables false
namespace Go.V

def wp.spec_ValuesOk (xs0 : List Int) (Q : Bool → Prop) : Prop :=
  bcase (((xs0.length : Nat) : Int) == 8) ((M.spec_AreWords_pre xs0 ∧ ∀ r1, r1 = M.spec_AreWords xs0 → Q r1)) (Q false)

def wp.spec_MaskOf (xs0 : List Int) (Q : (Int × Bool) → Prop) : Prop :=
  LoopP (σ := Int × Int × Unit) (fun (p29 : Int × Int × Unit) next6 => match p29 with | (i1, i2, _) => bcase (decide (i2 < ((xs0.length : Nat) : Int))) (((0 ≤ i2 ∧ i2 < ((xs0.length : Nat) : Int)) ∧ (∀ r13, r13 = M.spec_l01In (rd xs0 i2) 0 7 → bcase (!r13) (Q (0, false)) (((0 ≤ i2 ∧ i2 < ((xs0.length : Nat) : Int)) ∧ ((0 ≤ (rd xs0 i2)) ∧ next6 ((bitOr .i64 i1 (IntKind.wrap .i64 (1 * 2 ^ (min ((rd xs0 i2).toNat) (IntKind.bits .i64))))), (IntKind.wrap .i64 (i2 + 1)), ()))))))) (Q (i1, true))) (0, 0, ())

def wp.spec_IsPermutation (xs0 : List Int) (Q : Bool → Prop) : Prop :=
  (M.spec_MaskOf_pre xs0 ∧ ∀ r1, r1 = M.spec_MaskOf xs0 → bcase r1.2 (bcase (((xs0.length : Nat) : Int) == 8) (Q (r1.1 == 255)) (Q false)) (Q false))

def wp.spec_WrapWord (x0 : Int) (Q : Int → Prop) : Prop :=
  Q (Int.tmod (IntKind.wrap .i64 ((Int.tmod x0 65536) + 65536)) 65536)

def wp.spec_AddWords (x0 : Int) (x1 : Int) (Q : Int → Prop) : Prop :=
  (∀ r1, r1 = M.spec_IsWord x0 → bcase (!r1) (Q 0) ((∀ r6, r6 = M.spec_IsWord x1 → bcase (!r6) (Q 0) ((∀ r11, r11 = M.spec_WrapWord (IntKind.wrap .i64 (x0 + x1)) → Q r11)))))

def wp.spec_AddInOrder (x0 : Int) (xs1 : List Int) (xs2 : List Int) (Q : ((List Int) × Int × Bool) → Prop) : Prop :=
  (∀ r1, r1 = M.spec_IsWord x0 → bcase (!r1) (Q (([] : List Int), 0, false)) ((∀ r9, r9 = M.spec_ValuesOk xs1 → bcase (!r9) (Q (([] : List Int), 0, false)) ((M.spec_IsPermutation_pre xs2 ∧ ∀ r17, r17 = M.spec_IsPermutation xs2 → bcase (!r17) (Q (([] : List Int), 0, false)) (((0 ≤ (8 : Int) ∧ (8 : Int) ≤ 17179869184) ∧ LoopP (σ := Int × Int × (List Int) × Unit) (fun (p106 : Int × Int × (List Int) × Unit) next72 => match p106 with | (i65, i66, xs67, _) => bcase (decide (i66 < 8)) (((0 ≤ i66 ∧ i66 < ((xs2.length : Nat) : Int)) ∧ ((0 ≤ (rd xs2 i66) ∧ (rd xs2 i66) < ((xs67.length : Nat) : Int)) ∧ ((0 ≤ i66 ∧ i66 < ((xs2.length : Nat) : Int)) ∧ ((0 ≤ (rd xs2 i66) ∧ (rd xs2 i66) < ((xs1.length : Nat) : Int)) ∧ (∀ r97, r97 = M.spec_AddWords i65 (rd xs1 (rd xs2 i66)) → next72 (r97, (IntKind.wrap .i64 (i66 + 1)), (List.set xs67 ((rd xs2 i66).toNat) i65), ()))))))) (Q (xs67, i65, true))) (x0, 0, (List.replicate ((8 : Int).toNat) (default : Int)), ()))))))))

def wp.slices_IndexFunc_int_int (xs0 : List Int) (g1 : Int → Bool) (D1 : Int → Prop) (Q : Int → Prop) : Prop :=
  LoopP (σ := Int × Unit) (fun (p22 : Int × Unit) next5 => match p22 with | (i1, _) => bcase (decide (i1 < ((xs0.length : Nat) : Int))) (((0 ≤ i1 ∧ i1 < ((xs0.length : Nat) : Int)) ∧ (D1 (rd xs0 i1) ∧ ∀ r12, r12 = g1 (rd xs0 i1) → bcase r12 (Q i1) (next5 ((IntKind.wrap .i64 (i1 + 1)), ()))))) (Q (-1))) (0, ())

def wp.slices_ContainsFunc_int_int (xs0 : List Int) (g1 : Int → Bool) (D1 : Int → Prop) (Q : Bool → Prop) : Prop :=
  (M.slices_IndexFunc_int_int_pre xs0 g1 D1 ∧ ∀ r1, r1 = M.slices_IndexFunc_int_int xs0 g1 → Q (decide (r1 ≥ 0)))

def wp.impl_AreWords_1 (x0 : Int) (Q : Bool → Prop) : Prop :=
  (∀ r1, r1 = M.impl_IsWord x0 → Q (!r1))

def wp.impl_AreWords (xs0 : List Int) (Q : Bool → Prop) : Prop :=
  (M.slices_ContainsFunc_int_int_pre xs0 (fun z0_ => M.impl_AreWords_1 z0_) (fun _ => True) ∧ ∀ r1, r1 = M.slices_ContainsFunc_int_int xs0 (fun z0_ => M.impl_AreWords_1 z0_) → Q (!r1))

def wp.impl_ValuesOk (xs0 : List Int) (Q : Bool → Prop) : Prop :=
  bcase (((xs0.length : Nat) : Int) == 8) ((M.impl_AreWords_pre xs0 ∧ ∀ r1, r1 = M.impl_AreWords xs0 → Q r1)) (Q false)

def wp.impl_MaskOf (xs0 : List Int) (Q : (Int × Bool) → Prop) : Prop :=
  LoopP (σ := Int × Int × Unit) (fun (p24 : Int × Int × Unit) next6 => match p24 with | (i1, i2, _) => bcase (decide (i2 < ((xs0.length : Nat) : Int))) (((0 ≤ i2 ∧ i2 < ((xs0.length : Nat) : Int)) ∧ (∀ r13, r13 = M.impl_isLane (rd xs0 i2) → bcase (!r13) (Q (0, false)) (((0 ≤ (rd xs0 i2)) ∧ next6 ((bitOr .i64 i1 (IntKind.wrap .i64 (1 * 2 ^ (min ((rd xs0 i2).toNat) (IntKind.bits .i64))))), (IntKind.wrap .i64 (i2 + 1)), ())))))) (Q (i1, true))) (0, 0, ())

def wp.impl_IsPermutation (xs0 : List Int) (Q : Bool → Prop) : Prop :=
  (M.impl_MaskOf_pre xs0 ∧ ∀ r1, r1 = M.impl_MaskOf xs0 → bcase r1.2 (bcase (((xs0.length : Nat) : Int) == 8) (Q (r1.1 == 255)) (Q false)) (Q false))

def wp.impl_WrapWord (x0 : Int) (Q : Int → Prop) : Prop :=
  Q (bitAnd .i64 x0 65535)

def wp.impl_wrapped (x0 : Int) (x1 : Int) (x2 : Int) (Q : Int → Prop) : Prop :=
  (∀ r1, r1 = M.impl_IsWord x0 → bcase (!r1) (Q 0) ((∀ r6, r6 = M.impl_IsWord x1 → bcase (!r6) (Q 0) ((∀ r11, r11 = M.impl_WrapWord x2 → Q r11)))))

def wp.impl_AddWords (x0 : Int) (x1 : Int) (Q : Int → Prop) : Prop :=
  (∀ r1, r1 = M.impl_wrapped x0 x1 (IntKind.wrap .i64 (x0 + x1)) → Q r1)

def wp.impl_AddInOrder (x0 : Int) (xs1 : List Int) (xs2 : List Int) (Q : ((List Int) × Int × Bool) → Prop) : Prop :=
  (∀ r1, r1 = M.impl_IsWord x0 → bcase (!r1) (Q (([] : List Int), 0, false)) ((∀ r6, r6 = M.impl_ValuesOk xs1 → bcase (!r6) (Q (([] : List Int), 0, false)) ((M.impl_IsPermutation_pre xs2 ∧ ∀ r11, r11 = M.impl_IsPermutation xs2 → bcase (!r11) (Q (([] : List Int), 0, false)) (((0 ≤ (8 : Int) ∧ (8 : Int) ≤ 17179869184) ∧ LoopP (σ := Int × Int × (List Int) × Unit) (fun (p87 : Int × Int × (List Int) × Unit) next58 => match p87 with | (i51, i52, xs53, _) => bcase (decide (i52 < ((xs2.length : Nat) : Int))) (((0 ≤ i52 ∧ i52 < ((xs2.length : Nat) : Int)) ∧ ((0 ≤ (rd xs2 i52) ∧ (rd xs2 i52) < ((xs53.length : Nat) : Int)) ∧ ((0 ≤ (rd xs2 i52) ∧ (rd xs2 i52) < ((xs1.length : Nat) : Int)) ∧ (∀ r78, r78 = M.impl_AddWords i51 (rd xs1 (rd xs2 i52)) → next58 (r78, (IntKind.wrap .i64 (i52 + 1)), (List.set xs53 ((rd xs2 i52).toNat) i51), ())))))) (Q (xs53, i51, true))) (x0, 0, (List.replicate ((8 : Int).toNat) (default : Int)), ()))))))))

def wp.spec_l21Op (x0 : Int) (Q : Bool → Prop) : Prop :=
  (∀ r1, r1 = M.spec_l01In x0 0 3 → Q r1)

def wp.spec_Combine (x0 : Int) (x1 : Int) (x2 : Int) (Q : Int → Prop) : Prop :=
  (∀ r1, r1 = M.spec_IsWord x1 → bcase (!r1) (Q 0) ((∀ r6, r6 = M.spec_IsWord x2 → bcase (!r6) (Q 0) (bcase (x0 == 0) ((∀ r11, r11 = M.spec_AddWords x1 x2 → Q r11)) (bcase (x0 == 1) (Q (bitXor .i64 x1 x2)) (bcase (x0 == 2) (Q (if x2 < x1 then x2 else x1)) (bcase (x0 == 3) (Q (if x2 > x1 then x2 else x1)) (Q 0))))))))

def wp.spec_ScanRound (x0 : Int) (xs1 : List Int) (x2 : Int) (Q : (List Int) → Prop) : Prop :=
  (∀ r4, r4 = M.spec_ValuesOk xs1 → bcase (!r4) (Q ([] : List Int)) ((∀ r9, r9 = M.spec_l21Op x0 → bcase (!r9) (Q ([] : List Int)) ((∀ r14, r14 = M.spec_l01In x2 1 7 → bcase (!r14) (Q ([] : List Int)) (LoopP (σ := (List Int) × Int × Unit) (fun (p67 : (List Int) × Int × Unit) next26 => match p67 with | (xs19, i22, _) => bcase (decide (i22 < 8)) (((0 ≤ i22 ∧ i22 < ((xs1.length : Nat) : Int)) ∧ bcase (decide (i22 ≥ x2)) (((0 ≤ (IntKind.wrap .i64 (i22 - x2)) ∧ (IntKind.wrap .i64 (i22 - x2)) < ((xs1.length : Nat) : Int)) ∧ (∀ r38, r38 = M.spec_Combine x0 (rd xs1 (IntKind.wrap .i64 (i22 - x2))) (rd xs1 i22) → ((xs19.length + ([r38] : List Int).length ≤ 17179869184) ∧ next26 ((xs19 ++ ([r38] : List Int)), (IntKind.wrap .i64 (i22 + 1)), ()))))) (((xs19.length + ([(rd xs1 i22)] : List Int).length ≤ 17179869184) ∧ next26 ((xs19 ++ ([(rd xs1 i22)] : List Int)), (IntKind.wrap .i64 (i22 + 1)), ()))))) (Q xs19)) (([] : List Int), 0, ())))))))

def wp.spec_ScanAll (x0 : Int) (xs1 : List Int) (Q : (List Int) → Prop) : Prop :=
  (∀ r1, r1 = M.spec_ScanRound x0 xs1 1 → (∀ r8, r8 = M.spec_ScanRound x0 r1 2 → (∀ r15, r15 = M.spec_ScanRound x0 r8 4 → Q r15)))

def wp.spec_NeutralOf (x0 : Int) (Q : Int → Prop) : Prop :=
  (∀ r1, r1 = M.spec_l21Op x0 → bcase (!r1) (Q (-1)) (bcase (x0 == 2) (Q 65535) (Q 0)))

def wp.spec_ScanBefore (x0 : Int) (xs1 : List Int) (Q : (List Int) → Prop) : Prop :=
  (∀ r1, r1 = M.spec_ScanAll x0 xs1 → bcase (((r1.length : Nat) : Int) == 0) (Q r1) (((0 ≤ (7 : Int) ∧ (7 : Int) ≤ ((r1.length : Nat) : Int)) ∧ (∀ r11, r11 = M.spec_NeutralOf x0 → ((([r11] : List Int).length + (List.take ((7 : Int).toNat) r1).length ≤ 17179869184) ∧ Q (([r11] : List Int) ++ (List.take ((7 : Int).toNat) r1)))))))

def wp.spec_IsMask (x0 : Int) (Q : Bool → Prop) : Prop :=
  (∀ r1, r1 = M.spec_l01In x0 0 255 → Q r1)

def wp.spec_HasLane (x0 : Int) (x1 : Int) (Q : Bool → Prop) : Prop :=
  (∀ r1, r1 = M.spec_IsMask x0 → bcase r1 ((∀ r6, r6 = M.spec_l01In x1 0 7 → bcase r6 (((0 ≤ x1) ∧ Q ((bitAnd .i64 (Int.fdiv x0 (2 ^ (min (x1.toNat) (IntKind.bits .i64)))) 1) == 1))) (Q false))) (Q false))

def wp.spec_ReduceMasked (x0 : Int) (xs1 : List Int) (x2 : Int) (Q : Int → Prop) : Prop :=
  (∀ r1, r1 = M.spec_ValuesOk xs1 → bcase (!r1) (Q 0) ((∀ r6, r6 = M.spec_IsMask x2 → bcase (!r6) (Q 0) ((∀ r11, r11 = M.spec_l21Op x0 → bcase (!r11) (Q 0) ((∀ r16, r16 = M.spec_NeutralOf x0 → LoopP (σ := Int × Int × Unit) (fun (p51 : Int × Int × Unit) next26 => match p51 with | (i21, i22, _) => bcase (decide (i22 < 8)) ((∀ r28, r28 = M.spec_HasLane x2 i22 → bcase r28 (((0 ≤ i22 ∧ i22 < ((xs1.length : Nat) : Int)) ∧ (∀ r38, r38 = M.spec_Combine x0 i21 (rd xs1 i22) → next26 (r38, (IntKind.wrap .i64 (i22 + 1)), ())))) (next26 (i21, (IntKind.wrap .i64 (i22 + 1)), ())))) (Q i21)) (r16, 0, ()))))))))

def wp.spec_AddTogether (x0 : Int) (xs1 : List Int) (Q : ((List Int) × Int × Bool) → Prop) : Prop :=
  (∀ r1, r1 = M.spec_IsWord x0 → bcase (!r1) (Q (([] : List Int), 0, false)) ((∀ r9, r9 = M.spec_ValuesOk xs1 → bcase (!r9) (Q (([] : List Int), 0, false)) ((∀ r17, r17 = M.spec_ScanBefore 0 xs1 → LoopP (σ := (List Int) × Int × Unit) (fun (p68 : (List Int) × Int × Unit) next34 => match p68 with | (xs27, i30, _) => bcase (decide (i30 < 8)) (((0 ≤ i30 ∧ i30 < ((r17.length : Nat) : Int)) ∧ (∀ r41, r41 = M.spec_AddWords x0 (rd r17 i30) → ((xs27.length + ([r41] : List Int).length ≤ 17179869184) ∧ next34 ((xs27 ++ ([r41] : List Int)), (IntKind.wrap .i64 (i30 + 1)), ()))))) ((∀ r57, r57 = M.spec_ReduceMasked 0 xs1 255 → (∀ r62, r62 = M.spec_AddWords x0 r57 → Q (xs27, r62, true))))) (([] : List Int), 0, ()))))))

def wp.impl_ascending  (Q : (List Int) → Prop) : Prop :=
  (∀ r1, r1 = M.impl_LanesOf 255 → Q r1)

def wp.impl_AddTogether (x0 : Int) (xs1 : List Int) (Q : ((List Int) × Int × Bool) → Prop) : Prop :=
  (∀ r1, r1 = M.impl_ascending → (M.impl_AddInOrder_pre x0 xs1 r1 ∧ ∀ r8, r8 = M.impl_AddInOrder x0 xs1 r1 → Q (r8.1, r8.2.1, r8.2.2)))

def wp.laws_FnExactAddTogether (x0 : Int) (xs1 : List Int) (Q : Bool → Prop) : Prop :=
  bcase (decide (((xs1.length : Nat) : Int) > 1048576)) (Q true) ((M.laws_toIntS_pre xs1 ∧ ∀ r1, r1 = M.laws_toIntS xs1 → (∀ r8, r8 = M.spec_AddTogether x0 r1 → (M.laws_toIntS_pre xs1 ∧ ∀ r15, r15 = M.laws_toIntS xs1 → (∀ r22, r22 = M.impl_AddTogether x0 r15 → (M.laws_eqIntS_pre r22.1 r8.1 ∧ ∀ r29, r29 = M.laws_eqIntS r22.1 r8.1 → bcase (!r29) (Q false) (bcase (r22.2.1 != r8.2.1) (Q false) (bcase (!(r22.2.2 == r8.2.2)) (Q false) ((M.laws_toIntS_pre xs1 ∧ ∀ r34, r34 = M.laws_toIntS xs1 → (M.laws_eqIntS_pre r15 r34 ∧ ∀ r41, r41 = M.laws_eqIntS r15 r34 → bcase (!r41) (Q false) ((M.laws_markIntS_pre r15 1 ∧ ∀ r46, r46 = M.laws_markIntS r15 1 → bcase (decide (r46.1 < 0)) (Q false) ((M.laws_eqIntS_pre r22.1 r8.1 ∧ ∀ r52, r52 = M.laws_eqIntS r22.1 r8.1 → bcase (!r52) (Q false) (bcase (r22.2.1 != r8.2.1) (Q false) (bcase (!(r22.2.2 == r8.2.2)) (Q false) ((M.laws_markIntS_pre r22.1 1 ∧ ∀ r57, r57 = M.laws_markIntS r22.1 1 → (M.laws_heldIntS_pre r57.2 1 ∧ ∀ r63, r63 = M.laws_heldIntS r57.2 1 → bcase (decide (r63 < 0)) (Q false) (bcase (r63 != r57.1) (Q false) ((M.laws_toIntS_pre xs1 ∧ ∀ r68, r68 = M.laws_toIntS xs1 → (∀ r75, r75 = M.impl_AddTogether x0 r68 → (M.laws_eqIntS_pre r75.1 r8.1 ∧ ∀ r82, r82 = M.laws_eqIntS r75.1 r8.1 → bcase (!r82) (Q false) (bcase (r75.2.1 != r8.2.1) (Q false) (bcase (!(r75.2.2 == r8.2.2)) (Q false) ((M.laws_heldIntS_pre r57.2 1 ∧ ∀ r87, r87 = M.laws_heldIntS r57.2 1 → bcase (decide (r87 < 0)) (Q false) (bcase (r87 != r57.1) (Q false) (Q true)))))))))))))))))))))))))))))))

end Go.V
