import Derived.Test.YtnbkmenlaogblaaPure
set_option linter.unusedVariables false
namespace Go.V

def wp.laws_szInsS (xs0 : List D.Ins) (x1 : Int) (Q : Int → Prop) : Prop :=
  bcase (decide ((IntKind.wrap .i64 (x1 - ((xs0.length : Nat) : Int))) < 0)) (Q (-1)) (Q (IntKind.wrap .i64 (x1 - ((xs0.length : Nat) : Int))))

def wp.laws_toIns (s0 : D.Ins) (Q : D.Ins → Prop) : Prop :=
  Q (⟨s0.Op, s0.A, s0.B, s0.C⟩ : D.Ins)

def wp.laws_toInsS (xs0 : List D.Ins) (Q : (List D.Ins) → Prop) : Prop :=
  ((0 ≤ ((xs0.length : Nat) : Int) ∧ ((xs0.length : Nat) : Int) ≤ 17179869184) ∧ LoopP (σ := Int × (List D.Ins) × Unit) (fun (p80 : Int × (List D.Ins) × Unit) next56 => match p80 with | (i50, xs51, _) => bcase (decide (i50 < ((xs0.length : Nat) : Int))) (((0 ≤ i50 ∧ i50 < ((xs0.length : Nat) : Int)) ∧ (∀ r63, r63 = M.laws_toIns (rd xs0 i50) → ((0 ≤ i50 ∧ i50 < ((xs51.length : Nat) : Int)) ∧ next56 ((IntKind.wrap .i64 (i50 + 1)), (List.set xs51 (i50.toNat) (⟨r63.Op, r63.A, r63.B, r63.C⟩ : D.Ins)), ()))))) (Q xs51)) (0, (List.replicate (((xs0.length : Nat) : Int).toNat) (default : D.Ins)), ()))

def wp.laws_eqIns (s0 : D.Ins) (s1 : D.Ins) (Q : Bool → Prop) : Prop :=
  bcase (s0.Op != s1.Op) (Q false) (bcase (s0.A != s1.A) (Q false) (bcase (s0.B != s1.B) (Q false) (bcase (s0.C != s1.C) (Q false) (Q true))))

def wp.laws_eqInsS (xs0 : List D.Ins) (xs1 : List D.Ins) (Q : Bool → Prop) : Prop :=
  bcase (((xs0.length : Nat) : Int) != ((xs1.length : Nat) : Int)) (Q false) (LoopP (σ := Int × Unit) (fun (p48 : Int × Unit) next25 => match p48 with | (i21, _) => bcase (decide (i21 < ((xs0.length : Nat) : Int))) (((0 ≤ i21 ∧ i21 < ((xs0.length : Nat) : Int)) ∧ ((0 ≤ i21 ∧ i21 < ((xs1.length : Nat) : Int)) ∧ (∀ r38, r38 = M.laws_eqIns (rd xs0 i21) (rd xs1 i21) → bcase (!r38) (Q false) (next25 ((IntKind.wrap .i64 (i21 + 1)), ())))))) (Q true)) (0, ()))

def wp.spec_LaneNew (x0 : Int) (Q : D.Lane → Prop) : Prop :=
  (∀ r23, r23 = M.spec_l01In x0 0 23 → bcase (!r23) (Q (⟨0, 0, ([] : List Int)⟩ : D.Lane)) (((0 ≤ (4 : Int) ∧ (4 : Int) ≤ 17179869184) ∧ Q (⟨x0, 0, (List.replicate ((4 : Int).toNat) (default : Int))⟩ : D.Lane))))

def wp.spec_l10Copy (s0 : D.Lane) (Q : D.Lane → Prop) : Prop :=
  ((([] : List Int).length + s0.Regs.length ≤ 17179869184) ∧ Q (⟨s0.Thread, s0.Pc, (([] : List Int) ++ s0.Regs)⟩ : D.Lane))

def wp.spec_IsLocal (s0 : D.Ins) (Q : Bool → Prop) : Prop :=
  (∀ r23, r23 = M.spec_l01In s0.Op 0 12 → Q r23)

def wp.spec_l04Reg (x0 : Int) (Q : Bool → Prop) : Prop :=
  (∀ r21, r21 = M.spec_l01In x0 0 3 → Q r21)

def wp.spec_InsOk (s0 : D.Ins) (x1 : Int) (Q : Bool → Prop) : Prop :=
  (∀ r23, r23 = M.spec_l01In x1 0 32 → bcase (!r23) (Q false) (JoinP (σ := Bool × Unit) (fun J29 => bcase (s0.Op == 0) (J29 (true, ())) (bcase (s0.Op == 12) (J29 (true, ())) (J29 ((s0.Op == 16), ())))) (fun (p124 : Bool × Unit) => match p124 with | (b28, _) => bcase b28 (bcase (s0.A == 0) (bcase (s0.B == 0) (Q (s0.C == 0)) (Q false)) (Q false)) (bcase (s0.Op == 1) ((∀ r36, r36 = M.spec_l04Reg s0.A → bcase r36 ((∀ r41, r41 = M.spec_IsWord s0.B → bcase r41 (Q (s0.C == 0)) (Q false))) (Q false))) (JoinP (σ := Bool × Unit) (fun J49 => bcase (s0.Op == 2) (J49 (true, ())) (bcase (s0.Op == 13) (J49 (true, ())) (bcase (s0.Op == 14) (J49 (true, ())) (J49 ((s0.Op == 15), ()))))) (fun (p120 : Bool × Unit) => match p120 with | (b48, _) => bcase b48 ((∀ r55, r55 = M.spec_l04Reg s0.A → bcase r55 ((∀ r60, r60 = M.spec_l04Reg s0.B → bcase r60 (Q (s0.C == 0)) (Q false))) (Q false))) (bcase (s0.Op == 8) ((∀ r67, r67 = M.spec_l04Reg s0.A → bcase r67 (bcase (s0.B == 0) (Q (s0.C == 0)) (Q false)) (Q false))) (bcase (s0.Op == 10) ((∀ r74, r74 = M.spec_l04Reg s0.A → bcase r74 ((∀ r79, r79 = M.spec_l01In s0.B 0 x1 → bcase r79 (Q (s0.C == 0)) (Q false))) (Q false))) (bcase (s0.Op == 11) (bcase (s0.A == 0) ((∀ r86, r86 = M.spec_l01In s0.B 0 x1 → bcase r86 (Q (s0.C == 0)) (Q false))) (Q false)) ((∀ r93, r93 = M.spec_l01In s0.Op 3 9 → bcase r93 ((∀ r98, r98 = M.spec_l04Reg s0.A → bcase r98 ((∀ r103, r103 = M.spec_l04Reg s0.B → bcase r103 ((∀ r108, r108 = M.spec_l04Reg s0.C → Q r108)) (Q false))) (Q false))) (Q false))))))))))))

def wp.spec_ProgramOk (xs0 : List D.Ins) (Q : Bool → Prop) : Prop :=
  LoopP (σ := Int × Unit) (fun (p42 : Int × Unit) next25 => match p42 with | (i21, _) => bcase (decide (i21 < ((xs0.length : Nat) : Int))) (((0 ≤ i21 ∧ i21 < ((xs0.length : Nat) : Int)) ∧ (∀ r32, r32 = M.spec_InsOk (rd xs0 i21) ((xs0.length : Nat) : Int) → bcase (!r32) (Q false) (next25 ((IntKind.wrap .i64 (i21 + 1)), ()))))) (Q (decide (((xs0.length : Nat) : Int) ≤ 32)))) (0, ())

def wp.spec_IsQuiet (xs0 : List D.Ins) (Q : Bool → Prop) : Prop :=
  LoopP (σ := Int × Unit) (fun (p47 : Int × Unit) next25 => match p47 with | (i21, _) => bcase (decide (i21 < ((xs0.length : Nat) : Int))) (((0 ≤ i21 ∧ i21 < ((xs0.length : Nat) : Int)) ∧ (∀ r32, r32 = M.spec_IsLocal (rd xs0 i21) → bcase (!r32) (Q false) (next25 ((IntKind.wrap .i64 (i21 + 1)), ()))))) ((M.spec_ProgramOk_pre xs0 ∧ ∀ r41, r41 = M.spec_ProgramOk xs0 → Q r41))) (0, ())

def wp.spec_LaneOk (xs0 : List D.Ins) (s1 : D.Lane) (Q : Bool → Prop) : Prop :=
  (M.spec_ProgramOk_pre xs0 ∧ ∀ r23, r23 = M.spec_ProgramOk xs0 → bcase r23 ((∀ r28, r28 = M.spec_l01In s1.Thread 0 23 → bcase r28 ((∀ r33, r33 = M.spec_l01In s1.Pc 0 ((xs0.length : Nat) : Int) → bcase r33 (bcase (((s1.Regs.length : Nat) : Int) == 4) ((M.spec_AreWords_pre s1.Regs ∧ ∀ r38, r38 = M.spec_AreWords s1.Regs → Q r38)) (Q false)) (Q false))) (Q false))) (Q false))

def wp.spec_l10Next (xs0 : List D.Ins) (x1 : Int) (xs2 : List Int) (Q : Int → Prop) : Prop :=
  ((0 ≤ x1 ∧ x1 < ((xs0.length : Nat) : Int)) ∧ bcase ((rd xs0 x1).Op == 12) (Q ((xs0.length : Nat) : Int)) (bcase ((rd xs0 x1).Op == 11) (((0 ≤ x1 ∧ x1 < ((xs0.length : Nat) : Int)) ∧ Q ((rd xs0 x1).B))) (bcase ((rd xs0 x1).Op == 10) (((0 ≤ x1 ∧ x1 < ((xs0.length : Nat) : Int)) ∧ ((0 ≤ (rd xs0 x1).A ∧ (rd xs0 x1).A < ((xs2.length : Nat) : Int)) ∧ bcase ((rd xs2 ((rd xs0 x1).A)) == 0) (((0 ≤ x1 ∧ x1 < ((xs0.length : Nat) : Int)) ∧ Q ((rd xs0 x1).B))) (Q (IntKind.wrap .i64 (x1 + 1)))))) (Q (IntKind.wrap .i64 (x1 + 1))))))

def wp.spec_SubWords (x0 : Int) (x1 : Int) (Q : Int → Prop) : Prop :=
  (∀ r21, r21 = M.spec_IsWord x0 → bcase (!r21) (Q 0) ((∀ r26, r26 = M.spec_IsWord x1 → bcase (!r26) (Q 0) ((∀ r31, r31 = M.spec_WrapWord (IntKind.wrap .i64 (x0 - x1)) → Q r31)))))

def wp.spec_MulWords (x0 : Int) (x1 : Int) (Q : Int → Prop) : Prop :=
  (∀ r21, r21 = M.spec_IsWord x0 → bcase (!r21) (Q 0) ((∀ r26, r26 = M.spec_IsWord x1 → bcase (!r26) (Q 0) ((∀ r31, r31 = M.spec_WrapWord (IntKind.wrap .i64 (x0 * x1)) → Q r31)))))

def wp.spec_LessWords (x0 : Int) (x1 : Int) (Q : Int → Prop) : Prop :=
  (∀ r21, r21 = M.spec_IsWord x0 → bcase r21 ((∀ r26, r26 = M.spec_IsWord x1 → bcase r26 (bcase (decide (x0 < x1)) (Q 1) (Q 0)) (Q 0))) (Q 0))

def wp.spec_l10Apply (s0 : D.Ins) (x1 : Int) (xs2 : List Int) (Q : (List Int) → Prop) : Prop :=
  ((([] : List Int).length + xs2.length ≤ 17179869184) ∧ bcase (s0.Op == 1) (((0 ≤ s0.A ∧ s0.A < (((([] : List Int) ++ xs2).length : Nat) : Int)) ∧ Q (List.set (([] : List Int) ++ xs2) (s0.A.toNat) s0.B))) (bcase (s0.Op == 2) (((0 ≤ s0.B ∧ s0.B < ((xs2.length : Nat) : Int)) ∧ ((0 ≤ s0.A ∧ s0.A < (((([] : List Int) ++ xs2).length : Nat) : Int)) ∧ Q (List.set (([] : List Int) ++ xs2) (s0.A.toNat) (rd xs2 s0.B))))) (bcase (s0.Op == 3) (((0 ≤ s0.B ∧ s0.B < ((xs2.length : Nat) : Int)) ∧ ((0 ≤ s0.C ∧ s0.C < ((xs2.length : Nat) : Int)) ∧ (∀ r64, r64 = M.spec_AddWords (rd xs2 s0.B) (rd xs2 s0.C) → ((0 ≤ s0.A ∧ s0.A < (((([] : List Int) ++ xs2).length : Nat) : Int)) ∧ Q (List.set (([] : List Int) ++ xs2) (s0.A.toNat) r64)))))) (bcase (s0.Op == 4) (((0 ≤ s0.B ∧ s0.B < ((xs2.length : Nat) : Int)) ∧ ((0 ≤ s0.C ∧ s0.C < ((xs2.length : Nat) : Int)) ∧ (∀ r88, r88 = M.spec_SubWords (rd xs2 s0.B) (rd xs2 s0.C) → ((0 ≤ s0.A ∧ s0.A < (((([] : List Int) ++ xs2).length : Nat) : Int)) ∧ Q (List.set (([] : List Int) ++ xs2) (s0.A.toNat) r88)))))) (bcase (s0.Op == 5) (((0 ≤ s0.B ∧ s0.B < ((xs2.length : Nat) : Int)) ∧ ((0 ≤ s0.C ∧ s0.C < ((xs2.length : Nat) : Int)) ∧ (∀ r112, r112 = M.spec_MulWords (rd xs2 s0.B) (rd xs2 s0.C) → ((0 ≤ s0.A ∧ s0.A < (((([] : List Int) ++ xs2).length : Nat) : Int)) ∧ Q (List.set (([] : List Int) ++ xs2) (s0.A.toNat) r112)))))) (bcase (s0.Op == 6) (((0 ≤ s0.B ∧ s0.B < ((xs2.length : Nat) : Int)) ∧ ((0 ≤ s0.C ∧ s0.C < ((xs2.length : Nat) : Int)) ∧ ((0 ≤ s0.A ∧ s0.A < (((([] : List Int) ++ xs2).length : Nat) : Int)) ∧ Q (List.set (([] : List Int) ++ xs2) (s0.A.toNat) (bitXor .i64 (rd xs2 s0.B) (rd xs2 s0.C))))))) (bcase (s0.Op == 7) (((0 ≤ s0.B ∧ s0.B < ((xs2.length : Nat) : Int)) ∧ ((0 ≤ s0.C ∧ s0.C < ((xs2.length : Nat) : Int)) ∧ (∀ r155, r155 = M.spec_LessWords (rd xs2 s0.B) (rd xs2 s0.C) → ((0 ≤ s0.A ∧ s0.A < (((([] : List Int) ++ xs2).length : Nat) : Int)) ∧ Q (List.set (([] : List Int) ++ xs2) (s0.A.toNat) r155)))))) (bcase (s0.Op == 8) (((0 ≤ s0.A ∧ s0.A < (((([] : List Int) ++ xs2).length : Nat) : Int)) ∧ Q (List.set (([] : List Int) ++ xs2) (s0.A.toNat) x1))) (bcase (s0.Op == 9) (((0 ≤ s0.C ∧ s0.C < ((xs2.length : Nat) : Int)) ∧ bcase ((rd xs2 s0.C) != 0) (((0 ≤ s0.B ∧ s0.B < ((xs2.length : Nat) : Int)) ∧ ((0 ≤ s0.A ∧ s0.A < (((([] : List Int) ++ xs2).length : Nat) : Int)) ∧ Q (List.set (([] : List Int) ++ xs2) (s0.A.toNat) (rd xs2 s0.B))))) (Q (([] : List Int) ++ xs2)))) (Q (([] : List Int) ++ xs2)))))))))))

def wp.spec_l10Step (xs0 : List D.Ins) (s1 : D.Lane) (Q : D.Lane → Prop) : Prop :=
  ((0 ≤ s1.Pc ∧ s1.Pc < ((xs0.length : Nat) : Int)) ∧ (M.spec_l10Next_pre xs0 s1.Pc s1.Regs ∧ ∀ r31, r31 = M.spec_l10Next xs0 s1.Pc s1.Regs → (M.spec_l10Apply_pre (rd xs0 s1.Pc) s1.Thread s1.Regs ∧ ∀ r36, r36 = M.spec_l10Apply (rd xs0 s1.Pc) s1.Thread s1.Regs → Q (⟨s1.Thread, r31, r36⟩ : D.Lane))))

def wp.spec_RunLane (xs0 : List D.Ins) (s1 : D.Lane) (x2 : Int) (Q : (D.Lane × Int) → Prop) : Prop :=
  (M.spec_l10Copy_pre s1 ∧ ∀ r25, r25 = M.spec_l10Copy s1 → (M.spec_IsQuiet_pre xs0 ∧ ∀ r36, r36 = M.spec_IsQuiet xs0 → bcase (!r36) (Q ((⟨r25.Thread, r25.Pc, r25.Regs⟩ : D.Lane), (-1))) ((M.spec_LaneOk_pre xs0 s1 ∧ ∀ r43, r43 = M.spec_LaneOk xs0 s1 → bcase (!r43) (Q ((⟨r25.Thread, r25.Pc, r25.Regs⟩ : D.Lane), (-1))) ((∀ r50, r50 = M.spec_l01In x2 0 1000 → bcase (!r50) (Q ((⟨r25.Thread, r25.Pc, r25.Regs⟩ : D.Lane), (-1))) (LoopP (σ := Int × Int × Int × (List Int) × Unit) (fun (p118 : Int × Int × Int × (List Int) × Unit) next98 => match p118 with | (i89, i90, i91, xs92, _) => bcase (decide (i89 < x2)) (bcase (decide (i91 < ((xs0.length : Nat) : Int))) ((M.spec_l10Step_pre xs0 (⟨i90, i91, xs92⟩ : D.Lane) ∧ ∀ r100, r100 = M.spec_l10Step xs0 (⟨i90, i91, xs92⟩ : D.Lane) → next98 ((IntKind.wrap .i64 (i89 + 1)), r100.Thread, r100.Pc, r100.Regs, ()))) (Q ((⟨i90, i91, xs92⟩ : D.Lane), i89))) (Q ((⟨i90, i91, xs92⟩ : D.Lane), i89))) (0, r25.Thread, r25.Pc, r25.Regs, ()))))))))

def wp.spec_StepsAlone (xs0 : List D.Ins) (x1 : Int) (Q : Int → Prop) : Prop :=
  (∀ r21, r21 = M.spec_LaneNew x1 → (M.spec_RunLane_pre xs0 r21 1000 ∧ ∀ r28, r28 = M.spec_RunLane xs0 r21 1000 → bcase (decide (r28.2 < 0)) (Q (-1)) (bcase (decide (r28.1.Pc < ((xs0.length : Nat) : Int))) (Q (-1)) (Q r28.2))))

def wp.impl_isThread (x0 : Int) (Q : Bool → Prop) : Prop :=
  (∀ r21, r21 = M.impl_within x0 0 23 → Q r21)

def wp.impl_LaneNew (x0 : Int) (Q : D.Lane → Prop) : Prop :=
  (∀ r23, r23 = M.impl_isThread x0 → bcase (!r23) (Q (⟨0, 0, ([] : List Int)⟩ : D.Lane)) (((0 ≤ (4 : Int) ∧ (4 : Int) ≤ 17179869184) ∧ Q (⟨x0, 0, (List.replicate ((4 : Int).toNat) (default : Int))⟩ : D.Lane))))

def wp.slices_Clone_int_int (xs0 : List Int) (Q : (List Int) → Prop) : Prop :=
  (∀ b21 : Bool, (b21 = true → xs0 = []) → bcase b21 (Q ([] : List Int)) (((([] : List Int).length + xs0.length ≤ 17179869184) ∧ Q (([] : List Int) ++ xs0))))

def wp.impl_copyLane (s0 : D.Lane) (Q : D.Lane → Prop) : Prop :=
  (M.slices_Clone_int_int_pre s0.Regs ∧ ∀ r25, r25 = M.slices_Clone_int_int s0.Regs → Q (⟨s0.Thread, s0.Pc, r25⟩ : D.Lane))

def wp.impl_formOf (x0 : Int) (Q : ByteArray → Prop) : Prop :=
  (∀ r21, r21 = M.impl_within x0 0 16 → bcase (!r21) (Q (⟨#[]⟩)) (((0 ≤ x0 ∧ x0 < ((([⟨#[45, 45, 45]⟩, ⟨#[82, 87, 45]⟩, ⟨#[82, 82, 45]⟩, ⟨#[82, 82, 82]⟩, ⟨#[82, 82, 82]⟩, ⟨#[82, 82, 82]⟩, ⟨#[82, 82, 82]⟩, ⟨#[82, 82, 82]⟩, ⟨#[82, 45, 45]⟩, ⟨#[82, 82, 82]⟩, ⟨#[82, 84, 45]⟩, ⟨#[45, 84, 45]⟩, ⟨#[45, 45, 45]⟩, ⟨#[82, 82, 45]⟩, ⟨#[82, 82, 45]⟩, ⟨#[82, 82, 45]⟩, ⟨#[45, 45, 45]⟩] : List ByteArray).length : Nat) : Int)) ∧ Q (rd ([⟨#[45, 45, 45]⟩, ⟨#[82, 87, 45]⟩, ⟨#[82, 82, 45]⟩, ⟨#[82, 82, 82]⟩, ⟨#[82, 82, 82]⟩, ⟨#[82, 82, 82]⟩, ⟨#[82, 82, 82]⟩, ⟨#[82, 82, 82]⟩, ⟨#[82, 45, 45]⟩, ⟨#[82, 82, 82]⟩, ⟨#[82, 84, 45]⟩, ⟨#[45, 84, 45]⟩, ⟨#[45, 45, 45]⟩, ⟨#[82, 82, 45]⟩, ⟨#[82, 82, 45]⟩, ⟨#[82, 82, 45]⟩, ⟨#[45, 45, 45]⟩] : List ByteArray) x0))))

def wp.impl_isReg (x0 : Int) (Q : Bool → Prop) : Prop :=
  (∀ r21, r21 = M.impl_within x0 0 3 → Q r21)

def wp.impl_isField (x0 : Int) (x1 : Int) (x2 : Int) (Q : Bool → Prop) : Prop :=
  bcase (x0 == 82) ((∀ r21, r21 = M.impl_isReg x1 → Q r21)) (bcase (x0 == 87) ((∀ r26, r26 = M.impl_IsWord x1 → Q r26)) (bcase (x0 == 84) ((∀ r31, r31 = M.impl_within x1 0 x2 → Q r31)) (Q (x1 == 0))))

def wp.impl_InsOk (s0 : D.Ins) (x1 : Int) (Q : Bool → Prop) : Prop :=
  (∀ r23, r23 = M.impl_formOf s0.Op → bcase (!(ByteArray.toList r23 == ByteArray.toList (⟨#[]⟩))) ((∀ r28, r28 = M.impl_within x1 0 32 → bcase r28 (((0 ≤ (0 : Int) ∧ (0 : Int) < ((ByteArray.size r23 : Nat) : Int)) ∧ (M.impl_isField_pre (bt r23 0) s0.A x1 ∧ ∀ r38, r38 = M.impl_isField (bt r23 0) s0.A x1 → bcase r38 (((0 ≤ (1 : Int) ∧ (1 : Int) < ((ByteArray.size r23 : Nat) : Int)) ∧ (M.impl_isField_pre (bt r23 1) s0.B x1 ∧ ∀ r48, r48 = M.impl_isField (bt r23 1) s0.B x1 → bcase r48 (((0 ≤ (2 : Int) ∧ (2 : Int) < ((ByteArray.size r23 : Nat) : Int)) ∧ (M.impl_isField_pre (bt r23 2) s0.C x1 ∧ ∀ r58, r58 = M.impl_isField (bt r23 2) s0.C x1 → Q r58))) (Q false)))) (Q false)))) (Q false))) (Q false))

def wp.impl_ProgramOk_1 (s0 : D.Ins) (xs1 : List D.Ins) (Q : Bool → Prop) : Prop :=
  (∀ r23, r23 = M.impl_InsOk s0 ((xs1.length : Nat) : Int) → Q (!r23))

def wp.slices_IndexFunc_impl_Ins_impl_Ins (xs0 : List D.Ins) (g1 : D.Ins → Bool) (D1 : D.Ins → Prop) (Q : Int → Prop) : Prop :=
  LoopP (σ := Int × Unit) (fun (p42 : Int × Unit) next25 => match p42 with | (i21, _) => bcase (decide (i21 < ((xs0.length : Nat) : Int))) (((0 ≤ i21 ∧ i21 < ((xs0.length : Nat) : Int)) ∧ (D1 (rd xs0 i21) ∧ ∀ r32, r32 = g1 (rd xs0 i21) → bcase r32 (Q i21) (next25 ((IntKind.wrap .i64 (i21 + 1)), ()))))) (Q (-1))) (0, ())

def wp.slices_ContainsFunc_impl_Ins_impl_Ins (xs0 : List D.Ins) (g1 : D.Ins → Bool) (D1 : D.Ins → Prop) (Q : Bool → Prop) : Prop :=
  (M.slices_IndexFunc_impl_Ins_impl_Ins_pre xs0 g1 D1 ∧ ∀ r21, r21 = M.slices_IndexFunc_impl_Ins_impl_Ins xs0 g1 → Q (decide (r21 ≥ 0)))

def wp.impl_ProgramOk (xs0 : List D.Ins) (Q : Bool → Prop) : Prop :=
  bcase (decide (((xs0.length : Nat) : Int) ≤ 32)) ((M.slices_ContainsFunc_impl_Ins_impl_Ins_pre xs0 (fun z0_ => M.impl_ProgramOk_1 z0_ xs0) (fun _ => True) ∧ ∀ r23, r23 = M.slices_ContainsFunc_impl_Ins_impl_Ins xs0 (fun z0_ => M.impl_ProgramOk_1 z0_ xs0) → Q (!r23))) (Q false)

def wp.impl_IsLocal (s0 : D.Ins) (Q : Bool → Prop) : Prop :=
  (∀ r23, r23 = M.impl_within s0.Op 0 12 → Q r23)

def wp.impl_IsQuiet_1 (s0 : D.Ins) (Q : Bool → Prop) : Prop :=
  (∀ r23, r23 = M.impl_IsLocal s0 → Q (!r23))

def wp.impl_IsQuiet (xs0 : List D.Ins) (Q : Bool → Prop) : Prop :=
  (M.impl_ProgramOk_pre xs0 ∧ ∀ r21, r21 = M.impl_ProgramOk xs0 → bcase r21 ((M.slices_ContainsFunc_impl_Ins_impl_Ins_pre xs0 (fun z0_ => M.impl_IsQuiet_1 z0_) (fun _ => True) ∧ ∀ r26, r26 = M.slices_ContainsFunc_impl_Ins_impl_Ins xs0 (fun z0_ => M.impl_IsQuiet_1 z0_) → Q (!r26))) (Q false))

def wp.impl_areRegs (xs0 : List Int) (Q : Bool → Prop) : Prop :=
  bcase (((xs0.length : Nat) : Int) == 4) ((M.impl_AreWords_pre xs0 ∧ ∀ r21, r21 = M.impl_AreWords xs0 → Q r21)) (Q false)

def wp.impl_isLaneOf (xs0 : List D.Ins) (s1 : D.Lane) (Q : Bool → Prop) : Prop :=
  (∀ r23, r23 = M.impl_isThread s1.Thread → bcase r23 ((∀ r28, r28 = M.impl_within s1.Pc 0 ((xs0.length : Nat) : Int) → bcase r28 ((∀ r33, r33 = M.impl_areRegs s1.Regs → Q r33)) (Q false))) (Q false))

def wp.impl_LaneOk (xs0 : List D.Ins) (s1 : D.Lane) (Q : Bool → Prop) : Prop :=
  (M.impl_ProgramOk_pre xs0 ∧ ∀ r23, r23 = M.impl_ProgramOk xs0 → bcase r23 ((M.impl_isLaneOf_pre xs0 s1 ∧ ∀ r28, r28 = M.impl_isLaneOf xs0 s1 → Q r28)) (Q false))

def wp.impl_SubWords (x0 : Int) (x1 : Int) (Q : Int → Prop) : Prop :=
  (∀ r21, r21 = M.impl_wrapped x0 x1 (IntKind.wrap .i64 (x0 - x1)) → Q r21)

def wp.impl_MulWords (x0 : Int) (x1 : Int) (Q : Int → Prop) : Prop :=
  (∀ r21, r21 = M.impl_wrapped x0 x1 (IntKind.wrap .i64 (x0 * x1)) → Q r21)

def wp.impl_LessWords (x0 : Int) (x1 : Int) (Q : Int → Prop) : Prop :=
  (∀ r21, r21 = M.impl_IsWord x0 → bcase r21 ((∀ r26, r26 = M.impl_IsWord x1 → bcase r26 (bcase (decide (x0 < x1)) (Q 1) (Q 0)) (Q 0))) (Q 0))

def wp.impl_apply (s0 : D.Ins) (x1 : Int) (xs2 : List Int) (Q : ((List Int)) → Prop) : Prop :=
  bcase (s0.Op == 1) (((0 ≤ s0.A ∧ s0.A < ((xs2.length : Nat) : Int)) ∧ Q (List.set xs2 (s0.A.toNat) s0.B))) (bcase (s0.Op == 2) (((0 ≤ s0.B ∧ s0.B < ((xs2.length : Nat) : Int)) ∧ ((0 ≤ s0.A ∧ s0.A < ((xs2.length : Nat) : Int)) ∧ Q (List.set xs2 (s0.A.toNat) (rd xs2 s0.B))))) (bcase (s0.Op == 3) (((0 ≤ s0.B ∧ s0.B < ((xs2.length : Nat) : Int)) ∧ ((0 ≤ s0.C ∧ s0.C < ((xs2.length : Nat) : Int)) ∧ (∀ r56, r56 = M.impl_AddWords (rd xs2 s0.B) (rd xs2 s0.C) → ((0 ≤ s0.A ∧ s0.A < ((xs2.length : Nat) : Int)) ∧ Q (List.set xs2 (s0.A.toNat) r56)))))) (bcase (s0.Op == 4) (((0 ≤ s0.B ∧ s0.B < ((xs2.length : Nat) : Int)) ∧ ((0 ≤ s0.C ∧ s0.C < ((xs2.length : Nat) : Int)) ∧ (∀ r80, r80 = M.impl_SubWords (rd xs2 s0.B) (rd xs2 s0.C) → ((0 ≤ s0.A ∧ s0.A < ((xs2.length : Nat) : Int)) ∧ Q (List.set xs2 (s0.A.toNat) r80)))))) (bcase (s0.Op == 5) (((0 ≤ s0.B ∧ s0.B < ((xs2.length : Nat) : Int)) ∧ ((0 ≤ s0.C ∧ s0.C < ((xs2.length : Nat) : Int)) ∧ (∀ r104, r104 = M.impl_MulWords (rd xs2 s0.B) (rd xs2 s0.C) → ((0 ≤ s0.A ∧ s0.A < ((xs2.length : Nat) : Int)) ∧ Q (List.set xs2 (s0.A.toNat) r104)))))) (bcase (s0.Op == 6) (((0 ≤ s0.B ∧ s0.B < ((xs2.length : Nat) : Int)) ∧ ((0 ≤ s0.C ∧ s0.C < ((xs2.length : Nat) : Int)) ∧ ((0 ≤ s0.A ∧ s0.A < ((xs2.length : Nat) : Int)) ∧ Q (List.set xs2 (s0.A.toNat) (bitXor .i64 (rd xs2 s0.B) (rd xs2 s0.C))))))) (bcase (s0.Op == 7) (((0 ≤ s0.B ∧ s0.B < ((xs2.length : Nat) : Int)) ∧ ((0 ≤ s0.C ∧ s0.C < ((xs2.length : Nat) : Int)) ∧ (∀ r147, r147 = M.impl_LessWords (rd xs2 s0.B) (rd xs2 s0.C) → ((0 ≤ s0.A ∧ s0.A < ((xs2.length : Nat) : Int)) ∧ Q (List.set xs2 (s0.A.toNat) r147)))))) (bcase (s0.Op == 8) (((0 ≤ s0.A ∧ s0.A < ((xs2.length : Nat) : Int)) ∧ Q (List.set xs2 (s0.A.toNat) x1))) (bcase (s0.Op == 9) (((0 ≤ s0.C ∧ s0.C < ((xs2.length : Nat) : Int)) ∧ bcase ((rd xs2 s0.C) != 0) (((0 ≤ s0.B ∧ s0.B < ((xs2.length : Nat) : Int)) ∧ ((0 ≤ s0.A ∧ s0.A < ((xs2.length : Nat) : Int)) ∧ Q (List.set xs2 (s0.A.toNat) (rd xs2 s0.B))))) (Q xs2))) (Q xs2)))))))))

def wp.impl_Lane_pass (s0 : D.Lane) (xs1 : List D.Ins) (Q : (Bool × D.Lane) → Prop) : Prop :=
  bcase (s0.Pc == ((xs1.length : Nat) : Int)) (Q (false, (⟨s0.Thread, s0.Pc, s0.Regs⟩ : D.Lane))) (((0 ≤ s0.Pc ∧ s0.Pc < ((xs1.length : Nat) : Int)) ∧ (∀ r26, r26 = M.impl_IsLocal (rd xs1 s0.Pc) → bcase (!r26) (Q (false, (⟨s0.Thread, s0.Pc, s0.Regs⟩ : D.Lane))) (((0 ≤ s0.Pc ∧ s0.Pc < ((xs1.length : Nat) : Int)) ∧ bcase ((rd xs1 s0.Pc).Op == 12) (Q (true, (⟨s0.Thread, ((xs1.length : Nat) : Int), s0.Regs⟩ : D.Lane))) (JoinP (σ := Bool × Unit) (fun J43 => bcase ((rd xs1 s0.Pc).Op == 11) (J43 (true, ())) (bcase ((rd xs1 s0.Pc).Op == 10) (((0 ≤ (rd xs1 s0.Pc).A ∧ (rd xs1 s0.Pc).A < ((s0.Regs.length : Nat) : Int)) ∧ J43 (((rd s0.Regs ((rd xs1 s0.Pc).A)) == 0), ()))) (J43 (false, ())))) (fun (p72 : Bool × Unit) => match p72 with | (b42, _) => bcase b42 (Q (true, (⟨s0.Thread, (rd xs1 s0.Pc).B, s0.Regs⟩ : D.Lane))) ((M.impl_apply_pre (rd xs1 s0.Pc) s0.Thread s0.Regs ∧ ∀ r63, r63 = M.impl_apply (rd xs1 s0.Pc) s0.Thread s0.Regs → Q (true, (⟨s0.Thread, (IntKind.wrap .i64 (s0.Pc + 1)), r63⟩ : D.Lane)))))))))))

def wp.impl_RunLane (xs0 : List D.Ins) (s1 : D.Lane) (x2 : Int) (Q : (D.Lane × Int) → Prop) : Prop :=
  (M.impl_copyLane_pre s1 ∧ ∀ r25, r25 = M.impl_copyLane s1 → (M.impl_IsQuiet_pre xs0 ∧ ∀ r36, r36 = M.impl_IsQuiet xs0 → bcase (!r36) (Q ((⟨r25.Thread, r25.Pc, r25.Regs⟩ : D.Lane), (-1))) ((M.impl_LaneOk_pre xs0 s1 ∧ ∀ r43, r43 = M.impl_LaneOk xs0 s1 → bcase (!r43) (Q ((⟨r25.Thread, r25.Pc, r25.Regs⟩ : D.Lane), (-1))) ((∀ r50, r50 = M.impl_within x2 0 1000 → bcase (!r50) (Q ((⟨r25.Thread, r25.Pc, r25.Regs⟩ : D.Lane), (-1))) (LoopP (σ := Int × Int × Int × (List Int) × Unit) (fun (p97 : Int × Int × Int × (List Int) × Unit) next79 => match p97 with | (i70, i71, i72, xs73, _) => bcase (decide (i70 < x2)) ((M.impl_Lane_pass_pre (⟨i71, i72, xs73⟩ : D.Lane) xs0 ∧ ∀ r81, r81 = M.impl_Lane_pass (⟨i71, i72, xs73⟩ : D.Lane) xs0 → bcase r81.1 (next79 ((IntKind.wrap .i64 (i70 + 1)), r81.2.Thread, r81.2.Pc, r81.2.Regs, ())) (Q ((⟨r81.2.Thread, r81.2.Pc, r81.2.Regs⟩ : D.Lane), i70)))) (Q ((⟨i71, i72, xs73⟩ : D.Lane), i70))) (0, r25.Thread, r25.Pc, r25.Regs, ()))))))))

def wp.impl_alone (xs0 : List D.Ins) (x1 : Int) (Q : (D.Lane × Int × Bool) → Prop) : Prop :=
  (∀ r23, r23 = M.impl_isThread x1 → bcase (!r23) (Q ((⟨0, 0, ([] : List Int)⟩ : D.Lane), 0, false)) ((∀ r30, r30 = M.impl_LaneNew x1 → (M.impl_RunLane_pre xs0 r30 1000 ∧ ∀ r37, r37 = M.impl_RunLane xs0 r30 1000 → bcase (decide (r37.2 < 0)) (Q ((⟨0, 0, ([] : List Int)⟩ : D.Lane), 0, false)) (bcase (r37.1.Pc != ((xs0.length : Nat) : Int)) (Q ((⟨0, 0, ([] : List Int)⟩ : D.Lane), 0, false)) (Q ((⟨r37.1.Thread, r37.1.Pc, r37.1.Regs⟩ : D.Lane), r37.2, true)))))))

def wp.impl_StepsAlone (xs0 : List D.Ins) (x1 : Int) (Q : Int → Prop) : Prop :=
  (M.impl_alone_pre xs0 x1 ∧ ∀ r21, r21 = M.impl_alone xs0 x1 → bcase (!r21.2.2) (Q (-1)) (Q r21.2.1))

def wp.laws_FnExactStepsAlone (xs0 : List D.Ins) (x1 : Int) (Q : Bool → Prop) : Prop :=
  (M.laws_szInsS_pre xs0 1048576 ∧ ∀ r21, r21 = M.laws_szInsS xs0 1048576 → bcase (decide (r21 < 0)) (Q true) ((M.laws_toInsS_pre xs0 ∧ ∀ r26, r26 = M.laws_toInsS xs0 → (M.spec_StepsAlone_pre r26 x1 ∧ ∀ r33, r33 = M.spec_StepsAlone r26 x1 → (M.laws_toInsS_pre xs0 ∧ ∀ r38, r38 = M.laws_toInsS xs0 → (M.impl_StepsAlone_pre r38 x1 ∧ ∀ r45, r45 = M.impl_StepsAlone r38 x1 → bcase (r45 != r33) (Q false) ((M.laws_toInsS_pre xs0 ∧ ∀ r50, r50 = M.laws_toInsS xs0 → (M.laws_eqInsS_pre r38 r50 ∧ ∀ r57, r57 = M.laws_eqInsS r38 r50 → bcase (!r57) (Q false) (Q true))))))))))

end Go.V
