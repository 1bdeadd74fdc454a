import Derived.Test.YtnbkmenlaogblaaPure
set_option linter.unusedVariables false
namespace Go.V

def wp.laws_markIntS (xs0 : List Int) (x1 : Int) (Q : (Int × (List Int)) → Prop) : Prop :=
  LoopP (σ := Int × Int × (List Int) × Unit) (fun (p57 : Int × Int × (List Int) × Unit) next43 => match p57 with | (i36, i37, xs38, _) => bcase (decide (i37 < ((xs0.length : Nat) : Int))) (((0 ≤ i37 ∧ i37 < ((xs38.length : Nat) : Int)) ∧ next43 ((IntKind.wrap .i64 (i36 + 1)), (IntKind.wrap .i64 (i37 + 1)), (List.set xs38 (i37.toNat) i36), ()))) (Q (i36, xs38))) (x1, 0, xs0, ())

def wp.laws_heldIntS (xs0 : List Int) (x1 : Int) (Q : Int → Prop) : Prop :=
  LoopP (σ := Int × Int × Unit) (fun (p38 : Int × Int × Unit) next26 => match p38 with | (i21, i22, _) => bcase (decide (i22 < ((xs0.length : Nat) : Int))) (((0 ≤ i22 ∧ i22 < ((xs0.length : Nat) : Int)) ∧ bcase ((rd xs0 i22) != i21) (Q (-1)) (next26 ((IntKind.wrap .i64 (i21 + 1)), (IntKind.wrap .i64 (i22 + 1)), ())))) (Q i21)) (x1, 0, ())

def wp.laws_markAccessS (xs0 : List D.Access) (x1 : Int) (Q : (Int × (List D.Access)) → Prop) : Prop :=
  LoopP (σ := Int × Int × (List D.Access) × Unit) (fun (p111 : Int × Int × (List D.Access) × Unit) next70 => match p111 with | (i63, i64, xs65, _) => bcase (decide (i64 < ((xs0.length : Nat) : Int))) (((0 ≤ i64 ∧ i64 < ((xs65.length : Nat) : Int)) ∧ ((0 ≤ i64 ∧ i64 < (((List.set xs65 (i64.toNat) (⟨i63, (rd xs65 i64).Warp, (rd xs65 i64).Address, (rd xs65 i64).Kind⟩ : D.Access)).length : Nat) : Int)) ∧ ((0 ≤ i64 ∧ i64 < (((List.set xs65 (i64.toNat) (⟨i63, (IntKind.wrap .i64 (i63 + 1)), (rd xs65 i64).Address, (rd xs65 i64).Kind⟩ : D.Access)).length : Nat) : Int)) ∧ ((0 ≤ i64 ∧ i64 < (((List.set xs65 (i64.toNat) (⟨i63, (IntKind.wrap .i64 (i63 + 1)), (IntKind.wrap .i64 ((IntKind.wrap .i64 (i63 + 1)) + 1)), (rd xs65 i64).Kind⟩ : D.Access)).length : Nat) : Int)) ∧ next70 ((IntKind.wrap .i64 ((IntKind.wrap .i64 ((IntKind.wrap .i64 ((IntKind.wrap .i64 (i63 + 1)) + 1)) + 1)) + 1)), (IntKind.wrap .i64 (i64 + 1)), (List.set xs65 (i64.toNat) (⟨i63, (IntKind.wrap .i64 (i63 + 1)), (IntKind.wrap .i64 ((IntKind.wrap .i64 (i63 + 1)) + 1)), (IntKind.wrap .i64 ((IntKind.wrap .i64 ((IntKind.wrap .i64 (i63 + 1)) + 1)) + 1))⟩ : D.Access)), ())))))) (Q (i63, xs65))) (x1, 0, xs0, ())

def wp.laws_heldAccessS (xs0 : List D.Access) (x1 : Int) (Q : Int → Prop) : Prop :=
  LoopP (σ := Int × Int × Unit) (fun (p56 : Int × Int × Unit) next26 => match p56 with | (i21, i22, _) => bcase (decide (i22 < ((xs0.length : Nat) : Int))) (((0 ≤ i22 ∧ i22 < ((xs0.length : Nat) : Int)) ∧ bcase ((rd xs0 i22).Phase != i21) (Q (-1)) (((0 ≤ i22 ∧ i22 < ((xs0.length : Nat) : Int)) ∧ bcase ((rd xs0 i22).Warp != (IntKind.wrap .i64 (i21 + 1))) (Q (-1)) (((0 ≤ i22 ∧ i22 < ((xs0.length : Nat) : Int)) ∧ bcase ((rd xs0 i22).Address != (IntKind.wrap .i64 ((IntKind.wrap .i64 (i21 + 1)) + 1))) (Q (-1)) (((0 ≤ i22 ∧ i22 < ((xs0.length : Nat) : Int)) ∧ bcase ((rd xs0 i22).Kind != (IntKind.wrap .i64 ((IntKind.wrap .i64 ((IntKind.wrap .i64 (i21 + 1)) + 1)) + 1))) (Q (-1)) (next26 ((IntKind.wrap .i64 ((IntKind.wrap .i64 ((IntKind.wrap .i64 ((IntKind.wrap .i64 (i21 + 1)) + 1)) + 1)) + 1)), (IntKind.wrap .i64 (i22 + 1)), ())))))))))) (Q i21)) (x1, 0, ())

def wp.laws_eqAccess (s0 : D.Access) (s1 : D.Access) (Q : Bool → Prop) : Prop :=
  bcase (s0.Phase != s1.Phase) (Q false) (bcase (s0.Warp != s1.Warp) (Q false) (bcase (s0.Address != s1.Address) (Q false) (bcase (s0.Kind != s1.Kind) (Q false) (Q true))))

def wp.laws_eqAccessS (xs0 : List D.Access) (xs1 : List D.Access) (Q : Bool → Prop) : Prop :=
  bcase (((xs0.length : Nat) : Int) != ((xs1.length : Nat) : Int)) (Q false) (LoopP (σ := Int × Unit) (fun (p48 : Int × Unit) next25 => match p48 with | (i21, _) => bcase (decide (i21 < ((xs0.length : Nat) : Int))) (((0 ≤ i21 ∧ i21 < ((xs0.length : Nat) : Int)) ∧ ((0 ≤ i21 ∧ i21 < ((xs1.length : Nat) : Int)) ∧ (∀ r38, r38 = M.laws_eqAccess (rd xs0 i21) (rd xs1 i21) → bcase (!r38) (Q false) (next25 ((IntKind.wrap .i64 (i21 + 1)), ())))))) (Q true)) (0, ()))

end Go.V
