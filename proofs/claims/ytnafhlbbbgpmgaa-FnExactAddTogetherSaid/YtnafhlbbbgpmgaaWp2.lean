import Derived.Test.YtnafhlbbbgpmgaaPure
set_option linter.unusedVariables false
namespace Go.V

def wp.laws_markIntS (xs0 : List Int) (x1 : Int) (Q : (Int × (List Int)) → Prop) : Prop :=
  LoopP (σ := Int × Int × (List Int) × Unit) (fun (p37 : Int × Int × (List Int) × Unit) next23 => match p37 with | (i16, i17, xs18, _) => bcase (decide (i17 < ((xs0.length : Nat) : Int))) (((0 ≤ i17 ∧ i17 < ((xs18.length : Nat) : Int)) ∧ next23 ((IntKind.wrap .i64 (i16 + 1)), (IntKind.wrap .i64 (i17 + 1)), (List.set xs18 (i17.toNat) i16), ()))) (Q (i16, xs18))) (x1, 0, xs0, ())

def wp.laws_heldIntS (xs0 : List Int) (x1 : Int) (Q : Int → Prop) : Prop :=
  LoopP (σ := Int × Int × Unit) (fun (p18 : Int × Int × Unit) next6 => match p18 with | (i1, i2, _) => bcase (decide (i2 < ((xs0.length : Nat) : Int))) (((0 ≤ i2 ∧ i2 < ((xs0.length : Nat) : Int)) ∧ bcase ((rd xs0 i2) != i1) (Q (-1)) (next6 ((IntKind.wrap .i64 (i1 + 1)), (IntKind.wrap .i64 (i2 + 1)), ())))) (Q i1)) (x1, 0, ())

def wp.laws_markAccessS (xs0 : List D.Access) (x1 : Int) (Q : (Int × (List D.Access)) → Prop) : Prop :=
  LoopP (σ := Int × Int × (List D.Access) × Unit) (fun (p91 : Int × Int × (List D.Access) × Unit) next50 => match p91 with | (i43, i44, xs45, _) => bcase (decide (i44 < ((xs0.length : Nat) : Int))) (((0 ≤ i44 ∧ i44 < ((xs45.length : Nat) : Int)) ∧ ((0 ≤ i44 ∧ i44 < (((List.set xs45 (i44.toNat) (⟨i43, (rd xs45 i44).Warp, (rd xs45 i44).Address, (rd xs45 i44).Kind⟩ : D.Access)).length : Nat) : Int)) ∧ ((0 ≤ i44 ∧ i44 < (((List.set xs45 (i44.toNat) (⟨i43, (IntKind.wrap .i64 (i43 + 1)), (rd xs45 i44).Address, (rd xs45 i44).Kind⟩ : D.Access)).length : Nat) : Int)) ∧ ((0 ≤ i44 ∧ i44 < (((List.set xs45 (i44.toNat) (⟨i43, (IntKind.wrap .i64 (i43 + 1)), (IntKind.wrap .i64 ((IntKind.wrap .i64 (i43 + 1)) + 1)), (rd xs45 i44).Kind⟩ : D.Access)).length : Nat) : Int)) ∧ next50 ((IntKind.wrap .i64 ((IntKind.wrap .i64 ((IntKind.wrap .i64 ((IntKind.wrap .i64 (i43 + 1)) + 1)) + 1)) + 1)), (IntKind.wrap .i64 (i44 + 1)), (List.set xs45 (i44.toNat) (⟨i43, (IntKind.wrap .i64 (i43 + 1)), (IntKind.wrap .i64 ((IntKind.wrap .i64 (i43 + 1)) + 1)), (IntKind.wrap .i64 ((IntKind.wrap .i64 ((IntKind.wrap .i64 (i43 + 1)) + 1)) + 1))⟩ : D.Access)), ())))))) (Q (i43, xs45))) (x1, 0, xs0, ())

def wp.laws_heldAccessS (xs0 : List D.Access) (x1 : Int) (Q : Int → Prop) : Prop :=
  LoopP (σ := Int × Int × Unit) (fun (p36 : Int × Int × Unit) next6 => match p36 with | (i1, i2, _) => bcase (decide (i2 < ((xs0.length : Nat) : Int))) (((0 ≤ i2 ∧ i2 < ((xs0.length : Nat) : Int)) ∧ bcase ((rd xs0 i2).Phase != i1) (Q (-1)) (((0 ≤ i2 ∧ i2 < ((xs0.length : Nat) : Int)) ∧ bcase ((rd xs0 i2).Warp != (IntKind.wrap .i64 (i1 + 1))) (Q (-1)) (((0 ≤ i2 ∧ i2 < ((xs0.length : Nat) : Int)) ∧ bcase ((rd xs0 i2).Address != (IntKind.wrap .i64 ((IntKind.wrap .i64 (i1 + 1)) + 1))) (Q (-1)) (((0 ≤ i2 ∧ i2 < ((xs0.length : Nat) : Int)) ∧ bcase ((rd xs0 i2).Kind != (IntKind.wrap .i64 ((IntKind.wrap .i64 ((IntKind.wrap .i64 (i1 + 1)) + 1)) + 1))) (Q (-1)) (next6 ((IntKind.wrap .i64 ((IntKind.wrap .i64 ((IntKind.wrap .i64 ((IntKind.wrap .i64 (i1 + 1)) + 1)) + 1)) + 1)), (IntKind.wrap .i64 (i2 + 1)), ())))))))))) (Q i1)) (x1, 0, ())

def wp.laws_eqAccess (s0 : D.Access) (s1 : D.Access) (Q : Bool → Prop) : Prop :=
  bcase (s0.Phase != s1.Phase) (Q false) (bcase (s0.Warp != s1.Warp) (Q false) (bcase (s0.Address != s1.Address) (Q false) (bcase (s0.Kind != s1.Kind) (Q false) (Q true))))

def wp.laws_eqAccessS (xs0 : List D.Access) (xs1 : List D.Access) (Q : Bool → Prop) : Prop :=
  bcase (((xs0.length : Nat) : Int) != ((xs1.length : Nat) : Int)) (Q false) (LoopP (σ := Int × Unit) (fun (p28 : Int × Unit) next5 => match p28 with | (i1, _) => bcase (decide (i1 < ((xs0.length : Nat) : Int))) (((0 ≤ i1 ∧ i1 < ((xs0.length : Nat) : Int)) ∧ ((0 ≤ i1 ∧ i1 < ((xs1.length : Nat) : Int)) ∧ (∀ r18, r18 = M.laws_eqAccess (rd xs0 i1) (rd xs1 i1) → bcase (!r18) (Q false) (next5 ((IntKind.wrap .i64 (i1 + 1)), ())))))) (Q true)) (0, ()))

end Go.V
