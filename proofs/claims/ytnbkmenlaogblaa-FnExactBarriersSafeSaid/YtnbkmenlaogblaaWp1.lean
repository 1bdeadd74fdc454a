import Derived.Test.YtnbkmenlaogblaaPure
set_option linter.unusedVariables false
namespace Go.V

def wp.impl_within (x0 : Int) (x1 : Int) (x2 : Int) (Q : Bool → Prop) : Prop :=
  bcase (decide (x0 ≥ x1)) (Q (decide (x0 ≤ x2))) (Q false)

def wp.spec_l01In (x0 : Int) (x1 : Int) (x2 : Int) (Q : Bool → Prop) : Prop :=
  bcase (decide (x0 ≥ x1)) (Q (decide (x0 ≤ x2))) (Q false)

def wp.impl_IsWord (x0 : Int) (Q : Bool → Prop) : Prop :=
  (∀ r21, r21 = M.impl_within x0 0 65535 → Q r21)

def wp.spec_IsWord (x0 : Int) (Q : Bool → Prop) : Prop :=
  (∀ r21, r21 = M.spec_l01In x0 0 65535 → Q r21)

def wp.impl_IsMask (x0 : Int) (Q : Bool → Prop) : Prop :=
  (∀ r21, r21 = M.impl_within x0 0 255 → Q r21)

def wp.impl_isLane (x0 : Int) (Q : Bool → Prop) : Prop :=
  (∀ r21, r21 = M.impl_within x0 0 7 → Q r21)

def wp.impl_HasLane (x0 : Int) (x1 : Int) (Q : Bool → Prop) : Prop :=
  (∀ r21, r21 = M.impl_IsMask x0 → bcase r21 ((∀ r26, r26 = M.impl_isLane x1 → bcase r26 (((0 ≤ x1) ∧ Q ((bitAnd .i64 (Int.fdiv x0 (2 ^ (min (x1.toNat) (IntKind.bits .i64)))) 1) == 1))) (Q false))) (Q false))

def wp.impl_LanesOf (x0 : Int) (Q : (List Int) → Prop) : Prop :=
  LoopP (σ := (List Int) × Int × Unit) (fun (p54 : (List Int) × Int × Unit) next31 => match p54 with | (xs24, i27, _) => bcase (decide (i27 < 8)) ((∀ r33, r33 = M.impl_HasLane x0 i27 → bcase r33 (((xs24.length + ([i27] : List Int).length ≤ 17179869184) ∧ next31 ((xs24 ++ ([i27] : List Int)), (IntKind.wrap .i64 (i27 + 1)), ()))) (next31 (xs24, (IntKind.wrap .i64 (i27 + 1)), ())))) (Q xs24)) (([] : List Int), 0, ())

def wp.spec_AreWords (xs0 : List Int) (Q : Bool → Prop) : Prop :=
  LoopP (σ := Int × Unit) (fun (p42 : Int × Unit) next25 => match p42 with | (i21, _) => bcase (decide (i21 < ((xs0.length : Nat) : Int))) (((0 ≤ i21 ∧ i21 < ((xs0.length : Nat) : Int)) ∧ (∀ r32, r32 = M.spec_IsWord (rd xs0 i21) → bcase (!r32) (Q false) (next25 ((IntKind.wrap .i64 (i21 + 1)), ()))))) (Q true)) (0, ())

def wp.laws_eqIntS (xs0 : List Int) (xs1 : List Int) (Q : Bool → Prop) : Prop :=
  bcase (((xs0.length : Nat) : Int) != ((xs1.length : Nat) : Int)) (Q false) (LoopP (σ := Int × Unit) (fun (p43 : Int × Unit) next25 => match p43 with | (i21, _) => bcase (decide (i21 < ((xs0.length : Nat) : Int))) (((0 ≤ i21 ∧ i21 < ((xs0.length : Nat) : Int)) ∧ ((0 ≤ i21 ∧ i21 < ((xs1.length : Nat) : Int)) ∧ bcase ((rd xs0 i21) != (rd xs1 i21)) (Q false) (next25 ((IntKind.wrap .i64 (i21 + 1)), ()))))) (Q true)) (0, ()))

def wp.laws_toIntS (xs0 : List Int) (Q : (List Int) → Prop) : Prop :=
  ((0 ≤ ((xs0.length : Nat) : Int) ∧ ((xs0.length : Nat) : Int) ≤ 17179869184) ∧ LoopP (σ := Int × (List Int) × Unit) (fun (p70 : Int × (List Int) × Unit) next51 => match p70 with | (i45, xs46, _) => bcase (decide (i45 < ((xs0.length : Nat) : Int))) (((0 ≤ i45 ∧ i45 < ((xs0.length : Nat) : Int)) ∧ ((0 ≤ i45 ∧ i45 < ((xs46.length : Nat) : Int)) ∧ next51 ((IntKind.wrap .i64 (i45 + 1)), (List.set xs46 (i45.toNat) (rd xs0 i45)), ())))) (Q xs46)) (0, (List.replicate (((xs0.length : Nat) : Int).toNat) (default : Int)), ()))

def wp.laws_toAccess (s0 : D.Access) (Q : D.Access → Prop) : Prop :=
  Q (⟨s0.Phase, s0.Warp, s0.Address, s0.Kind⟩ : D.Access)

def wp.impl_IsRace (s0 : D.Access) (s1 : D.Access) (Q : Bool → Prop) : Prop :=
  JoinP (σ := Bool × Unit) (fun J26 => bcase (s0.Kind == s1.Kind) (bcase (s0.Kind == 13) (J26 (true, ())) (J26 ((s0.Kind == 15), ()))) (J26 (false, ()))) (fun (p34 : Bool × Unit) => match p34 with | (b25, _) => bcase (s0.Phase == s1.Phase) (bcase (s0.Address == s1.Address) (bcase (s0.Warp != s1.Warp) (Q (!b25)) (Q false)) (Q false)) (Q false))

def wp.spec_IsRace (s0 : D.Access) (s1 : D.Access) (Q : Bool → Prop) : Prop :=
  bcase (s0.Phase != s1.Phase) (Q false) (bcase (s0.Address != s1.Address) (Q false) (bcase (s0.Warp == s1.Warp) (Q false) (bcase (s0.Kind != s1.Kind) (Q true) (bcase (s0.Kind != 13) (Q (s0.Kind != 15)) (Q false)))))

def wp.laws_szAccessS (xs0 : List D.Access) (x1 : Int) (Q : Int → Prop) : Prop :=
  bcase (decide ((IntKind.wrap .i64 (x1 - ((xs0.length : Nat) : Int))) < 0)) (Q (-1)) (Q (IntKind.wrap .i64 (x1 - ((xs0.length : Nat) : Int))))

def wp.laws_toAccessS (xs0 : List D.Access) (Q : (List D.Access) → Prop) : Prop :=
  ((0 ≤ ((xs0.length : Nat) : Int) ∧ ((xs0.length : Nat) : Int) ≤ 17179869184) ∧ LoopP (σ := Int × (List D.Access) × Unit) (fun (p80 : Int × (List D.Access) × Unit) next56 => match p80 with | (i50, xs51, _) => bcase (decide (i50 < ((xs0.length : Nat) : Int))) (((0 ≤ i50 ∧ i50 < ((xs0.length : Nat) : Int)) ∧ (∀ r63, r63 = M.laws_toAccess (rd xs0 i50) → ((0 ≤ i50 ∧ i50 < ((xs51.length : Nat) : Int)) ∧ next56 ((IntKind.wrap .i64 (i50 + 1)), (List.set xs51 (i50.toNat) (⟨r63.Phase, r63.Warp, r63.Address, r63.Kind⟩ : D.Access)), ()))))) (Q xs51)) (0, (List.replicate (((xs0.length : Nat) : Int).toNat) (default : D.Access)), ()))

def wp.laws_FnExactIsRace (s0 : D.Access) (s1 : D.Access) (Q : Bool → Prop) : Prop :=
  (∀ r26, r26 = M.laws_toAccess s0 → (∀ r31, r31 = M.laws_toAccess s1 → (∀ r36, r36 = M.spec_IsRace r26 r31 → (∀ r42, r42 = M.laws_toAccess s0 → (∀ r47, r47 = M.laws_toAccess s1 → (∀ r52, r52 = M.impl_IsRace r42 r47 → bcase (!(r52 == r36)) (Q false) (Q true)))))))

end Go.V
