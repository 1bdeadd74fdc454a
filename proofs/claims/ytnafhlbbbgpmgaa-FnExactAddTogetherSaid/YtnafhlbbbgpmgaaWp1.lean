import Derived.Test.YtnafhlbbbgpmgaaPure
set_option linter.unusedVariables false
namespace Go.V

def wp.impl_within (x0 : Int) (x1 : Int) (x2 : Int) (Q : Bool → Prop) : Prop :=
  bcase (decide (x0 ≥ x1)) (Q (decide (x0 ≤ x2))) (Q false)

def wp.spec_l01In (x0 : Int) (x1 : Int) (x2 : Int) (Q : Bool → Prop) : Prop :=
  bcase (decide (x0 ≥ x1)) (Q (decide (x0 ≤ x2))) (Q false)

def wp.impl_IsWord (x0 : Int) (Q : Bool → Prop) : Prop :=
  (∀ r1, r1 = M.impl_within x0 0 65535 → Q r1)

def wp.spec_IsWord (x0 : Int) (Q : Bool → Prop) : Prop :=
  (∀ r1, r1 = M.spec_l01In x0 0 65535 → Q r1)

def wp.impl_IsMask (x0 : Int) (Q : Bool → Prop) : Prop :=
  (∀ r1, r1 = M.impl_within x0 0 255 → Q r1)

def wp.impl_isLane (x0 : Int) (Q : Bool → Prop) : Prop :=
  (∀ r1, r1 = M.impl_within x0 0 7 → Q r1)

def wp.impl_HasLane (x0 : Int) (x1 : Int) (Q : Bool → Prop) : Prop :=
  (∀ r1, r1 = M.impl_IsMask x0 → bcase r1 ((∀ r6, r6 = M.impl_isLane x1 → bcase r6 (((0 ≤ x1) ∧ Q ((bitAnd .i64 (Int.fdiv x0 (2 ^ (min (x1.toNat) (IntKind.bits .i64)))) 1) == 1))) (Q false))) (Q false))

def wp.impl_LanesOf (x0 : Int) (Q : (List Int) → Prop) : Prop :=
  LoopP (σ := (List Int) × Int × Unit) (fun (p34 : (List Int) × Int × Unit) next11 => match p34 with | (xs4, i7, _) => bcase (decide (i7 < 8)) ((∀ r13, r13 = M.impl_HasLane x0 i7 → bcase r13 (((xs4.length + ([i7] : List Int).length ≤ 17179869184) ∧ next11 ((xs4 ++ ([i7] : List Int)), (IntKind.wrap .i64 (i7 + 1)), ()))) (next11 (xs4, (IntKind.wrap .i64 (i7 + 1)), ())))) (Q xs4)) (([] : List Int), 0, ())

def wp.spec_AreWords (xs0 : List Int) (Q : Bool → Prop) : Prop :=
  LoopP (σ := Int × Unit) (fun (p22 : Int × Unit) next5 => match p22 with | (i1, _) => bcase (decide (i1 < ((xs0.length : Nat) : Int))) (((0 ≤ i1 ∧ i1 < ((xs0.length : Nat) : Int)) ∧ (∀ r12, r12 = M.spec_IsWord (rd xs0 i1) → bcase (!r12) (Q false) (next5 ((IntKind.wrap .i64 (i1 + 1)), ()))))) (Q true)) (0, ())

def wp.laws_eqIntS (xs0 : List Int) (xs1 : List Int) (Q : Bool → Prop) : Prop :=
  bcase (((xs0.length : Nat) : Int) != ((xs1.length : Nat) : Int)) (Q false) (LoopP (σ := Int × Unit) (fun (p23 : Int × Unit) next5 => match p23 with | (i1, _) => bcase (decide (i1 < ((xs0.length : Nat) : Int))) (((0 ≤ i1 ∧ i1 < ((xs0.length : Nat) : Int)) ∧ ((0 ≤ i1 ∧ i1 < ((xs1.length : Nat) : Int)) ∧ bcase ((rd xs0 i1) != (rd xs1 i1)) (Q false) (next5 ((IntKind.wrap .i64 (i1 + 1)), ()))))) (Q true)) (0, ()))

def wp.laws_toIntS (xs0 : List Int) (Q : (List Int) → Prop) : Prop :=
  ((0 ≤ ((xs0.length : Nat) : Int) ∧ ((xs0.length : Nat) : Int) ≤ 17179869184) ∧ LoopP (σ := Int × (List Int) × Unit) (fun (p50 : Int × (List Int) × Unit) next31 => match p50 with | (i25, xs26, _) => bcase (decide (i25 < ((xs0.length : Nat) : Int))) (((0 ≤ i25 ∧ i25 < ((xs0.length : Nat) : Int)) ∧ ((0 ≤ i25 ∧ i25 < ((xs26.length : Nat) : Int)) ∧ next31 ((IntKind.wrap .i64 (i25 + 1)), (List.set xs26 (i25.toNat) (rd xs0 i25)), ())))) (Q xs26)) (0, (List.replicate (((xs0.length : Nat) : Int).toNat) (default : Int)), ()))

def wp.laws_toAccess (s0 : D.Access) (Q : D.Access → Prop) : Prop :=
  Q (⟨s0.Phase, s0.Warp, s0.Address, s0.Kind⟩ : D.Access)

def wp.impl_IsRace (s0 : D.Access) (s1 : D.Access) (Q : Bool → Prop) : Prop :=
  JoinP (σ := Bool × Unit) (fun J6 => bcase (s0.Kind == s1.Kind) (bcase (s0.Kind == 13) (J6 (true, ())) (J6 ((s0.Kind == 15), ()))) (J6 (false, ()))) (fun (p14 : Bool × Unit) => match p14 with | (b5, _) => bcase (s0.Phase == s1.Phase) (bcase (s0.Address == s1.Address) (bcase (s0.Warp != s1.Warp) (Q (!b5)) (Q false)) (Q false)) (Q false))

def wp.spec_IsRace (s0 : D.Access) (s1 : D.Access) (Q : Bool → Prop) : Prop :=
  bcase (s0.Phase != s1.Phase) (Q false) (bcase (s0.Address != s1.Address) (Q false) (bcase (s0.Warp == s1.Warp) (Q false) (bcase (s0.Kind != s1.Kind) (Q true) (bcase (s0.Kind != 13) (Q (s0.Kind != 15)) (Q false)))))

def wp.laws_szAccessS (xs0 : List D.Access) (x1 : Int) (Q : Int → Prop) : Prop :=
  bcase (decide ((IntKind.wrap .i64 (x1 - ((xs0.length : Nat) : Int))) < 0)) (Q (-1)) (Q (IntKind.wrap .i64 (x1 - ((xs0.length : Nat) : Int))))

def wp.laws_toAccessS (xs0 : List D.Access) (Q : (List D.Access) → Prop) : Prop :=
  ((0 ≤ ((xs0.length : Nat) : Int) ∧ ((xs0.length : Nat) : Int) ≤ 17179869184) ∧ LoopP (σ := Int × (List D.Access) × Unit) (fun (p60 : Int × (List D.Access) × Unit) next36 => match p60 with | (i30, xs31, _) => bcase (decide (i30 < ((xs0.length : Nat) : Int))) (((0 ≤ i30 ∧ i30 < ((xs0.length : Nat) : Int)) ∧ (∀ r43, r43 = M.laws_toAccess (rd xs0 i30) → ((0 ≤ i30 ∧ i30 < ((xs31.length : Nat) : Int)) ∧ next36 ((IntKind.wrap .i64 (i30 + 1)), (List.set xs31 (i30.toNat) (⟨r43.Phase, r43.Warp, r43.Address, r43.Kind⟩ : D.Access)), ()))))) (Q xs31)) (0, (List.replicate (((xs0.length : Nat) : Int).toNat) (default : D.Access)), ()))

def wp.laws_FnExactIsRace (s0 : D.Access) (s1 : D.Access) (Q : Bool → Prop) : Prop :=
  (∀ r6, r6 = M.laws_toAccess s0 → (∀ r11, r11 = M.laws_toAccess s1 → (∀ r16, r16 = M.spec_IsRace r6 r11 → (∀ r22, r22 = M.laws_toAccess s0 → (∀ r27, r27 = M.laws_toAccess s1 → (∀ r32, r32 = M.impl_IsRace r22 r27 → bcase (!(r32 == r16)) (Q false) (Q true)))))))

end Go.V
