import Derived.Test.YtnafhlbbbgpmgaaPure
set_option linter.unusedVariables false
namespace Go.V

def wp.impl_ones  (Q : (List Int) → Prop) : Prop :=
  (M.slices_Repeat_int_int_pre ([1] : List Int) 8 ∧ ∀ r24, r24 = M.slices_Repeat_int_int ([1] : List Int) 8 → Q r24)

def wp.spec_TicketsOf (x0 : Int) (xs1 : List Int) (Q : ((List Int) × Bool) → Prop) : Prop :=
  (M.spec_AddInOrder_pre x0 ([1, 1, 1, 1, 1, 1, 1, 1] : List Int) xs1 ∧ ∀ r24, r24 = M.spec_AddInOrder x0 ([1, 1, 1, 1, 1, 1, 1, 1] : List Int) xs1 → Q (r24.1, r24.2.2))

def wp.impl_TicketsOf (x0 : Int) (xs1 : List Int) (Q : ((List Int) × Bool) → Prop) : Prop :=
  (∀ r21, r21 = M.impl_ones → (M.impl_AddInOrder_pre x0 r21 xs1 ∧ ∀ r28, r28 = M.impl_AddInOrder x0 r21 xs1 → Q (r28.1, r28.2.2)))

def wp.laws_FnExactTicketsOf (x0 : Int) (xs1 : List Int) (Q : Bool → Prop) : Prop :=
  bcase (decide (((xs1.length : Nat) : Int) > 1048576)) (Q true) ((M.laws_toIntS_pre xs1 ∧ ∀ r21, r21 = M.laws_toIntS xs1 → (M.spec_TicketsOf_pre x0 r21 ∧ ∀ r28, r28 = M.spec_TicketsOf x0 r21 → (M.laws_toIntS_pre xs1 ∧ ∀ r35, r35 = M.laws_toIntS xs1 → (M.impl_TicketsOf_pre x0 r35 ∧ ∀ r42, r42 = M.impl_TicketsOf x0 r35 → (M.laws_eqIntS_pre r42.1 r28.1 ∧ ∀ r49, r49 = M.laws_eqIntS r42.1 r28.1 → bcase (!r49) (Q false) (bcase (!(r42.2 == r28.2)) (Q false) ((M.laws_toIntS_pre xs1 ∧ ∀ r54, r54 = M.laws_toIntS xs1 → (M.laws_eqIntS_pre r35 r54 ∧ ∀ r61, r61 = M.laws_eqIntS r35 r54 → bcase (!r61) (Q false) ((M.laws_markIntS_pre r35 1 ∧ ∀ r66, r66 = M.laws_markIntS r35 1 → bcase (decide (r66.1 < 0)) (Q false) ((M.laws_eqIntS_pre r42.1 r28.1 ∧ ∀ r72, r72 = M.laws_eqIntS r42.1 r28.1 → bcase (!r72) (Q false) (bcase (!(r42.2 == r28.2)) (Q false) ((M.laws_markIntS_pre r42.1 1 ∧ ∀ r77, r77 = M.laws_markIntS r42.1 1 → (M.laws_heldIntS_pre r77.2 1 ∧ ∀ r83, r83 = M.laws_heldIntS r77.2 1 → bcase (decide (r83 < 0)) (Q false) (bcase (r83 != r77.1) (Q false) ((M.laws_toIntS_pre xs1 ∧ ∀ r88, r88 = M.laws_toIntS xs1 → (M.impl_TicketsOf_pre x0 r88 ∧ ∀ r95, r95 = M.impl_TicketsOf x0 r88 → (M.laws_eqIntS_pre r95.1 r28.1 ∧ ∀ r102, r102 = M.laws_eqIntS r95.1 r28.1 → bcase (!r102) (Q false) (bcase (!(r95.2 == r28.2)) (Q false) ((M.laws_heldIntS_pre r77.2 1 ∧ ∀ r107, r107 = M.laws_heldIntS r77.2 1 → bcase (decide (r107 < 0)) (Q false) (bcase (r107 != r77.1) (Q false) (Q true))))))))))))))))))))))))))))

end Go.V
