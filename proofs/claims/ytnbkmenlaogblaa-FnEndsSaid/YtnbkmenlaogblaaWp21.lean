import Derived.Test.YtnbkmenlaogblaaPure5
set_option linter.unusedVariables false
namespace Go.V

def wp.spec_DrawWild (xs0 : List Int) (Q : (List D.Ins) → Prop) : Prop :=
  (M.spec_l01New_pre xs0 ∧ ∀ r21, r21 = M.spec_l01New xs0 → (M.spec_l07Wild_pre (⟨xs0, r21.i, r21.h⟩ : D.Cur) ∧ ∀ r27, r27 = M.spec_l07Wild (⟨xs0, r21.i, r21.h⟩ : D.Cur) → Q r27.1))

def wp.impl_LaneEnded (xs0 : List D.Ins) (s1 : D.Lane) (Q : Bool → Prop) : Prop :=
  (M.impl_LaneOk_pre xs0 s1 ∧ ∀ r23, r23 = M.impl_LaneOk xs0 s1 → bcase r23 (Q (s1.Pc == ((xs0.length : Nat) : Int))) (Q false))

def wp.impl_ReachableFrom (xs0 : List D.Ins) (x1 : Int) (Q : (List Int) → Prop) : Prop :=
  (M.impl_isNode_pre xs0 x1 ∧ ∀ r21, r21 = M.impl_isNode xs0 x1 → bcase (!r21) (Q ([] : List Int)) ((M.impl_reached_pre xs0 ([x1] : List Int) (-1) ∧ ∀ r29, r29 = M.impl_reached xs0 ([x1] : List Int) (-1) → (M.impl_trues_pre r29 ∧ ∀ r36, r36 = M.impl_trues r29 → Q r36))))

def wp.impl_AlwaysEnds_1 (x0 : Int) (xs1 : List D.Ins) (Q : Bool → Prop) : Prop :=
  (((M.impl_next_pre xs1 x0 ∧ ∀ r21, r21 = M.impl_next xs1 x0 → (M.impl_reached_pre xs1 r21 (-1) ∧ ∀ r28, r28 = M.impl_reached xs1 r21 (-1) → ((0 ≤ x0 ∧ x0 < ((r28.length : Nat) : Int)) ∧ Q (rd r28 x0))))) ∧ ((((M.impl_next_pre xs1 x0 ∧ ∀ r40, r40 = M.impl_next xs1 x0 → (M.impl_reached_pre xs1 r40 (-1) ∧ ∀ r47, r47 = M.impl_reached xs1 r40 (-1) → ((0 ≤ x0 ∧ x0 < ((r47.length : Nat) : Int)) ∧ Q (rd r47 x0))))) ∧ ((M.impl_next_pre xs1 x0 ∧ ∀ r59, r59 = M.impl_next xs1 x0 → (M.impl_reached_pre xs1 r59 (-1) ∧ ∀ r66, r66 = M.impl_reached xs1 r59 (-1) → ((0 ≤ x0 ∧ x0 < ((r66.length : Nat) : Int)) ∧ Q (rd r66 x0))))) ∧ True)) ∧ True)

def wp.impl_AlwaysEnds (xs0 : List D.Ins) (Q : Bool → Prop) : Prop :=
  (M.impl_ProgramOk_pre xs0 ∧ ∀ r23, r23 = M.impl_ProgramOk xs0 → bcase r23 ((M.impl_ReachableFrom_pre xs0 0 ∧ ∀ r28, r28 = M.impl_ReachableFrom xs0 0 → (M.slices_ContainsFunc_int_int_pre r28 (fun z0_ => M.impl_AlwaysEnds_1 z0_ xs0) (fun z0_ => M.impl_AlwaysEnds_1_pre z0_ xs0) ∧ ∀ r35, r35 = M.slices_ContainsFunc_int_int r28 (fun z0_ => M.impl_AlwaysEnds_1 z0_ xs0) → Q (!r35)))) (Q false))

def wp.laws_FnEnds (xs0 : List Int) (Q : Bool → Prop) : Prop :=
  (∀ r21, r21 = M.laws_big xs0 → bcase r21 (Q true) ((M.spec_DrawWild_pre xs0 ∧ ∀ r26, r26 = M.spec_DrawWild xs0 → (M.spec_DrawPlaces_pre xs0 ∧ ∀ r33, r33 = M.spec_DrawPlaces xs0 → ((0 ≤ (0 : Int) ∧ (0 : Int) < ((r33.length : Nat) : Int)) ∧ (M.impl_StepsAlone_pre r26 (Int.tmod (rd r33 0) 24) ∧ ∀ r46, r46 = M.impl_StepsAlone r26 (Int.tmod (rd r33 0) 24) → (M.impl_RunAlone_pre r26 (Int.tmod (rd r33 0) 24) ∧ ∀ r51, r51 = M.impl_RunAlone r26 (Int.tmod (rd r33 0) 24) → JoinP (σ := Unit) (fun J62 => bcase (!(r51.2 == (decide (r46 ≥ 0)))) (Q false) (bcase r51.2 ((M.impl_LaneEnded_pre r26 r51.1 ∧ ∀ r65, r65 = M.impl_LaneEnded r26 r51.1 → bcase (!r65) (Q false) (J62 (())))) (J62 (())))) (fun (p91 : Unit) => match p91 with | (_) => JoinP (σ := Unit) (fun J73 => bcase (!r51.2) ((M.impl_AlwaysEnds_pre r26 ∧ ∀ r76, r76 = M.impl_AlwaysEnds r26 → bcase r76 (Q false) (J73 (())))) (J73 (()))) (fun (p89 : Unit) => match p89 with | (_) => (M.impl_AlwaysEnds_pre r26 ∧ ∀ r83, r83 = M.impl_AlwaysEnds r26 → bcase (!r83) (Q true) (Q (decide (r46 ≤ ((r26.length : Nat) : Int))))))))))))))

end Go.V
