import Derived.Test.YtnbkmenlaogblaaPure
set_option linter.unusedVariables false
namespace Go.V

def wp.laws_szIntS (xs0 : List Int) (x1 : Int) (Q : Int → Prop) : Prop :=
  bcase (decide ((IntKind.wrap .i64 (x1 - ((xs0.length : Nat) : Int))) < 0)) (Q (-1)) (Q (IntKind.wrap .i64 (x1 - ((xs0.length : Nat) : Int))))

def wp.laws_szLane (s0 : D.Lane) (x1 : Int) (Q : Int → Prop) : Prop :=
  (M.laws_szIntS_pre s0.Regs x1 ∧ ∀ r23, r23 = M.laws_szIntS s0.Regs x1 → bcase (decide (r23 < 0)) (Q (-1)) (Q r23))

def wp.laws_toLane (s0 : D.Lane) (Q : D.Lane → Prop) : Prop :=
  (M.laws_toIntS_pre s0.Regs ∧ ∀ r31, r31 = M.laws_toIntS s0.Regs → Q (⟨s0.Thread, s0.Pc, r31⟩ : D.Lane))

def wp.laws_eqLane (s0 : D.Lane) (s1 : D.Lane) (Q : Bool → Prop) : Prop :=
  bcase (s0.Thread != s1.Thread) (Q false) (bcase (s0.Pc != s1.Pc) (Q false) ((M.laws_eqIntS_pre s0.Regs s1.Regs ∧ ∀ r25, r25 = M.laws_eqIntS s0.Regs s1.Regs → bcase (!r25) (Q false) (Q true))))

def wp.laws_markInsS (xs0 : List D.Ins) (x1 : Int) (Q : (Int × (List D.Ins)) → Prop) : Prop :=
  LoopP (σ := Int × Int × (List D.Ins) × Unit) (fun (p111 : Int × Int × (List D.Ins) × Unit) next70 => match p111 with | (i63, i64, xs65, _) => bcase (decide (i64 < ((xs0.length : Nat) : Int))) (((0 ≤ i64 ∧ i64 < ((xs65.length : Nat) : Int)) ∧ ((0 ≤ i64 ∧ i64 < (((List.set xs65 (i64.toNat) (⟨i63, (rd xs65 i64).A, (rd xs65 i64).B, (rd xs65 i64).C⟩ : D.Ins)).length : Nat) : Int)) ∧ ((0 ≤ i64 ∧ i64 < (((List.set xs65 (i64.toNat) (⟨i63, (IntKind.wrap .i64 (i63 + 1)), (rd xs65 i64).B, (rd xs65 i64).C⟩ : D.Ins)).length : Nat) : Int)) ∧ ((0 ≤ i64 ∧ i64 < (((List.set xs65 (i64.toNat) (⟨i63, (IntKind.wrap .i64 (i63 + 1)), (IntKind.wrap .i64 ((IntKind.wrap .i64 (i63 + 1)) + 1)), (rd xs65 i64).C⟩ : D.Ins)).length : Nat) : Int)) ∧ next70 ((IntKind.wrap .i64 ((IntKind.wrap .i64 ((IntKind.wrap .i64 ((IntKind.wrap .i64 (i63 + 1)) + 1)) + 1)) + 1)), (IntKind.wrap .i64 (i64 + 1)), (List.set xs65 (i64.toNat) (⟨i63, (IntKind.wrap .i64 (i63 + 1)), (IntKind.wrap .i64 ((IntKind.wrap .i64 (i63 + 1)) + 1)), (IntKind.wrap .i64 ((IntKind.wrap .i64 ((IntKind.wrap .i64 (i63 + 1)) + 1)) + 1))⟩ : D.Ins)), ())))))) (Q (i63, xs65))) (x1, 0, xs0, ())

def wp.laws_markLane (s0 : D.Lane) (x1 : Int) (Q : (Int × (List Int)) → Prop) : Prop :=
  (M.laws_markIntS_pre s0.Regs x1 ∧ ∀ r23, r23 = M.laws_markIntS s0.Regs x1 → Q (r23.1, r23.2))

def wp.laws_heldLane (s0 : D.Lane) (x1 : Int) (Q : Int → Prop) : Prop :=
  (M.laws_heldIntS_pre s0.Regs x1 ∧ ∀ r23, r23 = M.laws_heldIntS s0.Regs x1 → bcase (decide (r23 < 0)) (Q (-1)) (Q r23))

def wp.spec_RunAlone (xs0 : List D.Ins) (x1 : Int) (Q : (D.Lane × Bool) → Prop) : Prop :=
  (∀ r23, r23 = M.spec_LaneNew x1 → (M.spec_RunLane_pre xs0 r23 1000 ∧ ∀ r30, r30 = M.spec_RunLane xs0 r23 1000 → bcase (decide (r30.2 < 0)) (Q ((⟨0, 0, ([] : List Int)⟩ : D.Lane), false)) (bcase (decide (r30.1.Pc < ((xs0.length : Nat) : Int))) (Q ((⟨0, 0, ([] : List Int)⟩ : D.Lane), false)) (Q ((⟨r30.1.Thread, r30.1.Pc, r30.1.Regs⟩ : D.Lane), true)))))

def wp.impl_RunAlone (xs0 : List D.Ins) (x1 : Int) (Q : (D.Lane × Bool) → Prop) : Prop :=
  (M.impl_alone_pre xs0 x1 ∧ ∀ r23, r23 = M.impl_alone xs0 x1 → Q ((⟨r23.1.Thread, r23.1.Pc, r23.1.Regs⟩ : D.Lane), r23.2.2))

def wp.laws_FnExactRunAlone (xs0 : List D.Ins) (x1 : Int) (Q : Bool → Prop) : Prop :=
  (M.laws_szInsS_pre xs0 1048576 ∧ ∀ r21, r21 = M.laws_szInsS xs0 1048576 → bcase (decide (r21 < 0)) (Q true) ((M.laws_toInsS_pre xs0 ∧ ∀ r26, r26 = M.laws_toInsS xs0 → (M.spec_RunAlone_pre r26 x1 ∧ ∀ r33, r33 = M.spec_RunAlone r26 x1 → (M.laws_toInsS_pre xs0 ∧ ∀ r44, r44 = M.laws_toInsS xs0 → (M.impl_RunAlone_pre r44 x1 ∧ ∀ r51, r51 = M.impl_RunAlone r44 x1 → (M.laws_eqLane_pre r51.1 r33.1 ∧ ∀ r62, r62 = M.laws_eqLane r51.1 r33.1 → bcase (!r62) (Q false) (bcase (!(r51.2 == r33.2)) (Q false) ((M.laws_toInsS_pre xs0 ∧ ∀ r67, r67 = M.laws_toInsS xs0 → (M.laws_eqInsS_pre r44 r67 ∧ ∀ r74, r74 = M.laws_eqInsS r44 r67 → bcase (!r74) (Q false) ((M.laws_markInsS_pre r44 1 ∧ ∀ r79, r79 = M.laws_markInsS r44 1 → bcase (decide (r79.1 < 0)) (Q false) ((M.laws_eqLane_pre r51.1 r33.1 ∧ ∀ r85, r85 = M.laws_eqLane r51.1 r33.1 → bcase (!r85) (Q false) (bcase (!(r51.2 == r33.2)) (Q false) ((M.laws_markLane_pre r51.1 1 ∧ ∀ r90, r90 = M.laws_markLane r51.1 1 → (M.laws_heldLane_pre (⟨r51.1.Thread, r51.1.Pc, r90.2⟩ : D.Lane) 1 ∧ ∀ r96, r96 = M.laws_heldLane (⟨r51.1.Thread, r51.1.Pc, r90.2⟩ : D.Lane) 1 → bcase (decide (r96 < 0)) (Q false) (bcase (r96 != r90.1) (Q false) ((M.laws_toInsS_pre xs0 ∧ ∀ r101, r101 = M.laws_toInsS xs0 → (M.impl_RunAlone_pre r101 x1 ∧ ∀ r108, r108 = M.impl_RunAlone r101 x1 → (M.laws_eqLane_pre r108.1 r33.1 ∧ ∀ r119, r119 = M.laws_eqLane r108.1 r33.1 → bcase (!r119) (Q false) (bcase (!(r108.2 == r33.2)) (Q false) ((M.laws_heldLane_pre (⟨r51.1.Thread, r51.1.Pc, r90.2⟩ : D.Lane) 1 ∧ ∀ r124, r124 = M.laws_heldLane (⟨r51.1.Thread, r51.1.Pc, r90.2⟩ : D.Lane) 1 → bcase (decide (r124 < 0)) (Q false) (bcase (r124 != r90.1) (Q false) (Q true)))))))))))))))))))))))))))))

end Go.V
