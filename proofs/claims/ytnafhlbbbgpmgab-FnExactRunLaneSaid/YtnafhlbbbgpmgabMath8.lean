import Derived.Test.YtnafhlbbbgpmgabMath7
import Derived.Test.YtnafhlbbbgpmgabWp8
set_option linter.unusedVariables false
set_option linter.unusedSimpArgs false
namespace Go.V
def M.laws_FnExactRunLane (p : List D.Ins) (l : D.Lane) (s : Int) : Bool := true
def M.laws_FnExactRunLane_pre (p : List D.Ins) (l : D.Lane) (s : Int) : Prop := M.Long p ∧ M.Long l.Regs
theorem joinP_of {σ : Type} {A : (σ → Prop) → Prop} {B : σ → Prop} (v : σ) (h : B v) (hA : ∀ J : σ → Prop, J v → A J) : JoinP A B := hA B h
theorem runN_len (p : List D.Ins) : ∀ (k : Nat) (l : D.Lane) (n : Int), (M.runN p k l n).1.Regs.length = l.Regs.length
  | 0, l, n => rfl
  | k + 1, l, n => by
    rw [M.runN]
    split
    · rw [runN_len p k]; simp only [M.step, apply_len]
    · rfl
theorem runLane_len (p : List D.Ins) (l : D.Lane) (s : Int) : (M.runLane p l s).1.Regs.length = l.Regs.length := by
  unfold M.runLane
  split
  · exact runN_len p _ l 0
  · rfl
theorem wp.laws_FnExactRunLane.math (p : List D.Ins) (l : D.Lane) (s : Int) (h : M.laws_FnExactRunLane_pre p l s) : wp.laws_FnExactRunLane p l s (fun x => x = M.laws_FnExactRunLane p l s) := by
  obtain ⟨hp, hr⟩ := h
  refine ⟨⟨by omega, by omega, hp⟩, fun r hr1 => bcase_mk (fun _ => rfl) fun e => ?_⟩
  have h1 : p.length ≤ 1048576 ∧ 0 ≤ r ∧ r ≤ 2097152 := by
    rw [hr1] at e ⊢
    simp only [M.laws_szInsS] at e ⊢
    split at e
    · simp at e
    · rw [if_neg (by omega)]; omega
  refine ⟨⟨h1.2.1, h1.2.2, hr⟩, fun r' hr' => bcase_mk (fun _ => rfl) fun e' => ?_⟩
  have h2 : l.Regs.length ≤ 2097152 := by
    rw [hr'] at e'
    simp only [M.laws_szLane, M.laws_szIntS] at e'
    split at e'
    · simp at e'
    · omega
  have h3 := h1.1
  clear e e' hr1 hr' h1
  have h4 := runLane_len p l s
  simp only [M.laws_toInsS, M.laws_toLane, forall_eq, M.spec_RunLane, M.impl_RunLane, M.laws_eqInsS, M.laws_eqLane, M.laws_markInsS, M.laws_markLane, M.laws_heldLane, seqInt_len, if_true]
  generalize M.runLane p l s = w at *
  have b1 : decide (1 + 4 * (p.length : Int) + (l.Regs.length : Int) < 0) = false := by simp; omega
  have b2 : decide (1 + (w.1.Regs.length : Int) < 0) = false := by simp; omega
  have q1 : M.laws_toInsS_pre p := by unfold M.laws_toInsS_pre; omega
  have q2 : M.laws_toLane_pre l := by unfold M.laws_toLane_pre; omega
  have q3 : M.spec_RunLane_pre p l s := ⟨hp, by omega⟩
  have q4 : M.impl_RunLane_pre p l s := ⟨hp, by omega⟩
  have q5 : M.laws_markInsS_pre p 1 := ⟨⟨by omega, by omega⟩, by unfold M.Few; omega⟩
  have q6 : M.laws_markLane_pre l (1 + 4 * (p.length : Int)) := ⟨⟨by omega, by omega⟩, by unfold M.Few; omega⟩
  have q7 : M.laws_markLane_pre w.1 1 := ⟨⟨by omega, by omega⟩, by unfold M.Few; omega⟩
  have q8 : M.laws_heldLane_pre (⟨w.1.Thread, w.1.Pc, M.seqInt 1 w.1.Regs.length⟩ : D.Lane) 1 := ⟨⟨by omega, by omega⟩, by unfold M.Few; simp only [seqInt_len]; omega⟩
  have q9 : M.laws_eqLane_pre w.1 w.1 := by unfold M.laws_eqLane_pre M.Long; omega
  have q10 : M.laws_eqInsS_pre p p := hp
  have q11 : M.laws_eqLane_pre l l := hr
  have ex : (⟨w.1.Thread, w.1.Pc, w.1.Regs⟩ : D.Lane) = w.1 := rfl
  have hJ : ∀ {X : Prop}, X → X := fun h => h
  refine joinP_of (w.1.Thread, w.1.Pc, w.1.Regs, w.2, ()) ?_ fun J hJ => ⟨⟨q1, ⟨q2, ⟨q3, hJ⟩, ⟨q3, hJ⟩, trivial⟩, ⟨q2, q3, hJ⟩, trivial⟩, ⟨q1, q2, q3, hJ⟩, trivial⟩
  simp only [ex, beq_self_eq_true, Bool.not_true, bne_self_eq_false, b1, b2, bcase]
  refine ⟨q1, q2, q4, q9, q1, q10, q2, q11, q5, q6, q9, q7, q8, ?_⟩
  refine joinP_of (w.1.Thread, w.1.Pc, w.1.Regs, w.2, ()) ?_ fun J hJ => ⟨⟨q1, ⟨q2, ⟨q4, hJ⟩, ⟨q4, hJ⟩, trivial⟩, ⟨q2, q4, hJ⟩, trivial⟩, ⟨q1, q2, q4, hJ⟩, trivial⟩
  simp only [ex, beq_self_eq_true, Bool.not_true, bne_self_eq_false, b2]
  exact ⟨q9, q8, rfl⟩
end Go.V
