import Derived.Test.YtnafhlbbbgpmgacMath7
import Derived.Test.YtnafhlbbbgpmgacWp9
set_option linter.unusedVariables false
set_option linter.unusedSimpArgs false
namespace Go.V
def M.laws_FnExactEndRegs (p : List D.Ins) (f c : Int) : Bool := true
def M.laws_FnExactEndRegs_pre (p : List D.Ins) (f c : Int) : Prop := M.Long p
theorem endRegs_len (p : List D.Ins) (f c : Int) : (M.endRegs p f c).1.length ≤ 96 := by
  unfold M.endRegs
  by_cases hc : (M.isIn c 1 24 && (M.isIn f 0 23 && M.endOk p f c.toNat)) = true
  · rw [if_pos hc]
    simp only [Bool.and_eq_true, M.isIn, decide_eq_true_eq] at hc
    have := endList_len p f c.toNat
    show (M.endList p f c.toNat).length ≤ 96
    omega
  · rw [if_neg hc]; simp
theorem wp.laws_FnExactEndRegs.math (p : List D.Ins) (f c : Int) (h : M.laws_FnExactEndRegs_pre p f c) : wp.laws_FnExactEndRegs p f c (fun x => x = M.laws_FnExactEndRegs p f c) := by
  refine ⟨⟨by omega, by omega, h⟩, one_prog h rfl fun hl => ?_⟩
  have h4 := endRegs_len p f c
  simp only [M.laws_toInsS, forall_eq, M.spec_EndRegs, M.impl_EndRegs, M.laws_eqInsS, M.laws_eqIntS, M.laws_markInsS, M.laws_markIntS, M.laws_heldIntS, seqInt_len, if_true]
  generalize M.endRegs p f c = w at *
  have b1 : decide (1 + 4 * (p.length : Int) < 0) = false := by simp; omega
  have b2 : decide (1 + (w.1.length : Int) < 0) = false := by simp; omega
  simp only [beq_self_eq_true, Bool.not_true, bne_self_eq_false, b1, b2, bcase]
  simp only [M.laws_toInsS_pre, M.spec_EndRegs_pre, M.impl_EndRegs_pre, M.laws_eqIntS_pre, M.laws_eqInsS_pre, M.laws_markInsS_pre, M.laws_markIntS_pre, M.laws_heldIntS_pre, seqInt_len, M.Small, M.Few, M.Long]
  (repeat' apply And.intro) <;> first | omega | exact trivial | rfl
end Go.V
