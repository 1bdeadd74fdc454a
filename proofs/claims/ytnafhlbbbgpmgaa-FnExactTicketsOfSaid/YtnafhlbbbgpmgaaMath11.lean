import Derived.Test.YtnafhlbbbgpmgaaMath2
import Derived.Test.YtnafhlbbbgpmgaaMath3
import Derived.Test.YtnafhlbbbgpmgaaWp11
set_option linter.unusedVariables false
set_option linter.unusedSimpArgs false
namespace Go.V
theorem wp.impl_ones.math : wp.impl_ones (fun r => r = M.impl_ones) := ⟨⟨rfl, rfl⟩, fun r hr => hr⟩
theorem wp.spec_TicketsOf.math (x : Int) (o : List Int) (h : M.spec_TicketsOf_pre x o) : wp.spec_TicketsOf x o (fun r => r = M.spec_TicketsOf x o) := ⟨h, fun r hr => by rw [hr]; rfl⟩
theorem wp.impl_TicketsOf.math (x : Int) (o : List Int) (h : M.impl_TicketsOf_pre x o) : wp.impl_TicketsOf x o (fun r => r = M.impl_TicketsOf x o) := fun r1 h1 => ⟨h, fun r hr => by rw [hr, h1]; rfl⟩
theorem addInOrder_len (x : Int) (v o : List Int) : (M.addInOrder x v o).1.length ≤ 8 := by
  unfold M.addInOrder
  split
  · simp [aio_len]
  · simp
theorem wp.laws_FnExactTicketsOf.math (x : Int) (l : List Int) (h : M.laws_FnExactTicketsOf_pre x l) : wp.laws_FnExactTicketsOf x l (fun r => r = M.laws_FnExactTicketsOf x l) := by
  have h8 : (M.ticketsOf x l).1.length ≤ 8 := addInOrder_len x _ l
  unfold wp.laws_FnExactTicketsOf
  refine bcase_mk (fun _ => rfl) fun hlen => ?_
  have hl : l.length ≤ 1048576 := by simp at hlen; omega
  simp only [M.laws_toIntS, forall_eq, M.spec_TicketsOf, M.impl_TicketsOf, M.laws_markIntS, M.laws_heldIntS, seqInt_len, if_true, M.laws_eqIntS]
  generalize M.ticketsOf x l = w at *
  have b1 : decide (1 + (l.length : Int) < 0) = false := by simp; omega
  have b2 : decide (1 + (w.1.length : Int) < 0) = false := by simp; omega
  simp only [beq_self_eq_true, Bool.not_true, bne_self_eq_false, b1, b2, bcase]
  simp only [M.laws_toIntS_pre, M.spec_TicketsOf_pre, M.impl_TicketsOf_pre, M.laws_eqIntS_pre, M.laws_markIntS_pre, M.laws_heldIntS_pre, seqInt_len, M.Small, M.Few, M.Long]
  (repeat' apply And.intro) <;> first | omega | exact trivial | rfl
end Go.V
