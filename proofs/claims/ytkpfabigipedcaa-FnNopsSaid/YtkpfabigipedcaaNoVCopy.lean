import Derived.Test.YtkpfabigipedcaaNoVOwn
set_option linter.unusedVariables false
set_option linter.unusedSimpArgs false
namespace Go.V
theorem qdZ {P : Program} {α : Type} {E : El α} {w : World} {A : Option Addr} {c m n : Nat} {xs : List α} (h : Row E w A xs) (hn : n ≤ xs.length) :
    (Builtin.firstCells E.sz n (.slice A m c)).run P w = .ok (flat E (xs.take n)).toArray w := by
 have h1 := qbx (P := P) (c := c) (h.take n)
 rw [List.length_take, Nat.min_eq_left hn] at h1
 rw [← h1]
 cases A <;> rfl
end Go.V
