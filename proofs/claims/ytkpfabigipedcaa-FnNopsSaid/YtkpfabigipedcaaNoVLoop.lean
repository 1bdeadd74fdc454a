import Derived.Test.YtkpfabigipedcaaNoVOwn
set_option linter.unusedVariables false
set_option linter.unusedSimpArgs false
namespace Go.V
theorem w64 {x : Int} (h : -9223372036854775808 ≤ x) (h' : x < 9223372036854775808) : IntKind.wrap .i64 x = x := qcs h h'
theorem qdq {σ : Type} {B : σ → (σ → Prop) → Prop} {x : σ} (n : Nat) (inv : Nat → σ) (F : Nat → Prop) (hx : x = inv 0) (h0 : F 0)
    (hs : ∀ k, k < n → F k → ∀ next : σ → Prop, (F (k + 1) → next (inv (k + 1))) → B (inv k) next)
    (he : F n → ∀ next : σ → Prop, B (inv n) next) : qdg B x := by
 refine ⟨fun m p => ∃ k, k ≤ n ∧ m = n - k ∧ p = inv k ∧ F k, ⟨n, 0, by omega, by omega, hx, h0⟩, ?_⟩
 rintro m p ⟨k, hk, rfl, rfl, hF⟩
 by_cases h : k < n
 ·exact hs k h hF _ fun hF' => ⟨n - (k + 1), by omega, k + 1, by omega, rfl, rfl, hF'⟩
 ·have : k = n := by omega
  subst this
  exact he hF _
theorem qbn {b : Bool} {X Y : Prop} (hb : b = true) (h : X) : qa5 b X Y := by subst hb; exact h
theorem qbI {b : Bool} {X Y : Prop} (hb : b = false) (h : Y) : qa5 b X Y := by subst hb; exact h
theorem qbM {α : Type} [Inhabited α] {xs : List α} {k : Nat} (h : k < xs.length) : rd xs (k : Int) = xs[k] := by simp [rd, List.getD_eq_getElem?_getD, h]
theorem up64 {k n : Nat} (h : k < n) (hn : n ≤ 9223372036854775807) : IntKind.wrap .i64 ((k : Int) + 1) = ((k + 1 : Nat) : Int) := by
 rw [w64 (by omega) (by omega)]; push_cast; rfl
def mk {α : Type} (g : Nat → α) (xs : List α) (k : Nat) : List α := (List.range k).map g ++ xs.drop k
end Go.V
