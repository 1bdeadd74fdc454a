import Derived.Test.YtkpfabigipedcaaGreatBaVOwn
set_option linter.unusedVariables false
set_option linter.unusedSimpArgs false
namespace Go.V
theorem w64 {x : Int} (h : -9223372036854775808 ≤ x) (h' : x < 9223372036854775808) : IntKind.wrap .i64 x = x := qgO h h'
theorem qdl {σ : Type} {B : σ → (σ → Prop) → Prop} {x : σ} (n : Nat) (inv : Nat → σ) (F : Nat → Prop) (hx : x = inv 0) (h0 : F 0)
    (hs : ∀ k, k < n → F k → ∀ next : σ → Prop, (F (k + 1) → next (inv (k + 1))) → B (inv k) next)
    (he : F n → ∀ next : σ → Prop, B (inv n) next) : qdd B x := by
 refine ⟨fun m p => ∃ k, k ≤ n ∧ m = n - k ∧ p = inv k ∧ F k, ⟨n, 0, by omega, by omega, hx, h0⟩, ?_⟩
 rintro m p ⟨k, hk, rfl, rfl, hF⟩
 by_cases h : k < n
 ·exact hs k h hF _ fun hF' => ⟨n - (k + 1), by omega, k + 1, by omega, rfl, rfl, hF'⟩
 ·have : k = n := by omega
  subst this
  exact he hF _
theorem qb1 {b : Bool} {X Y : Prop} (hb : b = true) (h : X) : qa1 b X Y := by subst hb; exact h
theorem qb8 {b : Bool} {X Y : Prop} (hb : b = false) (h : Y) : qa1 b X Y := by subst hb; exact h
theorem qcJ {α : Type} [Inhabited α] {xs : List α} {k : Nat} (h : k < xs.length) : rd xs (k : Int) = xs[k] := by simp [rd, List.getD_eq_getElem?_getD, h]
theorem up64 {k n : Nat} (h : k < n) (hn : n ≤ 9223372036854775807) : IntKind.wrap .i64 ((k : Int) + 1) = ((k + 1 : Nat) : Int) := by
 rw [w64 (by omega) (by omega)]; push_cast; rfl
theorem qha {α : Type} {p : α → Bool} {xs : List α} {k : Nat} (h : k < xs.length) (h1 : (xs.take k).all p = true) (h2 : p xs[k] = true) : (xs.take (k + 1)).all p = true := by
 rw [List.take_add_one, List.all_append, h1]; simp [h, h2]
theorem qo1 {α : Type} {p : α → Bool} {xs : List α} {k : Nat} (h : k < xs.length) (h2 : p xs[k] = false) : xs.all p = false := by
 apply Bool.eq_false_iff.2
 intro hh
 rw [List.all_eq_true] at hh
 rw [hh _ (List.getElem_mem h)] at h2; simp at h2
end Go.V
