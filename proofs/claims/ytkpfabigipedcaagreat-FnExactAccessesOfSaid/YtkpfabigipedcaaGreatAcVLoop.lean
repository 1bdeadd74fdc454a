import Derived.Test.YtkpfabigipedcaaGreatAcVOwn
set_option linter.unusedVariables false
set_option linter.unusedSimpArgs false
namespace Go.V
theorem w64 {x : Int} (h : -9223372036854775808 ≤ x) (h' : x < 9223372036854775808) : IntKind.wrap .i64 x = x := wrap_i64_in h h'
theorem loop_n {σ : Type} {B : σ → (σ → Prop) → Prop} {x : σ} (n : Nat) (inv : Nat → σ) (F : Nat → Prop) (hx : x = inv 0) (h0 : F 0)
    (hs : ∀ k, k < n → F k → ∀ next : σ → Prop, (F (k + 1) → next (inv (k + 1))) → B (inv k) next)
    (he : F n → ∀ next : σ → Prop, B (inv n) next) : LoopP B x := by
 refine ⟨fun m p => ∃ k, k ≤ n ∧ m = n - k ∧ p = inv k ∧ F k, ⟨n, 0, by omega, by omega, hx, h0⟩, ?_⟩
 rintro m p ⟨k, hk, rfl, rfl, hF⟩
 by_cases h : k < n
 ·exact hs k h hF _ fun hF' => ⟨n - (k + 1), by omega, k + 1, by omega, rfl, rfl, hF'⟩
 ·have : k = n := by omega
  subst this
  exact he hF _
theorem bcase_t {b : Bool} {X Y : Prop} (hb : b = true) (h : X) : bcase b X Y := by subst hb; exact h
theorem bcase_f {b : Bool} {X Y : Prop} (hb : b = false) (h : Y) : bcase b X Y := by subst hb; exact h
theorem rd_nat {α : Type} [Inhabited α] {xs : List α} {k : Nat} (h : k < xs.length) : rd xs (k : Int) = xs[k] := by simp [rd, List.getD_eq_getElem?_getD, h]
theorem up64 {k n : Nat} (h : k < n) (hn : n ≤ 9223372036854775807) : IntKind.wrap .i64 ((k : Int) + 1) = ((k + 1 : Nat) : Int) := by
 rw [w64 (by omega) (by omega)]; push_cast; rfl
theorem take_all_succ {α : Type} {p : α → Bool} {xs : List α} {k : Nat} (h : k < xs.length) (h1 : (xs.take k).all p = true) (h2 : p xs[k] = true) : (xs.take (k + 1)).all p = true := by
 rw [List.take_add_one, List.all_append, h1]; simp [h, h2]
theorem all_at {α : Type} {p : α → Bool} {xs : List α} {k : Nat} (h : k < xs.length) (h2 : p xs[k] = false) : xs.all p = false := by
 apply Bool.eq_false_iff.2
 intro hh
 rw [List.all_eq_true] at hh
 rw [hh _ (List.getElem_mem h)] at h2; simp at h2
def cp {α β : Type} [Inhabited β] (g : α → β) (xs : List α) (k : Nat) : List β := (xs.take k).map g ++ List.replicate (xs.length - k) default
theorem cp_len {α β : Type} [Inhabited β] (g : α → β) (xs : List α) {k : Nat} (h : k ≤ xs.length) : (cp g xs k).length = xs.length := by simp [cp]; omega
theorem cp_zero {α β : Type} [Inhabited β] (g : α → β) (xs : List α) : cp g xs 0 = List.replicate xs.length default := by simp [cp]
theorem cp_all {α β : Type} [Inhabited β] (g : α → β) (xs : List α) : cp g xs xs.length = xs.map g := by simp [cp]
theorem cp_set {α β : Type} [Inhabited β] (g : α → β) (xs : List α) {k : Nat} (h : k < xs.length) : (cp g xs k).set k (g xs[k]) = cp g xs (k + 1) := by
 apply List.ext_getElem?
 intro i
 unfold cp
 rw [List.getElem?_set]
 by_cases hi : k = i
 ·subst hi
  simp [List.getElem?_append, List.getElem?_take, h, show min k xs.length = k by omega, show min (k + 1) xs.length = k + 1 by omega, show k < k + (xs.length - k) by omega]
 ·simp only [hi, if_false]
  by_cases hik : i < k
  ·simp [List.getElem?_append, List.getElem?_take, show min k xs.length = k by omega, show min (k + 1) xs.length = k + 1 by omega, hik, show i < k + 1 by omega]
  ·simp [List.getElem?_append, List.getElem?_take, show min k xs.length = k by omega, show min (k + 1) xs.length = k + 1 by omega, hik, show ¬ i < k + 1 by omega, List.getElem?_replicate]
   by_cases h2 : i < xs.length
   ·rw [if_pos (by omega), if_pos (by omega)]
   ·rw [if_neg (by omega), if_neg (by omega)]
theorem eq_of_takes {α : Type} [Inhabited α] {xs ys : List α} (hl : xs.length = ys.length) (h : ∀ k, k < xs.length → rd xs k = rd ys k) : xs = ys := by
 apply List.ext_getElem hl
 intro i h1 h2
 have := h i h1
 rwa [rd_nat h1, rd_nat h2] at this
def mk {α : Type} (g : Nat → α) (xs : List α) (k : Nat) : List α := (List.range k).map g ++ xs.drop k
theorem mk_len {α : Type} (g : Nat → α) (xs : List α) {k : Nat} (h : k ≤ xs.length) : (mk g xs k).length = xs.length := by simp [mk]; omega
theorem mk_zero {α : Type} (g : Nat → α) (xs : List α) : mk g xs 0 = xs := by simp [mk]
theorem mk_all {α : Type} (g : Nat → α) (xs : List α) : mk g xs xs.length = (List.range xs.length).map g := by simp [mk]
theorem mk_set {α : Type} (g : Nat → α) (xs : List α) {k : Nat} (h : k < xs.length) : (mk g xs k).set k (g k) = mk g xs (k + 1) := by
 unfold mk
 rw [List.set_append_right _ _ (by simp)]
 simp only [List.length_map, List.length_range, Nat.sub_self, List.range_succ, List.map_append, List.map_cons, List.map_nil, List.append_assoc]
 congr 1
 rw [List.drop_eq_getElem_cons h]
 rfl
theorem ne_seq {α : Type} [Inhabited α] (g : Nat → α) {xs : List α} {k : Nat} (h : k < xs.length) (hne : rd xs k ≠ g k) : xs ≠ (List.range xs.length).map g := by
 intro e
 apply hne
 rw [rd_nat h]
 have : xs[k]? = ((List.range xs.length).map g)[k]? := congrArg (·[k]?) e
 rw [List.getElem?_eq_getElem h] at this
 simpa [h] using this
theorem eq_seq {α : Type} [Inhabited α] (g : Nat → α) {xs : List α} (h : ∀ j : Nat, j < xs.length → rd xs j = g j) : xs = (List.range xs.length).map g := by
 apply List.ext_getElem (by simp)
 intro i h1 h2
 have := h i h1
 rw [rd_nat h1] at this
 simpa using this
end Go.V
