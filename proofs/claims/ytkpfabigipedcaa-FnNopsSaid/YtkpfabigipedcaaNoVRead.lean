import Derived.Test.YtkpfabigipedcaaNoVWords
import Derived.WalkKit
import Derived.ProofKit
import Derived.OpenShut
import Derived.ShutString
import Derived.ChangeOld
import Derived.Below
import Derived.Carry
import Derived.Deep.Slices
set_option linter.unusedVariables false
namespace Go.V
open Go.Deep Go.WideShapes Go.ChangeShapes
section
variable {H : Type} {enc : TypeId × Value → H} {P : Program} {w : World} {base : Nat} {spare : Nat → Bool} {held : Bool}
def Dec (H : Type) (enc : TypeId × Value → H) (P : Program) (w : World) (base : Nat) (spare : Nat → Bool) (held : Bool) (t : TypeId) {α : Type} (R : List Value → α → Prop) : Prop :=
 ∀ n cs x, DataW.trod enc P w base spare held n t cs = some x → ∃ a, R cs a
theorem qgb {t : TypeId} {k : IntKind} (ht : P.underlying t = some (.int k)) : Dec H enc P w base spare held t (fun cs (a : Int) => cs = [.int k a] ∧ True) := by
 intro n cs x h
 obtain ⟨a, rfl, _, hw⟩ := DataW.trod_int ht h
 exact ⟨a, rfl, trivial⟩
theorem qgv {α : Type} [Inhabited α] {E : El α} {Q : α → Prop} {t e : TypeId} (ht : P.underlying t = some (.slice e)) (hc : P.cellsOf e = E.sz)
    (hd : Dec H enc P w base spare held e (fun cs (a : α) => cs = E.enc a ∧ Q a)) :
    Dec H enc P w base spare held t (fun cs (xs : List α) => ∃ A c, cs = [.slice A xs.length c] ∧ xs.length ≤ c ∧ c ≤ maxLen ∧ Row E w A xs ∧ ∀ y ∈ xs, Q y) := by
 intro n cs x h
 rcases open_slice ht h with ⟨rfl, _⟩ | ⟨a, len, cap, m, n', D, Pl, rfl, _, hl, hm, hmm, _, hel⟩
 ·exact ⟨[], none, 0, rfl, by simp, by simp, Row.nil _ _ _, by simp⟩
 ·have hlm : len ≤ m := by rw [hmm]; split <;> omega
  have key : ∀ i, ∃ y : α, i < len → (∀ j v, (E.enc y)[j]? = some v → w.cell? ((a.add (i * E.sz)).add j) = some v) ∧ Q y := by
   intro i
   by_cases hi : i < len
   ·obtain ⟨cs', h1, h2⟩ := hel i (by omega)
    obtain ⟨y, rfl, hq⟩ := hd _ _ _ h2
    refine ⟨y, fun _ => ⟨fun j v hj => ?_, hq⟩⟩
    obtain ⟨_, _, hcell⟩ := World.cells?_some h1
    rw [hc] at hcell
    have hlt : j < (E.enc y).length := (List.getElem?_eq_some_iff.1 hj).1
    rw [E.len] at hlt
    exact (hcell j hlt).trans hj
   ·exact ⟨default, fun h => (hi h).elim⟩
  refine ⟨(List.range len).map fun i => (key i).choose, some a, cap, by simp, by simpa using hl, hm, ⟨fun _ => ⟨a, rfl, ?_⟩⟩, ?_⟩
  ·intro j y hj i v hv
   rw [List.getElem?_map] at hj
   have hjl : j < len := by
    rcases Nat.lt_or_ge j len with h | h
    ·exact h
    ·rw [List.getElem?_eq_none (by simpa using h)] at hj; simp at hj
   rw [List.getElem?_range hjl] at hj
   simp at hj
   subst hj
   exact ((key j).choose_spec hjl).1 i v hv
  ·intro y hy
   simp only [List.mem_map, List.mem_range] at hy
   obtain ⟨i, hi, rfl⟩ := hy
   exact ((key i).choose_spec hi).2
end
end Go.V
