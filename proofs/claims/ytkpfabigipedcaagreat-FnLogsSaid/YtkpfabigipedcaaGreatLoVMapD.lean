import Derived.Test.YtkpfabigipedcaaGreatLoVWords
namespace Go.V
def mget {V : Type} : List (List Int × V) → List Int → Option V
 | [], _ => none
 | p :: l, k => if p.1 = k then some p.2 else mget l k
def mput {V : Type} : List (List Int × V) → List Int → V → List (List Int × V)
 | [], k, v => [(k, v)]
 | p :: l, k, v => if p.1 = k then (k, v) :: l else p :: mput l k v
theorem qmP {V : Type} (k k' : List Int) (v : V) : ∀ l : List (List Int × V), mget (mput l k v) k' = if k' = k then some v else mget l k'
 | [] => by
  by_cases e : k = k'
  ·subst e; simp [mput, mget]
  ·have : ¬ k' = k := fun h => e h.symm
   simp [mput, mget, e, this]
 | p :: l => by
  unfold mput
  by_cases h : p.1 = k
  ·rw [if_pos h]
   by_cases e : k = k'
   ·subst e; simp [mget]
   ·have : ¬ k' = k := fun h => e h.symm
    simp [mget, e, this, h]
  ·rw [if_neg h]
   unfold mget
   rw [qmP k k' v l]
   by_cases e : k' = k
   ·subst e; rw [if_neg h, if_pos rfl, if_pos rfl]
   ·rw [if_neg e]; simp [e]
end Go.V
