import Derived.Test.YtkpfabigipedcaaNoVOwn
set_option linter.unusedVariables false
set_option linter.unusedSimpArgs false
namespace Go.V
theorem qfF {α : Type} [Inhabited α] (E : El α) : ∀ (n : Nat), (Builtin.zeroCells (E.enc (default : α)).toArray n).toList = flat E (List.replicate n (default : α)) := by
 intro n
 have h := qdL E n
 have : (Builtin.zeroCells (E.enc (default : α)).toArray n) = qcj (E.enc (default : α)).toArray (n * E.sz) := by
  unfold Builtin.zeroCells qcj
  congr 2
  simp [E.len]
 rw [this, h]
end Go.V
