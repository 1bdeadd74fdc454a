import Derived.Test.YtkpfabigipedcaaGreatWaVOwn
set_option linter.unusedVariables false
set_option linter.unusedSimpArgs false
namespace Go.V
theorem cut_blk {m l sz : Nat} {A : Option Addr} {a : Addr} (h : cutA m l A sz = some a) : ∃ b, A = some b ∧ b.block = a.block := by
 unfold cutA at h
 split at h
 ·exact ⟨a, h, rfl⟩
 ·cases A with
  | none => cases h
  | some b => simp only [Option.map_some, Option.some.injEq] at h; exact ⟨b, rfl, by rw [← h, blk_add]⟩
theorem cutApart2 {m l sz : Nat} {A A' : Option Addr} (h : Apart2 A A') : Apart2 (cutA m l A sz) A' := fun a a' ha ha' => by
 obtain ⟨b, hb, e⟩ := cut_blk ha
 rw [← e]; exact h b a' hb ha'
end Go.V
