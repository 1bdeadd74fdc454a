import Derived.Test.YtdjkglkcohknbaaGreatVPlc
set_option linter.unusedVariables false
set_option linter.unusedSimpArgs false
/-! shorter steps; one element of a row of warps, apart -/
namespace Go.V
theorem brc {b : Bool} {X Y X' Y' : Prop} (H : bcase b X Y) (f : b = true → X → X') (g : b = false → Y → Y') : bcase b X' Y' :=
  bcase_mk (fun h => f h ((bcase_iff.1 H).1 h)) fun h => g h ((bcase_iff.1 H).2 h)
theorem beginF {P : Program} (hm : P.follows .mixedOrders = true) {f : FuncId} {fn : Func} (hf : P.funcs[f]? = some fn) (hp : plainF P f = true) {an : Ann} {args : List Value} {K : Value → World → Prop} {w : World} {V : World → (Value → World → Prop) → Prop}
    (e : vcF P fn an args K w = V w K) (h : V w K) : Cll P f args.toArray w K := vcF_sound hm hf hp (Eq.mpr e h)
theorem callO {α : Type} {x : α} {P : α → Prop} (h : ∀ r, r = x → P r) : ∃ r, r = x ∧ P r := ⟨x, rfl, h x rfl⟩
end Go.V
