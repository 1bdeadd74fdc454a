import Derived.Test.YtkpfabigipedcaaNoVDeep
import Derived.Test.YtkpfabigipedcaaNoVCut
set_option linter.unusedVariables false
set_option linter.unusedSimpArgs false
namespace Go.V
section
variable {w w' : World} {g o T : Nat} {R cs cs' : Array Value}
end
theorem Mov.trans {w w1 : World} {A A' A'' : Option Addr} (h : Mov w A A') (h' : Mov w1 A' A'') (hs : w.heap.size ≤ w1.heap.size) : Mov w A A'' := by
 intro a'' ha''
 rcases h' a'' ha'' with ⟨a', ha', hb⟩ | hge
 ·rcases h a' ha' with ⟨a, ha, hb'⟩ | hge
  ·exact .inl ⟨a, ha, hb'.trans hb⟩
  ·exact .inr (by omega)
 ·exact .inr (by omega)
theorem qdc {w : World} {S : Prop} {A A' : Option Addr} (m : Mov w A A') {g : Nat} (h : InB A' g) (k : InB A g → S) : w.heap.size ≤ g ∨ S := by
 obtain ⟨a', ha', rfl⟩ := h
 rcases m a' ha' with ⟨a, ha, hb⟩ | hge
 ·exact .inr (k ⟨a, ha, hb⟩)
 ·exact .inl hge
theorem qcX {P : Program} {α : Type} [Inhabited α] {E : El α} {t1 t2 e2 ty : TypeId} (T : SlT P E t1) (h2 : P.underlying t2 = some (.slice e2)) {B : Nat} {w : World} {c n2 n : Nat} {A : Option Addr} {xs : List α} {A2 : Option Addr} {c2 : Nat} {ys : List α}
    (hO : Own E w B A c xs) (hR : Row E w A2 ys) (hB : B ≤ w.heap.size) (hn : n = xs.length) (hn2 : n2 = ys.length) (hl : xs.length + ys.length ≤ 17179869184) {k : Option Addr → Nat → Nat → World → Prop}
    (h : ∀ A' c' w', Own E w' B A' c' (xs ++ ys) → qeg A A' w w' → k A' (xs ++ ys).length c' w') :
    Run P (Builtin.append_ #[t1, t2] ty #[.slice A n c, .slice A2 n2 c2]) w fun v w' => ∃ (A' : Option Addr) (n' c' : Nat), v = .slice A' n' c' ∧ k A' n' c' w' := by
 subst hn; subst hn2
 obtain ⟨inf, z, hi, hsz, hz, hzz, hby, hby0⟩ := T.info
 obtain ⟨A', c', w', hr, hcase⟩ := qer h2 T.under hi hsz hz (by rw [hzz]; simp [E.len]) hby hby0 hO hR hl (c2 := c2) (ty := ty)
 refine ⟨_, w', hr, A', _, c', rfl, ?_⟩
 rcases hcase with ⟨rfl, ho, hnil, hch⟩ | ⟨ho, he⟩
 ·refine h _ _ _ ho ?_
  cases A' with
  | none =>
   have e := hnil rfl
   exact ⟨e.os, e.tape, e.output, e.size, fun k hk _ => e.block k hk, fun a ha => by cases ha⟩
  | some a =>
   have e := hch a rfl
   exact ⟨e.os, e.tape, e.output, e.size, fun k hk hap => e.block k hk (fun h => hap a rfl h.symm), fun a' ha' => .inl ⟨a', ha', rfl⟩⟩
 ·refine h _ _ _ (ho.mono hB) ⟨he.os, he.tape, he.output, he.size, fun k hk _ => he.block k hk, fun a' ha' => .inr (ho.base a' ha')⟩
end Go.V
