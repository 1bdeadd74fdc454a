import Derived.Test.YtkpfabigipedcaaNoVWords
set_option linter.unusedVariables false
set_option linter.unusedSimpArgs false
namespace Go.V
def InB (A : Option Addr) (g : Nat) : Prop := ∃ a, A = some a ∧ a.block = g
structure Chg (S : Nat → Prop) (w w' : World) : Prop where
 os : w'.os = w.os
 tape : w'.tape = w.tape
 output : w'.output = w.output
 size : w.heap.size ≤ w'.heap.size
 block : ∀ k, k < w.heap.size → ¬ S k → w'.heap[k]? = w.heap[k]?
theorem Chg.refl (S : Nat → Prop) (w : World) : Chg S w w := ⟨rfl, rfl, rfl, Nat.le_refl _, fun _ _ _ => rfl⟩
theorem Chg.then {S : Nat → Prop} {w w1 w2 : World} (h : Chg S w w1) (k : Ext w1 w2) : Chg S w w2 :=
 ⟨k.os.trans h.os, k.tape.trans h.tape, k.output.trans h.output, Nat.le_trans h.size k.size, fun i hi hn => (k.block i (Nat.lt_of_lt_of_le hi h.size)).trans (h.block i hi hn)⟩
theorem Chg.chgb {S : Nat → Prop} {w w1 w2 : World} {g : Nat} (h : Chg S w w1) (k : ChgB g w1 w2) (hg : w.heap.size ≤ g ∨ S g) : Chg S w w2 :=
 ⟨k.os.trans h.os, k.tape.trans h.tape, k.output.trans h.output, Nat.le_trans h.size k.size, fun i hi hn => (k.block i (Nat.lt_of_lt_of_le hi h.size) (by rintro rfl; rcases hg with h1 | h1; (· omega); exact hn h1)).trans (h.block i hi hn)⟩
theorem Chg.app {S : Nat → Prop} {w w1 w2 : World} {A A' : Option Addr} (h : Chg S w w1) (e : qeg A A' w1 w2) (hA : ∀ g, InB A g → w.heap.size ≤ g ∨ S g) : Chg S w w2 :=
 ⟨e.os.trans h.os, e.tape.trans h.tape, e.output.trans h.output, Nat.le_trans h.size e.size, fun i hi hn => (e.block i (Nat.lt_of_lt_of_le hi h.size) (by
  rintro a ha rfl; rcases hA _ ⟨a, ha, rfl⟩ with h1 | h1; (· omega); exact hn h1)).trans (h.block i hi hn)⟩
theorem Chg.chg {S S' : Nat → Prop} {w w1 w2 : World} (h : Chg S w w1) (k : Chg S' w1 w2) (hS : ∀ g, S' g → w.heap.size ≤ g ∨ S g) : Chg S w w2 :=
 ⟨k.os.trans h.os, k.tape.trans h.tape, k.output.trans h.output, Nat.le_trans h.size k.size, fun i hi hn => (k.block i (Nat.lt_of_lt_of_le hi h.size) (by
  intro h1; rcases hS i h1 with h2 | h2; (· omega); exact hn h2)).trans (h.block i hi hn)⟩
theorem Chg.ext {S : Nat → Prop} {w w1 w2 : World} (h : Ext w w1) (k : Chg S w1 w2) (hS : ∀ g, S g → w.heap.size ≤ g) : Ext w w2 :=
 ⟨k.os.trans h.os, k.tape.trans h.tape, k.output.trans h.output, Nat.le_trans h.size k.size, fun i hi => (k.block i (Nat.lt_of_lt_of_le hi h.size) (by
  intro h1; have := hS i h1; omega)).trans (h.block i hi)⟩
theorem Ext.qgx {S : Nat → Prop} {w w1 : World} (h : Ext w w1) : Chg S w w1 := (Chg.refl S w).then h
theorem Own.chgS {α : Type} {E : El α} {w w' : World} {B c : Nat} {S : Nat → Prop} {A : Option Addr} {xs : List α} (h : Own E w B A c xs) (e : Chg S w w') (hne : ∀ g, InB A g → ¬ S g) : Own E w' B A c xs := by
 cases h with
 | nil => exact .nil
 | blk hB h hc hz hx => exact .blk hB ((e.block _ h.lt (hne _ ⟨_, rfl, rfl⟩)).trans h) hc hz hx
theorem Blk.chgS {w w' : World} {g T : Nat} {S : Nat → Prop} {cs : Array Value} (h : Blk w g T cs) (e : Chg S w w') (hne : ¬ S g) : Blk w' g T cs := (e.block g h.lt hne).trans h
theorem Row.chgS {α : Type} {E : El α} {w w' : World} {S : Nat → Prop} {A : Option Addr} {xs : List α} (h : Row E w A xs) (e : Chg S w w') (hne : xs ≠ [] → ∀ g, InB A g → ¬ S g) : Row E w' A xs := by
 refine ⟨fun hx => ?_⟩
 obtain ⟨a, ha, hc⟩ := h.cells hx
 refine ⟨a, ha, fun j x hj i v hi => ?_⟩
 have h1 := hc j x hj i v hi
 have hb : ((a.add (j * E.sz)).add i).block = a.block := by unfold Addr.add; split <;> split <;> rfl
 rw [← h1]
 exact World.cell?_of_block (w := w) (e.block _ (World.block_lt_of_cell? w _ h1) (by rw [hb]; exact hne hx _ ⟨a, ha, rfl⟩))
theorem Own.low {α : Type} {E : El α} {w : World} {B c : Nat} {A : Option Addr} {xs : List α} (h : Own E w B A c xs) : ∀ g, InB A g → B ≤ g := by
 rintro g ⟨a, ha, rfl⟩; exact h.base a ha
theorem Row.old {α : Type} {E : El α} {w : World} {A : Option Addr} {xs : List α} (h : Row E w A xs) (hx : xs ≠ []) : ∀ g, InB A g → g < w.heap.size := by
 rintro g ⟨a, ha, rfl⟩
 obtain ⟨a', ha', hc⟩ := h.cells hx
 rw [ha] at ha'; cases ha'
 obtain ⟨x, hx0⟩ : ∃ x, xs[0]? = some x := ⟨xs[0]'(List.length_pos_iff.2 hx), by simp⟩
 have hl : 0 < (E.enc x).length := by rw [E.len]; exact E.pos
 have h1 := hc 0 x hx0 0 _ (List.getElem?_eq_getElem hl)
 have hb : ((a.add (0 * E.sz)).add 0).block = a.block := by unfold Addr.add; split <;> split <;> rfl
 have := World.block_lt_of_cell? w _ h1
 rwa [hb] at this
theorem qc0.inb {A A' : Option Addr} (h : qc0 A A') : ∀ g, InB A g → ¬ InB A' g := by
 rintro g ⟨a, ha, rfl⟩ ⟨a', ha', e⟩; exact h a a' ha ha' e.symm
theorem Apart.inb {A : Option Addr} {g : Nat} (h : Apart A g) : ¬ InB A g := by rintro ⟨a, ha, e⟩; exact h a ha e
theorem qcK {M : Nat → Prop} {w w' : World} (h : Chg M w w') : qcY M w w' := fun i hi hn => h.block i hi hn
theorem Row.isNone {α : Type} {E : El α} {w : World} {A : Option Addr} {xs : List α} (h : Row E w A xs) (e : Option.isNone A = true) : xs = [] := by
 by_cases hx : xs = []
 ·exact hx
 ·obtain ⟨a, ha, _⟩ := h.cells hx; rw [ha] at e; cases e
theorem qfN {P : Program} {f : FuncId} {x y : Array Value} {w : World} {K : Value → World → Prop} (e : x = y) (h : Cll P f x w K) : Cll P f y w K := e ▸ h
theorem qfV {P : Program} {f : FuncId} {l1 l2 : List Value} {w : World} {K : Value → World → Prop} (h : Cll P f (l1 ++ l2).toArray w K) : Cll P f (l1.toArray ++ l2.toArray) w K := by
 have e : (l1 ++ l2).toArray = l1.toArray ++ l2.toArray := by simp
 rw [← e]; exact h
def Mov (w : World) (A A' : Option Addr) : Prop := ∀ a', A' = some a' → (∃ a, A = some a ∧ a.block = a'.block) ∨ w.heap.size ≤ a'.block
theorem Mov.same (w : World) (A : Option Addr) : Mov w A A := fun a' h => .inl ⟨a', h, rfl⟩
theorem Mov.new {α : Type} {E : El α} {w w' : World} {c : Nat} {A A' : Option Addr} {xs : List α} (h : Own E w' w.heap.size A' c xs) : Mov w A A' := fun a' ha => .inr (h.base a' ha)
theorem Mov.low {w : World} {A A' : Option Addr} {b : Nat} (m : Mov w A A') (h : ∀ g, InB A g → b ≤ g) (hs : b ≤ w.heap.size) : ∀ g, InB A' g → b ≤ g := by
 rintro g ⟨a', ha', rfl⟩
 rcases m a' ha' with ⟨a, ha, hb⟩ | hge
 ·rw [← hb]; exact h _ ⟨a, ha, rfl⟩
 ·omega
theorem Own.lift {α : Type} {E : El α} {w : World} {B B' c : Nat} {A : Option Addr} {xs : List α} (h : Own E w B' A c xs) (hl : ∀ g, InB A g → B ≤ g) : Own E w B A c xs := by
 cases h with
 | nil => exact .nil
 | blk hB h hc hz hx => exact .blk (hl _ ⟨_, rfl, rfl⟩) h hc hz hx
theorem qch {p : Prop} (h : p) : p ∧ True := ⟨h, trivial⟩
theorem qdE {b g0 : Nat} (h : b ≤ g0) : ∀ g, g = g0 → b ≤ g := fun g e => by rw [e]; exact h
theorem qcv {A : Option Addr} {g0 : Nat} (h : Apart A g0) : ∀ g, InB A g → ¬ (g = g0) := fun g hg e => h.inb (e ▸ hg)
end Go.V
