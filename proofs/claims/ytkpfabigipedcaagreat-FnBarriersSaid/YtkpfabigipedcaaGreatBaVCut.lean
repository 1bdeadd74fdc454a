import Derived.Test.YtkpfabigipedcaaGreatBaVOwn
set_option linter.unusedVariables false
set_option linter.unusedSimpArgs false
namespace Go.V
theorem qft {m l sz : Nat} {A : Option Addr} {a : Addr} (h : cutA m l A sz = some a) : ∃ b, A = some b ∧ b.block = a.block := by
 unfold cutA at h
 split at h
 ·exact ⟨a, h, rfl⟩
 ·cases A with
  | none => cases h
  | some b => simp only [Option.map_some, Option.some.injEq] at h; exact ⟨b, rfl, by rw [← h, qeF]⟩
theorem qjX {m l sz : Nat} {A A' : Option Addr} (h : qd4 A A') : qd4 (cutA m l A sz) A' := fun a a' ha ha' => by
 obtain ⟨b, hb, e⟩ := qft ha
 rw [← e]; exact h b a' hb ha'
theorem qlx {α : Type} [Inhabited α] (E : El α) : ∀ (n : Nat), (Builtin.zeroCells (E.enc (default : α)).toArray n).toList = flat E (List.replicate n (default : α)) := by
 intro n
 have h := qhP E n
 have : (Builtin.zeroCells (E.enc (default : α)).toArray n) = qfe (E.enc (default : α)).toArray (n * E.sz) := by
  unfold Builtin.zeroCells qfe
  congr 2
  simp [E.len]
 rw [this, h]
theorem qiP {P : Program} {a : Addr} {vs : List Value} {w : World} {k : World → Prop} (h : qae a vs 0 w k) : ∃ w', (storeCells a vs).run P w = .ok () w' ∧ k w' := by
 obtain ⟨w', h1, h2⟩ := qfk (P := P) vs 0 w k h
 exact ⟨w', h1, h2⟩
theorem qkU {α : Type} (E : El α) : ∀ (xs : List α), (flat E xs).all oneCell = true
 | [] => rfl
 | x :: xs => by
  simp only [flat, List.all_append, E.one x, Bool.true_and]
  exact qkU E xs
theorem qkW {P : Program} {α : Type} [Inhabited α] {E : El α} {t ty : TypeId} (T : SlT P E t) {w : World} {B c l n cc : Nat} {A : Option Addr} {xs : List α} (hO : Own E w B A c xs) (hl : l ≤ xs.length) (hn : n = xs.length - l) {k : World → Prop}
    (h : ∀ w1, Own E w1 B A c (xs.take l ++ List.replicate (xs.length - l) default) → qgC A A w w1 → k w1) :
    Run P (Builtin.clear_ #[t] ty #[.slice (cutA c l A E.sz) n cc]) w fun v w' => v = .tuple #[] ∧ k w' := by
 subst hn
 obtain ⟨inf, z, hi, hsz, hz, hzz, hby, hby0⟩ := T.info
 have hsame : ∀ a', A = some a' → (∃ a, A = some a ∧ a.block = a'.block) ∨ w.heap.size ≤ a'.block := fun a' ha => .inl ⟨a', ha, rfl⟩
 by_cases h0 : xs.length - l = 0
 ·have e : xs.take l ++ List.replicate (xs.length - l) default = xs := by rw [h0, List.take_of_length_le (by omega)]; simp
  have hk := h w (by rw [e]; exact hO) ⟨rfl, rfl, rfl, Nat.le_refl _, fun _ _ _ => rfl, hsame⟩
  rw [h0]
  refine ⟨_, w, ?_, rfl, hk⟩
  cases hA : cutA c l A E.sz <;> simp [Builtin.clear_, underlying, program, T.under, bind, Sem.bind, pure, Sem.run]
 ·cases hO with
  | nil => simp at h0
  | @blk g o c xs cs hB hb hc hzc hx =>
   have hcl : c ≠ l := by omega
   have hcut : cutA c l (some (⟨g, o, none⟩ : Addr)) E.sz = some ⟨g, o + l * E.sz, none⟩ := by
    unfold cutA; rw [if_neg hcl]; simp [qcY]
   have hzl : (Builtin.zeroCells z.cells (xs.length - l)).toList = flat E (List.replicate (xs.length - l) (default : α)) := by rw [hzz]; exact qlx E _
   have hfl : (flat E (List.replicate (xs.length - l) (default : α))).length = (xs.length - l) * E.sz := by rw [qcK]; simp
   have hmul : l * E.sz + (xs.length - l) * E.sz ≤ c * E.sz := by rw [← Nat.add_mul]; exact Nat.mul_le_mul_right _ (by omega)
   have hst : qae (⟨g, o + l * E.sz, none⟩ : Addr) (flat E (List.replicate (xs.length - l) (default : α))) 0 w k := by
    refine qd9 hb rfl rfl (by rw [hfl]; omega) (qkU E _) fun w1 hb1 hch => h w1 ?_ ⟨hch.os, hch.tape, hch.output, hch.size, fun i hi hap => hch.block i hi (fun e => hap _ rfl e.symm), hsame⟩
    refine .blk hB hb1 (by simp; omega) (by rw [qdT]; exact hzc) fun j x hj i v hv => ?_
    have hiz := E.lt hv
    have hjl : j < xs.length := by
     have := (List.getElem?_eq_some_iff.1 hj).1
     simp at this; omega
    have hjc : j * E.sz + E.sz ≤ c * E.sz := by rw [← Nat.succ_mul]; exact Nat.mul_le_mul_right _ (by omega)
    rw [qdr]
    by_cases hlt : j < l
    ·have hjm : j * E.sz + E.sz ≤ l * E.sz := by rw [← Nat.succ_mul]; exact Nat.mul_le_mul_right _ hlt
     rw [if_neg (by omega)]
     rw [List.getElem?_append_left (by simp; omega), List.getElem?_take, if_pos hlt] at hj
     exact hx j x hj i v hv
    ·have hjm : l * E.sz + (j - l) * E.sz = j * E.sz := by rw [← Nat.add_mul]; congr 1; omega
     have hjn : (j - l) * E.sz + E.sz ≤ (xs.length - l) * E.sz := by rw [← Nat.succ_mul]; exact Nat.mul_le_mul_right _ (by omega)
     rw [if_pos ⟨by omega, by rw [hfl]; omega, by omega⟩]
     rw [List.getElem?_append_right (by simp; omega)] at hj
     rw [show o + j * E.sz + i - (o + l * E.sz) = (j - l) * E.sz + i by omega]
     refine flat_get E _ (j - l) i x v ?_ hv
     rw [← hj]; congr 1; simp; omega
   obtain ⟨w', h1, h2⟩ := qiP (P := P) hst
   refine ⟨_, w', ?_, rfl, h2⟩
   rw [hcut]
   have hne : ∃ m, xs.length - l = m + 1 := ⟨xs.length - l - 1, by omega⟩
   obtain ⟨m, hm⟩ := hne
   have hzv : (zeroValue E.tid).run P w = .ok z w := by
    simp [zeroValue, typeInfo, program, hi, hz, bind, Sem.bind, pure, Sem.run]
   rw [← hzl, hm] at h1
   rw [hm]
   have h1' : Sem.run P (storeCells ⟨g, o + l * E.sz, none⟩ (Builtin.zeroCells z.cells (m + 1)).toList) w = .ok () w' := h1
   simp [Builtin.clear_, Sem.run_bind, run_underlying T.under, Result.andThen, hzv, h1']
end Go.V
