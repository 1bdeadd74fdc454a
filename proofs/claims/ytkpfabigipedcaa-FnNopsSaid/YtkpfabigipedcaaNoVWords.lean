import Derived.Test.YtkpfabigipedcaaNoVBase
import Derived.Below
set_option linter.unusedSimpArgs false
set_option linter.unusedVariables false
namespace Go.V
open Go.RowKit (Below)

structure ChgB (g : Nat) (w w' : World) : Prop where
 os : w'.os = w.os
 tape : w'.tape = w.tape
 output : w'.output = w.output
 size : w.heap.size ≤ w'.heap.size
 block : ∀ k, k < w.heap.size → k ≠ g → w'.heap[k]? = w.heap[k]?

abbrev Ext (w w' : World) : Prop := Below w.heap.size w w'
theorem Ext.refl (w : World) : Ext w w := Below.refl _ _
theorem Ext.drew (w : World) : Ext w w.drew := (Below.refl _ _).drew
theorem Ext.alloc (w : World) (o : Obj) : Ext w (w.alloc o) := (Below.refl _ _).alloc (Nat.le_refl _) o
theorem qgY {B : Nat} {w w1 w2 : World} (h : Below B w w1) (hB : B ≤ w1.heap.size) (k : Ext w1 w2) : Below B w w2 := h.trans (k.mono hB)
theorem qam {w w1 w2 : World} (h : Ext w w1) (k : Ext w1 w2) : Ext w w2 := qgY h h.size k
theorem echg {w w1 w2 : World} {g : Nat} (h : Ext w w1) (k : ChgB g w1 w2) (hg : w.heap.size ≤ g) : Ext w w2 :=
 ⟨k.os.trans h.os, k.tape.trans h.tape, k.output.trans h.output, Nat.le_trans h.size k.size, fun i hi => (k.block i (Nat.lt_of_lt_of_le hi h.size) (by omega)).trans (h.block i hi)⟩
theorem ChgB.same {g : Nat} {w w1 w2 : World} (h : ChgB g w w1) (k : ChgB g w1 w2) : ChgB g w w2 :=
 ⟨k.os.trans h.os, k.tape.trans h.tape, k.output.trans h.output, Nat.le_trans h.size k.size, fun i hi hn => (k.block i (Nat.lt_of_lt_of_le hi h.size) hn).trans (h.block i hi hn)⟩
theorem ChgB.refl (g : Nat) (w : World) : ChgB g w w := ⟨rfl, rfl, rfl, Nat.le_refl _, fun _ _ _ => rfl⟩

theorem Ext.cell {w w' : World} (h : Ext w w') {a : Addr} {v : Value} (hc : w.cell? a = some v) : w'.cell? a = some v :=
 (Below.cell h (p := a) (World.block_lt_of_cell? w a hc)).trans hc

def Blk (w : World) (g T : Nat) (cs : Array Value) : Prop := w.heap[g]? = some (.cells cs T (0, 0))
theorem Blk.lt {w : World} {g T : Nat} {cs : Array Value} (h : Blk w g T cs) : g < w.heap.size := (Array.getElem?_eq_some_iff.1 h).1
theorem Blk.cell {w : World} {g T : Nat} {cs : Array Value} (h : Blk w g T cs) {j : Nat} {v : Value} (hj : cs[j]? = some v) : w.cell? ⟨g, j, none⟩ = some v := by
 unfold Blk at h; simp [World.cell?, h, hj]
theorem Blk.at {w : World} {g T : Nat} {cs : Array Value} (h : Blk w g T cs) (j : Nat) {v : Value} {a : Addr} (ha : a = ⟨g, j, none⟩) (hj : cs[j]? = some v) : w.cell? a = some v := by
 subst ha; exact h.cell hj
theorem Blk.ext {w w' : World} {g T : Nat} {cs : Array Value} (h : Blk w g T cs) (e : Ext w w') : Blk w' g T cs := (e.block g h.lt).trans h
theorem Blk.chg {w w' : World} {g T k : Nat} {cs : Array Value} (h : Blk w g T cs) (e : ChgB k w w') (hne : g ≠ k) : Blk w' g T cs := (e.block g h.lt hne).trans h
theorem Blk.frozen {w : World} {g T : Nat} {cs : Array Value} (h : Blk w g T cs) (j : Nat) : w.frozen? ⟨g, j, none⟩ = false := by
 unfold Blk at h; simp [World.frozen?, h]
theorem Blk.ne {w : World} {g g' T : Nat} {cs : Array Value} (h : Blk w g T cs) (h' : w.heap.size ≤ g') : g ≠ g' := by have := h.lt; omega

theorem qbE {w : World} {cs : Array Value} {T : Nat} {k : Nat → World → Prop}
    (h : ∀ g w1, w.heap.size ≤ g → Blk w1 g T cs → Ext w w1 → k g w1) : newK w (.cells cs T) k :=
 h _ _ (Nat.le_refl _) (by show (w.heap.push _)[w.heap.size]? = _; simp) (Ext.alloc _ _)

def splice (cs : Array Value) : Nat → List Value → Array Value
 | _, [] => cs
 | o, v :: vs => splice (cs.setIfInBounds o v) (o + 1) vs
theorem qcM : ∀ (vs : List Value) (cs : Array Value) (o : Nat), (splice cs o vs).size = cs.size
 | [], _, _ => rfl
 | v :: vs, cs, o => by simp [splice, qcM vs]
theorem qd8 : ∀ (vs : List Value) (cs : Array Value) (o j : Nat), (splice cs o vs)[j]? = if o ≤ j ∧ j < o + vs.length ∧ j < cs.size then vs[j - o]? else cs[j]?
 | [], cs, o, j => by
  simp only [splice, List.length_nil]
  rw [if_neg (by omega)]
 | v :: vs, cs, o, j => by
  simp only [splice]
  rw [qd8 vs, Array.size_setIfInBounds, Array.getElem?_setIfInBounds]
  by_cases h1 : o = j
  ·subst h1
   rw [if_neg (by omega)]
   by_cases h2 : o < cs.size
   ·rw [if_pos rfl, if_pos h2, if_pos ⟨Nat.le_refl _, by simp, h2⟩]; simp
   ·rw [if_pos rfl, if_neg h2, if_neg (by omega)]
    try rw [Array.getElem?_eq_none (by omega)]
  ·rw [if_neg h1]
   by_cases h2 : o + 1 ≤ j ∧ j < o + 1 + vs.length ∧ j < cs.size
   ·rw [if_pos h2, if_pos (by simp; omega)]
    rw [show j - o = (j - (o + 1)) + 1 by omega]; simp
   ·rw [if_neg h2, if_neg (by simp; omega)]

theorem Blk.set {w : World} {g T : Nat} {cs : Array Value} (h : Blk w g T cs) (j : Nat) (v : Value) : Blk (w.setCell ⟨g, j, none⟩ v) g T (cs.setIfInBounds j v) := by
 unfold Blk at *; simp [World.setCell, Array.getElem?_modify, h]
theorem ChgB.set (w : World) (g j : Nat) (v : Value) : ChgB g w (w.setCell ⟨g, j, none⟩ v) := by
 refine ⟨rfl, rfl, rfl, by simp, fun k _ hk => ?_⟩
 simp only [World.setCell, Array.getElem?_modify]
 rw [if_neg (fun e => hk e.symm)]

theorem qbr (g o i : Nat) : (⟨g, o, none⟩ : Addr).add i = ⟨g, o + i, none⟩ := by
 unfold Addr.add; split <;> simp_all

theorem qeK {a : Addr} {g T o : Nat} (ha : a = ⟨g, o, none⟩) : ∀ (vs : List Value) (i : Nat) {w : World} {cs : Array Value} {k : World → Prop}, Blk w g T cs → o + i + vs.length ≤ cs.size → (∀ v ∈ vs, oneCell v = true) →
    (∀ w1, Blk w1 g T (splice cs (o + i) vs) → ChgB g w w1 → w1.heap.size = w.heap.size → k w1) → qag a vs i w k
 | [], i, w, cs, k, hB, hl, ho, h => h w hB (ChgB.refl _ _) rfl
 | v :: vs, i, w, cs, k, hB, hl, ho, h => by
  simp only [List.length_cons] at hl
  simp only [qag, ho v List.mem_cons_self, cond_true]
  have e : a.add i = ⟨g, o + i, none⟩ := by rw [ha, qbr]
  rw [e]
  refine ⟨⟨cs[o + i]'(by omega), hB.cell (by simp)⟩, hB.frozen _, ?_⟩
  refine qeK ha vs (i + 1) (hB.set (o + i) v) (by simp; omega) (fun u hu => ho u (List.mem_cons_of_mem _ hu)) fun w1 h1 h2 h3 => ?_
  exact h w1 h1 ((ChgB.set w g (o + i) v).same h2) (by simpa using h3)

theorem qcb {a : Addr} {g T o : Nat} {vs : List Value} {w : World} {cs cs' : Array Value} {k : World → Prop} (hB : Blk w g T cs) (ha : a = ⟨g, o, none⟩) (hc : splice cs o vs = cs') (hl : o + vs.length ≤ cs.size) (ho : vs.all oneCell = true)
    (h : ∀ w1, Blk w1 g T cs' → ChgB g w w1 → k w1) : qag a vs 0 w k :=
 qeK ha vs 0 hB (by simpa using hl) (fun v hv => List.all_eq_true.1 ho v hv) fun w1 h1 h2 _ => h w1 (by rw [← hc]; simpa using h1) h2

structure El (α : Type) where
 sz : Nat
 tid : Nat
 enc : α → List Value
 len : ∀ x, (enc x).length = sz
 pos : 0 < sz
 one : ∀ x, (enc x).all oneCell = true

def rd {α : Type} [Inhabited α] (xs : List α) (i : Int) : α := xs.getD i.toNat default

structure Row {α : Type} (E : El α) (w : World) (A : Option Addr) (xs : List α) : Prop where
 cells : xs ≠ [] → ∃ a, A = some a ∧ ∀ j x, xs[j]? = some x → ∀ i v, (E.enc x)[i]? = some v → w.cell? ((a.add (j * E.sz)).add i) = some v

theorem Row.nil {α : Type} (E : El α) (w : World) (A : Option Addr) : Row E w A ([] : List α) := ⟨fun h => (h rfl).elim⟩
theorem Row.ext {α : Type} {E : El α} {w w' : World} {A : Option Addr} {xs : List α} (h : Row E w A xs) (e : Ext w w') : Row E w' A xs :=
 ⟨fun hx => let ⟨a, ha, hc⟩ := h.cells hx; ⟨a, ha, fun j x hj i v hi => e.cell (hc j x hj i v hi)⟩⟩
theorem Row.at {α : Type} [Inhabited α] {E : El α} {w : World} {A : Option Addr} {xs : List α} (h : Row E w A xs) {i : Int} (h0 : 0 ≤ i) (h1 : i < ((xs.length : Nat) : Int)) :
    ∃ a, A = some a ∧ ∀ j v, (E.enc (rd xs i))[j]? = some v → w.cell? ((a.add (i.toNat * E.sz)).add j) = some v := by
 obtain ⟨a, ha, hc⟩ := h.cells (by intro e; rw [e] at h1; simp at h1; omega)
 refine ⟨a, ha, fun j v hj => hc i.toNat _ ?_ j v hj⟩
 have : i.toNat < xs.length := by omega
 simp [rd, List.getD_eq_getElem?_getD, this]

theorem add_add (a : Addr) (h : a.spot = none) (m n : Nat) : (a.add m).add n = a.add (m + n) := by
 cases a with
 | mk b o s => simp at h; subst h; simp only [qbr, Nat.add_assoc]

inductive Own {α : Type} (E : El α) (w : World) (B : Nat) : Option Addr → Nat → List α → Prop
 | nil : Own E w B none 0 []
 | blk {g o c : Nat} {xs : List α} {cs : Array Value} (hB : B ≤ g) (h : Blk w g E.tid cs) (hc : xs.length ≤ c) (hz : o + c * E.sz ≤ cs.size)
     (hx : ∀ j x, xs[j]? = some x → ∀ i v, (E.enc x)[i]? = some v → cs[o + j * E.sz + i]? = some v) : Own E w B (some ⟨g, o, none⟩) c xs

theorem El.lt {α : Type} (E : El α) {x : α} {i : Nat} {v : Value} (h : (E.enc x)[i]? = some v) : i < E.sz := by
 rw [← E.len x]; exact (List.getElem?_eq_some_iff.1 h).1

theorem Own.row {α : Type} {E : El α} {w : World} {B c : Nat} {A : Option Addr} {xs : List α} (h : Own E w B A c xs) : Row E w A xs := by
 cases h with
 | nil => exact Row.nil _ _ _
 | blk hB h hc hz hx =>
  refine ⟨fun _ => ⟨_, rfl, fun j x hj i v hi => ?_⟩⟩
  rw [qbr, qbr]
  exact h.cell (hx j x hj i v hi)
theorem Own.ext {α : Type} {E : El α} {w w' : World} {B c : Nat} {A : Option Addr} {xs : List α} (h : Own E w B A c xs) (e : Ext w w') : Own E w' B A c xs := by
 cases h with
 | nil => exact .nil
 | blk hB h hc hz hx => exact .blk hB (h.ext e) hc hz hx
theorem Own.le {α : Type} {E : El α} {w : World} {B c : Nat} {A : Option Addr} {xs : List α} (h : Own E w B A c xs) : xs.length ≤ c := by
 cases h with
 | nil => simp
 | blk hB h hc hz hx => exact hc
theorem Own.mono {α : Type} {E : El α} {w : World} {B B' c : Nat} {A : Option Addr} {xs : List α} (h : Own E w B A c xs) (hB : B' ≤ B) : Own E w B' A c xs := by
 cases h with
 | nil => exact .nil
 | blk h1 h hc hz hx => exact .blk (Nat.le_trans hB h1) h hc hz hx
theorem Own.base {α : Type} {E : El α} {w : World} {B c : Nat} {A : Option Addr} {xs : List α} (h : Own E w B A c xs) : ∀ a, A = some a → B ≤ a.block := by
 intro a ha
 cases h with
 | nil => cases ha
 | blk hB h hc hz hx => cases ha; exact hB
def Apart (A : Option Addr) (g : Nat) : Prop := ∀ a, A = some a → a.block ≠ g
theorem Own.chg {α : Type} {E : El α} {w w' : World} {B c k : Nat} {A : Option Addr} {xs : List α} (h : Own E w B A c xs) (e : ChgB k w w') (hne : Apart A k) : Own E w' B A c xs := by
 cases h with
 | nil => exact .nil
 | blk hB h hc hz hx => exact .blk hB (h.chg e (hne _ rfl)) hc hz hx
theorem Own.qcS {α : Type} {E : El α} {w : World} {B c g : Nat} {A : Option Addr} {xs : List α} (h : Own E w B A c xs) (hg : w.heap.size ≤ g) : Apart A g := by
 intro a ha
 cases h with
 | nil => cases ha
 | blk hB h hc hz hx => cases ha; have := h.lt; simp; omega
theorem Own.qbk {α : Type} {E : El α} {w : World} {B c g : Nat} {A : Option Addr} {xs : List α} (h : Own E w B A c xs) (hg : g < B) : Apart A g := by
 intro a ha
 cases h with
 | nil => cases ha
 | blk hB h hc hz hx => cases ha; simp; omega
theorem Own.qas {α : Type} {E : El α} {w : World} {B c g T : Nat} {A : Option Addr} {xs : List α} {cs : Array Value} (h : Own E w B A c xs) (hb : Blk w g T cs) (hT : E.tid ≠ T) : Apart A g := by
 intro a ha
 cases h with
 | nil => cases ha
 | blk hB h hc hz hx =>
  cases ha
  rintro rfl
  unfold Blk at *; rw [h] at hb; injection hb with hb; injection hb; contradiction
def qc0 (A A' : Option Addr) : Prop := ∀ a a', A = some a → A' = some a' → a.block ≠ a'.block
theorem qc0.symm {A A' : Option Addr} (h : qc0 A A') : qc0 A' A := fun a a' ha ha' => (h a' a ha' ha).symm
theorem Own.qbS {α β : Type} {E : El α} {E' : El β} {w w' : World} {B c B' c' : Nat} {A A' : Option Addr} {xs : List α} {ys : List β} (h : Own E w B A c xs) (h' : Own E' w' B' A' c' ys) (hB : w.heap.size ≤ B') : qc0 A A' := by
 intro a a' ha ha'
 cases h' with
 | nil => cases ha'
 | @blk g' _ _ _ _ hB' h' _ _ _ => cases ha'; exact h.qcS (g := g') (by omega) a ha
theorem Own.store {α : Type} [Inhabited α] {E : El α} {w : World} {B c : Nat} {A : Option Addr} {xs : List α} (h : Own E w B A c xs) {i : Int} (h0 : 0 ≤ i) (h1 : i < ((xs.length : Nat) : Int)) (f : Nat) (vs : List Value) (y : α)
    (hy : E.enc y = (E.enc (rd xs i)).take f ++ vs ++ (E.enc (rd xs i)).drop (f + vs.length)) (hf : f + vs.length ≤ E.sz) (ho : vs.all oneCell = true) {k : World → Prop}
    (hk : ∀ g w1, (∀ a, A = some a → a.block = g) → B ≤ g → g < w.heap.size → Own E w1 B A c (xs.set i.toNat y) → ChgB g w w1 → k w1) :
    ∃ a, A = some a ∧ qag ((a.add (i.toNat * E.sz)).add f) vs 0 w k := by
 cases h with
 | nil => simp at h1; omega
 | @blk g o c xs cs hB h hc hz hx =>
  refine ⟨_, rfl, ?_⟩
  have hil : i.toNat < xs.length := by omega
  have hm : i.toNat * E.sz + E.sz ≤ c * E.sz := by
   rw [← Nat.succ_mul]; exact Nat.mul_le_mul_right _ (by omega)
  rw [qbr, qbr]
  refine qcb h rfl rfl (by omega) ho fun w1 hb hch => hk g w1 (fun a ha => by cases ha; rfl) hB h.lt ?_ hch
  refine .blk hB hb (by simpa using hc) (by rw [qcM]; exact hz) fun j x hj i' v hv => ?_
  have hi' := E.lt hv
  rw [qd8]
  by_cases hji : i.toNat = j
  ·subst hji
   rw [List.getElem?_set_self hil] at hj
   cases hj
   rw [hy] at hv
   have hold := hx i.toNat (rd xs i) (by simp [rd, List.getD_eq_getElem?_getD, hil])
   by_cases hr : o + i.toNat * E.sz + f ≤ o + i.toNat * E.sz + i' ∧ o + i.toNat * E.sz + i' < o + i.toNat * E.sz + f + vs.length ∧ o + i.toNat * E.sz + i' < cs.size
   ·rw [if_pos hr]
    rw [List.append_assoc, List.getElem?_append_right (by simp [E.len]; omega), List.getElem?_append_left (by simp [E.len]; omega)] at hv
    rw [← hv]; congr 1; simp [E.len]; omega
   ·rw [if_neg hr]
    by_cases hlt : i' < f
    ·rw [List.append_assoc, List.getElem?_append_left (by simp [E.len]; omega), List.getElem?_take_of_lt hlt] at hv
     exact hold i' v hv
    ·rw [List.getElem?_append_right (by simp [E.len]; omega), List.getElem?_drop] at hv
     have : f + vs.length + (i' - ((E.enc (rd xs i)).take f ++ vs).length) = i' := by simp [E.len]; omega
     rw [this] at hv
     exact hold i' v hv
  ·rw [List.getElem?_set_ne hji] at hj
   have hjl : j < xs.length := (List.getElem?_eq_some_iff.1 hj).1
   rw [if_neg]
   ·exact hx j x hj i' v hv
   ·rintro ⟨h1, h2, _⟩
    rcases Nat.lt_or_gt_of_ne hji with hlt | hgt
    ·have : i.toNat * E.sz + E.sz ≤ j * E.sz := by rw [← Nat.succ_mul]; exact Nat.mul_le_mul_right _ hlt
     omega
    ·have : j * E.sz + E.sz ≤ i.toNat * E.sz := by rw [← Nat.succ_mul]; exact Nat.mul_le_mul_right _ hgt
     omega

def flat {α : Type} (E : El α) : List α → List Value
 | [] => []
 | x :: xs => E.enc x ++ flat E xs
theorem qaL {α : Type} (E : El α) : ∀ xs : List α, (flat E xs).length = xs.length * E.sz
 | [] => by simp [flat]
 | x :: xs => by simp [flat, E.len, qaL E xs, Nat.succ_mul]; omega
theorem qez {α : Type} (E : El α) : ∀ (xs : List α), ∀ v ∈ flat E xs, oneCell v = true
 | x :: xs, v, hv => by
  simp only [flat, List.mem_append] at hv
  rcases hv with hv | hv
  ·exact List.all_eq_true.1 (E.one x) v hv
  ·exact qez E xs v hv
theorem flat_get {α : Type} (E : El α) : ∀ (xs : List α) (j i : Nat) (x : α) (v : Value), xs[j]? = some x → (E.enc x)[i]? = some v → (flat E xs)[j * E.sz + i]? = some v
 | [], j, i, x, v, hj, _ => by simp at hj
 | y :: xs, 0, i, x, v, hj, hi => by
  simp at hj; subst hj
  have := E.lt hi
  simp only [flat, Nat.zero_mul, Nat.zero_add]
  rw [List.getElem?_append_left (by rw [E.len]; exact this)]
  exact hi
 | y :: xs, j + 1, i, x, v, hj, hi => by
  simp at hj
  simp only [flat]
  rw [List.getElem?_append_right (by rw [E.len, Nat.succ_mul]; omega), E.len]
  rw [show (j + 1) * E.sz + i - E.sz = j * E.sz + i by rw [Nat.succ_mul]; omega]
  exact flat_get E xs j i x v hj hi
theorem qeG {α : Type} (E : El α) : ∀ (xs : List α) (m : Nat) (v : Value), (flat E xs)[m]? = some v → ∃ x, xs[m / E.sz]? = some x ∧ (E.enc x)[m % E.sz]? = some v
 | [], m, v, h => by simp [flat] at h
 | y :: xs, m, v, h => by
  simp only [flat] at h
  by_cases hm : m < E.sz
  ·rw [List.getElem?_append_left (by rw [E.len]; exact hm)] at h
   exact ⟨y, by rw [Nat.div_eq_of_lt hm]; rfl, by rw [Nat.mod_eq_of_lt hm]; exact h⟩
  ·rw [List.getElem?_append_right (by rw [E.len]; omega), E.len] at h
   obtain ⟨x, h1, h2⟩ := qeG E xs _ v h
   have e1 : m / E.sz = (m - E.sz) / E.sz + 1 := by rw [Nat.div_eq_sub_div E.pos (by omega)]
   have e2 : m % E.sz = (m - E.sz) % E.sz := by rw [Nat.mod_eq_sub_mod (by omega)]
   exact ⟨x, by rw [e1]; simpa using h1, by rw [e2]; exact h2⟩

theorem cell_spot {w : World} {a : Addr} {v : Value} (h : w.cell? a = some v) : a.spot = none := by
 unfold World.cell? at h
 split at h
 ·cases hs : a.spot with
  | none => rfl
  | some s => simp [hs] at h
 ·cases h

theorem Row.spot {α : Type} {E : El α} {w : World} {a : Addr} {xs : List α} (h : Row E w (some a) xs) (hx : xs ≠ []) : a.spot = none := by
 obtain ⟨a', e, hc⟩ := h.cells hx
 cases e
 cases xs with
 | nil => exact (hx rfl).elim
 | cons x xs =>
  have hl : 0 < (E.enc x).length := by rw [E.len]; exact E.pos
  have := hc 0 x rfl 0 ((E.enc x)[0]'hl) (by simp)
  rw [Nat.zero_mul, qcF, qcF] at this
  exact cell_spot this

theorem Row.flat {α : Type} {E : El α} {w : World} {A : Option Addr} {xs : List α} (h : Row E w A xs) (hx : xs ≠ []) :
    ∃ a, A = some a ∧ ∀ m v, (flat E xs)[m]? = some v → w.cell? (a.add m) = some v := by
 obtain ⟨a, e, hc⟩ := h.cells hx
 refine ⟨a, e, fun m v hm => ?_⟩
 obtain ⟨x, h1, h2⟩ := qeG E xs m v hm
 have := hc _ x h1 _ v h2
 subst e
 rw [add_add a (h.spot hx)] at this
 rwa [show m / E.sz * E.sz + m % E.sz = m from Nat.div_add_mod' m E.sz] at this

theorem qbx {P : Program} {α : Type} {E : El α} {w : World} {A : Option Addr} {c : Nat} {xs : List α} (h : Row E w A xs) :
    (Builtin.firstCells E.sz xs.length (.slice A xs.length c)).run P w = .ok (flat E xs).toArray w := by
 cases A with
 | none =>
  have : xs = [] := by
   cases xs with
   | nil => rfl
   | cons x xs => obtain ⟨a, e, _⟩ := h.cells (by simp); cases e
  subst this
  simp [Builtin.firstCells, pure, Sem.run, flat]
 | some a =>
  simp only [Builtin.firstCells, loadCells]
  by_cases hx : xs = []
  ·subst hx; simp [loadCellsFrom, pure, Sem.run, flat]
  ·obtain ⟨a', e, hc⟩ := h.flat hx
   cases e
   rw [qca _ _ _ (flat E xs) (qaL E xs) (fun j v hj => by rw [Nat.zero_add]; exact hc j v hj)]
   simp

theorem qf9 {need : Nat} : ∀ (r x : Nat), x ≤ need + (need + 768) / 4 → Builtin.growBy need r x ≤ need + (need + 768) / 4
 | 0, x, h => h
 | r + 1, x, h => by
  simp only [Builtin.growBy]
  split
  ·exact h
  ·exact qf9 r _ (by omega)
theorem nextslicecap_le {need c : Nat} (h : c < need) : Builtin.nextslicecap need c ≤ 2 * need + 768 * 8 := by
 have h4 : Builtin.growBy need 4 c ≤ need + (need + 768) / 4 := qf9 4 c (by omega)
 unfold Builtin.nextslicecap
 generalize Builtin.growBy need 4 c = q at h4 ⊢
 split
 ·omega
 ·split <;> omega

theorem qdb (z : Array Value) (n : Nat) : (Builtin.zeroCells z n).size = n * z.size := by simp [Builtin.zeroCells]

set_option maxRecDepth 10000 in
set_option maxHeartbeats 1000000 in
theorem qer {P : Program} {α : Type} {E : El α} {t1 t2 e2 ty : TypeId} {inf : TypeInfo} {z : Value} (h2 : P.underlying t2 = some (.slice e2))
    (hu : P.underlying t1 = some (.slice E.tid)) (hi : P.info? E.tid = some inf) (hsz : inf.size = E.sz) (hz : inf.zero = some z) (hzz : z.cells.size = E.sz) (hby : inf.bytes ≤ 1024) (hby0 : inf.bytes ≠ 0)
    {w : World} {B c : Nat} {A : Option Addr} {xs : List α} {A2 : Option Addr} {c2 : Nat} {ys : List α} (hO : Own E w B A c xs) (hR : Row E w A2 ys)
    (hl : xs.length + ys.length ≤ 17179869184) :
    ∃ A' c' w', (Builtin.append_ #[t1, t2] ty #[.slice A xs.length c, .slice A2 ys.length c2]).run P w = .ok (.slice A' (xs ++ ys).length c') w' ∧
     ((A' = A ∧ Own E w' B A' c' (xs ++ ys) ∧ (A = none → Ext w w') ∧ ∀ a, A = some a → ChgB a.block w w') ∨ (Own E w' w.heap.size A' c' (xs ++ ys) ∧ Ext w w')) := by
 have hr := qbx (P := P) hR (c := c2)
 have ho := qbx (P := P) hO.row (c := c)
 have room : ∀ (n : Nat) (w : World), (askRoom n).run P w = .ok () w := by
  intro n w; unfold askRoom; split <;> simp [mark, Sem.run, pure]
 have head : (Builtin.append_ #[t1, t2] ty #[.slice A xs.length c, .slice A2 ys.length c2]).run P w =
     (if xs.length + ys.length ≤ c then
      (Builtin.firstCells E.sz ys.length (.slice A2 ys.length c2)).bind fun new => match A with
       | some a => (storeCells (a.add (xs.length * E.sz)) new.toList).bind fun _ => .pure (.slice A (xs.length + ys.length) c)
       | none => .pure (.slice A (xs.length + ys.length) c)
     else (choose (.appendCap (xs.length + ys.length) c E.tid)).bind fun newCap => (askRoom (newCap * inf.bytes)).bind fun _ =>
      (Builtin.firstCells E.sz xs.length (.slice A xs.length c)).bind fun old => (Builtin.firstCells E.sz ys.length (.slice A2 ys.length c2)).bind fun new =>
       (newRow E.tid (old ++ new ++ Builtin.zeroCells z.cells (newCap - (xs.length + ys.length)))).bind fun a => .pure (.slice (some a) (xs.length + ys.length) newCap)).run P w := by
  by_cases hc : xs.length + ys.length ≤ c
  ·simp only [hc, if_true]
   cases A <;> simp [Builtin.append_, underlying, typeInfo, sizeOf, program, bind, Sem.bind, Sem.run, Sem.run_bind', hu, h2, hi, hsz, hz, pure, Builtin.lenOf, hc, Result.andThen]
  ·have hcap := nextslicecap_le (need := xs.length + ys.length) (c := c) (by omega)
   have t1 : ¬ (Builtin.nextslicecap (xs.length + ys.length) c * inf.bytes > 2 ^ 48) := by
    have := Nat.mul_le_mul (Nat.le_refl (Builtin.nextslicecap (xs.length + ys.length) c)) hby
    generalize Builtin.nextslicecap (xs.length + ys.length) c = q at *
    generalize q * inf.bytes = p at *
    omega
   have t2' : ¬ ((((xs.length + ys.length : Nat) : Int) > IntKind.i64.max) ∧ (false = true ∨ inf.bytes = 0)) := by
    rintro ⟨_, h | h⟩
    ·cases h
    ·exact hby0 h
   simp only [hc, if_false]
   simp [Builtin.append_, underlying, typeInfo, sizeOf, program, bind, Sem.bind, Sem.run, Sem.run_bind', hu, h2, hi, hsz, hz, pure, Builtin.lenOf, hc, Result.andThen, t1, hby0, zeroValue]
 rw [head]
 by_cases hc : xs.length + ys.length ≤ c
 ·rw [if_pos hc, Sem.run_bind', hr]
  simp only [Result.andThen]
  cases hO with
  | nil =>
   have : ys = [] := by cases ys with
    | nil => rfl
    | cons y ys => simp at hc
   subst this
   exact ⟨none, 0, w, by simp [Sem.run], .inl ⟨rfl, .nil, (fun _ => Ext.refl _), (fun a ha => nomatch ha)⟩⟩
  | @blk g o c xs cs hB h hcc hzc hx =>
   have hm : (xs.length + ys.length) * E.sz ≤ c * E.sz := Nat.mul_le_mul_right _ hc
   rw [Nat.add_mul] at hm
   have hst := qeK (a := (⟨g, o, none⟩ : Addr).add (xs.length * E.sz)) (g := g) (T := E.tid) (o := o + xs.length * E.sz) (by rw [qbr]) (flat E ys) 0 (w := w) (cs := cs)
    (k := fun w1 => Blk w1 g E.tid (splice cs (o + xs.length * E.sz) (flat E ys)) ∧ ChgB g w w1) h (by rw [qaL]; omega) (qez E ys) (fun w1 h1 h2 _ => ⟨h1, h2⟩)
   obtain ⟨w', hrun, hb, hch⟩ := qcn (P := P) _ _ _ _ hst
   refine ⟨some ⟨g, o, none⟩, c, w', ?_, .inl ⟨rfl, ?_, (fun h => nomatch h), (fun a ha => by cases ha; exact hch)⟩⟩
   ·rw [Sem.run_bind', hrun]
    simp [Result.andThen, Sem.run]
   ·refine .blk hB hb (by simpa using hc) (by rw [qcM]; exact hzc) fun j x hj i v hi => ?_
    have hi' := E.lt hi
    rw [qd8]
    by_cases hjl : j < xs.length
    ·rw [List.getElem?_append_left hjl] at hj
     have : j * E.sz + E.sz ≤ xs.length * E.sz := by rw [← Nat.succ_mul]; exact Nat.mul_le_mul_right _ hjl
     rw [if_neg (by omega)]
     exact hx j x hj i v hi
    ·rw [List.getElem?_append_right (by omega)] at hj
     have hjy : j - xs.length < ys.length := (List.getElem?_eq_some_iff.1 hj).1
     have e1 : j * E.sz = xs.length * E.sz + (j - xs.length) * E.sz := by rw [← Nat.add_mul]; congr 1; omega
     have e2 : (j - xs.length) * E.sz + E.sz ≤ ys.length * E.sz := by rw [← Nat.succ_mul]; exact Nat.mul_le_mul_right _ hjy
     rw [if_pos (by rw [qaL]; omega)]
     rw [show o + j * E.sz + i - (o + xs.length * E.sz) = (j - xs.length) * E.sz + i by omega]
     exact flat_get E ys _ i x v hj hi
 ·rw [if_neg hc]
  have hch : (choose (.appendCap (xs.length + ys.length) c E.tid)).run P w = .ok (xs.length + ys.length + w.tape w.drawn (.appendCap (xs.length + ys.length) c E.tid) % (2 ^ 63 - (xs.length + ys.length))) w.drew := by
   simp only [choose, Sem.run, Question.forced, Question.cut]; rfl
  rw [Sem.run_bind', hch]
  simp only [Result.andThen]
  generalize w.tape w.drawn (.appendCap (xs.length + ys.length) c E.tid) % (2 ^ 63 - (xs.length + ys.length)) = q
  have hr' := qbx (P := P) (hR.ext (Ext.drew w)) (c := c2)
  have ho' := qbx (P := P) (hO.ext (Ext.drew w)).row (c := c)
  simp only [Sem.run_bind', room, Result.andThen, ho', hr', newRow, newObj, bind, Sem.bind, Sem.run, pure]
  refine ⟨some ⟨w.heap.size, 0, none⟩, xs.length + ys.length + q, _, by simp; rfl, .inr ⟨?_, (Below.refl _ _).drew.alloc (by simp) _⟩⟩
  refine .blk (Nat.le_refl _) (cs := (flat E xs).toArray ++ (flat E ys).toArray ++ Builtin.zeroCells z.cells (xs.length + ys.length + q - (xs.length + ys.length))) ?_ (by simp) ?_ ?_
  ·show (w.drew.heap.push _)[w.heap.size]? = _
   rw [show w.heap.size = w.drew.heap.size from rfl, Array.getElem?_push_size]
   rw [show xs.length + ys.length + q - (xs.length + ys.length) = q by omega]
   simp
  ·simp only [Array.size_append, List.size_toArray, qaL, qdb, hzz]
   rw [← Nat.add_mul, ← Nat.add_mul]
   rw [Nat.zero_add]
   exact Nat.le_of_eq (congrArg (· * E.sz) (by omega))
  ·intro j x hj i v hi
   have hi' := E.lt hi
   have hjl : j < xs.length + ys.length := by have := (List.getElem?_eq_some_iff.1 hj).1; simpa using this
   have e2 : j * E.sz + E.sz ≤ (xs.length + ys.length) * E.sz := by rw [← Nat.succ_mul]; exact Nat.mul_le_mul_right _ hjl
   rw [Nat.add_mul] at e2
   rw [Array.getElem?_append_left (by simp [qaL]; omega)]
   by_cases hjx : j < xs.length
   ·rw [List.getElem?_append_left hjx] at hj
    have e3 : j * E.sz + E.sz ≤ xs.length * E.sz := by rw [← Nat.succ_mul]; exact Nat.mul_le_mul_right _ hjx
    rw [Array.getElem?_append_left (by simp [qaL]; omega)]
    simp only [Nat.zero_add, List.getElem?_toArray]
    exact flat_get E xs j i x v hj hi
   ·rw [List.getElem?_append_right (by omega)] at hj
    have e1 : j * E.sz = xs.length * E.sz + (j - xs.length) * E.sz := by rw [← Nat.add_mul]; congr 1; omega
    rw [Array.getElem?_append_right (by simp [qaL]; omega)]
    simp only [Nat.zero_add, List.getElem?_toArray, List.size_toArray, qaL]
    rw [show j * E.sz + i - xs.length * E.sz = (j - xs.length) * E.sz + i by omega]
    exact flat_get E ys _ i x v hj hi

structure qeg (A A' : Option Addr) (w w' : World) : Prop where
 os : w'.os = w.os
 tape : w'.tape = w.tape
 output : w'.output = w.output
 size : w.heap.size ≤ w'.heap.size
 block : ∀ k, k < w.heap.size → Apart A k → w'.heap[k]? = w.heap[k]?
 blk : ∀ a', A' = some a' → (∃ a, A = some a ∧ a.block = a'.block) ∨ w.heap.size ≤ a'.block

theorem Own.app {α : Type} {E : El α} {w w' : World} {B c : Nat} {X A A' : Option Addr} {xs : List α} (h : Own E w B X c xs) (e : qeg A A' w w') (hne : qc0 X A) : Own E w' B X c xs := by
 cases h with
 | nil => exact .nil
 | @blk g o c xs cs hB h hc hz hx => exact .blk hB ((e.block g h.lt (fun a ha => (hne _ a rfl ha).symm)).trans h) hc hz hx
theorem Blk.app {w w' : World} {g T : Nat} {cs : Array Value} {A A' : Option Addr} (h : Blk w g T cs) (e : qeg A A' w w') (hne : Apart A g) : Blk w' g T cs := (e.block g h.lt hne).trans h
theorem qc0.app {α : Type} {E : El α} {w w' : World} {B c : Nat} {X A A' : Option Addr} {xs : List α} (h : qc0 X A) (e : qeg A A' w w') (ho : Own E w B X c xs) : qc0 X A' := by
 intro a a' ha ha'
 rcases e.blk a' ha' with ⟨b, hb, hbb⟩ | hge
 ·rw [← hbb]; exact h a b ha hb
 ·exact ho.qcS hge a ha
theorem Apart.app {w w' : World} {A A' : Option Addr} {g : Nat} (h : Apart A g) (e : qeg A A' w w') (hg : g < w.heap.size) : Apart A' g := by
 intro a' ha'
 rcases e.blk a' ha' with ⟨b, hb, hbb⟩ | hge
 ·rw [← hbb]; exact h b hb
 ·omega
theorem eapp {α : Type} {E : El α} {w w1 w2 : World} {c : Nat} {A A' : Option Addr} {xs : List α} (h : Ext w w1) (e : qeg A A' w1 w2) (ho : Own E w1 w.heap.size A c xs) : Ext w w2 :=
 ⟨e.os.trans h.os, e.tape.trans h.tape, e.output.trans h.output, Nat.le_trans h.size e.size, fun i hi => (e.block i (Nat.lt_of_lt_of_le hi h.size) (ho.qbk hi)).trans (h.block i hi)⟩

structure SlT (P : Program) {α : Type} [Inhabited α] (E : El α) (t : TypeId) : Prop where
 under : P.underlying t = some (.slice E.tid)
 info : ∃ inf z, P.info? E.tid = some inf ∧ inf.size = E.sz ∧ inf.zero = some z ∧ z.cells = (E.enc (default : α)).toArray ∧ inf.bytes ≤ 1024 ∧ inf.bytes ≠ 0

theorem appOwn {P : Program} {α : Type} [Inhabited α] {E : El α} {t1 t2 e2 ty : TypeId} (T : SlT P E t1) (h2 : P.underlying t2 = some (.slice e2)) {w0 w : World} {c n2 n : Nat} {A : Option Addr} {xs : List α} {A2 : Option Addr} {c2 : Nat} {ys : List α}
    (hO : Own E w w0.heap.size A c xs) (hR : Row E w A2 ys) (hB : w0.heap.size ≤ w.heap.size) (hn : n = xs.length) (hn2 : n2 = ys.length) (hl : xs.length + ys.length ≤ 17179869184) {k : Option Addr → Nat → Nat → World → Prop}
    (h : ∀ A' c' w', Own E w' w0.heap.size A' c' (xs ++ ys) → qeg A A' w w' → k A' (xs ++ ys).length c' w') :
    Run P (Builtin.append_ #[t1, t2] ty #[.slice A n c, .slice A2 n2 c2]) w fun v w' => ∃ (A' : Option Addr) (n' c' : Nat), v = .slice A' n' c' ∧ k A' n' c' w' := by
 subst hn; subst hn2
 obtain ⟨inf, z, hi, hsz, hz, hzz, hby, hby0⟩ := T.info
 obtain ⟨A', c', w', hr, hcase⟩ := qer h2 T.under hi hsz hz (by rw [hzz]; simp [E.len]) hby hby0 hO hR hl (c2 := c2) (ty := ty)
 refine ⟨_, w', hr, A', _, c', rfl, ?_⟩
 rcases hcase with ⟨rfl, ho, hnil, hch⟩ | ⟨ho, he⟩
 ·refine h _ _ _ ho ?_
  cases A' with
  | none =>
   have e := hnil rfl
   exact ⟨e.os, e.tape, e.output, e.size, fun k hk _ => e.block k hk, fun a ha => by cases ha⟩
  | some a =>
   have e := hch a rfl
   exact ⟨e.os, e.tape, e.output, e.size, fun k hk hap => e.block k hk (fun h => hap a rfl h.symm), fun a' ha' => .inl ⟨a', ha', rfl⟩⟩
 ·refine h _ _ _ (ho.mono hB) ⟨he.os, he.tape, he.output, he.size, fun k hk _ => he.block k hk, fun a' ha' => .inr (ho.base a' ha')⟩

theorem Own.lit {α : Type} {E : El α} {w : World} {g B : Nat} {cs : Array Value} (h : Blk w g E.tid cs) (hB : B ≤ g) (xs : List α) (hc : cs = (flat E xs).toArray) : Own E w B (some ⟨g, 0, none⟩) xs.length xs := by
 subst hc
 refine .blk hB h (Nat.le_refl _) (by simp [qaL]) fun j x hj i v hi => ?_
 rw [Nat.zero_add, List.getElem?_toArray]
 exact flat_get E xs j i x v hj hi

theorem qbo {P : Program} {α : Type} (E : El α) {t len : Nat} {ps : Array (Nat × Value)} {w : World} (xs : List α)
    (hr : ∀ w, (Instr.buildSlice t len ps).run P w = .ok (.slice (some ⟨w.heap.size, 0, none⟩) len len) (w.alloc (.cells (flat E xs).toArray E.tid))) (hl : xs.length = len) {k : Option Addr → Nat → Nat → World → Prop}
    (h : ∀ A w', Own E w' w.heap.size A len xs → Ext w w' → k A len len w') :
    Run P (Instr.buildSlice t len ps) w fun v w' => ∃ (A' : Option Addr) (n' c' : Nat), v = .slice A' n' c' ∧ k A' n' c' w' := by
 refine ⟨_, _, hr w, _, _, _, rfl, h _ _ ?_ (Ext.alloc _ _)⟩
 subst hl
 exact Own.lit (by show (w.heap.push _)[w.heap.size]? = _; simp) (Nat.le_refl _) xs rfl

theorem qek {α : Type} [Inhabited α] (E : El α) : ∀ (n m : Nat) (v : Value), (flat E (List.replicate n (default : α)))[m]? = some v → (E.enc (default : α))[m % E.sz]? = some v := by
 intro n m v h
 obtain ⟨x, h1, h2⟩ := qeG E _ m v h
 have : x = (default : α) := by
  have := List.mem_of_getElem? h1
  exact (List.mem_replicate.1 this).2
 rw [this] at h2; exact h2

theorem qdL {α : Type} [Inhabited α] (E : El α) (n : Nat) : qcj (E.enc (default : α)).toArray (n * E.sz) = (flat E (List.replicate n (default : α))).toArray := by
 apply Array.ext
 ·simp [qcj, qaL]
 ·intro i h1 h2
  have hi : i < n * E.sz := by simpa [qcj] using h1
  have hm : i % E.sz < (E.enc (default : α)).length := by rw [E.len]; exact Nat.mod_lt _ E.pos
  have e2 := qek E n i ((flat E (List.replicate n (default : α)))[i]'(by rw [qaL]; simpa using hi)) (by simp)
  simp only [qcj, Array.getElem_map, Array.getElem_range, List.size_toArray, E.len, List.getElem_toArray]
  rw [getElem!_pos _ _ (by simpa [E.len] using Nat.mod_lt i E.pos)]
  simp only [List.getElem_toArray]
  rw [List.getElem?_eq_getElem hm] at e2
  exact Option.some.inj e2

theorem qgG {P : Program} {α : Type} [Inhabited α] {E : El α} {t : TypeId} (T : SlT P E t) {w : World} {l : Int} (h0 : 0 ≤ l) (h1 : l ≤ 17179869184) {k : Nat → World → Prop}
    (h : ∀ g w', Own E w' w.heap.size (some ⟨g, 0, none⟩) l.toNat (List.replicate l.toNat (default : α)) → Ext w w' → k g w') : qeX P t l l w k := by
 obtain ⟨inf, z, hi, hsz, hz, hzz, hby, hby0⟩ := T.info
 unfold qeX
 rw [T.under]
 simp only [hi, hz]
 refine ⟨h0, Int.le_refl _, by omega, ?_, ?_⟩
 ·have : (inf.bytes : Int) * l ≤ 1024 * 17179869184 := Int.mul_le_mul (by omega) h1 h0 (by omega)
  omega
 ·refine h _ _ ?_ (Ext.alloc _ _)
  have e : qcj z.cells (l.toNat * inf.size) = (flat E (List.replicate l.toNat (default : α))).toArray := by rw [hzz, hsz, qdL]
  have ho := Own.lit (E := E) (w := w.alloc (.cells (qcj z.cells (l.toNat * inf.size)) E.tid)) (g := w.heap.size) (B := w.heap.size) (by show (w.heap.push _)[w.heap.size]? = _; simp) (Nat.le_refl _) (List.replicate l.toNat (default : α)) e
  rw [List.length_replicate] at ho
  exact ho

theorem Row.take {α : Type} {E : El α} {w : World} {A : Option Addr} {xs : List α} (h : Row E w A xs) (m : Nat) : Row E w A (xs.take m) := by
 refine ⟨fun hx => ?_⟩
 obtain ⟨a, ha, hc⟩ := h.cells (fun e => hx (by rw [e]; simp))
 refine ⟨a, ha, fun j x hj i v hi => hc j x ?_ i v hi⟩
 rw [List.getElem?_take] at hj
 split at hj
 ·exact hj
 ·cases hj
def cutA (m l : Nat) (A : Option Addr) (sz : Nat) : Option Addr := if m = l then A else A.map (·.add (l * sz))
theorem Row.drop {α : Type} {E : El α} {w : World} {A : Option Addr} {xs : List α} (h : Row E w A xs) {l m : Nat} (hm : xs.length ≤ m) : Row E w (cutA m l A E.sz) (xs.drop l) := by
 refine ⟨fun hx => ?_⟩
 have hl : l < xs.length := by
  rcases Nat.lt_or_ge l xs.length with h | h
  ·exact h
  ·exact (hx (List.drop_eq_nil_of_le h)).elim
 obtain ⟨a, rfl, hc⟩ := h.cells (fun e => by rw [e] at hl; simp at hl)
 have hs := h.spot (fun e => by rw [e] at hl; simp at hl)
 refine ⟨a.add (l * E.sz), by unfold cutA; rw [if_neg (by omega)]; rfl, fun j x hj i v hi => ?_⟩
 rw [List.getElem?_drop] at hj
 have := hc (l + j) x hj i v hi
 rw [add_add a hs, ← Nat.add_mul]
 exact this
def qdg {σ : Type} (B : σ → (σ → Prop) → Prop) (x : σ) : Prop :=
 ∃ J : Nat → σ → Prop, (∃ m, J m x) ∧ ∀ m x, J m x → B x fun x' => ∃ m', m' < m ∧ J m' x'
theorem Own.storeAt {α : Type} [Inhabited α] {E : El α} {w : World} {B c : Nat} {A : Option Addr} {a : Addr} {xs : List α} (h : Own E w B A c xs) (ha : A = some a) {i : Int} (h0 : 0 ≤ i) (h1 : i < ((xs.length : Nat) : Int)) (f : Nat) (vs : List Value) (y : α)
    (hy : E.enc y = (E.enc (rd xs i)).take f ++ vs ++ (E.enc (rd xs i)).drop (f + vs.length)) (hf : f + vs.length ≤ E.sz) (ho : vs.all oneCell = true) {k : World → Prop}
    (hk : ∀ w1, Own E w1 B A c (xs.set i.toNat y) → ChgB a.block w w1 → B ≤ a.block → k w1) : qag ((a.add (i.toNat * E.sz)).add f) vs 0 w k := by
 obtain ⟨a', e, hst⟩ := h.store h0 h1 f vs y hy hf ho (k := k) (fun g w1 hg hB _ ho hc => by
  have := hg a ha
  subst this
  exact hk w1 ho hc hB)
 rw [ha] at e; cases e
 exact hst

theorem qgF {P : Program} {α : Type} [Inhabited α] {E : El α} {t : TypeId} (hu : P.underlying t = some (.slice E.tid))
    (hi : (P.info? E.tid).map (fun i => (i.size, i.zero.map (·.cells), Nat.ble i.bytes 1024, Nat.beq i.bytes 0)) = some (E.sz, some (E.enc default).toArray, true, false)) : SlT P E t := by
 refine ⟨hu, ?_⟩
 cases hp : P.info? E.tid with
 | none => simp [hp] at hi
 | some inf =>
  simp only [hp, Option.map_some, Option.some.injEq, Prod.mk.injEq] at hi
  obtain ⟨h1, h2, h3, h4⟩ := hi
  cases hz : inf.zero with
  | none => rw [hz] at h2; cases h2
  | some z =>
   rw [hz] at h2
   simp only [Option.map_some, Option.some.injEq] at h2
   refine ⟨inf, z, rfl, h1, hz, h2, Nat.le_of_ble_eq_true h3, fun e => ?_⟩
   rw [e] at h4; cases h4

def qfn {σ : Type} (A : (σ → Prop) → Prop) (B : σ → Prop) : Prop := A B
theorem qdl {σ : Type} {A : (σ → Prop) → Prop} {B : σ → Prop} (h : qfn A B) : ∃ K : σ → Prop, (∀ x, K x → B x) ∧ A K := ⟨B, fun _ h => h, h⟩

def bt (s : ByteArray) (i : Int) : Int := if h : i.toNat < s.size then ((s[i.toNat]'h).toNat : Int) else 0
theorem qgD {s : ByteArray} {i : Int} (h0 : 0 ≤ i) (h1 : i < ((s.size : Nat) : Int)) : ∃ y : UInt8, s[i.toNat]? = some y ∧ ((y.toNat : Nat) : Int) = bt s i := by
 have h : i.toNat < s.size := by omega
 exact ⟨s[i.toNat]'h, by simp [h], by simp [bt, h]⟩

end Go.V
