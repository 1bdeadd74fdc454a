import Derived.Test.YtkpfabigipedcaaGreatLoVEq
import Derived.Test.YtkpfabigipedcaaGreatLoVOwn
import Derived.Test.YtkpfabigipedcaaGreatLoVMapD
import Derived.MapKept
import Derived.ChangeMaps5
set_option linter.unusedVariables false
set_option linter.unusedSimpArgs false
namespace Go.V
def keyI (xs : List Int) : Value := .agg (xs.map (Value.int .i64)).toArray
structure KeyI (P : Program) (t kt vt : TypeId) (n : Nat) : Prop where
 under : P.underlying t = some (.map kt vt)
 kst : P.underlying kt = some (.struct (P.fieldsOf kt))
 stood : P.stoodInHeld kt = false
 guard : P.eqGuardType P.depth kt = false
 fields : qhd P kt n = true
structure MapB (w : World) (B b n : Nat) (l : List (List Int × Value)) : Prop where
 ex : ∃ es clock, w.heap[b]? = some (.map es clock) ∧ es.toList.map (fun e => (e.key, e.val)) = l.map fun p => (keyI p.1, p.2)
 len : ∀ p ∈ l, p.1.length = n
 low : B ≤ b
section
variable {w w' : World} {B b n : Nat} {l : List (List Int × Value)}
theorem MapB.lt (h : MapB w B b n l) : b < w.heap.size := by
 obtain ⟨es, c, hb, _⟩ := h.ex
 exact (Array.getElem?_eq_some_iff.1 hb).1
theorem MapB.blk (h : MapB w B b n l) (e : w'.heap[b]? = w.heap[b]?) : MapB w' B b n l := ⟨by obtain ⟨es, c, hb, hl⟩ := h.ex; exact ⟨es, c, e.trans hb, hl⟩, h.len, h.low⟩
theorem MapB.ext (h : MapB w B b n l) (e : Ext w w') : MapB w' B b n l := h.blk (e.block b h.lt)
theorem MapB.chg (h : MapB w B b n l) {g : Nat} (e : ChgB g w w') (hne : b ≠ g) : MapB w' B b n l := h.blk (e.block b h.lt hne)
theorem MapB.app (h : MapB w B b n l) {A A' : Option Addr} (e : qhP A A' w w') (hne : Apart A b) : MapB w' B b n l := h.blk (e.block b h.lt hne)
theorem MapB.mono (h : MapB w B b n l) {B' : Nat} (hB : B' ≤ B) : MapB w B' b n l := ⟨h.ex, h.len, Nat.le_trans hB h.low⟩
theorem MapB.ne {g T : Nat} {cs : Array Value} (h : MapB w B b n l) (k : Blk w g T cs) : b ≠ g := by
 rintro rfl
 obtain ⟨es, c, hb, _⟩ := h.ex
 unfold Blk at k
 rw [hb] at k; cases k
theorem MapB.apart {α : Type} {E : El α} {B' c : Nat} {A : Option Addr} {xs : List α} (h : MapB w B b n l) (k : Own E w B' A c xs) : Apart A b := by
 cases k with
 | nil => intro a ha; cases ha
 | blk hB hk hc hz hx => intro a ha; cases ha; exact fun e => h.ne hk e.symm
end
section
variable {P : Program} {t kt vt : TypeId} {n : Nat}
theorem qip (K : KeyI P t kt vt n) (em : Bool) (w : World) {k : List Int} (hk : k.length = n) : (Instr.checkKey em 10000 kt (keyI k)).run P w = .ok () w := by
 have hf := K.fields
 simp only [qhd, Bool.and_eq_true, beq_iff_eq, List.all_eq_true, List.mem_range] at hf
 obtain ⟨h1, h2⟩ := hf
 rw [show (10000 : Nat) = 9999 + 1 from rfl, keyI, Instr.checkKey]
 simp only [Sem.run_bind, run_underlying K.kst, Result.andThen_ok]
 rw [← Array.forIn_toList]
 have deep : ∀ f ∈ (P.fieldsOf kt).toList, f.name ≠ "_" ∧ ∃ a : Int, (part f.type (k.map (Value.int .i64)).toArray f.offset).run P w = .ok (.int .i64 a) w ∧ P.underlying f.type = some (.int .i64) := fun f hf => by
  obtain ⟨i, hi, rfl⟩ := List.getElem_of_mem hf
  have := h2 i (by omega)
  rw [List.getElem?_eq_getElem hi] at this
  simp only [Bool.and_eq_true, bne_iff_ne, beq_iff_eq] at this
  obtain ⟨⟨a, b⟩, c⟩ := this
  have hu : P.underlying ((P.fieldsOf kt).toList[i]).type = some (.int .i64) := by
   split at c
   ·assumption
   ·cases c
  refine ⟨a, k[i]'(by omega), qkJ hu ?_ w, hu⟩
  rw [b]; simp [show i < k.length by omega]
 generalize (P.fieldsOf kt).toList = L at deep
 induction L with
 | nil => simp
 | cons f L ih =>
  obtain ⟨hn, a, p1, hu⟩ := deep f (by simp)
  have p2 : (Instr.checkKey em 9999 f.type (.int .i64 a)).run P w = .ok () w := by
   rw [show (9999 : Nat) = 9998 + 1 from rfl, Instr.checkKey]
   simp [Sem.run_bind, run_underlying hu]
  simp only [List.forIn_cons, Sem.run_bind, hn, ne_eq, not_false_eq_true, if_true, Result.andThen_ok, p1, p2, Sem.run_pure]
  exact ih (fun y hy => deep y (by simp [hy]))
theorem qp3 : ∀ {k j : List Int}, k.length = j.length → ((k.zip j).all fun p => p.1 == p.2) = decide (j = k)
 | [], [], _ => by simp
 | x :: k, y :: j, h => by
  have := qp3 (k := k) (j := j) (by simpa using h)
  simp only [List.zip_cons_cons, List.all_cons, this]
  by_cases e : x = y
  ·subst e; simp
  ·have e' : ¬ y = x := fun h => e h.symm
   simp [e, e']
theorem qmW (K : KeyI P t kt vt n) (w : World) {k : List Int} (hk : k.length = n) : ∀ (es : List MapEntry) (l : List (List Int × Value)) (i : Nat), es.map (fun e => (e.key, e.val)) = l.map (fun p => (keyI p.1, p.2)) → (∀ p ∈ l, p.1.length = n) →
    (mget l k = none ∧ (Instr.findAsking kt (keyI k) es i).run P w = .ok none w ∧ ∀ v, mput l k v = l ++ [(k, v)]) ∨
    ∃ j v, mget l k = some v ∧ (Instr.findAsking kt (keyI k) es i).run P w = .ok (some (i + j, v)) w ∧ (es[j]?).map (fun e => (e.key, e.val)) = some (keyI k, v) ∧ ∀ v, mput l k v = l.set j (k, v)
 | [], [], i, _, _ => .inl ⟨rfl, by simp [Instr.findAsking], fun v => rfl⟩
 | e :: es, p :: l, i, h, hl => by
  simp only [List.map_cons, List.cons.injEq, Prod.mk.injEq] at h
  obtain ⟨⟨hkey, hv⟩, h⟩ := h
  have hp : p.1.length = n := hl p (by simp)
  have hq : (Op.equal kt (keyI k) e.key).run P w = .ok (decide (p.1 = k)) w := by
   rw [hkey]
   show (Op.equalIn 10000 kt _ _).run P w = _
   unfold keyI
   rw [structEq K.kst K.stood K.guard (by rw [hk]; exact K.fields) (by omega) w, qp3 (by omega)]
  by_cases e1 : p.1 = k
  ·refine .inr ⟨0, p.2, by simp [mget, e1], ?_, by simp [hkey, hv, e1], fun v => by simp [mput, e1]⟩
   simp [Instr.findAsking, hq, e1, Result.andThen, hv]
  ·rcases qmW K w hk es l (i + 1) h (fun q hq => hl q (by simp [hq])) with ⟨h1, h2, h3⟩ | ⟨j, v, h1, h2, h3, h4⟩
   ·exact .inl ⟨by simp [mget, e1, h1], by simp [Instr.findAsking, hq, e1, Result.andThen, h2], fun v => by simp [mput, e1, h3]⟩
   ·refine .inr ⟨j + 1, v, by simp [mget, e1, h1], ?_, by simpa using h3, fun v => by simp [mput, e1, h4]⟩
    simp [Instr.findAsking, hq, e1, Result.andThen, h2]; omega
theorem qmN (K : KeyI P t kt vt n) (w : World) {k : List Int} (hk : k.length = n) (es : List MapEntry) (l : List (List Int × Value)) (h : es.map (fun e => (e.key, e.val)) = l.map (fun p => (keyI p.1, p.2))) (hl : ∀ p ∈ l, p.1.length = n) :
    (mget l k = none ∧ (Instr.findKey kt (keyI k) es).run P w = .ok none w ∧ ∀ v, mput l k v = l ++ [(k, v)]) ∨
    ∃ j v, mget l k = some v ∧ (Instr.findKey kt (keyI k) es).run P w = .ok (some (j, v)) w ∧ (es[j]?).map (fun e => (e.key, e.val)) = some (keyI k, v) ∧ ∀ v, mput l k v = l.set j (k, v) := by
 have e1 : (Instr.findKey kt (keyI k) es).run P w = (Instr.findAsking kt (keyI k) es 0).run P w := by
  unfold Instr.findKey
  simp only [Sem.run_bind, run_underlying K.kst, Result.andThen_ok]
  cases es with
  | nil => simp [Instr.findNow, Instr.findAsking]
  | cons e es => simp [Instr.findNow, Instr.sameNow]
 rw [e1]
 rcases qmW K w hk es l 0 h hl with h1 | ⟨j, v, h1, h2, h3⟩
 ·exact .inl h1
 ·exact .inr ⟨j, v, h1, by simpa using h2, h3⟩
theorem qpV {w : World} {n : Nat} {k : Nat → World → Prop} (h : ∀ g w', w.heap.size ≤ g → MapB w' w.heap.size g n [] → Ext w w' → k g w') : newK w (.map #[] 0) k :=
 h _ _ (Nat.le_refl _) ⟨⟨#[], 0, (MapKept.heap_alloc w _).1, rfl⟩, (fun p hp => by cases hp), Nat.le_refl _⟩ (Ext.alloc w _)
theorem qpO {w : World} {B b : Nat} {l : List (List Int × Value)} (h : MapB w B b n l) (K : KeyI P t kt vt n) {z : Value} (hz : (zeroValue vt).run P w = .ok z w) {k : List Int} (hk : k.length = n) {Q : Value → World → Prop} (hQ : Q ((mget l k).getD z) w) :
    Run P (Instr.lookup t (.map (some b)) (keyI k) false) w Q := by
 obtain ⟨es, c, hb, he⟩ := h.ex
 refine ⟨_, w, ?_, hQ⟩
 rcases qmN K w hk es.toList l he h.len with ⟨h1, h2, _⟩ | ⟨j, v, h1, h2, _⟩
 ·simp [Instr.lookup, run_underlying K.under, MapKept.run_getObj_map hb, qip K _ w hk, h2, hz, Result.andThen, h1]
 ·simp [Instr.lookup, run_underlying K.under, MapKept.run_getObj_map hb, qip K _ w hk, h2, Result.andThen, h1]
theorem qlF : ∀ (k : List Int), ((k.map (Value.int .i64)).zip (k.map (Value.int .i64))).all (fun p => Instr.sameBits 9999 p.1 p.2) = true
 | [] => rfl
 | x :: k => by simp only [List.map_cons, List.zip_cons_cons, List.all_cons, qlF k, Bool.and_true]; simp [Instr.sameBits]
theorem qoo (k : List Int) (w : World) : (Instr.keyThatStays (keyI k) (keyI k)).run P w = .ok (keyI k) w := by
 have : Instr.sameBits 10000 (keyI k) (keyI k) = true := by
  rw [show (10000 : Nat) = 9999 + 1 from rfl, keyI, Instr.sameBits]
  simpa using qlF k
 simp [Instr.keyThatStays, this]
theorem qq0 {w : World} {B b : Nat} {l : List (List Int × Value)} (h : MapB w B b n l) (K : KeyI P t kt vt n) {k : List Int} (hk : k.length = n) {v : Value} {Q : World → Prop} (hQ : ∀ w', MapB w' B b n (mput l k v) → ChgB b w w' → Q w') :
    ∃ w', (Instr.mapUpdate t (.map (some b)) (keyI k) v).run P w = .ok () w' ∧ Q w' := by
 obtain ⟨es, c, hb, he⟩ := h.ex
 have hch : ∀ o : Obj, ChgB b w (ChangeMaps.setBlock w b o) := fun o => ⟨rfl, rfl, rfl, by simp [ChangeMaps.setBlock], fun i _ hi => ChangeMaps.heap_setBlock_other hb o hi⟩
 have hl : ∀ p ∈ mput l k v, p.1.length = n := by
  have : ∀ (l : List (List Int × Value)), (∀ p ∈ l, p.1.length = n) → ∀ p ∈ mput l k v, p.1.length = n := by
   intro l
   induction l with
   | nil => intro _ p hp; simp [mput] at hp; rw [hp]; exact hk
   | cons q l ih =>
    intro hl p hp
    unfold mput at hp
    split at hp
    ·rcases List.mem_cons.1 hp with rfl | hp
     ·exact hk
     ·exact hl p (by simp [hp])
    ·rcases List.mem_cons.1 hp with rfl | hp
     ·exact hl p (by simp)
     ·exact ih (fun q hq => hl q (by simp [hq])) p hp
  exact this l h.len
 rcases qmN K w hk es.toList l he h.len with ⟨h1, h2, h3⟩ | ⟨j, u, h1, h2, h3, h4⟩
 ·refine ⟨ChangeMaps.setBlock w b (.map (es.push ⟨keyI k, v, c⟩) (c + 1)), ?_, hQ _ ⟨⟨_, _, ChangeMaps.heap_setBlock_same hb _, ?_⟩, hl, h.low⟩ (hch _)⟩
  ·simp [Instr.mapUpdate, run_underlying K.under, MapKept.run_getObj_map hb, qip K false w hk, h2, MapKept.run_setObj_map _ hb, Result.andThen, ChangeMaps.setBlock]
  ·rw [h3]; simp [he]
 ·obtain ⟨e0, hj, he0⟩ : ∃ e0, es.toList[j]? = some e0 ∧ (e0.key, e0.val) = (keyI k, u) := by
    cases hx : es.toList[j]? with
    | none => rw [hx] at h3; simp at h3
    | some e0 => rw [hx] at h3; simp only [Option.map_some, Option.some.injEq] at h3; exact ⟨e0, rfl, h3⟩
  have hj' : es[j]? = some e0 := by simpa using hj
  have hk0 : e0.key = keyI k := (Prod.mk.inj he0).1
  refine ⟨ChangeMaps.setBlock w b (.map (es.modify j fun e' => { e' with key := keyI k, val := v }) c), ?_, hQ _ ⟨⟨_, _, ChangeMaps.heap_setBlock_same hb _, ?_⟩, hl, h.low⟩ (hch _)⟩
  ·simp [Instr.mapUpdate, run_underlying K.under, MapKept.run_getObj_map hb, qip K false w hk, h2, hj', hk0, qoo, MapKept.run_setObj_map _ hb, Result.andThen, ChangeMaps.setBlock]
  ·rw [h4, Array.toList_modify, ChangeMaps.modify_eq_set _ _ _ _ hj, List.map_set, he, List.map_set]
theorem qmM {V : Type} (f : V → Value) (k : List Int) : ∀ l : List (List Int × V), mget (l.map fun p => (p.1, f p.2)) k = (mget l k).map f
 | [] => rfl
 | p :: l => by
  simp only [List.map_cons, mget]
  split
  ·rfl
  ·exact qmM f k l
theorem qmC {V : Type} (f : V → Value) (k : List Int) (v : V) : ∀ l : List (List Int × V), mput (l.map fun p => (p.1, f p.2)) k (f v) = (mput l k v).map fun p => (p.1, f p.2)
 | [] => rfl
 | p :: l => by
  simp only [List.map_cons, mput]
  split
  ·rfl
  ·rw [qmC f k v l]; rfl
abbrev MapT {V : Type} (f : V → Value) (w : World) (B b n : Nat) (l : List (List Int × V)) : Prop := MapB w B b n (l.map fun p => (p.1, f p.2))
theorem qpC {V : Type} {f : V → Value} {w : World} {n : Nat} {k : Nat → World → Prop} (h : ∀ g w', MapT f w' w.heap.size g n [] → Ext w w' → k g w') : newK w (.map #[] 0) k := qpV fun g w' _ => h g w'
theorem qoP {V : Type} {f : V → Value} {w : World} {B b : Nat} {l : List (List Int × V)} (h : MapT f w B b n l) (K : KeyI P t kt vt n) {z : V} (hz : ∀ w, (zeroValue vt).run P w = .ok (f z) w) {k : List Int} (hk : k.length = n) {Q : Value → World → Prop} (hQ : Q (f ((mget l k).getD z)) w) :
    Run P (Instr.lookup t (.map (some b)) (keyI k) false) w Q := by
 refine qpO h K (hz w) hk ?_
 rw [qmM]
 cases e : mget l k <;> rw [e] at hQ <;> exact hQ
theorem qom {V : Type} {f : V → Value} {w : World} {B b : Nat} {l : List (List Int × V)} (h : MapT f w B b n l) (K : KeyI P t kt vt n) {k : List Int} (hk : k.length = n) {v : V} {Q : World → Prop} (hQ : ∀ w', MapT f w' B b n (mput l k v) → ChgB b w w' → Q w') :
    ∃ w', (Instr.mapUpdate t (.map (some b)) (keyI k) (f v)).run P w = .ok () w' ∧ Q w' := by
 refine qq0 h K hk fun w' h1 h2 => hQ w' ?_ h2
 rw [qmC] at h1; exact h1
end
end Go.V
