import Derived.Test.YtkpfabigipedcaaVMap
set_option linter.unusedVariables false
set_option linter.unusedSimpArgs false
/-! maps whose elements are rows of ints -/
namespace Go.V
theorem mget_put {V : Type} (k k' : List Int) (v : V) : ∀ l : List (List Int × V), mget (mput l k v) k' = if k' = k then some v else mget l k'
  | [] => by
    by_cases e : k = k'
    · subst e; simp [mput, mget]
    · have : ¬ k' = k := fun h => e h.symm
      simp [mput, mget, e, this]
  | p :: l => by
    unfold mput
    by_cases h : p.1 = k
    · rw [if_pos h]
      by_cases e : k = k'
      · subst e; simp [mget]
      · have : ¬ k' = k := fun h => e h.symm
        simp [mget, e, this, h]
    · rw [if_neg h]
      unfold mget
      rw [mget_put k k' v l]
      by_cases e : k' = k
      · subst e; rw [if_neg h, if_pos rfl, if_pos rfl]
      · rw [if_neg e]; simp [e]
theorem mget_mem {V : Type} {k : List Int} {v : V} : ∀ {l : List (List Int × V)}, mget l k = some v → (k, v) ∈ l
  | p :: l, h => by
    unfold mget at h
    split at h
    · rename_i e
      cases h; rw [← e]; exact List.mem_cons_self
    · exact List.mem_cons_of_mem _ (mget_mem h)
theorem mem_put {V : Type} {k : List Int} {v : V} {p : List Int × V} : ∀ {l : List (List Int × V)}, l.Pairwise (fun p q => p.1 ≠ q.1) → p ∈ mput l k v → p = (k, v) ∨ (p ∈ l ∧ p.1 ≠ k)
  | [], _, h => by simp [mput] at h; exact .inl h
  | q :: l, hp, h => by
    obtain ⟨h1, h2⟩ := List.pairwise_cons.1 hp
    unfold mput at h
    split at h
    · rename_i e
      rcases List.mem_cons.1 h with h | h
      · exact .inl h
      · exact .inr ⟨List.mem_cons_of_mem _ h, fun e2 => h1 p h (e.trans e2.symm)⟩
    · rename_i e
      rcases List.mem_cons.1 h with h | h
      · subst h; exact .inr ⟨List.mem_cons_self, e⟩
      · rcases mem_put h2 h with h | h
        · exact .inl h
        · exact .inr ⟨List.mem_cons_of_mem _ h.1, h.2⟩
theorem pair_put {V : Type} {S : List Int × V → List Int × V → Prop} (hs : ∀ p q, S p q → S q p) {k : List Int} {v : V} : ∀ {l : List (List Int × V)}, l.Pairwise (fun p q => p.1 ≠ q.1) → l.Pairwise S → (∀ p ∈ l, p.1 ≠ k → S p (k, v)) → (mput l k v).Pairwise S
  | [], _, _, _ => by simp [mput]
  | q :: l, hp, hS, h => by
    obtain ⟨h1, h2⟩ := List.pairwise_cons.1 hp
    obtain ⟨g1, g2⟩ := List.pairwise_cons.1 hS
    unfold mput
    split
    · rename_i e
      refine List.pairwise_cons.2 ⟨fun p hp2 => hs _ _ (h p (List.mem_cons_of_mem _ hp2) fun e2 => h1 p hp2 (e.trans e2.symm)), g2⟩
    · rename_i e
      refine List.pairwise_cons.2 ⟨fun p hp2 => ?_, pair_put hs h2 g2 fun p hp2 => h p (List.mem_cons_of_mem _ hp2)⟩
      rcases mem_put h2 hp2 with h3 | h3
      · rw [h3]; exact h q List.mem_cons_self e
      · exact g1 p h3.1
theorem pair_any {α : Type} {S : α → α → Prop} (hs : ∀ p q, S p q → S q p) : ∀ {l : List α}, l.Pairwise S → ∀ p ∈ l, ∀ q ∈ l, p ≠ q → S p q
  | x :: l, h, p, hp, q, hq, hne => by
    obtain ⟨h1, h2⟩ := List.pairwise_cons.1 h
    rcases List.mem_cons.1 hp with ep | hp2
    · rcases List.mem_cons.1 hq with eq | hq2
      · exact (hne (ep.trans eq.symm)).elim
      · rw [ep]; exact h1 q hq2
    · rcases List.mem_cons.1 hq with eq | hq2
      · rw [eq]; exact hs _ _ (h1 p hp2)
      · exact pair_any hs h2 p hp2 q hq2 hne
/-- as MapB, the stamps being the places -/
structure MapE (w : World) (b n : Nat) (l : List (List Int × Value)) : Prop where
  ex : ∃ (es : Array MapEntry) (clock : Nat), w.heap[b]? = some (.map es clock) ∧ es.toList.map (fun e => (e.key, e.val)) = (l.map fun p => (keyI p.1, p.2)) ∧ clock = es.size ∧ ∀ (i : Nat) (e : MapEntry), es[i]? = some e → e.born = i
  len : ∀ p ∈ l, p.1.length = n
section
variable {w w' : World} {b n : Nat} {l : List (List Int × Value)}
theorem MapE.lt (h : MapE w b n l) : b < w.heap.size := by
  obtain ⟨es, c, hb, _⟩ := h.ex
  exact (Array.getElem?_eq_some_iff.1 hb).1
theorem MapE.blk (h : MapE w b n l) (e : w'.heap[b]? = w.heap[b]?) : MapE w' b n l := ⟨by obtain ⟨es, c, hb, hl⟩ := h.ex; exact ⟨es, c, e.trans hb, hl⟩, h.len⟩
theorem MapE.toB (h : MapE w b n l) : MapB w 0 b n l := ⟨by obtain ⟨es, c, hb, hl, _⟩ := h.ex; exact ⟨es, c, hb, hl⟩, h.len, Nat.zero_le _⟩
theorem mapNewE {w : World} {n : Nat} {k : Nat → World → Prop} (h : ∀ g w', w.heap.size ≤ g → MapE w' g n [] → Ext w w' → k g w') : newK w (.map #[] 0) k :=
  h _ _ (Nat.le_refl _) ⟨⟨#[], 0, (MapKept.heap_alloc w _).1, rfl, rfl, fun i e h => by simp at h⟩, (fun p hp => by cases hp)⟩ (Ext.alloc w _)
end
section
variable {P : Program} {t kt vt : TypeId} {n : Nat}
theorem chg_set {w : World} {b : Nat} {es : Array MapEntry} {c : Nat} (hb : w.heap[b]? = some (.map es c)) (o : Obj) : ChgB b w (ChangeMaps.setBlock w b o) :=
  ⟨rfl, rfl, rfl, by simp [ChangeMaps.setBlock], fun i _ hi => ChangeMaps.heap_setBlock_other hb o hi⟩
theorem mapEntryE {w : World} {b : Nat} {l : List (List Int × Value)} (h : MapE w b n l) (K : KeyI P t kt vt n) {z : Value} (hz : (zeroValue vt).run P w = .ok z w) {k : List Int} (hk : k.length = n) {Q : Value → World → Prop}
    (hQ : ∀ w' (j : Nat) l', l'[j]? = some (k, (mget l k).getD z) → (∀ v, l'.set j (k, v) = mput l k v) → MapE w' b n l' → ChgB b w w' → Q (.tuple #[(mget l k).getD z, .int .i64 (j : Int)]) w') :
    Run P (Instr.mapEntry t (.map (some b)) (keyI k)) w Q := by
  obtain ⟨es, c, hb, he, hc, hborn⟩ := h.ex
  have hsz : es.size = l.length := by have := congrArg List.length he; simpa using this
  rcases find_key K w hk es.toList l he h.len with ⟨h1, h2, h3⟩ | ⟨j, u, h1, h2, h3, h4⟩
  · refine ⟨.tuple #[z, .int .i64 ((l.length : Nat) : Int)], ChangeMaps.setBlock w b (.map (es.push ⟨keyI k, z, c⟩) (c + 1)), ?_, ?_⟩
    · simp [Instr.mapEntry, run_underlying K.under, MapKept.run_getObj_map hb, check_key K false w hk, h2, hz, MapKept.run_setObj_map _ hb, Result.andThen, ChangeMaps.setBlock, goInt, hc, hsz]
    · have := hQ (ChangeMaps.setBlock w b (.map (es.push ⟨keyI k, z, c⟩) (c + 1))) l.length (l ++ [(k, z)]) (by simp [h1]) (fun v => by rw [h3]; simp)
        ⟨⟨_, _, ChangeMaps.heap_setBlock_same hb _, by simp [he], by simp [hc], fun i e hi => ?_⟩, fun p hp => ?_⟩ (chg_set hb _)
      · rw [h1] at this; exact this
      · rw [Array.getElem?_push] at hi
        split at hi
        · cases hi; rename_i e; rw [hc, e]
        · exact hborn i e hi
      · rcases List.mem_append.1 hp with hp | hp
        · exact h.len p hp
        · have := List.mem_singleton.1 hp; rw [this]; exact hk
  · obtain ⟨e0, hj, he0⟩ : ∃ e0, es.toList[j]? = some e0 ∧ (e0.key, e0.val) = (keyI k, u) := by
      cases hx : es.toList[j]? with
      | none => rw [hx] at h3; simp at h3
      | some e0 => rw [hx] at h3; simp only [Option.map_some, Option.some.injEq] at h3; exact ⟨e0, rfl, h3⟩
    have hj' : es[j]? = some e0 := by simpa using hj
    have hk0 : e0.key = keyI k := (Prod.mk.inj he0).1
    have hlj : l[j]? = some (k, u) := by
      have h5 := h4 u
      have hjl : j < l.length := by rw [← hsz]; exact (Array.getElem?_eq_some_iff.1 hj').1
      have : (l.set j (k, u))[j]? = some (k, u) := by simp [hjl]
      have hg : mget (mput l k u) k = some u := by rw [mget_put]; simp
      have he2 := congrArg (fun x => x[j]?) he
      simp only [List.getElem?_map, hj, Option.map_some] at he2
      cases hq : l[j]? with
      | none => rw [hq] at he2; simp at he2
      | some q =>
        rw [hq] at he2
        simp only [Option.map_some, Option.some.injEq, Prod.mk.injEq] at he2
        have hv : q.2 = u := by rw [← he2.2]; exact (Prod.mk.inj he0).2
        have hkk : keyI q.1 = keyI k := by rw [← he2.1, hk0]
        have : q.1 = k := by
          unfold keyI at hkk
          injection hkk with hkk
          have h6 : q.1.map (Value.int .i64) = k.map (Value.int .i64) := by simpa using congrArg Array.toList hkk
          exact (List.map_inj_right (fun a b hab => by injection hab)).1 h6
        rw [← this, ← hv]
    refine ⟨.tuple #[u, .int .i64 ((j : Nat) : Int)], ChangeMaps.setBlock w b (.map (es.modify j fun e' => { e' with key := keyI k }) c), ?_, ?_⟩
    · simp [Instr.mapEntry, run_underlying K.under, MapKept.run_getObj_map hb, check_key K false w hk, h2, hj', hk0, key_stays, MapKept.run_setObj_map _ hb, Result.andThen, ChangeMaps.setBlock, goInt, hborn j e0 hj']
    · have := hQ (ChangeMaps.setBlock w b (.map (es.modify j fun e' => { e' with key := keyI k }) c)) j l (by rw [h1]; exact hlj) (fun v => (h4 v).symm)
        ⟨⟨_, _, ChangeMaps.heap_setBlock_same hb _, ?_, by simp [hc], fun i e hi => ?_⟩, h.len⟩ (chg_set hb _)
      · rw [h1] at this; exact this
      · rw [Array.toList_modify, ChangeMaps.modify_eq_set _ _ _ _ hj, List.map_set, he]
        refine List.ext_getElem? fun i => ?_
        rw [List.getElem?_set]
        split
        · rename_i e; subst e
          have hjs : j < es.size := (Array.getElem?_eq_some_iff.1 hj').1
          rw [← he, List.getElem?_map, hj]; simp [hk0, hjs]
        · rfl
      · rw [Array.getElem?_modify] at hi
        split at hi
        · rename_i e1
          subst e1
          rw [hj'] at hi; simp at hi; rw [← hi]; exact hborn j e0 hj'
        · exact hborn i e hi
theorem entryStoreE {w : World} {b : Nat} {l : List (List Int × Value)} (h : MapE w b n l) {j : Nat} {k : List Int} {u v : Value} (hj : l[j]? = some (k, u)) {Q : World → Prop} (hQ : ∀ w', MapE w' b n (l.set j (k, v)) → ChgB b w w' → Q w') :
    ∃ w', (Instr.entryStore t (.map (some b)) (.int .i64 (j : Int)) v).run P w = .ok () w' ∧ Q w' := by
  obtain ⟨es, c, hb, he, hc, hborn⟩ := h.ex
  have hsz : es.size = l.length := by have := congrArg List.length he; simpa using this
  have hjl : j < es.size := by rw [hsz]; exact (List.getElem?_eq_some_iff.1 hj).1
  have hf : es.findIdx? (fun e => (e.born : Int) == (j : Int)) = some j := by
    rw [Array.findIdx?_eq_some_iff_getElem]
    refine ⟨hjl, ?_, fun i hi => ?_⟩
    · rw [hborn j _ (Array.getElem?_eq_getElem hjl)]; simp
    · rw [hborn i _ (Array.getElem?_eq_getElem (by omega))]; simp; omega
  have hjt : es.toList[j]? = some es[j] := by simp [hjl]
  have hk0 : (es[j].key, es[j].val) = (keyI k, u) := by
    have he2 := congrArg (fun x => x[j]?) he
    simp only [List.getElem?_map, hjt, hj, Option.map_some, Option.some.injEq] at he2
    exact he2
  refine ⟨ChangeMaps.setBlock w b (.map (es.modify j fun e' => { e' with val := v }) c), ?_, hQ _ ⟨⟨_, _, ChangeMaps.heap_setBlock_same hb _, ?_, by simp [hc], fun i e hi => ?_⟩, fun p hp => ?_⟩ (chg_set hb _)⟩
  · simp [Instr.entryStore, MapKept.run_getObj_map hb, asInt, asIntOf, hf, MapKept.run_setObj_map _ hb, Result.andThen, ChangeMaps.setBlock]
  · rw [Array.toList_modify, ChangeMaps.modify_eq_set _ _ _ _ hjt, List.map_set, he, List.map_set, (Prod.mk.inj hk0).1]
  · rw [Array.getElem?_modify] at hi
    split at hi
    · rename_i e1
      subst e1
      rw [Array.getElem?_eq_getElem hjl] at hi; simp at hi; rw [← hi]; show es[j].born = j; exact hborn j _ (Array.getElem?_eq_getElem hjl)
    · exact hborn i e hi
  · rcases List.mem_or_eq_of_mem_set hp with hp | hp
    · exact h.len p hp
    · rw [hp]; exact h.len (k, u) (List.mem_of_getElem? hj)
end
/-- a row of ints of the call's own -/
structure RowD where
  A : Option Addr
  c : Nat
  xs : List Int
def RowD.val (r : RowD) : Value := .slice r.A r.xs.length r.c
def nilRow : RowD := ⟨none, 0, []⟩
/-- block g is a map of rows of the call's own that holds C k at a key k -/
structure Deep (E : El Int) (w0 w : World) (g n : Nat) (C : List Int → List Int) : Prop where
  ex : ∃ R : List (List Int × RowD), MapE w g n (R.map fun p => (p.1, p.2.val)) ∧ (∀ p ∈ R, Own E w w0.heap.size p.2.A p.2.c p.2.xs) ∧ R.Pairwise (fun p q => p.1 ≠ q.1) ∧ R.Pairwise (fun p q => Apart2 p.2.A q.2.A) ∧ ∀ k, ((mget R k).getD nilRow).xs = C k
  low : w0.heap.size ≤ g
section
variable {E : El Int} {w0 w w' : World} {g n : Nat} {C : List Int → List Int}
theorem Deep.new (hg : w0.heap.size ≤ g) (h : MapE w g n []) : Deep E w0 w g n (fun _ => []) :=
  ⟨⟨[], h, (fun p hp => by cases hp), List.Pairwise.nil, List.Pairwise.nil, fun k => rfl⟩, hg⟩
theorem Deep.ext (h : Deep E w0 w g n C) (e : Ext w w') : Deep E w0 w' g n C := by
  obtain ⟨R, h1, h2, h3⟩ := h.ex
  exact ⟨⟨R, h1.blk (e.block g h1.lt), fun p hp => (h2 p hp).ext e, h3⟩, h.low⟩
theorem Deep.chg (h : Deep E w0 w g n C) {x T : Nat} {cs : Array Value} (hx : Blk w x T cs) (hT : E.tid ≠ T) (e : ChgB x w w') : Deep E w0 w' g n C := by
  obtain ⟨R, h1, h2, h3⟩ := h.ex
  exact ⟨⟨R, h1.blk (e.block g h1.lt (h1.toB.ne hx)), fun p hp => (h2 p hp).chg e ((h2 p hp).apart_type hx hT), h3⟩, h.low⟩
theorem Deep.look {P : Program} {t kt vt : TypeId} (h : Deep E w0 w g n C) (K : KeyI P t kt vt n) (hz : (zeroValue vt).run P w = .ok (.slice none 0 0) w) {k : List Int} (hk : k.length = n) {Q : Value → World → Prop}
    (hQ : ∀ A c, Row E w A (C k) → Q (.slice A (C k).length c) w) : Run P (Instr.lookup t (.map (some g)) (keyI k) false) w Q := by
  obtain ⟨R, h1, h2, _, _, h5⟩ := h.ex
  refine mapLook h1.toB K hz hk ?_
  rw [mget_map]
  have hC := h5 k
  cases hm : mget R k with
  | none =>
    rw [hm] at hC
    have hC : [] = C k := hC
    have := hQ none 0 (by rw [← hC]; exact Row.nil _ _ _)
    rw [← hC] at this; exact this
  | some r =>
    rw [hm] at hC
    have hC : r.xs = C k := hC
    have := hQ r.A r.c (by rw [← hC]; exact (h2 _ (mget_mem hm)).row)
    rw [← hC] at this; exact this
theorem Deep.push {P : Program} {t kt vt ts : TypeId} (h : Deep E w0 w g n C) (K : KeyI P t kt vt n) (hz : (zeroValue vt).run P w = .ok (.slice none 0 0) w) (T : SlT P E ts) {k : List Int} (hk : k.length = n) (hB : Ext w0 w) {A2 : Option Addr} {c2 : Nat} {y : Int} (hR : Own E w w0.heap.size A2 c2 [y])
    (hA : ∀ A c xs, Own E w w0.heap.size A c xs → Own E w w0.heap.size A c xs) (hl : (C k).length + 1 ≤ 17179869184) {Q : World → Prop} (hQ : ∀ w4 C', (∀ k', C' k' = if k' = k then C k ++ [y] else C k') → Deep E w0 w4 g n C' → Ext w0 w4 → Q w4) :
    Run P (Instr.mapEntry t (.map (some g)) (keyI k)) w fun v w2 => ∃ (A : Option Addr) (m c : Nat) (i : Int), v = .tuple #[.slice A m c, .int .i64 i] ∧
      Run P (Builtin.append_ #[ts, ts] ts #[.slice A m c, .slice A2 1 c2]) w2 fun v w3 => ∃ (A' : Option Addr) (m' c' : Nat), v = .slice A' m' c' ∧ ∃ w4, (Instr.entryStore t (.map (some g)) (.int .i64 i) (.slice A' m' c')).run P w3 = .ok () w4 ∧ Q w4 := by
  obtain ⟨R, h1, h2, h3, h4, h5⟩ := h.ex
  refine mapEntryE h1 K hz hk fun w2 j l' hj hput hm ch => ?_
  have hC := h5 k
  have old : ∀ {A c xs}, Own E w w0.heap.size A c xs → Own E w2 w0.heap.size A c xs := fun ho => ho.chg ch (h1.toB.apart ho)
  obtain ⟨r, hr, hro, hra⟩ : ∃ r : RowD, (mget (R.map fun p => (p.1, p.2.val)) k).getD (.slice none 0 0) = r.val ∧ (r.xs = C k ∧ Own E w2 w0.heap.size r.A r.c r.xs) ∧ ∀ p ∈ R, p.1 ≠ k → Apart2 p.2.A r.A := by
    rw [mget_map]
    cases hq : mget R k with
    | none =>
      rw [hq] at hC
      exact ⟨nilRow, rfl, ⟨hC, Own.nil⟩, fun p _ _ a a' _ ha' => by cases ha'⟩
    | some r =>
      rw [hq] at hC
      have hmem := mget_mem hq
      exact ⟨r, rfl, ⟨hC, old (h2 _ hmem)⟩, fun p hp hne => pair_any (S := fun p q : List Int × RowD => Apart2 p.2.A q.2.A) (fun _ _ hh => hh.symm) h4 p hp (k, r) hmem fun e => hne (by rw [e])⟩
  obtain ⟨hrx, hro⟩ := hro
  refine ⟨r.A, r.xs.length, r.c, (j : Int), by rw [hr]; rfl, ?_⟩
  have hsz : w0.heap.size ≤ w2.heap.size := Nat.le_trans hB.size ch.size
  refine appOwn T T.under (w0 := w0) hro (old hR).row hsz rfl rfl (by rw [hrx]; exact hl) fun A' c' w3 P' ev => ?_
  have hmb : MapE w3 g n l' := hm.blk (ev.block g hm.lt (hm.toB.apart hro))
  have eB := eapp (echg hB ch h.low) ev hro
  refine entryStoreE hmb hj fun w4 hm4 ch4 => ?_
  refine hQ w4 (fun k' => if k' = k then C k ++ [y] else C k') (fun _ => rfl) ⟨⟨mput R k ⟨A', c', r.xs ++ [y]⟩, ?_, fun p hp => ?_, ?_, ?_, fun k' => ?_⟩, h.low⟩ (echg eB ch4 h.low)
  · rw [hput] at hm4
    rw [← mput_map RowD.val]; exact hm4
  · have hne : ∀ {A c xs}, Own E w3 w0.heap.size A c xs → Own E w4 w0.heap.size A c xs := fun ho => ho.chg ch4 (hmb.toB.apart ho)
    rcases mem_put h3 hp with rfl | ⟨hp, hk2⟩
    · exact hne P'
    · exact hne ((old (h2 p hp)).app ev (hra p hp hk2))
  · exact pair_put (S := fun p q : List Int × RowD => p.1 ≠ q.1) (fun _ _ hh e => hh e.symm) h3 h3 fun p _ hk2 => hk2
  · exact pair_put (S := fun p q : List Int × RowD => Apart2 p.2.A q.2.A) (fun _ _ hh => hh.symm) h3 h4 fun p hp hk2 => Apart2.app (hra p hp hk2) ev (old (h2 p hp))
  · rw [mget_put]
    split
    · rw [hrx]; rfl
    · exact h5 k'
end
end Go.V
