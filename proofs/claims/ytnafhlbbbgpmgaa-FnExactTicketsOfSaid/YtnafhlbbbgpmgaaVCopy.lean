import Derived.Test.YtnafhlbbbgpmgaaVOwn
set_option linter.unusedVariables false
set_option linter.unusedSimpArgs false
/-! the built-in copy -/
namespace Go.V
theorem firstCells_take {P : Program} {α : Type} {E : El α} {w : World} {A : Option Addr} {c m n : Nat} {xs : List α} (h : Row E w A xs) (hn : n ≤ xs.length) :
    (Builtin.firstCells E.sz n (.slice A m c)).run P w = .ok (flat E (xs.take n)).toArray w := by
  have h1 := firstCells_run (P := P) (c := c) (h.take n)
  rw [List.length_take, Nat.min_eq_left hn] at h1
  rw [← h1]
  cases A <;> rfl
theorem copyBlk {P : Program} {α : Type} {E : El α} {t1 t2 ty : TypeId} {inf : TypeInfo} (h1 : P.underlying t1 = some (.slice E.tid)) (hi : P.info? E.tid = some inf) (hsz : inf.size = E.sz)
    {w : World} {g T o dLen dCap c2 : Nat} {cs : Array Value} {A2 : Option Addr} {ys : List α} (hB : Blk w g T cs) (hR : Row E w A2 ys) (hl : o + (Nat.min ys.length dLen) * E.sz ≤ cs.size)
    (hm : ys.length ≤ 17179869184) {k : Int → World → Prop}
    (hk : ∀ w1, Blk w1 g T (splice cs o (flat E (ys.take (Nat.min ys.length dLen)))) → ChgB g w w1 → k ((Nat.min ys.length dLen : Nat) : Int) w1) :
    Run P (Builtin.copy_ #[t1, t2] ty #[.slice (some ⟨g, o, none⟩) dLen dCap, .slice A2 ys.length c2]) w fun v w' => ∃ n : Int, v = .int .i64 n ∧ k n w' := by
  have hlen : (flat E (ys.take (Nat.min ys.length dLen))).length = (Nat.min ys.length dLen) * E.sz := by
    rw [flat_length, List.length_take, Nat.min_eq_left (Nat.min_le_left _ _)]
  have hst : stCells (⟨g, o, none⟩ : Addr) (flat E (ys.take (Nat.min ys.length dLen))) 0 w (k ((Nat.min ys.length dLen : Nat) : Int)) :=
    stBlk hB rfl rfl (by rw [hlen]; exact hl) (List.all_eq_true.2 (flat_one E _)) hk
  obtain ⟨w', hr, hk'⟩ := stCells_sound (P := P) _ _ _ _ hst
  refine ⟨_, w', ?_, _, rfl, hk'⟩
  have hf := firstCells_take (P := P) (c := c2) (m := ys.length) hR (Nat.min_le_left ys.length dLen)
  have hw : IntKind.wrap .i64 ((Nat.min ys.length dLen : Nat) : Int) = ((Nat.min ys.length dLen : Nat) : Int) := by
    have hh : Nat.min ys.length dLen ≤ ys.length := Nat.min_le_left ys.length dLen
    generalize Nat.min ys.length dLen = q at hh ⊢
    exact wrap_i64_in (by omega) (by omega)
  unfold Builtin.copy_
  simp only [List.getElem?_toArray, List.getElem?_cons_zero, List.getElem?_cons_succ, bind, Sem.bind, Sem.run_bind', underlying, program, Sem.run, h1, Result.andThen, Builtin.lenOf, pure, sizeOf, typeInfo, hi, hsz, hf, hr, goInt]
theorem copyOwn {P : Program} {α : Type} {E : El α} {t1 t2 ty : TypeId} {inf : TypeInfo} (h1 : P.underlying t1 = some (.slice E.tid)) (hi : P.info? E.tid = some inf) (hsz : inf.size = E.sz)
    {w : World} {B c d dLen dCap c2 : Nat} {A A2 : Option Addr} {a : Addr} {xs ys : List α} (h : Own E w B A c xs) (ha : A = some a) (hR : Row E w A2 ys) (n : Nat) (hn : n = Nat.min ys.length dLen) (hd : d + n ≤ xs.length)
    (hm : ys.length ≤ 17179869184) {k : Int → World → Prop}
    (hk : ∀ w1, Own E w1 B A c (xs.take d ++ (ys.take n ++ xs.drop (d + n))) → ChgB a.block w w1 → k (n : Int) w1) :
    Run P (Builtin.copy_ #[t1, t2] ty #[.slice (some (a.add (d * E.sz))) dLen dCap, .slice A2 ys.length c2]) w fun v w' => ∃ n : Int, v = .int .i64 n ∧ k n w' := by
  subst hn
  have hny : Nat.min ys.length dLen ≤ ys.length := Nat.min_le_left _ _
  revert hd hk hny
  generalize hq : Nat.min ys.length dLen = n
  intro hd hk hny
  cases h with
  | nil => cases ha
  | @blk g o c xs cs hB hb hc hz hx =>
    cases ha
    have hmul : (d + n) * E.sz ≤ c * E.sz := Nat.mul_le_mul_right _ (by omega)
    rw [Nat.add_mul] at hmul
    rw [addr_add_off]
    refine copyBlk h1 hi hsz hb hR (by rw [hq]; omega) hm fun w1 hb1 hch => ?_
    rw [hq] at hb1 ⊢
    have hlen : (ys.take n).length = n := by rw [List.length_take]; omega
    refine hk w1 (.blk hB hb1 (by simp; omega) (by rw [splice_size]; exact hz) fun j x hj i v hv => ?_) hch
    have hi' := E.lt hv
    have hfl : (flat E (ys.take n)).length = n * E.sz := by rw [flat_length, hlen]
    rw [splice_get, hfl]
    by_cases hjd : j < d
    · have hjm : j * E.sz + E.sz ≤ d * E.sz := by rw [← Nat.succ_mul]; exact Nat.mul_le_mul_right _ hjd
      rw [if_neg (by omega)]
      rw [List.getElem?_append_left (by simp; omega), List.getElem?_take_of_lt hjd] at hj
      exact hx j x hj i v hv
    · have hjd' : d * E.sz ≤ j * E.sz := Nat.mul_le_mul_right _ (by omega)
      rw [List.getElem?_append_right (by simp; omega)] at hj
      have e1 : (xs.take d).length = d := by rw [List.length_take]; omega
      rw [e1] at hj
      by_cases hjn : j < d + n
      · have hjm : j * E.sz + E.sz ≤ (d + n) * E.sz := by rw [← Nat.succ_mul]; exact Nat.mul_le_mul_right _ hjn
        rw [Nat.add_mul] at hjm
        rw [List.getElem?_append_left (by rw [hlen]; omega)] at hj
        rw [if_pos (by omega)]
        have := flat_get E (ys.take n) (j - d) i x v hj hv
        rw [Nat.sub_mul] at this
        rw [← this]; congr 1; omega
      · have hjm : (d + n) * E.sz ≤ j * E.sz := Nat.mul_le_mul_right _ (by omega)
        rw [Nat.add_mul] at hjm
        rw [if_neg (by omega)]
        rw [List.getElem?_append_right (by rw [hlen]; omega), hlen, List.getElem?_drop] at hj
        have : d + n + (j - d - n) = j := by omega
        rw [this] at hj
        exact hx j x hj i v hv
end Go.V
