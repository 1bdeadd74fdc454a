import Derived.Test.YtnbkmenlaogblaaMath19
import Derived.Test.YtnbkmenlaogblaaWp20
set_option linter.unusedVariables false
set_option linter.unusedSimpArgs false
set_option maxRecDepth 20000
namespace Go.V
theorem wp.cmp_isNaN_int.math (x : Int) : wp.cmp_isNaN_int x (fun r => r = M.cmp_isNaN_int x) := by simp [wp.cmp_isNaN_int, M.cmp_isNaN_int]
theorem wp.cmp_Less_int.math (x y : Int) : wp.cmp_Less_int x y (fun r => r = M.cmp_Less_int x y) := by
  intro r hr
  have : r = false := hr
  subst this
  exact bcase_f rfl rfl
theorem two_list {l : List Int} (h : l.length = 2) : l = [rd l 0, rd l 1] := by
  match l, h with
  | [a, b], _ => rfl
/-- sorting two numbers -/
theorem wp.slices_insertionSortOrdered_int.math (l : List Int) (a b : Int) (h : M.slices_insertionSortOrdered_int_pre l a b) : wp.slices_insertionSortOrdered_int l a b (fun r => r = M.slices_insertionSortOrdered_int l a b) := by
  obtain ⟨hl, rfl, rfl⟩ := h
  match l, hl with
  | [x, y], _ =>
  have w0 : IntKind.wrap .i64 ((0 : Int) + 1) = 1 := by decide +kernel
  have w1 : IntKind.wrap .i64 ((1 : Int) + 1) = 2 := by decide +kernel
  have w2 : IntKind.wrap .i64 ((1 : Int) - 1) = 0 := by decide +kernel
  unfold wp.slices_insertionSortOrdered_int
  rw [w0]
  have r1 : rd [x, y] 1 = y := rfl
  have r0 : rd [x, y] 0 = x := rfl
  -- the outer loop: one round
  refine ⟨fun m z => (m = 1 ∧ z = (1, [x, y], ())) ∨ (m = 0 ∧ z = (2, M.sort2 [x, y], ())), ⟨1, .inl ⟨rfl, rfl⟩⟩, ?_⟩
  rintro m z (⟨rfl, rfl⟩ | ⟨rfl, rfl⟩)
  · refine bcase_t rfl ?_
    refine ⟨fun m z => (m = 1 ∧ z = (1, [x, y], ())) ∨ (m = 0 ∧ z = (0, M.sort2 [x, y], ())), ⟨1, .inl ⟨rfl, rfl⟩⟩, ?_⟩
    rintro m z (⟨rfl, rfl⟩ | ⟨rfl, rfl⟩)
    · unfold JoinP
      have i1 : (0 ≤ (1 : Int) ∧ (1 : Int) < ((([x, y] : List Int).length : Nat) : Int)) := by simp
      have i0 : (0 ≤ (0 : Int) ∧ (0 : Int) < ((([x, y] : List Int).length : Nat) : Int)) := by simp
      by_cases hc : y < x
      · have hs : M.sort2 [x, y] = [y, x] := by simp [M.sort2, r1, r0, hc]
        have e1 : List.set (List.set [x, y] ((1 : Int).toNat) x) ((0 : Int).toNat) y = [y, x] := rfl
        have e2 : List.set (List.set [x, y] ((0 : Int).toNat) y) ((1 : Int).toNat) x = [y, x] := rfl
        have hd : (decide (y < x)) = true := decide_eq_true hc
        refine bcase_t rfl ?_
        simp only [w2, r1, r0, M.cmp_Less_int, forall_eq, hd, e1, e2, hs]
        have j1 : ∀ v, (0 ≤ (1 : Int) ∧ (1 : Int) < (((List.set [x, y] ((0 : Int).toNat) v).length : Nat) : Int)) := fun v => by simp
        have j0 : ∀ v, (0 ≤ (0 : Int) ∧ (0 : Int) < (((List.set [x, y] ((1 : Int).toNat) v).length : Nat) : Int)) := fun v => by simp
        simp only [i1, i0, j1, j0, true_and, and_true, and_self, bcase]
        exact ⟨0, by omega, .inr rfl⟩
      · have hs : M.sort2 [x, y] = [x, y] := by simp [M.sort2, r1, r0, hc]
        have hd : (decide (y < x)) = false := decide_eq_false hc
        refine bcase_t rfl ?_
        simp only [w2, w1, r1, r0, M.cmp_Less_int, forall_eq, hd, hs]
        simp only [i1, i0, true_and, and_true, and_self, bcase]
        exact ⟨0, by omega, .inr rfl⟩
    · unfold JoinP
      refine bcase_f rfl ?_
      rw [w1]
      have hn : ∃ m', m' < 1 ∧ ((m' = 1 ∧ ((2 : Int), M.sort2 [x, y], ()) = (1, [x, y], ())) ∨ (m' = 0 ∧ ((2 : Int), M.sort2 [x, y], ()) = (2, M.sort2 [x, y], ()))) := ⟨0, by omega, .inr ⟨rfl, rfl⟩⟩
      exact ⟨hn, hn, trivial⟩
  · exact bcase_f rfl rfl
theorem wp.math_bits_Len32.math (x : Int) (h : M.math_bits_Len32_pre x) : wp.math_bits_Len32 x (fun r => r = M.math_bits_Len32 x) := h.elim
set_option maxRecDepth 100000 in
theorem wp.math_bits_Len64.math (x : Int) (h : M.math_bits_Len64_pre x) : wp.math_bits_Len64 x (fun r => r = M.math_bits_Len64 x) := by
  have h : x = 2 := h
  subst h
  unfold wp.math_bits_Len64
  unfold JoinP
  refine bcase_f rfl (bcase_f rfl (bcase_f rfl ⟨?_, ?_⟩))
  · have : IntKind.wrap .u8 2 = 2 := by decide +kernel
    rw [this]
    exact ⟨by omega, by decide +kernel⟩
  · show _ = (2 : Int)
    decide +kernel
theorem wp.math_bits_Len.math (x : Int) (h : M.math_bits_Len_pre x) : wp.math_bits_Len x (fun r => r = M.math_bits_Len x) := ⟨h, fun r hr => by rw [hr]; rfl⟩
theorem wp.slices_pdqsortOrdered_int.math (l : List Int) (a b c : Int) (h : M.slices_pdqsortOrdered_int_pre l a b c) : wp.slices_pdqsortOrdered_int l a b c (fun r => r = M.slices_pdqsortOrdered_int l a b c) := by
  obtain ⟨hl, rfl, rfl⟩ := h
  refine loop_n 0 (fun _ => (0, 2, c, true, true, ())) (fun _ => True) rfl trivial (fun k hk _ _ _ => absurd hk (by omega)) fun _ next => ?_
  exact bcase_t (by decide +kernel) ⟨⟨hl, rfl, rfl⟩, fun r hr => by rw [hr]; rfl⟩
theorem wp.slices_Sort_int_int.math (l : List Int) (h : M.slices_Sort_int_int_pre l) : wp.slices_Sort_int_int l (fun r => r = M.slices_Sort_int_int l) := by
  have hl : l.length = 2 := h
  unfold wp.slices_Sort_int_int
  have e : ((l.length : Nat) : Int) = 2 := by omega
  rw [e]
  refine ⟨by show IntKind.wrap .u64 2 = 2; decide +kernel, fun r hr => ⟨⟨hl, rfl, rfl⟩, fun r2 hr2 => by rw [hr2]; rfl⟩⟩
theorem wp.slices_Compact_int_int.math (l : List Int) (h : M.slices_Compact_int_int_pre l) : wp.slices_Compact_int_int l (fun r => r = M.slices_Compact_int_int l) := by
  match l, h with
  | [x, y], _ =>
  have w2 : IntKind.wrap .i64 ((1 : Int) - 1) = 0 := by decide +kernel
  have w1 : IntKind.wrap .i64 ((1 : Int) + 1) = 2 := by decide +kernel
  have r1 : rd [x, y] 1 = y := rfl
  have r0 : rd [x, y] 0 = x := rfl
  refine bcase_f rfl ?_
  by_cases hc : y = x
  · have hM : M.slices_Compact_int_int [x, y] = [x] := by unfold M.slices_Compact_int_int; rw [r1, r0, if_pos hc]; rfl
    rw [hM]
    refine loop_n 0 (fun _ => (1, ())) (fun _ => True) rfl trivial (fun k hk _ _ _ => absurd hk (by omega)) fun _ next => ?_
    refine bcase_t rfl ⟨by simp, by rw [w2]; simp, ?_⟩
    rw [w2, r1, r0]
    refine bcase_t (by simpa using hc) ⟨by simp, ?_⟩
    refine loop_n 0 (fun _ => (1, 1, ())) (fun _ => True) rfl trivial (fun k hk _ _ _ => absurd hk (by omega)) fun _ next => ?_
    exact bcase_f rfl ⟨by simp, by simp, rfl⟩
  · have hM : M.slices_Compact_int_int [x, y] = [x, y] := by unfold M.slices_Compact_int_int; rw [r1, r0, if_neg hc]
    rw [hM]
    refine loop_n 1 (fun k => ((k : Int) + 1, ())) (fun _ => True) rfl trivial (fun k hk _ next hn => ?_) fun _ next => bcase_f rfl rfl
    have hk0 : k = 0 := by omega
    subst hk0
    have hn := hn trivial
    refine bcase_t rfl ⟨by simp, ?_, ?_⟩
    · show 0 ≤ IntKind.wrap .i64 ((1 : Int) - 1) ∧ IntKind.wrap .i64 ((1 : Int) - 1) < ((([x, y] : List Int).length : Nat) : Int)
      rw [w2]; simp
    · show bcase (rd [x, y] 1 == rd [x, y] (IntKind.wrap .i64 ((1 : Int) - 1))) _ _
      rw [w2, r1, r0]
      refine bcase_f (by simpa using hc) ?_
      show next (IntKind.wrap .i64 ((1 : Int) + 1), ())
      rw [w1]; exact hn
theorem sort_compact (a b : Int) : M.slices_Compact_int_int (M.slices_Sort_int_int [a, b]) = M.putTwo b a ∧ (M.slices_Sort_int_int [a, b]).length = 2 := by
  have r1 : rd [a, b] 1 = b := rfl
  have r0 : rd [a, b] 0 = a := rfl
  have s1 : rd [b, a] 1 = a := rfl
  have s0 : rd [b, a] 0 = b := rfl
  simp only [M.slices_Compact_int_int, M.slices_Sort_int_int, M.sort2, M.putTwo, r1, r0]
  by_cases h1 : b < a
  · rw [if_pos h1, s1, s0, if_neg (by omega), if_neg (by omega), if_neg (by omega)]
    exact ⟨rfl, rfl⟩
  · rw [if_neg h1, r1, r0]
    by_cases h2 : b = a
    · rw [if_pos h2, if_neg (by omega), if_pos h2.symm]; exact ⟨by rw [h2]; rfl, rfl⟩
    · rw [if_neg h2, if_pos (by omega)]; exact ⟨rfl, rfl⟩
theorem wp.impl_next.math (p : List D.Ins) (k : Int) (h : M.impl_next_pre p k) : wp.impl_next p k (fun r => r = M.impl_next p k) := by
  obtain ⟨hp, h0, h1⟩ := h
  have h32 := progLen hp
  have hw : IntKind.wrap .i64 (k + 1) = k + 1 := w64 (by omega) (by omega)
  unfold wp.impl_next
  rw [hw]
  refine bcase_mk (fun e => ?_) fun e => ?_
  · have e : k = p.length := by simpa using e
    simp [M.impl_next, M.nextOf, e]
  have e : ¬ k = p.length := by simpa using e
  refine ⟨by omega, bcase_mk (fun e1 => ?_) fun e1 => bcase_mk (fun e2 => ?_) fun e2 => bcase_mk (fun e3 => ⟨rfl, fun r hr => ?_⟩) fun e3 => ?_⟩
  all_goals simp only [M.impl_next, M.nextOf]
  all_goals rw [if_neg e]
  · rw [if_pos (by simpa using e1)]
  · rw [if_neg (by simpa using e1), if_pos (by simpa using e2)]
  · rw [if_neg (by simpa using e1), if_neg (by simpa using e2), if_pos (by simpa using e3)]
    have hsc := sort_compact (rd p k).B (k + 1)
    subst hr
    exact ⟨hsc.2, fun r2 hr2 => by rw [hr2]; exact hsc.1⟩
  · rw [if_neg (by simpa using e1), if_neg (by simpa using e2), if_neg (by simpa using e3)]
theorem next_two {p : List D.Ins} (hp : M.programOk p = true) {k : Nat} (hk : k < p.length) : ((((M.nextOf p (k : Int)).length : Nat) : Int) == 2) = M.isBr p (k : Int) := by
  have hne : ¬ (k : Int) = p.length := by omega
  unfold M.nextOf M.isBr
  rw [if_neg hne]
  by_cases h12 : (rd p (k : Int)).Op = 12
  · rw [if_pos h12, h12]; rfl
  rw [if_neg h12]
  by_cases h11 : (rd p (k : Int)).Op = 11
  · rw [if_pos h11, h11]; rfl
  rw [if_neg h11]
  by_cases h10 : (rd p (k : Int)).Op = 10
  · rw [if_pos h10, h10]
    unfold M.putTwo
    by_cases h1 : (rd p (k : Int)).B < (k : Int) + 1
    · rw [if_pos h1]
      have : ((rd p (k : Int)).B != (k : Int) + 1) = true := by simp; omega
      rw [this]; rfl
    rw [if_neg h1]
    by_cases h2 : (rd p (k : Int)).B = (k : Int) + 1
    · rw [if_pos h2]
      have : ((rd p (k : Int)).B != (k : Int) + 1) = false := by simp [h2]
      rw [this]; rfl
    · rw [if_neg h2]
      have : ((rd p (k : Int)).B != (k : Int) + 1) = true := by simpa using h2
      rw [this]; rfl
  · rw [if_neg h10]
    have : ((rd p (k : Int)).Op == 10) = false := by simpa using h10
    rw [this]; rfl
theorem wp.impl_BranchesOf.math (p : List D.Ins) (h : M.impl_BranchesOf_pre p) : wp.impl_BranchesOf p (fun r => r = M.impl_BranchesOf p) := by
  have hs : p.length ≤ 2097152 := h
  refine ⟨small_longP h, fun r hr => bcase_mk (fun e => ?_) fun e => ?_⟩
  · have := nt e (show r = M.programOk p from hr)
    simp [M.impl_BranchesOf, M.branches, this]
  have hp := nf e (show r = M.programOk p from hr)
  have hM : M.impl_BranchesOf p = M.idx (M.isBr p) p.length := by simp [M.impl_BranchesOf, M.branches, hp]
  rw [hM]
  refine idx_loop (fun k xs next hk hxs hle h1 h2 => ?_) fun next => bcase_f (by simp) rfl
  refine bcase_t (by simp; omega) ⟨⟨hp, by omega, by omega⟩, fun r2 hr2 => ?_⟩
  have hr2' : r2 = M.nextOf p (k : Int) := hr2
  rw [hr2', next_two hp hk, up64 hk (by omega)]
  exact bcase_mk (fun e2 => ⟨by simp; omega, h1 e2⟩) fun e2 => h2 e2
theorem wp.impl_isBranch.math (p : List D.Ins) (b : Int) (h : M.impl_isBranch_pre p b) : wp.impl_isBranch p b (fun r => r = M.impl_isBranch p b) := by
  have hs : p.length ≤ 2097152 := h
  have hbl := branches_len p
  exact ⟨h, fun r hr => ⟨by rw [hr]; show (M.branches p).length ≤ 9223372036854775807; omega, fun r2 hr2 => by rw [hr2, hr]; rfl⟩⟩
theorem wp.impl_reached.math (p : List D.Ins) (l : List Int) (wo : Int) (h : M.impl_reached_pre p l wo) : wp.impl_reached p l wo (fun r => r = M.impl_reached p l wo) := by
  have hp := h.1
  have h32 := progLen hp
  have h4 := h.2.2
  unfold wp.impl_reached
  rw [repl_eq hp, small64 (prog_small hp)]
  refine ⟨by omega, by show l.length ≤ 17179869184; omega, fun r hr => ?_⟩
  have hr' : r = l := hr
  subst hr'
  refine bfs_loop (wo := wo) (I := fun _ => True) h (seen0_len _) trivial (R := M.impl_reached p r wo) rfl (by rw [seen0_falses]; omega) (fun k rest seen next hk hl _ hc hn => ?_) (fun k rest seen next hk hl _ h1 h2 _ h5 hn => ?_) fun next _ => bcase_f rfl rfl
  · obtain ⟨f1, f2, f3, f4, f5⟩ := cons_facts (k := k) (rest := rest)
    refine bcase_t f5 ⟨f3, f4, ?_⟩
    rw [f1, f2]
    refine bcase_mk (fun _ => hn) fun e1 => ⟨node_seen hk hl, bcase_t (hc.resolve_left (by simpa using e1)) hn⟩
  · obtain ⟨f1, f2, f3, f4, f5⟩ := cons_facts (k := k) (rest := rest)
    refine bcase_t f5 ⟨f3, f4, ?_⟩
    rw [f1, f2]
    refine bcase_f (by simpa using h1) ⟨node_seen hk hl, bcase_f h2 ⟨node_seen hk hl, hk, fun r hr => ?_⟩⟩
    have hr' : r = M.nextOf p k := hr
    rw [hr']
    exact ⟨h5, hn trivial⟩
theorem exit_in (p : List D.Ins) (l : List Int) (wo : Int) : (0 ≤ ((p.length : Nat) : Int) ∧ ((p.length : Nat) : Int) < (((M.reached p l wo).length : Nat) : Int)) := by rw [reached_len]; omega
theorem wp.impl_reachesExit.math (p : List D.Ins) (k : Int) (h : M.impl_reachesExit_pre p k) : wp.impl_reachesExit p k (fun r => r = M.impl_reachesExit p k) :=
  ⟨start1 h, fun r hr => by rw [hr]; exact ⟨exit_in _ _ _, rfl⟩⟩
theorem wp.impl_isNode.math (p : List D.Ins) (k : Int) (h : M.impl_isNode_pre p k) : wp.impl_isNode p k (fun r => r = M.impl_isNode p k) := by
  refine ⟨small_longP h, fun r hr => bcase_mk (fun e r2 hr2 => ?_) fun e => ?_⟩
  all_goals have hr' : r = M.programOk p := hr
  · rw [hr2]; simp [M.impl_isNode, M.isNode, ← hr', e, M.impl_within]
  · simp [M.impl_isNode, M.isNode, ← hr', e]
theorem wp.impl_isAfter.math (p : List D.Ins) (k later : Int) (h : M.impl_isAfter_pre p k later) : wp.impl_isAfter p k later (fun r => r = M.impl_isAfter p k later) := by
  refine ⟨h, fun r hr => bcase_mk (fun e => ⟨start1 h, fun r2 hr2 => ?_⟩) fun e => ?_⟩
  all_goals have hr' : r = M.exitB p k := hr
  · rw [hr2]
    refine ⟨exit_in _ _ _, ?_⟩
    simp only [M.impl_isAfter, ← hr', e, Bool.true_and]; rfl
  · simp [M.impl_isAfter, ← hr', e]
theorem wp.impl_IsAfter.math (p : List D.Ins) (k later : Int) (h : M.impl_IsAfter_pre p k later) : wp.impl_IsAfter p k later (fun r => r = M.impl_IsAfter p k later) := by
  refine ⟨h, fun r hr => bcase_mk (fun e => ⟨h, fun r2 hr2 => bcase_mk (fun e2 => ?_) fun e2 => ?_⟩) fun e => ?_⟩
  all_goals have hr' : r = M.isNode p k := hr
  · have hr2' : r2 = M.isNode p later := hr2
    refine ⟨isNode_iff.1 (hr'.symm.trans e), fun r3 hr3 => ?_⟩
    rw [hr3]; simp [M.impl_IsAfter, ← hr', e, ← hr2', e2, M.impl_isAfter]
  · have hr2' : r2 = M.isNode p later := hr2
    simp [M.impl_IsAfter, ← hr2', e2]
  · simp [M.impl_IsAfter, ← hr', e]
theorem wp.impl_AftersOf.math (p : List D.Ins) (k : Int) (h : M.impl_AftersOf_pre p k) : wp.impl_AftersOf p k (fun r => r = M.impl_AftersOf p k) := by
  have hs : p.length ≤ 2097152 := h
  unfold wp.impl_AftersOf
  rw [small64 h]
  by_cases hc : (M.isNode p k && M.exitB p k) = true
  · have hN : M.Node p k := isNode_iff.1 (by simp only [Bool.and_eq_true] at hc; exact hc.1)
    have hM : M.impl_AftersOf p k = M.idx (M.afterB p k) (p.length + 1) := by simp only [M.impl_AftersOf, M.aftersOf, hc, if_true]
    rw [hM]
    refine idx_loop (fun j xs next hj hxs hle h1 h2 => ?_) fun next => bcase_f (by simp) rfl
    have hj2 : M.isNode p (j : Int) = true := isNode_iff.2 ⟨hN.1, by omega, by omega⟩
    simp only [Bool.and_eq_true] at hc
    have hv : M.impl_IsAfter p k (j : Int) = M.afterB p k (j : Int) := by simp only [M.impl_IsAfter, hc.1, hc.2, hj2, Bool.true_and]
    refine bcase_t (by simp; omega) ⟨h, fun r2 hr2 => ?_⟩
    rw [hr2, hv, up64 (n := p.length + 1) hj (by omega)]
    exact bcase_mk (fun e2 => ⟨by simp; omega, h1 e2⟩) fun e2 => h2 e2
  · have hc : (M.isNode p k && M.exitB p k) = false := by simpa using hc
    have hM : M.impl_AftersOf p k = [] := by simp only [M.impl_AftersOf, M.aftersOf, hc]; rfl
    rw [hM]
    refine loop_n (p.length + 1) (fun j => ([], (j : Int), ())) (fun _ => True) rfl trivial (fun j hj _ next hn => ?_) fun _ next => bcase_f (by simp) rfl
    have hv : M.impl_IsAfter p k (j : Int) = false := by
      cases h1 : M.isNode p k with
      | false => simp [M.impl_IsAfter, h1]
      | true =>
        rw [h1, Bool.true_and] at hc
        simp [M.impl_IsAfter, hc]
    refine bcase_t (by simp; omega) ⟨h, fun r2 hr2 => ?_⟩
    rw [hr2, hv, up64 (n := p.length + 1) hj (by omega)]
    exact bcase_f rfl (hn trivial)
theorem wp.impl_FirstAfter_1.math (x k : Int) (h : M.impl_FirstAfter_1_pre x k) : wp.impl_FirstAfter_1 x k (fun r => r = M.impl_FirstAfter_1 x k) := rfl
theorem firstIx_spec (g : Int → Bool) : ∀ (l : List Int) (i : Nat), (M.firstIx g l i = -1 ∧ l.all (fun x => !g x) = true) ∨ ∃ k : Nat, k < l.length ∧ M.firstIx g l i = ((i + k : Nat) : Int) ∧ (l.take k).all (fun x => !g x) = true ∧ g (rd l (k : Int)) = true
  | [], i => .inl ⟨rfl, rfl⟩
  | x :: l, i => by
    unfold M.firstIx
    by_cases hx : g x = true
    · rw [if_pos hx]
      exact .inr ⟨0, by simp, by simp, by simp, hx⟩
    · rw [if_neg hx]
      rcases firstIx_spec g l (i + 1) with ⟨h1, h2⟩ | ⟨k, hk, h1, h2, h3⟩
      · exact .inl ⟨h1, by simp [hx]; simpa using h2⟩
      · refine .inr ⟨k + 1, by simp; omega, by rw [h1]; congr 1; omega, ?_, ?_⟩
        · rw [List.take_succ_cons, List.all_cons, h2]; simp [hx]
        · rw [rd_nat (by simp; omega)]; rw [rd_nat hk] at h3; exact h3
theorem filter_id {l : List Int} {g : Int → Bool} (h : l.all g = true) : l.filter g = l := List.filter_eq_self.2 (List.all_eq_true.1 h)
theorem wp.slices_DeleteFunc_int_int.math (l : List Int) (g : Int → Bool) (D : Int → Prop) (h : M.slices_DeleteFunc_int_int_pre l g D) : wp.slices_DeleteFunc_int_int l g D (fun r => r = M.slices_DeleteFunc_int_int l g) := by
  obtain ⟨hl, hD⟩ := h
  have hl' : l.length ≤ 9223372036854775807 := hl
  refine ⟨⟨hl, hD⟩, fun r hr => ?_⟩
  have hr' : r = M.firstIx g l 0 := hr
  rcases firstIx_spec g l 0 with ⟨h1, h2⟩ | ⟨k, hk, h1, h2, h3⟩
  · rw [hr', h1]
    exact bcase_t rfl (by show l = l.filter _; exact (filter_id h2).symm)
  rw [hr', h1, Nat.zero_add]
  refine bcase_f (by simp) ?_
  rw [up64 hk hl']
  let G : Nat → List Int := fun j => (l.take j).filter fun x => !g x
  have hG : ∀ j, j < l.length → G (j + 1) = if (!g (rd l (j : Int))) = true then G j ++ [rd l (j : Int)] else G j := fun j hj => filter_take hj
  have hGl : ∀ j, j ≤ l.length → (G j).length ≤ j := fun j hj => by
    have := List.length_filter_le (fun x => !g x) (l.take j)
    have h2 : (l.take j).length ≤ j := by simp; omega
    exact Nat.le_trans this h2
  have hGk : G (k + 1) = G k ∧ (G k).length = k := by
    refine ⟨by rw [hG k hk, if_neg (by rw [h3]; simp)], ?_⟩
    show ((l.take k).filter fun x => !g x).length = k
    rw [filter_id h2]; simp; omega
  refine ⟨fun m z => ∃ (j : Nat) (xs : List Int), z = (((G j).length : Int), (j : Int), xs, ()) ∧ m = l.length - j ∧ k < j ∧ j ≤ l.length ∧ (G j).length < j ∧ xs.length = l.length ∧ xs.take (G j).length = G j ∧ xs.drop j = l.drop j,
    ⟨_, k + 1, l, by rw [hGk.1, hGk.2], rfl, by omega, by omega, by rw [hGk.1, hGk.2]; omega, rfl, by rw [hGk.1]; rw [hGk.2]; exact (filter_id h2).symm, rfl⟩, ?_⟩
  rintro m z ⟨j, xs, rfl, rfl, hkj, hjl, hgj, hxl, hx1, hx2⟩
  have hget : j < l.length → rd xs (j : Int) = rd l (j : Int) := fun hj => by
    rw [rd_nat (by omega), rd_nat hj]
    have := congrArg (fun q => q[0]?) hx2
    simp only [List.getElem?_drop, Nat.add_zero] at this
    rw [List.getElem?_eq_getElem (by omega), List.getElem?_eq_getElem hj] at this
    exact Option.some.inj this
  by_cases hj : j < l.length
  · refine bcase_t (by simp; omega) ⟨by omega, ?_⟩
    have hGj := hG j hj
    have hgl : (G j).length < xs.length := by omega
    have hd2 : (xs.set (G j).length (rd l (j : Int))).drop (j + 1) = l.drop (j + 1) := by
      rw [List.drop_set_of_lt (by omega)]
      have := congrArg (fun q => q.drop 1) hx2
      simpa [List.drop_drop, Nat.add_comm] using this
    have hd1 : xs.drop (j + 1) = l.drop (j + 1) := by
      have := congrArg (fun q => q.drop 1) hx2
      simpa [List.drop_drop, Nat.add_comm] using this
    show D (rd xs (j : Int)) ∧ _
    dsimp only
    rw [hget hj]
    refine ⟨hD _ (rd_mem hj), fun r2 hr2 => bcase_mk (fun e => ⟨⟨by omega, by omega⟩, ?_⟩) fun e => ?_⟩
    · have e : (!g (rd l (j : Int))) = true := by rw [← hr2]; exact e
      rw [if_pos e] at hGj
      have hlen : (G (j + 1)).length = (G j).length + 1 := by rw [hGj]; simp
      refine ⟨l.length - (j + 1), by omega, j + 1, xs.set (G j).length (rd l (j : Int)), ?_, rfl, by omega, by omega, by omega, by simpa using hxl, ?_, hd2⟩
      · rw [up64 (n := l.length) (k := (G j).length) (by omega) hl', up64 hj hl', hlen]; rfl
      · rw [hlen, hGj, List.take_add_one, List.getElem?_set_self (by omega), List.take_set_of_le (Nat.le_refl _), hx1]; rfl
    · have e : ¬ (!g (rd l (j : Int))) = true := by rw [← hr2, e]; simp
      rw [if_neg e] at hGj
      refine ⟨l.length - (j + 1), by omega, j + 1, xs, ?_, rfl, by omega, by omega, by rw [hGj]; omega, hxl, by rw [hGj]; exact hx1, hd1⟩
      rw [up64 hj hl', hGj]
  · have hje : j = l.length := by omega
    have hGl : G l.length = l.filter fun x => !g x := by show (l.take l.length).filter _ = _; rw [List.take_length]
    refine bcase_f (by simp; omega) ⟨by omega, by simp; omega, ?_⟩
    show _ = l.filter _
    rw [← hGl, ← hje]
    have : (((G j).length : Int)).toNat = (G j).length := by simp
    rw [this, List.take_append_of_le_length (by simp; omega), List.take_take, Nat.min_self, hx1]
theorem wp.impl_firstOf_1.math (z : Int) (p : List D.Ins) (x : Int) (h : M.impl_firstOf_1_pre z p x) : wp.impl_firstOf_1 z p x (fun r => r = M.impl_firstOf_1 z p x) := ⟨h, fun r hr => by rw [hr]; rfl⟩
theorem firstI_from (p : List D.Ins) (all l : List Int) (k : Nat) (hk : k < l.length) : M.firstI p all (l.drop k) = if all.all (fun z => M.exitB p (rd l (k : Int)) && M.afterB p (rd l (k : Int)) z) then rd l (k : Int) else M.firstI p all (l.drop (k + 1)) := by
  rw [List.drop_eq_getElem_cons hk, rd_nat hk]; rfl
theorem wp.impl_firstOf.math (p : List D.Ins) (l : List Int) (h : M.impl_firstOf_pre p l) : wp.impl_firstOf p l (fun r => r = M.impl_firstOf p l) := by
  obtain ⟨h1, h2⟩ := h
  have hl : l.length ≤ 17179869183 := h1
  refine loop_n l.length (fun k => ((k : Int), ())) (fun k => M.firstI p l l = M.firstI p l (l.drop k)) rfl rfl (fun k hk hF next hn => ?_) fun hF next => bcase_f (by simp) ?_
  · rw [firstI_from p l l k hk] at hF
    have hN := h2 _ (rd_mem hk)
    refine bcase_t (by simp; omega) ⟨by omega, ⟨by show l.length ≤ 9223372036854775807; omega, fun z hz => hN⟩, fun r hr => ?_⟩
    have hr' : r = !(l.all fun z => M.exitB p (rd l (k : Int)) && M.afterB p (rd l (k : Int)) z) := by
      rw [hr]
      simp only [M.slices_ContainsFunc_int_int, M.impl_firstOf_1]
      rw [List.all_eq_not_any_not, Bool.not_not]
    refine bcase_mk (fun e => ?_) fun e => ?_
    · have e2 := nt e hr'
      rw [if_pos (by simpa using e2)] at hF; exact hF.symm
    · have e2 := nf e hr'
      rw [if_neg (by simpa using e2)] at hF
      rw [up64 hk (by omega)]; exact hn hF
  · rw [List.drop_length] at hF; exact hF.symm
theorem first_same {p : List D.Ins} {all : List Int} : ∀ (l : List Int), (∀ x ∈ l, M.exitB p x = true) → M.firstI p all l = M.firstS p all l
  | [], _ => rfl
  | x :: l, h => by
    have hx := h x List.mem_cons_self
    unfold M.firstI M.firstS
    simp only [hx, Bool.true_and]
    rw [first_same l fun y hy => h y (List.mem_cons_of_mem _ hy)]
theorem wp.impl_FirstAfter.math (p : List D.Ins) (k : Int) (h : M.impl_FirstAfter_pre p k) : wp.impl_FirstAfter p k (fun r => r = M.impl_FirstAfter p k) := by
  have h1 := afters_len p k
  have hs : p.length ≤ 2097152 := h
  refine ⟨h, fun r hr => ⟨⟨?_, fun _ _ => trivial⟩, fun r2 hr2 => ?_⟩⟩
  · rw [hr]; show (M.aftersOf p k).length ≤ 9223372036854775807; omega
  have hr2' : r2 = M.others (M.aftersOf p k) k := by rw [hr2, hr]; rfl
  refine ⟨by rw [hr2']; exact afters_ok h k, fun r3 hr3 => ?_⟩
  rw [hr3, hr2']
  exact first_same _ fun x hx => by
    obtain ⟨a, b, c, d⟩ := afters_nodes hx
    exact after_exits b a.2 c d
theorem wp.impl_JoinOf.math (p : List D.Ins) (b : Int) (h : M.impl_JoinOf_pre p b) : wp.impl_JoinOf p b (fun r => r = M.impl_JoinOf p b) := by
  refine ⟨h, fun r hr => bcase_mk (fun e => ?_) fun e => ?_⟩
  · have := nt e (show r = M.has (M.branches p) b from hr)
    simp [M.impl_JoinOf, M.joinOf, this]
  have e := nf e (show r = M.has (M.branches p) b from hr)
  have hB := branch_of e
  obtain ⟨n1, n2, n3, n4⟩ := br_in hB
  have hM : M.impl_JoinOf p b = M.joinB p b := by simp only [M.impl_JoinOf, M.joinOf, e, if_true]
  rw [hM]
  refine ⟨n3, fun r2 hr2 => ?_⟩
  have hnx : M.nextOf p b = M.putTwo (b + 1) (rd p b).B := by
    have hb := hB.2.2.2
    simp only [M.isBr, Bool.and_eq_true, beq_iff_eq] at hb
    have := hB.2.2.1
    unfold M.nextOf
    rw [if_neg (by omega), if_neg (by omega), if_neg (by omega), if_pos hb.1]
  have hr2' : r2 = M.putTwo (b + 1) (rd p b).B := by rw [hr2]; exact hnx
  have hlen := putTwo_len (b + 1) (rd p b).B
  rw [← hr2'] at hlen
  have hmem : ∀ x, x ∈ r2 ↔ x = b + 1 ∨ x = (rd p b).B := fun x => by rw [hr2']; exact putTwo_mem
  clear hr2 hr2' hnx
  have hall : r2.all (M.exitB p) = (M.exitB p (b + 1) && M.exitB p (rd p b).B) := by
    rw [Bool.eq_iff_iff, List.all_eq_true, Bool.and_eq_true]
    constructor
    · exact fun hh => ⟨hh _ ((hmem _).2 (.inl rfl)), hh _ ((hmem _).2 (.inr rfl))⟩
    · rintro ⟨a1, a2⟩ x hx
      rcases (hmem x).1 hx with rfl | rfl
      · exact a1
      · exact a2
  have hnode : ∀ x ∈ r2, M.Node p x := fun x hx => by rcases (hmem x).1 hx with rfl | rfl; exact n1; exact n2
  refine loop_n r2.length (fun k => ((k : Int), ())) (fun k => (r2.take k).all (M.exitB p) = true) rfl (by simp) (fun k hk hF next hn => ?_) fun hF next => ?_
  · refine bcase_t (by simp; omega) ⟨by omega, hnode _ (rd_mem hk), fun r3 hr3 => bcase_mk (fun e3 => ?_) fun e3 => ?_⟩
    · have e3 := nt e3 (show r3 = M.exitB p (rd r2 (k : Int)) from hr3)
      have := all_false (g := M.exitB p) hk e3
      rw [hall] at this
      show _ = M.joinB p b
      simp [M.joinB, this]
    · have e3 := nf e3 (show r3 = M.exitB p (rd r2 (k : Int)) from hr3)
      rw [up64 hk (by omega)]
      rw [rd_nat hk] at e3
      exact hn (take_all_succ hk hF e3)
  · refine bcase_f (by simp) ⟨h, fun r3 hr3 => ?_⟩
    rw [List.take_length, hall] at hF
    rw [hr3]
    show _ = M.joinB p b
    simp [M.joinB, hF, M.impl_FirstAfter]
theorem wp.impl_trues.math (l : List Bool) (h : M.impl_trues_pre l) : wp.impl_trues l (fun r => r = M.impl_trues l) := marked_wp h (Q := fun r => r = M.marked l) rfl
theorem wp.impl_InsideOf.math (p : List D.Ins) (b : Int) (h : M.impl_InsideOf_pre p b) : wp.impl_InsideOf p b (fun r => r = M.impl_InsideOf p b) := by
  have hs : p.length ≤ 2097152 := h
  refine ⟨h, fun r hr => bcase_mk (fun e => ?_) fun e => ?_⟩
  · have := nt e (show r = M.has (M.branches p) b from hr)
    simp [M.impl_InsideOf, M.insideOf, this]
  have e := nf e (show r = M.has (M.branches p) b from hr)
  have hB := branch_of e
  obtain ⟨n1, n2, n3, n4⟩ := br_in hB
  have hM : M.impl_InsideOf p b = M.marked (M.reached p (M.nextOf p b) (M.joinB p b)) := by simp only [M.impl_InsideOf, M.insideOf, e, if_true]
  rw [hM]
  refine ⟨n3, fun r2 hr2 => ⟨h, fun r3 hr3 => ?_⟩⟩
  have hr2' : r2 = M.nextOf p b := hr2
  have hr3' : r3 = M.joinB p b := by rw [hr3]; simp only [M.impl_JoinOf, M.joinOf, e, if_true]
  rw [hr2', hr3']
  refine ⟨next_starts n3, fun r4 hr4 => ⟨?_, fun r5 hr5 => ?_⟩⟩
  · rw [hr4]; show (M.reached p (M.nextOf p b) (M.joinB p b)).length ≤ 17179869183; rw [reached_len]; omega
  · rw [hr5, hr4]; rfl
theorem wp.impl_BarriersSafe_1_1.math (k : Int) (p : List D.Ins) (h : M.impl_BarriersSafe_1_1_pre k p) : wp.impl_BarriersSafe_1_1 k p (fun r => r = M.impl_BarriersSafe_1_1 k p) := by
  refine bcase_mk (fun e => ⟨⟨h, by simpa using e⟩, ?_⟩) fun e => ?_
  · simp only [M.impl_BarriersSafe_1_1, M.noBar, e, Bool.true_and, Bool.not_not]
  · simp only [M.impl_BarriersSafe_1_1, M.noBar, e, Bool.false_and, Bool.not_not]
theorem any_not_all {α : Type} (l : List α) (g : α → Bool) : (l.any fun x => !g x) = !(l.all g) := by
  rw [List.all_eq_not_any_not, Bool.not_not]
theorem wp.impl_BarriersSafe_1.math (b : Int) (p : List D.Ins) (h : M.impl_BarriersSafe_1_pre b p) : wp.impl_BarriersSafe_1 b p (fun r => r = M.impl_BarriersSafe_1 b p) := by
  have hs : p.length ≤ 2097152 := h
  have hil := inside_len p b
  refine ⟨h, fun r hr => ⟨⟨?_, fun x hx => ?_⟩, fun r2 hr2 => ?_⟩⟩
  · rw [hr]; show (M.insideOf p b).length ≤ 9223372036854775807; omega
  · rw [hr] at hx; exact inside_pos hx
  · rw [hr2, hr]; exact any_not_all _ _
theorem wp.impl_BarriersSafe.math (p : List D.Ins) (h : M.impl_BarriersSafe_pre p) : wp.impl_BarriersSafe p (fun r => r = M.impl_BarriersSafe p) := by
  have hs : p.length ≤ 2097152 := h
  have hbl := branches_len p
  refine ⟨small_longP h, fun r hr => bcase_mk (fun e => ⟨h, fun r2 hr2 => ⟨⟨?_, fun _ _ => h⟩, fun r3 hr3 => ?_⟩⟩) fun e => ?_⟩
  all_goals have hr' : r = M.programOk p := hr
  · rw [hr2]; show (M.branches p).length ≤ 9223372036854775807; omega
  · have e := hr'.symm.trans e
    rw [hr3, hr2]
    show (!((M.branches p).any fun b => !(M.insideOf p b).all (M.noBar p))) = M.barriersSafe p
    rw [any_not_all, Bool.not_not]
    simp only [M.barriersSafe, e, Bool.true_and]
  · have e := hr'.symm.trans e
    simp [M.impl_BarriersSafe, M.barriersSafe, e]
theorem wp.laws_FnExactBarriersSafe.math (p : List D.Ins) (h : M.laws_FnExactBarriersSafe_pre p) : wp.laws_FnExactBarriersSafe p (fun r => r = M.laws_FnExactBarriersSafe p) := by
  refine ⟨⟨by omega, by omega, h⟩, fun r hr => bcase_mk (fun _ => rfl) fun e => ?_⟩
  have hl : p.length ≤ 1048576 := by
    rw [hr] at e
    simp only [M.laws_szInsS] at e
    split at e
    · simp at e
    · omega
  have q1 : M.laws_toInsS_pre p := by show p.length ≤ 2097152; omega
  have q2 : M.PSmall p := by unfold M.PSmall; omega
  simp only [M.laws_toInsS, forall_eq, M.spec_BarriersSafe, M.impl_BarriersSafe, M.laws_eqInsS, beq_self_eq_true, Bool.not_true, bcase]
  exact ⟨q1, q2, q1, q2, q1, h, rfl⟩
end Go.V
