import Derived.Test.YtkacokecjojkoaaGreatKRMath1
set_option linter.unusedVariables false
set_option linter.unusedSimpArgs false
set_option maxRecDepth 20000
namespace Go.V
open IntKind (wrap)
theorem wp.cmp_isNaN_int.math (x : Int) : wp.cmp_isNaN_int x (fun r => r = M.cmp_isNaN_int x) := by simp [wp.cmp_isNaN_int, M.cmp_isNaN_int]
theorem wp.cmp_Less_int.math (x y : Int) : wp.cmp_Less_int x y (fun r => r = M.cmp_Less_int x y) := by
 intro r hr
 have : r = false := hr
 subst this
 exact bcase_f rfl rfl
theorem wp.slices_insertionSortOrdered_int.math (l : List Int) (a b : Int) (h : M.slices_insertionSortOrdered_int_pre l a b) : wp.slices_insertionSortOrdered_int l a b (fun r => r = M.slices_insertionSortOrdered_int l a b) := by
 obtain ⟨hl, rfl, rfl⟩ := h
 match l, hl with
 | [x, y], _ =>
 have w0 : wrap .i64 ((0 : Int) + 1) = 1 := by decide +kernel
 have w1 : wrap .i64 ((1 : Int) + 1) = 2 := by decide +kernel
 have w2 : wrap .i64 ((1 : Int) - 1) = 0 := by decide +kernel
 unfold wp.slices_insertionSortOrdered_int
 rw [w0]
 have r1 : rd [x, y] 1 = y := rfl
 have r0 : rd [x, y] 0 = x := rfl
 -- the outer loop: one round
 refine ⟨fun m z => (m = 1 ∧ z = (1, [x, y], ())) ∨ (m = 0 ∧ z = (2, M.sort2 [x, y], ())), ⟨1, .inl ⟨rfl, rfl⟩⟩, ?_⟩
 rintro m z (⟨rfl, rfl⟩ | ⟨rfl, rfl⟩)
 ·refine bcase_t rfl ?_
  refine ⟨fun m z => (m = 1 ∧ z = (1, [x, y], ())) ∨ (m = 0 ∧ z = (0, M.sort2 [x, y], ())), ⟨1, .inl ⟨rfl, rfl⟩⟩, ?_⟩
  rintro m z (⟨rfl, rfl⟩ | ⟨rfl, rfl⟩)
  ·unfold JoinP
   have i1 : (0 ≤ (1 : Int) ∧ (1 : Int) < (([x, y] : List Int).length : Int)) := by simp
   have i0 : (0 ≤ (0 : Int) ∧ (0 : Int) < (([x, y] : List Int).length : Int)) := by simp
   by_cases hc : y < x
   ·have hs : M.sort2 [x, y] = [y, x] := by simp [M.sort2, r1, r0, hc]
    have e1 : List.set (List.set [x, y] ((1 : Int).toNat) x) ((0 : Int).toNat) y = [y, x] := rfl
    have e2 : List.set (List.set [x, y] ((0 : Int).toNat) y) ((1 : Int).toNat) x = [y, x] := rfl
    have hd : (decide (y < x)) = true := decide_eq_true hc
    refine bcase_t rfl ?_
    simp only [w2, r1, r0, M.cmp_Less_int, forall_eq, hd, e1, e2, hs]
    have j1 : ∀ v, (0 ≤ (1 : Int) ∧ (1 : Int) < ((List.set [x, y] ((0 : Int).toNat) v).length : Int)) := fun v => by simp
    have j0 : ∀ v, (0 ≤ (0 : Int) ∧ (0 : Int) < ((List.set [x, y] ((1 : Int).toNat) v).length : Int)) := fun v => by simp
    simp only [i1, i0, j1, j0, true_and, and_true, and_self, bcase]
    exact ⟨0, by omega, .inr rfl⟩
   ·have hs : M.sort2 [x, y] = [x, y] := by simp [M.sort2, r1, r0, hc]
    have hd : (decide (y < x)) = false := decide_eq_false hc
    refine bcase_t rfl ?_
    simp only [w2, w1, r1, r0, M.cmp_Less_int, forall_eq, hd, hs]
    simp only [i1, i0, true_and, and_true, and_self, bcase]
    exact ⟨0, by omega, .inr rfl⟩
  ·unfold JoinP
   refine bcase_f rfl ?_
   rw [w1]
   have hn : ∃ m', m' < 1 ∧ ((m' = 1 ∧ ((2 : Int), M.sort2 [x, y], ()) = (1, [x, y], ())) ∨ (m' = 0 ∧ ((2 : Int), M.sort2 [x, y], ()) = (2, M.sort2 [x, y], ()))) := ⟨0, by omega, .inr ⟨rfl, rfl⟩⟩
   exact ⟨hn, hn, trivial⟩
 ·exact bcase_f rfl rfl
set_option maxRecDepth 100000 in
theorem wp.math_bits_Len64.math (x : Int) (h : M.math_bits_Len64_pre x) : wp.math_bits_Len64 x (fun r => r = M.math_bits_Len64 x) := by
 have h : x = 2 := h
 subst h
 unfold wp.math_bits_Len64
 unfold JoinP
 refine bcase_f rfl (bcase_f rfl (bcase_f rfl ⟨?_, ?_⟩))
 ·have : IntKind.wrap .u8 2 = 2 := by decide +kernel
  rw [this]
  exact ⟨by omega, by decide +kernel⟩
 ·show _ = (2 : Int)
  decide +kernel
theorem wp.math_bits_Len.math (x : Int) (h : M.math_bits_Len_pre x) : wp.math_bits_Len x (fun r => r = M.math_bits_Len x) := ⟨h, fun r hr => by rw [hr]; rfl⟩
theorem wp.slices_pdqsortOrdered_int.math (l : List Int) (a b c : Int) (h : M.slices_pdqsortOrdered_int_pre l a b c) : wp.slices_pdqsortOrdered_int l a b c (fun r => r = M.slices_pdqsortOrdered_int l a b c) := by
 obtain ⟨hl, rfl, rfl⟩ := h
 refine loop_n 0 (fun _ => (0, 2, c, true, true, ())) (fun _ => True) rfl trivial (fun k hk _ _ _ => absurd hk (by omega)) fun _ next => ?_
 exact bcase_t (by decide +kernel) ⟨⟨hl, rfl, rfl⟩, fun r hr => by rw [hr]; rfl⟩
theorem wp.slices_Sort_int_int.math (l : List Int) (h : M.slices_Sort_int_int_pre l) : wp.slices_Sort_int_int l (fun r => r = M.slices_Sort_int_int l) := by
 have hl : l.length = 2 := h
 unfold wp.slices_Sort_int_int
 have e : (l.length : Int) = 2 := by omega
 rw [e]
 refine ⟨by show IntKind.wrap .u64 2 = 2; decide +kernel, fun r hr => ⟨⟨hl, rfl, rfl⟩, fun r2 hr2 => by rw [hr2]; rfl⟩⟩
theorem wp.slices_Compact_int_int.math (l : List Int) (h : M.slices_Compact_int_int_pre l) : wp.slices_Compact_int_int l (fun r => r = M.slices_Compact_int_int l) := by
 match l, h with
 | [x, y], _ =>
 have w2 : wrap .i64 ((1 : Int) - 1) = 0 := by decide +kernel
 have w1 : wrap .i64 ((1 : Int) + 1) = 2 := by decide +kernel
 have r1 : rd [x, y] 1 = y := rfl
 have r0 : rd [x, y] 0 = x := rfl
 refine bcase_f rfl ?_
 by_cases hc : y = x
 ·have hM : M.slices_Compact_int_int [x, y] = [x] := by unfold M.slices_Compact_int_int; rw [r1, r0, if_pos hc]; rfl
  rw [hM]
  refine loop_n 0 (fun _ => (1, ())) (fun _ => True) rfl trivial (fun k hk _ _ _ => absurd hk (by omega)) fun _ next => ?_
  refine bcase_t rfl ⟨by simp, by rw [w2]; simp, ?_⟩
  rw [w2, r1, r0]
  refine bcase_t (by simpa using hc) ⟨by simp, ?_⟩
  refine loop_n 0 (fun _ => (1, 1, ())) (fun _ => True) rfl trivial (fun k hk _ _ _ => absurd hk (by omega)) fun _ next => ?_
  exact bcase_f rfl ⟨by simp, by simp, rfl⟩
 ·have hM : M.slices_Compact_int_int [x, y] = [x, y] := by unfold M.slices_Compact_int_int; rw [r1, r0, if_neg hc]
  rw [hM]
  refine loop_n 1 (fun k => ((k : Int) + 1, ())) (fun _ => True) rfl trivial (fun k hk _ next hn => ?_) fun _ next => bcase_f rfl rfl
  have hk0 : k = 0 := by omega
  subst hk0
  have hn := hn trivial
  refine bcase_t rfl ⟨by simp, ?_, ?_⟩
  ·show 0 ≤ wrap .i64 ((1 : Int) - 1) ∧ wrap .i64 ((1 : Int) - 1) < (([x, y] : List Int).length : Int)
   rw [w2]; simp
  ·show bcase (rd [x, y] 1 == rd [x, y] (wrap .i64 ((1 : Int) - 1))) _ _
   rw [w2, r1, r0]
   refine bcase_f (by simpa using hc) ?_
   show next (wrap .i64 ((1 : Int) + 1), ())
   rw [w1]; exact hn
theorem sort_compact (a b : Int) : M.slices_Compact_int_int (M.slices_Sort_int_int [a, b]) = M.putTwo b a ∧ (M.slices_Sort_int_int [a, b]).length = 2 := by
 have r1 : rd [a, b] 1 = b := rfl
 have r0 : rd [a, b] 0 = a := rfl
 have s1 : rd [b, a] 1 = a := rfl
 have s0 : rd [b, a] 0 = b := rfl
 simp only [M.slices_Compact_int_int, M.slices_Sort_int_int, M.sort2, M.putTwo, r1, r0]
 by_cases h1 : b < a
 ·rw [if_pos h1, s1, s0, if_neg (by omega), if_neg (by omega), if_neg (by omega)]
  exact ⟨rfl, rfl⟩
 ·rw [if_neg h1, r1, r0]
  by_cases h2 : b = a
  ·rw [if_pos h2, if_neg (by omega), if_pos h2.symm]; exact ⟨by rw [h2]; rfl, rfl⟩
  ·rw [if_neg h2, if_pos (by omega)]; exact ⟨rfl, rfl⟩
theorem wp.impl_next.math (p : List D.Ins) (k : Int) (h : M.impl_next_pre p k) : wp.impl_next p k (fun r => r = M.impl_next p k) := by
 obtain ⟨hp, h0, h1⟩ := h
 have h32 := progLen hp
 have hw : wrap .i64 (k + 1) = k + 1 := w64 (by omega) (by omega)
 unfold wp.impl_next
 rw [hw]
 refine bcase_mk (fun e => ?_) fun e => ?_
 ·have e : k = p.length := by simpa using e
  simp [M.impl_next, M.nextOf, e]
 have e : ¬ k = p.length := by simpa using e
 refine ⟨by omega, bcase_mk (fun e1 => ?_) fun e1 => bcase_mk (fun e2 => ?_) fun e2 => bcase_mk (fun e3 => ⟨rfl, fun r hr => ?_⟩) fun e3 => ?_⟩
 all_goals simp only [M.impl_next, M.nextOf]
 all_goals rw [if_neg e]
 ·rw [if_pos (by simpa using e1)]
 ·rw [if_neg (by simpa using e1), if_pos (by simpa using e2)]
 ·rw [if_neg (by simpa using e1), if_neg (by simpa using e2), if_pos (by simpa using e3)]
  have hsc := sort_compact (rd p k).B (k + 1)
  subst hr
  exact ⟨hsc.2, fun r2 hr2 => by rw [hr2]; exact hsc.1⟩
 ·rw [if_neg (by simpa using e1), if_neg (by simpa using e2), if_neg (by simpa using e3)]
theorem next_two {p : List D.Ins} (hp : M.programOk p = true) {k : Nat} (hk : k < p.length) : (((M.nextOf p (k : Int)).length : Int) == 2) = M.isBr p (k : Int) := by
 have hne : ¬ (k : Int) = p.length := by omega
 unfold M.nextOf M.isBr
 rw [if_neg hne]
 by_cases h12 : (rd p (k : Int)).Op = 12
 ·rw [if_pos h12, h12]; rfl
 rw [if_neg h12]
 by_cases h11 : (rd p (k : Int)).Op = 11
 ·rw [if_pos h11, h11]; rfl
 rw [if_neg h11]
 by_cases h10 : (rd p (k : Int)).Op = 10
 ·rw [if_pos h10, h10]
  unfold M.putTwo
  by_cases h1 : (rd p (k : Int)).B < (k : Int) + 1
  ·rw [if_pos h1]
   have : ((rd p (k : Int)).B != (k : Int) + 1) = true := by simp; omega
   rw [this]; rfl
  rw [if_neg h1]
  by_cases h2 : (rd p (k : Int)).B = (k : Int) + 1
  ·rw [if_pos h2]
   have : ((rd p (k : Int)).B != (k : Int) + 1) = false := by simp [h2]
   rw [this]; rfl
  ·rw [if_neg h2]
   have : ((rd p (k : Int)).B != (k : Int) + 1) = true := by simpa using h2
   rw [this]; rfl
 ·rw [if_neg h10]
  have : ((rd p (k : Int)).Op == 10) = false := by simpa using h10
  rw [this]; rfl
theorem wp.impl_BranchesOf.math (p : List D.Ins) (h : M.impl_BranchesOf_pre p) : wp.impl_BranchesOf p (fun r => r = M.impl_BranchesOf p) := by
 have hs : p.length ≤ 2097152 := h
 refine ⟨small_longP h, fun r hr => bcase_mk (fun e => ?_) fun e => ?_⟩
 ·have := nt e (show r = M.programOk p from hr)
  simp [M.impl_BranchesOf, M.branches, this]
 have hp := nf e (show r = M.programOk p from hr)
 have hM : M.impl_BranchesOf p = M.idx (M.isBr p) p.length := by simp [M.impl_BranchesOf, M.branches, hp]
 rw [hM]
 refine idx_loop (fun k xs next hk hxs hle h1 h2 => ?_) fun next => bcase_f (by simp) rfl
 refine bcase_t (by simp; omega) ⟨⟨hp, by omega, by omega⟩, fun r2 hr2 => ?_⟩
 have hr2' : r2 = M.nextOf p (k : Int) := hr2
 rw [hr2', next_two hp hk, up64 hk (by omega)]
 exact bcase_mk (fun e2 => ⟨by simp; omega, h1 e2⟩) fun e2 => h2 e2
theorem wp.impl_isBranch.math (p : List D.Ins) (b : Int) (h : M.impl_isBranch_pre p b) : wp.impl_isBranch p b (fun r => r = M.impl_isBranch p b) := by
 have hs : p.length ≤ 2097152 := h
 have hbl := branches_len p
 exact ⟨h, fun r hr => ⟨by rw [hr]; show (M.branches p).length ≤ 9223372036854775807; omega, fun r2 hr2 => by rw [hr2, hr]; rfl⟩⟩
theorem wp.impl_reached.math (p : List D.Ins) (l : List Int) (wo : Int) (h : M.impl_reached_pre p l wo) : wp.impl_reached p l wo (fun r => r = M.impl_reached p l wo) := by
 have hp := h.1
 have h32 := progLen hp
 have h4 := h.2.2
 unfold wp.impl_reached
 rw [repl_eq hp, small64 (prog_small hp)]
 refine ⟨by omega, by show l.length ≤ 17179869184; omega, fun r hr => ?_⟩
 have hr' : r = l := hr
 subst hr'
 refine bfs_loop (wo := wo) (I := fun _ => True) h (seen0_len _) trivial (R := M.impl_reached p r wo) rfl (by rw [seen0_falses]; omega) (fun k rest seen next hk hl _ hc hn => ?_) (fun k rest seen next hk hl _ h1 h2 _ h5 hn => ?_) fun next _ => bcase_f rfl rfl
 ·obtain ⟨f1, f2, f3, f4, f5⟩ := cons_facts (k := k) (rest := rest)
  refine bcase_t f5 ⟨f3, f4, ?_⟩
  rw [f1, f2]
  refine bcase_mk (fun _ => hn) fun e1 => ⟨node_seen hk hl, bcase_t (hc.resolve_left (by simpa using e1)) hn⟩
 ·obtain ⟨f1, f2, f3, f4, f5⟩ := cons_facts (k := k) (rest := rest)
  refine bcase_t f5 ⟨f3, f4, ?_⟩
  rw [f1, f2]
  refine bcase_f (by simpa using h1) ⟨node_seen hk hl, bcase_f h2 ⟨node_seen hk hl, hk, fun r hr => ?_⟩⟩
  have hr' : r = M.nextOf p k := hr
  rw [hr']
  exact ⟨h5, hn trivial⟩
theorem exit_in (p : List D.Ins) (l : List Int) (wo : Int) : (0 ≤ (p.length : Int) ∧ (p.length : Int) < ((M.reached p l wo).length : Int)) := by rw [reached_len]; omega
theorem wp.impl_reachesExit.math (p : List D.Ins) (k : Int) (h : M.impl_reachesExit_pre p k) : wp.impl_reachesExit p k (fun r => r = M.impl_reachesExit p k) :=
 ⟨start1 h, fun r hr => by rw [hr]; exact ⟨exit_in _ _ _, rfl⟩⟩
theorem wp.impl_isNode.math (p : List D.Ins) (k : Int) (h : M.impl_isNode_pre p k) : wp.impl_isNode p k (fun r => r = M.impl_isNode p k) := by
 refine ⟨small_longP h, fun r hr => bcase_mk (fun e r2 hr2 => ?_) fun e => ?_⟩
 all_goals have hr' : r = M.programOk p := hr
 ·rw [hr2]; simp [M.impl_isNode, M.isNode, ← hr', e, M.impl_within]
 ·simp [M.impl_isNode, M.isNode, ← hr', e]
theorem wp.impl_isAfter.math (p : List D.Ins) (k later : Int) (h : M.impl_isAfter_pre p k later) : wp.impl_isAfter p k later (fun r => r = M.impl_isAfter p k later) := by
 refine ⟨h, fun r hr => bcase_mk (fun e => ⟨start1 h, fun r2 hr2 => ?_⟩) fun e => ?_⟩
 all_goals have hr' : r = M.exitB p k := hr
 ·rw [hr2]
  refine ⟨exit_in _ _ _, ?_⟩
  simp only [M.impl_isAfter, ← hr', e, Bool.true_and]; rfl
 ·simp [M.impl_isAfter, ← hr', e]
theorem wp.impl_IsAfter.math (p : List D.Ins) (k later : Int) (h : M.impl_IsAfter_pre p k later) : wp.impl_IsAfter p k later (fun r => r = M.impl_IsAfter p k later) := by
 refine ⟨h, fun r hr => bcase_mk (fun e => ⟨h, fun r2 hr2 => bcase_mk (fun e2 => ?_) fun e2 => ?_⟩) fun e => ?_⟩
 all_goals have hr' : r = M.isNode p k := hr
 ·have hr2' : r2 = M.isNode p later := hr2
  refine ⟨isNode_iff.1 (hr'.symm.trans e), fun r3 hr3 => ?_⟩
  rw [hr3]; simp [M.impl_IsAfter, ← hr', e, ← hr2', e2, M.impl_isAfter]
 ·have hr2' : r2 = M.isNode p later := hr2
  simp [M.impl_IsAfter, ← hr2', e2]
 ·simp [M.impl_IsAfter, ← hr', e]
theorem wp.impl_AftersOf.math (p : List D.Ins) (k : Int) (h : M.impl_AftersOf_pre p k) : wp.impl_AftersOf p k (fun r => r = M.impl_AftersOf p k) := by
 have hs : p.length ≤ 2097152 := h
 unfold wp.impl_AftersOf
 rw [small64 h]
 by_cases hc : (M.isNode p k && M.exitB p k) = true
 ·have hN : M.Node p k := isNode_iff.1 (by simp only [Bool.and_eq_true] at hc; exact hc.1)
  have hM : M.impl_AftersOf p k = M.idx (M.afterB p k) (p.length + 1) := by simp only [M.impl_AftersOf, M.aftersOf, hc, if_true]
  rw [hM]
  refine idx_loop (fun j xs next hj hxs hle h1 h2 => ?_) fun next => bcase_f (by simp) rfl
  have hj2 : M.isNode p (j : Int) = true := isNode_iff.2 ⟨hN.1, by omega, by omega⟩
  simp only [Bool.and_eq_true] at hc
  have hv : M.impl_IsAfter p k (j : Int) = M.afterB p k (j : Int) := by simp only [M.impl_IsAfter, hc.1, hc.2, hj2, Bool.true_and]
  refine bcase_t (by simp; omega) ⟨h, fun r2 hr2 => ?_⟩
  rw [hr2, hv, up64 (n := p.length + 1) hj (by omega)]
  exact bcase_mk (fun e2 => ⟨by simp; omega, h1 e2⟩) fun e2 => h2 e2
 ·have hc : (M.isNode p k && M.exitB p k) = false := by simpa using hc
  have hM : M.impl_AftersOf p k = [] := by simp only [M.impl_AftersOf, M.aftersOf, hc]; rfl
  rw [hM]
  refine loop_n (p.length + 1) (fun j => ([], (j : Int), ())) (fun _ => True) rfl trivial (fun j hj _ next hn => ?_) fun _ next => bcase_f (by simp) rfl
  have hv : M.impl_IsAfter p k (j : Int) = false := by
   cases h1 : M.isNode p k with
   | false => simp [M.impl_IsAfter, h1]
   | true =>
    rw [h1, Bool.true_and] at hc
    simp [M.impl_IsAfter, hc]
  refine bcase_t (by simp; omega) ⟨h, fun r2 hr2 => ?_⟩
  rw [hr2, hv, up64 (n := p.length + 1) hj (by omega)]
  exact bcase_f rfl (hn trivial)
theorem wp.impl_FirstAfter_1.math (x k : Int) (h : M.impl_FirstAfter_1_pre x k) : wp.impl_FirstAfter_1 x k (fun r => r = M.impl_FirstAfter_1 x k) := rfl
theorem firstIx_spec (g : Int → Bool) : ∀ (l : List Int) (i : Nat), (M.firstIx g l i = -1 ∧ l.all (fun x => !g x) = true) ∨ ∃ k : Nat, k < l.length ∧ M.firstIx g l i = ((i + k : Nat) : Int) ∧ (l.take k).all (fun x => !g x) = true ∧ g (rd l (k : Int)) = true
 | [], i => .inl ⟨rfl, rfl⟩
 | x :: l, i => by
  unfold M.firstIx
  by_cases hx : g x = true
  ·rw [if_pos hx]
   exact .inr ⟨0, by simp, by simp, by simp, hx⟩
  ·rw [if_neg hx]
   rcases firstIx_spec g l (i + 1) with ⟨h1, h2⟩ | ⟨k, hk, h1, h2, h3⟩
   ·exact .inl ⟨h1, by simp [hx]; simpa using h2⟩
   ·refine .inr ⟨k + 1, by simp; omega, by rw [h1]; congr 1; omega, ?_, ?_⟩
    ·rw [List.take_succ_cons, List.all_cons, h2]; simp [hx]
    ·rw [rd_nat (by simp; omega)]; rw [rd_nat hk] at h3; exact h3
theorem filter_id {l : List Int} {g : Int → Bool} (h : l.all g = true) : l.filter g = l := List.filter_eq_self.2 (List.all_eq_true.1 h)
theorem wp.slices_DeleteFunc_int_int.math (l : List Int) (g : Int → Bool) (D : Int → Prop) (h : M.slices_DeleteFunc_int_int_pre l g D) : wp.slices_DeleteFunc_int_int l g D (fun r => r = M.slices_DeleteFunc_int_int l g) := by
 obtain ⟨hl, hD⟩ := h
 have hl' : l.length ≤ 9223372036854775807 := hl
 refine ⟨⟨hl, hD⟩, fun r hr => ?_⟩
 have hr' : r = M.firstIx g l 0 := hr
 rcases firstIx_spec g l 0 with ⟨h1, h2⟩ | ⟨k, hk, h1, h2, h3⟩
 ·rw [hr', h1]
  exact bcase_t rfl (by show l = l.filter _; exact (filter_id h2).symm)
 rw [hr', h1, Nat.zero_add]
 refine bcase_f (by simp) ?_
 rw [up64 hk hl']
 let G : Nat → List Int := fun j => (l.take j).filter fun x => !g x
 have hG : ∀ j, j < l.length → G (j + 1) = if (!g (rd l (j : Int))) = true then G j ++ [rd l (j : Int)] else G j := fun j hj => filter_take hj
 have hGl : ∀ j, j ≤ l.length → (G j).length ≤ j := fun j hj => by
  have := List.length_filter_le (fun x => !g x) (l.take j)
  have h2 : (l.take j).length ≤ j := by simp; omega
  exact Nat.le_trans this h2
 have hGk : G (k + 1) = G k ∧ (G k).length = k := by
  refine ⟨by rw [hG k hk, if_neg (by rw [h3]; simp)], ?_⟩
  show ((l.take k).filter fun x => !g x).length = k
  rw [filter_id h2]; simp; omega
 refine ⟨fun m z => ∃ (j : Nat) (xs : List Int), z = (((G j).length : Int), (j : Int), xs, ()) ∧ m = l.length - j ∧ k < j ∧ j ≤ l.length ∧ (G j).length < j ∧ xs.length = l.length ∧ xs.take (G j).length = G j ∧ xs.drop j = l.drop j,
  ⟨_, k + 1, l, by rw [hGk.1, hGk.2], rfl, by omega, by omega, by rw [hGk.1, hGk.2]; omega, rfl, by rw [hGk.1]; rw [hGk.2]; exact (filter_id h2).symm, rfl⟩, ?_⟩
 rintro m z ⟨j, xs, rfl, rfl, hkj, hjl, hgj, hxl, hx1, hx2⟩
 have hget : j < l.length → rd xs (j : Int) = rd l (j : Int) := fun hj => by
  rw [rd_nat (by omega), rd_nat hj]
  have := congrArg (fun q => q[0]?) hx2
  simp only [List.getElem?_drop, Nat.add_zero] at this
  rw [List.getElem?_eq_getElem (by omega), List.getElem?_eq_getElem hj] at this
  exact Option.some.inj this
 by_cases hj : j < l.length
 ·refine bcase_t (by simp; omega) ⟨by omega, ?_⟩
  have hGj := hG j hj
  have hgl : (G j).length < xs.length := by omega
  have hd2 : (xs.set (G j).length (rd l (j : Int))).drop (j + 1) = l.drop (j + 1) := by
   rw [List.drop_set_of_lt (by omega)]
   have := congrArg (fun q => q.drop 1) hx2
   simpa [List.drop_drop, Nat.add_comm] using this
  have hd1 : xs.drop (j + 1) = l.drop (j + 1) := by
   have := congrArg (fun q => q.drop 1) hx2
   simpa [List.drop_drop, Nat.add_comm] using this
  show D (rd xs (j : Int)) ∧ _
  dsimp only
  rw [hget hj]
  refine ⟨hD _ (rd_mem hj), fun r2 hr2 => bcase_mk (fun e => ⟨⟨by omega, by omega⟩, ?_⟩) fun e => ?_⟩
  ·have e : (!g (rd l (j : Int))) = true := by rw [← hr2]; exact e
   rw [if_pos e] at hGj
   have hlen : (G (j + 1)).length = (G j).length + 1 := by rw [hGj]; simp
   refine ⟨l.length - (j + 1), by omega, j + 1, xs.set (G j).length (rd l (j : Int)), ?_, rfl, by omega, by omega, by omega, by simpa using hxl, ?_, hd2⟩
   ·rw [up64 (n := l.length) (k := (G j).length) (by omega) hl', up64 hj hl', hlen]; rfl
   ·rw [hlen, hGj, List.take_add_one, List.getElem?_set_self (by omega), List.take_set_of_le (Nat.le_refl _), hx1]; rfl
  ·have e : ¬ (!g (rd l (j : Int))) = true := by rw [← hr2, e]; simp
   rw [if_neg e] at hGj
   refine ⟨l.length - (j + 1), by omega, j + 1, xs, ?_, rfl, by omega, by omega, by rw [hGj]; omega, hxl, by rw [hGj]; exact hx1, hd1⟩
   rw [up64 hj hl', hGj]
 ·have hje : j = l.length := by omega
  have hGl : G l.length = l.filter fun x => !g x := by show (l.take l.length).filter _ = _; rw [List.take_length]
  refine bcase_f (by simp; omega) ⟨by omega, by simp; omega, ?_⟩
  show _ = l.filter _
  rw [← hGl, ← hje]
  have : (((G j).length : Int)).toNat = (G j).length := by simp
  rw [this, List.take_append_of_le_length (by simp; omega), List.take_take, Nat.min_self, hx1]
theorem wp.impl_firstOf_1.math (z : Int) (p : List D.Ins) (x : Int) (h : M.impl_firstOf_1_pre z p x) : wp.impl_firstOf_1 z p x (fun r => r = M.impl_firstOf_1 z p x) := ⟨h, fun r hr => by rw [hr]; rfl⟩
theorem firstI_from (p : List D.Ins) (all l : List Int) (k : Nat) (hk : k < l.length) : M.firstI p all (l.drop k) = if all.all (fun z => M.exitB p (rd l (k : Int)) && M.afterB p (rd l (k : Int)) z) then rd l (k : Int) else M.firstI p all (l.drop (k + 1)) := by
 rw [List.drop_eq_getElem_cons hk, rd_nat hk]; rfl
theorem wp.impl_firstOf.math (p : List D.Ins) (l : List Int) (h : M.impl_firstOf_pre p l) : wp.impl_firstOf p l (fun r => r = M.impl_firstOf p l) := by
 obtain ⟨h1, h2⟩ := h
 have hl : l.length ≤ 17179869183 := h1
 refine loop_n l.length (fun k => ((k : Int), ())) (fun k => M.firstI p l l = M.firstI p l (l.drop k)) rfl rfl (fun k hk hF next hn => ?_) fun hF next => bcase_f (by simp) ?_
 ·rw [firstI_from p l l k hk] at hF
  have hN := h2 _ (rd_mem hk)
  refine bcase_t (by simp; omega) ⟨by omega, ⟨by show l.length ≤ 9223372036854775807; omega, fun z hz => hN⟩, fun r hr => ?_⟩
  have hr' : r = !(l.all fun z => M.exitB p (rd l (k : Int)) && M.afterB p (rd l (k : Int)) z) := by
   rw [hr]
   simp only [M.slices_ContainsFunc_int_int, M.impl_firstOf_1]
   rw [List.all_eq_not_any_not, Bool.not_not]
  refine bcase_mk (fun e => ?_) fun e => ?_
  ·have e2 := nt e hr'
   rw [if_pos (by simpa using e2)] at hF; exact hF.symm
  ·have e2 := nf e hr'
   rw [if_neg (by simpa using e2)] at hF
   rw [up64 hk (by omega)]; exact hn hF
 ·rw [List.drop_length] at hF; exact hF.symm
theorem first_same {p : List D.Ins} {all : List Int} : ∀ (l : List Int), (∀ x ∈ l, M.exitB p x = true) → M.firstI p all l = M.firstS p all l
 | [], _ => rfl
 | x :: l, h => by
  have hx := h x List.mem_cons_self
  unfold M.firstI M.firstS
  simp only [hx, Bool.true_and]
  rw [first_same l fun y hy => h y (List.mem_cons_of_mem _ hy)]
theorem wp.impl_FirstAfter.math (p : List D.Ins) (k : Int) (h : M.impl_FirstAfter_pre p k) : wp.impl_FirstAfter p k (fun r => r = M.impl_FirstAfter p k) := by
 have h1 := afters_len p k
 have hs : p.length ≤ 2097152 := h
 refine ⟨h, fun r hr => ⟨⟨?_, fun _ _ => trivial⟩, fun r2 hr2 => ?_⟩⟩
 ·rw [hr]; show (M.aftersOf p k).length ≤ 9223372036854775807; omega
 have hr2' : r2 = M.others (M.aftersOf p k) k := by rw [hr2, hr]; rfl
 refine ⟨by rw [hr2']; exact afters_ok h k, fun r3 hr3 => ?_⟩
 rw [hr3, hr2']
 exact first_same _ fun x hx => by
  obtain ⟨a, b, c, d⟩ := afters_nodes hx
  exact after_exits b a.2 c d
theorem wp.impl_JoinOf.math (p : List D.Ins) (b : Int) (h : M.impl_JoinOf_pre p b) : wp.impl_JoinOf p b (fun r => r = M.impl_JoinOf p b) := by
 refine ⟨h, fun r hr => bcase_mk (fun e => ?_) fun e => ?_⟩
 ·have := nt e (show r = M.has (M.branches p) b from hr)
  simp [M.impl_JoinOf, M.joinOf, this]
 have e := nf e (show r = M.has (M.branches p) b from hr)
 have hB := branch_of e
 obtain ⟨n1, n2, n3, n4⟩ := br_in hB
 have hM : M.impl_JoinOf p b = M.joinB p b := by simp only [M.impl_JoinOf, M.joinOf, e, if_true]
 rw [hM]
 refine ⟨n3, fun r2 hr2 => ?_⟩
 have hnx : M.nextOf p b = M.putTwo (b + 1) (rd p b).B := by
  have hb := hB.2.2.2
  simp only [M.isBr, Bool.and_eq_true, beq_iff_eq] at hb
  have := hB.2.2.1
  unfold M.nextOf
  rw [if_neg (by omega), if_neg (by omega), if_neg (by omega), if_pos hb.1]
 have hr2' : r2 = M.putTwo (b + 1) (rd p b).B := by rw [hr2]; exact hnx
 have hlen := putTwo_len (b + 1) (rd p b).B
 rw [← hr2'] at hlen
 have hmem : ∀ x, x ∈ r2 ↔ x = b + 1 ∨ x = (rd p b).B := fun x => by rw [hr2']; exact putTwo_mem
 clear hr2 hr2' hnx
 have hall : r2.all (M.exitB p) = (M.exitB p (b + 1) && M.exitB p (rd p b).B) := by
  rw [Bool.eq_iff_iff, List.all_eq_true, Bool.and_eq_true]
  constructor
  ·exact fun hh => ⟨hh _ ((hmem _).2 (.inl rfl)), hh _ ((hmem _).2 (.inr rfl))⟩
  ·rintro ⟨a1, a2⟩ x hx
   rcases (hmem x).1 hx with rfl | rfl
   ·exact a1
   ·exact a2
 have hnode : ∀ x ∈ r2, M.Node p x := fun x hx => by rcases (hmem x).1 hx with rfl | rfl; exact n1; exact n2
 refine loop_n r2.length (fun k => ((k : Int), ())) (fun k => (r2.take k).all (M.exitB p) = true) rfl (by simp) (fun k hk hF next hn => ?_) fun hF next => ?_
 ·refine bcase_t (by simp; omega) ⟨by omega, hnode _ (rd_mem hk), fun r3 hr3 => bcase_mk (fun e3 => ?_) fun e3 => ?_⟩
  ·have e3 := nt e3 (show r3 = M.exitB p (rd r2 (k : Int)) from hr3)
   have := all_false (g := M.exitB p) hk e3
   rw [hall] at this
   show _ = M.joinB p b
   simp [M.joinB, this]
  ·have e3 := nf e3 (show r3 = M.exitB p (rd r2 (k : Int)) from hr3)
   rw [up64 hk (by omega)]
   rw [rd_nat hk] at e3
   exact hn (take_all_succ hk hF e3)
 ·refine bcase_f (by simp) ⟨h, fun r3 hr3 => ?_⟩
  rw [List.take_length, hall] at hF
  rw [hr3]
  show _ = M.joinB p b
  simp [M.joinB, hF, M.impl_FirstAfter]
end Go.V
namespace Go.V
open IntKind (wrap)
def wp.impl_Warp_separate (s0 : D.Warp) (xs1 : List D.Ins) (Q : (Bool × D.Warp) → Prop) : Prop :=
 bcase (decide ((wrap .i64 ((s0.Frames.length : Int) + 2)) > 24)) (Q (false, (⟨s0.Number, s0.Frames, s0.Regs⟩ : D.Warp))) (((0 ≤ (wrap .i64 ((s0.Frames.length : Int) - 1)) ∧ (wrap .i64 ((s0.Frames.length : Int) - 1)) < (s0.Frames.length : Int)) ∧ ((0 ≤ (rd s0.Frames (wrap .i64 ((s0.Frames.length : Int) - 1))).Pc ∧ (rd s0.Frames (wrap .i64 ((s0.Frames.length : Int) - 1))).Pc < (xs1.length : Int)) ∧ (M.impl_Warp_zeroMask_pre s0 ((rd xs1 ((rd s0.Frames (wrap .i64 ((s0.Frames.length : Int) - 1))).Pc)).A) ∧ ∀ r36, r36 = M.impl_Warp_zeroMask s0 ((rd xs1 ((rd s0.Frames (wrap .i64 ((s0.Frames.length : Int) - 1))).Pc)).A) → (M.impl_JoinOf_pre xs1 ((rd s0.Frames (wrap .i64 ((s0.Frames.length : Int) - 1))).Pc) ∧ ∀ r41, r41 = M.impl_JoinOf xs1 ((rd s0.Frames (wrap .i64 ((s0.Frames.length : Int) - 1))).Pc) → ((0 ≤ (rd s0.Frames (wrap .i64 ((s0.Frames.length : Int) - 1))).Pc ∧ (rd s0.Frames (wrap .i64 ((s0.Frames.length : Int) - 1))).Pc < (xs1.length : Int)) ∧ (((((List.set s0.Frames ((wrap .i64 ((s0.Frames.length : Int) - 1)).toNat) (⟨r41, (rd s0.Frames (wrap .i64 ((s0.Frames.length : Int) - 1))).Stop, (rd s0.Frames (wrap .i64 ((s0.Frames.length : Int) - 1))).Mask⟩ : D.Frame)).length + ([(⟨(wrap .i64 ((rd s0.Frames (wrap .i64 ((s0.Frames.length : Int) - 1))).Pc + 1)), r41, (bitNot .i64 ((rd s0.Frames (wrap .i64 ((s0.Frames.length : Int) - 1))).Mask) r36)⟩ : D.Frame), (⟨(rd xs1 ((rd s0.Frames (wrap .i64 ((s0.Frames.length : Int) - 1))).Pc)).B, r41, r36⟩ : D.Frame)] : List D.Frame).length ≤ 17179869184) ∧ Q (true, (⟨s0.Number, ((List.set s0.Frames ((wrap .i64 ((s0.Frames.length : Int) - 1)).toNat) (⟨r41, (rd s0.Frames (wrap .i64 ((s0.Frames.length : Int) - 1))).Stop, (rd s0.Frames (wrap .i64 ((s0.Frames.length : Int) - 1))).Mask⟩ : D.Frame)) ++ ([(⟨(wrap .i64 ((rd s0.Frames (wrap .i64 ((s0.Frames.length : Int) - 1))).Pc + 1)), r41, (bitNot .i64 ((rd s0.Frames (wrap .i64 ((s0.Frames.length : Int) - 1))).Mask) r36)⟩ : D.Frame), (⟨(rd xs1 ((rd s0.Frames (wrap .i64 ((s0.Frames.length : Int) - 1))).Pc)).B, r41, r36⟩ : D.Frame)] : List D.Frame)), s0.Regs⟩ : D.Warp)))) ∧ ((((((List.set s0.Frames ((wrap .i64 ((s0.Frames.length : Int) - 1)).toNat) (⟨r41, (rd s0.Frames (wrap .i64 ((s0.Frames.length : Int) - 1))).Stop, (rd s0.Frames (wrap .i64 ((s0.Frames.length : Int) - 1))).Mask⟩ : D.Frame)).length + ([(⟨(wrap .i64 ((rd s0.Frames (wrap .i64 ((s0.Frames.length : Int) - 1))).Pc + 1)), r41, (bitNot .i64 ((rd s0.Frames (wrap .i64 ((s0.Frames.length : Int) - 1))).Mask) r36)⟩ : D.Frame), (⟨(rd xs1 ((rd s0.Frames (wrap .i64 ((s0.Frames.length : Int) - 1))).Pc)).B, r41, r36⟩ : D.Frame)] : List D.Frame).length ≤ 17179869184) ∧ Q (true, (⟨s0.Number, ((List.set s0.Frames ((wrap .i64 ((s0.Frames.length : Int) - 1)).toNat) (⟨r41, (rd s0.Frames (wrap .i64 ((s0.Frames.length : Int) - 1))).Stop, (rd s0.Frames (wrap .i64 ((s0.Frames.length : Int) - 1))).Mask⟩ : D.Frame)) ++ ([(⟨(wrap .i64 ((rd s0.Frames (wrap .i64 ((s0.Frames.length : Int) - 1))).Pc + 1)), r41, (bitNot .i64 ((rd s0.Frames (wrap .i64 ((s0.Frames.length : Int) - 1))).Mask) r36)⟩ : D.Frame), (⟨(rd xs1 ((rd s0.Frames (wrap .i64 ((s0.Frames.length : Int) - 1))).Pc)).B, r41, r36⟩ : D.Frame)] : List D.Frame)), s0.Regs⟩ : D.Warp)))) ∧ ((((List.set s0.Frames ((wrap .i64 ((s0.Frames.length : Int) - 1)).toNat) (⟨r41, (rd s0.Frames (wrap .i64 ((s0.Frames.length : Int) - 1))).Stop, (rd s0.Frames (wrap .i64 ((s0.Frames.length : Int) - 1))).Mask⟩ : D.Frame)).length + ([(⟨(wrap .i64 ((rd s0.Frames (wrap .i64 ((s0.Frames.length : Int) - 1))).Pc + 1)), r41, (bitNot .i64 ((rd s0.Frames (wrap .i64 ((s0.Frames.length : Int) - 1))).Mask) r36)⟩ : D.Frame), (⟨(rd xs1 ((rd s0.Frames (wrap .i64 ((s0.Frames.length : Int) - 1))).Pc)).B, r41, r36⟩ : D.Frame)] : List D.Frame).length ≤ 17179869184) ∧ Q (true, (⟨s0.Number, ((List.set s0.Frames ((wrap .i64 ((s0.Frames.length : Int) - 1)).toNat) (⟨r41, (rd s0.Frames (wrap .i64 ((s0.Frames.length : Int) - 1))).Stop, (rd s0.Frames (wrap .i64 ((s0.Frames.length : Int) - 1))).Mask⟩ : D.Frame)) ++ ([(⟨(wrap .i64 ((rd s0.Frames (wrap .i64 ((s0.Frames.length : Int) - 1))).Pc + 1)), r41, (bitNot .i64 ((rd s0.Frames (wrap .i64 ((s0.Frames.length : Int) - 1))).Mask) r36)⟩ : D.Frame), (⟨(rd xs1 ((rd s0.Frames (wrap .i64 ((s0.Frames.length : Int) - 1))).Pc)).B, r41, r36⟩ : D.Frame)] : List D.Frame)), s0.Regs⟩ : D.Warp)))) ∧ True)) ∧ True)))))))
def wp.impl_apply_v (s0 : D.Ins) (x1 : Int) (xs2 : List Int) (lo2 hi2 : Nat) (Q : ((List Int)) → Prop) : Prop :=
 bcase (s0.Op == 1) (((0 ≤ s0.A ∧ s0.A < ((List.drop lo2 (List.take hi2 xs2)).length : Int)) ∧ Q (List.set xs2 (lo2 + (s0.A.toNat)) s0.B))) (bcase (s0.Op == 2) (((0 ≤ s0.B ∧ s0.B < ((List.drop lo2 (List.take hi2 xs2)).length : Int)) ∧ ((0 ≤ s0.A ∧ s0.A < ((List.drop lo2 (List.take hi2 xs2)).length : Int)) ∧ Q (List.set xs2 (lo2 + (s0.A.toNat)) (rd (List.drop lo2 (List.take hi2 xs2)) s0.B))))) (bcase (s0.Op == 3) (((0 ≤ s0.B ∧ s0.B < ((List.drop lo2 (List.take hi2 xs2)).length : Int)) ∧ ((0 ≤ s0.C ∧ s0.C < ((List.drop lo2 (List.take hi2 xs2)).length : Int)) ∧ (∀ r82, r82 = M.impl_AddWords (rd (List.drop lo2 (List.take hi2 xs2)) s0.B) (rd (List.drop lo2 (List.take hi2 xs2)) s0.C) → ((0 ≤ s0.A ∧ s0.A < ((List.drop lo2 (List.take hi2 xs2)).length : Int)) ∧ Q (List.set xs2 (lo2 + (s0.A.toNat)) r82)))))) (bcase (s0.Op == 4) (((0 ≤ s0.B ∧ s0.B < ((List.drop lo2 (List.take hi2 xs2)).length : Int)) ∧ ((0 ≤ s0.C ∧ s0.C < ((List.drop lo2 (List.take hi2 xs2)).length : Int)) ∧ (∀ r129, r129 = M.impl_SubWords (rd (List.drop lo2 (List.take hi2 xs2)) s0.B) (rd (List.drop lo2 (List.take hi2 xs2)) s0.C) → ((0 ≤ s0.A ∧ s0.A < ((List.drop lo2 (List.take hi2 xs2)).length : Int)) ∧ Q (List.set xs2 (lo2 + (s0.A.toNat)) r129)))))) (bcase (s0.Op == 5) (((0 ≤ s0.B ∧ s0.B < ((List.drop lo2 (List.take hi2 xs2)).length : Int)) ∧ ((0 ≤ s0.C ∧ s0.C < ((List.drop lo2 (List.take hi2 xs2)).length : Int)) ∧ (∀ r176, r176 = M.impl_MulWords (rd (List.drop lo2 (List.take hi2 xs2)) s0.B) (rd (List.drop lo2 (List.take hi2 xs2)) s0.C) → ((0 ≤ s0.A ∧ s0.A < ((List.drop lo2 (List.take hi2 xs2)).length : Int)) ∧ Q (List.set xs2 (lo2 + (s0.A.toNat)) r176)))))) (bcase (s0.Op == 6) (((0 ≤ s0.B ∧ s0.B < ((List.drop lo2 (List.take hi2 xs2)).length : Int)) ∧ ((0 ≤ s0.C ∧ s0.C < ((List.drop lo2 (List.take hi2 xs2)).length : Int)) ∧ ((0 ≤ s0.A ∧ s0.A < ((List.drop lo2 (List.take hi2 xs2)).length : Int)) ∧ Q (List.set xs2 (lo2 + (s0.A.toNat)) (bitXor .i64 (rd (List.drop lo2 (List.take hi2 xs2)) s0.B) (rd (List.drop lo2 (List.take hi2 xs2)) s0.C))))))) (bcase (s0.Op == 7) (((0 ≤ s0.B ∧ s0.B < ((List.drop lo2 (List.take hi2 xs2)).length : Int)) ∧ ((0 ≤ s0.C ∧ s0.C < ((List.drop lo2 (List.take hi2 xs2)).length : Int)) ∧ (∀ r245, r245 = M.impl_LessWords (rd (List.drop lo2 (List.take hi2 xs2)) s0.B) (rd (List.drop lo2 (List.take hi2 xs2)) s0.C) → ((0 ≤ s0.A ∧ s0.A < ((List.drop lo2 (List.take hi2 xs2)).length : Int)) ∧ Q (List.set xs2 (lo2 + (s0.A.toNat)) r245)))))) (bcase (s0.Op == 8) (((0 ≤ s0.A ∧ s0.A < ((List.drop lo2 (List.take hi2 xs2)).length : Int)) ∧ Q (List.set xs2 (lo2 + (s0.A.toNat)) x1))) (bcase (s0.Op == 9) (((0 ≤ s0.C ∧ s0.C < ((List.drop lo2 (List.take hi2 xs2)).length : Int)) ∧ bcase ((rd (List.drop lo2 (List.take hi2 xs2)) s0.C) != 0) (((0 ≤ s0.B ∧ s0.B < ((List.drop lo2 (List.take hi2 xs2)).length : Int)) ∧ ((0 ≤ s0.A ∧ s0.A < ((List.drop lo2 (List.take hi2 xs2)).length : Int)) ∧ Q (List.set xs2 (lo2 + (s0.A.toNat)) (rd (List.drop lo2 (List.take hi2 xs2)) s0.B))))) (Q xs2))) (Q xs2)))))))))
def wp.impl_Warp_advance (s0 : D.Warp) (xs1 : List D.Ins) (Q : D.Warp → Prop) : Prop :=
 ((0 ≤ (wrap .i64 ((s0.Frames.length : Int) - 1)) ∧ (wrap .i64 ((s0.Frames.length : Int) - 1)) < (s0.Frames.length : Int)) ∧ ((0 ≤ (rd s0.Frames (wrap .i64 ((s0.Frames.length : Int) - 1))).Pc ∧ (rd s0.Frames (wrap .i64 ((s0.Frames.length : Int) - 1))).Pc < (xs1.length : Int)) ∧ (∀ r38, r38 = M.impl_LanesOf ((rd s0.Frames (wrap .i64 ((s0.Frames.length : Int) - 1))).Mask) → LoopP (σ := Int × (List Int) × Unit) (fun (p138 : Int × (List Int) × Unit) next81 => match p138 with | (i75, xs76, _) => bcase (decide (i75 < (r38.length : Int))) (((0 ≤ i75 ∧ i75 < (r38.length : Int)) ∧ (M.impl_Warp_lane_pre (⟨s0.Number, s0.Frames, xs76⟩ : D.Warp) (rd r38 i75) ∧ (M.impl_apply_v_pre (rd xs1 ((rd s0.Frames (wrap .i64 ((s0.Frames.length : Int) - 1))).Pc)) (wrap .i64 ((wrap .i64 (s0.Number * 8)) + (rd r38 i75))) xs76 ((wrap .i64 ((rd r38 i75) * 4)).toNat) ((wrap .i64 ((wrap .i64 ((rd r38 i75) + 1)) * 4)).toNat) ∧ ∀ r101, r101 = M.impl_apply_v (rd xs1 ((rd s0.Frames (wrap .i64 ((s0.Frames.length : Int) - 1))).Pc)) (wrap .i64 ((wrap .i64 (s0.Number * 8)) + (rd r38 i75))) xs76 ((wrap .i64 ((rd r38 i75) * 4)).toNat) ((wrap .i64 ((wrap .i64 ((rd r38 i75) + 1)) * 4)).toNat) → next81 ((wrap .i64 (i75 + 1)), r101, ()))))) (bcase ((rd xs1 ((rd s0.Frames (wrap .i64 ((s0.Frames.length : Int) - 1))).Pc)).Op == 12) (Q (⟨s0.Number, (List.set s0.Frames ((wrap .i64 ((s0.Frames.length : Int) - 1)).toNat) (⟨(xs1.length : Int), (rd s0.Frames (wrap .i64 ((s0.Frames.length : Int) - 1))).Stop, (rd s0.Frames (wrap .i64 ((s0.Frames.length : Int) - 1))).Mask⟩ : D.Frame)), xs76⟩ : D.Warp)) (JoinP (σ := Bool × Unit) (fun J114 => bcase ((rd xs1 ((rd s0.Frames (wrap .i64 ((s0.Frames.length : Int) - 1))).Pc)).Op == 11) (J114 (true, ())) (bcase ((rd xs1 ((rd s0.Frames (wrap .i64 ((s0.Frames.length : Int) - 1))).Pc)).Op == 10) ((M.impl_Warp_zeroMask_pre (⟨s0.Number, s0.Frames, xs76⟩ : D.Warp) ((rd xs1 ((rd s0.Frames (wrap .i64 ((s0.Frames.length : Int) - 1))).Pc)).A) ∧ ∀ r119, r119 = M.impl_Warp_zeroMask (⟨s0.Number, s0.Frames, xs76⟩ : D.Warp) ((rd xs1 ((rd s0.Frames (wrap .i64 ((s0.Frames.length : Int) - 1))).Pc)).A) → J114 ((r119 == (rd s0.Frames (wrap .i64 ((s0.Frames.length : Int) - 1))).Mask), ()))) (J114 (false, ())))) (fun (p134 : Bool × Unit) => match p134 with | (b113, _) => bcase b113 (Q (⟨s0.Number, (List.set s0.Frames ((wrap .i64 ((s0.Frames.length : Int) - 1)).toNat) (⟨(rd xs1 ((rd s0.Frames (wrap .i64 ((s0.Frames.length : Int) - 1))).Pc)).B, (rd s0.Frames (wrap .i64 ((s0.Frames.length : Int) - 1))).Stop, (rd s0.Frames (wrap .i64 ((s0.Frames.length : Int) - 1))).Mask⟩ : D.Frame)), xs76⟩ : D.Warp)) (Q (⟨s0.Number, (List.set s0.Frames ((wrap .i64 ((s0.Frames.length : Int) - 1)).toNat) (⟨(wrap .i64 ((rd s0.Frames (wrap .i64 ((s0.Frames.length : Int) - 1))).Pc + 1)), (rd s0.Frames (wrap .i64 ((s0.Frames.length : Int) - 1))).Stop, (rd s0.Frames (wrap .i64 ((s0.Frames.length : Int) - 1))).Mask⟩ : D.Frame)), xs76⟩ : D.Warp)))))) (0, s0.Regs, ()))))
def wp.impl_Warp_drop (s0 : D.Warp) (x1 : Int) (Q : D.Warp → Prop) : Prop :=
 LoopP (σ := Int × (List D.Frame) × Unit) (fun (p107 : Int × (List D.Frame) × Unit) next79 => match p107 with | (i72, xs73, _) => bcase (decide ((xs73.length : Int) > 0)) (((0 ≤ (wrap .i64 ((xs73.length : Int) - 1)) ∧ (wrap .i64 ((xs73.length : Int) - 1)) < (xs73.length : Int)) ∧ JoinP (σ := Unit) (fun J91 => bcase ((rd xs73 (wrap .i64 ((xs73.length : Int) - 1))).Pc != (rd xs73 (wrap .i64 ((xs73.length : Int) - 1))).Stop) (bcase ((rd xs73 (wrap .i64 ((xs73.length : Int) - 1))).Pc != x1) (Q (⟨i72, xs73, s0.Regs⟩ : D.Warp)) (J91 (()))) (J91 (()))) (fun (p104 : Unit) => match p104 with | (_) => ((0 ≤ (wrap .i64 ((xs73.length : Int) - 1)) ∧ (wrap .i64 ((xs73.length : Int) - 1)) ≤ (xs73.length : Int)) ∧ next79 (i72, (List.take ((wrap .i64 ((xs73.length : Int) - 1)).toNat) xs73), ()))))) (Q (⟨i72, xs73, s0.Regs⟩ : D.Warp))) (s0.Number, s0.Frames, ())
def wp.impl_Warp_pass (s0 : D.Warp) (xs1 : List D.Ins) (Q : (Bool × D.Warp) → Prop) : Prop :=
 bcase ((s0.Frames.length : Int) == 0) (Q (false, (⟨s0.Number, s0.Frames, s0.Regs⟩ : D.Warp))) (((0 ≤ (wrap .i64 ((s0.Frames.length : Int) - 1)) ∧ (wrap .i64 ((s0.Frames.length : Int) - 1)) < (s0.Frames.length : Int)) ∧ ((0 ≤ (rd s0.Frames (wrap .i64 ((s0.Frames.length : Int) - 1))).Pc ∧ (rd s0.Frames (wrap .i64 ((s0.Frames.length : Int) - 1))).Pc < (xs1.length : Int)) ∧ (∀ r32, r32 = M.impl_IsLocal (rd xs1 ((rd s0.Frames (wrap .i64 ((s0.Frames.length : Int) - 1))).Pc)) → bcase (!r32) (Q (false, (⟨s0.Number, s0.Frames, s0.Regs⟩ : D.Warp))) ((M.impl_Warp_splits_pre s0 xs1 ∧ ∀ r37, r37 = M.impl_Warp_splits s0 xs1 → bcase r37 ((M.impl_Warp_separate_pre s0 xs1 ∧ ∀ r42, r42 = M.impl_Warp_separate s0 xs1 → bcase (!r42.1) (Q (false, (⟨r42.2.Number, r42.2.Frames, s0.Regs⟩ : D.Warp))) ((M.impl_Warp_drop_pre (⟨r42.2.Number, r42.2.Frames, s0.Regs⟩ : D.Warp) (xs1.length : Int) ∧ ∀ r50, r50 = M.impl_Warp_drop (⟨r42.2.Number, r42.2.Frames, s0.Regs⟩ : D.Warp) (xs1.length : Int) → Q (true, (⟨r50.Number, r50.Frames, s0.Regs⟩ : D.Warp)))))) ((M.impl_Warp_advance_pre s0 xs1 ∧ ∀ r59, r59 = M.impl_Warp_advance s0 xs1 → (M.impl_Warp_drop_pre r59 (xs1.length : Int) ∧ ∀ r68, r68 = M.impl_Warp_drop r59 (xs1.length : Int) → Q (true, (⟨r68.Number, r68.Frames, r59.Regs⟩ : D.Warp)))))))))))
end Go.V
namespace Go.V
open IntKind (wrap)
def wp.spec_DropFrames (xs0 : List D.Ins) (s1 : D.Warp) (Q : D.Warp → Prop) : Prop :=
 (M.spec_l12Copy_pre s1 ∧ ∀ r25, r25 = M.spec_l12Copy s1 → LoopP (σ := Int × Int × (List D.Frame) × Unit) (fun (p121 : Int × Int × (List D.Frame) × Unit) next89 => match p121 with | (i81, i82, xs83, _) => bcase (decide (i81 ≥ 0)) (((0 ≤ i81 ∧ i81 < (xs83.length : Int)) ∧ bcase ((rd xs83 i81).Pc != (rd xs83 i81).Stop) (bcase ((rd xs83 i81).Pc != (xs0.length : Int)) (Q (⟨i82, xs83, r25.Regs⟩ : D.Warp)) (((0 ≤ i81 ∧ i81 ≤ (xs83.length : Int)) ∧ next89 ((wrap .i64 (i81 - 1)), i82, (List.take (i81.toNat) xs83), ())))) (((0 ≤ i81 ∧ i81 ≤ (xs83.length : Int)) ∧ next89 ((wrap .i64 (i81 - 1)), i82, (List.take (i81.toNat) xs83), ()))))) (Q (⟨i82, xs83, r25.Regs⟩ : D.Warp))) ((wrap .i64 ((r25.Frames.length : Int) - 1)), r25.Number, r25.Frames, ()))
def wp.spec_l13Apply (xs0 : List D.Ins) (s1 : D.Warp) (Q : (List Int) → Prop) : Prop :=
 ((([] : List Int).length + s1.Regs.length ≤ 17179869184) ∧ ((0 ≤ (wrap .i64 ((s1.Frames.length : Int) - 1)) ∧ (wrap .i64 ((s1.Frames.length : Int) - 1)) < (s1.Frames.length : Int)) ∧ LoopP (σ := Int × (List Int) × Unit) (fun (p197 : Int × (List Int) × Unit) next117 => match p197 with | (i111, xs112, _) => bcase (decide (i111 < 8)) ((∀ r119, r119 = M.spec_HasLane ((rd s1.Frames (wrap .i64 ((s1.Frames.length : Int) - 1))).Mask) i111 → bcase r119 (((0 ≤ (rd s1.Frames (wrap .i64 ((s1.Frames.length : Int) - 1))).Pc ∧ (rd s1.Frames (wrap .i64 ((s1.Frames.length : Int) - 1))).Pc < (xs0.length : Int)) ∧ ((0 ≤ (wrap .i64 ((wrap .i64 (i111 + 1)) * 4)) ∧ (wrap .i64 ((wrap .i64 (i111 + 1)) * 4)) ≤ (s1.Regs.length : Int) ∧ 0 ≤ (wrap .i64 (i111 * 4)) ∧ (wrap .i64 (i111 * 4)) ≤ (wrap .i64 ((wrap .i64 (i111 + 1)) * 4))) ∧ (M.spec_l10Apply_pre (rd xs0 ((rd s1.Frames (wrap .i64 ((s1.Frames.length : Int) - 1))).Pc)) (wrap .i64 ((wrap .i64 (s1.Number * 8)) + i111)) (List.drop ((wrap .i64 (i111 * 4)).toNat) (List.take ((wrap .i64 ((wrap .i64 (i111 + 1)) * 4)).toNat) s1.Regs)) ∧ ∀ r134, r134 = M.spec_l10Apply (rd xs0 ((rd s1.Frames (wrap .i64 ((s1.Frames.length : Int) - 1))).Pc)) (wrap .i64 ((wrap .i64 (s1.Number * 8)) + i111)) (List.drop ((wrap .i64 (i111 * 4)).toNat) (List.take ((wrap .i64 ((wrap .i64 (i111 + 1)) * 4)).toNat) s1.Regs)) → LoopP (σ := Int × (List Int) × Unit) (fun (p188 : Int × (List Int) × Unit) next166 => match p188 with | (i160, xs161, _) => bcase (decide (i160 < 4)) (((0 ≤ i160 ∧ i160 < (r134.length : Int)) ∧ ((0 ≤ (wrap .i64 ((wrap .i64 (i111 * 4)) + i160)) ∧ (wrap .i64 ((wrap .i64 (i111 * 4)) + i160)) < (xs161.length : Int)) ∧ next166 ((wrap .i64 (i160 + 1)), (List.set xs161 ((wrap .i64 ((wrap .i64 (i111 * 4)) + i160)).toNat) (rd r134 i160)), ())))) (next117 ((wrap .i64 (i111 + 1)), xs161, ()))) (0, xs112, ()))))) (next117 ((wrap .i64 (i111 + 1)), xs112, ())))) (Q xs112)) (0, (([] : List Int) ++ s1.Regs), ())))
def wp.spec_l13Step (xs0 : List D.Ins) (s1 : D.Warp) (Q : D.Warp → Prop) : Prop :=
 (M.spec_l12Copy_pre s1 ∧ ∀ r25, r25 = M.spec_l12Copy s1 → ((0 ≤ (wrap .i64 ((s1.Frames.length : Int) - 1)) ∧ (wrap .i64 ((s1.Frames.length : Int) - 1)) < (s1.Frames.length : Int)) ∧ ((0 ≤ (rd s1.Frames (wrap .i64 ((s1.Frames.length : Int) - 1))).Pc ∧ (rd s1.Frames (wrap .i64 ((s1.Frames.length : Int) - 1))).Pc < (xs0.length : Int)) ∧ (M.spec_l13Splits_pre xs0 s1 ∧ ∀ r56, r56 = M.spec_l13Splits xs0 s1 → bcase r56 ((M.spec_ZeroMask_pre s1 ((rd xs0 ((rd s1.Frames (wrap .i64 ((s1.Frames.length : Int) - 1))).Pc)).A) ∧ ∀ r61, r61 = M.spec_ZeroMask s1 ((rd xs0 ((rd s1.Frames (wrap .i64 ((s1.Frames.length : Int) - 1))).Pc)).A) → (M.spec_l09Join_pre xs0 ((rd s1.Frames (wrap .i64 ((s1.Frames.length : Int) - 1))).Pc) ∧ ∀ r66, r66 = M.spec_l09Join xs0 ((rd s1.Frames (wrap .i64 ((s1.Frames.length : Int) - 1))).Pc) → ((0 ≤ (wrap .i64 ((s1.Frames.length : Int) - 1)) ∧ (wrap .i64 ((s1.Frames.length : Int) - 1)) < (r25.Frames.length : Int)) ∧ (((List.set r25.Frames ((wrap .i64 ((s1.Frames.length : Int) - 1)).toNat) (⟨r66, (rd r25.Frames (wrap .i64 ((s1.Frames.length : Int) - 1))).Stop, (rd r25.Frames (wrap .i64 ((s1.Frames.length : Int) - 1))).Mask⟩ : D.Frame)).length + ([(⟨(wrap .i64 ((rd s1.Frames (wrap .i64 ((s1.Frames.length : Int) - 1))).Pc + 1)), r66, (wrap .i64 ((rd s1.Frames (wrap .i64 ((s1.Frames.length : Int) - 1))).Mask - r61))⟩ : D.Frame), (⟨(rd xs0 ((rd s1.Frames (wrap .i64 ((s1.Frames.length : Int) - 1))).Pc)).B, r66, r61⟩ : D.Frame)] : List D.Frame).length ≤ 17179869184) ∧ (M.spec_DropFrames_pre xs0 (⟨r25.Number, ((List.set r25.Frames ((wrap .i64 ((s1.Frames.length : Int) - 1)).toNat) (⟨r66, (rd r25.Frames (wrap .i64 ((s1.Frames.length : Int) - 1))).Stop, (rd r25.Frames (wrap .i64 ((s1.Frames.length : Int) - 1))).Mask⟩ : D.Frame)) ++ ([(⟨(wrap .i64 ((rd s1.Frames (wrap .i64 ((s1.Frames.length : Int) - 1))).Pc + 1)), r66, (wrap .i64 ((rd s1.Frames (wrap .i64 ((s1.Frames.length : Int) - 1))).Mask - r61))⟩ : D.Frame), (⟨(rd xs0 ((rd s1.Frames (wrap .i64 ((s1.Frames.length : Int) - 1))).Pc)).B, r66, r61⟩ : D.Frame)] : List D.Frame)), r25.Regs⟩ : D.Warp) ∧ ∀ r89, r89 = M.spec_DropFrames xs0 (⟨r25.Number, ((List.set r25.Frames ((wrap .i64 ((s1.Frames.length : Int) - 1)).toNat) (⟨r66, (rd r25.Frames (wrap .i64 ((s1.Frames.length : Int) - 1))).Stop, (rd r25.Frames (wrap .i64 ((s1.Frames.length : Int) - 1))).Mask⟩ : D.Frame)) ++ ([(⟨(wrap .i64 ((rd s1.Frames (wrap .i64 ((s1.Frames.length : Int) - 1))).Pc + 1)), r66, (wrap .i64 ((rd s1.Frames (wrap .i64 ((s1.Frames.length : Int) - 1))).Mask - r61))⟩ : D.Frame), (⟨(rd xs0 ((rd s1.Frames (wrap .i64 ((s1.Frames.length : Int) - 1))).Pc)).B, r66, r61⟩ : D.Frame)] : List D.Frame)), r25.Regs⟩ : D.Warp) → Q (⟨r89.Number, r89.Frames, r89.Regs⟩ : D.Warp))))))) ((M.spec_l13Apply_pre xs0 s1 ∧ ∀ r100, r100 = M.spec_l13Apply xs0 s1 → bcase ((rd xs0 ((rd s1.Frames (wrap .i64 ((s1.Frames.length : Int) - 1))).Pc)).Op == 12) (((0 ≤ (wrap .i64 ((s1.Frames.length : Int) - 1)) ∧ (wrap .i64 ((s1.Frames.length : Int) - 1)) < (r25.Frames.length : Int)) ∧ (M.spec_DropFrames_pre xs0 (⟨r25.Number, (List.set r25.Frames ((wrap .i64 ((s1.Frames.length : Int) - 1)).toNat) (⟨(xs0.length : Int), (rd r25.Frames (wrap .i64 ((s1.Frames.length : Int) - 1))).Stop, (rd r25.Frames (wrap .i64 ((s1.Frames.length : Int) - 1))).Mask⟩ : D.Frame)), r100⟩ : D.Warp) ∧ ∀ r117, r117 = M.spec_DropFrames xs0 (⟨r25.Number, (List.set r25.Frames ((wrap .i64 ((s1.Frames.length : Int) - 1)).toNat) (⟨(xs0.length : Int), (rd r25.Frames (wrap .i64 ((s1.Frames.length : Int) - 1))).Stop, (rd r25.Frames (wrap .i64 ((s1.Frames.length : Int) - 1))).Mask⟩ : D.Frame)), r100⟩ : D.Warp) → Q (⟨r117.Number, r117.Frames, r117.Regs⟩ : D.Warp)))) (bcase ((rd xs0 ((rd s1.Frames (wrap .i64 ((s1.Frames.length : Int) - 1))).Pc)).Op == 11) (((0 ≤ (wrap .i64 ((s1.Frames.length : Int) - 1)) ∧ (wrap .i64 ((s1.Frames.length : Int) - 1)) < (r25.Frames.length : Int)) ∧ (M.spec_DropFrames_pre xs0 (⟨r25.Number, (List.set r25.Frames ((wrap .i64 ((s1.Frames.length : Int) - 1)).toNat) (⟨(rd xs0 ((rd s1.Frames (wrap .i64 ((s1.Frames.length : Int) - 1))).Pc)).B, (rd r25.Frames (wrap .i64 ((s1.Frames.length : Int) - 1))).Stop, (rd r25.Frames (wrap .i64 ((s1.Frames.length : Int) - 1))).Mask⟩ : D.Frame)), r100⟩ : D.Warp) ∧ ∀ r136, r136 = M.spec_DropFrames xs0 (⟨r25.Number, (List.set r25.Frames ((wrap .i64 ((s1.Frames.length : Int) - 1)).toNat) (⟨(rd xs0 ((rd s1.Frames (wrap .i64 ((s1.Frames.length : Int) - 1))).Pc)).B, (rd r25.Frames (wrap .i64 ((s1.Frames.length : Int) - 1))).Stop, (rd r25.Frames (wrap .i64 ((s1.Frames.length : Int) - 1))).Mask⟩ : D.Frame)), r100⟩ : D.Warp) → Q (⟨r136.Number, r136.Frames, r136.Regs⟩ : D.Warp)))) (((0 ≤ (wrap .i64 ((s1.Frames.length : Int) - 1)) ∧ (wrap .i64 ((s1.Frames.length : Int) - 1)) < (r25.Frames.length : Int)) ∧ JoinP (σ := Bool × Unit) (fun J156 => bcase ((rd xs0 ((rd s1.Frames (wrap .i64 ((s1.Frames.length : Int) - 1))).Pc)).Op == 10) ((M.spec_ZeroMask_pre s1 ((rd xs0 ((rd s1.Frames (wrap .i64 ((s1.Frames.length : Int) - 1))).Pc)).A) ∧ ∀ r160, r160 = M.spec_ZeroMask s1 ((rd xs0 ((rd s1.Frames (wrap .i64 ((s1.Frames.length : Int) - 1))).Pc)).A) → J156 ((r160 == (rd s1.Frames (wrap .i64 ((s1.Frames.length : Int) - 1))).Mask), ()))) (J156 (false, ()))) (fun (p198 : Bool × Unit) => match p198 with | (b155, _) => bcase b155 (((0 ≤ (wrap .i64 ((s1.Frames.length : Int) - 1)) ∧ (wrap .i64 ((s1.Frames.length : Int) - 1)) < ((List.set r25.Frames ((wrap .i64 ((s1.Frames.length : Int) - 1)).toNat) (⟨(wrap .i64 ((rd s1.Frames (wrap .i64 ((s1.Frames.length : Int) - 1))).Pc + 1)), (rd r25.Frames (wrap .i64 ((s1.Frames.length : Int) - 1))).Stop, (rd r25.Frames (wrap .i64 ((s1.Frames.length : Int) - 1))).Mask⟩ : D.Frame)).length : Int)) ∧ (M.spec_DropFrames_pre xs0 (⟨r25.Number, (List.set r25.Frames ((wrap .i64 ((s1.Frames.length : Int) - 1)).toNat) (⟨(rd xs0 ((rd s1.Frames (wrap .i64 ((s1.Frames.length : Int) - 1))).Pc)).B, (rd r25.Frames (wrap .i64 ((s1.Frames.length : Int) - 1))).Stop, (rd r25.Frames (wrap .i64 ((s1.Frames.length : Int) - 1))).Mask⟩ : D.Frame)), r100⟩ : D.Warp) ∧ ∀ r175, r175 = M.spec_DropFrames xs0 (⟨r25.Number, (List.set r25.Frames ((wrap .i64 ((s1.Frames.length : Int) - 1)).toNat) (⟨(rd xs0 ((rd s1.Frames (wrap .i64 ((s1.Frames.length : Int) - 1))).Pc)).B, (rd r25.Frames (wrap .i64 ((s1.Frames.length : Int) - 1))).Stop, (rd r25.Frames (wrap .i64 ((s1.Frames.length : Int) - 1))).Mask⟩ : D.Frame)), r100⟩ : D.Warp) → Q (⟨r175.Number, r175.Frames, r175.Regs⟩ : D.Warp)))) ((M.spec_DropFrames_pre xs0 (⟨r25.Number, (List.set r25.Frames ((wrap .i64 ((s1.Frames.length : Int) - 1)).toNat) (⟨(wrap .i64 ((rd s1.Frames (wrap .i64 ((s1.Frames.length : Int) - 1))).Pc + 1)), (rd r25.Frames (wrap .i64 ((s1.Frames.length : Int) - 1))).Stop, (rd r25.Frames (wrap .i64 ((s1.Frames.length : Int) - 1))).Mask⟩ : D.Frame)), r100⟩ : D.Warp) ∧ ∀ r186, r186 = M.spec_DropFrames xs0 (⟨r25.Number, (List.set r25.Frames ((wrap .i64 ((s1.Frames.length : Int) - 1)).toNat) (⟨(wrap .i64 ((rd s1.Frames (wrap .i64 ((s1.Frames.length : Int) - 1))).Pc + 1)), (rd r25.Frames (wrap .i64 ((s1.Frames.length : Int) - 1))).Stop, (rd r25.Frames (wrap .i64 ((s1.Frames.length : Int) - 1))).Mask⟩ : D.Frame)), r100⟩ : D.Warp) → Q (⟨r186.Number, r186.Frames, r186.Regs⟩ : D.Warp)))))))))))))
end Go.V
namespace Go.V
open IntKind (wrap)
theorem lessW_word (a b : Int) : M.isWord (M.lessW a b) = true := by unfold M.lessW; split <;> rfl
theorem zero_or_mod (c : Bool) (x : Int) : M.isWord (if c then x % 65536 else 0) = true := by split; exact isWord_mod x; rfl
theorem addW_word (a b : Int) : M.isWord (M.addW a b) = true := zero_or_mod _ _
theorem subW_word (a b : Int) : M.isWord (M.subW a b) = true := zero_or_mod _ _
theorem mulW_word (a b : Int) : M.isWord (M.mulW a b) = true := zero_or_mod _ _
theorem xorW_word {a b : Int} (ha : M.isWord a = true) (hb : M.isWord b = true) : M.isWord (bitXor .i64 a b) = true := by
 rw [isWord_iff] at *
 unfold bitXor
 have e1 : (BitVec.ofInt (IntKind.bits .i64) a ^^^ BitVec.ofInt (IntKind.bits .i64) b).toNat = a.toNat ^^^ b.toNat := by
  show (BitVec.ofInt 64 a ^^^ BitVec.ofInt 64 b).toNat = _
  rw [BitVec.toNat_xor, BitVec.toNat_ofInt, BitVec.toNat_ofInt, show ((2 ^ 64 : Nat) : Int) = 18446744073709551616 from rfl]
  congr 1 <;> omega
 have e2 : a.toNat ^^^ b.toNat < 2 ^ 16 := Nat.xor_lt_two_pow (by omega) (by omega)
 rw [e1, w64 (by omega) (by omega)]
 omega
theorem set_words {r : List Int} (h : r.all M.isWord = true) (k : Nat) {x : Int} (hx : M.isWord x = true) : (r.set k x).all M.isWord = true := by
 rw [List.all_eq_true] at *
 intro y hy
 rcases List.mem_or_eq_of_mem_set hy with h' | rfl
 ·exact h y h'
 ·exact hx
theorem apply_words {i : D.Ins} {n : Int} {t : Int} {r : List Int} (hok : M.insOk i n = true) (ht : 0 ≤ t ∧ t ≤ 23) (hl : r.length = 4) (h : r.all M.isWord = true) : (M.apply i t r).all M.isWord = true := by
 obtain ⟨_, hA, hB, hC⟩ := fits_regs (i := i) (r := r) ⟨hl, n, hok⟩
 have hw := List.all_eq_true.1 h
 have rdw : ∀ x, 0 ≤ x ∧ x ≤ 3 → M.isWord (rd r x) = true := fun x hx => hw _ (rd_of hx.1 (by omega))
 unfold M.apply
 split
 ·rename_i e
  refine set_words h _ ?_
  simp only [M.insOk, Bool.and_eq_true] at hok
  have hok := hok.2
  rw [if_neg (by omega), if_pos e] at hok
  simp only [Bool.and_eq_true] at hok
  exact hok.2.1
 split
 ·exact set_words h _ (rdw _ (hB (by omega)))
 split
 ·exact set_words h _ (addW_word _ _)
 split
 ·exact set_words h _ (subW_word _ _)
 split
 ·exact set_words h _ (mulW_word _ _)
 split
 ·exact set_words h _ (xorW_word (rdw _ (hB (by omega))) (rdw _ (hC (by omega))))
 split
 ·exact set_words h _ (lessW_word _ _)
 split
 ·exact set_words h _ (isWord_iff.2 (by omega))
 split
 ·split
  ·exact set_words h _ (rdw _ (hB (by omega)))
  ·exact h
 ·exact h
end Go.V
namespace Go.V
open IntKind (wrap)
theorem afterB_iff {p : List D.Ins} {k later : Int} (h : M.Node p k) : M.afterB p k later = true ↔ ¬ Rch p later [k] (p.length : Int) := by
 have hn : M.nodeIn p (p.length : Int) := ⟨by omega, by omega⟩
 have := reached_iff (wo := later) h.1 (fun x hx => by obtain rfl := List.mem_singleton.1 hx; exact h.2) hn
 unfold M.afterB
 rw [← this]
 cases rd (M.reached p [k] later) (p.length : Int) <;> simp
theorem firstS_mem {p : List D.Ins} {all : List Int} : ∀ (l : List Int), (∃ x ∈ l, all.all (M.afterB p x) = true) → M.firstS p all l ∈ l ∧ all.all (M.afterB p (M.firstS p all l)) = true
 | [], h => by obtain ⟨x, hx, _⟩ := h; cases hx
 | y :: l, h => by
  by_cases hy : all.all (M.afterB p y) = true
  ·simp only [M.firstS, hy, if_true]; exact ⟨List.mem_cons_self, trivial⟩
  ·have : ∃ x ∈ l, all.all (M.afterB p x) = true := by
     obtain ⟨x, hx, hg⟩ := h
     rcases List.mem_cons.1 hx with rfl | hx
     ·exact absurd hg hy
     ·exact ⟨x, hx, hg⟩
   have ih := firstS_mem l this
   simp only [M.firstS, hy]
   exact ⟨List.mem_cons_of_mem _ ih.1, ih.2⟩
theorem rch_via {p : List D.Ins} {y b : Int} {v : Int} (h : Rch p y [b] v) {x : Int} (hx : Rch p y [v] x) : Rch p y [b] x := by
 induction hx with
 | base hs hne => obtain rfl := List.mem_singleton.1 hs; exact h
 | step _ hs hne ih => exact .step ih hs hne
theorem first_in {p : List D.Ins} {b : Int} (hb : M.Node p b) (hbn : b ≠ (p.length : Int)) (he : M.exitB p b = true) : M.firstAfter p b ∈ M.others (M.aftersOf p b) b := by
 have hn : M.nodeIn p (p.length : Int) := ⟨by omega, by omega⟩
 have hR := (reached_iff hb.1 (fun x hx => by obtain rfl := List.mem_singleton.1 hx; exact hb.2) hn).1 he
 have hmem : ∀ x, M.nodeIn p x → x ≠ b → M.afterB p b x = true → x ∈ M.others (M.aftersOf p b) b := by
  intro x hx hxb ha
  unfold M.others M.aftersOf
  rw [if_pos (by simp only [Bool.and_eq_true]; exact ⟨isNode_iff.2 hb, he⟩)]
  refine List.mem_filter.2 ⟨mem_idx.2 ⟨x.toNat, by unfold M.nodeIn at hx; omega, by unfold M.nodeIn at hx; omega, ha⟩, by simpa using hxb⟩
 refine (firstS_mem _ ?_).1
 have good : ∀ x ∈ M.others (M.aftersOf p b) b, ∀ v, (∀ y ∈ M.others (M.aftersOf p b) b, Rch p y [b] v) → x ∈ M.nextOf p v → (M.others (M.aftersOf p b) b).all (M.afterB p x) = true := by
  intro x hx v hv hvx
  rw [List.all_eq_true]
  intro y hy
  obtain ⟨hxN, _, _, _⟩ := afters_nodes hx
  obtain ⟨hyN, _, _, hya⟩ := afters_nodes hy
  rw [afterB_iff hxN]
  intro hr
  refine (afterB_iff hb).1 hya ?_
  have hxy : x ≠ y := by
   rintro rfl
   have : ∀ z, Rch p x [x] z → False := fun z hz => by
    induction hz with
    | base hs hne => exact hne (List.mem_singleton.1 hs)
    | step _ _ _ ih => exact ih
   exact this _ hr
  exact rch_via (.step (hv y hy) hvx hxy) hr
 have hbL : ∀ y ∈ M.others (M.aftersOf p b) b, b ≠ y := fun y hy e => by
  have := (List.mem_filter.1 hy).2
  simp [e] at this
 have key : ∀ v, Rch p (-1) [b] v → (∃ x ∈ M.others (M.aftersOf p b) b, (M.others (M.aftersOf p b) b).all (M.afterB p x) = true) ∨ (v ∉ M.others (M.aftersOf p b) b ∧ ∀ y ∈ M.others (M.aftersOf p b) b, Rch p y [b] v) := by
  intro v hv
  induction hv with
  | base hs hne =>
   obtain rfl := List.mem_singleton.1 hs
   exact .inr ⟨fun h => hbL _ h rfl, fun y hy => .base (List.mem_singleton.2 rfl) (hbL y hy)⟩
  | @step k s _ hs hne ih =>
   rcases ih with ih | ⟨_, ih⟩
   ·exact .inl ih
   ·by_cases hsL : s ∈ M.others (M.aftersOf p b) b
    ·exact .inl ⟨s, hsL, good s hsL k ih hs⟩
    ·exact .inr ⟨hsL, fun y hy => .step (ih y hy) hs (fun e => hsL (e ▸ hy))⟩
 rcases key _ hR with h | ⟨h, _⟩
 ·exact h
 ·refine absurd (hmem _ hn (Ne.symm hbn) ((afterB_iff hb).2 fun hr => ?_)) h
  have : ∀ z, Rch p (p.length : Int) [b] z → z ≠ (p.length : Int) := fun z hz => by
   cases hz with
   | base _ hne => exact hne
   | step _ _ hne => exact hne
  exact this _ hr rfl
theorem join_in {p : List D.Ins} {b : Int} (h : M.Branch p b) : M.nodeIn p (M.joinB p b) := by
 obtain ⟨h1, h2, hb, _⟩ := br_in h
 have hn : M.nodeIn p (p.length : Int) := ⟨by omega, by omega⟩
 unfold M.joinB
 split
 ·rename_i e
  simp only [Bool.and_eq_true] at e
  have hx1 := (reached_iff hb.1 (fun x hx => by obtain rfl := List.mem_singleton.1 hx; exact h1.2) hn).1 e.1
  have hbr := h.2.2.2
  simp only [M.isBr, Bool.and_eq_true, beq_iff_eq, bne_iff_ne] at hbr
  have hnx : b + 1 ∈ M.nextOf p b := by
   unfold M.nextOf
   have := h.2.2.1
   rw [if_neg (by omega), if_neg (by omega), if_neg (by omega), if_pos hbr.1]
   exact putTwo_mem.2 (.inl rfl)
  have he : M.exitB p b = true := by
   refine (reached_iff hb.1 (fun x hx => by obtain rfl := List.mem_singleton.1 hx; exact hb.2) hn).2 ?_
   have hb0 := h.2.1
   exact rch_via (b := b) (y := -1) (.step (.base (List.mem_singleton.2 rfl) (by omega)) hnx (by omega)) hx1
  exact (afters_nodes (first_in hb (by have := h.2.2.1; omega) he)).1.2
 ·exact hn
theorem sub_check : ((List.range 256).all fun m => (List.range 256).all fun z => !(m &&& z == z) || (m &&& (2 ^ 64 - 1 - z) == m - z)) = true := by kernel_rfl
theorem lane_check : ((List.range 256).all fun m => (List.range 8).all fun l => !(M.hasLane ((m : Nat) : Int) ((l : Nat) : Int)) || (m &&& 2 ^ l == 2 ^ l)) = true := by kernel_rfl
theorem bit_check : ((List.range 8).all fun l => M.bitAt ((l : Nat) : Int) == ((2 ^ l : Nat) : Int)) = true := by kernel_rfl
theorem bitOr_nat {a b : Nat} (ha : a < 256) (hb : b < 256) : bitOr .i64 ((a : Nat) : Int) ((b : Nat) : Int) = ((a ||| b : Nat) : Int) := by
 have hlt : a ||| b < 256 := Nat.or_lt_two_pow (n := 8) ha hb
 have e : (BitVec.ofInt (IntKind.bits .i64) ((a : Nat) : Int) ||| BitVec.ofInt (IntKind.bits .i64) ((b : Nat) : Int)).toNat = a ||| b := by
  show (BitVec.ofInt 64 ((a : Nat) : Int) ||| BitVec.ofInt 64 ((b : Nat) : Int)).toNat = a ||| b
  rw [BitVec.ofInt_natCast, BitVec.ofInt_natCast, BitVec.toNat_or, BitVec.toNat_ofNat, BitVec.toNat_ofNat, Nat.mod_eq_of_lt (by omega), Nat.mod_eq_of_lt (by omega)]
 unfold bitOr
 rw [e]
 exact w64 (by omega) (by omega)
theorem bitNot_nat {a b : Nat} (ha : a < 256) (hb : b < 256) (hs : a &&& b = b) : bitNot .i64 ((a : Nat) : Int) ((b : Nat) : Int) = ((a - b : Nat) : Int) := by
 have hc := List.all_eq_true.1 (List.all_eq_true.1 sub_check a (List.mem_range.2 ha)) b (List.mem_range.2 hb)
 simp only [hs, BEq.rfl, Bool.not_true, Bool.false_or, beq_iff_eq] at hc
 have e : (BitVec.ofInt (IntKind.bits .i64) ((a : Nat) : Int) &&& ~~~(BitVec.ofInt (IntKind.bits .i64) ((b : Nat) : Int))).toNat = a - b := by
  show (BitVec.ofInt 64 ((a : Nat) : Int) &&& ~~~(BitVec.ofInt 64 ((b : Nat) : Int))).toNat = a - b
  rw [BitVec.ofInt_natCast, BitVec.ofInt_natCast, BitVec.toNat_and, BitVec.toNat_not, BitVec.toNat_ofNat, BitVec.toNat_ofNat, Nat.mod_eq_of_lt (by omega), Nat.mod_eq_of_lt (by omega)]
  exact hc
 unfold bitNot
 rw [e]
 exact w64 (by omega) (by omega)
theorem isMask_nat {m : Int} (h : M.isMask m = true) : ∃ k : Nat, m = (k : Int) ∧ k < 256 := by
 simp only [M.isMask, M.isIn, Bool.and_eq_true, decide_eq_true_eq] at h
 exact ⟨m.toNat, by omega, by omega⟩
theorem zero_fold {x : D.Warp} {reg : Int} {m : Nat} (hm : m < 256) : ∀ (l : List Int), (∀ k ∈ l, k ∈ M.lanesOf (m : Int)) → ∀ z : Nat, z < 256 → m &&& z = z → ∃ z' : Nat, l.foldl (M.zeroStep x reg) (z : Int) = (z' : Int) ∧ z' < 256 ∧ m &&& z' = z'
 | [], _, z, hz, hs => ⟨z, rfl, hz, hs⟩
 | k :: l, hl, z, hz, hs => by
  have hk := hl k List.mem_cons_self
  have hrest := fun j hj => hl j (List.mem_cons_of_mem _ hj)
  simp only [List.foldl_cons]
  by_cases e : rd x.Regs (k * 4 + reg) = 0
  ·obtain ⟨h0, h7⟩ := lanes_in hk
   have hkn : ((k.toNat : Nat) : Int) = k := by omega
   have hh : M.hasLane (m : Int) k = true := (List.mem_filter.1 hk).2
   have hc := List.all_eq_true.1 (List.all_eq_true.1 lane_check m (List.mem_range.2 hm)) k.toNat (List.mem_range.2 (by omega))
   rw [hkn, hh] at hc
   simp only [Bool.not_true, Bool.false_or, beq_iff_eq] at hc
   have hb := List.all_eq_true.1 bit_check k.toNat (List.mem_range.2 (by omega))
   rw [hkn] at hb
   have hb := eq_of_beq hb
   have hp : 2 ^ k.toNat < 256 := Nat.lt_of_lt_of_le (Nat.pow_lt_pow_right (by omega) (show k.toNat < 8 by omega)) (Nat.le_refl _)
   have hst : M.zeroStep x reg (z : Int) k = ((z ||| 2 ^ k.toNat : Nat) : Int) := by
    unfold M.zeroStep
    rw [if_pos e, hb, bitOr_nat hz hp]
   rw [hst]
   exact zero_fold hm l hrest _ (Nat.or_lt_two_pow (n := 8) hz hp) (by rw [Nat.and_or_distrib_left, hs, hc])
  ·have hst : M.zeroStep x reg (z : Int) k = (z : Int) := by unfold M.zeroStep; rw [if_neg e]
   rw [hst]
   exact zero_fold hm l hrest z hz hs
theorem zeroMask_sub {x : D.Warp} {reg : Int} (h : M.isMask (M.activeMask x) = true) : ∃ m z : Nat, M.activeMask x = (m : Int) ∧ M.zeroMask x reg = (z : Int) ∧ m < 256 ∧ z < 256 ∧ m &&& z = z := by
 obtain ⟨m, hm, hlt⟩ := isMask_nat h
 obtain ⟨z, hz, hzl, hs⟩ := zero_fold (x := x) (reg := reg) hlt (M.lanesOf (m : Int)) (fun _ hk => hk) 0 (by omega) (by simp)
 refine ⟨m, z, hm, ?_, hlt, hzl, hs⟩
 unfold M.zeroMask
 rw [hm]
 exact hz
theorem mask_part {x : D.Warp} {reg : Int} (h : M.isMask (M.activeMask x) = true) :
    M.isMask (M.zeroMask x reg) = true ∧ bitNot .i64 (M.activeMask x) (M.zeroMask x reg) = M.activeMask x - M.zeroMask x reg ∧ M.isMask (M.activeMask x - M.zeroMask x reg) = true := by
 obtain ⟨m, z, hm, hz, h1, h2, hs⟩ := zeroMask_sub (reg := reg) h
 have hle : z ≤ m := by rw [← hs]; exact Nat.and_le_left
 rw [hm, hz, bitNot_nat h1 h2 hs]
 refine ⟨?_, by omega, ?_⟩ <;> (simp only [M.isMask, M.isIn, Bool.and_eq_true, decide_eq_true_eq]; omega)
end Go.V
namespace Go.V
open IntKind (wrap)
theorem rd_take {α : Type} [Inhabited α] {l : List α} {k m : Nat} (h : k < m) : rd (l.take m) (k : Int) = rd l (k : Int) := by
 unfold rd
 rw [List.getD_eq_getElem?_getD, List.getD_eq_getElem?_getD, List.getElem?_take, if_pos (by simpa using h)]
theorem take_take' {α : Type} {l : List α} {k m : Nat} (h : k ≤ m) : (l.take m).take k = l.take k := by rw [List.take_take, Nat.min_eq_left h]
theorem wp.impl_Warp_drop.math (x : D.Warp) (n : Int) (h : M.impl_Warp_drop_pre x n) : wp.impl_Warp_drop x n (fun r => r = M.impl_Warp_drop x n) := by
 unfold wp.impl_Warp_drop
 have hL : x.Frames.length ≤ 9223372036854775807 := h
 refine loop_n x.Frames.length (fun j => (x.Number, x.Frames.take (x.Frames.length - j), ())) (fun j => M.dropF x.Frames n = M.dropN x.Frames n (x.Frames.length - j)) (by simp) (by simp [M.dropF]) (fun j hj hF next hn => ?_) (fun hF next => ?_)
 ·obtain ⟨m, hm⟩ : ∃ m, x.Frames.length - j = m + 1 := ⟨x.Frames.length - j - 1, by omega⟩
  have hm1 : x.Frames.length - (j + 1) = m := by omega
  rw [hm1] at hn
  rw [hm] at hF
  dsimp only
  rw [hm]
  have hl : (x.Frames.take (m + 1)).length = m + 1 := by rw [List.length_take]; omega
  rw [hl, last_wrap (by omega), show (((m + 1 : Nat) : Int) - 1) = (m : Int) by omega, rd_take (Nat.lt_succ_self m), take_take' (by omega)]
  refine bcase_t (by simp) ⟨by omega, ?_⟩
  show bcase _ (bcase _ _ _) _
  have go : ¬ ((rd x.Frames (m : Int)).Pc ≠ (rd x.Frames (m : Int)).Stop ∧ (rd x.Frames (m : Int)).Pc ≠ n) → next (x.Number, x.Frames.take m, ()) := fun hc => hn (by rw [hF]; simp only [M.dropN]; rw [if_neg hc])
  refine bcase_mk (fun e1 => bcase_mk (fun e2 => ?_) fun e2 => ?_) fun e1 => ?_
  ·simp only [M.dropN] at hF
   rw [if_pos ⟨by simpa using e1, by simpa using e2⟩] at hF
   show _ = M.dropW x n
   unfold M.dropW
   rw [hF]
  ·have := go (fun hc => hc.2 (by simpa using e2))
   exact ⟨by omega, this⟩
  ·have := go (fun hc => hc.1 (by simpa using e1))
   exact ⟨by omega, this⟩
 ·rw [Nat.sub_self] at hF
  dsimp only
  rw [Nat.sub_self, List.take_zero]
  refine bcase_f (by simp) ?_
  show _ = M.dropW x n
  unfold M.dropW
  rw [hF]; rfl
theorem wp.spec_DropFrames.math (p : List D.Ins) (x : D.Warp) (h : M.spec_DropFrames_pre p x) : wp.spec_DropFrames p x (fun r => r = M.spec_DropFrames p x) := by
 unfold wp.spec_DropFrames
 have hL : x.Frames.length ≤ 17179869184 := h.1
 refine ⟨h, fun r hr => ?_⟩
 have hr : r = x := hr
 subst hr
 rw [last_wrap (by omega)]
 refine loop_n r.Frames.length (fun j => ((r.Frames.length : Int) - 1 - (j : Int), r.Number, r.Frames.take (r.Frames.length - j), ())) (fun j => M.dropF r.Frames p.length = M.dropN r.Frames p.length (r.Frames.length - j)) (by simp) (by simp [M.dropF]) (fun j hj hF next hn => ?_) (fun hF next => ?_)
 ·obtain ⟨m, hm⟩ : ∃ m, r.Frames.length - j = m + 1 := ⟨r.Frames.length - j - 1, by omega⟩
  have hm1 : r.Frames.length - (j + 1) = m := by omega
  rw [hm1] at hn
  rw [hm] at hF
  dsimp only
  rw [hm, show ((r.Frames.length : Int) - 1 - (j : Int)) = (m : Int) by omega]
  rw [show ((r.Frames.length : Int) - 1 - ((j + 1 : Nat) : Int)) = wrap .i64 ((m : Int) - 1) by rw [w64 (by omega) (by omega)]; omega] at hn
  have hl : (r.Frames.take (m + 1)).length = m + 1 := by rw [List.length_take]; omega
  rw [hl, rd_take (Nat.lt_succ_self m), Int.toNat_natCast, take_take' (by omega)]
  have go : ¬ ((rd r.Frames (m : Int)).Pc ≠ (rd r.Frames (m : Int)).Stop ∧ (rd r.Frames (m : Int)).Pc ≠ (p.length : Int)) → next (wrap .i64 ((m : Int) - 1), r.Number, r.Frames.take m, ()) := fun hc => hn (by rw [hF]; simp only [M.dropN]; rw [if_neg hc])
  refine bcase_t (by simp) ⟨by omega, ?_⟩
  refine bcase_mk (fun e1 => bcase_mk (fun e2 => ?_) fun e2 => ?_) fun e1 => ?_
  ·simp only [M.dropN] at hF
   rw [if_pos ⟨by simpa using e1, by simpa using e2⟩] at hF
   show _ = M.dropW r p.length
   unfold M.dropW
   rw [hF]
  ·exact ⟨by omega, go (fun hc => hc.2 (by simpa using e2))⟩
  ·exact ⟨by omega, go (fun hc => hc.1 (by simpa using e1))⟩
 ·rw [Nat.sub_self] at hF
  dsimp only
  rw [Nat.sub_self, List.take_zero]
  refine bcase_f (by simp; omega) ?_
  show _ = M.dropW r p.length
  unfold M.dropW
  rw [hF]; rfl
theorem set_cut {α : Type} {xs : List α} {lo hi k : Nat} {y : α} (h1 : lo ≤ hi) (h2 : hi ≤ xs.length) (hk : k < hi - lo) : xs.set (lo + k) y = xs.take lo ++ ((xs.take hi).drop lo).set k y ++ xs.drop hi := by
 apply List.ext_getElem?
 intro i
 have hl : (((xs.take hi).drop lo).set k y).length = hi - lo := by simp; omega
 rw [List.getElem?_append, List.length_append, hl, List.length_take, Nat.min_eq_left (by omega), List.getElem?_append, List.length_take, Nat.min_eq_left (by omega)]
 by_cases hi1 : i < lo
 ·rw [if_pos (by omega), if_pos hi1, List.getElem?_set_ne (by omega), List.getElem?_take, if_pos hi1]
 ·by_cases hi2 : i < hi
  ·rw [if_pos (by omega), if_neg hi1]
   by_cases e : lo + k = i
   ·subst e
    rw [List.getElem?_set_self (by omega), show lo + k - lo = k by omega, List.getElem?_set_self (by simp; omega)]
   ·rw [List.getElem?_set_ne e, List.getElem?_set_ne (by omega), List.getElem?_drop, List.getElem?_take, if_pos (by omega)]
    congr 1; omega
  ·rw [if_neg (by omega), List.getElem?_set_ne (by omega), List.getElem?_drop]
   congr 1; omega
theorem cut_self {α : Type} {xs : List α} {lo hi : Nat} (h1 : lo ≤ hi) (h2 : hi ≤ xs.length) : xs.take lo ++ (xs.take hi).drop lo ++ xs.drop hi = xs := by
 apply List.ext_getElem?
 intro i
 have hl : ((xs.take hi).drop lo).length = hi - lo := by simp; omega
 rw [List.getElem?_append, List.length_append, hl, List.length_take, Nat.min_eq_left (by omega), List.getElem?_append, List.length_take, Nat.min_eq_left (by omega)]
 by_cases hi1 : i < lo
 ·rw [if_pos (by omega), if_pos hi1, List.getElem?_take, if_pos hi1]
 ·by_cases hi2 : i < hi
  ·rw [if_pos (by omega), if_neg hi1, List.getElem?_drop, List.getElem?_take, if_pos (by omega)]
   congr 1; omega
  ·rw [if_neg (by omega), List.getElem?_drop]
   congr 1; omega
theorem wp.impl_apply_v.math (i : D.Ins) (t : Int) (xs : List Int) (lo hi : Nat) (h : M.impl_apply_v_pre i t xs lo hi) : wp.impl_apply_v i t xs lo hi (fun x => x = M.impl_apply_v i t xs lo hi) := by
 obtain ⟨hf, h1, h2⟩ := h
 obtain ⟨hl, hA, hB, hC⟩ := fits_regs hf
 have hl4 : hi - lo = 4 := by rw [← hl]; simp; omega
 have st : ∀ y, (0 ≤ i.A ∧ i.A ≤ 3) → xs.set (lo + i.A.toNat) y = xs.take lo ++ ((xs.take hi).drop lo).set i.A.toNat y ++ xs.drop hi := fun y ha => set_cut h1 h2 (by omega)
 have sf := cut_self h1 h2
 generalize hr : (xs.take hi).drop lo = r at *
 unfold wp.impl_apply_v
 simp only [hr, forall_eq]
 refine bcase_mk (fun e => ?_) fun n1 => bcase_mk (fun e => ?_) fun n2 => bcase_mk (fun e => ?_) fun n3 => bcase_mk (fun e => ?_) fun n4 => bcase_mk (fun e => ?_) fun n5 => bcase_mk (fun e => ?_) fun n6 => bcase_mk (fun e => ?_) fun n7 => bcase_mk (fun e => ?_) fun n8 => bcase_mk (fun e => ?_) fun n9 => ?_
 ·have hk : i.Op = 1 := by simpa using e
  exact ⟨rd_reg hl (hA (by omega)), by rw [st _ (hA (by omega))]; simp [M.impl_apply_v, M.apply, hk, hr]⟩
 ·have hk : i.Op = 2 := by simpa using e
  exact ⟨rd_reg hl (hB (by omega)), rd_reg hl (hA (by omega)), by rw [st _ (hA (by omega))]; simp [M.impl_apply_v, M.apply, hk, hr]⟩
 ·have hk : i.Op = 3 := by simpa using e
  exact ⟨rd_reg hl (hB (by omega)), rd_reg hl (hC (by omega)), rd_reg hl (hA (by omega)), by rw [st _ (hA (by omega))]; simp [M.impl_apply_v, M.apply, hk, hr, M.spec_AddWords, M.impl_AddWords]⟩
 ·have hk : i.Op = 4 := by simpa using e
  exact ⟨rd_reg hl (hB (by omega)), rd_reg hl (hC (by omega)), rd_reg hl (hA (by omega)), by rw [st _ (hA (by omega))]; simp [M.impl_apply_v, M.apply, hk, hr, M.spec_SubWords, M.impl_SubWords]⟩
 ·have hk : i.Op = 5 := by simpa using e
  exact ⟨rd_reg hl (hB (by omega)), rd_reg hl (hC (by omega)), rd_reg hl (hA (by omega)), by rw [st _ (hA (by omega))]; simp [M.impl_apply_v, M.apply, hk, hr, M.spec_MulWords, M.impl_MulWords]⟩
 ·have hk : i.Op = 6 := by simpa using e
  exact ⟨rd_reg hl (hB (by omega)), rd_reg hl (hC (by omega)), rd_reg hl (hA (by omega)), by rw [st _ (hA (by omega))]; simp [M.impl_apply_v, M.apply, hk, hr]⟩
 ·have hk : i.Op = 7 := by simpa using e
  exact ⟨rd_reg hl (hB (by omega)), rd_reg hl (hC (by omega)), rd_reg hl (hA (by omega)), by rw [st _ (hA (by omega))]; simp [M.impl_apply_v, M.apply, hk, hr, M.spec_LessWords, M.impl_LessWords]⟩
 ·have hk : i.Op = 8 := by simpa using e
  exact ⟨rd_reg hl (hA (by omega)), by rw [st _ (hA (by omega))]; simp [M.impl_apply_v, M.apply, hk, hr]⟩
 ·have hk : i.Op = 9 := by simpa using e
  refine ⟨rd_reg hl (hC (by omega)), bcase_mk (fun e2 => ⟨rd_reg hl (hB (by omega)), rd_reg hl (hA (by omega)), ?_⟩) fun e2 => ?_⟩
  ·have h2 : ¬ rd r i.C = 0 := by simpa using e2
   rw [st _ (hA (by omega))]
   simp [M.impl_apply_v, M.apply, hk, h2, hr]
  ·have h2 : rd r i.C = 0 := by simpa using e2
   simp only [M.impl_apply_v, M.apply, hk, h2, hr]
   simpa using sf.symm
 ·simp at n1 n2 n3 n4 n5 n6 n7 n8 n9
  simp only [M.impl_apply_v, M.apply, n1, n2, n3, n4, n5, n6, n7, n8, n9, hr, if_false]
  exact sf.symm
end Go.V
namespace Go.V
open IntKind (wrap)
theorem laneCut_len {r : List Int} {l : Nat} (h : r.length = 32) (hl : l < 8) : (M.laneCut r l).length = 4 := by unfold M.laneCut; simp; omega
theorem putLane_len {r x : List Int} {l : Nat} (h : r.length = 32) (hl : l < 8) (hx : x.length = 4) : (M.putLane r l x).length = 32 := by unfold M.putLane; simp; omega
theorem putLane_get {r x : List Int} {l : Nat} (h : r.length = 32) (hl : l < 8) (hx : x.length = 4) (i : Nat) : (M.putLane r l x)[i]? = if l * 4 ≤ i ∧ i < l * 4 + 4 then x[i - l * 4]? else r[i]? := by
 unfold M.putLane
 rw [List.getElem?_append, List.length_append, List.length_take, Nat.min_eq_left (by omega), hx, List.getElem?_append, List.length_take, Nat.min_eq_left (by omega)]
 by_cases h1 : i < l * 4
 ·rw [if_pos (by omega), if_pos h1, if_neg (by omega), List.getElem?_take, if_pos h1]
 ·by_cases h2 : i < l * 4 + 4
  ·rw [if_pos h2, if_neg h1, if_pos (by omega)]
  ·rw [if_neg h2, if_neg (by omega), List.getElem?_drop]
   congr 1; omega
theorem laneCut_get (r : List Int) (l i : Nat) : (M.laneCut r l)[i]? = if i < 4 then r[l * 4 + i]? else none := by
 unfold M.laneCut
 rw [List.getElem?_drop, List.getElem?_take]
 by_cases h : i < 4
 ·rw [if_pos h, if_pos (by omega)]
 ·rw [if_neg h, if_neg (by omega)]
theorem cut_put_other {r x : List Int} {l j : Nat} (h : r.length = 32) (hl : l < 8) (hx : x.length = 4) (hne : j ≠ l) : M.laneCut (M.putLane r l x) j = M.laneCut r j := by
 apply List.ext_getElem?
 intro i
 rw [laneCut_get, laneCut_get]
 by_cases hi : i < 4
 ·rw [if_pos hi, if_pos hi, putLane_get h hl hx, if_neg (by omega)]
 ·rw [if_neg hi, if_neg hi]
theorem put_self {r : List Int} {l : Nat} (h : r.length = 32) (hl : l < 8) : M.putLane r l (M.laneCut r l) = r := by
 apply List.ext_getElem?
 intro i
 rw [putLane_get h hl (laneCut_len h hl)]
 by_cases hi : l * 4 ≤ i ∧ i < l * 4 + 4
 ·rw [if_pos hi, laneCut_get, if_pos (by omega)]
  congr 1; omega
 ·rw [if_neg hi]
theorem applyTo_len {i : D.Ins} {num m : Int} {r : List Int} (h : r.length = 32) : ∀ k, k ≤ 8 → (M.applyTo i num m r k).length = 32
 | 0, _ => h
 | k + 1, hk => by
  have ih := applyTo_len (i := i) (num := num) (m := m) h k (by omega)
  simp only [M.applyTo]
  split
  ·exact putLane_len ih (by omega) (by rw [apply_len, laneCut_len h (by omega)])
  ·exact ih
theorem applyTo_cut {i : D.Ins} {num m : Int} {r : List Int} (h : r.length = 32) : ∀ k, k ≤ 8 → ∀ j, k ≤ j → M.laneCut (M.applyTo i num m r k) j = M.laneCut r j
 | 0, _, _, _ => rfl
 | k + 1, hk, j, hj => by
  have ih := applyTo_cut (i := i) (num := num) (m := m) h k (by omega) j (by omega)
  simp only [M.applyTo]
  split
  ·rw [cut_put_other (applyTo_len h k (by omega)) (by omega) (by rw [apply_len, laneCut_len h (by omega)]) (by omega), ih]
  ·exact ih
def stepL (i : D.Ins) (num : Int) (acc : List Int) (l : Int) : List Int := M.impl_apply_v i (num * 8 + l) acc (l * 4).toNat (l * 4 + 4).toNat
theorem stepL_put (i : D.Ins) (num : Int) (acc : List Int) (k : Nat) : stepL i num acc (k : Int) = M.putLane acc k (M.apply i (num * 8 + (k : Int)) (M.laneCut acc k)) := by
 unfold stepL M.impl_apply_v M.putLane M.laneCut
 rw [show ((k : Int) * 4).toNat = k * 4 by omega, show ((k : Int) * 4 + 4).toNat = k * 4 + 4 by omega]
theorem applyAll_fold {i : D.Ins} {num m : Int} {r : List Int} (h : r.length = 32) : M.applyAll i num m r = (M.lanesOf m).foldl (stepL i num) r := by
 have key : ∀ k, k ≤ 8 → (List.range k).foldl (fun acc (j : Nat) => if M.hasLane m (j : Int) = true then stepL i num acc (j : Int) else acc) r = M.applyTo i num m r k := by
  intro k
  induction k with
  | zero => intro _; rfl
  | succ k ih =>
   intro hk
   rw [List.range_succ, List.foldl_append, ih (by omega)]
   simp only [List.foldl_cons, List.foldl_nil, M.applyTo]
   rw [stepL_put, applyTo_cut h k (by omega) k (Nat.le_refl _)]
 unfold M.applyAll
 rw [← key 8 (Nat.le_refl _)]
 unfold M.lanesOf
 rw [List.foldl_filter]
 rfl
theorem fold_len {i : D.Ins} {num : Int} : ∀ (l : List Int) (r : List Int), r.length = 32 → (∀ k ∈ l, 0 ≤ k ∧ k ≤ 7) → (l.foldl (stepL i num) r).length = 32
 | [], r, h, _ => h
 | k :: l, r, h, hl => by
  simp only [List.foldl_cons]
  obtain ⟨h0, h7⟩ := hl k List.mem_cons_self
  refine fold_len l _ ?_ fun j hj => hl j (List.mem_cons_of_mem _ hj)
  rw [show k = ((k.toNat : Nat) : Int) by omega, stepL_put]
  exact putLane_len h (by omega) (by rw [apply_len, laneCut_len h (by omega)])
theorem applyAll_len {i : D.Ins} {num m : Int} {r : List Int} (h : r.length = 32) : (M.applyAll i num m r).length = 32 := applyTo_len h 8 (Nat.le_refl _)
theorem applyAll_branch {i : D.Ins} {num m : Int} {r : List Int} (h : r.length = 32) (e : i.Op = 10) : M.applyAll i num m r = r := by
 have ha : ∀ t (q : List Int), M.apply i t q = q := fun t q => by simp [M.apply, e]
 have : ∀ k, k ≤ 8 → M.applyTo i num m r k = r := by
  intro k
  induction k with
  | zero => intro _; rfl
  | succ k ih =>
   intro hk
   simp only [M.applyTo, ih (by omega), ha, put_self h (show k < 8 by omega), ite_self]
 exact this 8 (Nat.le_refl _)
theorem words_put {r x : List Int} {l : Nat} (h : r.all M.isWord = true) (hx : x.all M.isWord = true) : (M.putLane r l x).all M.isWord = true := by
 rw [List.all_eq_true] at h hx ⊢
 intro y hy
 unfold M.putLane at hy
 rcases List.mem_append.1 hy with hy | hy
 ·rcases List.mem_append.1 hy with hy | hy
  ·exact h y (List.mem_of_mem_take hy)
  ·exact hx y hy
 ·exact h y (List.mem_of_mem_drop hy)
theorem words_cut {r : List Int} {l : Nat} (h : r.all M.isWord = true) : (M.laneCut r l).all M.isWord = true := by
 rw [List.all_eq_true] at h ⊢
 intro y hy
 exact h y (List.mem_of_mem_take (List.mem_of_mem_drop hy))
theorem applyTo_words {i : D.Ins} {n num m : Int} {r : List Int} (hok : M.insOk i n = true) (hn : 0 ≤ num ∧ num ≤ 2) (hl : r.length = 32) (h : r.all M.isWord = true) : ∀ k, k ≤ 8 → (M.applyTo i num m r k).all M.isWord = true
 | 0, _ => h
 | k + 1, hk => by
  have ih := applyTo_words (m := m) hok hn hl h k (by omega)
  simp only [M.applyTo]
  split
  ·exact words_put ih (apply_words hok (by omega) (laneCut_len hl (by omega)) (words_cut h))
  ·exact ih
theorem lastF_set {fs : List D.Frame} (h : fs ≠ []) (pc : Int) : M.lastF (M.setTop fs pc) = ⟨pc, (M.lastF fs).Stop, (M.lastF fs).Mask⟩ := by
 have hpos : 0 < fs.length := List.length_pos_iff.2 h
 have e : ((fs.length : Int) - 1) = ((fs.length - 1 : Nat) : Int) := by omega
 unfold M.lastF M.setTop
 rw [List.length_set, e, rd_nat (by rw [List.length_set]; omega), List.getElem_set_self]
 unfold M.lastF
 rw [e]
theorem mem_lastF {fs : List D.Frame} (h : fs ≠ []) : M.lastF fs ∈ fs := by
 have hpos : 0 < fs.length := List.length_pos_iff.2 h
 exact rd_of (by omega) (by omega)
theorem setTop_all {fs : List D.Frame} {n pc : Int} (h : fs.all (M.frameOk n) = true) (hx : fs ≠ []) (hp : 0 ≤ pc ∧ pc ≤ n) : (M.setTop fs pc).all (M.frameOk n) = true := by
 rw [List.all_eq_true] at h ⊢
 intro f hf
 rcases List.mem_or_eq_of_mem_set hf with hf | rfl
 ·exact h f hf
 ·have := h _ (mem_lastF hx)
  simp only [M.frameOk, M.isIn, Bool.and_eq_true, decide_eq_true_eq] at this ⊢
  exact ⟨hp, this.2⟩
theorem drop_spec (fs : List D.Frame) (n : Int) : ∀ k, k ≤ fs.length → M.dropN fs n k = [] ∨ ∃ j : Nat, 0 < j ∧ j ≤ k ∧ M.dropN fs n k = fs.take j ∧ (rd fs ((j - 1 : Nat) : Int)).Pc ≠ (rd fs ((j - 1 : Nat) : Int)).Stop ∧ (rd fs ((j - 1 : Nat) : Int)).Pc ≠ n
 | 0, _ => .inl rfl
 | k + 1, hk => by
  simp only [M.dropN]
  split
  ·rename_i e
   exact .inr ⟨k + 1, by omega, Nat.le_refl _, rfl, e⟩
  ·rcases drop_spec fs n k (by omega) with h | ⟨j, h0, h1, h2⟩
   ·exact .inl h
   ·exact .inr ⟨j, h0, by omega, h2⟩
theorem drop_fine {fs : List D.Frame} {n : Int} (hall : fs.all (M.frameOk n) = true) (hl : fs.length ≤ 24) (h0 : fs ≠ [] → (rd fs 0).Stop = n ∧ (rd fs 0).Mask = 255) : M.areFrames (M.dropF fs n) n = true := by
 unfold M.dropF
 rcases drop_spec fs n fs.length (Nat.le_refl _) with h | ⟨j, hj0, hj1, h2, h3, h4⟩
 ·rw [h]; rfl
 ·rw [h2]
  have hne : fs ≠ [] := by intro e; rw [e] at hj1; simp at hj1; omega
  have hlen : (fs.take j).length = j := by rw [List.length_take]; omega
  have hall' : (fs.take j).all (M.frameOk n) = true := by
   rw [List.all_eq_true] at hall ⊢
   exact fun f hf => hall f (List.mem_of_mem_take hf)
  have hlast : M.lastF (fs.take j) = rd fs ((j - 1 : Nat) : Int) := by
   unfold M.lastF
   rw [hlen, show ((j : Int) - 1) = ((j - 1 : Nat) : Int) by omega, rd_take (by omega)]
  have hz : rd (fs.take j) 0 = rd fs 0 := by
   have := rd_take (l := fs) (k := 0) (m := j) (by omega)
   exact this
  unfold M.areFrames
  rw [hall', Bool.true_and, Bool.or_eq_true]
  right
  unfold M.endsOk
  rw [hlast, hz, hlen]
  obtain ⟨k1, k2⟩ := h0 hne
  simp only [Bool.and_eq_true, decide_eq_true_eq, bne_iff_ne, beq_iff_eq]
  exact ⟨by omega, h3, h4, k1, k2⟩
theorem setTop_first {fs : List D.Frame} (h : fs ≠ []) (pc : Int) : (rd (M.setTop fs pc) 0).Stop = (rd fs 0).Stop ∧ (rd (M.setTop fs pc) 0).Mask = (rd fs 0).Mask := by
 have hpos : 0 < fs.length := List.length_pos_iff.2 h
 have z : (0 : Int) = ((0 : Nat) : Int) := rfl
 by_cases h1 : fs.length = 1
 ·have hl := lastF_set h pc
  have e1 : M.lastF (M.setTop fs pc) = rd (M.setTop fs pc) 0 := by unfold M.lastF M.setTop; rw [List.length_set, h1]; rfl
  have e2 : M.lastF fs = rd fs 0 := by unfold M.lastF; rw [h1]; rfl
  rw [← e1, hl, e2]; exact ⟨rfl, rfl⟩
 ·have e : rd (M.setTop fs pc) 0 = rd fs 0 := by
    unfold M.setTop rd
    rw [List.getD_eq_getElem?_getD, List.getD_eq_getElem?_getD, List.getElem?_set_ne (by simp; omega)]
  rw [e]; exact ⟨rfl, rfl⟩
theorem runs_frames {p : List D.Ins} {x : D.Warp} (h : M.Runs p x) : x.Frames.all (M.frameOk p.length) = true ∧ x.Frames.length ≤ 24 ∧ (rd x.Frames 0).Stop = p.length ∧ (rd x.Frames 0).Mask = 255 ∧ M.isMask (M.lastF x.Frames).Mask = true ∧ x.Regs.all M.isWord = true := by
 obtain ⟨hp, hw, hx⟩ := h
 simp only [M.warpOf, M.areFrames, Bool.and_eq_true, Bool.or_eq_true] at hw
 obtain ⟨h1, h2, h3, h4, h5⟩ := hw
 have h5 := h5.resolve_left (by simpa using hx)
 have hf := List.all_eq_true.1 h4 _ (mem_lastF hx)
 simp only [M.endsOk, M.frameOk, Bool.and_eq_true, decide_eq_true_eq, beq_iff_eq] at h5 hf
 exact ⟨h4, h5.1, h5.2.2.2.1, h5.2.2.2.2, hf.2.2.1, h3⟩
theorem split_branch {p : List D.Ins} {x : D.Warp} (h : M.Runs p x) (hs : M.isSplit p x) : M.Branch p (M.topPc x) := by
 obtain ⟨_, _, _, _, t5, t6, _⟩ := runs_top h
 refine ⟨h.1, t5, t6, ?_⟩
 unfold M.isBr
 simp only [Bool.and_eq_true, beq_iff_eq, bne_iff_ne]
 exact hs
theorem splits_iff {p : List D.Ins} {x : D.Warp} (h : M.splits p x = true) : M.isSplit p x ∧ M.zeroMask x (M.topIns p x).A ≠ 0 ∧ M.zeroMask x (M.topIns p x).A ≠ (M.lastF x.Frames).Mask := by
 simp only [M.splits, Bool.and_eq_true, beq_iff_eq, bne_iff_ne] at h
 exact ⟨h.1, h.2.1, h.2.2⟩
theorem turn_in {p : List D.Ins} {x : D.Warp} (h : M.Runs p x) : 0 ≤ M.turnPc p x ∧ M.turnPc p x ≤ (p.length : Int) := by
 obtain ⟨_, _, _, _, t5, t6, t7, _⟩ := runs_top h
 unfold M.turnPc
 split
 ·omega
 ·split
  ·exact target_in t7 (.inr (by assumption))
  ·split
   ·rename_i e; exact target_in t7 (.inl e.1)
   ·omega
theorem stepW_fine {p : List D.Ins} {x : D.Warp} (h : M.Goes p x) : M.Fine p (M.stepW p x) := by
 obtain ⟨hr, hl⟩ := h
 obtain ⟨t1, t2, t3, t4, t5, t6, t7, t8, t9⟩ := runs_top hr
 obtain ⟨f1, f2, f3, f4, f5, f6⟩ := runs_frames hr
 have hx := hr.2.2
 refine ⟨hr.1, ?_⟩
 have fin : ∀ (fs : List D.Frame) (rg : List Int), rg.length = 32 → rg.all M.isWord = true → fs.all (M.frameOk p.length) = true → fs.length ≤ 24 → (fs ≠ [] → (rd fs 0).Stop = p.length ∧ (rd fs 0).Mask = 255) → M.warpOf p (M.dropW ⟨x.Number, fs, rg⟩ p.length) = true := by
  intro fs rg g1 g2 g3 g4 g5
  simp only [M.warpOf, M.dropW, Bool.and_eq_true, beq_iff_eq]
  exact ⟨by simp only [M.isIn, Bool.and_eq_true, decide_eq_true_eq]; exact ⟨t8, t9⟩, g1, g2, drop_fine g3 g4 g5⟩
 have s0 := fun pc => setTop_first hx pc
 unfold M.stepW
 by_cases hs : M.splits p x = true
 ·rw [if_pos hs]
  obtain ⟨hsp, hz0, hzm⟩ := splits_iff hs
  have hb := split_branch hr hsp
  have hj := join_in hb
  have hact : M.activeMask x = (M.lastF x.Frames).Mask := activeMask_top hx
  obtain ⟨m1, m2, m3⟩ := mask_part (x := x) (reg := (M.topIns p x).A) (by rw [hact]; exact f5)
  rw [hact] at m2 m3
  have h22 : x.Frames.length ≤ 22 := by
   simp only [M.spec_l13Local, hs, Bool.and_eq_true, Bool.not_true, Bool.false_or, decide_eq_true_eq] at hl
   exact hl.2.2
  have hB := target_in t7 (.inl hsp.1)
  unfold M.separated
  refine fin _ _ t4 f6 ?_ ?_ fun _ => ?_
  ·rw [List.all_append, setTop_all f1 hx hj, Bool.true_and]
   simp only [List.all_cons, List.all_nil, Bool.and_true, M.frameOk, Bool.and_eq_true, M.isIn, decide_eq_true_eq, bne_iff_ne]
   unfold M.nodeIn at hj
   rw [m2]
   exact ⟨⟨by omega, hj, m3, by omega⟩, hB, hj, m1, hz0⟩
  ·simp only [List.length_append, M.setTop, List.length_set, List.length_cons, List.length_nil]; omega
  ·have e : rd (M.setTop x.Frames (M.joinB p (M.topPc x)) ++ [⟨M.topPc x + 1, M.joinB p (M.topPc x), bitNot .i64 (M.lastF x.Frames).Mask (M.zeroMask x (M.topIns p x).A)⟩, ⟨(M.topIns p x).B, M.joinB p (M.topPc x), M.zeroMask x (M.topIns p x).A⟩]) 0 = rd (M.setTop x.Frames (M.joinB p (M.topPc x))) 0 := by
     unfold rd
     rw [List.getD_eq_getElem?_getD, List.getD_eq_getElem?_getD, List.getElem?_append_left (by simp [M.setTop]; omega)]
   rw [e, (s0 _).1, (s0 _).2]
   exact ⟨f3, f4⟩
 ·rw [if_neg hs]
  unfold M.advance
  refine fin _ _ (applyAll_len t4) (applyTo_words t7 ⟨t8, t9⟩ t4 f6 8 (Nat.le_refl _)) (setTop_all f1 hx (turn_in hr)) (by simp only [M.setTop, List.length_set]; exact f2) fun _ => ?_
  rw [(s0 _).1, (s0 _).2]
  exact ⟨f3, f4⟩
end Go.V
namespace Go.V
open IntKind (wrap)
theorem fits_cut {i : D.Ins} {n : Int} {r : List Int} {k : Nat} (h : M.insOk i n = true) (hr : r.length = 32) (hk : k < 8) : M.Fits i (M.laneCut r k) := ⟨laneCut_len hr hk, n, h⟩
theorem wp.impl_Warp_advance.math (x : D.Warp) (p : List D.Ins) (h : M.impl_Warp_advance_pre x p) : wp.impl_Warp_advance x p (fun r => r = M.impl_Warp_advance x p) := by
 obtain ⟨t1, t2, t3, t4, t5, t6, t7, t8, t9⟩ := runs_top h
 have hx := h.2.2
 unfold wp.impl_Warp_advance
 rw [last_wrap (by omega)]
 refine ⟨by omega, ⟨t5, t6⟩, fun ls hls => ?_⟩
 have hls : ls = M.lanesOf (M.lastF x.Frames).Mask := hls
 have hmem : ∀ k ∈ ls, 0 ≤ k ∧ k ≤ 7 := fun k hk => lanes_in (m := (M.lastF x.Frames).Mask) (hls ▸ hk)
 have hlen : ls.length ≤ 8 := by rw [hls]; exact lanes_len _
 let G : Nat → List Int := fun k => (ls.take k).foldl (stepL (M.topIns p x) x.Number) x.Regs
 have hG : ∀ k, (G k).length = 32 := fun k => fold_len _ _ t4 fun j hj => hmem j (List.mem_of_mem_take hj)
 refine loop_n ls.length (fun k => ((k : Int), G k, ())) (fun _ => True) rfl trivial (fun k hk _ next hn => ?_) fun _ next => ?_
 ·have hn := hn trivial
  have hm := hmem _ (rd_mem hk)
  have hGk := hG k
  have hnext : G (k + 1) = stepL (M.topIns p x) x.Number (G k) (rd ls (k : Int)) := by
   simp only [G]
   rw [List.take_add_one, List.getElem?_eq_getElem hk, Option.toList_some, List.foldl_append, ← rd_nat hk]
   rfl
  rw [hnext] at hn
  dsimp only
  generalize rd ls (k : Int) = l at *
  generalize G k = g at *
  have a1 : wrap .i64 (l * 4) = l * 4 := w64 (by omega) (by omega)
  have a2 : wrap .i64 ((wrap .i64 (l + 1)) * 4) = l * 4 + 4 := by rw [w64 (x := l + 1) (by omega) (by omega), w64 (by omega) (by omega)]; omega
  have a3 : wrap .i64 ((wrap .i64 (x.Number * 8)) + l) = x.Number * 8 + l := by rw [w64 (x := x.Number * 8) (by omega) (by omega), w64 (by omega) (by omega)]
  rw [a1, a2, a3, up64 hk (by omega)]
  refine bcase_t (by simp; omega) ⟨by omega, ⟨hGk, hm⟩, ⟨?_, by omega, by omega⟩, fun r2 hr2 => ?_⟩
  ·have := fits_cut (k := l.toNat) t7 hGk (by omega)
   unfold M.laneCut at this
   rw [show l.toNat * 4 + 4 = (l * 4 + 4).toNat by omega, show l.toNat * 4 = (l * 4).toNat by omega] at this
   exact this
  ·rw [hr2]; exact hn
 ·have hall : G ls.length = M.applyAll (M.topIns p x) x.Number (M.lastF x.Frames).Mask x.Regs := by
    simp only [G]
    rw [List.take_length, applyAll_fold t4, hls]
  dsimp only
  rw [hall]
  refine bcase_f (by simp) ?_
  have e1 : ((x.Frames.length : Int) - 1).toNat = x.Frames.length - 1 := by omega
  have fin : ∀ pc, pc = M.turnPc p x → (⟨x.Number, x.Frames.set ((x.Frames.length : Int) - 1).toNat ⟨pc, (M.lastF x.Frames).Stop, (M.lastF x.Frames).Mask⟩, M.applyAll (M.topIns p x) x.Number (M.lastF x.Frames).Mask x.Regs⟩ : D.Warp) = M.impl_Warp_advance x p := by
   rintro _ rfl
   unfold M.impl_Warp_advance M.advance M.setTop
   rw [e1]
  show bcase ((M.topIns p x).Op == 12) _ (bcase ((M.topIns p x).Op == 11) (bcase true _ _) (bcase ((M.topIns p x).Op == 10) _ (bcase false _ _)))
  refine bcase_mk (fun c1 => fin _ ?_) fun c1 => bcase_mk (fun c2 => bcase_t rfl (fin _ ?_)) fun c2 => bcase_mk (fun c3 => ⟨?_, fun z hz => ?_⟩) fun c3 => bcase_f rfl (fin _ ?_)
  ·have c1 : (M.topIns p x).Op = 12 := by simpa using c1
   simp [M.turnPc, c1]
  ·have c2 : (M.topIns p x).Op = 11 := by simpa using c2
   simp only [M.turnPc, c2]
   rfl
  ·have c3 : (M.topIns p x).Op = 10 := by simpa using c3
   exact ⟨by show x.Frames.length ≤ 9223372036854775807; omega, applyAll_len t4, zero_reg t7 c3⟩
  ·have c3 : (M.topIns p x).Op = 10 := by simpa using c3
   have hz : z = M.zeroMask x (M.topIns p x).A := by
    rw [hz, applyAll_branch t4 c3]; rfl
   show bcase (z == (M.lastF x.Frames).Mask) _ _
   rw [hz]
   refine bcase_mk (fun c4 => fin _ ?_) fun c4 => fin _ ?_
   ·have c4 : M.zeroMask x (M.topIns p x).A = (M.lastF x.Frames).Mask := by simpa using c4
    unfold M.turnPc
    rw [if_neg (by omega), if_neg (by omega), if_pos ⟨c3, c4⟩]; rfl
   ·have c4 : ¬ M.zeroMask x (M.topIns p x).A = (M.lastF x.Frames).Mask := by simpa using c4
    unfold M.turnPc
    rw [if_neg (by omega), if_neg (by omega), if_neg (fun hc => c4 hc.2)]
    exact w64 (x := M.topPc x + 1) (by omega) (by omega)
  ·have c1 : ¬ (M.topIns p x).Op = 12 := by simpa using c1
   have c2 : ¬ (M.topIns p x).Op = 11 := by simpa using c2
   have c3 : ¬ (M.topIns p x).Op = 10 := by simpa using c3
   unfold M.turnPc
   rw [if_neg c1, if_neg c2, if_neg (fun hc => c3 hc.1)]
   exact w64 (x := M.topPc x + 1) (by omega) (by omega)
theorem has_branches {p : List D.Ins} {b : Int} (h : M.Branch p b) : M.has (M.branches p) b = true := by
 unfold M.has M.branches
 rw [if_pos h.1, List.any_eq_true]
 exact ⟨b, mem_idx.2 ⟨b.toNat, by have := h.2.2.1; have := h.2.1; omega, by have := h.2.1; omega, h.2.2.2⟩, by simp⟩
theorem wp.impl_Warp_separate.math (x : D.Warp) (p : List D.Ins) (h : M.impl_Warp_separate_pre x p) : wp.impl_Warp_separate x p (fun r => r = M.impl_Warp_separate x p) := by
 obtain ⟨hr, hs⟩ := h
 obtain ⟨t1, t2, t3, t4, t5, t6, t7, t8, t9⟩ := runs_top hr
 have hb := split_branch hr hs
 unfold wp.impl_Warp_separate
 rw [last_wrap (by omega), w64 (x := (x.Frames.length : Int) + 2) (by omega) (by omega)]
 refine bcase_mk (fun e => ?_) fun e => ⟨by omega, ⟨t5, t6⟩, ⟨by show x.Frames.length ≤ 9223372036854775807; omega, t4, zero_reg t7 hs.1⟩, fun z hz => ⟨prog_small hr.1, fun j hj => ⟨⟨t5, t6⟩, ?_⟩⟩⟩
 ·have e : ¬ x.Frames.length ≤ 22 := by have := of_decide_eq_true e; omega
  unfold M.impl_Warp_separate
  rw [if_neg e]
 ·have e : x.Frames.length ≤ 22 := by have := of_decide_eq_false e; omega
  have hj : j = M.joinB p (M.topPc x) := by
   rw [hj]
   show M.joinOf p (M.topPc x) = _
   unfold M.joinOf
   rw [if_pos (has_branches hb)]
  have hw : wrap .i64 (M.topPc x + 1) = M.topPc x + 1 := w64 (by omega) (by omega)
  have key : ∀ y, y = M.separated p x → (true, y) = M.impl_Warp_separate x p := by
   rintro _ rfl
   unfold M.impl_Warp_separate
   rw [if_pos e]
  have e1 : ((x.Frames.length : Int) - 1).toNat = x.Frames.length - 1 := by omega
  have fin : (true, (⟨x.Number, (x.Frames.set ((x.Frames.length : Int) - 1).toNat ⟨j, (M.lastF x.Frames).Stop, (M.lastF x.Frames).Mask⟩) ++ [⟨wrap .i64 (M.topPc x + 1), j, bitNot .i64 (M.lastF x.Frames).Mask z⟩, ⟨(M.topIns p x).B, j, z⟩], x.Regs⟩ : D.Warp)) = M.impl_Warp_separate x p := by
   refine key _ ?_
   rw [hw, hj, hz, e1]; rfl
  have hle : (x.Frames.set ((x.Frames.length : Int) - 1).toNat ⟨j, (M.lastF x.Frames).Stop, (M.lastF x.Frames).Mask⟩).length + 2 ≤ 17179869184 := by rw [List.length_set]; omega
  exact ⟨⟨hle, fin⟩, ⟨⟨hle, fin⟩, ⟨hle, fin⟩, trivial⟩, trivial⟩
end Go.V
namespace Go.V
open IntKind (wrap)
def putSome (r x : List Int) (l j : Nat) : List Int := r.take (l * 4) ++ x.take j ++ r.drop (l * 4 + j)
theorem putSome_len {r x : List Int} {l j : Nat} (h : r.length = 32) (hl : l < 8) (hx : x.length = 4) (hj : j ≤ 4) : (putSome r x l j).length = 32 := by unfold putSome; simp; omega
theorem putSome_get {r x : List Int} {l j : Nat} (h : r.length = 32) (hl : l < 8) (hx : x.length = 4) (hj : j ≤ 4) (i : Nat) : (putSome r x l j)[i]? = if l * 4 ≤ i ∧ i < l * 4 + j then x[i - l * 4]? else r[i]? := by
 unfold putSome
 rw [List.getElem?_append, List.length_append, List.length_take, List.length_take, hx, Nat.min_eq_left (by omega), Nat.min_eq_left hj, List.getElem?_append, List.length_take, Nat.min_eq_left (by omega)]
 by_cases h1 : i < l * 4
 ·rw [if_pos (by omega), if_pos h1, if_neg (by omega), List.getElem?_take, if_pos h1]
 ·by_cases h2 : i < l * 4 + j
  ·rw [if_pos h2, if_neg h1, if_pos (by omega), List.getElem?_take, if_pos (by omega)]
  ·rw [if_neg h2, if_neg (by omega), List.getElem?_drop]
   congr 1; omega
theorem putSome_zero (r x : List Int) (l : Nat) : putSome r x l 0 = r := by unfold putSome; simp
theorem putSome_all {r x : List Int} {l : Nat} (hx : x.length = 4) : putSome r x l 4 = M.putLane r l x := by unfold putSome M.putLane; rw [List.take_of_length_le (l := x) (by omega)]
theorem putSome_set {r x : List Int} {l j : Nat} (h : r.length = 32) (hl : l < 8) (hx : x.length = 4) (hj : j < 4) : (putSome r x l j).set (l * 4 + j) (rd x (j : Int)) = putSome r x l (j + 1) := by
 apply List.ext_getElem?
 intro i
 rw [putSome_get h hl hx (by omega)]
 by_cases e : l * 4 + j = i
 ·subst e
  rw [List.getElem?_set_self (by rw [putSome_len h hl hx (by omega)]; omega), if_pos (by omega), show l * 4 + j - l * 4 = j by omega, rd_nat (by omega), List.getElem?_eq_getElem (by omega)]
 ·rw [List.getElem?_set_ne e, putSome_get h hl hx (by omega)]
  by_cases h1 : l * 4 ≤ i ∧ i < l * 4 + j
  ·rw [if_pos h1, if_pos (by omega)]
  ·rw [if_neg h1, if_neg (by omega)]
theorem wp.spec_l13Apply.math (p : List D.Ins) (x : D.Warp) (h : M.spec_l13Apply_pre p x) : wp.spec_l13Apply p x (fun r => r = M.spec_l13Apply p x) := by
 obtain ⟨t1, t2, t3, t4, t5, t6, t7, t8, t9⟩ := runs_top h
 unfold wp.spec_l13Apply
 rw [last_wrap (by omega), List.nil_append]
 refine ⟨by simp; omega, by omega, ?_⟩
 let G : Nat → List Int := M.applyTo (M.topIns p x) x.Number (M.lastF x.Frames).Mask x.Regs
 have hG : ∀ k, k ≤ 8 → (G k).length = 32 := fun k hk => applyTo_len t4 k hk
 refine loop_n 8 (fun k => ((k : Int), G k, ())) (fun _ => True) rfl trivial (fun k hk _ next hn => ?_) fun _ next => bcase_f (by simp) rfl
 have hn := hn trivial
 have hGk := hG k (by omega)
 have hnext : G (k + 1) = if M.hasLane (M.lastF x.Frames).Mask (k : Int) then M.putLane (G k) k (M.apply (M.topIns p x) (x.Number * 8 + (k : Int)) (M.laneCut x.Regs k)) else G k := rfl
 rw [hnext] at hn
 dsimp only
 generalize G k = g at *
 refine bcase_t (by simp; omega) fun b hb => ?_
 have hb : b = M.hasLane (M.lastF x.Frames).Mask (k : Int) := hb
 have a1 : wrap .i64 ((k : Int) * 4) = (k : Int) * 4 := w64 (by omega) (by omega)
 have a2 : wrap .i64 ((wrap .i64 ((k : Int) + 1)) * 4) = (k : Int) * 4 + 4 := by rw [w64 (x := (k : Int) + 1) (by omega) (by omega), w64 (by omega) (by omega)]; omega
 have a3 : wrap .i64 ((wrap .i64 (x.Number * 8)) + (k : Int)) = x.Number * 8 + (k : Int) := by rw [w64 (x := x.Number * 8) (by omega) (by omega), w64 (by omega) (by omega)]
 refine bcase_mk (fun e => ?_) fun e => ?_
 ·rw [if_pos (hb.symm.trans e)] at hn
  rw [a1, a2, a3, t4, show ((k : Int) * 4 + 4).toNat = k * 4 + 4 by omega, show ((k : Int) * 4).toNat = k * 4 by omega]
  refine ⟨⟨t5, t6⟩, ⟨by omega, by omega, by omega, by omega⟩, fits_cut t7 t4 hk, fun y hy => ?_⟩
  have hy : y = M.apply (M.topIns p x) (x.Number * 8 + (k : Int)) (M.laneCut x.Regs k) := hy
  have hyl : y.length = 4 := by rw [hy, apply_len, laneCut_len t4 hk]
  rw [← hy] at hn
  refine loop_n 4 (fun j => ((j : Int), putSome g y k j, ())) (fun _ => True) (by rw [putSome_zero]; rfl) trivial (fun j hj _ next2 hn2 => ?_) fun _ next2 => ?_
  ·have hn2 := hn2 trivial
   rw [← putSome_set hGk hk hyl hj] at hn2
   dsimp only
   have a4 : wrap .i64 ((k : Int) * 4 + (j : Int)) = (k : Int) * 4 + (j : Int) := w64 (by omega) (by omega)
   rw [a4, hyl, putSome_len hGk hk hyl (by omega), show ((k : Int) * 4 + (j : Int)).toNat = k * 4 + j by omega, up64 (n := 4) hj (by omega)]
   exact bcase_t (by simp; omega) ⟨by omega, by omega, hn2⟩
  ·dsimp only
   rw [putSome_all hyl, up64 (n := 8) hk (by omega)]
   exact bcase_f (by simp) hn
 ·rw [if_neg (by rw [← hb, e]; simp)] at hn
  rw [up64 (n := 8) hk (by omega)]
  exact hn
theorem wp.spec_l13Step.math (p : List D.Ins) (x : D.Warp) (h : M.spec_l13Step_pre p x) : wp.spec_l13Step p x (fun r => r = M.spec_l13Step p x) := by
 obtain ⟨hr, hl⟩ := h
 obtain ⟨t1, t2, t3, t4, t5, t6, t7, t8, t9⟩ := runs_top hr
 obtain ⟨f1, f2, f3, f4, f5, f6⟩ := runs_frames hr
 have hx := hr.2.2
 unfold wp.spec_l13Step
 rw [last_wrap (by omega)]
 refine ⟨⟨by omega, by omega⟩, fun y hy => ?_⟩
 have hy : y = x := hy
 subst hy
 have e1 : ((y.Frames.length : Int) - 1).toNat = y.Frames.length - 1 := by omega
 refine ⟨by omega, ⟨t5, t6⟩, hr, fun s hs => ?_⟩
 have hs : s = M.splits p y := hs
 have hw : wrap .i64 (M.topPc y + 1) = M.topPc y + 1 := w64 (by omega) (by omega)
 refine bcase_mk (fun e => ⟨by show y.Frames.length ≤ 9223372036854775807; omega, fun z hz => ?_⟩) fun e => ⟨hr, fun rg hrg => ?_⟩
 ·have hsp := hs.symm.trans e
  obtain ⟨hsp', hz0, hzm⟩ := splits_iff hsp
  have hb := split_branch hr hsp'
  have hz : z = M.zeroMask y (M.topIns p y).A := by
   have hz : z = M.spec_ZeroMask y (M.topIns p y).A := hz
   rw [hz]
   unfold M.spec_ZeroMask
   rw [if_pos (by rw [zero_reg t7 hsp'.1, t4]; rfl)]
  have hact : M.activeMask y = (M.lastF y.Frames).Mask := activeMask_top hx
  obtain ⟨m1, m2, m3⟩ := mask_part (x := y) (reg := (M.topIns p y).A) (by rw [hact]; exact f5)
  rw [hact] at m2 m3
  have hm : wrap .i64 ((M.lastF y.Frames).Mask - z) = bitNot .i64 (M.lastF y.Frames).Mask (M.zeroMask y (M.topIns p y).A) := by
   rw [m2, hz]
   simp only [M.isMask, M.isIn, Bool.and_eq_true, decide_eq_true_eq] at m3
   exact w64 (by omega) (by omega)
  refine ⟨hb, fun j hj => ⟨by omega, ⟨by simp; omega, ⟨by refine ⟨?_, ?_⟩ <;> simp <;> omega, fun d hd => ?_⟩⟩⟩⟩
  have hj : j = M.joinB p (M.topPc y) := hj
  have hd : d = M.dropW (M.separated p y) p.length := by
   rw [hd]
   show M.dropW _ _ = M.dropW _ _
   congr 1
   unfold M.separated M.setTop
   rw [← hm, ← hj, ← hz, e1, ← hw]; rfl
  show d = M.stepW p y
  unfold M.stepW
  rw [if_pos hsp]; exact hd
 ·have hns : ¬ M.splits p y = true := by rw [← hs, e]; simp
  have hrg : rg = M.applyAll (M.topIns p y) y.Number (M.lastF y.Frames).Mask y.Regs := hrg
  have hfit : ∀ pc, M.WFit ⟨y.Number, y.Frames.set ((y.Frames.length : Int) - 1).toNat ⟨pc, (M.lastF y.Frames).Stop, (M.lastF y.Frames).Mask⟩, rg⟩ := fun pc => by
   refine ⟨?_, ?_⟩
   ·show (y.Frames.set _ _).length ≤ _
    rw [List.length_set]; omega
   ·show rg.length ≤ _
    rw [hrg, applyAll_len t4]; omega
  have fin : ∀ pc, pc = M.turnPc p y → ∀ d, d = M.spec_DropFrames p ⟨y.Number, y.Frames.set ((y.Frames.length : Int) - 1).toNat ⟨pc, (M.lastF y.Frames).Stop, (M.lastF y.Frames).Mask⟩, rg⟩ → d = M.stepW p y := by
   rintro _ rfl d hd
   rw [hd, hrg]
   show M.dropW _ _ = _
   unfold M.stepW
   rw [if_neg hns, e1]; rfl
  show bcase ((M.topIns p y).Op == 12) _ (bcase ((M.topIns p y).Op == 11) _ (_ ∧ bcase ((M.topIns p y).Op == 10) _ (bcase false _ _)))
  refine bcase_mk (fun c1 => ⟨by omega, hfit _, fun d hd => fin _ ?_ d hd⟩) fun c1 => bcase_mk (fun c2 => ⟨by omega, hfit _, fun d hd => fin _ ?_ d hd⟩) fun c2 => ⟨by omega, bcase_mk (fun c3 => ⟨by show y.Frames.length ≤ 9223372036854775807; omega, fun z hz => ?_⟩) fun c3 => bcase_f rfl ⟨hfit _, fun d hd => fin _ ?_ d hd⟩⟩
  ·have c1 : (M.topIns p y).Op = 12 := by simpa using c1
   simp [M.turnPc, c1]
  ·have c2 : (M.topIns p y).Op = 11 := by simpa using c2
   simp only [M.turnPc, c2]
   rfl
  ·have c3 : (M.topIns p y).Op = 10 := by simpa using c3
   have hz : z = M.zeroMask y (M.topIns p y).A := by
    have hz : z = M.spec_ZeroMask y (M.topIns p y).A := hz
    rw [hz]
    unfold M.spec_ZeroMask
    rw [if_pos (by rw [zero_reg t7 c3, t4]; rfl)]
   show bcase (z == (M.lastF y.Frames).Mask) _ _
   rw [hz]
   refine bcase_mk (fun c4 => ⟨by rw [List.length_set]; omega, hfit _, fun d hd => fin _ ?_ d hd⟩) fun c4 => ⟨hfit _, fun d hd => fin _ ?_ d hd⟩
   ·have c4 : M.zeroMask y (M.topIns p y).A = (M.lastF y.Frames).Mask := by simpa using c4
    unfold M.turnPc
    rw [if_neg (by omega), if_neg (by omega), if_pos ⟨c3, c4⟩]; rfl
   ·have c4 : ¬ M.zeroMask y (M.topIns p y).A = (M.lastF y.Frames).Mask := by simpa using c4
    unfold M.turnPc
    rw [if_neg (by omega), if_neg (by omega), if_neg (fun hc => c4 hc.2)]
    exact hw
  ·have c1 : ¬ (M.topIns p y).Op = 12 := by simpa using c1
   have c2 : ¬ (M.topIns p y).Op = 11 := by simpa using c2
   have c3 : ¬ (M.topIns p y).Op = 10 := by simpa using c3
   unfold M.turnPc
   rw [if_neg c1, if_neg c2, if_neg (fun hc => c3 hc.1)]
   exact hw
end Go.V
namespace Go.V
open IntKind (wrap)
theorem wp.impl_Warp_pass.math (x : D.Warp) (p : List D.Ins) (h : M.impl_Warp_pass_pre x p) : wp.impl_Warp_pass x p (fun r => r = M.impl_Warp_pass x p) := by
 obtain ⟨hp, hw⟩ := h
 unfold wp.impl_Warp_pass
 rw [empty_len0]
 refine bcase_mk (fun e => ?_) fun e => ?_
 ·have : M.spec_l13Local p x = false := by simp [M.spec_l13Local, e]
  unfold M.impl_Warp_pass
  rw [if_neg (by rw [this]; simp)]
 have hx : x.Frames ≠ [] := by simpa using e
 have hr : M.Runs p x := ⟨hp, hw, hx⟩
 obtain ⟨t1, t2, t3, t4, t5, t6, t7, t8, t9⟩ := runs_top hr
 rw [last_wrap (by omega)]
 have hl : ∀ b, M.isLocal (M.topIns p x) = b → M.spec_l13Local p x = (b && (!M.splits p x || decide (x.Frames.length ≤ 22))) := fun b hb => by
  simp only [M.spec_l13Local, hb, e, Bool.not_false, Bool.true_and]
 have no : M.spec_l13Local p x = false → (false, x) = M.impl_Warp_pass x p := fun hf => by
  unfold M.impl_Warp_pass
  rw [if_neg (by rw [hf]; simp)]
 have yes : M.spec_l13Local p x = true → ∀ y, y = M.stepW p x → (true, y) = M.impl_Warp_pass x p := fun hf y hy => by
  unfold M.impl_Warp_pass
  rw [if_pos hf, hy]
 refine ⟨by omega, ⟨t5, t6⟩, fun b hb => bcase_mk (fun c => no ?_) fun c => ⟨hr, fun s hs => bcase_mk (fun c2 => ⟨⟨hr, ?_⟩, fun q hq => ?_⟩) fun c2 => ⟨hr, fun q hq => ⟨?_, fun d hd => ?_⟩⟩⟩⟩
 ·have c : b = false := by simpa using c
  rw [hl b hb.symm, c]; rfl
 ·exact (splits_iff (hs.symm.trans c2)).1
 ·have c : b = true := by simpa using c
  have hsp : M.splits p x = true := hs.symm.trans c2
  have hl' := hl b hb.symm
  rw [c, hsp] at hl'
  simp only [Bool.true_and, Bool.not_true, Bool.false_or] at hl'
  rw [hq]
  unfold M.impl_Warp_separate
  by_cases h22 : x.Frames.length ≤ 22
  ·rw [decide_eq_true h22] at hl'
   rw [if_pos h22]
   refine bcase_f rfl ⟨?_, fun d hd => yes hl' _ ?_⟩
   ·show (M.separated p x).Frames.length ≤ 9223372036854775807
    simp only [M.separated, M.setTop, List.length_append, List.length_set, List.length_cons, List.length_nil]; omega
   ·rw [hd]
    unfold M.stepW
    rw [if_pos hsp]; rfl
  ·rw [decide_eq_false h22] at hl'
   rw [if_neg h22]
   exact bcase_t rfl (no hl')
 ·rw [hq]
  show (M.setTop x.Frames _).length ≤ 9223372036854775807
  simp only [M.setTop, List.length_set]; omega
 ·have c : b = true := by simpa using c
  have hsp : M.splits p x = false := by rw [← show s = M.splits p x from hs, c2]
  have hl' := hl b hb.symm
  rw [c, hsp] at hl'
  refine yes hl' _ ?_
  rw [hd, hq]
  unfold M.stepW
  rw [if_neg (by rw [hsp]; simp)]; rfl
end Go.V
namespace Go.V
open IntKind (wrap)
theorem fine_small {p : List D.Ins} {x : D.Warp} (h : M.Fine p x) : x.Frames.length ≤ 24 ∧ x.Regs.length = 32 := by
 have hw := h.2
 simp only [M.warpOf, M.areFrames, Bool.and_eq_true, Bool.or_eq_true, beq_iff_eq] at hw
 obtain ⟨h1, h2, h3, h4, h5⟩ := hw
 refine ⟨?_, h2⟩
 rcases h5 with h5 | h5
 ·have : x.Frames = [] := by simpa using h5
  rw [this]; simp
 ·simp only [M.endsOk, Bool.and_eq_true, decide_eq_true_eq] at h5
  exact h5.1
end Go.V
namespace Go.V
open IntKind (wrap)
def MemFit (i : D.Ins) : Prop := 0 ≤ i.A ∧ i.A ≤ 3 ∧ 0 ≤ i.B ∧ i.B ≤ 3
structure MemOk (s : List Int × List Int) : Prop where
 l1 : s.1.length = 32
 w1 : s.1.all M.isWord = true
 l2 : s.2.length = 32
 w2 : s.2.all M.isWord = true
theorem all_set {α : Type} {p : α → Bool} {l : List α} {k : Nat} {y : α} (h : l.all p = true) (hy : p y = true) : (l.set k y).all p = true := by
 rw [List.all_eq_true] at *
 intro x hx
 rcases List.mem_or_eq_of_mem_set hx with h1 | h1
 ·exact h _ h1
 ·rw [h1]; exact hy
theorem all_rdI {p : Int → Bool} {l : List Int} (h : l.all p = true) {z : Int} (h0 : 0 ≤ z) (h1 : z < (l.length : Int)) : p (rd l z) = true := List.all_eq_true.1 h _ (rd_of h0 h1)
theorem word_in {x : Int} (h : M.isWord x = true) : 0 ≤ x ∧ x ≤ 65535 := by
 simpa only [M.isWord, M.isIn, Bool.and_eq_true, decide_eq_true_eq] using h
theorem slot_in {x : Int} (h : M.isWord x = true) : 0 ≤ Int.tmod x 32 ∧ Int.tmod x 32 < 32 := tmod_in2 (word_in h).1 (by omega)
theorem memStep_ok {i : D.Ins} {s : List Int × List Int} {k : Int} (hi : MemFit i) (hs : MemOk s) (h0 : 0 ≤ k) (hk : k ≤ 7) : MemOk (M.memStep i s k) := by
 obtain ⟨a0, a1, b0, b1⟩ := hi
 obtain ⟨l1, w1, l2, w2⟩ := hs
 have wA := all_rdI w1 (z := k * 4 + i.A) (by omega) (by omega)
 have wB := all_rdI w1 (z := k * 4 + i.B) (by omega) (by omega)
 have pB := slot_in wB
 unfold M.memStep
 split
 ·exact ⟨by simpa using l1, all_set w1 (all_rdI w2 pB.1 (by omega)), l2, w2⟩
 ·split
  ·exact ⟨l1, w1, by simpa using l2, all_set w2 wB⟩
  ·split
   ·exact ⟨l1, w1, by simpa using l2, all_set w2 (addW_word _ _)⟩
   ·exact ⟨l1, w1, l2, w2⟩
theorem memTo_ok {i : D.Ins} {m : Int} {s : List Int × List Int} (hi : MemFit i) (hs : MemOk s) : ∀ k : Nat, k ≤ 8 → MemOk (M.memTo i m s k)
 | 0, _ => hs
 | k + 1, hk => by
  unfold M.memTo
  split
  ·exact memStep_ok hi (memTo_ok hi hs k (by omega)) (by omega) (by omega)
  ·exact memTo_ok hi hs k (by omega)
theorem memFold {i : D.Ins} {m : Int} {s : List Int × List Int} : M.memTo i m s 8 = (M.lanesOf m).foldl (M.memStep i) s := by
 have key : ∀ k : Nat, (List.range k).foldl (fun acc (j : Nat) => if M.hasLane m (j : Int) = true then M.memStep i acc (j : Int) else acc) s = M.memTo i m s k := by
  intro k
  induction k with
  | zero => rfl
  | succ k ih =>
   rw [List.range_succ, List.foldl_append, ih]
   simp only [List.foldl_cons, List.foldl_nil, M.memTo]
 rw [← key 8]
 unfold M.lanesOf
 rw [List.foldl_filter]
 rfl
theorem fold_ok {i : D.Ins} (hi : MemFit i) : ∀ (l : List Int) (s : List Int × List Int), MemOk s → (∀ k ∈ l, 0 ≤ k ∧ k ≤ 7) → MemOk (l.foldl (M.memStep i) s)
 | [], s, h, _ => h
 | k :: l, s, h, hl => by
  simp only [List.foldl_cons]
  obtain ⟨h0, h7⟩ := hl k List.mem_cons_self
  exact fold_ok hi l _ (memStep_ok hi h h0 h7) fun j hj => hl j (List.mem_cons_of_mem _ hj)
theorem far_ins {i : D.Ins} {n : Int} (h : M.insOk i n = true) (hl : M.isLocal i = false) : MemFit i ∧ (i.Op = 13 ∨ i.Op = 14 ∨ i.Op = 15 ∨ i.Op = 16) := by
 have hl' : ¬ (0 ≤ i.Op ∧ i.Op ≤ 12) := by
  intro hc
  rw [show M.isLocal i = true by simp only [M.isLocal, M.isIn, Bool.and_eq_true, decide_eq_true_eq]; exact hc] at hl
  cases hl
 unfold M.insOk at h
 rw [Bool.and_eq_true] at h
 have h := h.2
 unfold MemFit
 split at h
 ·rename_i e
  simp only [Bool.and_eq_true, beq_iff_eq] at h
  refine ⟨by omega, by omega⟩
 ·split at h
  ·omega
  ·split at h
   ·rename_i e
    simp only [M.isReg, M.isIn, Bool.and_eq_true, beq_iff_eq, decide_eq_true_eq] at h
    refine ⟨by omega, by omega⟩
   ·split at h
    ·omega
    ·split at h
     ·omega
     ·split at h
      ·omega
      ·simp only [M.isIn, Bool.and_eq_true, decide_eq_true_eq] at h
       omega
theorem memory_ok {b : D.Block} (h : M.blockOk b = true) : b.Memory.length = 32 ∧ b.Memory.all M.isWord = true := by
 simp only [M.blockOk, M.impl_isMemory, Bool.and_eq_true, beq_iff_eq] at h
 exact h.2.2.1
theorem live_mem {b : D.Block} {w : Int} (h : M.Live b w) : MemOk ((rd b.Warps w).Regs, b.Memory) := by
 have hr := has_runs h.1 h.2
 exact ⟨(runs_top hr).2.2.2.1, (runs_frames hr).2.2.2.2.2, (memory_ok (has_warp h.1).2.2.2.2.2).1, (memory_ok (has_warp h.1).2.2.2.2.2).2⟩
theorem live_far {b : D.Block} {w : Int} (h : M.Live b w) (hl : M.isLocal (M.nextI b w) = false) : MemFit (M.nextI b w) ∧ ((M.nextI b w).Op = 13 ∨ (M.nextI b w).Op = 14 ∨ (M.nextI b w).Op = 15 ∨ (M.nextI b w).Op = 16) :=
 far_ins (runs_top (has_runs h.1 h.2)).2.2.2.2.2.2.1 hl
theorem bitAnd_1 (x : Int) : bitAnd .i64 x 1 = x % 2 := by
 unfold bitAnd
 have e1 : (BitVec.ofInt (IntKind.bits .i64) x &&& BitVec.ofInt (IntKind.bits .i64) 1).toNat = (x % 2).toNat := by
  show (BitVec.ofInt 64 x &&& BitVec.ofInt 64 1).toNat = _
  rw [BitVec.toNat_and, BitVec.toNat_ofInt, show (BitVec.ofInt 64 1).toNat = 2 ^ 1 - 1 from rfl, Nat.and_two_pow_sub_one_eq_mod]
  rw [show ((2 ^ 64 : Nat) : Int) = 18446744073709551616 from rfl]
  omega
 rw [e1, w64 (by omega) (by omega)]
 omega
theorem zero_waits (b : D.Block) (k : Int) : (bitAnd .i64 (Int.fdiv b.Waiting (2 ^ (min (k.toNat) (IntKind.bits .i64)))) 1 == 0) = !M.waits b k := by
 unfold M.waits
 rw [bitAnd_1, Bool.eq_iff_iff]
 simp only [beq_iff_eq, Bool.not_eq_true', beq_eq_false_iff_ne, ne_eq]
 omega
theorem or_check : ((List.range 8).all fun a => (List.range 4).all fun n => (List.range 3).all fun k => !(decide (1 ≤ n) && (decide (k < n) && decide (a < 2 ^ n))) || (decide (0 ≤ bitOr .i64 ((a : Nat) : Int) (M.bitAt ((k : Nat) : Int))) && decide (bitOr .i64 ((a : Nat) : Int) (M.bitAt ((k : Nat) : Int)) < 2 ^ n))) = true := by kernel_rfl
theorem full_check : ((List.range 4).all fun n => (List.range 3).all fun k => !decide (k < n) || (Int.fdiv (((2 ^ n - 1 : Nat)) : Int) (2 ^ (min (((k : Nat) : Int).toNat) (IntKind.bits .i64))) % 2 == 1)) = true := by kernel_rfl
theorem waitTop_check : ((List.range 4).all fun n => n == 0 || (M.waitTop n == (2 : Int) ^ n - 2)) = true := by kernel_rfl
theorem waitTop_eq {n : Nat} (h1 : 1 ≤ n) (h3 : n ≤ 3) : M.waitTop n = (2 : Int) ^ n - 2 := by
 have := List.all_eq_true.1 waitTop_check n (List.mem_range.2 (by omega))
 simp only [Bool.or_eq_true, beq_iff_eq] at this
 exact this.resolve_left (by omega)
theorem or_in {a : Int} {n k : Nat} (h1 : 1 ≤ n) (h3 : n ≤ 3) (hk : k < n) (h0 : 0 ≤ a) (ha : a ≤ M.waitTop n) : 0 ≤ bitOr .i64 a (M.bitAt (k : Int)) ∧ bitOr .i64 a (M.bitAt (k : Int)) < (2 : Int) ^ n := by
 rw [waitTop_eq h1 h3] at ha
 have hp : (2 : Int) ^ n ≤ 8 := by rcases (by omega : n = 1 ∨ n = 2 ∨ n = 3) with rfl | rfl | rfl <;> decide
 obtain ⟨m, rfl⟩ := Int.eq_ofNat_of_zero_le h0
 have hm : m < 2 ^ n := by have : ((m : Nat) : Int) < ((2 ^ n : Nat) : Int) := by push_cast; omega
                           omega
 have := List.all_eq_true.1 (List.all_eq_true.1 (List.all_eq_true.1 or_check m (List.mem_range.2 (by omega))) n (List.mem_range.2 (by omega))) k (List.mem_range.2 (by omega))
 simp only [Bool.or_eq_true, Bool.not_eq_true', Bool.and_eq_true, Bool.and_eq_false_iff, decide_eq_true_eq, decide_eq_false_iff_not] at this
 refine this.resolve_left fun hc => ?_
 rcases hc with hc | hc | hc
 ·exact hc h1
 ·exact hc hk
 ·exact hc hm
theorem full_waits {b : D.Block} {n k : Nat} (h3 : n ≤ 3) (hk : k < n) (h : b.Waiting = (2 : Int) ^ n - 1) : M.waits b (k : Int) = true := by
 unfold M.waits
 rw [bitAnd_1, beq_iff_eq, h]
 have := List.all_eq_true.1 (List.all_eq_true.1 full_check n (List.mem_range.2 (by omega))) k (List.mem_range.2 (by omega))
 simp only [Bool.or_eq_true, Bool.not_eq_true', decide_eq_false_iff_not, beq_iff_eq] at this
 have := this.resolve_left (by omega)
 have e : (((2 ^ n - 1 : Nat)) : Int) = (2 : Int) ^ n - 1 := by rcases (by omega : n = 0 ∨ n = 1 ∨ n = 2 ∨ n = 3) with rfl | rfl | rfl | rfl <;> rfl
 rw [← e]
 exact this
theorem allWait_mono {b : D.Block} {k : Nat} (h : M.allWait b k = false) : ∀ n, k ≤ n → M.allWait b n = false
 | 0, hn => by rw [Nat.le_zero.1 hn] at h; exact h
 | n + 1, hn => by
  by_cases e : k = n + 1
  ·rw [← e]; exact h
  ·unfold M.allWait
   rw [allWait_mono h n (by omega), Bool.false_and]
theorem allWait_full {b : D.Block} (h3 : b.Warps.length ≤ 3) (h : b.Waiting = (2 : Int) ^ b.Warps.length - 1) : ∀ k, k ≤ b.Warps.length → M.allWait b k = true
 | 0, _ => rfl
 | k + 1, hk => by
  unfold M.allWait
  rw [allWait_full h3 h k (by omega), full_waits h3 (by omega) h, Bool.or_true, Bool.true_and]
theorem ok_parts {b : D.Block} (h : M.blockOk b = true) : M.programOk b.Code = true ∧ 1 ≤ b.Warps.length ∧ b.Warps.length ≤ 3 ∧ 0 ≤ b.Waiting ∧ b.Waiting ≤ M.waitTop b.Warps.length ∧ 0 ≤ b.Phase ∧ b.Phase ≤ 100000 ∧ M.warpsOk b.Code 0 b.Warps = true := by
 simp only [M.blockOk, Bool.and_eq_true, M.isIn, decide_eq_true_eq] at h
 obtain ⟨h1, h2, h3, h4, h5, h6⟩ := h
 exact ⟨h1, by omega, by omega, h4.1, h4.2, h5.1, h5.2, h6⟩
theorem ok_of {b : D.Block} (h1 : M.programOk b.Code = true) (h2 : 1 ≤ b.Warps.length ∧ b.Warps.length ≤ 3) (h3 : b.Memory.length = 32 ∧ b.Memory.all M.isWord = true) (h4 : 0 ≤ b.Waiting ∧ b.Waiting ≤ M.waitTop b.Warps.length) (h5 : 0 ≤ b.Phase ∧ b.Phase ≤ 100000)
    (h6 : M.warpsOk b.Code 0 b.Warps = true) : M.blockOk b = true := by
 simp only [M.blockOk, M.impl_isMemory, Bool.and_eq_true, M.isIn, decide_eq_true_eq, beq_iff_eq]
 exact ⟨h1, ⟨by omega, by omega⟩, h3, h4, h5, h6⟩
theorem warpsOk_all {p : List D.Ins} : ∀ {l : List D.Warp} {k : Nat}, M.warpsOk p k l = true → ∀ x ∈ l, M.warpOf p x = true
 | [], _, _, _, hx => by cases hx
 | y :: l, k, h, x, hx => by
  simp only [M.warpsOk, M.warpAt, Bool.and_eq_true] at h
  rcases List.mem_cons.1 hx with rfl | hx
  ·exact h.1.2
  ·exact warpsOk_all h.2 x hx
theorem warpsOk_set {p : List D.Ins} {y : D.Warp} : ∀ {l : List D.Warp} {k n : Nat}, M.warpsOk p k l = true → M.warpAt p (k + n) y = true → M.warpsOk p k (l.set n y) = true
 | [], _, _, h, _ => by simp [M.warpsOk]
 | x :: l, k, 0, h, hy => by
  simp only [M.warpsOk, Bool.and_eq_true] at h
  simp only [List.set_cons_zero, M.warpsOk, Bool.and_eq_true]
  exact ⟨hy, h.2⟩
 | x :: l, k, n + 1, h, hy => by
  simp only [M.warpsOk, Bool.and_eq_true] at h
  simp only [List.set_cons_succ, M.warpsOk, Bool.and_eq_true]
  exact ⟨h.1, warpsOk_set h.2 (by rw [show k + 1 + n = k + (n + 1) by omega]; exact hy)⟩
theorem ok_small {b : D.Block} (h : M.blockOk b = true) : M.BSmall b := by
 obtain ⟨h1, h2, h3, _, _, _, _, h8⟩ := ok_parts h
 refine ⟨by have := prog_short h1; omega, ⟨by omega, fun x hx => ?_⟩, by have := (memory_ok h).1; omega⟩
 have := fine_small (x := x) ⟨h1, warpsOk_all h8 x hx⟩
 unfold M.WSmall; omega
theorem runs_regs {p : List D.Ins} {x : D.Warp} {rg : List Int} (h : M.Runs p x) (hl : rg.length = 32) (hw : rg.all M.isWord = true) : M.Runs p ⟨x.Number, x.Frames, rg⟩ := by
 obtain ⟨h1, h2, h3⟩ := h
 refine ⟨h1, ?_, h3⟩
 simp only [M.warpOf, Bool.and_eq_true, beq_iff_eq] at h2 ⊢
 exact ⟨h2.1, hl, hw, h2.2.2.2⟩
theorem pass_fine {p : List D.Ins} {x : D.Warp} (h : M.Runs p x) : M.Fine p (M.passTop p x) := by
 obtain ⟨t1, t2, t3, t4, t5, t6, t7, t8, t9⟩ := runs_top h
 obtain ⟨f1, f2, f3, f4, f5, f6⟩ := runs_frames h
 have hx := h.2.2
 refine ⟨h.1, ?_⟩
 simp only [M.passTop, M.warpOf, M.dropW, Bool.and_eq_true, beq_iff_eq]
 refine ⟨by simp only [M.isIn, Bool.and_eq_true, decide_eq_true_eq]; exact ⟨t8, t9⟩, t4, f6, drop_fine (setTop_all f1 hx ⟨by omega, by omega⟩) (by simp only [M.setTop, List.length_set]; exact f2) fun _ => ?_⟩
 rw [(setTop_first hx _).1, (setTop_first hx _).2]
 exact ⟨f3, f4⟩
theorem go_parts {b : D.Block} {w : Int} (h : M.CanGo b w) : M.Live b w ∧ M.waits b w = false ∧ (M.isLocal (M.nextI b w) = true → M.Goes b.Code (rd b.Warps w)) := by
 obtain ⟨hh, hg⟩ := h
 simp only [M.canGo, Bool.and_eq_true, Bool.not_eq_true'] at hg
 obtain ⟨g1, g2, g3⟩ := hg
 have hx : (rd b.Warps w).Frames ≠ [] := by simpa using g1
 refine ⟨⟨hh, hx⟩, g2, fun hl => ⟨has_runs hh hx, ?_⟩⟩
 have hl : M.isLocal (M.topIns b.Code (rd b.Warps w)) = true := hl
 rw [if_pos hl] at g3
 simp only [M.spec_l13Local, g1, hl, g3, Bool.not_false, Bool.and_self]
theorem stepW_number (p : List D.Ins) (x : D.Warp) : (M.stepW p x).Number = x.Number := by
 unfold M.stepW M.dropW
 split <;> rfl
theorem access_warp {b : D.Block} {w : Int} {i : D.Ins} (h0 : 0 ≤ w) (h1 : w < (b.Warps.length : Int)) : rd (M.accessB b w i).Warps w = ⟨(rd b.Warps w).Number, (rd b.Warps w).Frames, (M.memAll i (rd b.Warps w) b.Memory).1⟩ := by
 unfold M.accessB
 exact rd_set h0 (by simpa using h1)
theorem memAll_ok {b : D.Block} {w : Int} (h : M.Live b w) (hl : M.isLocal (M.nextI b w) = false) : MemOk (M.memAll (M.nextI b w) (rd b.Warps w) b.Memory) := memTo_ok (live_far h hl).1 (live_mem h) 8 (Nat.le_refl _)
def actW (b : D.Block) (w : Int) : D.Warp := if M.isLocal (M.nextI b w) then M.stepW b.Code (rd b.Warps w) else M.passTop b.Code (rd (M.accessB b w (M.nextI b w)).Warps w)
theorem actB_warps (b : D.Block) (w : Int) : (M.actB b w).Warps = b.Warps.set w.toNat (actW b w) := by
 unfold M.actB actW
 split <;> rfl
theorem actW_ok {b : D.Block} {w : Int} (h : M.CanGo b w) : M.Fine b.Code (actW b w) ∧ (actW b w).Number = w := by
 obtain ⟨hv, _, hg⟩ := go_parts h
 obtain ⟨h0, h1, hp, hw, hn, hok⟩ := has_warp hv.1
 unfold actW
 split
 ·rename_i e; exact ⟨stepW_fine (hg e), by rw [stepW_number, hn]⟩
 ·rename_i e
  have e := Bool.eq_false_iff.2 e
  rw [access_warp h0 h1]
  have hm := memAll_ok hv e
  exact ⟨pass_fine (runs_regs (has_runs hv.1 hv.2) hm.l1 hm.w1), hn⟩
theorem actB_eta (b : D.Block) (w : Int) : (⟨b.Code, (M.actB b w).Warps, (M.actB b w).Memory, (M.actB b w).Waiting, (M.actB b w).Phase⟩ : D.Block) = M.actB b w := by
 unfold M.actB
 split <;> rfl
theorem actB_code (b : D.Block) (w : Int) : (M.actB b w).Code = b.Code := by unfold M.actB; split <;> rfl
theorem actB_phase (b : D.Block) (w : Int) : (M.actB b w).Phase = b.Phase := by unfold M.actB; split <;> rfl
theorem actB_len (b : D.Block) (w : Int) : (M.actB b w).Warps.length = b.Warps.length := by rw [actB_warps, List.length_set]
theorem actB_mem {b : D.Block} {w : Int} (h : M.CanGo b w) : (M.actB b w).Memory.length = 32 ∧ (M.actB b w).Memory.all M.isWord = true := by
 obtain ⟨hv, _, hg⟩ := go_parts h
 unfold M.actB
 split
 ·have := memory_ok (has_warp hv.1).2.2.2.2.2; exact this
 ·rename_i e
  have hm := memAll_ok hv (Bool.eq_false_iff.2 e)
  exact ⟨hm.l2, hm.w2⟩
theorem actB_wait {b : D.Block} {w : Int} (h : M.CanGo b w) : 0 ≤ (M.actB b w).Waiting ∧ (M.actB b w).Waiting < (2 : Int) ^ b.Warps.length := by
 obtain ⟨hv, _, hg⟩ := go_parts h
 obtain ⟨h0, h1, hp, hw, hn, hok⟩ := has_warp hv.1
 obtain ⟨p1, p2, p3, p4, p5, p6, p7, p8⟩ := ok_parts hok
 have hb : b.Waiting < (2 : Int) ^ b.Warps.length := by rw [waitTop_eq p2 p3] at p5; omega
 obtain ⟨k, rfl⟩ := Int.eq_ofNat_of_zero_le h0
 unfold M.actB
 split
 ·exact ⟨p4, hb⟩
 ·show 0 ≤ (if (M.nextI b (k : Int)).Op = 16 then bitOr .i64 b.Waiting (M.bitAt (k : Int)) else b.Waiting) ∧ (if (M.nextI b (k : Int)).Op = 16 then bitOr .i64 b.Waiting (M.bitAt (k : Int)) else b.Waiting) < _
  split
  ·exact or_in p2 p3 (by omega) p4 p5
  ·exact ⟨p4, hb⟩
theorem actB_warpsOk {b : D.Block} {w : Int} (h : M.CanGo b w) : M.warpsOk b.Code 0 (M.actB b w).Warps = true := by
 obtain ⟨hv, _, hg⟩ := go_parts h
 obtain ⟨h0, h1, hp, hw, hn, hok⟩ := has_warp hv.1
 obtain ⟨q1, q2⟩ := actW_ok h
 rw [actB_warps]
 refine warpsOk_set (ok_parts hok).2.2.2.2.2.2.2 ?_
 simp only [M.warpAt, Bool.and_eq_true, beq_iff_eq]
 exact ⟨by rw [q2]; omega, q1.2⟩
theorem stepB_code (b : D.Block) (w : Int) : (M.stepB b w).Code = b.Code := by unfold M.stepB M.closeB; split <;> exact actB_code b w
theorem stepB_warps (b : D.Block) (w : Int) : (M.stepB b w).Warps = b.Warps.set w.toNat (actW b w) := by unfold M.stepB M.closeB; split <;> exact actB_warps b w
theorem stepB_mem (b : D.Block) (w : Int) : (M.stepB b w).Memory = (M.actB b w).Memory := by unfold M.stepB M.closeB; split <;> rfl
theorem stepB_phase (b : D.Block) (w : Int) : (M.stepB b w).Phase = b.Phase ∨ (M.stepB b w).Phase = b.Phase + 1 := by
 unfold M.stepB M.closeB
 split
 ·right; show (M.actB b w).Phase + 1 = _; rw [actB_phase]
 ·left; exact actB_phase b w
theorem stepB_ok {b : D.Block} {w : Int} (h : M.CanGo b w) (hp : (M.stepB b w).Phase ≤ 100000) : M.blockOk (M.stepB b w) = true := by
 obtain ⟨hv, _, hg⟩ := go_parts h
 obtain ⟨h0, h1, hpr, hw, hn, hok⟩ := has_warp hv.1
 obtain ⟨p1, p2, p3, p4, p5, p6, p7, p8⟩ := ok_parts hok
 have hlen : (M.stepB b w).Warps.length = b.Warps.length := by rw [stepB_warps, List.length_set]
 refine ok_of (by rw [stepB_code]; exact p1) (by rw [hlen]; exact ⟨p2, p3⟩) (by rw [stepB_mem]; exact actB_mem h) ?_ ⟨by rcases stepB_phase b w with e | e <;> omega, hp⟩ (by rw [stepB_code, stepB_warps, ← actB_warps]; exact actB_warpsOk h)
 rw [hlen, waitTop_eq p2 p3]
 have hpos : (2 : Int) ≤ (2 : Int) ^ b.Warps.length := by rcases (by omega : b.Warps.length = 1 ∨ b.Warps.length = 2 ∨ b.Warps.length = 3) with e | e | e <;> rw [e] <;> decide
 obtain ⟨w0, w1⟩ := actB_wait h
 unfold M.stepB M.closeB
 split
 ·exact ⟨Int.le_refl _, by show (0 : Int) ≤ _; omega⟩
 ·rename_i e
  refine ⟨w0, ?_⟩
  by_cases ef : (M.actB b w).Waiting = (2 : Int) ^ b.Warps.length - 1
  ·exfalso
   apply e
   unfold M.spec_l30All
   rw [allWait_full (by rw [actB_len]; exact p3) (by rw [actB_len]; exact ef) _ (Nat.le_refl _), Bool.true_and, bne_iff_ne]
   omega
  ·omega
end Go.V
namespace Go.V
open IntKind (wrap)
def wp.spec_l30Memory (s0 : D.Block) (x1 : Int) (Q : (D.Block × (List D.Warp) × (List Int)) → Prop) : Prop :=
 (M.spec_l30Next_pre s0 x1 ∧ ∀ r25, r25 = M.spec_l30Next s0 x1 → ((0 ≤ x1 ∧ x1 < (s0.Warps.length : Int)) ∧ (M.spec_ActiveMask_pre (rd s0.Warps x1) ∧ ∀ r36, r36 = M.spec_ActiveMask (rd s0.Warps x1) → ((0 ≤ x1 ∧ x1 < (s0.Warps.length : Int)) ∧ LoopP (σ := Int × (List Int) × (List Int) × Unit) (fun (p244 : Int × (List Int) × (List Int) × Unit) next143 => match p244 with | (i135, xs136, xs138, _) => bcase (decide (i135 < 8)) ((∀ r145, r145 = M.spec_HasLane r36 i135 → bcase (!r145) (next143 ((wrap .i64 (i135 + 1)), xs136, xs138, ())) (((0 ≤ (wrap .i64 ((wrap .i64 (i135 * 4)) + r25.A)) ∧ (wrap .i64 ((wrap .i64 (i135 * 4)) + r25.A)) < (xs138.length : Int)) ∧ ((0 ≤ (wrap .i64 ((wrap .i64 (i135 * 4)) + r25.B)) ∧ (wrap .i64 ((wrap .i64 (i135 * 4)) + r25.B)) < (xs138.length : Int)) ∧ bcase (r25.Op == 13) (((0 ≤ (Int.tmod (rd xs138 (wrap .i64 ((wrap .i64 (i135 * 4)) + r25.B))) 32) ∧ (Int.tmod (rd xs138 (wrap .i64 ((wrap .i64 (i135 * 4)) + r25.B))) 32) < (xs136.length : Int)) ∧ ((0 ≤ (wrap .i64 ((wrap .i64 (i135 * 4)) + r25.A)) ∧ (wrap .i64 ((wrap .i64 (i135 * 4)) + r25.A)) < (xs138.length : Int)) ∧ next143 ((wrap .i64 (i135 + 1)), xs136, (List.set xs138 ((wrap .i64 ((wrap .i64 (i135 * 4)) + r25.A)).toNat) (rd xs136 (Int.tmod (rd xs138 (wrap .i64 ((wrap .i64 (i135 * 4)) + r25.B))) 32))), ())))) (bcase (r25.Op == 14) (((0 ≤ (Int.tmod (rd xs138 (wrap .i64 ((wrap .i64 (i135 * 4)) + r25.A))) 32) ∧ (Int.tmod (rd xs138 (wrap .i64 ((wrap .i64 (i135 * 4)) + r25.A))) 32) < (xs136.length : Int)) ∧ next143 ((wrap .i64 (i135 + 1)), (List.set xs136 ((Int.tmod (rd xs138 (wrap .i64 ((wrap .i64 (i135 * 4)) + r25.A))) 32).toNat) (rd xs138 (wrap .i64 ((wrap .i64 (i135 * 4)) + r25.B)))), xs138, ()))) (bcase (r25.Op == 15) (((0 ≤ (Int.tmod (rd xs138 (wrap .i64 ((wrap .i64 (i135 * 4)) + r25.A))) 32) ∧ (Int.tmod (rd xs138 (wrap .i64 ((wrap .i64 (i135 * 4)) + r25.A))) 32) < (xs136.length : Int)) ∧ (∀ r218, r218 = M.spec_AddWords (rd xs136 (Int.tmod (rd xs138 (wrap .i64 ((wrap .i64 (i135 * 4)) + r25.A))) 32)) (rd xs138 (wrap .i64 ((wrap .i64 (i135 * 4)) + r25.B))) → ((0 ≤ (Int.tmod (rd xs138 (wrap .i64 ((wrap .i64 (i135 * 4)) + r25.A))) 32) ∧ (Int.tmod (rd xs138 (wrap .i64 ((wrap .i64 (i135 * 4)) + r25.A))) 32) < (xs136.length : Int)) ∧ next143 ((wrap .i64 (i135 + 1)), (List.set xs136 ((Int.tmod (rd xs138 (wrap .i64 ((wrap .i64 (i135 * 4)) + r25.A))) 32).toNat) r218), xs138, ()))))) (next143 ((wrap .i64 (i135 + 1)), xs136, xs138, ()))))))))) (Q ((⟨s0.Code, (List.set s0.Warps (x1.toNat) (⟨(rd s0.Warps x1).Number, (rd s0.Warps x1).Frames, xs138⟩ : D.Warp)), xs136, s0.Waiting, s0.Phase⟩ : D.Block), (List.set s0.Warps (x1.toNat) (⟨(rd s0.Warps x1).Number, (rd s0.Warps x1).Frames, xs138⟩ : D.Warp)), xs136))) (0, s0.Memory, (rd s0.Warps x1).Regs, ())))))
def wp.spec_l30All (s0 : D.Block) (Q : Bool → Prop) : Prop :=
 LoopP (σ := Int × Unit) (fun (p55 : Int × Unit) next27 => match p55 with | (i23, _) => bcase (decide (i23 < (s0.Warps.length : Int))) (((0 ≤ i23 ∧ i23 < (s0.Warps.length : Int)) ∧ bcase (decide (((rd s0.Warps i23).Frames.length : Int) > 0)) (((0 ≤ i23) ∧ bcase ((bitAnd .i64 (Int.fdiv s0.Waiting (2 ^ (min (i23.toNat) (IntKind.bits .i64)))) 1) == 0) (Q false) (next27 ((wrap .i64 (i23 + 1)), ())))) (next27 ((wrap .i64 (i23 + 1)), ())))) (Q (s0.Waiting != 0))) (0, ())
def wp.spec_l30Step (s0 : D.Block) (x1 : Int) (Q : D.Block → Prop) : Prop :=
 (M.spec_l29Copy_pre s0 ∧ ∀ r25, r25 = M.spec_l29Copy s0 → (M.spec_l30Next_pre s0 x1 ∧ ∀ r41, r41 = M.spec_l30Next s0 x1 → JoinP (σ := Int × Int × (List D.Warp) × (List Int) × Unit) (fun J57 => (∀ r60, r60 = M.spec_IsLocal r41 → bcase r60 (((0 ≤ x1 ∧ x1 < (r25.Warps.length : Int)) ∧ ((0 ≤ x1 ∧ x1 < (s0.Warps.length : Int)) ∧ (M.spec_l13Step_pre s0.Code (rd s0.Warps x1) ∧ ∀ r84, r84 = M.spec_l13Step s0.Code (rd s0.Warps x1) → ((0 ≤ x1 ∧ x1 < (r25.Warps.length : Int)) ∧ J57 (r25.Waiting, r25.Phase, (List.set r25.Warps (x1.toNat) (⟨r84.Number, r84.Frames, r84.Regs⟩ : D.Warp)), r25.Memory, ())))))) ((M.spec_l30Memory_pre r25 x1 ∧ ∀ r97, r97 = M.spec_l30Memory r25 x1 → JoinP (σ := Int × Int × Unit) (fun J108 => bcase (r41.Op == 16) (((0 ≤ x1) ∧ J108 ((bitOr .i64 r97.1.Waiting (wrap .i64 (1 * 2 ^ (min (x1.toNat) (IntKind.bits .i64))))), r97.1.Phase, ()))) (J108 (r97.1.Waiting, r97.1.Phase, ()))) (fun (p151 : Int × Int × Unit) => match p151 with | (i106, i107, _) => ((0 ≤ x1 ∧ x1 < (r97.2.1.length : Int)) ∧ ((0 ≤ x1 ∧ x1 < (r97.2.1.length : Int)) ∧ ((0 ≤ x1 ∧ x1 < (r97.2.1.length : Int)) ∧ ((0 ≤ (wrap .i64 (((rd r97.2.1 x1).Frames.length : Int) - 1)) ∧ (wrap .i64 (((rd r97.2.1 x1).Frames.length : Int) - 1)) < (((rd r97.2.1 x1).Frames).length : Int)) ∧ ((0 ≤ (wrap .i64 (((rd r97.2.1 x1).Frames.length : Int) - 1)) ∧ (wrap .i64 (((rd r97.2.1 x1).Frames.length : Int) - 1)) < (((rd r97.2.1 x1).Frames).length : Int)) ∧ ((0 ≤ x1 ∧ x1 < (r97.2.1.length : Int)) ∧ (M.spec_DropFrames_pre s0.Code (⟨(rd r97.2.1 x1).Number, (List.set ((rd r97.2.1 x1).Frames) ((wrap .i64 (((rd r97.2.1 x1).Frames.length : Int) - 1)).toNat) (⟨(wrap .i64 ((rd ((rd r97.2.1 x1).Frames) (wrap .i64 (((rd r97.2.1 x1).Frames.length : Int) - 1))).Pc + 1)), (rd ((rd r97.2.1 x1).Frames) (wrap .i64 (((rd r97.2.1 x1).Frames.length : Int) - 1))).Stop, (rd ((rd r97.2.1 x1).Frames) (wrap .i64 (((rd r97.2.1 x1).Frames.length : Int) - 1))).Mask⟩ : D.Frame)), (rd r97.2.1 x1).Regs⟩ : D.Warp) ∧ ∀ r138, r138 = M.spec_DropFrames s0.Code (⟨(rd r97.2.1 x1).Number, (List.set ((rd r97.2.1 x1).Frames) ((wrap .i64 (((rd r97.2.1 x1).Frames.length : Int) - 1)).toNat) (⟨(wrap .i64 ((rd ((rd r97.2.1 x1).Frames) (wrap .i64 (((rd r97.2.1 x1).Frames.length : Int) - 1))).Pc + 1)), (rd ((rd r97.2.1 x1).Frames) (wrap .i64 (((rd r97.2.1 x1).Frames.length : Int) - 1))).Stop, (rd ((rd r97.2.1 x1).Frames) (wrap .i64 (((rd r97.2.1 x1).Frames.length : Int) - 1))).Mask⟩ : D.Frame)), (rd r97.2.1 x1).Regs⟩ : D.Warp) → ((0 ≤ x1 ∧ x1 < (r97.2.1.length : Int)) ∧ J57 (i106, i107, (List.set r97.2.1 (x1.toNat) (⟨r138.Number, r138.Frames, r138.Regs⟩ : D.Warp)), r97.2.2, ())))))))))))))) (fun (p168 : Int × Int × (List D.Warp) × (List Int) × Unit) => match p168 with | (i50, i51, xs52, xs55, _) => (M.spec_l30All_pre (⟨r25.Code, xs52, xs55, i50, i51⟩ : D.Block) ∧ ∀ r154, r154 = M.spec_l30All (⟨r25.Code, xs52, xs55, i50, i51⟩ : D.Block) → bcase r154 (Q (⟨r25.Code, xs52, xs55, 0, (wrap .i64 (i51 + 1))⟩ : D.Block)) (Q (⟨r25.Code, xs52, xs55, i50, i51⟩ : D.Block))))))
end Go.V
namespace Go.V
open IntKind (wrap)
theorem wp.spec_l30Memory.math (b : D.Block) (w : Int) (h : M.spec_l30Memory_pre b w) : wp.spec_l30Memory b w (fun r => r = M.spec_l30Memory b w) := by
 obtain ⟨hv, hl⟩ := h
 obtain ⟨h0, h1, hp, hw, hn, hok⟩ := has_warp hv.1
 obtain ⟨hi, hop⟩ := live_far hv hl
 have hlong : M.spec_ActiveMask_pre (rd b.Warps w) := by
  have := (runs_top (has_runs hv.1 hv.2)).2.2.1
  show _ ≤ _; omega
 refine ⟨⟨hv.1, hv.2⟩, fun r25 hr25 => ⟨⟨h0, h1⟩, hlong, fun r36 hr36 => ⟨⟨h0, h1⟩, ?_⟩⟩⟩
 have hr25 : r25 = M.nextI b w := hr25
 have hr36 : r36 = M.activeMask (rd b.Warps w) := hr36
 subst hr25 hr36
 have hs0 := live_mem hv
 let G : Nat → List Int × List Int := M.memTo (M.nextI b w) (M.activeMask (rd b.Warps w)) ((rd b.Warps w).Regs, b.Memory)
 have hG : ∀ k, k ≤ 8 → MemOk (G k) := fun k hk => memTo_ok hi hs0 k hk
 refine loop_n 8 (fun k => ((k : Int), (G k).2, (G k).1, ())) (fun _ => True) rfl trivial (fun k hk _ next hn => ?_) fun _ next => bcase_f (by simp) rfl
 have hn := hn trivial
 have hGk := hG k (by omega)
 have hnext : G (k + 1) = if M.hasLane (M.activeMask (rd b.Warps w)) (k : Int) then M.memStep (M.nextI b w) (G k) (k : Int) else G k := rfl
 rw [hnext] at hn
 dsimp only
 generalize G k = g at *
 generalize M.nextI b w = i at *
 generalize M.activeMask (rd b.Warps w) = m at *
 obtain ⟨l1, w1, l2, w2⟩ := hGk
 obtain ⟨a0, a1, b0, b1⟩ := hi
 have eA : wrap .i64 ((wrap .i64 ((k : Int) * 4)) + i.A) = (k : Int) * 4 + i.A := by rw [w64 (x := (k : Int) * 4) (by omega) (by omega), w64 (by omega) (by omega)]
 have eB : wrap .i64 ((wrap .i64 ((k : Int) * 4)) + i.B) = (k : Int) * 4 + i.B := by rw [w64 (x := (k : Int) * 4) (by omega) (by omega), w64 (by omega) (by omega)]
 rw [eA, eB, up64 (n := 8) hk (by omega), l1, l2]
 have wA := slot_in (all_rdI w1 (z := (k : Int) * 4 + i.A) (by omega) (by omega))
 have wB := slot_in (all_rdI w1 (z := (k : Int) * 4 + i.B) (by omega) (by omega))
 refine bcase_t (by simp; omega) fun r hr => bcase_mk (fun e => ?_) fun e => ?_
 ·have : M.hasLane m (k : Int) = false := by have hr : r = M.hasLane m (k : Int) := hr; rw [← hr]; simpa using e
  rw [if_neg (by rw [this]; simp)] at hn
  exact hn
 ·have : M.hasLane m (k : Int) = true := by have hr : r = M.hasLane m (k : Int) := hr; rw [← hr]; simpa using e
  rw [if_pos this] at hn
  unfold M.memStep at hn
  refine ⟨⟨by omega, by omega⟩, ⟨by omega, by omega⟩, bcase_mk (fun e1 => ?_) fun e1 => bcase_mk (fun e2 => ?_) fun e2 => bcase_mk (fun e3 => ?_) fun e3 => ?_⟩
  ·rw [if_pos (by simpa using e1)] at hn
   exact ⟨⟨wB.1, by omega⟩, ⟨by omega, by omega⟩, hn⟩
  ·rw [if_neg (by simpa using e1), if_pos (by simpa using e2)] at hn
   exact ⟨⟨wA.1, by omega⟩, hn⟩
  ·rw [if_neg (by simpa using e1), if_neg (by simpa using e2), if_pos (by simpa using e3)] at hn
   refine ⟨⟨wA.1, by omega⟩, fun r2 hr2 => ⟨⟨wA.1, by omega⟩, ?_⟩⟩
   have hr2 : r2 = M.addW (rd g.2 (Int.tmod (rd g.1 ((k : Int) * 4 + i.A)) 32)) (rd g.1 ((k : Int) * 4 + i.B)) := hr2
   rw [hr2]; exact hn
  ·rw [if_neg (by simpa using e1), if_neg (by simpa using e2), if_neg (by simpa using e3)] at hn
   exact hn
theorem wp.spec_l30All.math (b : D.Block) (h : M.spec_l30All_pre b) : wp.spec_l30All b (fun r => r = M.spec_l30All b) := by
 have hL : b.Warps.length ≤ 9223372036854775807 := h
 refine loop_n b.Warps.length (fun k => ((k : Int), ())) (fun k => M.allWait b k = true) rfl rfl (fun k hk hF next hn => ?_) fun hF next => ?_
 ·have hs : M.allWait b (k + 1) = (M.allWait b k && ((rd b.Warps (k : Int)).Frames.isEmpty || M.waits b (k : Int))) := rfl
  rw [hF, Bool.true_and] at hs
  dsimp only
  rw [up64 hk hL, zero_waits]
  refine bcase_t (by simp; omega) ⟨⟨by omega, by omega⟩, bcase_mk (fun e => ⟨by omega, bcase_mk (fun e2 => ?_) fun e2 => ?_⟩) fun e => ?_⟩
  ·have : M.allWait b (k + 1) = false := by
     rw [hs, show M.waits b (k : Int) = false by simpa using e2, Bool.or_false]
     simp only [decide_eq_true_eq] at e
     cases hx : (rd b.Warps (k : Int)).Frames with
     | nil => rw [hx] at e; simp at e
     | cons _ _ => rfl
   show false = M.spec_l30All b
   unfold M.spec_l30All
   rw [allWait_mono this _ (by omega), Bool.false_and]
  ·refine hn ?_
   rw [hs, show M.waits b (k : Int) = true by simpa using e2, Bool.or_true]
  ·refine hn ?_
   have : (rd b.Warps (k : Int)).Frames = [] := by
    simp only [decide_eq_false_iff_not] at e
    exact List.length_eq_zero_iff.1 (by omega)
   rw [hs, this]; rfl
 ·refine bcase_f (by simp) ?_
  show (b.Waiting != 0) = M.spec_l30All b
  unfold M.spec_l30All
  rw [hF, Bool.true_and]
theorem top_set {fs : List D.Frame} (h : fs ≠ []) (hl : fs.length ≤ 24) (h0 : 0 ≤ (M.lastF fs).Pc) (h1 : (M.lastF fs).Pc ≤ 32) :
    (List.set fs ((wrap .i64 ((fs.length : Int) - 1)).toNat) (⟨(wrap .i64 ((rd fs (wrap .i64 ((fs.length : Int) - 1))).Pc + 1)), (rd fs (wrap .i64 ((fs.length : Int) - 1))).Stop, (rd fs (wrap .i64 ((fs.length : Int) - 1))).Mask⟩ : D.Frame)) = M.setTop fs ((M.lastF fs).Pc + 1) := by
 have hpos : 0 < fs.length := List.length_pos_iff.2 h
 rw [last_wrap (by omega), show ((fs.length : Int) - 1).toNat = fs.length - 1 by omega]
 unfold M.setTop
 have e : rd fs ((fs.length : Int) - 1) = M.lastF fs := rfl
 rw [e, w64 (by omega) (by omega)]
theorem wp.spec_l30Step.math (b : D.Block) (w : Int) (h : M.spec_l30Step_pre b w) : wp.spec_l30Step b w (fun r => r = M.spec_l30Step b w) := by
 obtain ⟨hv, _, hg⟩ := go_parts h
 obtain ⟨h0, h1, hp, hw, hn, hok⟩ := has_warp hv.1
 have hfit : M.BFit b := small_fit (ok_small hok)
 obtain ⟨t1, t2, t3, t4, t5, t6, t7, t8, t9⟩ := runs_top (has_runs hv.1 hv.2)
 obtain ⟨p1, p2, p3, p4, p5, p6, p7, p8⟩ := ok_parts hok
 refine ⟨hfit, fun r25 hr25 => ?_⟩
 have hr25 : r25 = b := hr25
 subst hr25
 refine ⟨⟨hv.1, hv.2⟩, fun r41 hr41 => ?_⟩
 have hr41 : r41 = M.nextI r25 w := hr41
 subst hr41
 refine joinP_of ((M.actB r25 w).Waiting, (M.actB r25 w).Phase, (M.actB r25 w).Warps, (M.actB r25 w).Memory, ()) ?_ fun J hJ => ?_
 ·dsimp only
  rw [actB_eta]
  refine ⟨by show _ ≤ _; rw [actB_len]; omega, fun r hr => ?_⟩
  have hr : r = M.spec_l30All (M.actB r25 w) := hr
  refine bcase_mk (fun e => ?_) fun e => ?_
  ·show _ = M.stepB r25 w
   unfold M.stepB M.closeB
   rw [if_pos (hr.symm.trans e), actB_code, actB_phase, w64 (by omega) (by omega)]
  ·show _ = M.stepB r25 w
   unfold M.stepB M.closeB
   rw [if_neg (by rw [← hr, e]; simp)]
 ·refine fun r60 hr60 => bcase_mk (fun e => ?_) fun e => ?_
  all_goals have hr60 : r60 = M.isLocal (M.nextI r25 w) := hr60
  ·have hl := hr60.symm.trans e
   refine ⟨⟨h0, h1⟩, ⟨h0, h1⟩, hg hl, fun r84 hr84 => ⟨⟨h0, h1⟩, ?_⟩⟩
   have hr84 : r84 = M.stepW r25.Code (rd r25.Warps w) := hr84
   rw [show M.actB r25 w = M.setWarp r25 w (M.stepW r25.Code (rd r25.Warps w)) from if_pos hl] at hJ
   rw [hr84]
   exact hJ
  ·have hl := hr60.symm.trans e
   have hB : M.actB r25 w = ⟨r25.Code, r25.Warps.set w.toNat (M.passTop r25.Code (rd (M.accessB r25 w (M.nextI r25 w)).Warps w)), (M.accessB r25 w (M.nextI r25 w)).Memory, if (M.nextI r25 w).Op = 16 then bitOr .i64 r25.Waiting (M.bitAt w) else r25.Waiting, r25.Phase⟩ := if_neg (by rw [hl]; simp)
   refine ⟨⟨hv, hl⟩, fun r97 hr97 => ?_⟩
   have hr97 : r97 = M.spec_l30Memory r25 w := hr97
   subst hr97
   refine joinP_of ((M.actB r25 w).Waiting, (M.actB r25 w).Phase, ()) ?_ fun J2 hJ2 => ?_
   ·dsimp only
    have hX := access_warp (i := M.nextI r25 w) h0 h1
    have hlen : (M.accessB r25 w (M.nextI r25 w)).Warps.length = r25.Warps.length := by simp [M.accessB]
    have hset : ∀ y : D.Warp, List.set (M.accessB r25 w (M.nextI r25 w)).Warps w.toNat y = r25.Warps.set w.toNat y := fun y => by simp [M.accessB]
    have hF : (rd (M.accessB r25 w (M.nextI r25 w)).Warps w).Frames = (rd r25.Warps w).Frames := by rw [hX]
    have i0 : (0 ≤ w ∧ w < ((M.spec_l30Memory r25 w).2.1.length : Int)) := ⟨h0, by show w < ((M.accessB r25 w (M.nextI r25 w)).Warps.length : Int); rw [hlen]; exact h1⟩
    have e2 : (M.spec_l30Memory r25 w).2.1 = (M.accessB r25 w (M.nextI r25 w)).Warps := rfl
    rw [e2] at *
    rw [hF, top_set hv.2 t3 t5 (by show M.topPc (rd r25.Warps w) ≤ 32; omega)]
    have j0 : (0 ≤ (wrap .i64 (((rd r25.Warps w).Frames.length : Int) - 1)) ∧ (wrap .i64 (((rd r25.Warps w).Frames.length : Int) - 1)) < (((rd r25.Warps w).Frames).length : Int)) := by
     rw [last_wrap (by omega)]; omega
    refine ⟨i0, i0, i0, j0, j0, i0, ?_, fun r hr => ⟨i0, ?_⟩⟩
    ·show _ ≤ _ ∧ _ ≤ _
     rw [hX]
     simp only [M.setTop, List.length_set, (memAll_ok hv hl).l1]
     omega
    ·have hr : r = M.passTop r25.Code (rd (M.accessB r25 w (M.nextI r25 w)).Warps w) := by
       rw [hr]
       show M.dropW _ _ = M.dropW _ _
       rw [hF]
       unfold M.topPc
       rw [hF]
     rw [hset, hr]
     rw [hB] at hJ ⊢
     exact hJ
   ·rw [hB] at hJ2
    refine bcase_mk (fun e2 => ⟨h0, ?_⟩) fun e2 => ?_
    ·dsimp only at hJ2
     rw [if_pos (by simpa using e2)] at hJ2
     exact hJ2
    ·dsimp only at hJ2
     rw [if_neg (by simpa using e2)] at hJ2
     exact hJ2
end Go.V
namespace Go.V
open IntKind (wrap)
def wp.impl_Block_access (s0 : D.Block) (x1 : Int) (s2 : D.Ins) (Q : D.Block → Prop) : Prop :=
 ((0 ≤ x1 ∧ x1 < (s0.Warps.length : Int)) ∧ (M.impl_ActiveMask_pre (rd s0.Warps x1) ∧ ∀ r25, r25 = M.impl_ActiveMask (rd s0.Warps x1) → (∀ r30, r30 = M.impl_LanesOf r25 → LoopP (σ := Int × (List D.Warp) × (List Int) × Unit) (fun (p271 : Int × (List D.Warp) × (List Int) × Unit) next150 => match p271 with | (i141, xs142, xs145, _) => bcase (decide (i141 < (r30.length : Int))) (((0 ≤ i141 ∧ i141 < (r30.length : Int)) ∧ ((0 ≤ x1 ∧ x1 < (xs142.length : Int)) ∧ (M.impl_Warp_lane_pre (rd xs142 x1) (rd r30 i141) ∧ bcase (s2.Op == 13) (((0 ≤ s2.B ∧ s2.B < ((List.drop ((wrap .i64 ((rd r30 i141) * 4)).toNat) (List.take ((wrap .i64 ((wrap .i64 ((rd r30 i141) + 1)) * 4)).toNat) ((rd xs142 x1).Regs))).length : Int)) ∧ ((0 ≤ (Int.tmod (rd (List.drop ((wrap .i64 ((rd r30 i141) * 4)).toNat) (List.take ((wrap .i64 ((wrap .i64 ((rd r30 i141) + 1)) * 4)).toNat) ((rd xs142 x1).Regs))) s2.B) 32) ∧ (Int.tmod (rd (List.drop ((wrap .i64 ((rd r30 i141) * 4)).toNat) (List.take ((wrap .i64 ((wrap .i64 ((rd r30 i141) + 1)) * 4)).toNat) ((rd xs142 x1).Regs))) s2.B) 32) < (xs145.length : Int)) ∧ ((0 ≤ s2.A ∧ s2.A < ((List.drop ((wrap .i64 ((rd r30 i141) * 4)).toNat) (List.take ((wrap .i64 ((wrap .i64 ((rd r30 i141) + 1)) * 4)).toNat) ((rd xs142 x1).Regs))).length : Int)) ∧ next150 ((wrap .i64 (i141 + 1)), (List.set xs142 (x1.toNat) (⟨(rd xs142 x1).Number, (rd xs142 x1).Frames, (List.set ((rd xs142 x1).Regs) (((wrap .i64 ((rd r30 i141) * 4)).toNat) + (s2.A.toNat)) (rd xs145 (Int.tmod (rd (List.drop ((wrap .i64 ((rd r30 i141) * 4)).toNat) (List.take ((wrap .i64 ((wrap .i64 ((rd r30 i141) + 1)) * 4)).toNat) ((rd xs142 x1).Regs))) s2.B) 32)))⟩ : D.Warp)), xs145, ()))))) (bcase (s2.Op == 14) (((0 ≤ s2.A ∧ s2.A < ((List.drop ((wrap .i64 ((rd r30 i141) * 4)).toNat) (List.take ((wrap .i64 ((wrap .i64 ((rd r30 i141) + 1)) * 4)).toNat) ((rd xs142 x1).Regs))).length : Int)) ∧ ((0 ≤ s2.B ∧ s2.B < ((List.drop ((wrap .i64 ((rd r30 i141) * 4)).toNat) (List.take ((wrap .i64 ((wrap .i64 ((rd r30 i141) + 1)) * 4)).toNat) ((rd xs142 x1).Regs))).length : Int)) ∧ ((0 ≤ (Int.tmod (rd (List.drop ((wrap .i64 ((rd r30 i141) * 4)).toNat) (List.take ((wrap .i64 ((wrap .i64 ((rd r30 i141) + 1)) * 4)).toNat) ((rd xs142 x1).Regs))) s2.A) 32) ∧ (Int.tmod (rd (List.drop ((wrap .i64 ((rd r30 i141) * 4)).toNat) (List.take ((wrap .i64 ((wrap .i64 ((rd r30 i141) + 1)) * 4)).toNat) ((rd xs142 x1).Regs))) s2.A) 32) < (xs145.length : Int)) ∧ next150 ((wrap .i64 (i141 + 1)), xs142, (List.set xs145 ((Int.tmod (rd (List.drop ((wrap .i64 ((rd r30 i141) * 4)).toNat) (List.take ((wrap .i64 ((wrap .i64 ((rd r30 i141) + 1)) * 4)).toNat) ((rd xs142 x1).Regs))) s2.A) 32).toNat) (rd (List.drop ((wrap .i64 ((rd r30 i141) * 4)).toNat) (List.take ((wrap .i64 ((wrap .i64 ((rd r30 i141) + 1)) * 4)).toNat) ((rd xs142 x1).Regs))) s2.B)), ()))))) (bcase (s2.Op == 15) (((0 ≤ s2.A ∧ s2.A < ((List.drop ((wrap .i64 ((rd r30 i141) * 4)).toNat) (List.take ((wrap .i64 ((wrap .i64 ((rd r30 i141) + 1)) * 4)).toNat) ((rd xs142 x1).Regs))).length : Int)) ∧ ((0 ≤ (Int.tmod (rd (List.drop ((wrap .i64 ((rd r30 i141) * 4)).toNat) (List.take ((wrap .i64 ((wrap .i64 ((rd r30 i141) + 1)) * 4)).toNat) ((rd xs142 x1).Regs))) s2.A) 32) ∧ (Int.tmod (rd (List.drop ((wrap .i64 ((rd r30 i141) * 4)).toNat) (List.take ((wrap .i64 ((wrap .i64 ((rd r30 i141) + 1)) * 4)).toNat) ((rd xs142 x1).Regs))) s2.A) 32) < (xs145.length : Int)) ∧ ((0 ≤ s2.B ∧ s2.B < ((List.drop ((wrap .i64 ((rd r30 i141) * 4)).toNat) (List.take ((wrap .i64 ((wrap .i64 ((rd r30 i141) + 1)) * 4)).toNat) ((rd xs142 x1).Regs))).length : Int)) ∧ (∀ r248, r248 = M.impl_AddWords (rd xs145 (Int.tmod (rd (List.drop ((wrap .i64 ((rd r30 i141) * 4)).toNat) (List.take ((wrap .i64 ((wrap .i64 ((rd r30 i141) + 1)) * 4)).toNat) ((rd xs142 x1).Regs))) s2.A) 32)) (rd (List.drop ((wrap .i64 ((rd r30 i141) * 4)).toNat) (List.take ((wrap .i64 ((wrap .i64 ((rd r30 i141) + 1)) * 4)).toNat) ((rd xs142 x1).Regs))) s2.B) → ((0 ≤ (Int.tmod (rd (List.drop ((wrap .i64 ((rd r30 i141) * 4)).toNat) (List.take ((wrap .i64 ((wrap .i64 ((rd r30 i141) + 1)) * 4)).toNat) ((rd xs142 x1).Regs))) s2.A) 32) ∧ (Int.tmod (rd (List.drop ((wrap .i64 ((rd r30 i141) * 4)).toNat) (List.take ((wrap .i64 ((wrap .i64 ((rd r30 i141) + 1)) * 4)).toNat) ((rd xs142 x1).Regs))) s2.A) 32) < (xs145.length : Int)) ∧ next150 ((wrap .i64 (i141 + 1)), xs142, (List.set xs145 ((Int.tmod (rd (List.drop ((wrap .i64 ((rd r30 i141) * 4)).toNat) (List.take ((wrap .i64 ((wrap .i64 ((rd r30 i141) + 1)) * 4)).toNat) ((rd xs142 x1).Regs))) s2.A) 32).toNat) r248), ()))))))) (next150 ((wrap .i64 (i141 + 1)), xs142, xs145, ())))))))) (Q (⟨s0.Code, xs142, xs145, s0.Waiting, s0.Phase⟩ : D.Block))) (0, s0.Warps, s0.Memory, ()))))
def wp.impl_Block_pass (s0 : D.Block) (x1 : Int) (Q : (Bool × D.Block) → Prop) : Prop :=
 (M.impl_Block_nextIns_pre s0 x1 ∧ ∀ r21, r21 = M.impl_Block_nextIns s0 x1 → JoinP (σ := (List D.Warp) × Int × Int × (List Int) × Unit) (fun J38 => (∀ r41, r41 = M.impl_IsLocal r21.1 → bcase r41 (((0 ≤ x1 ∧ x1 < (s0.Warps.length : Int)) ∧ ((0 ≤ x1 ∧ x1 < (s0.Warps.length : Int)) ∧ (M.impl_Warp_pass_pre (rd s0.Warps x1) s0.Code ∧ ∀ r51, r51 = M.impl_Warp_pass (rd s0.Warps x1) s0.Code → J38 ((List.set s0.Warps (x1.toNat) (⟨r51.2.Number, r51.2.Frames, r51.2.Regs⟩ : D.Warp)), s0.Waiting, s0.Phase, s0.Memory, ()))))) (JoinP (σ := (List D.Warp) × Int × Int × (List Int) × Unit) (fun J68 => bcase (r21.1.Op == 16) (((0 ≤ x1) ∧ J68 (s0.Warps, (bitOr .i64 s0.Waiting (wrap .i64 (1 * 2 ^ (min (x1.toNat) (IntKind.bits .i64))))), s0.Phase, s0.Memory, ()))) ((M.impl_Block_access_pre s0 x1 r21.1 ∧ ∀ r74, r74 = M.impl_Block_access s0 x1 r21.1 → J68 (r74.Warps, r74.Waiting, r74.Phase, r74.Memory, ())))) (fun (p111 : (List D.Warp) × Int × Int × (List Int) × Unit) => match p111 with | (xs61, i64, i65, xs66, _) => ((0 ≤ x1 ∧ x1 < (xs61.length : Int)) ∧ ((0 ≤ (wrap .i64 (((rd xs61 x1).Frames.length : Int) - 1)) ∧ (wrap .i64 (((rd xs61 x1).Frames.length : Int) - 1)) < (((rd xs61 x1).Frames).length : Int)) ∧ ((0 ≤ (wrap .i64 (((rd xs61 x1).Frames.length : Int) - 1)) ∧ (wrap .i64 (((rd xs61 x1).Frames.length : Int) - 1)) < (((rd xs61 x1).Frames).length : Int)) ∧ ((0 ≤ x1 ∧ x1 < (xs61.length : Int)) ∧ (M.impl_Warp_drop_pre (⟨(rd xs61 x1).Number, (List.set ((rd xs61 x1).Frames) ((wrap .i64 (((rd xs61 x1).Frames.length : Int) - 1)).toNat) (⟨(wrap .i64 ((rd ((rd xs61 x1).Frames) (wrap .i64 (((rd xs61 x1).Frames.length : Int) - 1))).Pc + 1)), (rd ((rd xs61 x1).Frames) (wrap .i64 (((rd xs61 x1).Frames.length : Int) - 1))).Stop, (rd ((rd xs61 x1).Frames) (wrap .i64 (((rd xs61 x1).Frames.length : Int) - 1))).Mask⟩ : D.Frame)), (rd xs61 x1).Regs⟩ : D.Warp) (s0.Code.length : Int) ∧ ∀ r103, r103 = M.impl_Warp_drop (⟨(rd xs61 x1).Number, (List.set ((rd xs61 x1).Frames) ((wrap .i64 (((rd xs61 x1).Frames.length : Int) - 1)).toNat) (⟨(wrap .i64 ((rd ((rd xs61 x1).Frames) (wrap .i64 (((rd xs61 x1).Frames.length : Int) - 1))).Pc + 1)), (rd ((rd xs61 x1).Frames) (wrap .i64 (((rd xs61 x1).Frames.length : Int) - 1))).Stop, (rd ((rd xs61 x1).Frames) (wrap .i64 (((rd xs61 x1).Frames.length : Int) - 1))).Mask⟩ : D.Frame)), (rd xs61 x1).Regs⟩ : D.Warp) (s0.Code.length : Int) → J38 ((List.set xs61 (x1.toNat) (⟨r103.Number, r103.Frames, (rd xs61 x1).Regs⟩ : D.Warp)), i64, i65, xs66, ())))))))))) (fun (p149 : (List D.Warp) × Int × Int × (List Int) × Unit) => match p149 with | (xs31, i34, i35, xs36, _) => bcase (i34 == 0) (Q (true, (⟨s0.Code, xs31, xs36, i34, i35⟩ : D.Block))) (LoopP (σ := Int × Unit) (fun (p144 : Int × Unit) next118 => match p144 with | (i114, _) => bcase (decide (i114 < (xs31.length : Int))) (((0 ≤ i114 ∧ i114 < (xs31.length : Int)) ∧ (M.impl_Block_waits_pre (⟨s0.Code, xs31, xs36, i34, i35⟩ : D.Block) i114 ∧ ∀ r126, r126 = M.impl_Block_waits (⟨s0.Code, xs31, xs36, i34, i35⟩ : D.Block) i114 → bcase (!r126) (bcase (decide (((rd xs31 i114).Frames.length : Int) > 0)) (Q (true, (⟨s0.Code, xs31, xs36, i34, i35⟩ : D.Block))) (next118 ((wrap .i64 (i114 + 1)), ()))) (next118 ((wrap .i64 (i114 + 1)), ()))))) (Q ((decide ((wrap .i64 (i35 + 1)) ≤ 100000)), (⟨s0.Code, xs31, xs36, 0, (wrap .i64 (i35 + 1))⟩ : D.Block)))) (0, ()))))
end Go.V
namespace Go.V
open IntKind (wrap)
theorem setW_same {ws : List D.Warp} {w : Int} : ws.set w.toNat ⟨(rd ws w).Number, (rd ws w).Frames, (rd ws w).Regs⟩ = ws := set_rd ws w
theorem wp.impl_Block_access.math (b : D.Block) (w : Int) (i : D.Ins) (h : M.impl_Block_access_pre b w i) : wp.impl_Block_access b w i (fun r => r = M.impl_Block_access b w i) := by
 obtain ⟨hv, rfl, hl⟩ := h
 obtain ⟨h0, h1, hp, hw, hn, hok⟩ := has_warp hv.1
 obtain ⟨hi, hop⟩ := live_far hv hl
 have hlong : M.impl_ActiveMask_pre (rd b.Warps w) := by
  have := (runs_top (has_runs hv.1 hv.2)).2.2.1
  show _ ≤ _; omega
 refine ⟨⟨h0, h1⟩, hlong, fun r25 hr25 r30 hr30 => ?_⟩
 have hr25 : r25 = M.activeMask (rd b.Warps w) := hr25
 have hr30 : r30 = M.lanesOf r25 := hr30
 have hmem : ∀ k ∈ r30, 0 ≤ k ∧ k ≤ 7 := fun k hk => lanes_in (m := r25) (hr30 ▸ hk)
 have hlen : r30.length ≤ 8 := by rw [hr30]; exact List.length_filter_le _ _
 have hs0 := live_mem hv
 have hfin : M.memAll (M.nextI b w) (rd b.Warps w) b.Memory = r30.foldl (M.memStep (M.nextI b w)) ((rd b.Warps w).Regs, b.Memory) := by rw [hr30, hr25]; exact memFold
 let G : Nat → List Int × List Int := fun k => (r30.take k).foldl (M.memStep (M.nextI b w)) ((rd b.Warps w).Regs, b.Memory)
 have hG : ∀ k, MemOk (G k) := fun k => fold_ok hi _ _ hs0 fun j hj => hmem j (List.mem_of_mem_take hj)
 refine loop_n r30.length (fun k => ((k : Int), b.Warps.set w.toNat ⟨(rd b.Warps w).Number, (rd b.Warps w).Frames, (G k).1⟩, (G k).2, ())) (fun _ => True) (by rw [show (G 0) = ((rd b.Warps w).Regs, b.Memory) from rfl, setW_same]; rfl) trivial (fun k hk _ next hn => ?_) fun _ next => ?_
 ·have hn := hn trivial
  have hGk := hG k
  have hnext : G (k + 1) = M.memStep (M.nextI b w) (G k) (rd r30 (k : Int)) := by
   show (r30.take (k + 1)).foldl _ _ = _
   rw [List.take_add_one, List.getElem?_eq_getElem hk, Option.toList_some, List.foldl_append, ← rd_nat hk]
   rfl
  rw [hnext] at hn
  have hm := hmem _ (rd_mem hk)
  dsimp only
  generalize G k = g at *
  generalize M.nextI b w = i at *
  generalize rd r30 (k : Int) = l at *
  obtain ⟨l1, w1, l2, w2⟩ := hGk
  obtain ⟨a0, a1, b0, b1⟩ := hi
  have eX : rd (b.Warps.set w.toNat (⟨(rd b.Warps w).Number, (rd b.Warps w).Frames, g.1⟩ : D.Warp)) w = ⟨(rd b.Warps w).Number, (rd b.Warps w).Frames, g.1⟩ := rd_set h0 (by simpa using h1)
  have c1 : wrap .i64 (l * 4) = l * 4 := w64 (by omega) (by omega)
  have c2 : wrap .i64 ((wrap .i64 (l + 1)) * 4) = l * 4 + 4 := by rw [w64 (x := l + 1) (by omega) (by omega), w64 (by omega) (by omega)]; omega
  have hA : rd ((g.1.take (l * 4 + 4).toNat).drop (l * 4).toNat) i.A = rd g.1 (l * 4 + i.A) := by
   rw [rd_cut a0 (by omega) (by omega)]; congr 1; omega
  have hB : rd ((g.1.take (l * 4 + 4).toNat).drop (l * 4).toNat) i.B = rd g.1 (l * 4 + i.B) := by
   rw [rd_cut b0 (by omega) (by omega)]; congr 1; omega
  have hcl : ((g.1.take (l * 4 + 4).toNat).drop (l * 4).toNat).length = 4 := by simp; omega
  have wA := slot_in (all_rdI w1 (z := l * 4 + i.A) (by omega) (by omega))
  have wB := slot_in (all_rdI w1 (z := l * 4 + i.B) (by omega) (by omega))
  rw [eX]
  dsimp only
  rw [c1, c2, hA, hB, hcl, l2, up64 hk (by omega), List.length_set, show (l * 4).toNat + i.A.toNat = (l * 4 + i.A).toNat by omega, List.set_set]
  unfold M.memStep at hn
  refine bcase_t (by simp; omega) ⟨⟨by omega, by omega⟩, ⟨h0, h1⟩, ⟨l1, hm⟩, bcase_mk (fun e1 => ?_) fun e1 => bcase_mk (fun e2 => ?_) fun e2 => bcase_mk (fun e3 => ?_) fun e3 => ?_⟩
  ·rw [if_pos (by simpa using e1)] at hn
   exact ⟨⟨by omega, by omega⟩, ⟨wB.1, by omega⟩, ⟨by omega, by omega⟩, hn⟩
  ·rw [if_neg (by simpa using e1), if_pos (by simpa using e2)] at hn
   exact ⟨⟨by omega, by omega⟩, ⟨by omega, by omega⟩, ⟨wA.1, by omega⟩, hn⟩
  ·rw [if_neg (by simpa using e1), if_neg (by simpa using e2), if_pos (by simpa using e3)] at hn
   refine ⟨⟨by omega, by omega⟩, ⟨wA.1, by omega⟩, ⟨by omega, by omega⟩, fun r2 hr2 => ⟨⟨wA.1, by omega⟩, ?_⟩⟩
   have hr2 : r2 = M.addW (rd g.2 (Int.tmod (rd g.1 (l * 4 + i.A)) 32)) (rd g.1 (l * 4 + i.B)) := hr2
   rw [hr2]; exact hn
  ·rw [if_neg (by simpa using e1), if_neg (by simpa using e2), if_neg (by simpa using e3)] at hn
   exact hn
 ·refine bcase_f (by simp) ?_
  show _ = M.accessB b w (M.nextI b w)
  unfold M.accessB
  rw [hfin, show G r30.length = r30.foldl (M.memStep (M.nextI b w)) ((rd b.Warps w).Regs, b.Memory) by show (r30.take r30.length).foldl _ _ = _; rw [List.take_length]]
theorem wp.impl_Block_pass.math (b : D.Block) (w : Int) (h : M.impl_Block_pass_pre b w) : wp.impl_Block_pass b w (fun r => r = M.impl_Block_pass b w) := by
 obtain ⟨hv, _, hg⟩ := go_parts h
 obtain ⟨h0, h1, hp, hw, hn, hok⟩ := has_warp hv.1
 obtain ⟨t1, t2, t3, t4, t5, t6, t7, t8, t9⟩ := runs_top (has_runs hv.1 hv.2)
 obtain ⟨p1, p2, p3, p4, p5, p6, p7, p8⟩ := ok_parts hok
 refine ⟨hv.1, fun r21 hr21 => ?_⟩
 have hem : (rd b.Warps w).Frames.isEmpty = false := by simpa using hv.2
 have hr21 : r21 = (M.nextI b w, true) := by
  rw [hr21]
  unfold M.impl_Block_nextIns
  rw [if_neg (by rw [hem]; simp)]
 subst hr21
 dsimp only
 refine joinP_of ((M.actB b w).Warps, (M.actB b w).Waiting, (M.actB b w).Phase, (M.actB b w).Memory, ()) ?_ fun J hJ => ?_
 ·dsimp only
  rw [actB_eta]
  have hph : (M.actB b w).Phase = b.Phase := actB_phase b w
  have hcode := actB_code b w
  have open_ : M.spec_l30All (M.actB b w) = false → (true, M.actB b w) = M.impl_Block_pass b w := fun e => by
   unfold M.impl_Block_pass M.stepB M.closeB
   rw [e, if_neg (by simp), hph]
   simp only [Prod.mk.injEq, and_true]
   exact (decide_eq_true p7).symm
  refine bcase_mk (fun e => ?_) fun e => ?_
  ·refine open_ ?_
   unfold M.spec_l30All
   have : (M.actB b w).Waiting = 0 := by simpa using e
   rw [this, Bool.and_eq_false_iff]; right; rfl
  ·have hL : (M.actB b w).Warps.length ≤ 9223372036854775807 := by rw [actB_len]; omega
   refine loop_n (M.actB b w).Warps.length (fun k => ((k : Int), ())) (fun k => M.allWait (M.actB b w) k = true) rfl rfl (fun k hk hF next hnx => ?_) fun hF next => ?_
   ·have hs : M.allWait (M.actB b w) (k + 1) = (M.allWait (M.actB b w) k && ((rd (M.actB b w).Warps (k : Int)).Frames.isEmpty || M.waits (M.actB b w) (k : Int))) := rfl
    rw [hF, Bool.true_and] at hs
    dsimp only
    rw [up64 hk hL]
    refine bcase_t (by simp; omega) ⟨⟨by omega, by omega⟩, by show (0 : Int) ≤ _; omega, fun r hr => ?_⟩
    have hr : r = M.waits (M.actB b w) (k : Int) := hr
    refine bcase_mk (fun e2 => bcase_mk (fun e3 => ?_) fun e3 => ?_) fun e2 => ?_
    ·refine open_ ?_
     have : M.allWait (M.actB b w) (k + 1) = false := by
      rw [hs, show M.waits (M.actB b w) (k : Int) = false by rw [← hr]; simpa using e2, Bool.or_false]
      simp only [decide_eq_true_eq] at e3
      cases hx : (rd (M.actB b w).Warps (k : Int)).Frames with
      | nil => rw [hx] at e3; simp at e3
      | cons _ _ => rfl
     unfold M.spec_l30All
     rw [allWait_mono this _ (by omega), Bool.false_and]
    ·refine hnx ?_
     have : (rd (M.actB b w).Warps (k : Int)).Frames = [] := by
      simp only [decide_eq_false_iff_not] at e3
      exact List.length_eq_zero_iff.1 (by omega)
     rw [hs, this]; rfl
    ·refine hnx ?_
     rw [hs, show M.waits (M.actB b w) (k : Int) = true by rw [← hr]; simpa using e2, Bool.or_true]
   ·refine bcase_f (by simp) ?_
    have : M.spec_l30All (M.actB b w) = true := by
     unfold M.spec_l30All
     rw [hF, Bool.true_and]
     simpa using e
    show _ = M.impl_Block_pass b w
    unfold M.impl_Block_pass M.stepB M.closeB
    rw [if_pos this, hcode, hph, w64 (by omega) (by omega)]
 ·refine fun r41 hr41 => bcase_mk (fun e => ?_) fun e => ?_
  all_goals have hr41 : r41 = M.isLocal (M.nextI b w) := hr41
  ·have hl := hr41.symm.trans e
   have hgo := hg hl
   refine ⟨⟨h0, h1⟩, ⟨h0, h1⟩, ⟨hp, hw⟩, fun r51 hr51 => ?_⟩
   have hr51 : r51 = (true, M.stepW b.Code (rd b.Warps w)) := by
    rw [hr51]
    unfold M.impl_Warp_pass
    rw [if_pos hgo.2]
   subst hr51
   rw [show M.actB b w = M.setWarp b w (M.stepW b.Code (rd b.Warps w)) from if_pos hl] at hJ
   exact hJ
  ·have hl := hr41.symm.trans e
   have hB : M.actB b w = ⟨b.Code, b.Warps.set w.toNat (M.passTop b.Code (rd (M.accessB b w (M.nextI b w)).Warps w)), (M.accessB b w (M.nextI b w)).Memory, if (M.nextI b w).Op = 16 then bitOr .i64 b.Waiting (M.bitAt w) else b.Waiting, b.Phase⟩ := if_neg (by rw [hl]; simp)
   have hX := access_warp (i := M.nextI b w) h0 h1
   have hset : ∀ y : D.Warp, List.set (M.accessB b w (M.nextI b w)).Warps w.toNat y = b.Warps.set w.toNat y := fun y => by simp [M.accessB]
   have hF : (rd (M.accessB b w (M.nextI b w)).Warps w).Frames = (rd b.Warps w).Frames := by rw [hX]
   have hlen : (M.accessB b w (M.nextI b w)).Warps.length = b.Warps.length := by simp [M.accessB]
   refine joinP_of ((M.accessB b w (M.nextI b w)).Warps, (M.actB b w).Waiting, b.Phase, (M.accessB b w (M.nextI b w)).Memory, ()) ?_ fun J2 hJ2 => ?_
   ·dsimp only
    have i0 : (0 ≤ w ∧ w < ((M.accessB b w (M.nextI b w)).Warps.length : Int)) := ⟨h0, by rw [hlen]; exact h1⟩
    rw [hF, top_set hv.2 t3 t5 (by show M.topPc (rd b.Warps w) ≤ 32; omega)]
    have j0 : (0 ≤ (wrap .i64 (((rd b.Warps w).Frames.length : Int) - 1)) ∧ (wrap .i64 (((rd b.Warps w).Frames.length : Int) - 1)) < (((rd b.Warps w).Frames).length : Int)) := by
     rw [last_wrap (by omega)]; omega
    refine ⟨i0, j0, j0, i0, by show _ ≤ _; simp only [M.setTop, List.length_set]; omega, fun r hr => ?_⟩
    have hr : r = M.passTop b.Code (rd (M.accessB b w (M.nextI b w)).Warps w) := by
     rw [hr]
     show M.dropW _ _ = M.dropW _ _
     unfold M.topPc
     rw [hF]
    have hrr : (rd (M.accessB b w (M.nextI b w)).Warps w).Regs = r.Regs := by rw [hr]; rfl
    rw [hset, hrr]
    show J (b.Warps.set w.toNat r, _)
    rw [hr]
    rw [hB] at hJ ⊢
    exact hJ
   ·refine bcase_mk (fun e2 => ⟨h0, ?_⟩) fun e2 => ⟨⟨hv, rfl, hl⟩, fun r hr => ?_⟩
    ·have e2 : (M.nextI b w).Op = 16 := by simpa using e2
     have hacc : M.memAll (M.nextI b w) (rd b.Warps w) b.Memory = ((rd b.Warps w).Regs, b.Memory) := by
      rw [M.memAll, memFold]
      have st : ∀ (s : List Int × List Int) (k : Int), M.memStep (M.nextI b w) s k = s := fun s k => by
       unfold M.memStep
       rw [if_neg (by omega), if_neg (by omega), if_neg (by omega)]
      generalize M.lanesOf (M.activeMask (rd b.Warps w)) = l
      induction l with
      | nil => rfl
      | cons k l ih => rw [List.foldl_cons, st, ih]
     have hac : M.accessB b w (M.nextI b w) = b := by
      unfold M.accessB
      rw [hacc, setW_same]
     rw [hB] at hJ2
     dsimp only at hJ2
     rw [if_pos e2, hac] at hJ2
     exact hJ2
    ·have hr : r = M.accessB b w (M.nextI b w) := hr
     subst hr
     rw [hB] at hJ2
     dsimp only at hJ2
     rw [if_neg (by simpa using e2)] at hJ2
     exact hJ2
end Go.V
namespace Go.V
open IntKind (wrap)
theorem pickFrom_can {b : D.Block} (h : M.Good b) {f : Int} (hf : 0 ≤ f) : ∀ (r : Nat) (k : Int), 0 ≤ k → ¬ M.pickFrom b b.Warps.length f r k < 0 → M.CanGo b (M.pickFrom b b.Warps.length f r k)
 | 0, k, _, hn => (hn (by show (-1 : Int) < 0; omega)).elim
 | r + 1, k, hk, hn => by
  have hc := good_count h
  have ht := tmod_in2 (x := f + k) (n := b.Warps.length) (by omega) (by omega)
  unfold M.pickFrom at hn ⊢
  by_cases e : M.canGo b (Int.tmod (f + k) b.Warps.length) = true
  ·rw [if_pos e]; exact ⟨good_has h ht.1 ht.2, e⟩
  ·rw [if_neg e] at hn ⊢
   exact pickFrom_can h hf r (k + 1) (by omega) hn
theorem pick_can {b : D.Block} (h : M.Good b) {q : Int} (hq : 0 ≤ q) (hn : ¬ M.pick b q < 0) : M.CanGo b (M.pick b q) := by
 have hc := good_count h
 exact pickFrom_can h (tmod_in2 (x := q) (n := b.Warps.length) hq (by omega)).1 _ _ (Int.le_refl _) hn
theorem stops_f {f : Nat → Int} {x : D.Block} {k : Nat} (h : M.stops f x k = false) : 0 ≤ f k ∧ x.Phase ≠ 100000 ∧ ¬ M.pick x (f k) < 0 := by
 simp only [M.stops, Bool.or_eq_false_iff, decide_eq_false_iff_not, beq_eq_false_iff_ne] at h
 exact ⟨by omega, h.2.1, h.2.2⟩
theorem good_step {f : Nat → Int} {x : D.Block} {k : Nat} (h : M.Good x) (hs : M.stops f x k = false) : M.CanGo x (M.pick x (f k)) ∧ M.Good (M.stepB x (M.pick x (f k))) := by
 obtain ⟨h0, h1, h2⟩ := stops_f hs
 have hc := pick_can h h0 h2
 have hp := (ok_parts h.2).2.2.2.2.2.2.1
 have hok := stepB_ok hc (by rcases stepB_phase x (M.pick x (f k)) with e | e <;> omega)
 exact ⟨hc, small_long (ok_small hok), hok⟩
theorem goTo_good {f : Nat → Int} : ∀ (m : Nat) (x : D.Block) (k : Nat), M.Good x → M.Good (M.goTo f m x k).1
 | 0, x, k, h => h
 | m + 1, x, k, h => by
  unfold M.goTo
  by_cases e : M.stops f x k = true
  ·rw [if_pos e]; exact h
  ·rw [if_neg e]; exact goTo_good m _ _ (good_step h (Bool.eq_false_iff.2 e)).2
theorem goTo_code {f : Nat → Int} : ∀ (m : Nat) (x : D.Block) (k : Nat), (M.goTo f m x k).1.Code = x.Code
 | 0, x, k => rfl
 | m + 1, x, k => by
  unfold M.goTo
  split
  ·rfl
  ·rw [goTo_code m, stepB_code]
theorem goAt_code (f : Nat → Int) (b : D.Block) : ∀ k, (M.goAt f b k).Code = b.Code
 | 0 => rfl
 | k + 1 => by unfold M.goAt; rw [stepB_code, goAt_code f b k]
structure GoI (f : Nat → Int) (b : D.Block) (n k : Nat) : Prop where
 good : M.Good (M.goAt f b k)
 code : (M.goAt f b k).Code = b.Code
 run : M.goTo f n b 0 = M.goTo f (n - k) (M.goAt f b k) k
theorem goI_zero {f : Nat → Int} {b : D.Block} (h : M.Good b) (n : Nat) : GoI f b n 0 := ⟨h, rfl, rfl⟩
theorem goI_go {f : Nat → Int} {b : D.Block} {n k : Nat} (h : GoI f b n k) (hk : k < n) (hs : M.stops f (M.goAt f b k) k = false) : GoI f b n (k + 1) := by
 refine ⟨(good_step h.good hs).2, goAt_code f b (k + 1), ?_⟩
 rw [h.run, show n - k = (n - (k + 1)) + 1 by omega, M.goTo, if_neg (by rw [hs]; simp)]
 rfl
theorem goI_stop {f : Nat → Int} {b : D.Block} {n k : Nat} (h : GoI f b n k) (hk : k < n) (hs : M.stops f (M.goAt f b k) k = true) : M.goTo f n b 0 = (M.goAt f b k, (k : Int)) := by
 rw [h.run, show n - k = (n - (k + 1)) + 1 by omega, M.goTo, if_pos hs]
theorem goI_end {f : Nat → Int} {b : D.Block} {n : Nat} (h : GoI f b n n) : M.goTo f n b 0 = (M.goAt f b n, (n : Int)) := by
 rw [h.run, Nat.sub_self]; rfl
theorem blk_eta {c : List D.Ins} {x : D.Block} (h : x.Code = c) : (⟨c, x.Warps, x.Memory, x.Waiting, x.Phase⟩ : D.Block) = x := by rw [← h]
end Go.V
namespace Go.V
open IntKind (wrap)
def wp.impl_RunPicks_1 (x0 : Int) (xs1 : List Int) (Q : (Int × Bool) → Prop) : Prop :=
 bcase (x0 == (xs1.length : Int)) (Q (0, false)) (((0 ≤ x0 ∧ x0 < (xs1.length : Int)) ∧ Q ((rd xs1 x0), true)))
def wp.impl_RunPicks_2 (x0 : Int) (Q : Unit → Prop) : Prop :=
 Q ()
def wp.impl_Block_follow_a (s0 : D.Block) (xs1c0 : List Int) (Q : (Int × D.Block) → Prop) : Prop :=
 LoopP (σ := Int × (List D.Warp) × Int × Int × (List Int) × Unit) (fun (p98 : Int × (List D.Warp) × Int × Int × (List Int) × Unit) next64 => match p98 with | (i52, xs54, i57, i58, xs59, _) => (M.impl_RunPicks_1_pre i52 xs1c0 ∧ ∀ r66, r66 = M.impl_RunPicks_1 i52 xs1c0 → bcase (!r66.2) (Q (i52, (⟨s0.Code, xs54, xs59, i57, i58⟩ : D.Block))) (bcase (decide (r66.1 < 0)) (Q (i52, (⟨s0.Code, xs54, xs59, i57, i58⟩ : D.Block))) (bcase (i58 == 100000) (Q (i52, (⟨s0.Code, xs54, xs59, i57, i58⟩ : D.Block))) ((M.impl_Block_pickWarp_pre (⟨s0.Code, xs54, xs59, i57, i58⟩ : D.Block) r66.1 ∧ ∀ r71, r71 = M.impl_Block_pickWarp (⟨s0.Code, xs54, xs59, i57, i58⟩ : D.Block) r66.1 → bcase (decide (r71 < 0)) (Q (i52, (⟨s0.Code, xs54, xs59, i57, i58⟩ : D.Block))) ((∀ r76, r76 = M.impl_RunPicks_2 r71 → (M.impl_Block_pass_pre (⟨s0.Code, xs54, xs59, i57, i58⟩ : D.Block) r71 ∧ ∀ r81, r81 = M.impl_Block_pass (⟨s0.Code, xs54, xs59, i57, i58⟩ : D.Block) r71 → next64 ((wrap .i64 (i52 + 1)), r81.2.Warps, r81.2.Waiting, r81.2.Phase, r81.2.Memory, ())))))))))) (0, s0.Warps, s0.Waiting, s0.Phase, s0.Memory, ())
def wp.spec_RunPicks (s0 : D.Block) (xs1 : List Int) (Q : (D.Block × Int) → Prop) : Prop :=
 (M.spec_l29Copy_pre s0 ∧ ∀ r25, r25 = M.spec_l29Copy s0 → (M.spec_BlockOk_pre s0 ∧ ∀ r41, r41 = M.spec_BlockOk s0 → bcase (!r41) (Q ((⟨r25.Code, r25.Warps, r25.Memory, r25.Waiting, r25.Phase⟩ : D.Block), (-1))) (bcase (decide ((xs1.length : Int) > 400)) (Q ((⟨r25.Code, r25.Warps, r25.Memory, r25.Waiting, r25.Phase⟩ : D.Block), (-1))) (LoopP (σ := Int × Int × (List D.Ins) × (List D.Warp) × (List Int) × Int × Int × Unit) (fun (p157 : Int × Int × (List D.Ins) × (List D.Warp) × (List Int) × Int × Int × Unit) next110 => match p157 with | (i93, i94, xs95, xs99, xs102, i105, i106, _) => bcase (decide (i94 < (xs1.length : Int))) (((0 ≤ i94 ∧ i94 < (xs1.length : Int)) ∧ bcase (decide ((rd xs1 i94) < 0)) (Q ((⟨xs95, xs99, xs102, i105, i106⟩ : D.Block), i93)) (((0 ≤ i94 ∧ i94 < (xs1.length : Int)) ∧ (M.spec_l32Pick_pre (⟨xs95, xs99, xs102, i105, i106⟩ : D.Block) (rd xs1 i94) ∧ ∀ r125, r125 = M.spec_l32Pick (⟨xs95, xs99, xs102, i105, i106⟩ : D.Block) (rd xs1 i94) → bcase (decide (r125 < 0)) (Q ((⟨xs95, xs99, xs102, i105, i106⟩ : D.Block), i93)) (bcase (i106 == 100000) (Q ((⟨xs95, xs99, xs102, i105, i106⟩ : D.Block), i93)) ((M.spec_l30Step_pre (⟨xs95, xs99, xs102, i105, i106⟩ : D.Block) r125 ∧ ∀ r134, r134 = M.spec_l30Step (⟨xs95, xs99, xs102, i105, i106⟩ : D.Block) r125 → next110 ((wrap .i64 (i93 + 1)), (wrap .i64 (i94 + 1)), r134.Code, r134.Warps, r134.Memory, r134.Waiting, r134.Phase, ()))))))))) (Q ((⟨xs95, xs99, xs102, i105, i106⟩ : D.Block), i93))) (0, 0, r25.Code, r25.Warps, r25.Memory, r25.Waiting, r25.Phase, ())))))
def wp.impl_RunPicks (s0 : D.Block) (xs1 : List Int) (Q : (D.Block × Int) → Prop) : Prop :=
 (M.impl_copyBlock_pre s0 ∧ ∀ r27, r27 = M.impl_copyBlock s0 → (M.impl_BlockOk_pre s0 ∧ ∀ r43, r43 = M.impl_BlockOk s0 → bcase (!r43) (Q ((⟨r27.Code, r27.Warps, r27.Memory, r27.Waiting, r27.Phase⟩ : D.Block), (-1))) (bcase (decide ((xs1.length : Int) > 400)) (Q ((⟨r27.Code, r27.Warps, r27.Memory, r27.Waiting, r27.Phase⟩ : D.Block), (-1))) ((M.impl_Block_follow_a_pre r27 xs1 ∧ ∀ r52, r52 = M.impl_Block_follow_a r27 xs1 → Q ((⟨r27.Code, r52.2.Warps, r52.2.Memory, r52.2.Waiting, r52.2.Phase⟩ : D.Block), r52.1))))))
def wp.laws_FnExactRunPicks (s0 : D.Block) (xs1 : List Int) (Q : Bool → Prop) : Prop :=
 bcase (decide ((xs1.length : Int) > 1048576)) (Q true) ((M.laws_szBlock_pre s0 1048576 ∧ ∀ r23, r23 = M.laws_szBlock s0 1048576 → bcase (decide (r23 < 0)) (Q true) ((M.laws_toBlock_pre s0 ∧ ∀ r28, r28 = M.laws_toBlock s0 → (M.laws_toIntS_pre xs1 ∧ ∀ r40, r40 = M.laws_toIntS xs1 → (M.spec_RunPicks_pre r28 r40 ∧ ∀ r47, r47 = M.spec_RunPicks r28 r40 → (M.laws_toBlock_pre s0 ∧ ∀ r63, r63 = M.laws_toBlock s0 → (M.laws_toIntS_pre xs1 ∧ ∀ r79, r79 = M.laws_toIntS xs1 → (M.impl_RunPicks_pre r63 r79 ∧ ∀ r86, r86 = M.impl_RunPicks r63 r79 → (M.laws_eqBlock_pre r86.1 r47.1 ∧ ∀ r102, r102 = M.laws_eqBlock r86.1 r47.1 → bcase (!r102) (Q false) (bcase (r86.2 != r47.2) (Q false) ((M.laws_toBlock_pre s0 ∧ ∀ r108, r108 = M.laws_toBlock s0 → (M.laws_eqBlock_pre r63 r108 ∧ ∀ r120, r120 = M.laws_eqBlock r63 r108 → bcase (!r120) (Q false) ((M.laws_toIntS_pre xs1 ∧ ∀ r125, r125 = M.laws_toIntS xs1 → (M.laws_eqIntS_pre r79 r125 ∧ ∀ r132, r132 = M.laws_eqIntS r79 r125 → bcase (!r132) (Q false) ((M.laws_markBlock_pre r63 1 ∧ ∀ r137, r137 = M.laws_markBlock r63 1 → (M.laws_markIntS_pre r79 r137.1 ∧ ∀ r145, r145 = M.laws_markIntS r79 r137.1 → bcase (decide (r145.1 < 0)) (Q false) ((M.laws_eqBlock_pre r86.1 r47.1 ∧ ∀ r151, r151 = M.laws_eqBlock r86.1 r47.1 → bcase (!r151) (Q false) (bcase (r86.2 != r47.2) (Q false) ((M.laws_markBlock_pre r86.1 1 ∧ ∀ r156, r156 = M.laws_markBlock r86.1 1 → (M.laws_heldBlock_pre (⟨r156.2.1, r156.2.2.1, r156.2.2.2, r86.1.Waiting, r86.1.Phase⟩ : D.Block) 1 ∧ ∀ r164, r164 = M.laws_heldBlock (⟨r156.2.1, r156.2.2.1, r156.2.2.2, r86.1.Waiting, r86.1.Phase⟩ : D.Block) 1 → bcase (decide (r164 < 0)) (Q false) (bcase (r164 != r156.1) (Q false) ((M.laws_toBlock_pre s0 ∧ ∀ r169, r169 = M.laws_toBlock s0 → (M.laws_toIntS_pre xs1 ∧ ∀ r181, r181 = M.laws_toIntS xs1 → (M.impl_RunPicks_pre r169 r181 ∧ ∀ r188, r188 = M.impl_RunPicks r169 r181 → (M.laws_eqBlock_pre r188.1 r47.1 ∧ ∀ r204, r204 = M.laws_eqBlock r188.1 r47.1 → bcase (!r204) (Q false) (bcase (r188.2 != r47.2) (Q false) ((M.laws_heldBlock_pre (⟨r156.2.1, r156.2.2.1, r156.2.2.2, r86.1.Waiting, r86.1.Phase⟩ : D.Block) 1 ∧ ∀ r209, r209 = M.laws_heldBlock (⟨r156.2.1, r156.2.2.1, r156.2.2.2, r86.1.Waiting, r86.1.Phase⟩ : D.Block) 1 → bcase (decide (r209 < 0)) (Q false) (bcase (r209 != r156.1) (Q false) (Q true)))))))))))))))))))))))))))))))))))))
end Go.V
namespace Go.V
open IntKind (wrap)
theorem wp.impl_RunPicks_1.math (k : Int) (l : List Int) (h : M.impl_RunPicks_1_pre k l) : wp.impl_RunPicks_1 k l (fun r => r = M.impl_RunPicks_1 k l) := by
 obtain ⟨h0, h1⟩ := h
 refine bcase_mk (fun e => ?_) fun e => ⟨⟨h0, ?_⟩, ?_⟩
 ·unfold M.impl_RunPicks_1; rw [if_pos (by simpa using e)]
 ·have : ¬ k = (l.length : Int) := by simpa using e
  omega
 ·unfold M.impl_RunPicks_1; rw [if_neg (by simpa using e)]
theorem wp.impl_RunPicks_2.math (k : Int) : wp.impl_RunPicks_2 k (fun r => r = M.impl_RunPicks_2 k) := rfl
theorem round {f : Nat → Int} {b : D.Block} {n k : Nat} (hF : GoI f b n k) (hk : k < n) {R : D.Block → Int → Prop} {N : D.Block → Prop} (hR : R (M.goTo f n b 0).1 (M.goTo f n b 0).2) (hN : GoI f b n (k + 1) → N (M.goAt f b (k + 1))) :
    (M.stops f (M.goAt f b k) k = true → R (M.goAt f b k) (k : Int)) ∧ (M.stops f (M.goAt f b k) k = false → M.CanGo (M.goAt f b k) (M.pick (M.goAt f b k) (f k)) ∧ N (M.stepB (M.goAt f b k) (M.pick (M.goAt f b k) (f k)))) := by
 refine ⟨fun e => ?_, fun e => ⟨(good_step hF.good e).1, hN (goI_go hF hk e)⟩⟩
 rw [goI_stop hF hk e] at hR
 exact hR
theorem max_at {l : List Int} (h : M.MaxL l) {k : Nat} (hk : k < l.length) : rd l (k : Int) ≤ 9223372036854775807 := h.2 _ (rd_mem hk)
theorem wp.impl_Block_follow_a.math (b : D.Block) (l : List Int) (h : M.impl_Block_follow_a_pre b l) : wp.impl_Block_follow_a b l (fun r => r = M.impl_Block_follow_a b l) := by
 obtain ⟨hg, hl, hm⟩ := h
 let f : Nat → Int := fun k => rd l (k : Int)
 have hR : ((M.goTo f l.length b 0).2, (M.goTo f l.length b 0).1) = M.impl_Block_follow_a b l := rfl
 refine loop_n l.length (fun k => ((k : Int), (M.goAt f b k).Warps, (M.goAt f b k).Waiting, (M.goAt f b k).Phase, (M.goAt f b k).Memory, ())) (fun k => GoI f b l.length k) rfl (goI_zero hg _) (fun k hk hF next hn => ?_) fun hF next => ?_
 ·obtain ⟨hs, hgo⟩ := round hF hk (R := fun x j => (j, x) = M.impl_Block_follow_a b l) (N := fun x => next (((k + 1 : Nat) : Int), x.Warps, x.Waiting, x.Phase, x.Memory, ())) hR hn
  have hgd := hF.good
  have hcd := hF.code
  have hmx := max_at hm hk
  dsimp only
  rw [blk_eta hcd, up64 hk (by omega)]
  have hst : M.stops f (M.goAt f b k) k = (decide (rd l (k : Int) < 0) || ((M.goAt f b k).Phase == 100000 || decide (M.pick (M.goAt f b k) (rd l (k : Int)) < 0))) := rfl
  have hfk : f k = rd l (k : Int) := rfl
  rw [hfk] at hgo
  generalize M.goAt f b k = x at *
  refine ⟨⟨by omega, by omega⟩, fun r66 hr66 => ?_⟩
  have hr66 : r66 = (rd l (k : Int), true) := by
   rw [hr66]; unfold M.impl_RunPicks_1; rw [if_neg (by omega)]
  subst hr66
  refine bcase_f rfl (bcase_mk (fun e1 => ?_) fun e1 => bcase_mk (fun e2 => ?_) fun e2 => ⟨⟨hgd, by simpa using e1, hmx⟩, fun r71 hr71 => ?_⟩)
  ·exact hs (by rw [hst, e1]; rfl)
  ·exact hs (by rw [hst, e2, Bool.true_or, Bool.or_true])
  ·have hr71 : r71 = M.pick x (rd l (k : Int)) := hr71
   subst hr71
   refine bcase_mk (fun e3 => ?_) fun e3 => fun r76 _ => ?_
   ·exact hs (by rw [hst, e3, Bool.or_true, Bool.or_true])
   ·obtain ⟨q1, q2⟩ := hgo (by rw [hst, e1, e2, e3]; rfl)
    refine ⟨q1, fun r81 hr81 => ?_⟩
    have hr81 : r81.2 = M.stepB x (M.pick x (rd l (k : Int))) := by rw [hr81]; rfl
    rw [hr81]
    exact q2
 ·dsimp only
  rw [blk_eta hF.code]
  refine ⟨⟨by omega, by omega⟩, fun r66 hr66 => ?_⟩
  have hr66 : r66 = (0, false) := by
   rw [hr66]; unfold M.impl_RunPicks_1; rw [if_pos rfl]
  subst hr66
  refine bcase_t rfl ?_
  rw [← hR, goI_end hF]
theorem wp.spec_RunPicks.math (b : D.Block) (l : List Int) (h : M.spec_RunPicks_pre b l) : wp.spec_RunPicks b l (fun r => r = M.spec_RunPicks b l) := by
 obtain ⟨hf, hm⟩ := h
 have hb := fit_long hf
 have hL : l.length ≤ 9223372036854775807 := hm.1
 refine ⟨hf, fun r25 hr25 => ?_⟩
 have hr25 : r25 = b := hr25
 subst hr25
 refine ⟨hb, fun r41 hr41 => bcase_mk (fun e => ?_) fun e => bcase_mk (fun e2 => ?_) fun e2 => ?_⟩
 all_goals have hr41 : r41 = M.blockOk r25 := hr41
 ·show (r25, -1) = M.runPicks r25 l
  unfold M.runPicks
  rw [← hr41, show r41 = false by simpa using e]; rfl
 ·show (r25, -1) = M.runPicks r25 l
  unfold M.runPicks
  rw [show decide (l.length ≤ 400) = false by simp at e2 ⊢; omega, Bool.and_false]; rfl
 have hok : M.blockOk r25 = true := by rw [← hr41]; simpa using e
 have hg : M.Good r25 := ⟨hb, hok⟩
 have hl : l.length ≤ 400 := by simp at e2; omega
 let f : Nat → Int := fun k => rd l (k : Int)
 have hR : M.goTo f l.length r25 0 = M.spec_RunPicks r25 l := by
  show _ = M.runPicks r25 l
  unfold M.runPicks
  rw [hok, decide_eq_true hl]; rfl
 refine loop_n l.length (fun k => ((k : Int), (k : Int), (M.goAt f r25 k).Code, (M.goAt f r25 k).Warps, (M.goAt f r25 k).Memory, (M.goAt f r25 k).Waiting, (M.goAt f r25 k).Phase, ())) (fun k => GoI f r25 l.length k) rfl (goI_zero hg _) (fun k hk hF next hn => ?_) fun hF next => ?_
 ·obtain ⟨hs, hgo⟩ := round hF hk (R := fun x j => (x, j) = M.spec_RunPicks r25 l) (N := fun x => next (((k + 1 : Nat) : Int), ((k + 1 : Nat) : Int), x.Code, x.Warps, x.Memory, x.Waiting, x.Phase, ())) hR hn
  have hgd := hF.good
  have hmx := max_at hm hk
  dsimp only
  rw [up64 hk hL]
  have hst : M.stops f (M.goAt f r25 k) k = (decide (rd l (k : Int) < 0) || ((M.goAt f r25 k).Phase == 100000 || decide (M.pick (M.goAt f r25 k) (rd l (k : Int)) < 0))) := rfl
  have hfk : f k = rd l (k : Int) := rfl
  rw [hfk] at hgo
  generalize M.goAt f r25 k = x at *
  refine bcase_t (by simp; omega) ⟨⟨by omega, by omega⟩, bcase_mk (fun e1 => ?_) fun e1 => ⟨⟨by omega, by omega⟩, ⟨hgd, by simpa using e1, hmx⟩, fun r hr => bcase_mk (fun e3 => ?_) fun e3 => bcase_mk (fun e4 => ?_) fun e4 => ?_⟩⟩
  ·exact hs (by rw [hst, e1]; rfl)
  all_goals
   have hr : r = M.pick x (rd l (k : Int)) := hr
   subst hr
  ·exact hs (by rw [hst, e3, Bool.or_true, Bool.or_true])
  ·exact hs (by rw [hst, e4, Bool.true_or, Bool.or_true])
  ·obtain ⟨q1, q2⟩ := hgo (by rw [hst, e1, e3, e4]; rfl)
   refine ⟨q1, fun r134 hr134 => ?_⟩
   have hr134 : r134 = M.stepB x (M.pick x (rd l (k : Int))) := hr134
   rw [hr134]
   exact q2
 ·refine bcase_f (by simp) ?_
  rw [← hR, goI_end hF]
theorem wp.impl_RunPicks.math (b : D.Block) (l : List Int) (h : M.impl_RunPicks_pre b l) : wp.impl_RunPicks b l (fun r => r = M.impl_RunPicks b l) := by
 obtain ⟨hf, hm⟩ := h
 have hb := fit_long hf
 refine ⟨hf, fun r25 hr25 => ?_⟩
 have hr25 : r25 = b := hr25
 subst hr25
 refine ⟨hb, fun r41 hr41 => bcase_mk (fun e => ?_) fun e => bcase_mk (fun e2 => ?_) fun e2 => ?_⟩
 all_goals have hr41 : r41 = M.blockOk r25 := hr41
 ·show (r25, -1) = M.runPicks r25 l
  unfold M.runPicks
  rw [← hr41, show r41 = false by simpa using e]; rfl
 ·show (r25, -1) = M.runPicks r25 l
  unfold M.runPicks
  rw [show decide (l.length ≤ 400) = false by simp at e2 ⊢; omega, Bool.and_false]; rfl
 have hok : M.blockOk r25 = true := by rw [← hr41]; simpa using e
 have hl : l.length ≤ 400 := by simp at e2; omega
 refine ⟨⟨⟨hb, hok⟩, hl, hm⟩, fun r52 hr52 => ?_⟩
 have hr52 : r52 = ((M.goTo (fun k => rd l (k : Int)) l.length r25 0).2, (M.goTo (fun k => rd l (k : Int)) l.length r25 0).1) := hr52
 subst hr52
 show _ = M.runPicks r25 l
 unfold M.runPicks
 rw [hok, decide_eq_true hl]
 dsimp only
 rw [blk_eta (goTo_code _ _ _)]
 rfl
theorem runPicks_small {b : D.Block} {l : List Int} (h : M.BSmall b) : M.BSmall (M.runPicks b l).1 := by
 unfold M.runPicks
 split
 ·rename_i e
  simp only [Bool.and_eq_true] at e
  exact ok_small (goTo_good _ _ _ ⟨small_long h, e.1⟩).2
 ·exact h
theorem wp.laws_FnExactRunPicks.math (b : D.Block) (m : List Int) (h : M.laws_FnExactRunPicks_pre b m) : wp.laws_FnExactRunPicks b m (fun r => r = M.laws_FnExactRunPicks b m) := by
 obtain ⟨h, hm⟩ := h
 refine bcase_mk (fun _ => rfl) fun em => ⟨⟨by unfold M.Left; omega, h⟩, fun r hr => bcase_mk (fun _ => rfl) fun e => ?_⟩
 have hml : m.length ≤ 1048576 := by simp at em; omega
 obtain ⟨hs, hl⟩ := sz_small hr e
 have hf := small_fit hs
 have q0 : M.laws_toIntS_pre m := by show m.length ≤ 2097152; omega
 have q1 : M.spec_RunPicks_pre b m := ⟨hf, hm⟩
 have q2 : M.impl_RunPicks_pre b m := q1
 have hws := runPicks_small (l := m) hs
 have hwl := small_long hws
 have s1 := bsz_bound hs
 have s2 := bsz_bound hws
 have q3 : M.laws_eqIntS_pre m m := by show m.length ≤ 9223372036854775807; omega
 have q4 : M.laws_markBlock_pre b 1 := ⟨by omega, by omega⟩
 have q5 : M.laws_markIntS_pre m (1 + M.bsz b) := ⟨⟨by omega, by omega⟩, by unfold M.Few; omega⟩
 have q6 : M.laws_markBlock_pre (M.runPicks b m).1 1 := ⟨by omega, by omega⟩
 have q7 : M.laws_heldBlock_pre (M.markB (M.runPicks b m).1 1) 1 := ⟨by omega, by rw [markB_sz]; omega⟩
 have b1 : decide (1 + M.bsz b + (m.length : Int) < 0) = false := decide_eq_false (by omega)
 have b2 : decide (1 + M.bsz (M.runPicks b m).1 < 0) = false := decide_eq_false (by omega)
 have ew : (⟨(M.markB (M.runPicks b m).1 1).Code, (M.markB (M.runPicks b m).1 1).Warps, (M.markB (M.runPicks b m).1 1).Memory, (M.runPicks b m).1.Waiting, (M.runPicks b m).1.Phase⟩ : D.Block) = M.markB (M.runPicks b m).1 1 := rfl
 simp only [M.laws_toBlock, M.laws_toIntS, forall_eq, M.spec_RunPicks, M.impl_RunPicks, M.laws_eqBlock, M.laws_eqIntS, M.laws_markIntS, M.laws_markBlock, ew, held_mark, beq_self_eq_true, bne_self_eq_false, Bool.not_true, b1, b2, bcase]
 exact ⟨hs, q0, q1, hs, q0, q2, hwl, hs, hl, q0, q3, q4, q5, hwl, q6, q7, hs, q0, q2, hwl, q7, rfl⟩
end Go.V
