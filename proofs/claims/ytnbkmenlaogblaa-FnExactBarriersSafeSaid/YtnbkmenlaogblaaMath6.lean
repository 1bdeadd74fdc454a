import Derived.Test.YtnbkmenlaogblaaMath5
import Derived.Test.YtnbkmenlaogblaaWp6
set_option linter.unusedVariables false
set_option linter.unusedSimpArgs false
namespace Go.V
theorem wp.impl_isWarpNumber.math (x : Int) : wp.impl_isWarpNumber x (fun r => r = M.impl_isWarpNumber x) := fun r hr => hr
theorem lane64 {w : Int} {k : Nat} (hw : M.isIn w 0 2 = true) (hk : k < 8) : IntKind.wrap .i64 (IntKind.wrap .i64 (w * 8) + (k : Int)) = w * 8 + (k : Int) := by
  have h : 0 ≤ w ∧ w ≤ 2 := by simpa [M.isIn] using hw
  rw [w64 (x := w * 8) (by omega) (by omega), w64 (by omega) (by omega)]
theorem runN_le {p : List D.Ins} : ∀ (k : Nat) (l : D.Lane) (n : Int), n ≤ (M.runN p k l n).2 ∧ (M.runN p k l n).2 ≤ n + k
  | 0, l, n => by simp [M.runN]
  | k + 1, l, n => by
    rw [M.runN]
    split
    · have := runN_le (p := p) k (M.step p l) (n + 1)
      omega
    · simp; omega
theorem stepsAlone_in (p : List D.Ins) (t : Int) : -1 ≤ M.stepsAlone p t ∧ M.stepsAlone p t ≤ 1000 := by
  have h : ∀ l, -1 ≤ (M.runLane p l 1000).2 ∧ (M.runLane p l 1000).2 ≤ 1000 := by
    intro l
    unfold M.runLane
    split
    · have := runN_le (p := p) (1000 : Int).toNat l 0
      have e : (((1000 : Int).toNat : Nat) : Int) = 1000 := rfl
      omega
    · simp
  have := h (M.laneNew t)
  unfold M.stepsAlone
  (repeat' split) <;> omega
theorem stepsList_at (p : List D.Ins) (w : Int) {k : Nat} (hk : k < 8) : rd (M.stepsList p w) (k : Int) = M.stepsAlone p (w * 8 + (k : Int)) := by
  rw [rd_nat (by simp [M.stepsList]; omega)]; simp [M.stepsList]
theorem stepsList_len (p : List D.Ins) (w : Int) : (M.stepsList p w).length = 8 := by simp [M.stepsList]
theorem wp.spec_l15Alone.math (p : List D.Ins) (w : Int) (h : M.spec_l15Alone_pre p w) : wp.spec_l15Alone p w (fun x => x = M.spec_l15Alone p w) := by
  intro r hr
  refine bcase_mk (fun e => ?_) fun e => ?_
  · have : M.isIn w 0 2 = false := nt e hr
    simp [M.spec_l15Alone, M.stepsOf, this]
  have hw : M.isIn w 0 2 = true := nf e hr
  let f : Nat → Int := fun i => M.stepsAlone p (w * 8 + (i : Int))
  have bad : ∀ k : Nat, k < 8 → f k < 0 → (([] : List Int), false) = M.spec_l15Alone p w := by
    intro k hk hn
    have : (M.stepsList p w).all (fun n => decide (0 ≤ n)) = false := by
      refine all_at (k := k) (by simp [M.stepsList]; omega) ?_
      simp [M.stepsList]; exact hn
    simp [M.spec_l15Alone, M.stepsOf, this]
  refine loop_n 8 (fun k => ((List.range k).map f, (k : Int), ())) (fun k => ∀ j : Nat, j < k → 0 ≤ f j) rfl (by simp) (fun k hk hF next hn => ?_) fun hF next => ?_
  · refine bcase_t (by simp; omega) ⟨h, fun r hr => ?_⟩
    rw [lane64 hw hk] at hr
    have hr' : r = f k := hr
    refine bcase_mk (fun e => ?_) fun e => ⟨by simp; omega, ?_⟩
    · exact bad k hk (by rw [← hr']; simpa using e)
    · have hn := hn fun j hj => by
        by_cases hjk : j = k
        · subst hjk; rw [← hr']; simpa using e
        · exact hF j (by omega)
      rw [rounds8 f hk] at hn
      rw [up64 hk (by omega), hr']; exact hn
  · refine bcase_f (by simp) ?_
    have : (M.stepsList p w).all (fun n => decide (0 ≤ n)) = true := by
      rw [List.all_eq_true]
      intro x hx
      simp only [M.stepsList, List.mem_map, List.mem_range] at hx
      obtain ⟨j, hj, rfl⟩ := hx
      simpa using hF j hj
    simp only [M.spec_l15Alone, M.stepsOf, hw, this, Bool.and_self, if_true]; rfl
theorem sum_loop {l : List Int} {Q : Int → Prop} {B : (Int × Int × Unit) → ((Int × Int × Unit) → Prop) → Prop} (f : Int → Int → Int) (m0 : Int) (k0 : Nat) (hk0 : k0 ≤ l.length) (hQ : Q (l.foldl f m0))
    (h0 : (l.take k0).foldl f m0 = m0)
    (hb : ∀ (k : Nat) (next : (Int × Int × Unit) → Prop), k0 ≤ k → k < l.length → next (f ((l.take k).foldl f m0) (rd l (k : Int)), ((k + 1 : Nat) : Int), ()) → B ((l.take k).foldl f m0, (k : Int), ()) next)
    (he : ∀ (m : Int) (next : (Int × Int × Unit) → Prop), Q m → B (m, (l.length : Int), ()) next) : LoopP B (m0, (k0 : Int), ()) := by
  refine loop_n (l.length - k0) (fun k => ((l.take (k0 + k)).foldl f m0, ((k0 + k : Nat) : Int), ())) (fun _ => True) (by simp [h0]) trivial (fun k hk _ next hn => ?_) fun _ next => ?_
  · refine hb (k0 + k) next (by omega) (by omega) ?_
    have hn := hn trivial
    rw [show k0 + (k + 1) = k0 + k + 1 by omega, List.take_add_one, List.getElem?_eq_getElem (by omega), Option.toList_some, List.foldl_append] at hn
    rw [rd_nat (by omega)]
    exact hn
  · have e : k0 + (l.length - k0) = l.length := by omega
    show B ((l.take (k0 + (l.length - k0))).foldl f m0, ((k0 + (l.length - k0) : Nat) : Int), ()) next
    rw [e, List.take_length]
    exact he _ next hQ
theorem stepsOf_in {p : List D.Ins} {w : Int} (h : (M.stepsOf p w).2 = true) : M.isIn w 0 2 = true ∧ (M.stepsOf p w).1 = M.stepsList p w ∧ ∀ x ∈ M.stepsList p w, 0 ≤ x ∧ x ≤ 1000 := by
  unfold M.stepsOf at *
  by_cases hc : (M.isIn w 0 2 && (M.stepsList p w).all (fun n => decide (0 ≤ n))) = true
  · rw [if_pos hc] at *
    simp only [Bool.and_eq_true, List.all_eq_true, decide_eq_true_eq] at hc
    refine ⟨hc.1, rfl, fun x hx => ⟨hc.2 x hx, ?_⟩⟩
    simp only [M.stepsList, List.mem_map, List.mem_range] at hx
    obtain ⟨j, _, rfl⟩ := hx
    exact (stepsAlone_in p _).2
  · rw [if_neg hc] at h; cases h
theorem fold_bound {l : List Int} (h : ∀ x ∈ l, 0 ≤ x ∧ x ≤ 1000) : ∀ (m : Int), 0 ≤ m → 0 ≤ l.foldl (· + ·) m ∧ l.foldl (· + ·) m ≤ m + 1000 * l.length := by
  induction l with
  | nil => intro m hm; simp; omega
  | cons a l ih =>
    intro m hm
    have ha := h a (by simp)
    have := ih (fun x hx => h x (by simp [hx])) (m + a) (by omega)
    simp only [List.foldl_cons, List.length_cons]; push_cast; omega
theorem add_body {p : List D.Ins} {w : Int} (hok : (M.stepsOf p w).2 = true) (k : Nat) (hk : k < (M.stepsOf p w).1.length) :
    IntKind.wrap .i64 (((M.stepsOf p w).1.take k).foldl (· + ·) 0 + rd (M.stepsOf p w).1 (k : Int)) = ((M.stepsOf p w).1.take k).foldl (· + ·) 0 + rd (M.stepsOf p w).1 (k : Int) := by
  obtain ⟨h1, h2, h3⟩ := stepsOf_in hok
  rw [h2] at hk ⊢
  rw [stepsList_len] at hk
  have hb := fold_bound (l := (M.stepsList p w).take k) (fun x hx => h3 x (List.mem_of_mem_take hx)) 0 (by omega)
  have hx := h3 _ (rd_mem (k := k) (by rw [stepsList_len]; exact hk))
  have hlen : ((M.stepsList p w).take k).length ≤ 8 := by simp [stepsList_len]; omega
  exact w64 (by omega) (by omega)
theorem wp.spec_SumAlone.math (p : List D.Ins) (w : Int) (h : M.spec_SumAlone_pre p w) : wp.spec_SumAlone p w (fun x => x = M.spec_SumAlone p w) := by
  refine ⟨h, fun r hr => ?_⟩
  have hr' : r = M.stepsOf p w := hr
  subst hr'
  refine bcase_mk (fun e => ?_) fun e => ?_
  · have e : (M.stepsOf p w).2 = false := by simpa using e
    simp [M.spec_SumAlone, M.sumAlone, e]
  · have e : (M.stepsOf p w).2 = true := by simpa using e
    have h8 : (M.stepsOf p w).1.length = 8 := by rw [(stepsOf_in e).2.1, stepsList_len]
    refine sum_loop (l := (M.stepsOf p w).1) (Q := fun x => x = M.spec_SumAlone p w) (· + ·) 0 0 (by omega) (by simp [M.spec_SumAlone, M.sumAlone, e]) (by simp) (fun k next _ hk hn => ?_) fun m next hq => ?_
    · refine bcase_t (by simp; omega) ⟨by omega, ?_⟩
      rw [add_body e k hk, up64 hk (by omega)]; exact hn
    · exact bcase_f (by simp) hq
theorem wp.slices_Index_int_int.math (l : List Int) (x : Int) (h : M.slices_Index_int_int_pre l x) : wp.slices_Index_int_int l x (fun r => r = M.slices_Index_int_int l x) := by
  unfold wp.slices_Index_int_int
  refine loop_n l.length (fun k => ((k : Int), ())) (fun k => M.slices_Index_int_int l x = M.firstIx (fun y => x == y) (l.drop k) k) rfl (by simp [M.slices_Index_int_int]) (fun k hk hF next hn => ?_) fun hF next => ?_
  · rw [firstIx_from _ l k hk] at hF
    refine bcase_t (by simp; omega) ⟨by omega, bcase_mk (fun e => ?_) fun e => ?_⟩
    · rw [hF, if_pos e]
    · rw [up64 hk h]
      exact hn (by rw [hF, if_neg (by rw [e]; simp)])
  · refine bcase_f (by simp) ?_
    rw [hF]; simp [M.firstIx]
theorem wp.slices_Contains_int_int.math (l : List Int) (x : Int) (h : M.slices_Contains_int_int_pre l x) : wp.slices_Contains_int_int l x (fun r => r = M.slices_Contains_int_int l x) :=
  ⟨h, fun r hr => by rw [hr]; exact firstIx_nonneg _ l 0⟩
theorem wp.impl_stepsOf.math (p : List D.Ins) (w : Int) (h : M.impl_stepsOf_pre p w) : wp.impl_stepsOf p w (fun x => x = M.impl_stepsOf p w) := by
  intro r hr
  refine bcase_mk (fun e => ?_) fun e => ?_
  · have : M.isIn w 0 2 = false := nt e hr
    simp [M.impl_stepsOf, this]
  have hw : M.isIn w 0 2 = true := nf e hr
  let f : Nat → Int := fun i => M.stepsAlone p (w * 8 + (i : Int))
  refine loop_n 8 (fun k => ((List.range k).map f, (k : Int), ())) (fun k => True) rfl trivial (fun k hk hF next hn => ?_) fun hF next => ?_
  · refine bcase_t (by simp; omega) ⟨h, fun r hr => ⟨by simp; omega, ?_⟩⟩
    rw [lane64 hw hk] at hr
    have hr' : r = f k := hr
    have hn := hn trivial
    rw [rounds8 f hk] at hn
    rw [up64 hk (by omega), hr']; exact hn
  · refine bcase_f (by simp) ⟨by unfold M.slices_Contains_int_int_pre M.Long; simp, fun r hr => ?_⟩
    rw [hr]
    have e1 : (List.range 8).map f = M.stepsList p w := rfl
    have e2 : (!(M.slices_Contains_int_int (M.stepsList p w) (-1))) = (M.stepsList p w).all (fun n => decide (0 ≤ n)) := by
      simp only [M.slices_Contains_int_int]
      rw [List.not_any_eq_all_not, ]
      apply Bool.eq_iff_iff.2
      simp only [List.all_eq_true, Bool.not_eq_true', beq_eq_false_iff_ne, decide_eq_true_eq]
      constructor
      · intro hh x hx
        have h1 := hh x hx
        simp only [M.stepsList, List.mem_map, List.mem_range] at hx
        obtain ⟨j, _, rfl⟩ := hx
        have := (stepsAlone_in p (w * 8 + (j : Int))).1
        omega
      · intro hh x hx
        have := hh x hx
        omega
    show ((List.range 8).map f, !(M.slices_Contains_int_int ((List.range 8).map f) (-1))) = _
    rw [e1, e2]
    simp only [M.impl_stepsOf, hw, if_true]
theorem stepsOf_same (p : List D.Ins) (w : Int) : (M.impl_stepsOf p w).2 = (M.stepsOf p w).2 ∧ ((M.stepsOf p w).2 = true → (M.impl_stepsOf p w).1 = (M.stepsOf p w).1) := by
  unfold M.impl_stepsOf M.stepsOf
  cases h1 : M.isIn w 0 2 <;> cases h2 : (M.stepsList p w).all (fun n => decide (0 ≤ n)) <;> simp
theorem wp.impl_SumAlone.math (p : List D.Ins) (w : Int) (h : M.impl_SumAlone_pre p w) : wp.impl_SumAlone p w (fun x => x = M.impl_SumAlone p w) := by
  refine ⟨h, fun r hr => ?_⟩
  obtain ⟨s1, s2⟩ := stepsOf_same p w
  have hr' : r = M.impl_stepsOf p w := hr
  subst hr'
  refine bcase_mk (fun e => ?_) fun e => ?_
  · have e : (M.stepsOf p w).2 = false := by rw [← s1]; simpa using e
    simp [M.impl_SumAlone, M.sumAlone, e]
  · have e : (M.stepsOf p w).2 = true := by rw [← s1]; simpa using e
    have h8 : (M.stepsOf p w).1.length = 8 := by rw [(stepsOf_in e).2.1, stepsList_len]
    rw [s2 e]
    refine sum_loop (l := (M.stepsOf p w).1) (Q := fun x => x = M.impl_SumAlone p w) (· + ·) 0 0 (by omega) (by simp [M.impl_SumAlone, M.sumAlone, e]) (by simp) (fun k next _ hk hn => ?_) fun m next hq => ?_
    · refine bcase_t (by simp; omega) ⟨by omega, ?_⟩
      rw [add_body e k hk, up64 hk (by omega)]; exact hn
    · exact bcase_f (by simp) hq
theorem one_prog {p : List D.Ins} {Q : Prop} {X : Prop} (h : M.Long p) (hq : Q) (hx : p.length ≤ 1048576 → X) : ∀ r, r = M.laws_szInsS p 1048576 → bcase (decide (r < 0)) Q X := by
  intro r hr
  refine bcase_mk (fun _ => hq) fun e => hx ?_
  rw [hr] at e
  simp only [M.laws_szInsS] at e
  split at e
  · simp at e
  · omega
theorem wp.laws_FnExactSumAlone.math (p : List D.Ins) (w : Int) (h : M.laws_FnExactSumAlone_pre p w) : wp.laws_FnExactSumAlone p w (fun x => x = M.laws_FnExactSumAlone p w) := by
  refine ⟨⟨by omega, by omega, h⟩, one_prog h rfl fun hl => ?_⟩
  simp only [M.laws_toInsS, forall_eq, M.spec_SumAlone, M.impl_SumAlone, M.laws_eqInsS, beq_self_eq_true, bne_self_eq_false, Bool.not_true, bcase]
  simp only [M.laws_toInsS_pre, M.spec_SumAlone_pre, M.impl_SumAlone_pre, M.laws_eqInsS_pre, M.Long]
  (repeat' apply And.intro) <;> first | omega | exact trivial | rfl
theorem wp.spec_MostAlone.math (p : List D.Ins) (w : Int) (h : M.spec_MostAlone_pre p w) : wp.spec_MostAlone p w (fun x => x = M.spec_MostAlone p w) := by
  refine ⟨h, fun r hr => ?_⟩
  have hr' : r = M.stepsOf p w := hr
  subst hr'
  refine bcase_mk (fun e => ?_) fun e => ?_
  · have e : (M.stepsOf p w).2 = false := by simpa using e
    simp [M.spec_MostAlone, M.mostAlone, e]
  · have e : (M.stepsOf p w).2 = true := by simpa using e
    have h8 : (M.stepsOf p w).1.length = 8 := by rw [(stepsOf_in e).2.1, stepsList_len]
    refine sum_loop (l := (M.stepsOf p w).1) (Q := fun x => x = M.spec_MostAlone p w) (fun m x => if x > m then x else m) 0 0 (by omega) (by simp only [M.spec_MostAlone, M.mostAlone, e, if_true, M.most]) (by simp) (fun k next _ hk hn => ?_) fun m next hq => ?_
    · refine bcase_t (by simp; omega) ⟨by omega, ?_⟩
      rw [up64 hk (by omega)]; exact hn
    · exact bcase_f (by simp) hq
theorem most_first {a : Int} {l : List Int} (h : 0 ≤ a) : M.most (a :: l) 0 = M.most (a :: l) a := by
  unfold M.most
  simp only [List.foldl_cons]
  have e1 : (if a > 0 then a else 0) = a := by split <;> omega
  have e2 : (if a > a then a else a) = a := by split <;> rfl
  rw [e1, e2]
theorem wp.slices_Max_int_int.math (l : List Int) (h : M.slices_Max_int_int_pre l) : wp.slices_Max_int_int l (fun r => r = M.slices_Max_int_int l) := by
  obtain ⟨h1, h2⟩ := h
  have hpos : 0 < l.length := List.length_pos_iff.2 h2
  refine bcase_f (by simp; omega) ⟨⟨by omega, by omega⟩, ?_⟩
  refine sum_loop (l := l) (Q := fun x => x = M.slices_Max_int_int l) (fun m x => if x > m then x else m) (rd l 0) 1 hpos rfl ?_ (fun k next _ hk hn => ?_) fun m next hq => ?_
  · match l, hpos with
    | a :: l, _ => simp [rd]
  · refine bcase_t (by simp; omega) ⟨by omega, ?_⟩
    rw [up64 hk h1]; exact hn
  · exact bcase_f (by simp) hq
theorem wp.impl_MostAlone.math (p : List D.Ins) (w : Int) (h : M.impl_MostAlone_pre p w) : wp.impl_MostAlone p w (fun x => x = M.impl_MostAlone p w) := by
  refine ⟨h, fun r hr => ?_⟩
  obtain ⟨s1, s2⟩ := stepsOf_same p w
  have hr' : r = M.impl_stepsOf p w := hr
  subst hr'
  refine bcase_mk (fun e => ?_) fun e => ?_
  · have e : (M.stepsOf p w).2 = false := by rw [← s1]; simpa using e
    simp [M.impl_MostAlone, M.mostAlone, e]
  · have e : (M.stepsOf p w).2 = true := by rw [← s1]; simpa using e
    obtain ⟨g1, g2, g3⟩ := stepsOf_in e
    have h8 : (M.stepsOf p w).1.length = 8 := by rw [g2, stepsList_len]
    rw [s2 e]
    refine ⟨⟨by unfold M.Long; omega, by intro hh; rw [hh] at h8; cases h8⟩, fun r hr => ?_⟩
    rw [hr]
    simp only [M.impl_MostAlone, M.mostAlone, e, if_true, M.slices_Max_int_int]
    rw [g2]
    have hl : (M.stepsList p w).length = 8 := stepsList_len p w
    match hm : M.stepsList p w, hl with
    | a :: l, _ =>
      have ha := (g3 a (by rw [hm]; simp)).1
      rw [show rd (a :: l) 0 = a from rfl, most_first ha]
theorem wp.laws_FnExactMostAlone.math (p : List D.Ins) (w : Int) (h : M.laws_FnExactMostAlone_pre p w) : wp.laws_FnExactMostAlone p w (fun x => x = M.laws_FnExactMostAlone p w) := by
  refine ⟨⟨by omega, by omega, h⟩, one_prog h rfl fun hl => ?_⟩
  simp only [M.laws_toInsS, forall_eq, M.spec_MostAlone, M.impl_MostAlone, M.laws_eqInsS, beq_self_eq_true, bne_self_eq_false, Bool.not_true, bcase]
  simp only [M.laws_toInsS_pre, M.spec_MostAlone_pre, M.impl_MostAlone_pre, M.laws_eqInsS_pre, M.Long]
  (repeat' apply And.intro) <;> first | omega | exact trivial | rfl
end Go.V
