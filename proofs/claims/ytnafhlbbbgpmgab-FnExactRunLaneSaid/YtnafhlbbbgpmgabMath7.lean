import Derived.Test.YtnafhlbbbgpmgabMath6
import Derived.Test.YtnafhlbbbgpmgabWp7
set_option linter.unusedVariables false
set_option linter.unusedSimpArgs false
namespace Go.V
theorem endList_succ (p : List D.Ins) (f : Int) (k : Nat) : M.endList p f (k + 1) = M.endList p f k ++ (M.runAlone p (f + (k : Int))).1.Regs := by
  simp [M.endList, List.range_succ]
theorem endList_len (p : List D.Ins) (f : Int) : ∀ k, (M.endList p f k).length ≤ 4 * k
  | 0 => by simp [M.endList]
  | k + 1 => by
    rw [endList_succ, List.length_append]
    have := endList_len p f k
    have := runAlone_regs p (f + (k : Int))
    omega
theorem runAlone_four {p : List D.Ins} {t : Int} (h : (M.runAlone p t).2 = true) : (M.runAlone p t).1.Regs.length = 4 := by
  unfold M.runAlone at *
  by_cases e1 : (M.runLane p (M.laneNew t) 1000).2 < 0
  · rw [if_pos e1] at h; cases h
  · rw [if_neg e1] at *
    by_cases e2 : (M.runLane p (M.laneNew t) 1000).1.Pc < p.length
    · rw [if_pos e2] at h; cases h
    · rw [if_neg e2] at *
      exact (runLane_pc e1).2.2.2.2
theorem endList_four (p : List D.Ins) (f : Int) : ∀ k, M.endOk p f k = true → (M.endList p f k).length = 4 * k
  | 0, _ => by simp [M.endList]
  | k + 1, h => by
    simp only [M.endOk, List.range_succ, List.all_append, Bool.and_eq_true, List.all_cons, List.all_nil, Bool.and_true] at h
    rw [endList_succ, List.length_append, endList_four p f k h.1, runAlone_four h.2]
    omega
theorem endRegs_four {p : List D.Ins} {f : Int} (h : (M.endRegs p f 8).2 = true) : (M.endRegs p f 8).1.length = 32 := by
  unfold M.endRegs at *
  by_cases hc : (M.isIn 8 1 24 && (M.isIn f 0 23 && M.endOk p f (8 : Int).toNat)) = true
  · rw [if_pos hc] at *
    simp only [Bool.and_eq_true] at hc
    exact endList_four p f 8 hc.2.2
  · rw [if_neg hc] at h; cases h
theorem end_loop {p : List D.Ins} {f c : Int} (hc : M.isIn c 1 24 = true) (hf : M.isIn f 0 23 = true) {B : (List Int × Int × Unit) → ((List Int × Int × Unit) → Prop) → Prop} {Q : List Int × Bool → Prop} (hQ : Q (M.endRegs p f c))
    (hb : ∀ (k : Nat) (xs : List Int) (next : (List Int × Int × Unit) → Prop), (k : Int) < c → k < 24 → IntKind.wrap .i64 (f + (k : Int)) = f + (k : Int) → xs.length ≤ 96 → ((M.runAlone p (f + (k : Int))).2 = false → Q ([], false)) →
      ((M.runAlone p (f + (k : Int))).2 = true → next (xs ++ (M.runAlone p (f + (k : Int))).1.Regs, ((k + 1 : Nat) : Int), ())) → B (xs, (k : Int), ()) next)
    (he : ∀ (xs : List Int) (next : (List Int × Int × Unit) → Prop), Q (xs, true) → B (xs, c, ()) next) : LoopP B (([] : List Int), 0, ()) := by
  have h1 : 1 ≤ c ∧ c ≤ 24 := by simpa [M.isIn] using hc
  have h2 : 0 ≤ f ∧ f ≤ 23 := by simpa [M.isIn] using hf
  refine loop_n c.toNat (fun k => (M.endList p f k, (k : Int), ())) (fun k => M.endOk p f k = true) rfl rfl (fun k hk hF next hn => ?_) fun hF next => ?_
  · have hl := endList_len p f k
    refine hb k _ next (by omega) (by omega) (w64 (by omega) (by omega)) (by omega) (fun e => ?_) fun e => ?_
    · have : M.endRegs p f c = ([], false) := by
        have h0 : M.endOk p f c.toNat = false := by
          simp only [M.endOk]
          apply Bool.eq_false_iff.2
          intro hh
          rw [List.all_eq_true] at hh
          have := hh k (List.mem_range.2 hk)
          rw [e] at this; cases this
        simp [M.endRegs, h0]
      rw [← this]; exact hQ
    · rw [← endList_succ]
      refine hn ?_
      simp only [M.endOk, List.range_succ, List.all_append, Bool.and_eq_true, List.all_cons, List.all_nil, Bool.and_true]
      exact ⟨hF, e⟩
  · have e : ((c.toNat : Nat) : Int) = c := by omega
    show B (M.endList p f c.toNat, ((c.toNat : Nat) : Int), ()) next
    rw [e]
    refine he _ next ?_
    have : M.endRegs p f c = (M.endList p f c.toNat, true) := by simp [M.endRegs, hc, hf, hF]
    rw [← this]; exact hQ
theorem wp.spec_EndRegs.math (p : List D.Ins) (f c : Int) (h : M.spec_EndRegs_pre p f c) : wp.spec_EndRegs p f c (fun x => x = M.spec_EndRegs p f c) := by
  intro r1 h1
  refine bcase_mk (fun e1 => ?_) fun e1 r2 h2 => bcase_mk (fun e2 => ?_) fun e2 => ?_
  · have : M.isIn c 1 24 = false := nt e1 h1
    simp [M.spec_EndRegs, M.endRegs, this]
  · have : M.isIn f 0 23 = false := nt e2 h2
    simp [M.spec_EndRegs, M.endRegs, this]
  · refine end_loop (nf e1 h1) (nf e2 h2) (Q := fun x => x = M.endRegs p f c) rfl (fun k xs next hk h24 hw hl q1 q2 => ?_) fun xs next hq => ?_
    · refine bcase_t (by simpa using hk) ⟨h, fun r hr => ?_⟩
      rw [hw] at hr
      have hr' : r = M.runAlone p (f + (k : Int)) := hr
      have h4 := runAlone_regs p (f + (k : Int))
      refine bcase_mk (fun e => q1 (by rw [← hr']; simpa using e)) fun e => ⟨by rw [hr']; omega, ?_⟩
      rw [up64 h24 (by omega), hr']
      exact q2 (by rw [← hr']; simpa using e)
    · exact bcase_f (by simp) hq
theorem wp.impl_EndRegs.math (p : List D.Ins) (f c : Int) (h : M.impl_EndRegs_pre p f c) : wp.impl_EndRegs p f c (fun x => x = M.impl_EndRegs p f c) := by
  intro r1 h1
  refine bcase_mk (fun e1 => ?_) fun e1 r2 h2 => bcase_mk (fun e2 => ?_) fun e2 => ?_
  · have : M.isIn c 1 24 = false := nt e1 h1
    simp [M.impl_EndRegs, M.endRegs, this]
  · have : M.isIn f 0 23 = false := nt e2 h2
    simp [M.impl_EndRegs, M.endRegs, this]
  · refine end_loop (nf e1 h1) (nf e2 h2) (Q := fun x => x = M.endRegs p f c) rfl (fun k xs next hk h24 hw hl q1 q2 => ?_) fun xs next hq => ?_
    · refine bcase_t (by simpa using hk) ⟨h, fun r hr => ?_⟩
      rw [hw] at hr
      have hr' : r = M.runAlone p (f + (k : Int)) := hr
      have h4 := runAlone_regs p (f + (k : Int))
      refine bcase_mk (fun e => q1 (by rw [← hr']; simpa using e)) fun e => ⟨by rw [hr']; omega, ?_⟩
      rw [up64 h24 (by omega), hr']
      exact q2 (by rw [← hr']; simpa using e)
    · exact bcase_f (by simp) hq
theorem diff_loop {a b : List Int} (ha : a.length = 32) (hb : b.length = 32) {B : (Int × Int × Unit) → ((Int × Int × Unit) → Prop) → Prop} {Q : Int → Prop} (hQ : Q (M.diffMask a b 32))
    (hs : ∀ (k : Nat) (m : Int) (next : (Int × Int × Unit) → Prop), k < 32 → (rd a (k : Int) = rd b (k : Int) → next (m, ((k + 1 : Nat) : Int), ())) →
      (¬ rd a (k : Int) = rd b (k : Int) → next (bitOr .i64 m (IntKind.wrap .i64 (1 * 2 ^ (min ((IntKind.wrap .i64 (Int.tdiv (k : Int) 4)).toNat) (IntKind.bits .i64)))), ((k + 1 : Nat) : Int), ())) → B (m, (k : Int), ()) next)
    (he : ∀ (m : Int) (next : (Int × Int × Unit) → Prop), Q m → B (m, 32, ()) next) : LoopP B (0, 0, ()) := by
  refine loop_n 32 (fun k => (M.diffMask a b k, (k : Int), ())) (fun _ => True) rfl trivial (fun k hk _ next hn => ?_) fun _ next => he _ next hQ
  have hn := hn trivial
  simp only [M.diffMask, List.range_succ, List.foldl_append, List.foldl_cons, List.foldl_nil] at hn
  refine hs k _ next hk (fun e => ?_) fun e => ?_
  · rw [if_pos e] at hn; exact hn
  · rw [if_neg e] at hn; exact hn
theorem div4 {k : Nat} (hk : k < 32) : 0 ≤ IntKind.wrap .i64 (Int.tdiv (k : Int) 4) := by
  have h : Int.tdiv (k : Int) 4 = (k : Int) / 4 := Int.tdiv_eq_ediv_of_nonneg (by omega)
  rw [h, w64 (by omega) (by omega)]; omega
theorem wp.spec_DifferingLanes.math (p q : List D.Ins) (w : Int) (h : M.spec_DifferingLanes_pre p q w) : wp.spec_DifferingLanes p q w (fun x => x = M.spec_DifferingLanes p q w) := by
  intro r1 h1
  refine bcase_mk (fun e1 => ?_) fun e1 => ⟨h.1, fun r2 h2 => ⟨h.2, fun r3 h3 => bcase_mk (fun e2 => ?_) fun e2 => bcase_mk (fun e3 => ?_) fun e3 => ?_⟩⟩
  · have : M.isIn w 0 2 = false := nt e1 h1
    simp [M.spec_DifferingLanes, M.differing, this]
  all_goals
    have hw : M.isIn w 0 2 = true := nf e1 h1
    have hr : 0 ≤ w ∧ w ≤ 2 := by simpa [M.isIn] using hw
    rw [w64 (by omega) (by omega)] at h2 h3
    have h2' : r2 = M.endRegs p (w * 8) 8 := h2
    have h3' : r3 = M.endRegs q (w * 8) 8 := h3
    subst h2' h3'
  · have e2 : (M.endRegs p (w * 8) 8).2 = false := by simpa using e2
    simp [M.spec_DifferingLanes, M.differing, e2]
  · have e3 : (M.endRegs q (w * 8) 8).2 = false := by simpa using e3
    simp [M.spec_DifferingLanes, M.differing, e3]
  · have e2 : (M.endRegs p (w * 8) 8).2 = true := by simpa using e2
    have e3 : (M.endRegs q (w * 8) 8).2 = true := by simpa using e3
    have l2 := endRegs_four e2
    have l3 := endRegs_four e3
    refine diff_loop l2 l3 (Q := fun x => x = M.spec_DifferingLanes p q w) (by simp [M.spec_DifferingLanes, M.differing, hw, e2, e3]) (fun k m next hk q1 q2 => ?_) fun m next hq => ?_
    · refine bcase_t (by simp [l2]; omega) ⟨by omega, by omega, bcase_mk (fun e => ⟨div4 hk, ?_⟩) fun e => ?_⟩
      · rw [up64 hk (by omega)]; exact q2 (by simpa using e)
      · rw [up64 hk (by omega)]; exact q1 (by simpa using e)
    · exact bcase_f (by simp [l2]) hq
theorem wp.impl_DifferingLanes.math (p q : List D.Ins) (w : Int) (h : M.impl_DifferingLanes_pre p q w) : wp.impl_DifferingLanes p q w (fun x => x = M.impl_DifferingLanes p q w) := wp.spec_DifferingLanes.math p q w h
theorem wp.laws_FnExactDifferingLanes.math (p q : List D.Ins) (w : Int) (h : M.laws_FnExactDifferingLanes_pre p q w) : wp.laws_FnExactDifferingLanes p q w (fun x => x = M.laws_FnExactDifferingLanes p q w) := by
  obtain ⟨hp, hq⟩ := h
  refine ⟨⟨by omega, by omega, hp⟩, fun r hr => bcase_mk (fun _ => rfl) fun e => ?_⟩
  have h1 : p.length ≤ 1048576 ∧ 0 ≤ r ∧ r ≤ 2097152 := by
    rw [hr] at e ⊢
    simp only [M.laws_szInsS] at e ⊢
    split at e
    · simp at e
    · rw [if_neg (by omega)]; omega
  refine ⟨⟨h1.2.1, h1.2.2, hq⟩, fun r' hr' => bcase_mk (fun _ => rfl) fun e' => ?_⟩
  have h2 : q.length ≤ 2097152 := by
    rw [hr'] at e'
    simp only [M.laws_szInsS] at e'
    split at e'
    · simp at e'
    · omega
  clear e e' hr hr'
  simp only [M.laws_toInsS, forall_eq, M.spec_DifferingLanes, M.impl_DifferingLanes, M.laws_eqInsS, beq_self_eq_true, bne_self_eq_false, Bool.not_true, bcase]
  simp only [M.laws_toInsS_pre, M.spec_DifferingLanes_pre, M.impl_DifferingLanes_pre, M.laws_eqInsS_pre, M.Long]
  (repeat' apply And.intro) <;> first | omega | exact trivial | rfl
end Go.V
