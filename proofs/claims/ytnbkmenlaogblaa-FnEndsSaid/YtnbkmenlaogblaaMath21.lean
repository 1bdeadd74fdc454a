import Derived.Test.YtnbkmenlaogblaaMath20
import Derived.Test.YtnbkmenlaogblaaMath12
import Derived.Test.YtnbkmenlaogblaaMath5
import Derived.Test.YtnbkmenlaogblaaWp21
set_option linter.unusedVariables false
set_option linter.unusedSimpArgs false
set_option maxRecDepth 20000
namespace Go.V
theorem wp.spec_DrawWild.math (b : List Int) (h : M.spec_DrawWild_pre b) : wp.spec_DrawWild b (fun r => r = M.spec_DrawWild b) := by
  refine ⟨h, fun r0 g0 => ?_⟩
  subst g0
  exact ⟨new_ok h, fun r1 g1 => by rw [g1]; rfl⟩
theorem wp.impl_LaneEnded.math (p : List D.Ins) (l : D.Lane) (h : M.impl_LaneEnded_pre p l) : wp.impl_LaneEnded p l (fun r => r = M.impl_LaneEnded p l) := by
  refine ⟨h, fun r hr => bcase_mk (fun e => ?_) fun e => ?_⟩
  all_goals have hr' : r = M.laneOk p l := hr
  · simp only [M.impl_LaneEnded, ← hr', e, Bool.true_and]
  · simp only [M.impl_LaneEnded, ← hr', e, Bool.false_and]
theorem wp.impl_ReachableFrom.math (p : List D.Ins) (k : Int) (h : M.impl_ReachableFrom_pre p k) : wp.impl_ReachableFrom p k (fun r => r = M.impl_ReachableFrom p k) := by
  refine ⟨h, fun r hr => bcase_mk (fun e => ?_) fun e => ?_⟩
  · have := nt e (show r = M.isNode p k from hr)
    simp [M.impl_ReachableFrom, M.reachableFrom, this]
  · have e := nf e (show r = M.isNode p k from hr)
    have hs : p.length ≤ 2097152 := h
    have hM : M.impl_ReachableFrom p k = M.marked (M.reached p [k] (-1)) := by simp only [M.impl_ReachableFrom, M.reachableFrom, e, if_true]
    rw [hM]
    refine ⟨start1 (isNode_iff.1 e), fun r2 hr2 => ⟨?_, fun r3 hr3 => ?_⟩⟩
    · rw [hr2]; show (M.reached p [k] (-1)).length ≤ 17179869183; rw [reached_len]; omega
    · rw [hr3, hr2]; rfl
theorem wp.impl_AlwaysEnds_1.math (k : Int) (p : List D.Ins) (h : M.impl_AlwaysEnds_1_pre k p) : wp.impl_AlwaysEnds_1 k p (fun r => r = M.impl_AlwaysEnds_1 k p) := by
  have one : M.impl_next_pre p k ∧ ∀ r, r = M.impl_next p k → (M.impl_reached_pre p r (-1) ∧ ∀ r2, r2 = M.impl_reached p r (-1) → ((0 ≤ k ∧ k < ((r2.length : Nat) : Int)) ∧ rd r2 k = M.impl_AlwaysEnds_1 k p)) := by
    refine ⟨h, fun r hr => ?_⟩
    have hr' : r = M.nextOf p k := hr
    rw [hr']
    refine ⟨next_starts h, fun r2 hr2 => ?_⟩
    have hr2' : r2 = M.reached p (M.nextOf p k) (-1) := hr2
    rw [hr2', reached_len]
    have := h.2
    unfold M.nodeIn at this
    exact ⟨⟨this.1, by omega⟩, rfl⟩
  exact ⟨one, ⟨one, one, trivial⟩, trivial⟩
theorem reach_mem {p : List D.Ins} (hp : M.programOk p = true) {x : Int} : x ∈ M.reachableFrom p 0 ↔ M.nodeIn p x ∧ Rch p (-1) [0] x := by
  have h0 : M.Node p 0 := ⟨hp, by omega, by omega⟩
  have hn : M.isNode p 0 = true := isNode_iff.2 h0
  have hf : ∀ x ∈ [(0 : Int)], M.nodeIn p x := fun x hx => by obtain rfl := List.mem_singleton.1 hx; exact h0.2
  unfold M.reachableFrom
  rw [if_pos hn]
  unfold M.marked
  rw [mem_idx, reached_len]
  constructor
  · rintro ⟨k, hk, rfl, hg⟩
    have hkn : M.nodeIn p (k : Int) := ⟨by omega, by omega⟩
    exact ⟨hkn, (reached_iff hp hf hkn).1 hg⟩
  · rintro ⟨hx, hr⟩
    have hx2 := hx
    unfold M.nodeIn at hx2
    exact ⟨x.toNat, by omega, by omega, (reached_iff hp hf hx).2 hr⟩
theorem wp.impl_AlwaysEnds.math (p : List D.Ins) (h : M.impl_AlwaysEnds_pre p) : wp.impl_AlwaysEnds p (fun r => r = M.impl_AlwaysEnds p) := by
  have hs : p.length ≤ 2097152 := h
  refine ⟨small_longP h, fun r hr => bcase_mk (fun e => ⟨h, fun r2 hr2 => ?_⟩) fun e => ?_⟩
  all_goals have hr' : r = M.programOk p := hr
  · have hp := hr'.symm.trans e
    have hr2' : r2 = M.reachableFrom p 0 := hr2
    refine ⟨⟨?_, fun x hx => ?_⟩, fun r3 hr3 => ?_⟩
    · rw [hr2']
      have h0 : M.isNode p 0 = true := isNode_iff.2 ⟨hp, by omega, by omega⟩
      have := idx_len (fun k => rd (M.reached p [0] (-1)) k) (M.reached p [0] (-1)).length
      rw [reached_len] at this
      show (M.reachableFrom p 0).length ≤ 9223372036854775807
      unfold M.reachableFrom
      rw [if_pos h0]
      unfold M.marked
      rw [reached_len]; omega
    · rw [hr2'] at hx
      exact ⟨hp, ((reach_mem hp).1 hx).1⟩
    · rw [hr3, hr2']
      show (!((M.reachableFrom p 0).any fun k => M.onCircle p k)) = M.alwaysEnds p
      simp only [M.alwaysEnds, hp, Bool.true_and]
      rw [List.all_eq_not_any_not]
      simp only [Bool.not_not]
  · have e := hr'.symm.trans e
    simp [M.impl_AlwaysEnds, M.alwaysEnds, e]
/-! a program without circles ends -/
theorem step_next {p : List D.Ins} {l : D.Lane} (h0 : l.Pc < ((p.length : Nat) : Int)) : (M.step p l).Pc ∈ M.nextOf p l.Pc := by
  show M.next p l.Pc l.Regs ∈ _
  unfold M.next M.nextOf
  rw [if_neg (by omega)]
  by_cases h12 : (rd p l.Pc).Op = 12
  · rw [if_pos h12, if_pos h12]; simp
  rw [if_neg h12, if_neg h12]
  by_cases h11 : (rd p l.Pc).Op = 11
  · rw [if_pos h11, if_pos h11]; simp
  rw [if_neg h11, if_neg h11]
  by_cases h10 : (rd p l.Pc).Op = 10
  · rw [if_pos h10, if_pos h10]
    split
    · exact putTwo_mem.2 (.inr rfl)
    · exact putTwo_mem.2 (.inl rfl)
  · rw [if_neg h10, if_neg h10]; simp
theorem no_circle {p : List D.Ins} (h : M.alwaysEnds p = true) {v : Int} (hv : M.nodeIn p v) (hr : Rch p (-1) [0] v) : ¬ Rch p (-1) (M.nextOf p v) v := by
  simp only [M.alwaysEnds, Bool.and_eq_true, List.all_eq_true] at h
  obtain ⟨hp, h⟩ := h
  have := h v ((reach_mem hp).2 ⟨hv, hr⟩)
  intro hc
  have hc2 := (reached_iff hp (next_ok ⟨hp, hv⟩).1 hv).2 hc
  unfold M.onCircle at this
  rw [hc2] at this; cases this
theorem ends_run {p : List D.Ins} (h : M.alwaysEnds p = true) : ∀ (k : Nat) (l : D.Lane) (n : Nat) (seen : List Bool), Inv p l → seen.length = p.length → n + falses seen = p.length →
    (∀ v, 0 ≤ v → v < ((p.length : Nat) : Int) → rd seen v = true → Rch p (-1) [0] v ∧ Rch p (-1) (M.nextOf p v) l.Pc) → Rch p (-1) [0] l.Pc → p.length < k + n →
    (M.runN p k l (n : Int)).1.Pc = p.length ∧ (M.runN p k l (n : Int)).2 ≤ p.length
  | 0, l, n, seen, hI, hl, hc, hs, hr, hk => by omega
  | k + 1, l, n, seen, hI, hl, hc, hs, hr, hk => by
    have hp : M.programOk p = true := by simp only [M.alwaysEnds, Bool.and_eq_true] at h; exact h.1
    have hI2 := hI
    obtain ⟨i0, i1, i2⟩ := hI2
    rw [M.runN]
    by_cases hlt : l.Pc < ((p.length : Nat) : Int)
    · rw [if_pos hlt]
      have hns : rd seen l.Pc = false := by
        refine Bool.eq_false_iff.2 fun hh => ?_
        have := hs l.Pc i0 hlt hh
        exact no_circle h ⟨i0, i1⟩ this.1 this.2
      have hfs := falses_set (l := seen) (k := l.Pc.toNat) (by omega) (by rw [rdB i0 (by omega), hns])
      have hst := step_next hlt
      have hI' := inv_step hp hI hlt
      have hpos : (M.step p l).Pc ≠ -1 := by have := hI'.1; omega
      refine ends_run h k (M.step p l) (n + 1) (seen.set l.Pc.toNat true) hI' (by simpa using hl) (by omega) (fun v hv0 hv1 hvs => ?_) (.step hr hst hpos) (by omega)
      rw [rd_setB i0 (by omega) hv0] at hvs
      split at hvs
      · rename_i e; subst e
        exact ⟨hr, .base hst hpos⟩
      · obtain ⟨a, b⟩ := hs v hv0 hv1 hvs
        exact ⟨a, .step b hst hpos⟩
    · rw [if_neg hlt]
      exact ⟨by show l.Pc = _; omega, by show (n : Int) ≤ _; omega⟩
theorem laneNew_ok {p : List D.Ins} (hp : M.programOk p = true) {t : Int} (h0 : 0 ≤ t) (h1 : t ≤ 23) : M.laneNew t = ⟨t, 0, [0, 0, 0, 0]⟩ ∧ M.laneOk p (M.laneNew t) = true := by
  have ht : M.isIn t 0 23 = true := by simp [M.isIn]; omega
  have e : M.laneNew t = ⟨t, 0, [0, 0, 0, 0]⟩ := by simp [M.laneNew, ht]
  refine ⟨e, ?_⟩
  rw [e]
  simp only [M.laneOk, hp, M.laneOf, ht, M.areRegs, Bool.true_and]
  have : M.isIn (0 : Int) 0 ((p.length : Nat) : Int) = true := by simp [M.isIn]
  rw [this]; rfl
theorem wp.laws_FnEnds.math (b : List Int) (h : M.laws_FnEnds_pre b) : wp.laws_FnEnds b (fun r => r = M.laws_FnEnds b) := by
  intro r0 _
  refine bcase_mk (fun _ => rfl) fun _ => ⟨h, fun p g1 => ⟨h, fun x g2 => ?_⟩⟩
  have hq : M.isQuiet p = true ∧ p.length ≤ 8 := by rw [g1]; exact wild_quiet _
  have hpl : x.length = 12 := by rw [g2]; exact places_len 12 _
  have hpg : ∀ y ∈ x, 0 ≤ y ∧ y < 10000 := by rw [g2]; exact places_good 12 _
  clear g1 g2
  obtain ⟨hq, hl8⟩ := hq
  have hp : M.programOk p = true := by simp only [M.isQuiet, Bool.and_eq_true] at hq; exact hq.1
  have h0 := hpg _ (rd_of (xs := x) (i := 0) (by omega) (by omega))
  have a0 := tmod_in (n := 24) h0.1 (by omega)
  refine ⟨by omega, ?_⟩
  generalize Int.tmod (rd x 0) 24 = t at *
  obtain ⟨eN, hok⟩ := laneNew_ok hp a0.1 (by omega)
  have hlong : M.Long p := by unfold M.Long; omega
  have hsm : M.PSmall p := by unfold M.PSmall; omega
  have hrun : M.runLane p (M.laneNew t) 1000 = M.runN p 1000 (M.laneNew t) 0 := by
    have : M.isIn (1000 : Int) 0 1000 = true := by simp [M.isIn]
    simp [M.runLane, hq, hok, this]
  have hI := (laneOk_inv hok).2
  have hcount := runN_count p 1000 (M.laneNew t) 0
  have hIR := (runN_inv hp 1000 (M.laneNew t) 0 hI).1
  have hokR := laneOk_runN (p := p) 1000 (M.laneNew t) 0 hok
  have hends : M.alwaysEnds p = true → (M.runN p 1000 (M.laneNew t) 0).1.Pc = p.length ∧ (M.runN p 1000 (M.laneNew t) 0).2 ≤ p.length := fun ha => by
    refine ends_run ha 1000 (M.laneNew t) 0 (List.replicate p.length false) hI (by simp) (by simp [falses]) (fun v _ _ hv => ?_) (.base (by rw [eN]; simp) (by rw [eN]; simp)) (by omega)
    have : rd (List.replicate p.length false) v = false := by
      unfold rd
      rw [List.getD_eq_getElem?_getD, List.getElem?_replicate]
      split <;> rfl
    rw [this] at hv; cases hv
  refine ⟨hlong, fun r1 g1 => ⟨hlong, fun r2 g2 => ?_⟩⟩
  have g1' : r1 = M.stepsAlone p t := g1
  have g2' : r2 = M.runAlone p t := g2
  unfold M.stepsAlone at g1'
  unfold M.runAlone at g2'
  rw [hrun] at g1' g2'
  rw [if_neg (by omega)] at g1' g2'
  generalize M.runN p 1000 (M.laneNew t) 0 = R at *
  clear g1 g2
  have endQ : ∀ r83, r83 = M.impl_AlwaysEnds p → (R.1.Pc = p.length → r1 = R.2) → (¬ R.1.Pc = p.length → M.alwaysEnds p = false) → bcase (!r83) (true = M.laws_FnEnds b) (decide (r1 ≤ ((p.length : Nat) : Int)) = M.laws_FnEnds b) := by
    intro r83 h83 hA hB
    refine bcase_mk (fun _ => rfl) fun e => ?_
    have e := nf e (show r83 = M.alwaysEnds p from h83)
    have := hends e
    rw [hA this.1]
    exact decide_eq_true this.2
  by_cases hpc : R.1.Pc < ((p.length : Nat) : Int)
  · rw [if_pos hpc] at g1' g2'
    subst g1' g2'
    have hne : M.alwaysEnds p = false := by
      refine Bool.eq_false_iff.2 fun ha => ?_
      have := (hends ha).1
      omega
    unfold JoinP
    refine bcase_f rfl (bcase_f rfl (bcase_t rfl ⟨hsm, fun r76 g76 => bcase_f (by rw [g76]; exact hne) ⟨hsm, fun r83 g83 => endQ r83 g83 (fun e => by omega) fun _ => hne⟩⟩))
  · rw [if_neg hpc] at g1' g2'
    subst g1' g2'
    have hpe : R.1.Pc = p.length := by have := hIR.2.1; omega
    have hE : M.impl_LaneEnded p R.1 = true := by simp [M.impl_LaneEnded, hokR, hpe]
    have hge : decide (R.2 ≥ 0) = true := decide_eq_true (by omega)
    unfold JoinP
    refine bcase_f (by simp [hge]) (bcase_t rfl ⟨hlong, fun r65 g65 => bcase_f (by rw [g65, hE]; rfl) ?_⟩)
    exact bcase_f rfl ⟨hsm, fun r83 g83 => endQ r83 g83 (fun _ => rfl) fun e => absurd hpe e⟩
end Go.V
