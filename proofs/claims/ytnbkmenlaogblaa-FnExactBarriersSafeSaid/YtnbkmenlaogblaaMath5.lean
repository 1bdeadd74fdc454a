import Derived.Test.YtnbkmenlaogblaaMath4
import Derived.Test.YtnbkmenlaogblaaMath2
import Derived.Test.YtnbkmenlaogblaaMath1
import Derived.Test.YtnbkmenlaogblaaWp5
set_option linter.unusedVariables false
set_option linter.unusedSimpArgs false
namespace Go.V
theorem wp.laws_szIntS.math (a : List Int) (x : Int) (h : M.laws_szIntS_pre a x) : wp.laws_szIntS a x (fun r => r = M.laws_szIntS a x) := by
  unfold wp.laws_szIntS M.laws_szIntS
  obtain ⟨h1, h2, h3⟩ := h
  unfold M.Long at h3
  rw [w64 (by omega) (by omega)]
  refine bcase_mk (fun e => ?_) fun e => ?_
  · rw [if_pos (by simpa using e)]
  · rw [if_neg (by simpa using e)]
theorem wp.laws_szLane.math (l : D.Lane) (x : Int) (h : M.laws_szLane_pre l x) : wp.laws_szLane l x (fun r => r = M.laws_szLane l x) := by
  refine ⟨h, fun r hr => ?_⟩
  have hr' : r = M.laws_szLane l x := hr
  refine bcase_mk (fun e => ?_) fun e => hr'
  rw [← hr']
  simp at e
  have hr2 : r = if x - l.Regs.length < 0 then -1 else x - l.Regs.length := hr
  split at hr2 <;> omega
theorem wp.laws_toLane.math (l : D.Lane) (h : M.laws_toLane_pre l) : wp.laws_toLane l (fun r => r = M.laws_toLane l) := ⟨h, fun r hr => by rw [hr]; rfl⟩
theorem wp.laws_eqLane.math (a b : D.Lane) (h : M.laws_eqLane_pre a b) : wp.laws_eqLane a b (fun r => r = M.laws_eqLane a b) := by
  obtain ⟨a1, a2, a3⟩ := a
  obtain ⟨b1, b2, b3⟩ := b
  refine bcase_mk (fun e => ?_) fun e1 => bcase_mk (fun e => ?_) fun e2 => ⟨h, fun r hr => bcase_mk (fun e => ?_) fun e => ?_⟩
  · simp at e; simp [M.laws_eqLane, e]
  · simp at e; simp [M.laws_eqLane, e]
  · have := nt e hr
    simp [M.laws_eqIntS] at this; simp [M.laws_eqLane, this]
  · have := nf e hr
    simp at e1 e2
    simp [M.laws_eqIntS] at this; simp [M.laws_eqLane, this, e1, e2]
theorem wp.laws_markInsS.math (a : List D.Ins) (x : Int) (h : M.laws_markInsS_pre a x) : wp.laws_markInsS a x (fun r => r = M.laws_markInsS a x) := by
  unfold wp.laws_markInsS
  obtain ⟨⟨h1, h2⟩, h3⟩ := h
  unfold M.Few at h3
  let g : Nat → D.Ins := fun i => ⟨x + 4 * (i : Int), x + 4 * (i : Int) + 1, x + 4 * (i : Int) + 2, x + 4 * (i : Int) + 3⟩
  refine loop_n a.length (fun k => (x + 4 * k, (k : Int), mk g a k, ())) (fun _ => True) (by simp [mk_zero]) trivial (fun k hk hF next hn => ?_) fun hF next => ?_
  · have hl := mk_len g a (Nat.le_of_lt hk)
    have e1 : IntKind.wrap .i64 (x + 4 * (k : Int) + 1) = x + 4 * (k : Int) + 1 := w64 (by omega) (by omega)
    have e2 : IntKind.wrap .i64 (x + 4 * (k : Int) + 1 + 1) = x + 4 * (k : Int) + 2 := by rw [w64 (by omega) (by omega)]; omega
    have e3 : IntKind.wrap .i64 (x + 4 * (k : Int) + 2 + 1) = x + 4 * (k : Int) + 3 := by rw [w64 (by omega) (by omega)]; omega
    have e4 : IntKind.wrap .i64 (x + 4 * (k : Int) + 3 + 1) = x + 4 * ((k + 1 : Nat) : Int) := by rw [w64 (by omega) (by omega)]; push_cast; omega
    have hs := mk_set g a hk
    refine bcase_t (by simp; omega) ?_
    simp only [e1, e2, e3, e4, List.length_set, hl, Int.toNat_natCast, up64 hk (show a.length ≤ 9223372036854775807 by omega)]
    refine ⟨by omega, by omega, by omega, by omega, ?_⟩
    rw [show (⟨x + 4 * (k : Int), x + 4 * (k : Int) + 1, x + 4 * (k : Int) + 2, x + 4 * (k : Int) + 3⟩ : D.Ins) = g k from rfl, hs]
    exact hn trivial
  · exact bcase_f (by simp) (by rw [mk_all]; rfl)
theorem wp.laws_markLane.math (l : D.Lane) (x : Int) (h : M.laws_markLane_pre l x) : wp.laws_markLane l x (fun r => r = M.laws_markLane l x) := ⟨h, fun r hr => by rw [hr]; rfl⟩
theorem wp.laws_heldLane.math (l : D.Lane) (x : Int) (h : M.laws_heldLane_pre l x) : wp.laws_heldLane l x (fun r => r = M.laws_heldLane l x) := by
  obtain ⟨hs, hf⟩ := h
  refine ⟨⟨hs, hf⟩, fun r hr => ?_⟩
  have hr' : r = M.laws_heldLane l x := hr
  refine bcase_mk (fun e => ?_) fun e => hr'
  rw [← hr']
  simp at e
  have hr2 : r = if l.Regs = M.seqInt x l.Regs.length then x + l.Regs.length else -1 := hr
  have := hs.1
  split at hr2 <;> omega
theorem wp.spec_RunAlone.math (p : List D.Ins) (t : Int) (h : M.spec_RunAlone_pre p t) : wp.spec_RunAlone p t (fun x => x = M.spec_RunAlone p t) := by
  intro r1 h1
  have h1' : r1 = M.laneNew t := h1
  subst h1'
  have := laneNew_len t
  refine ⟨⟨h, by omega⟩, fun r2 h2 => ?_⟩
  have h2' : r2 = M.runLane p (M.laneNew t) 1000 := h2
  subst h2'
  refine bcase_mk (fun e => ?_) fun e1 => bcase_mk (fun e => ?_) fun e2 => ?_
  · have e : (M.runLane p (M.laneNew t) 1000).2 < 0 := by simpa using e
    simp only [M.spec_RunAlone, M.runAlone, if_pos e]
  · have e1 : ¬ (M.runLane p (M.laneNew t) 1000).2 < 0 := by simpa using e1
    have e : (M.runLane p (M.laneNew t) 1000).1.Pc < p.length := by simpa using e
    simp only [M.spec_RunAlone, M.runAlone, if_neg e1, if_pos e]
  · have e1 : ¬ (M.runLane p (M.laneNew t) 1000).2 < 0 := by simpa using e1
    have e2 : ¬ (M.runLane p (M.laneNew t) 1000).1.Pc < p.length := by simpa using e2
    simp only [M.spec_RunAlone, M.runAlone, if_neg e1, if_neg e2]
theorem alone_cases (p : List D.Ins) (t : Int) : (M.impl_alone p t).1 = (M.runAlone p t).1 ∧ (M.impl_alone p t).2.2 = (M.runAlone p t).2 := by
  by_cases ht : M.isIn t 0 23 = true
  · by_cases e1 : (M.runLane p (M.laneNew t) 1000).2 < 0
    · simp [M.impl_alone, M.runAlone, ht, e1]
    · have hpc := (runLane_pc e1).2.2.2.1
      by_cases e2 : (M.runLane p (M.laneNew t) 1000).1.Pc = p.length
      · have e3 : ¬ (M.runLane p (M.laneNew t) 1000).1.Pc < p.length := by omega
        simp only [M.impl_alone, M.runAlone, ht, if_true, if_neg e1, if_neg e3]
        rw [if_neg (by simpa using e2)]; exact ⟨rfl, rfl⟩
      · have e3 : (M.runLane p (M.laneNew t) 1000).1.Pc < p.length := by omega
        simp only [M.impl_alone, M.runAlone, ht, if_true, if_neg e1, if_pos e3]
        rw [if_pos (by simpa using e2)]; exact ⟨rfl, rfl⟩
  · have ht' : M.isIn t 0 23 = false := by simpa using ht
    have hn : M.laneNew t = ⟨0, 0, []⟩ := by simp [M.laneNew, ht']
    have e1 : (M.runLane p (M.laneNew t) 1000).2 < 0 := by
      refine Decidable.byContradiction fun hh => ?_
      have := (runLane_pc hh).2.1
      rw [hn] at this
      simp [M.laneOk, M.laneOf, M.areRegs] at this
    simp only [M.impl_alone, M.runAlone, ht', if_pos e1]
    exact ⟨rfl, rfl⟩
theorem wp.impl_RunAlone.math (p : List D.Ins) (t : Int) (h : M.impl_RunAlone_pre p t) : wp.impl_RunAlone p t (fun x => x = M.impl_RunAlone p t) := by
  refine ⟨h, fun r hr => ?_⟩
  subst hr
  obtain ⟨h1, h2⟩ := alone_cases p t
  rw [h1, h2]; rfl
theorem runAlone_regs (p : List D.Ins) (t : Int) : (M.runAlone p t).1.Regs.length ≤ 4 := by
  unfold M.runAlone
  split
  · simp
  · rename_i h
    split
    · simp
    · have := (runLane_pc h).2.2.2.2
      show (M.runLane p (M.laneNew t) 1000).1.Regs.length ≤ 4
      omega
theorem wp.laws_FnExactRunAlone.math (p : List D.Ins) (t : Int) (h : M.laws_FnExactRunAlone_pre p t) : wp.laws_FnExactRunAlone p t (fun x => x = M.laws_FnExactRunAlone p t) := by
  unfold wp.laws_FnExactRunAlone
  refine ⟨⟨by omega, by omega, h⟩, fun r hr => ?_⟩
  refine bcase_mk (fun _ => rfl) fun e => ?_
  have hl : p.length ≤ 1048576 := by
    rw [hr] at e
    simp only [M.laws_szInsS] at e
    split at e
    · simp at e
    · omega
  clear e hr r
  have hp : M.Long p := by unfold M.Long; omega
  have h4 := runAlone_regs p t
  simp only [M.laws_toInsS, forall_eq, M.spec_RunAlone, M.impl_RunAlone, M.laws_eqInsS, M.laws_eqLane, M.laws_markInsS, M.laws_markLane, M.laws_heldLane, seqInt_len, if_true]
  generalize M.runAlone p t = w at *
  have b1 : decide (1 + 4 * (p.length : Int) < 0) = false := by simp; omega
  have b2 : decide (1 + (w.1.Regs.length : Int) < 0) = false := by simp; omega
  simp only [beq_self_eq_true, Bool.not_true, bne_self_eq_false, b1, b2, bcase]
  simp only [M.laws_toInsS_pre, M.spec_RunAlone_pre, M.impl_RunAlone_pre, M.laws_eqLane_pre, M.laws_eqInsS_pre, M.laws_markInsS_pre, M.laws_markLane_pre, M.laws_heldLane_pre, seqInt_len, M.Small, M.Few, M.Long]
  (repeat' apply And.intro) <;> first | omega | exact trivial | rfl
end Go.V
