import Derived.Test.YtkacokecjojkoaaGreatKSsMath1
set_option linter.unusedVariables false
set_option linter.unusedSimpArgs false
set_option maxRecDepth 20000
namespace Go.V
theorem goes_of {p : List D.Ins} {x : D.Warp} (h : M.Fine p x) (hl : M.spec_l13Local p x = true) : M.Goes p x := by
  refine ⟨⟨h.1, h.2, ?_⟩, hl⟩
  simp only [M.spec_l13Local, Bool.and_eq_true] at hl
  intro e
  rw [e] at hl
  simp at hl
theorem wp.impl_Warp_pass.math (x : D.Warp) (p : List D.Ins) (h : M.impl_Warp_pass_pre x p) : wp.impl_Warp_pass x p (fun r => r = M.impl_Warp_pass x p) := by
  obtain ⟨hp, hw⟩ := h
  unfold wp.impl_Warp_pass
  rw [empty_len0]
  refine bcase_mk (fun e => ?_) fun e => ?_
  · have : M.spec_l13Local p x = false := by simp [M.spec_l13Local, e]
    unfold M.impl_Warp_pass
    rw [if_neg (by rw [this]; simp)]
  have hx : x.Frames ≠ [] := by simpa using e
  have hr : M.Runs p x := ⟨hp, hw, hx⟩
  obtain ⟨t1, t2, t3, t4, t5, t6, t7, t8, t9⟩ := runs_top hr
  rw [last_wrap (by omega)]
  have hl : ∀ b, M.isLocal (M.topIns p x) = b → M.spec_l13Local p x = (b && (!M.splits p x || decide (x.Frames.length ≤ 22))) := fun b hb => by
    simp only [M.spec_l13Local, hb, e, Bool.not_false, Bool.true_and]
  have no : M.spec_l13Local p x = false → (false, x) = M.impl_Warp_pass x p := fun hf => by
    unfold M.impl_Warp_pass
    rw [if_neg (by rw [hf]; simp)]
  have yes : M.spec_l13Local p x = true → ∀ y, y = M.stepW p x → (true, y) = M.impl_Warp_pass x p := fun hf y hy => by
    unfold M.impl_Warp_pass
    rw [if_pos hf, hy]
  refine ⟨by omega, ⟨t5, t6⟩, fun b hb => bcase_mk (fun c => no ?_) fun c => ⟨hr, fun s hs => bcase_mk (fun c2 => ⟨⟨hr, ?_⟩, fun q hq => ?_⟩) fun c2 => ⟨hr, fun q hq => ⟨?_, fun d hd => ?_⟩⟩⟩⟩
  · have c : b = false := by simpa using c
    rw [hl b hb.symm, c]; rfl
  · exact (splits_iff (hs.symm.trans c2)).1
  · have c : b = true := by simpa using c
    have hsp : M.splits p x = true := hs.symm.trans c2
    have hl' := hl b hb.symm
    rw [c, hsp] at hl'
    simp only [Bool.true_and, Bool.not_true, Bool.false_or] at hl'
    rw [hq]
    unfold M.impl_Warp_separate
    by_cases h22 : x.Frames.length ≤ 22
    · rw [decide_eq_true h22] at hl'
      rw [if_pos h22]
      refine bcase_f rfl ⟨?_, fun d hd => yes hl' _ ?_⟩
      · show (M.separated p x).Frames.length ≤ 9223372036854775807
        simp only [M.separated, M.setTop, List.length_append, List.length_set, List.length_cons, List.length_nil]; omega
      · rw [hd]
        unfold M.stepW
        rw [if_pos hsp]; rfl
    · rw [decide_eq_false h22] at hl'
      rw [if_neg h22]
      exact bcase_t rfl (no hl')
  · rw [hq]
    show (M.setTop x.Frames _).length ≤ 9223372036854775807
    simp only [M.setTop, List.length_set]; omega
  · have c : b = true := by simpa using c
    have hsp : M.splits p x = false := by rw [← show s = M.splits p x from hs, c2]
    have hl' := hl b hb.symm
    rw [c, hsp] at hl'
    refine yes hl' _ ?_
    rw [hd, hq]
    unfold M.stepW
    rw [if_neg (by rw [hsp]; simp)]; rfl
theorem wp.impl_WarpOk.math (p : List D.Ins) (x : D.Warp) (h : M.impl_WarpOk_pre p x) : wp.impl_WarpOk p x (fun r => r = M.impl_WarpOk p x) := by
  obtain ⟨h1, h2⟩ := h
  refine ⟨h1, fun b hb => bcase_mk (fun e => ⟨h2, fun c hc => ?_⟩) fun e => ?_⟩
  · have : M.programOk p = true := hb.symm.trans e
    rw [hc]
    show M.warpOf p x = _
    unfold M.impl_WarpOk M.spec_WarpOk
    rw [this, Bool.true_and]
  · have : M.programOk p = false := hb.symm.trans e
    unfold M.impl_WarpOk M.spec_WarpOk
    rw [this, Bool.false_and]
theorem wAt_fine {p : List D.Ins} {x : D.Warp} (h : M.Fine p x) : ∀ k, (∀ j, j < k → M.spec_l13Local p (M.wAt p x j) = true) → M.Fine p (M.wAt p x k)
  | 0, _ => h
  | k + 1, hj => stepW_fine (goes_of (wAt_fine h k fun j hjk => hj j (by omega)) (hj k (by omega)))
def RunI (p : List D.Ins) (x : D.Warp) (n k : Nat) : Prop := M.Fine p (M.wAt p x k) ∧ (k ≤ n → M.runW p n x 0 = M.runW p (n - k) (M.wAt p x k) (k : Int))
theorem runI_zero {p : List D.Ins} {x : D.Warp} (h : M.Fine p x) (n : Nat) : RunI p x n 0 := ⟨h, fun _ => rfl⟩
theorem runI_go {p : List D.Ins} {x : D.Warp} {n k : Nat} (h : RunI p x n k) (hk : k < n) (hl : M.spec_l13Local p (M.wAt p x k) = true) : RunI p x n (k + 1) := by
  refine ⟨stepW_fine (goes_of h.1 hl), fun _ => ?_⟩
  rw [h.2 (by omega), show n - k = (n - (k + 1)) + 1 by omega]
  simp only [M.runW]
  rw [if_pos hl]; rfl
theorem runI_stop {p : List D.Ins} {x : D.Warp} {n k : Nat} (h : RunI p x n k) (hk : k < n) (hl : M.spec_l13Local p (M.wAt p x k) = false) : M.runW p n x 0 = (M.wAt p x k, (k : Int)) := by
  rw [h.2 (by omega), show n - k = (n - (k + 1)) + 1 by omega]
  simp only [M.runW]
  rw [if_neg (by rw [hl]; simp)]
theorem runI_end {p : List D.Ins} {x : D.Warp} {n : Nat} (h : RunI p x n n) : M.runW p n x 0 = (M.wAt p x n, (n : Int)) := by
  rw [h.2 (Nat.le_refl _), Nat.sub_self]; rfl
theorem wp.spec_l14Run.math (p : List D.Ins) (x : D.Warp) (steps : Int) (h : M.spec_l14Run_pre p x steps) : wp.spec_l14Run p x steps (fun r => r = M.spec_l14Run p x steps) := by
  obtain ⟨hF, h0, h1⟩ := h
  obtain ⟨n, rfl⟩ := Int.eq_ofNat_of_zero_le h0
  unfold wp.spec_l14Run M.spec_l14Run
  rw [Int.toNat_natCast]
  refine loop_n n (fun k => ((k : Int), (M.wAt p x k).Number, (M.wAt p x k).Frames, (M.wAt p x k).Regs, ())) (RunI p x n) rfl (runI_zero hF n) (fun k hk hI next hn => ?_) fun hI next => bcase_f (by simp) (runI_end hI).symm
  dsimp only
  refine bcase_t (by simp; omega) ⟨hI.1, fun b hb => bcase_mk (fun e => ⟨goes_of hI.1 (hb.symm.trans e), fun y hy => ?_⟩) fun e => (runI_stop hI hk (hb.symm.trans e)).symm⟩
  have hn := hn (runI_go hI hk (hb.symm.trans e))
  rw [up64 hk (by omega), hy]
  exact hn
theorem wp.impl_RunWarp.math (p : List D.Ins) (x : D.Warp) (steps : Int) (h : M.impl_RunWarp_pre p x steps) : wp.impl_RunWarp p x steps (fun r => r = M.impl_RunWarp p x steps) := by
  obtain ⟨h1, h2⟩ := h
  have hWL : M.WLong x := ⟨Nat.le_trans h2.1 (by omega), Nat.le_trans h2.2 (by omega)⟩
  refine ⟨h2, fun y hy => ?_⟩
  have hy : y = x := hy
  subst hy
  have no : (M.isQuiet p && (M.spec_WarpOk p y && M.isIn steps 0 8000)) = false → (y, (-1 : Int)) = M.impl_RunWarp p y steps := fun hf => by
    unfold M.impl_RunWarp M.runWarp
    rw [if_neg (by rw [hf]; simp)]
  refine ⟨h1, fun a ha => bcase_mk (fun e => no ?_) fun e => ⟨⟨h1, hWL⟩, fun b hb => bcase_mk (fun e2 => no ?_) fun e2 => fun c hc => bcase_mk (fun e3 => no ?_) fun e3 => ?_⟩⟩
  · have : M.isQuiet p = false := by rw [← show a = M.isQuiet p from ha]; simpa using e
    rw [this]; rfl
  · have : M.spec_WarpOk p y = false := by rw [← show b = M.spec_WarpOk p y from hb]; simpa using e2
    rw [this, Bool.false_and, Bool.and_false]
  · have : M.isIn steps 0 8000 = false := by rw [← show c = M.isIn steps 0 8000 from hc]; simpa using e3
    rw [this, Bool.and_false, Bool.and_false]
  · have q1 : M.isQuiet p = true := by rw [← show a = M.isQuiet p from ha]; simpa using e
    have q2 : M.spec_WarpOk p y = true := by rw [← show b = M.spec_WarpOk p y from hb]; simpa using e2
    have q3 : M.isIn steps 0 8000 = true := by rw [← show c = M.isIn steps 0 8000 from hc]; simpa using e3
    have hF : M.Fine p y := by have := q2; simp only [M.spec_WarpOk, Bool.and_eq_true] at this; exact this
    have hM : M.impl_RunWarp p y steps = M.runW p steps.toNat y 0 := by
      unfold M.impl_RunWarp M.runWarp
      rw [if_pos (by rw [q1, q2, q3]; rfl)]
    rw [hM]
    simp only [M.isIn, Bool.and_eq_true, decide_eq_true_eq] at q3
    obtain ⟨n, rfl⟩ := Int.eq_ofNat_of_zero_le q3.1
    rw [Int.toNat_natCast]
    refine loop_n n (fun k => ((k : Int), (M.wAt p y k).Number, (M.wAt p y k).Frames, (M.wAt p y k).Regs, ())) (RunI p y n) rfl (runI_zero hF n) (fun k hk hI next hn => ?_) fun hI next => bcase_f (by simp) (runI_end hI).symm
    dsimp only
    refine bcase_t (by simp; omega) ⟨hI.1, fun r hr => ?_⟩
    rw [hr]
    unfold M.impl_Warp_pass
    cases hl : M.spec_l13Local p (M.wAt p y k) with
    | true =>
      have hn := hn (runI_go hI hk hl)
      rw [if_pos rfl, up64 hk (by omega)]
      exact bcase_t rfl hn
    | false =>
      rw [if_neg (by simp)]
      exact bcase_f rfl (runI_stop hI hk hl).symm
theorem quiet_prog {p : List D.Ins} (h : M.isQuiet p = true) : M.programOk p = true := by
  simp only [M.isQuiet, Bool.and_eq_true] at h; exact h.1
theorem newWarp_fine {p : List D.Ins} (hp : M.programOk p = true) {w : Int} (hw : M.isIn w 0 2 = true) : M.Fine p (M.newWarp p w) := by
  refine ⟨hp, ?_⟩
  have hz : (List.replicate 32 (0 : Int)).all M.isWord = true := by rfl
  unfold M.warpOf
  have hN : (M.newWarp p w).Number = w := rfl
  have hR : (M.newWarp p w).Regs = List.replicate 32 0 := rfl
  have hF : (M.newWarp p w).Frames = if p.length > 0 then [⟨0, p.length, 255⟩] else [] := rfl
  rw [hN, hR, hF, hw, hz, List.length_replicate]
  by_cases h0 : p.length > 0
  · rw [if_pos h0]
    have hn : ((p.length : Nat) : Int) ≠ 0 := by omega
    have h1 : M.frameOk p.length ⟨0, p.length, 255⟩ = true := by
      simp only [M.frameOk, M.isIn, M.isMask, Bool.and_eq_true, decide_eq_true_eq, bne_iff_ne]; omega
    have hl : M.lastF [(⟨0, p.length, 255⟩ : D.Frame)] = ⟨0, p.length, 255⟩ := rfl
    have hr : rd [(⟨0, p.length, 255⟩ : D.Frame)] 0 = ⟨0, p.length, 255⟩ := rfl
    have h2 : M.endsOk [(⟨0, p.length, 255⟩ : D.Frame)] p.length = true := by
      unfold M.endsOk
      rw [hl, hr]
      simp only [Bool.and_eq_true, decide_eq_true_eq, bne_iff_ne, beq_iff_eq, List.length_cons, List.length_nil]
      exact ⟨by omega, fun h => hn h.symm, fun h => hn h.symm, trivial, trivial⟩
    have : M.areFrames [(⟨0, p.length, 255⟩ : D.Frame)] p.length = true := by
      unfold M.areFrames
      rw [h2]; simp [h1]
    rw [this]; rfl
  · rw [if_neg h0]; rfl
theorem newWarp_fit (p : List D.Ins) (w : Int) : M.WFit (M.newWarp p w) := by
  refine ⟨?_, ?_⟩
  · show (if p.length > 0 then [(⟨0, p.length, 255⟩ : D.Frame)] else []).length ≤ _
    split <;> simp
  · show (List.replicate 32 (0 : Int)).length ≤ _
    simp
theorem wp.spec_WarpResult.math (p : List D.Ins) (w : Int) (h : M.spec_WarpResult_pre p w) : wp.spec_WarpResult p w (fun r => r = M.spec_WarpResult p w) := by
  have no : (M.isQuiet p && M.isIn w 0 2) = false → (M.noWarp, (0 : Int), false) = M.spec_WarpResult p w := fun hf => by
    unfold M.spec_WarpResult M.warpResult
    rw [if_neg (by rw [hf]; simp)]
  refine ⟨h, fun a ha => bcase_mk (fun e => no ?_) fun e => ⟨h, fun b hb => bcase_mk (fun e2 => no ?_) fun e2 => ?_⟩⟩
  · have e : a.2 = false := by simpa using e
    rw [ha] at e
    unfold M.spec_WarpNew at e
    split at e
    · cases e
    · rename_i hc
      cases hq : M.isQuiet p with
      | false => rfl
      | true =>
        rw [quiet_prog hq, Bool.true_and] at hc
        simpa using hc
  · have : M.isQuiet p = false := by rw [← show b = M.isQuiet p from hb]; simpa using e2
    rw [this]; rfl
  · have q1 : M.isQuiet p = true := by rw [← show b = M.isQuiet p from hb]; simpa using e2
    have e : a.2 = true := by simpa using e
    have ha' : M.isIn w 0 2 = true ∧ a.1 = M.newWarp p w := by
      rw [ha] at e ⊢
      unfold M.spec_WarpNew at e ⊢
      split at e
      · rename_i hc
        rw [if_pos hc]
        simp only [Bool.and_eq_true] at hc
        exact ⟨hc.2, rfl⟩
      · cases e
    rw [ha'.2]
    have hF := newWarp_fine (quiet_prog q1) ha'.1
    refine ⟨⟨hF, by omega, by omega⟩, fun r hr => ?_⟩
    have hr : r = M.runW p 8000 (M.newWarp p w) 0 := hr
    rw [empty_len]
    unfold M.spec_WarpResult M.warpResult
    rw [if_pos (by rw [q1, ha'.1]; rfl), ← hr]
    refine bcase_mk (fun e3 => ?_) fun e3 => ?_
    · rw [if_neg (by simpa using e3)]; rfl
    · rw [if_pos (by simpa using e3)]
theorem wp.impl_WarpResult.math (p : List D.Ins) (w : Int) (h : M.impl_WarpResult_pre p w) : wp.impl_WarpResult p w (fun r => r = M.impl_WarpResult p w) := by
  have no : (M.isQuiet p && M.isIn w 0 2) = false → (M.noWarp, (0 : Int), false) = M.impl_WarpResult p w := fun hf => by
    unfold M.impl_WarpResult M.warpResult
    rw [if_neg (by rw [hf]; simp)]
  refine ⟨h, fun a ha => bcase_mk (fun e => no ?_) fun e => fun b hb => bcase_mk (fun e2 => no ?_) fun e2 => ⟨trivial, fun y hy => ?_⟩⟩
  · have : M.isQuiet p = false := by rw [← show a = M.isQuiet p from ha]; simpa using e
    rw [this]; rfl
  · have : M.isIn w 0 2 = false := by rw [← show b = M.isIn w 0 2 from hb]; simpa using e2
    rw [this, Bool.and_false]
  · have q1 : M.isQuiet p = true := by rw [← show a = M.isQuiet p from ha]; simpa using e
    have q2 : M.isIn w 0 2 = true := by rw [← show b = M.isIn w 0 2 from hb]; simpa using e2
    have hy : y = M.newWarp p w := hy
    have hF := newWarp_fine (quiet_prog q1) q2
    have hfit := newWarp_fit p w
    rw [hy]
    refine ⟨⟨h, hfit⟩, fun r hr => ?_⟩
    have hr : r = M.runW p 8000 (M.newWarp p w) 0 := by
      rw [hr]
      show M.runWarp p _ 8000 = _
      unfold M.runWarp
      have hok : M.spec_WarpOk p (M.newWarp p w) = true := by
        unfold M.spec_WarpOk
        rw [hF.1, hF.2]; rfl
      rw [if_pos (by rw [q1, hok]; rfl)]; rfl
    rw [empty_len]
    unfold M.impl_WarpResult M.warpResult
    rw [if_pos (by rw [q1, q2]; rfl), ← hr]
    refine bcase_mk (fun e3 => ?_) fun e3 => ?_
    · rw [if_neg (by simpa using e3)]; rfl
    · rw [if_pos (by simpa using e3)]
end Go.V
set_option linter.unusedVariables false
set_option linter.unusedVariables false
set_option linter.unusedSimpArgs false
set_option maxRecDepth 20000
namespace Go.V
theorem fine_small {p : List D.Ins} {x : D.Warp} (h : M.Fine p x) : x.Frames.length ≤ 24 ∧ x.Regs.length = 32 := by
  have hw := h.2
  simp only [M.warpOf, M.areFrames, Bool.and_eq_true, Bool.or_eq_true, beq_iff_eq] at hw
  obtain ⟨h1, h2, h3, h4, h5⟩ := hw
  refine ⟨?_, h2⟩
  rcases h5 with h5 | h5
  · have : x.Frames = [] := by simpa using h5
    rw [this]; simp
  · simp only [M.endsOk, Bool.and_eq_true, decide_eq_true_eq] at h5
    exact h5.1
theorem sz_smallP {p : List D.Ins} {r : Int} (hr : r = M.laws_szInsS p 1048576) (e : decide (r < 0) = false) : p.length ≤ 1048576 ∧ r = 1048576 - p.length := by
  rw [hr] at e ⊢
  unfold M.laws_szInsS at e ⊢
  split at e
  · simp at e
  · rename_i hc
    rw [if_neg hc]; exact ⟨by omega, rfl⟩
end Go.V
set_option linter.unusedVariables false
set_option linter.unusedVariables false
set_option linter.unusedSimpArgs false
set_option maxRecDepth 20000
namespace Go.V
theorem wAt_shift (p : List D.Ins) (x : D.Warp) : ∀ k, M.wAt p (M.stepW p x) k = M.wAt p x (k + 1)
  | 0 => rfl
  | k + 1 => by
    show M.stepW p (M.wAt p (M.stepW p x) k) = M.stepW p (M.wAt p x (k + 1))
    rw [wAt_shift p x k]
theorem runW_trace {p : List D.Ins} : ∀ (n : Nat) (x : D.Warp) (c : Int), ∃ m : Nat, m ≤ n ∧ M.runW p n x c = (M.wAt p x m, c + (m : Int)) ∧ ∀ j, j < m → M.spec_l13Local p (M.wAt p x j) = true
  | 0, x, c => ⟨0, Nat.le_refl _, by simp [M.runW, M.wAt], fun j hj => by omega⟩
  | n + 1, x, c => by
    simp only [M.runW]
    by_cases h : M.spec_l13Local p x = true
    · rw [if_pos h]
      obtain ⟨m, h1, h2, h3⟩ := runW_trace n (M.stepW p x) (c + 1)
      refine ⟨m + 1, by omega, ?_, fun j hj => ?_⟩
      · rw [h2, wAt_shift]
        refine Prod.ext rfl ?_
        show c + 1 + (m : Int) = c + ((m + 1 : Nat) : Int)
        omega
      · cases j with
        | zero => exact h
        | succ j => rw [← wAt_shift]; exact h3 j (by omega)
    · rw [if_neg h]
      exact ⟨0, by omega, by simp [M.wAt], fun j hj => by omega⟩
theorem result_trace {p : List D.Ins} {w : Int} (h : (M.warpResult p w).2.2 = true) :
    M.isQuiet p = true ∧ M.isIn w 0 2 = true ∧ ∃ m : Nat, m ≤ 8000 ∧ (M.warpResult p w).1 = M.wAt p (M.newWarp p w) m ∧ (M.warpResult p w).2.1 = (m : Int) ∧ (∀ j, j < m → M.spec_l13Local p (M.wAt p (M.newWarp p w) j) = true) ∧ (M.wAt p (M.newWarp p w) m).Frames = [] := by
  obtain ⟨m, h1, h2, h3⟩ := runW_trace (p := p) 8000 (M.newWarp p w) 0
  unfold M.warpResult at h ⊢
  rw [h2] at h ⊢
  split at h
  · rename_i hc
    rw [if_pos hc]
    simp only [Bool.and_eq_true] at hc
    split at h
    · rename_i he
      rw [if_pos he]
      exact ⟨hc.1, hc.2, m, h1, rfl, by show (0 : Int) + (m : Int) = m; omega, h3, by simpa using he⟩
    · cases h
  · cases h
theorem trace_fine {p : List D.Ins} {w : Int} (hq : M.isQuiet p = true) (hw : M.isIn w 0 2 = true) {m : Nat} (h : ∀ j, j < m → M.spec_l13Local p (M.wAt p (M.newWarp p w) j) = true) {k : Nat} (hk : k ≤ m) : M.Fine p (M.wAt p (M.newWarp p w) k) :=
  wAt_fine (newWarp_fine (quiet_prog hq) hw) k fun j hj => h j (by omega)
end Go.V
set_option linter.unusedVariables false
namespace Go.V
def wp.spec_CountLanes (x0 : Int) (Q : Int → Prop) : Prop :=
  (∀ r21, r21 = M.spec_IsMask x0 → bcase (!r21) (Q (-1)) (LoopP (σ := Int × Int × Unit) (fun (p38 : Int × Int × Unit) next31 => match p38 with | (i26, i27, _) => bcase (decide (i27 < 8)) (((0 ≤ i27) ∧ next31 ((IntKind.wrap .i64 (i26 + (bitAnd .i64 (Int.fdiv x0 (2 ^ (min (i27.toNat) (IntKind.bits .i64)))) 1))), (IntKind.wrap .i64 (i27 + 1)), ()))) (Q i26)) (0, 0, ())))
def wp.spec_CostOf (xs0 : List D.Ins) (x1 : Int) (Q : (D.Cost × Bool) → Prop) : Prop :=
  (M.spec_WarpResult_pre xs0 x1 ∧ ∀ r23, r23 = M.spec_WarpResult xs0 x1 → bcase (!r23.2.2) (Q ((⟨0, 0, 0⟩ : D.Cost), false)) ((M.spec_WarpNew_pre xs0 x1 ∧ ∀ r38, r38 = M.spec_WarpNew xs0 x1 → LoopP (σ := Int × Int × (List D.Frame) × (List Int) × Int × Int × Int × Unit) (fun (p201 : Int × Int × (List D.Frame) × (List Int) × Int × Int × Int × Unit) next147 => match p201 with | (i133, i134, xs135, xs138, i141, i142, i143, _) => bcase (decide (i133 < r23.2.1)) ((M.spec_ActiveMask_pre (⟨i134, xs135, xs138⟩ : D.Warp) ∧ ∀ r150, r150 = M.spec_ActiveMask (⟨i134, xs135, xs138⟩ : D.Warp) → (M.spec_CountLanes_pre r150 ∧ ∀ r155, r155 = M.spec_CountLanes r150 → (M.spec_l13Splits_pre xs0 (⟨i134, xs135, xs138⟩ : D.Warp) ∧ ∀ r162, r162 = M.spec_l13Splits xs0 (⟨i134, xs135, xs138⟩ : D.Warp) → bcase r162 ((M.spec_l13Step_pre xs0 (⟨i134, xs135, xs138⟩ : D.Warp) ∧ ∀ r169, r169 = M.spec_l13Step xs0 (⟨i134, xs135, xs138⟩ : D.Warp) → next147 ((IntKind.wrap .i64 (i133 + 1)), r169.Number, r169.Frames, r169.Regs, i141, (IntKind.wrap .i64 (i142 + r155)), (IntKind.wrap .i64 (i143 + 1)), ()))) ((M.spec_l13Step_pre xs0 (⟨i134, xs135, xs138⟩ : D.Warp) ∧ ∀ r183, r183 = M.spec_l13Step xs0 (⟨i134, xs135, xs138⟩ : D.Warp) → next147 ((IntKind.wrap .i64 (i133 + 1)), r183.Number, r183.Frames, r183.Regs, i141, (IntKind.wrap .i64 (i142 + r155)), i143, ()))))))) (Q ((⟨i141, i142, i143⟩ : D.Cost), true))) (0, r38.1.Number, r38.1.Frames, r38.1.Regs, r23.2.1, 0, 0, ()))))
def wp.math_bits_OnesCount64 (x0 : Int) (Q : Int → Prop) : Prop :=
  Q (bitAnd .i64 (IntKind.wrap .i64 (IntKind.wrap .u64 ((IntKind.wrap .u64 ((IntKind.wrap .u64 ((bitAnd .u64 (IntKind.wrap .u64 ((Int.fdiv (IntKind.wrap .u64 ((bitAnd .u64 (Int.fdiv (IntKind.wrap .u64 ((bitAnd .u64 (Int.fdiv x0 (2 ^ (min ((1 : Int).toNat) (IntKind.bits .u64)))) 6148914691236517205) + (bitAnd .u64 x0 6148914691236517205))) (2 ^ (min ((2 : Int).toNat) (IntKind.bits .u64)))) 3689348814741910323) + (bitAnd .u64 (IntKind.wrap .u64 ((bitAnd .u64 (Int.fdiv x0 (2 ^ (min ((1 : Int).toNat) (IntKind.bits .u64)))) 6148914691236517205) + (bitAnd .u64 x0 6148914691236517205))) 3689348814741910323))) (2 ^ (min ((4 : Int).toNat) (IntKind.bits .u64)))) + (IntKind.wrap .u64 ((bitAnd .u64 (Int.fdiv (IntKind.wrap .u64 ((bitAnd .u64 (Int.fdiv x0 (2 ^ (min ((1 : Int).toNat) (IntKind.bits .u64)))) 6148914691236517205) + (bitAnd .u64 x0 6148914691236517205))) (2 ^ (min ((2 : Int).toNat) (IntKind.bits .u64)))) 3689348814741910323) + (bitAnd .u64 (IntKind.wrap .u64 ((bitAnd .u64 (Int.fdiv x0 (2 ^ (min ((1 : Int).toNat) (IntKind.bits .u64)))) 6148914691236517205) + (bitAnd .u64 x0 6148914691236517205))) 3689348814741910323))))) 1085102592571150095) + (Int.fdiv (bitAnd .u64 (IntKind.wrap .u64 ((Int.fdiv (IntKind.wrap .u64 ((bitAnd .u64 (Int.fdiv (IntKind.wrap .u64 ((bitAnd .u64 (Int.fdiv x0 (2 ^ (min ((1 : Int).toNat) (IntKind.bits .u64)))) 6148914691236517205) + (bitAnd .u64 x0 6148914691236517205))) (2 ^ (min ((2 : Int).toNat) (IntKind.bits .u64)))) 3689348814741910323) + (bitAnd .u64 (IntKind.wrap .u64 ((bitAnd .u64 (Int.fdiv x0 (2 ^ (min ((1 : Int).toNat) (IntKind.bits .u64)))) 6148914691236517205) + (bitAnd .u64 x0 6148914691236517205))) 3689348814741910323))) (2 ^ (min ((4 : Int).toNat) (IntKind.bits .u64)))) + (IntKind.wrap .u64 ((bitAnd .u64 (Int.fdiv (IntKind.wrap .u64 ((bitAnd .u64 (Int.fdiv x0 (2 ^ (min ((1 : Int).toNat) (IntKind.bits .u64)))) 6148914691236517205) + (bitAnd .u64 x0 6148914691236517205))) (2 ^ (min ((2 : Int).toNat) (IntKind.bits .u64)))) 3689348814741910323) + (bitAnd .u64 (IntKind.wrap .u64 ((bitAnd .u64 (Int.fdiv x0 (2 ^ (min ((1 : Int).toNat) (IntKind.bits .u64)))) 6148914691236517205) + (bitAnd .u64 x0 6148914691236517205))) 3689348814741910323))))) 1085102592571150095) (2 ^ (min ((8 : Int).toNat) (IntKind.bits .u64)))))) + (Int.fdiv (IntKind.wrap .u64 ((bitAnd .u64 (IntKind.wrap .u64 ((Int.fdiv (IntKind.wrap .u64 ((bitAnd .u64 (Int.fdiv (IntKind.wrap .u64 ((bitAnd .u64 (Int.fdiv x0 (2 ^ (min ((1 : Int).toNat) (IntKind.bits .u64)))) 6148914691236517205) + (bitAnd .u64 x0 6148914691236517205))) (2 ^ (min ((2 : Int).toNat) (IntKind.bits .u64)))) 3689348814741910323) + (bitAnd .u64 (IntKind.wrap .u64 ((bitAnd .u64 (Int.fdiv x0 (2 ^ (min ((1 : Int).toNat) (IntKind.bits .u64)))) 6148914691236517205) + (bitAnd .u64 x0 6148914691236517205))) 3689348814741910323))) (2 ^ (min ((4 : Int).toNat) (IntKind.bits .u64)))) + (IntKind.wrap .u64 ((bitAnd .u64 (Int.fdiv (IntKind.wrap .u64 ((bitAnd .u64 (Int.fdiv x0 (2 ^ (min ((1 : Int).toNat) (IntKind.bits .u64)))) 6148914691236517205) + (bitAnd .u64 x0 6148914691236517205))) (2 ^ (min ((2 : Int).toNat) (IntKind.bits .u64)))) 3689348814741910323) + (bitAnd .u64 (IntKind.wrap .u64 ((bitAnd .u64 (Int.fdiv x0 (2 ^ (min ((1 : Int).toNat) (IntKind.bits .u64)))) 6148914691236517205) + (bitAnd .u64 x0 6148914691236517205))) 3689348814741910323))))) 1085102592571150095) + (Int.fdiv (bitAnd .u64 (IntKind.wrap .u64 ((Int.fdiv (IntKind.wrap .u64 ((bitAnd .u64 (Int.fdiv (IntKind.wrap .u64 ((bitAnd .u64 (Int.fdiv x0 (2 ^ (min ((1 : Int).toNat) (IntKind.bits .u64)))) 6148914691236517205) + (bitAnd .u64 x0 6148914691236517205))) (2 ^ (min ((2 : Int).toNat) (IntKind.bits .u64)))) 3689348814741910323) + (bitAnd .u64 (IntKind.wrap .u64 ((bitAnd .u64 (Int.fdiv x0 (2 ^ (min ((1 : Int).toNat) (IntKind.bits .u64)))) 6148914691236517205) + (bitAnd .u64 x0 6148914691236517205))) 3689348814741910323))) (2 ^ (min ((4 : Int).toNat) (IntKind.bits .u64)))) + (IntKind.wrap .u64 ((bitAnd .u64 (Int.fdiv (IntKind.wrap .u64 ((bitAnd .u64 (Int.fdiv x0 (2 ^ (min ((1 : Int).toNat) (IntKind.bits .u64)))) 6148914691236517205) + (bitAnd .u64 x0 6148914691236517205))) (2 ^ (min ((2 : Int).toNat) (IntKind.bits .u64)))) 3689348814741910323) + (bitAnd .u64 (IntKind.wrap .u64 ((bitAnd .u64 (Int.fdiv x0 (2 ^ (min ((1 : Int).toNat) (IntKind.bits .u64)))) 6148914691236517205) + (bitAnd .u64 x0 6148914691236517205))) 3689348814741910323))))) 1085102592571150095) (2 ^ (min ((8 : Int).toNat) (IntKind.bits .u64)))))) (2 ^ (min ((16 : Int).toNat) (IntKind.bits .u64)))))) + (Int.fdiv (IntKind.wrap .u64 ((IntKind.wrap .u64 ((bitAnd .u64 (IntKind.wrap .u64 ((Int.fdiv (IntKind.wrap .u64 ((bitAnd .u64 (Int.fdiv (IntKind.wrap .u64 ((bitAnd .u64 (Int.fdiv x0 (2 ^ (min ((1 : Int).toNat) (IntKind.bits .u64)))) 6148914691236517205) + (bitAnd .u64 x0 6148914691236517205))) (2 ^ (min ((2 : Int).toNat) (IntKind.bits .u64)))) 3689348814741910323) + (bitAnd .u64 (IntKind.wrap .u64 ((bitAnd .u64 (Int.fdiv x0 (2 ^ (min ((1 : Int).toNat) (IntKind.bits .u64)))) 6148914691236517205) + (bitAnd .u64 x0 6148914691236517205))) 3689348814741910323))) (2 ^ (min ((4 : Int).toNat) (IntKind.bits .u64)))) + (IntKind.wrap .u64 ((bitAnd .u64 (Int.fdiv (IntKind.wrap .u64 ((bitAnd .u64 (Int.fdiv x0 (2 ^ (min ((1 : Int).toNat) (IntKind.bits .u64)))) 6148914691236517205) + (bitAnd .u64 x0 6148914691236517205))) (2 ^ (min ((2 : Int).toNat) (IntKind.bits .u64)))) 3689348814741910323) + (bitAnd .u64 (IntKind.wrap .u64 ((bitAnd .u64 (Int.fdiv x0 (2 ^ (min ((1 : Int).toNat) (IntKind.bits .u64)))) 6148914691236517205) + (bitAnd .u64 x0 6148914691236517205))) 3689348814741910323))))) 1085102592571150095) + (Int.fdiv (bitAnd .u64 (IntKind.wrap .u64 ((Int.fdiv (IntKind.wrap .u64 ((bitAnd .u64 (Int.fdiv (IntKind.wrap .u64 ((bitAnd .u64 (Int.fdiv x0 (2 ^ (min ((1 : Int).toNat) (IntKind.bits .u64)))) 6148914691236517205) + (bitAnd .u64 x0 6148914691236517205))) (2 ^ (min ((2 : Int).toNat) (IntKind.bits .u64)))) 3689348814741910323) + (bitAnd .u64 (IntKind.wrap .u64 ((bitAnd .u64 (Int.fdiv x0 (2 ^ (min ((1 : Int).toNat) (IntKind.bits .u64)))) 6148914691236517205) + (bitAnd .u64 x0 6148914691236517205))) 3689348814741910323))) (2 ^ (min ((4 : Int).toNat) (IntKind.bits .u64)))) + (IntKind.wrap .u64 ((bitAnd .u64 (Int.fdiv (IntKind.wrap .u64 ((bitAnd .u64 (Int.fdiv x0 (2 ^ (min ((1 : Int).toNat) (IntKind.bits .u64)))) 6148914691236517205) + (bitAnd .u64 x0 6148914691236517205))) (2 ^ (min ((2 : Int).toNat) (IntKind.bits .u64)))) 3689348814741910323) + (bitAnd .u64 (IntKind.wrap .u64 ((bitAnd .u64 (Int.fdiv x0 (2 ^ (min ((1 : Int).toNat) (IntKind.bits .u64)))) 6148914691236517205) + (bitAnd .u64 x0 6148914691236517205))) 3689348814741910323))))) 1085102592571150095) (2 ^ (min ((8 : Int).toNat) (IntKind.bits .u64)))))) + (Int.fdiv (IntKind.wrap .u64 ((bitAnd .u64 (IntKind.wrap .u64 ((Int.fdiv (IntKind.wrap .u64 ((bitAnd .u64 (Int.fdiv (IntKind.wrap .u64 ((bitAnd .u64 (Int.fdiv x0 (2 ^ (min ((1 : Int).toNat) (IntKind.bits .u64)))) 6148914691236517205) + (bitAnd .u64 x0 6148914691236517205))) (2 ^ (min ((2 : Int).toNat) (IntKind.bits .u64)))) 3689348814741910323) + (bitAnd .u64 (IntKind.wrap .u64 ((bitAnd .u64 (Int.fdiv x0 (2 ^ (min ((1 : Int).toNat) (IntKind.bits .u64)))) 6148914691236517205) + (bitAnd .u64 x0 6148914691236517205))) 3689348814741910323))) (2 ^ (min ((4 : Int).toNat) (IntKind.bits .u64)))) + (IntKind.wrap .u64 ((bitAnd .u64 (Int.fdiv (IntKind.wrap .u64 ((bitAnd .u64 (Int.fdiv x0 (2 ^ (min ((1 : Int).toNat) (IntKind.bits .u64)))) 6148914691236517205) + (bitAnd .u64 x0 6148914691236517205))) (2 ^ (min ((2 : Int).toNat) (IntKind.bits .u64)))) 3689348814741910323) + (bitAnd .u64 (IntKind.wrap .u64 ((bitAnd .u64 (Int.fdiv x0 (2 ^ (min ((1 : Int).toNat) (IntKind.bits .u64)))) 6148914691236517205) + (bitAnd .u64 x0 6148914691236517205))) 3689348814741910323))))) 1085102592571150095) + (Int.fdiv (bitAnd .u64 (IntKind.wrap .u64 ((Int.fdiv (IntKind.wrap .u64 ((bitAnd .u64 (Int.fdiv (IntKind.wrap .u64 ((bitAnd .u64 (Int.fdiv x0 (2 ^ (min ((1 : Int).toNat) (IntKind.bits .u64)))) 6148914691236517205) + (bitAnd .u64 x0 6148914691236517205))) (2 ^ (min ((2 : Int).toNat) (IntKind.bits .u64)))) 3689348814741910323) + (bitAnd .u64 (IntKind.wrap .u64 ((bitAnd .u64 (Int.fdiv x0 (2 ^ (min ((1 : Int).toNat) (IntKind.bits .u64)))) 6148914691236517205) + (bitAnd .u64 x0 6148914691236517205))) 3689348814741910323))) (2 ^ (min ((4 : Int).toNat) (IntKind.bits .u64)))) + (IntKind.wrap .u64 ((bitAnd .u64 (Int.fdiv (IntKind.wrap .u64 ((bitAnd .u64 (Int.fdiv x0 (2 ^ (min ((1 : Int).toNat) (IntKind.bits .u64)))) 6148914691236517205) + (bitAnd .u64 x0 6148914691236517205))) (2 ^ (min ((2 : Int).toNat) (IntKind.bits .u64)))) 3689348814741910323) + (bitAnd .u64 (IntKind.wrap .u64 ((bitAnd .u64 (Int.fdiv x0 (2 ^ (min ((1 : Int).toNat) (IntKind.bits .u64)))) 6148914691236517205) + (bitAnd .u64 x0 6148914691236517205))) 3689348814741910323))))) 1085102592571150095) (2 ^ (min ((8 : Int).toNat) (IntKind.bits .u64)))))) (2 ^ (min ((16 : Int).toNat) (IntKind.bits .u64)))))) (2 ^ (min ((32 : Int).toNat) (IntKind.bits .u64))))))) 127)
def wp.math_bits_OnesCount (x0 : Int) (Q : Int → Prop) : Prop :=
  (M.math_bits_OnesCount64_pre x0 ∧ ∀ r21, r21 = M.math_bits_OnesCount64 x0 → Q r21)
def wp.impl_CountLanes (x0 : Int) (Q : Int → Prop) : Prop :=
  (∀ r21, r21 = M.impl_IsMask x0 → bcase (!r21) (Q (-1)) ((M.math_bits_OnesCount_pre (IntKind.wrap .u64 x0) ∧ ∀ r26, r26 = M.math_bits_OnesCount (IntKind.wrap .u64 x0) → Q r26)))
def wp.impl_CostOf_1 (s0 : D.Warp) (s1 : D.Cost) (xs2 : List D.Ins) (Q : D.Cost → Prop) : Prop :=
  bcase (((s0.Frames.length : Nat) : Int) == 0) (Q (⟨s1.Steps, s1.Active, s1.Splits⟩ : D.Cost)) ((M.impl_ActiveMask_pre s0 ∧ ∀ r26, r26 = M.impl_ActiveMask s0 → (M.impl_CountLanes_pre r26 ∧ ∀ r31, r31 = M.impl_CountLanes r26 → (M.impl_Warp_splits_pre s0 xs2 ∧ ∀ r38, r38 = M.impl_Warp_splits s0 xs2 → bcase r38 (Q (⟨(IntKind.wrap .i64 (s1.Steps + 1)), (IntKind.wrap .i64 (s1.Active + r31)), (IntKind.wrap .i64 (s1.Splits + 1))⟩ : D.Cost)) (Q (⟨(IntKind.wrap .i64 (s1.Steps + 1)), (IntKind.wrap .i64 (s1.Active + r31)), s1.Splits⟩ : D.Cost))))))
def wp.impl_visit_b (xs0 : List D.Ins) (x1 : Int) (s2c0 : D.Cost) (xs2c1 : List D.Ins) (Q : (Bool × D.Cost) → Prop) : Prop :=
  (M.impl_WarpResult_pre xs0 x1 ∧ ∀ r21, r21 = M.impl_WarpResult xs0 x1 → bcase (!r21.2.2) (Q (false, (⟨s2c0.Steps, s2c0.Active, s2c0.Splits⟩ : D.Cost))) ((M.impl_newWarp_pre xs0 x1 ∧ ∀ r34, r34 = M.impl_newWarp xs0 x1 → LoopP (σ := Int × Int × Int × Int × Int × (List D.Frame) × (List Int) × Unit) (fun (p106 : Int × Int × Int × Int × Int × (List D.Frame) × (List Int) × Unit) next81 => match p106 with | (i67, i68, i69, i70, i71, xs72, xs75, _) => bcase (decide (i67 < r21.2.1)) ((M.impl_CostOf_1_pre (⟨i71, xs72, xs75⟩ : D.Warp) (⟨i68, i69, i70⟩ : D.Cost) xs2c1 ∧ ∀ r83, r83 = M.impl_CostOf_1 (⟨i71, xs72, xs75⟩ : D.Warp) (⟨i68, i69, i70⟩ : D.Cost) xs2c1 → (M.impl_Warp_pass_pre (⟨i71, xs72, xs75⟩ : D.Warp) xs0 ∧ ∀ r88, r88 = M.impl_Warp_pass (⟨i71, xs72, xs75⟩ : D.Warp) xs0 → next81 ((IntKind.wrap .i64 (i67 + 1)), r83.Steps, r83.Active, r83.Splits, r88.2.Number, r88.2.Frames, r88.2.Regs, ())))) ((M.impl_CostOf_1_pre (⟨i71, xs72, xs75⟩ : D.Warp) (⟨i68, i69, i70⟩ : D.Cost) xs2c1 ∧ ∀ r100, r100 = M.impl_CostOf_1 (⟨i71, xs72, xs75⟩ : D.Warp) (⟨i68, i69, i70⟩ : D.Cost) xs2c1 → Q (true, (⟨r100.Steps, r100.Active, r100.Splits⟩ : D.Cost))))) (0, s2c0.Steps, s2c0.Active, s2c0.Splits, r34.Number, r34.Frames, r34.Regs, ()))))
def wp.impl_CostOf (xs0 : List D.Ins) (x1 : Int) (Q : (D.Cost × Bool) → Prop) : Prop :=
  (M.impl_visit_b_pre xs0 x1 (⟨0, 0, 0⟩ : D.Cost) xs0 ∧ ∀ r29, r29 = M.impl_visit_b xs0 x1 (⟨0, 0, 0⟩ : D.Cost) xs0 → bcase (!r29.1) (Q ((⟨0, 0, 0⟩ : D.Cost), false)) (Q ((⟨r29.2.Steps, r29.2.Active, r29.2.Splits⟩ : D.Cost), true)))
end Go.V
set_option linter.unusedVariables false
set_option linter.unusedSimpArgs false
set_option maxRecDepth 20000
namespace Go.V
theorem bitm_check : ((List.range 256).all fun m => (List.range 8).all fun k => bitAnd .i64 (Int.fdiv ((m : Nat) : Int) (2 ^ (min (((k : Nat) : Int).toNat) (IntKind.bits .i64)))) 1 == (if M.hasLane ((m : Nat) : Int) ((k : Nat) : Int) then 1 else 0)) = true := by kernel_rfl
theorem count_in (m : Int) : ∀ k : Nat, 0 ≤ M.countTo m k ∧ M.countTo m k ≤ (k : Int)
  | 0 => by simp [M.countTo]
  | k + 1 => by
    have := count_in m k
    simp only [M.countTo]
    split <;> omega
theorem wp.spec_CountLanes.math (m : Int) (h : M.spec_CountLanes_pre m) : wp.spec_CountLanes m (fun r => r = M.spec_CountLanes m) := by
  unfold wp.spec_CountLanes
  refine fun b hb => bcase_mk (fun e => ?_) fun e => ?_
  all_goals have hb : b = M.isMask m := hb
  · have e : b = false := by simpa using e
    unfold M.spec_CountLanes M.countLanes
    rw [if_neg (by rw [← hb, e]; simp)]
  · have e : b = true := by simpa using e
    obtain ⟨k0, hk0, hlt⟩ := isMask_nat (hb.symm.trans e)
    have hM : M.spec_CountLanes m = M.countTo m 8 := by
      unfold M.spec_CountLanes M.countLanes
      rw [if_pos (hb.symm.trans e)]
    rw [hM]
    refine loop_n 8 (fun k => (M.countTo m k, (k : Int), ())) (fun _ => True) rfl trivial (fun k hk _ next hn => ?_) fun _ next => bcase_f (by simp) rfl
    dsimp only
    have hc := List.all_eq_true.1 (List.all_eq_true.1 bitm_check k0 (List.mem_range.2 hlt)) k (List.mem_range.2 hk)
    have hc := eq_of_beq hc
    have hin := count_in m k
    rw [← hk0] at hc
    refine bcase_t (by simp; omega) ⟨by omega, ?_⟩
    have hn := hn trivial
    rw [hc, up64 (n := 8) hk (by omega)]
    simp only [M.countTo] at hn
    split at hn
    · rename_i hl
      rw [if_pos hl, w64 (by omega) (by omega)]; exact hn
    · rename_i hl
      rw [if_neg hl, Int.add_zero, w64 (by omega) (by omega)]; exact hn
theorem ones_expr : ∃ f : Int → Int, (∀ x (Q : Int → Prop), wp.math_bits_OnesCount64 x Q = Q (f x)) ∧ ((List.range 256).all fun m => f ((m : Nat) : Int) == M.countTo ((m : Nat) : Int) 8) = true :=
  ⟨_, fun x Q => (rfl : wp.math_bits_OnesCount64 x Q = Q _), by kernel_rfl⟩
theorem wp.math_bits_OnesCount64.math (m : Int) (h : M.math_bits_OnesCount64_pre m) : wp.math_bits_OnesCount64 m (fun r => r = M.math_bits_OnesCount64 m) := by
  obtain ⟨k, rfl, hk⟩ := isMask_nat h
  obtain ⟨f, hf, hc⟩ := ones_expr
  rw [hf]
  exact eq_of_beq (List.all_eq_true.1 hc k (List.mem_range.2 hk))
theorem wp.math_bits_OnesCount.math (m : Int) (h : M.math_bits_OnesCount_pre m) : wp.math_bits_OnesCount m (fun r => r = M.math_bits_OnesCount m) := ⟨h, fun r hr => hr⟩
theorem wp.impl_CountLanes.math (m : Int) (h : M.impl_CountLanes_pre m) : wp.impl_CountLanes m (fun r => r = M.impl_CountLanes m) := by
  unfold wp.impl_CountLanes
  refine fun b hb => bcase_mk (fun e => ?_) fun e => ?_
  all_goals have hb : b = M.isMask m := hb
  · have e : b = false := by simpa using e
    unfold M.impl_CountLanes M.countLanes
    rw [if_neg (by rw [← hb, e]; simp)]
  · have e : b = true := by simpa using e
    have hm := hb.symm.trans e
    have hw : IntKind.wrap .u64 m = m := by
      have hm' := hm
      simp only [M.isMask, M.isIn, Bool.and_eq_true, decide_eq_true_eq] at hm'
      show m % 18446744073709551616 = m
      exact Int.emod_eq_of_lt (by omega) (by omega)
    rw [hw]
    refine ⟨hm, fun r hr => ?_⟩
    rw [hr]
    unfold M.impl_CountLanes M.countLanes
    rw [if_pos hm]; rfl
theorem active_mask {p : List D.Ins} {x : D.Warp} (h : M.Runs p x) : M.isMask (M.activeMask x) = true := by
  rw [activeMask_top h.2.2]; exact (runs_frames h).2.2.2.2.1
theorem local_runs {p : List D.Ins} {x : D.Warp} (h : M.Fine p x) (hl : M.spec_l13Local p x = true) : M.Runs p x := (goes_of h hl).1
theorem lanes_count {p : List D.Ins} {x : D.Warp} (h : M.Runs p x) : 0 ≤ M.countLanes (M.activeMask x) ∧ M.countLanes (M.activeMask x) ≤ 8 := by
  unfold M.countLanes
  rw [if_pos (active_mask h)]
  exact count_in _ 8
theorem cost_fit {p : List D.Ins} {x : D.Warp} {m : Nat} (h : ∀ j, j < m → M.Runs p (M.wAt p x j)) : ∀ k : Nat, k ≤ m → (M.costTo p x k).Steps = (k : Int) ∧ 0 ≤ (M.costTo p x k).Active ∧ (M.costTo p x k).Active ≤ 8 * (k : Int) ∧ 0 ≤ (M.costTo p x k).Splits ∧ (M.costTo p x k).Splits ≤ (k : Int)
  | 0, _ => by simp [M.costTo]
  | k + 1, hk => by
    obtain ⟨h1, h2, h3, h4, h5⟩ := cost_fit h k (by omega)
    have hc := lanes_count (h k (by omega))
    simp only [M.costTo, M.costOne]
    refine ⟨by omega, by omega, by omega, ?_, ?_⟩ <;> split <;> omega
theorem wp.spec_CostOf.math (p : List D.Ins) (w : Int) (h : M.spec_CostOf_pre p w) : wp.spec_CostOf p w (fun r => r = M.spec_CostOf p w) := by
  unfold wp.spec_CostOf
  refine ⟨h, fun r hr => bcase_mk (fun e => ?_) fun e => ⟨h, fun y hy => ?_⟩⟩
  all_goals
    have hr : r = M.warpResult p w := hr
    subst hr
  · have e : (M.warpResult p w).2.2 = false := by simpa using e
    unfold M.spec_CostOf M.costOf
    rw [if_neg (by rw [e]; simp)]
  · have e : (M.warpResult p w).2.2 = true := by simpa using e
    obtain ⟨hq, hw, m, hm, -, hn, hl, -⟩ := result_trace e
    have hy : y.1 = M.newWarp p w := by
      rw [hy]
      unfold M.spec_WarpNew
      rw [if_pos (by rw [quiet_prog hq, hw]; rfl)]
    rw [hy]
    have hM : M.spec_CostOf p w = (M.costTo p (M.newWarp p w) m, true) := by
      unfold M.spec_CostOf M.costOf
      rw [if_pos e, hn, Int.toNat_natCast]
    rw [hM, hn]
    have hR : ∀ j, j < m → M.Runs p (M.wAt p (M.newWarp p w) j) := fun j hj => local_runs (trace_fine hq hw hl (by omega)) (hl j hj)
    have hfit := cost_fit hR
    refine loop_n m (fun k => ((k : Int), (M.wAt p (M.newWarp p w) k).Number, (M.wAt p (M.newWarp p w) k).Frames, (M.wAt p (M.newWarp p w) k).Regs, (m : Int), (M.costTo p (M.newWarp p w) k).Active, (M.costTo p (M.newWarp p w) k).Splits, ())) (fun _ => True) rfl trivial (fun k hk _ next hnx => ?_) fun _ next => bcase_f (by simp) ?_
    · have hnx := hnx trivial
      have hrun := hR k hk
      have hF := trace_fine hq hw hl (k := k) (by omega)
      obtain ⟨g1, g2, g3, g4, g5⟩ := hfit k (by omega)
      have hc := lanes_count hrun
      dsimp only
      refine bcase_t (by simp; omega) ⟨by have := (fine_small hF).1; show (M.wAt p (M.newWarp p w) k).Frames.length ≤ 9223372036854775807; omega, fun a ha => ⟨trivial, fun b hb => ⟨hrun, fun s hs => ?_⟩⟩⟩
      have hb : b = M.countLanes (M.activeMask (M.wAt p (M.newWarp p w) k)) := by rw [hb, ha]; rfl
      have hs : s = M.splits p (M.wAt p (M.newWarp p w) k) := hs
      simp only [M.costTo, M.costOne, M.wAt] at hnx
      rw [up64 hk (by omega), hb, w64 (x := (M.costTo p (M.newWarp p w) k).Active + _) (by omega) (by omega), w64 (x := (M.costTo p (M.newWarp p w) k).Splits + 1) (by omega) (by omega)]
      refine bcase_mk (fun c => ⟨goes_of hF (hl k hk), fun z hz => ?_⟩) fun c => ⟨goes_of hF (hl k hk), fun z hz => ?_⟩
      · rw [if_pos (hs.symm.trans c)] at hnx
        rw [hz]; exact hnx
      · rw [if_neg (by rw [← hs, c]; simp)] at hnx
        rw [hz]; exact hnx
    · dsimp only
      obtain ⟨g1, -⟩ := hfit m (Nat.le_refl _)
      rw [← g1]
theorem wp.impl_CostOf_1.math (x : D.Warp) (c : D.Cost) (p : List D.Ins) (h : M.impl_CostOf_1_pre x c p) : wp.impl_CostOf_1 x c p (fun r => r = M.impl_CostOf_1 x c p) := by
  obtain ⟨hF, g1, g2, g3, g4, g5, g6⟩ := h
  unfold wp.impl_CostOf_1
  rw [empty_len0]
  refine bcase_mk (fun e => ?_) fun e => ?_
  · unfold M.impl_CostOf_1
    rw [if_pos e]
  · have hx : x.Frames ≠ [] := by simpa using e
    have hr : M.Runs p x := ⟨hF.1, hF.2, hx⟩
    have hc := lanes_count hr
    refine ⟨by have := (fine_small hF).1; show x.Frames.length ≤ 9223372036854775807; omega, fun a ha => ⟨trivial, fun b hb => ⟨hr, fun s hs => ?_⟩⟩⟩
    have hb : b = M.countLanes (M.activeMask x) := by rw [hb, ha]; rfl
    have hs : s = M.splits p x := hs
    have hM : M.impl_CostOf_1 x c p = M.costOne p x c := by
      unfold M.impl_CostOf_1
      rw [if_neg (by rw [e]; simp)]
    rw [hM, hb, w64 (x := c.Steps + 1) (by omega) (by omega), w64 (x := c.Active + _) (by omega) (by omega), w64 (x := c.Splits + 1) (by omega) (by omega)]
    unfold M.costOne
    refine bcase_mk (fun e2 => ?_) fun e2 => ?_
    · rw [if_pos (hs.symm.trans e2)]
    · rw [if_neg (by rw [← hs, e2]; simp)]
theorem wp.impl_visit_b.math (p : List D.Ins) (w : Int) (c : D.Cost) (q : List D.Ins) (h : M.impl_visit_b_pre p w c q) : wp.impl_visit_b p w c q (fun r => r = M.impl_visit_b p w c q) := by
  obtain ⟨h, rfl, rfl⟩ := h
  unfold wp.impl_visit_b
  refine ⟨h, fun r hr => bcase_mk (fun e => ?_) fun e => ⟨trivial, fun y hy => ?_⟩⟩
  all_goals
    have hr : r = M.warpResult q w := hr
    subst hr
  · have e : (M.warpResult q w).2.2 = false := by simpa using e
    unfold M.impl_visit_b
    rw [if_neg (by rw [e]; simp)]
  · have e : (M.warpResult q w).2.2 = true := by simpa using e
    obtain ⟨hq, hw, n, hm, -, hn, hl, hend⟩ := result_trace e
    have hy : y = M.newWarp q w := hy
    subst hy
    have hM : M.impl_visit_b q w ⟨0, 0, 0⟩ q = (true, M.costTo q (M.newWarp q w) n) := by
      unfold M.impl_visit_b
      rw [if_pos e, hn, Int.toNat_natCast]
    rw [hM, hn]
    have hR : ∀ j, j < n → M.Runs q (M.wAt q (M.newWarp q w) j) := fun j hj => local_runs (trace_fine hq hw hl (by omega)) (hl j hj)
    have hfit := cost_fit hR
    have hcf : ∀ k, k ≤ n → M.CostFit (M.costTo q (M.newWarp q w) k) := fun k hk => by
      obtain ⟨g1, g2, g3, g4, g5⟩ := hfit k hk
      unfold M.CostFit
      omega
    refine loop_n n (fun k => ((k : Int), (M.costTo q (M.newWarp q w) k).Steps, (M.costTo q (M.newWarp q w) k).Active, (M.costTo q (M.newWarp q w) k).Splits, (M.wAt q (M.newWarp q w) k).Number, (M.wAt q (M.newWarp q w) k).Frames, (M.wAt q (M.newWarp q w) k).Regs, ())) (fun _ => True) rfl trivial (fun k hk _ next hnx => ?_) fun _ next => bcase_f (by simp) ⟨⟨trace_fine hq hw hl (Nat.le_refl _), hcf n (Nat.le_refl _)⟩, fun z hz => ?_⟩
    · have hnx := hnx trivial
      have hF := trace_fine hq hw hl (k := k) (by omega)
      dsimp only
      refine bcase_t (by simp; omega) ⟨⟨hF, hcf k (by omega)⟩, fun z hz => ⟨hF, fun u hu => ?_⟩⟩
      have hz : z = M.costTo q (M.newWarp q w) (k + 1) := by
        rw [hz]
        show M.impl_CostOf_1 (M.wAt q (M.newWarp q w) k) (M.costTo q (M.newWarp q w) k) q = _
        unfold M.impl_CostOf_1
        have hne := (hR k hk).2.2
        rw [if_neg (by simpa using hne)]; rfl
      rw [up64 hk (by omega), hz, hu]
      unfold M.impl_Warp_pass
      rw [if_pos (hl k hk)]
      exact hnx
    · rw [hz]
      show (true, M.impl_CostOf_1 (M.wAt q (M.newWarp q w) n) (M.costTo q (M.newWarp q w) n) q) = _
      unfold M.impl_CostOf_1
      rw [if_pos (by rw [hend]; rfl)]
theorem wp.impl_CostOf.math (p : List D.Ins) (w : Int) (h : M.impl_CostOf_pre p w) : wp.impl_CostOf p w (fun r => r = M.impl_CostOf p w) := by
  refine ⟨⟨h, rfl, rfl⟩, fun r hr => ?_⟩
  rw [hr]
  unfold M.impl_visit_b M.impl_CostOf M.costOf
  by_cases e : (M.warpResult p w).2.2 = true
  · rw [if_pos e, if_pos e]; exact bcase_f rfl rfl
  · rw [if_neg e, if_neg e]; exact bcase_t rfl rfl
end Go.V
set_option linter.unusedVariables false
namespace Go.V
def wp.spec_CanPredicate (xs0 : List D.Ins) (x1 : Int) (Q : Bool → Prop) : Prop :=
  (M.spec_IsQuiet_pre xs0 ∧ ∀ r21, r21 = M.spec_IsQuiet xs0 → bcase (!r21) (Q false) ((∀ r26, r26 = M.spec_l01In x1 0 (IntKind.wrap .i64 (((xs0.length : Nat) : Int) - 2)) → bcase (!r26) (Q false) (((0 ≤ x1 ∧ x1 < ((xs0.length : Nat) : Int)) ∧ ((0 ≤ (IntKind.wrap .i64 (x1 + 1)) ∧ (IntKind.wrap .i64 (x1 + 1)) < ((xs0.length : Nat) : Int)) ∧ bcase ((rd xs0 x1).Op != 10) (Q false) (bcase ((rd xs0 x1).B != (IntKind.wrap .i64 (x1 + 2))) (Q false) (bcase ((rd xs0 (IntKind.wrap .i64 (x1 + 1))).Op != 2) (Q false) (bcase ((rd xs0 (IntKind.wrap .i64 (x1 + 1))).A == (rd xs0 x1).A) (Q false) (LoopP (σ := Int × Unit) (fun (p89 : Int × Unit) next53 => match p89 with | (i49, _) => bcase (decide (i49 < ((xs0.length : Nat) : Int))) (((0 ≤ i49 ∧ i49 < ((xs0.length : Nat) : Int)) ∧ bcase ((rd xs0 i49).Op == 10) (((0 ≤ i49 ∧ i49 < ((xs0.length : Nat) : Int)) ∧ bcase ((rd xs0 i49).B == (IntKind.wrap .i64 (x1 + 1))) (Q false) (next53 ((IntKind.wrap .i64 (i49 + 1)), ())))) (((0 ≤ i49 ∧ i49 < ((xs0.length : Nat) : Int)) ∧ bcase ((rd xs0 i49).Op == 11) (((0 ≤ i49 ∧ i49 < ((xs0.length : Nat) : Int)) ∧ bcase ((rd xs0 i49).B == (IntKind.wrap .i64 (x1 + 1))) (Q false) (next53 ((IntKind.wrap .i64 (i49 + 1)), ())))) (next53 ((IntKind.wrap .i64 (i49 + 1)), ())))))) (Q true)) (0, ())))))))))))
def wp.spec_Predicate (xs0 : List D.Ins) (x1 : Int) (Q : ((List D.Ins) × Bool) → Prop) : Prop :=
  ((([] : List D.Ins).length + xs0.length ≤ 17179869184) ∧ (M.spec_CanPredicate_pre xs0 x1 ∧ ∀ r29, r29 = M.spec_CanPredicate xs0 x1 → bcase (!r29) (Q ((([] : List D.Ins) ++ xs0), false)) (((0 ≤ (IntKind.wrap .i64 (x1 + 1)) ∧ (IntKind.wrap .i64 (x1 + 1)) < ((xs0.length : Nat) : Int)) ∧ ((0 ≤ x1 ∧ x1 < (((([] : List D.Ins) ++ xs0).length : Nat) : Int)) ∧ ((0 ≤ x1 ∧ x1 < ((xs0.length : Nat) : Int)) ∧ ((0 ≤ (IntKind.wrap .i64 (x1 + 1)) ∧ (IntKind.wrap .i64 (x1 + 1)) < (((List.set (([] : List D.Ins) ++ xs0) (x1.toNat) (⟨0, 0, 0, 0⟩ : D.Ins)).length : Nat) : Int)) ∧ Q ((List.set (List.set (([] : List D.Ins) ++ xs0) (x1.toNat) (⟨0, 0, 0, 0⟩ : D.Ins)) ((IntKind.wrap .i64 (x1 + 1)).toNat) (⟨9, (rd xs0 (IntKind.wrap .i64 (x1 + 1))).A, (rd xs0 (IntKind.wrap .i64 (x1 + 1))).B, (rd xs0 x1).A⟩ : D.Ins)), true))))))))
def wp.spec_PredicateAll (xs0 : List D.Ins) (Q : ((List D.Ins) × Int) → Prop) : Prop :=
  ((([] : List D.Ins).length + xs0.length ≤ 17179869184) ∧ LoopP (σ := (List D.Ins) × Int × Int × Unit) (fun (p60 : (List D.Ins) × Int × Int × Unit) next37 => match p60 with | (xs29, i32, i33, _) => bcase (decide (i33 < ((xs0.length : Nat) : Int))) ((M.spec_IsQuiet_pre xs0 ∧ ∀ r39, r39 = M.spec_IsQuiet xs0 → bcase r39 ((M.spec_Predicate_pre xs29 i33 ∧ ∀ r44, r44 = M.spec_Predicate xs29 i33 → bcase r44.2 (next37 (r44.1, (IntKind.wrap .i64 (i32 + 1)), (IntKind.wrap .i64 (i33 + 1)), ())) (next37 (r44.1, i32, (IntKind.wrap .i64 (i33 + 1)), ())))) (Q (xs29, i32)))) (Q (xs29, i32))) ((([] : List D.Ins) ++ xs0), 0, 0, ()))
def wp.spec_SavedSplits (xs0 : List D.Ins) (x1 : Int) (Q : Int → Prop) : Prop :=
  (M.spec_PredicateAll_pre xs0 ∧ ∀ r21, r21 = M.spec_PredicateAll xs0 → (M.spec_CostOf_pre xs0 x1 ∧ ∀ r28, r28 = M.spec_CostOf xs0 x1 → (M.spec_CostOf_pre r21.1 x1 ∧ ∀ r37, r37 = M.spec_CostOf r21.1 x1 → bcase (!r28.2) (Q 0) (bcase (!r37.2) (Q 0) (Q (IntKind.wrap .i64 (r28.1.Splits - r37.1.Splits)))))))
def wp.impl_isTarget (x0 : Int) (Q : Bool → Prop) : Prop :=
  bcase (x0 == 10) (Q true) (Q (x0 == 11))
def wp.impl_CanPredicate_1 (s0 : D.Ins) (x1 : Int) (Q : Bool → Prop) : Prop :=
  (∀ r23, r23 = M.impl_isTarget s0.Op → bcase r23 (Q (s0.B == (IntKind.wrap .i64 (x1 + 1)))) (Q false))
def wp.impl_CanPredicate (xs0 : List D.Ins) (x1 : Int) (Q : Bool → Prop) : Prop :=
  (M.impl_IsQuiet_pre xs0 ∧ ∀ r23, r23 = M.impl_IsQuiet xs0 → bcase (!r23) (Q false) ((∀ r28, r28 = M.impl_within x1 0 (IntKind.wrap .i64 (((xs0.length : Nat) : Int) - 2)) → bcase (!r28) (Q false) (JoinP (σ := Int × Int × Int × Int × Int × Int × Int × Int × Unit) (fun J41 => ((0 ≤ x1 ∧ x1 < ((xs0.length : Nat) : Int)) ∧ ((0 ≤ (IntKind.wrap .i64 (x1 + 1)) ∧ (IntKind.wrap .i64 (x1 + 1)) < ((xs0.length : Nat) : Int)) ∧ ((J41 ((rd xs0 x1).Op, (rd xs0 x1).A, (rd xs0 x1).B, (rd xs0 x1).C, (rd xs0 (IntKind.wrap .i64 (x1 + 1))).Op, (rd xs0 (IntKind.wrap .i64 (x1 + 1))).A, (rd xs0 (IntKind.wrap .i64 (x1 + 1))).B, (rd xs0 (IntKind.wrap .i64 (x1 + 1))).C, ())) ∧ (J41 ((rd xs0 x1).Op, (rd xs0 x1).A, (rd xs0 x1).B, (rd xs0 x1).C, (rd xs0 (IntKind.wrap .i64 (x1 + 1))).Op, (rd xs0 (IntKind.wrap .i64 (x1 + 1))).A, (rd xs0 (IntKind.wrap .i64 (x1 + 1))).B, (rd xs0 (IntKind.wrap .i64 (x1 + 1))).C, ())) ∧ True)))) (fun (p80 : Int × Int × Int × Int × Int × Int × Int × Int × Unit) => match p80 with | (i33, i34, i35, i36, i37, i38, i39, i40, _) => bcase (i33 == 10) (bcase (i35 == (IntKind.wrap .i64 (x1 + 2))) (bcase (i37 == 2) (bcase (i38 != i34) ((M.slices_ContainsFunc_impl_Ins_impl_Ins_pre xs0 (fun z0_ => M.impl_CanPredicate_1 z0_ x1) (fun z0_ => M.impl_CanPredicate_1_pre z0_ x1) ∧ ∀ r71, r71 = M.slices_ContainsFunc_impl_Ins_impl_Ins xs0 (fun z0_ => M.impl_CanPredicate_1 z0_ x1) → Q (!r71))) (Q false)) (Q false)) (Q false)) (Q false))))))
def wp.impl_Predicate (xs0 : List D.Ins) (x1 : Int) (Q : ((List D.Ins) × Bool) → Prop) : Prop :=
  (M.slices_Clone_impl_Ins_impl_Ins_pre xs0 ∧ ∀ r21, r21 = M.slices_Clone_impl_Ins_impl_Ins xs0 → (M.impl_CanPredicate_pre xs0 x1 ∧ ∀ r28, r28 = M.impl_CanPredicate xs0 x1 → bcase (!r28) (Q (r21, false)) (((0 ≤ x1 ∧ x1 < ((r21.length : Nat) : Int)) ∧ ((0 ≤ (IntKind.wrap .i64 (x1 + 1)) ∧ (IntKind.wrap .i64 (x1 + 1)) < ((xs0.length : Nat) : Int)) ∧ ((0 ≤ (IntKind.wrap .i64 (x1 + 1)) ∧ (IntKind.wrap .i64 (x1 + 1)) < ((xs0.length : Nat) : Int)) ∧ ((0 ≤ x1 ∧ x1 < ((xs0.length : Nat) : Int)) ∧ ((0 ≤ (IntKind.wrap .i64 (x1 + 1)) ∧ (IntKind.wrap .i64 (x1 + 1)) < (((List.set r21 (x1.toNat) (⟨0, 0, 0, 0⟩ : D.Ins)).length : Nat) : Int)) ∧ Q ((List.set (List.set r21 (x1.toNat) (⟨0, 0, 0, 0⟩ : D.Ins)) ((IntKind.wrap .i64 (x1 + 1)).toNat) (⟨9, (rd xs0 (IntKind.wrap .i64 (x1 + 1))).A, (rd xs0 (IntKind.wrap .i64 (x1 + 1))).B, (rd xs0 x1).A⟩ : D.Ins)), true)))))))))
def wp.impl_PredicateAll (xs0 : List D.Ins) (Q : ((List D.Ins) × Int) → Prop) : Prop :=
  (M.slices_Clone_impl_Ins_impl_Ins_pre xs0 ∧ ∀ r21, r21 = M.slices_Clone_impl_Ins_impl_Ins xs0 → LoopP (σ := (List D.Ins) × Int × Int × Unit) (fun (p53 : (List D.Ins) × Int × Int × Unit) next36 => match p53 with | (xs28, i31, i32, _) => bcase (decide (i32 < ((xs0.length : Nat) : Int))) ((M.impl_Predicate_pre xs28 i32 ∧ ∀ r38, r38 = M.impl_Predicate xs28 i32 → bcase r38.2 (next36 (r38.1, (IntKind.wrap .i64 (i31 + 1)), (IntKind.wrap .i64 (i32 + 1)), ())) (next36 (xs28, i31, (IntKind.wrap .i64 (i32 + 1)), ())))) (Q (xs28, i31))) (r21, 0, 0, ()))
def wp.impl_SavedSplits (xs0 : List D.Ins) (x1 : Int) (Q : Int → Prop) : Prop :=
  (M.impl_PredicateAll_pre xs0 ∧ ∀ r21, r21 = M.impl_PredicateAll xs0 → (M.impl_CostOf_pre xs0 x1 ∧ ∀ r28, r28 = M.impl_CostOf xs0 x1 → (M.impl_CostOf_pre r21.1 x1 ∧ ∀ r37, r37 = M.impl_CostOf r21.1 x1 → bcase (!r28.2) (Q 0) (bcase (!r37.2) (Q 0) (Q (IntKind.wrap .i64 (r28.1.Splits - r37.1.Splits)))))))
def wp.laws_FnExactSavedSplits (xs0 : List D.Ins) (x1 : Int) (Q : Bool → Prop) : Prop :=
  (M.laws_szInsS_pre xs0 1048576 ∧ ∀ r21, r21 = M.laws_szInsS xs0 1048576 → bcase (decide (r21 < 0)) (Q true) ((M.laws_toInsS_pre xs0 ∧ ∀ r26, r26 = M.laws_toInsS xs0 → (M.spec_SavedSplits_pre r26 x1 ∧ ∀ r33, r33 = M.spec_SavedSplits r26 x1 → (M.laws_toInsS_pre xs0 ∧ ∀ r38, r38 = M.laws_toInsS xs0 → (M.impl_SavedSplits_pre r38 x1 ∧ ∀ r45, r45 = M.impl_SavedSplits r38 x1 → bcase (r45 != r33) (Q false) ((M.laws_toInsS_pre xs0 ∧ ∀ r50, r50 = M.laws_toInsS xs0 → (M.laws_eqInsS_pre r38 r50 ∧ ∀ r57, r57 = M.laws_eqInsS r38 r50 → bcase (!r57) (Q false) (Q true))))))))))
end Go.V
set_option linter.unusedVariables false
set_option linter.unusedSimpArgs false
set_option maxRecDepth 20000
namespace Go.V
theorem wp.impl_isTarget.math (o : Int) : wp.impl_isTarget o (fun r => r = M.impl_isTarget o) := by
  unfold wp.impl_isTarget M.impl_isTarget M.isTarget
  refine bcase_mk (fun e => ?_) fun e => ?_
  · rw [e, Bool.true_or]
  · rw [e, Bool.false_or]
theorem wp.impl_CanPredicate_1.math (i : D.Ins) (b : Int) (h : M.impl_CanPredicate_1_pre i b) : wp.impl_CanPredicate_1 i b (fun r => r = M.impl_CanPredicate_1 i b) := by
  obtain ⟨h0, h1⟩ := h
  unfold wp.impl_CanPredicate_1 M.impl_CanPredicate_1 M.noTarget
  rw [w64 (x := b + 1) (by omega) (by omega)]
  refine fun r hr => bcase_mk (fun e => ?_) fun e => ?_
  · rw [show M.isTarget i.Op = true from hr.symm.trans e, Bool.true_and, Bool.not_not]
  · rw [show M.isTarget i.Op = false from hr.symm.trans e]; rfl
theorem canPred_quiet {p : List D.Ins} {b : Int} (h : M.isQuiet p = false) : M.canPred p b = false := by unfold M.canPred; rw [h, Bool.false_and]
theorem wp.spec_CanPredicate.math (p : List D.Ins) (b : Int) (h : M.spec_CanPredicate_pre p b) : wp.spec_CanPredicate p b (fun r => r = M.spec_CanPredicate p b) := by
  have hs : p.length ≤ 2097152 := h
  unfold wp.spec_CanPredicate
  rw [w64 (x := ((p.length : Nat) : Int) - 2) (by omega) (by omega)]
  refine ⟨by show p.length ≤ 9223372036854775807; omega, fun q hq => bcase_mk (fun e => ?_) fun e => fun c hc => bcase_mk (fun e2 => ?_) fun e2 => ?_⟩
  · have e : q = false := by simpa using e
    exact (canPred_quiet (hq.symm.trans e)).symm
  · have e2 : c = false := by simpa using e2
    have : M.isIn b 0 (((p.length : Nat) : Int) - 2) = false := hc.symm.trans e2
    show false = M.canPred p b
    unfold M.canPred
    rw [this, Bool.false_and, Bool.and_false]
  · have q1 : M.isQuiet p = true := by rw [← show q = M.isQuiet p from hq]; simpa using e
    have q2 : M.isIn b 0 (((p.length : Nat) : Int) - 2) = true := by rw [← show c = M.isIn b 0 (((p.length : Nat) : Int) - 2) from hc]; simpa using e2
    have hM : M.spec_CanPredicate p b = ((rd p b).Op == 10 && ((rd p b).B == b + 2 && ((rd p (b + 1)).Op == 2 && ((rd p (b + 1)).A != (rd p b).A && p.all (M.noTarget b))))) := by
      show M.canPred p b = _
      unfold M.canPred
      rw [q1, q2, Bool.true_and, Bool.true_and]
    rw [hM]
    simp only [M.isIn, Bool.and_eq_true, decide_eq_true_eq] at q2
    rw [w64 (x := b + 1) (by omega) (by omega), w64 (x := b + 2) (by omega) (by omega)]
    refine ⟨by omega, by omega, bcase_mk (fun c1 => ?_) fun c1 => bcase_mk (fun c2 => ?_) fun c2 => bcase_mk (fun c3 => ?_) fun c3 => bcase_mk (fun c4 => ?_) fun c4 => ?_⟩
    · have : ((rd p b).Op == 10) = false := by simpa [bne] using c1
      rw [this, Bool.false_and]
    · have : ((rd p b).B == b + 2) = false := by simpa [bne] using c2
      rw [this, Bool.false_and, Bool.and_false]
    · have : ((rd p (b + 1)).Op == 2) = false := by simpa [bne] using c3
      rw [this, Bool.false_and, Bool.and_false, Bool.and_false]
    · have : ((rd p (b + 1)).A != (rd p b).A) = false := by rw [bne, c4]; rfl
      rw [this, Bool.false_and, Bool.and_false, Bool.and_false, Bool.and_false]
    · have r1 : ((rd p b).Op == 10) = true := by simpa [bne] using c1
      have r2 : ((rd p b).B == b + 2) = true := by simpa [bne] using c2
      have r3 : ((rd p (b + 1)).Op == 2) = true := by simpa [bne] using c3
      have r4 : ((rd p (b + 1)).A != (rd p b).A) = true := by rw [bne, c4]; rfl
      rw [r1, r2, r3, r4, Bool.true_and, Bool.true_and, Bool.true_and, Bool.true_and]
      refine all_loop (g := M.noTarget b) (Q := fun r => r = p.all (M.noTarget b)) (by show p.length ≤ 9223372036854775807; omega) (fun k next hk h1 h2 => ?_) (fun next ha => bcase_f (by simp) ha.symm) fun ha => ha.symm
      have no : ∀ v, M.noTarget b (rd p (k : Int)) = v → (v = false → (false = p.all (M.noTarget b))) := fun v hv hf => h1 (hv.trans hf) (all_false (g := M.noTarget b) hk (hv.trans hf))
      have yes : M.noTarget b (rd p (k : Int)) = true → next (IntKind.wrap .i64 ((k : Int) + 1), ()) := fun hv => by rw [up64 hk (by omega)]; exact h2 hv
      refine bcase_t (by simp; omega) ⟨by omega, bcase_mk (fun d1 => ⟨by omega, bcase_mk (fun d2 => no _ rfl ?_) fun d2 => yes ?_⟩) fun d1 => ⟨by omega, bcase_mk (fun d2 => ⟨by omega, bcase_mk (fun d3 => no _ rfl ?_) fun d3 => yes ?_⟩) fun d2 => yes ?_⟩⟩
      · unfold M.noTarget M.isTarget; rw [d1, d2]; rfl
      · unfold M.noTarget M.isTarget; rw [d1, d2]; rfl
      · unfold M.noTarget M.isTarget; rw [d1, d2, d3]; rfl
      · unfold M.noTarget M.isTarget; rw [d1, d2, d3]; rfl
      · unfold M.noTarget M.isTarget; rw [d1, d2]; rfl
theorem wp.impl_CanPredicate.math (p : List D.Ins) (b : Int) (h : M.impl_CanPredicate_pre p b) : wp.impl_CanPredicate p b (fun r => r = M.impl_CanPredicate p b) := by
  have hs : p.length ≤ 2097152 := h
  unfold wp.impl_CanPredicate
  rw [w64 (x := ((p.length : Nat) : Int) - 2) (by omega) (by omega)]
  refine ⟨by show p.length ≤ 9223372036854775807; omega, fun q hq => bcase_mk (fun e => ?_) fun e => fun c hc => bcase_mk (fun e2 => ?_) fun e2 => ?_⟩
  · have e : q = false := by simpa using e
    exact (canPred_quiet (hq.symm.trans e)).symm
  · have e2 : c = false := by simpa using e2
    have : M.isIn b 0 (((p.length : Nat) : Int) - 2) = false := hc.symm.trans e2
    show false = M.canPred p b
    unfold M.canPred
    rw [this, Bool.false_and, Bool.and_false]
  · have q1 : M.isQuiet p = true := by rw [← show q = M.isQuiet p from hq]; simpa using e
    have q2 : M.isIn b 0 (((p.length : Nat) : Int) - 2) = true := by rw [← show c = M.isIn b 0 (((p.length : Nat) : Int) - 2) from hc]; simpa using e2
    have hM : M.impl_CanPredicate p b = ((rd p b).Op == 10 && ((rd p b).B == b + 2 && ((rd p (b + 1)).Op == 2 && ((rd p (b + 1)).A != (rd p b).A && p.all (M.noTarget b))))) := by
      show M.canPred p b = _
      unfold M.canPred
      rw [q1, q2, Bool.true_and, Bool.true_and]
    rw [hM]
    simp only [M.isIn, Bool.and_eq_true, decide_eq_true_eq] at q2
    rw [w64 (x := b + 1) (by omega) (by omega), w64 (x := b + 2) (by omega) (by omega)]
    refine joinP_of ((rd p b).Op, (rd p b).A, (rd p b).B, (rd p b).C, (rd p (b + 1)).Op, (rd p (b + 1)).A, (rd p (b + 1)).B, (rd p (b + 1)).C, ()) ?_ fun J hJ => ⟨by omega, by omega, hJ, hJ, trivial⟩
    dsimp only
    refine bcase_mk (fun c1 => bcase_mk (fun c2 => bcase_mk (fun c3 => bcase_mk (fun c4 => ⟨⟨by show p.length ≤ 9223372036854775807; omega, fun _ _ => ⟨by omega, by omega⟩⟩, fun r hr => ?_⟩) fun c4 => ?_) fun c3 => ?_) fun c2 => ?_) fun c1 => ?_
    · rw [c1, c2, c3, c4, Bool.true_and, Bool.true_and, Bool.true_and, Bool.true_and, hr]
      show (!(p.any fun i => !M.noTarget b i)) = _
      rw [any_not_all, Bool.not_not]
    · rw [c4, Bool.false_and, Bool.and_false, Bool.and_false, Bool.and_false]
    · rw [c3, Bool.false_and, Bool.and_false, Bool.and_false]
    · rw [c2, Bool.false_and, Bool.and_false]
    · rw [c1, Bool.false_and]
theorem pred_len (p : List D.Ins) (b : Int) : (M.predicate p b).1.length = p.length := by
  unfold M.predicate
  split
  · simp only [List.length_set]
  · rfl
theorem canPred_in {p : List D.Ins} {b : Int} (h : M.canPred p b = true) : 0 ≤ b ∧ b + 1 < ((p.length : Nat) : Int) := by
  simp only [M.canPred, Bool.and_eq_true, M.isIn, decide_eq_true_eq] at h
  have := h.2.1
  omega
theorem wp.spec_Predicate.math (p : List D.Ins) (b : Int) (h : M.spec_Predicate_pre p b) : wp.spec_Predicate p b (fun r => r = M.spec_Predicate p b) := by
  have hs : p.length ≤ 2097152 := h
  unfold wp.spec_Predicate
  simp only [List.nil_append, List.length_nil, Nat.zero_add]
  refine ⟨by omega, h, fun r hr => ?_⟩
  have hr : r = M.canPred p b := hr
  show _
  refine bcase_mk (fun e => ?_) fun e => ?_
  · have e : M.canPred p b = false := by rw [← hr]; simpa using e
    show (p, false) = M.predicate p b
    unfold M.predicate
    rw [if_neg (by rw [e]; simp)]
  · have e : M.canPred p b = true := by rw [← hr]; simpa using e
    have hin := canPred_in e
    rw [w64 (x := b + 1) (by omega) (by omega), List.length_set]
    refine ⟨by omega, by omega, by omega, by omega, ?_⟩
    show _ = M.predicate p b
    unfold M.predicate
    rw [if_pos e]
theorem wp.impl_Predicate.math (p : List D.Ins) (b : Int) (h : M.impl_Predicate_pre p b) : wp.impl_Predicate p b (fun r => r = M.impl_Predicate p b) := by
  have hs : p.length ≤ 2097152 := h
  unfold wp.impl_Predicate
  refine ⟨by show p.length ≤ 17179869184; omega, fun y hy => ?_⟩
  have hy : y = p := hy
  subst hy
  refine ⟨h, fun r hr => ?_⟩
  have hr : r = M.canPred y b := hr
  refine bcase_mk (fun e => ?_) fun e => ?_
  · have e : M.canPred y b = false := by rw [← hr]; simpa using e
    show (y, false) = M.predicate y b
    unfold M.predicate
    rw [if_neg (by rw [e]; simp)]
  · have e : M.canPred y b = true := by rw [← hr]; simpa using e
    have hin := canPred_in e
    rw [w64 (x := b + 1) (by omega) (by omega), List.length_set]
    refine ⟨by omega, by omega, by omega, by omega, by omega, ?_⟩
    show _ = M.predicate y b
    unfold M.predicate
    rw [if_pos e]
theorem predTo_len (p : List D.Ins) : ∀ k, (M.predTo p k).1.length = p.length
  | 0 => rfl
  | k + 1 => by
    simp only [M.predTo]
    split
    · show (M.predicate _ _).1.length = _
      rw [pred_len]; exact predTo_len p k
    · exact predTo_len p k
theorem predTo_count (p : List D.Ins) : ∀ k, 0 ≤ (M.predTo p k).2 ∧ (M.predTo p k).2 ≤ (k : Int)
  | 0 => by simp [M.predTo]
  | k + 1 => by
    have := predTo_count p k
    simp only [M.predTo]
    split
    · show 0 ≤ (M.predTo p k).2 + 1 ∧ (M.predTo p k).2 + 1 ≤ _
      omega
    · omega
theorem pred_no {p : List D.Ins} {b : Int} (h : (M.predicate p b).2 = false) : (M.predicate p b).1 = p := by
  unfold M.predicate at h ⊢
  split
  · rename_i e; rw [if_pos e] at h; cases h
  · rfl
theorem predTo_wild {p : List D.Ins} (h : M.isQuiet p = false) : ∀ k, M.predTo p k = (p, 0)
  | 0 => rfl
  | k + 1 => by
    have hn : (M.predicate p (k : Int)).2 = false := by unfold M.predicate; rw [if_neg (by rw [canPred_quiet h]; simp)]
    simp only [M.predTo, predTo_wild h k]
    rw [hn]; rfl
theorem wp.spec_PredicateAll.math (p : List D.Ins) (h : M.spec_PredicateAll_pre p) : wp.spec_PredicateAll p (fun r => r = M.spec_PredicateAll p) := by
  have hs : p.length ≤ 2097152 := h
  unfold wp.spec_PredicateAll
  simp only [List.nil_append, List.length_nil, Nat.zero_add]
  refine ⟨by omega, loop_n p.length (fun k => ((M.predTo p k).1, (M.predTo p k).2, (k : Int), ())) (fun _ => True) rfl trivial (fun k hk _ next hn => ?_) fun _ next => bcase_f (by simp) rfl⟩
  have hn := hn trivial
  have hc := predTo_count p k
  simp only [M.predTo] at hn
  dsimp only
  refine bcase_t (by simp; omega) ⟨by show p.length ≤ 9223372036854775807; omega, fun q hq => bcase_mk (fun e => ⟨by show (M.predTo p k).1.length ≤ 2097152; rw [predTo_len]; exact hs, fun r hr => ?_⟩) fun e => ?_⟩
  · have hr : r = M.predicate (M.predTo p k).1 (k : Int) := hr
    rw [up64 hk (by omega), w64 (x := (M.predTo p k).2 + 1) (by omega) (by omega), hr]
    refine bcase_mk (fun e2 => ?_) fun e2 => ?_
    · rw [if_pos e2] at hn; exact hn
    · rw [if_neg (by rw [e2]; simp)] at hn
      rw [pred_no e2]; exact hn
  · have hw : M.isQuiet p = false := hq.symm.trans e
    show _ = M.predTo p p.length
    rw [predTo_wild hw, predTo_wild hw]
theorem wp.impl_PredicateAll.math (p : List D.Ins) (h : M.impl_PredicateAll_pre p) : wp.impl_PredicateAll p (fun r => r = M.impl_PredicateAll p) := by
  have hs : p.length ≤ 2097152 := h
  unfold wp.impl_PredicateAll
  refine ⟨by show p.length ≤ 17179869184; omega, fun y hy => ?_⟩
  have hy : y = p := hy
  subst hy
  refine loop_n y.length (fun k => ((M.predTo y k).1, (M.predTo y k).2, (k : Int), ())) (fun _ => True) rfl trivial (fun k hk _ next hn => ?_) fun _ next => bcase_f (by simp) rfl
  have hn := hn trivial
  have hc := predTo_count y k
  simp only [M.predTo] at hn
  dsimp only
  refine bcase_t (by simp; omega) ⟨by show (M.predTo y k).1.length ≤ 2097152; rw [predTo_len]; exact hs, fun r hr => ?_⟩
  have hr : r = M.predicate (M.predTo y k).1 (k : Int) := hr
  rw [up64 hk (by omega), w64 (x := (M.predTo y k).2 + 1) (by omega) (by omega), hr]
  refine bcase_mk (fun e2 => ?_) fun e2 => ?_
  · rw [if_pos e2] at hn; exact hn
  · rw [if_neg (by rw [e2]; simp)] at hn
    exact hn
theorem wp.spec_SavedSplits.math (p : List D.Ins) (w : Int) (h : M.spec_SavedSplits_pre p w) : wp.spec_SavedSplits p w (fun r => r = M.spec_SavedSplits p w) := by
  have hs : p.length ≤ 2097152 := h
  refine ⟨h, fun q hq => ⟨by show p.length ≤ 9223372036854775807; omega, fun a ha => ⟨?_, fun b hb => ?_⟩⟩⟩
  all_goals have hq : q = M.predicateAll p := hq
  · show q.1.length ≤ 9223372036854775807
    rw [hq]
    show (M.predTo p p.length).1.length ≤ _
    rw [predTo_len]; omega
  · have ha : a = M.costOf p w := ha
    have hb : b = M.costOf (M.predicateAll p).1 w := by rw [← hq]; exact hb
    unfold M.spec_SavedSplits M.savedSplits
    rw [← ha, ← hb]
    refine bcase_mk (fun e => ?_) fun e => bcase_mk (fun e2 => ?_) fun e2 => ?_
    · have e : a.2 = false := by simpa using e
      rw [e]; rfl
    · have e2 : b.2 = false := by simpa using e2
      rw [e2, Bool.and_false]; rfl
    · have e : a.2 = true := by simpa using e
      have e2 : b.2 = true := by simpa using e2
      rw [e, e2]; rfl
theorem wp.impl_SavedSplits.math (p : List D.Ins) (w : Int) (h : M.impl_SavedSplits_pre p w) : wp.impl_SavedSplits p w (fun r => r = M.impl_SavedSplits p w) := wp.spec_SavedSplits.math p w h
theorem wp.laws_FnExactSavedSplits.math (p : List D.Ins) (w : Int) (h : M.laws_FnExactSavedSplits_pre p w) : wp.laws_FnExactSavedSplits p w (fun r => r = M.laws_FnExactSavedSplits p w) := by
  have h1 : M.Long p := h
  refine ⟨⟨by omega, by omega, h⟩, fun r hr => bcase_mk (fun _ => rfl) fun e => ?_⟩
  obtain ⟨hl, hr'⟩ := sz_smallP hr e
  have hs : M.laws_toInsS_pre p := by unfold M.laws_toInsS_pre; omega
  have hp : M.PSmall p := by unfold M.PSmall; omega
  simp only [M.laws_toInsS, forall_eq, M.spec_SavedSplits, M.impl_SavedSplits, M.laws_eqInsS, beq_self_eq_true, bne_self_eq_false, Bool.not_true, bcase]
  exact ⟨hs, hp, hs, hp, hs, h1, rfl⟩
end Go.V
