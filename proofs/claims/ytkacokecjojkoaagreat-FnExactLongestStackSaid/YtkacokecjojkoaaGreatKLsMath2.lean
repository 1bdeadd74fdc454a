import Derived.Test.YtkacokecjojkoaaGreatKLsMath1
set_option linter.unusedVariables false
set_option linter.unusedSimpArgs false
set_option maxRecDepth 20000
namespace Go.V
theorem goes_of {p : List D.Ins} {x : D.Warp} (h : M.Fine p x) (hl : M.spec_l13Local p x = true) : M.Goes p x := by
  refine ⟨⟨h.1, h.2, ?_⟩, hl⟩
  simp only [M.spec_l13Local, Bool.and_eq_true] at hl
  intro e
  rw [e] at hl
  simp at hl
theorem wp.impl_Warp_pass.math (x : D.Warp) (p : List D.Ins) (h : M.impl_Warp_pass_pre x p) : wp.impl_Warp_pass x p (fun r => r = M.impl_Warp_pass x p) := by
  obtain ⟨hp, hw⟩ := h
  unfold wp.impl_Warp_pass
  rw [empty_len0]
  refine bcase_mk (fun e => ?_) fun e => ?_
  · have : M.spec_l13Local p x = false := by simp [M.spec_l13Local, e]
    unfold M.impl_Warp_pass
    rw [if_neg (by rw [this]; simp)]
  have hx : x.Frames ≠ [] := by simpa using e
  have hr : M.Runs p x := ⟨hp, hw, hx⟩
  obtain ⟨t1, t2, t3, t4, t5, t6, t7, t8, t9⟩ := runs_top hr
  rw [last_wrap (by omega)]
  have hl : ∀ b, M.isLocal (M.topIns p x) = b → M.spec_l13Local p x = (b && (!M.splits p x || decide (x.Frames.length ≤ 22))) := fun b hb => by
    simp only [M.spec_l13Local, hb, e, Bool.not_false, Bool.true_and]
  have no : M.spec_l13Local p x = false → (false, x) = M.impl_Warp_pass x p := fun hf => by
    unfold M.impl_Warp_pass
    rw [if_neg (by rw [hf]; simp)]
  have yes : M.spec_l13Local p x = true → ∀ y, y = M.stepW p x → (true, y) = M.impl_Warp_pass x p := fun hf y hy => by
    unfold M.impl_Warp_pass
    rw [if_pos hf, hy]
  refine ⟨by omega, ⟨t5, t6⟩, fun b hb => bcase_mk (fun c => no ?_) fun c => ⟨hr, fun s hs => bcase_mk (fun c2 => ⟨⟨hr, ?_⟩, fun q hq => ?_⟩) fun c2 => ⟨hr, fun q hq => ⟨?_, fun d hd => ?_⟩⟩⟩⟩
  · have c : b = false := by simpa using c
    rw [hl b hb.symm, c]; rfl
  · exact (splits_iff (hs.symm.trans c2)).1
  · have c : b = true := by simpa using c
    have hsp : M.splits p x = true := hs.symm.trans c2
    have hl' := hl b hb.symm
    rw [c, hsp] at hl'
    simp only [Bool.true_and, Bool.not_true, Bool.false_or] at hl'
    rw [hq]
    unfold M.impl_Warp_separate
    by_cases h22 : x.Frames.length ≤ 22
    · rw [decide_eq_true h22] at hl'
      rw [if_pos h22]
      refine bcase_f rfl ⟨?_, fun d hd => yes hl' _ ?_⟩
      · show (M.separated p x).Frames.length ≤ 9223372036854775807
        simp only [M.separated, M.setTop, List.length_append, List.length_set, List.length_cons, List.length_nil]; omega
      · rw [hd]
        unfold M.stepW
        rw [if_pos hsp]; rfl
    · rw [decide_eq_false h22] at hl'
      rw [if_neg h22]
      exact bcase_t rfl (no hl')
  · rw [hq]
    show (M.setTop x.Frames _).length ≤ 9223372036854775807
    simp only [M.setTop, List.length_set]; omega
  · have c : b = true := by simpa using c
    have hsp : M.splits p x = false := by rw [← show s = M.splits p x from hs, c2]
    have hl' := hl b hb.symm
    rw [c, hsp] at hl'
    refine yes hl' _ ?_
    rw [hd, hq]
    unfold M.stepW
    rw [if_neg (by rw [hsp]; simp)]; rfl
theorem wp.impl_WarpOk.math (p : List D.Ins) (x : D.Warp) (h : M.impl_WarpOk_pre p x) : wp.impl_WarpOk p x (fun r => r = M.impl_WarpOk p x) := by
  obtain ⟨h1, h2⟩ := h
  refine ⟨h1, fun b hb => bcase_mk (fun e => ⟨h2, fun c hc => ?_⟩) fun e => ?_⟩
  · have : M.programOk p = true := hb.symm.trans e
    rw [hc]
    show M.warpOf p x = _
    unfold M.impl_WarpOk M.spec_WarpOk
    rw [this, Bool.true_and]
  · have : M.programOk p = false := hb.symm.trans e
    unfold M.impl_WarpOk M.spec_WarpOk
    rw [this, Bool.false_and]
theorem wAt_fine {p : List D.Ins} {x : D.Warp} (h : M.Fine p x) : ∀ k, (∀ j, j < k → M.spec_l13Local p (M.wAt p x j) = true) → M.Fine p (M.wAt p x k)
  | 0, _ => h
  | k + 1, hj => stepW_fine (goes_of (wAt_fine h k fun j hjk => hj j (by omega)) (hj k (by omega)))
def RunI (p : List D.Ins) (x : D.Warp) (n k : Nat) : Prop := M.Fine p (M.wAt p x k) ∧ (k ≤ n → M.runW p n x 0 = M.runW p (n - k) (M.wAt p x k) (k : Int))
theorem runI_zero {p : List D.Ins} {x : D.Warp} (h : M.Fine p x) (n : Nat) : RunI p x n 0 := ⟨h, fun _ => rfl⟩
theorem runI_go {p : List D.Ins} {x : D.Warp} {n k : Nat} (h : RunI p x n k) (hk : k < n) (hl : M.spec_l13Local p (M.wAt p x k) = true) : RunI p x n (k + 1) := by
  refine ⟨stepW_fine (goes_of h.1 hl), fun _ => ?_⟩
  rw [h.2 (by omega), show n - k = (n - (k + 1)) + 1 by omega]
  simp only [M.runW]
  rw [if_pos hl]; rfl
theorem runI_stop {p : List D.Ins} {x : D.Warp} {n k : Nat} (h : RunI p x n k) (hk : k < n) (hl : M.spec_l13Local p (M.wAt p x k) = false) : M.runW p n x 0 = (M.wAt p x k, (k : Int)) := by
  rw [h.2 (by omega), show n - k = (n - (k + 1)) + 1 by omega]
  simp only [M.runW]
  rw [if_neg (by rw [hl]; simp)]
theorem runI_end {p : List D.Ins} {x : D.Warp} {n : Nat} (h : RunI p x n n) : M.runW p n x 0 = (M.wAt p x n, (n : Int)) := by
  rw [h.2 (Nat.le_refl _), Nat.sub_self]; rfl
theorem wp.spec_l14Run.math (p : List D.Ins) (x : D.Warp) (steps : Int) (h : M.spec_l14Run_pre p x steps) : wp.spec_l14Run p x steps (fun r => r = M.spec_l14Run p x steps) := by
  obtain ⟨hF, h0, h1⟩ := h
  obtain ⟨n, rfl⟩ := Int.eq_ofNat_of_zero_le h0
  unfold wp.spec_l14Run M.spec_l14Run
  rw [Int.toNat_natCast]
  refine loop_n n (fun k => ((k : Int), (M.wAt p x k).Number, (M.wAt p x k).Frames, (M.wAt p x k).Regs, ())) (RunI p x n) rfl (runI_zero hF n) (fun k hk hI next hn => ?_) fun hI next => bcase_f (by simp) (runI_end hI).symm
  dsimp only
  refine bcase_t (by simp; omega) ⟨hI.1, fun b hb => bcase_mk (fun e => ⟨goes_of hI.1 (hb.symm.trans e), fun y hy => ?_⟩) fun e => (runI_stop hI hk (hb.symm.trans e)).symm⟩
  have hn := hn (runI_go hI hk (hb.symm.trans e))
  rw [up64 hk (by omega), hy]
  exact hn
theorem wp.impl_RunWarp.math (p : List D.Ins) (x : D.Warp) (steps : Int) (h : M.impl_RunWarp_pre p x steps) : wp.impl_RunWarp p x steps (fun r => r = M.impl_RunWarp p x steps) := by
  obtain ⟨h1, h2⟩ := h
  have hWL : M.WLong x := ⟨Nat.le_trans h2.1 (by omega), Nat.le_trans h2.2 (by omega)⟩
  refine ⟨h2, fun y hy => ?_⟩
  have hy : y = x := hy
  subst hy
  have no : (M.isQuiet p && (M.spec_WarpOk p y && M.isIn steps 0 8000)) = false → (y, (-1 : Int)) = M.impl_RunWarp p y steps := fun hf => by
    unfold M.impl_RunWarp M.runWarp
    rw [if_neg (by rw [hf]; simp)]
  refine ⟨h1, fun a ha => bcase_mk (fun e => no ?_) fun e => ⟨⟨h1, hWL⟩, fun b hb => bcase_mk (fun e2 => no ?_) fun e2 => fun c hc => bcase_mk (fun e3 => no ?_) fun e3 => ?_⟩⟩
  · have : M.isQuiet p = false := by rw [← show a = M.isQuiet p from ha]; simpa using e
    rw [this]; rfl
  · have : M.spec_WarpOk p y = false := by rw [← show b = M.spec_WarpOk p y from hb]; simpa using e2
    rw [this, Bool.false_and, Bool.and_false]
  · have : M.isIn steps 0 8000 = false := by rw [← show c = M.isIn steps 0 8000 from hc]; simpa using e3
    rw [this, Bool.and_false, Bool.and_false]
  · have q1 : M.isQuiet p = true := by rw [← show a = M.isQuiet p from ha]; simpa using e
    have q2 : M.spec_WarpOk p y = true := by rw [← show b = M.spec_WarpOk p y from hb]; simpa using e2
    have q3 : M.isIn steps 0 8000 = true := by rw [← show c = M.isIn steps 0 8000 from hc]; simpa using e3
    have hF : M.Fine p y := by have := q2; simp only [M.spec_WarpOk, Bool.and_eq_true] at this; exact this
    have hM : M.impl_RunWarp p y steps = M.runW p steps.toNat y 0 := by
      unfold M.impl_RunWarp M.runWarp
      rw [if_pos (by rw [q1, q2, q3]; rfl)]
    rw [hM]
    simp only [M.isIn, Bool.and_eq_true, decide_eq_true_eq] at q3
    obtain ⟨n, rfl⟩ := Int.eq_ofNat_of_zero_le q3.1
    rw [Int.toNat_natCast]
    refine loop_n n (fun k => ((k : Int), (M.wAt p y k).Number, (M.wAt p y k).Frames, (M.wAt p y k).Regs, ())) (RunI p y n) rfl (runI_zero hF n) (fun k hk hI next hn => ?_) fun hI next => bcase_f (by simp) (runI_end hI).symm
    dsimp only
    refine bcase_t (by simp; omega) ⟨hI.1, fun r hr => ?_⟩
    rw [hr]
    unfold M.impl_Warp_pass
    cases hl : M.spec_l13Local p (M.wAt p y k) with
    | true =>
      have hn := hn (runI_go hI hk hl)
      rw [if_pos rfl, up64 hk (by omega)]
      exact bcase_t rfl hn
    | false =>
      rw [if_neg (by simp)]
      exact bcase_f rfl (runI_stop hI hk hl).symm
theorem quiet_prog {p : List D.Ins} (h : M.isQuiet p = true) : M.programOk p = true := by
  simp only [M.isQuiet, Bool.and_eq_true] at h; exact h.1
theorem newWarp_fine {p : List D.Ins} (hp : M.programOk p = true) {w : Int} (hw : M.isIn w 0 2 = true) : M.Fine p (M.newWarp p w) := by
  refine ⟨hp, ?_⟩
  have hz : (List.replicate 32 (0 : Int)).all M.isWord = true := by rfl
  unfold M.warpOf
  have hN : (M.newWarp p w).Number = w := rfl
  have hR : (M.newWarp p w).Regs = List.replicate 32 0 := rfl
  have hF : (M.newWarp p w).Frames = if p.length > 0 then [⟨0, p.length, 255⟩] else [] := rfl
  rw [hN, hR, hF, hw, hz, List.length_replicate]
  by_cases h0 : p.length > 0
  · rw [if_pos h0]
    have hn : ((p.length : Nat) : Int) ≠ 0 := by omega
    have h1 : M.frameOk p.length ⟨0, p.length, 255⟩ = true := by
      simp only [M.frameOk, M.isIn, M.isMask, Bool.and_eq_true, decide_eq_true_eq, bne_iff_ne]; omega
    have hl : M.lastF [(⟨0, p.length, 255⟩ : D.Frame)] = ⟨0, p.length, 255⟩ := rfl
    have hr : rd [(⟨0, p.length, 255⟩ : D.Frame)] 0 = ⟨0, p.length, 255⟩ := rfl
    have h2 : M.endsOk [(⟨0, p.length, 255⟩ : D.Frame)] p.length = true := by
      unfold M.endsOk
      rw [hl, hr]
      simp only [Bool.and_eq_true, decide_eq_true_eq, bne_iff_ne, beq_iff_eq, List.length_cons, List.length_nil]
      exact ⟨by omega, fun h => hn h.symm, fun h => hn h.symm, trivial, trivial⟩
    have : M.areFrames [(⟨0, p.length, 255⟩ : D.Frame)] p.length = true := by
      unfold M.areFrames
      rw [h2]; simp [h1]
    rw [this]; rfl
  · rw [if_neg h0]; rfl
theorem newWarp_fit (p : List D.Ins) (w : Int) : M.WFit (M.newWarp p w) := by
  refine ⟨?_, ?_⟩
  · show (if p.length > 0 then [(⟨0, p.length, 255⟩ : D.Frame)] else []).length ≤ _
    split <;> simp
  · show (List.replicate 32 (0 : Int)).length ≤ _
    simp
theorem wp.spec_WarpResult.math (p : List D.Ins) (w : Int) (h : M.spec_WarpResult_pre p w) : wp.spec_WarpResult p w (fun r => r = M.spec_WarpResult p w) := by
  have no : (M.isQuiet p && M.isIn w 0 2) = false → (M.noWarp, (0 : Int), false) = M.spec_WarpResult p w := fun hf => by
    unfold M.spec_WarpResult M.warpResult
    rw [if_neg (by rw [hf]; simp)]
  refine ⟨h, fun a ha => bcase_mk (fun e => no ?_) fun e => ⟨h, fun b hb => bcase_mk (fun e2 => no ?_) fun e2 => ?_⟩⟩
  · have e : a.2 = false := by simpa using e
    rw [ha] at e
    unfold M.spec_WarpNew at e
    split at e
    · cases e
    · rename_i hc
      cases hq : M.isQuiet p with
      | false => rfl
      | true =>
        rw [quiet_prog hq, Bool.true_and] at hc
        simpa using hc
  · have : M.isQuiet p = false := by rw [← show b = M.isQuiet p from hb]; simpa using e2
    rw [this]; rfl
  · have q1 : M.isQuiet p = true := by rw [← show b = M.isQuiet p from hb]; simpa using e2
    have e : a.2 = true := by simpa using e
    have ha' : M.isIn w 0 2 = true ∧ a.1 = M.newWarp p w := by
      rw [ha] at e ⊢
      unfold M.spec_WarpNew at e ⊢
      split at e
      · rename_i hc
        rw [if_pos hc]
        simp only [Bool.and_eq_true] at hc
        exact ⟨hc.2, rfl⟩
      · cases e
    rw [ha'.2]
    have hF := newWarp_fine (quiet_prog q1) ha'.1
    refine ⟨⟨hF, by omega, by omega⟩, fun r hr => ?_⟩
    have hr : r = M.runW p 8000 (M.newWarp p w) 0 := hr
    rw [empty_len]
    unfold M.spec_WarpResult M.warpResult
    rw [if_pos (by rw [q1, ha'.1]; rfl), ← hr]
    refine bcase_mk (fun e3 => ?_) fun e3 => ?_
    · rw [if_neg (by simpa using e3)]; rfl
    · rw [if_pos (by simpa using e3)]
theorem wp.impl_WarpResult.math (p : List D.Ins) (w : Int) (h : M.impl_WarpResult_pre p w) : wp.impl_WarpResult p w (fun r => r = M.impl_WarpResult p w) := by
  have no : (M.isQuiet p && M.isIn w 0 2) = false → (M.noWarp, (0 : Int), false) = M.impl_WarpResult p w := fun hf => by
    unfold M.impl_WarpResult M.warpResult
    rw [if_neg (by rw [hf]; simp)]
  refine ⟨h, fun a ha => bcase_mk (fun e => no ?_) fun e => fun b hb => bcase_mk (fun e2 => no ?_) fun e2 => ⟨trivial, fun y hy => ?_⟩⟩
  · have : M.isQuiet p = false := by rw [← show a = M.isQuiet p from ha]; simpa using e
    rw [this]; rfl
  · have : M.isIn w 0 2 = false := by rw [← show b = M.isIn w 0 2 from hb]; simpa using e2
    rw [this, Bool.and_false]
  · have q1 : M.isQuiet p = true := by rw [← show a = M.isQuiet p from ha]; simpa using e
    have q2 : M.isIn w 0 2 = true := by rw [← show b = M.isIn w 0 2 from hb]; simpa using e2
    have hy : y = M.newWarp p w := hy
    have hF := newWarp_fine (quiet_prog q1) q2
    have hfit := newWarp_fit p w
    rw [hy]
    refine ⟨⟨h, hfit⟩, fun r hr => ?_⟩
    have hr : r = M.runW p 8000 (M.newWarp p w) 0 := by
      rw [hr]
      show M.runWarp p _ 8000 = _
      unfold M.runWarp
      have hok : M.spec_WarpOk p (M.newWarp p w) = true := by
        unfold M.spec_WarpOk
        rw [hF.1, hF.2]; rfl
      rw [if_pos (by rw [q1, hok]; rfl)]; rfl
    rw [empty_len]
    unfold M.impl_WarpResult M.warpResult
    rw [if_pos (by rw [q1, q2]; rfl), ← hr]
    refine bcase_mk (fun e3 => ?_) fun e3 => ?_
    · rw [if_neg (by simpa using e3)]; rfl
    · rw [if_pos (by simpa using e3)]
end Go.V
set_option linter.unusedVariables false
set_option linter.unusedVariables false
set_option linter.unusedSimpArgs false
set_option maxRecDepth 20000
namespace Go.V
theorem sz_smallP {p : List D.Ins} {r : Int} (hr : r = M.laws_szInsS p 1048576) (e : decide (r < 0) = false) : p.length ≤ 1048576 ∧ r = 1048576 - p.length := by
  rw [hr] at e ⊢
  unfold M.laws_szInsS at e ⊢
  split at e
  · simp at e
  · rename_i hc
    rw [if_neg hc]; exact ⟨by omega, rfl⟩
end Go.V
set_option linter.unusedVariables false
namespace Go.V
def wp.spec_LongestStack (xs0 : List D.Ins) (x1 : Int) (Q : Int → Prop) : Prop :=
  (M.spec_WarpResult_pre xs0 x1 ∧ ∀ r21, r21 = M.spec_WarpResult xs0 x1 → bcase (!r21.2.2) (Q (-1)) ((M.spec_WarpNew_pre xs0 x1 ∧ ∀ r34, r34 = M.spec_WarpNew xs0 x1 → LoopP (σ := Int × Int × Int × (List D.Frame) × (List Int) × Unit) (fun (p113 : Int × Int × Int × (List D.Frame) × (List Int) × Unit) next96 => match p113 with | (i84, i85, i86, xs87, xs90, _) => bcase (decide (i85 < r21.2.1)) ((M.spec_l13Step_pre xs0 (⟨i86, xs87, xs90⟩ : D.Warp) ∧ ∀ r98, r98 = M.spec_l13Step xs0 (⟨i86, xs87, xs90⟩ : D.Warp) → next96 ((if ((r98.Frames.length : Nat) : Int) > i84 then ((r98.Frames.length : Nat) : Int) else i84), (IntKind.wrap .i64 (i85 + 1)), r98.Number, r98.Frames, r98.Regs, ()))) (Q i84)) (((r34.1.Frames.length : Nat) : Int), 0, r34.1.Number, r34.1.Frames, r34.1.Regs, ()))))
def wp.impl_LongestStack_1 (s0 : D.Warp) (x1 : Int) (Q : Int → Prop) : Prop :=
  Q (if ((s0.Frames.length : Nat) : Int) > x1 then ((s0.Frames.length : Nat) : Int) else x1)
def wp.impl_visit_a (xs0 : List D.Ins) (x1 : Int) (x2c0 : Int) (Q : (Bool × Int) → Prop) : Prop :=
  (M.impl_WarpResult_pre xs0 x1 ∧ ∀ r21, r21 = M.impl_WarpResult xs0 x1 → bcase (!r21.2.2) (Q (false, x2c0)) ((M.impl_newWarp_pre xs0 x1 ∧ ∀ r34, r34 = M.impl_newWarp xs0 x1 → LoopP (σ := Int × Int × Int × (List D.Frame) × (List Int) × Unit) (fun (p104 : Int × Int × Int × (List D.Frame) × (List Int) × Unit) next79 => match p104 with | (i67, i68, i69, xs70, xs73, _) => bcase (decide (i67 < r21.2.1)) ((M.impl_LongestStack_1_pre (⟨i69, xs70, xs73⟩ : D.Warp) i68 ∧ ∀ r81, r81 = M.impl_LongestStack_1 (⟨i69, xs70, xs73⟩ : D.Warp) i68 → (M.impl_Warp_pass_pre (⟨i69, xs70, xs73⟩ : D.Warp) xs0 ∧ ∀ r86, r86 = M.impl_Warp_pass (⟨i69, xs70, xs73⟩ : D.Warp) xs0 → next79 ((IntKind.wrap .i64 (i67 + 1)), r81, r86.2.Number, r86.2.Frames, r86.2.Regs, ())))) ((M.impl_LongestStack_1_pre (⟨i69, xs70, xs73⟩ : D.Warp) i68 ∧ ∀ r98, r98 = M.impl_LongestStack_1 (⟨i69, xs70, xs73⟩ : D.Warp) i68 → Q (true, r98)))) (0, x2c0, r34.Number, r34.Frames, r34.Regs, ()))))
def wp.impl_LongestStack (xs0 : List D.Ins) (x1 : Int) (Q : Int → Prop) : Prop :=
  (M.impl_visit_a_pre xs0 x1 0 ∧ ∀ r25, r25 = M.impl_visit_a xs0 x1 0 → bcase (!r25.1) (Q (-1)) (Q r25.2))
def wp.laws_FnExactLongestStack (xs0 : List D.Ins) (x1 : Int) (Q : Bool → Prop) : Prop :=
  (M.laws_szInsS_pre xs0 1048576 ∧ ∀ r21, r21 = M.laws_szInsS xs0 1048576 → bcase (decide (r21 < 0)) (Q true) ((M.laws_toInsS_pre xs0 ∧ ∀ r26, r26 = M.laws_toInsS xs0 → (M.spec_LongestStack_pre r26 x1 ∧ ∀ r33, r33 = M.spec_LongestStack r26 x1 → (M.laws_toInsS_pre xs0 ∧ ∀ r38, r38 = M.laws_toInsS xs0 → (M.impl_LongestStack_pre r38 x1 ∧ ∀ r45, r45 = M.impl_LongestStack r38 x1 → bcase (r45 != r33) (Q false) ((M.laws_toInsS_pre xs0 ∧ ∀ r50, r50 = M.laws_toInsS xs0 → (M.laws_eqInsS_pre r38 r50 ∧ ∀ r57, r57 = M.laws_eqInsS r38 r50 → bcase (!r57) (Q false) (Q true))))))))))
end Go.V
set_option linter.unusedVariables false
set_option linter.unusedSimpArgs false
set_option maxRecDepth 20000
namespace Go.V
theorem wAt_shift (p : List D.Ins) (x : D.Warp) : ∀ k, M.wAt p (M.stepW p x) k = M.wAt p x (k + 1)
  | 0 => rfl
  | k + 1 => by
    show M.stepW p (M.wAt p (M.stepW p x) k) = M.stepW p (M.wAt p x (k + 1))
    rw [wAt_shift p x k]
theorem runW_trace {p : List D.Ins} : ∀ (n : Nat) (x : D.Warp) (c : Int), ∃ m : Nat, m ≤ n ∧ M.runW p n x c = (M.wAt p x m, c + (m : Int)) ∧ ∀ j, j < m → M.spec_l13Local p (M.wAt p x j) = true
  | 0, x, c => ⟨0, Nat.le_refl _, by simp [M.runW, M.wAt], fun j hj => by omega⟩
  | n + 1, x, c => by
    simp only [M.runW]
    by_cases h : M.spec_l13Local p x = true
    · rw [if_pos h]
      obtain ⟨m, h1, h2, h3⟩ := runW_trace n (M.stepW p x) (c + 1)
      refine ⟨m + 1, by omega, ?_, fun j hj => ?_⟩
      · rw [h2, wAt_shift]
        refine Prod.ext rfl ?_
        show c + 1 + (m : Int) = c + ((m + 1 : Nat) : Int)
        omega
      · cases j with
        | zero => exact h
        | succ j => rw [← wAt_shift]; exact h3 j (by omega)
    · rw [if_neg h]
      exact ⟨0, by omega, by simp [M.wAt], fun j hj => by omega⟩
theorem result_trace {p : List D.Ins} {w : Int} (h : (M.warpResult p w).2.2 = true) :
    M.isQuiet p = true ∧ M.isIn w 0 2 = true ∧ ∃ m : Nat, m ≤ 8000 ∧ (M.warpResult p w).1 = M.wAt p (M.newWarp p w) m ∧ (M.warpResult p w).2.1 = (m : Int) ∧ (∀ j, j < m → M.spec_l13Local p (M.wAt p (M.newWarp p w) j) = true) ∧ (M.wAt p (M.newWarp p w) m).Frames = [] := by
  obtain ⟨m, h1, h2, h3⟩ := runW_trace (p := p) 8000 (M.newWarp p w) 0
  unfold M.warpResult at h ⊢
  rw [h2] at h ⊢
  split at h
  · rename_i hc
    rw [if_pos hc]
    simp only [Bool.and_eq_true] at hc
    split at h
    · rename_i he
      rw [if_pos he]
      exact ⟨hc.1, hc.2, m, h1, rfl, by show (0 : Int) + (m : Int) = m; omega, h3, by simpa using he⟩
    · cases h
  · cases h
theorem trace_fine {p : List D.Ins} {w : Int} (hq : M.isQuiet p = true) (hw : M.isIn w 0 2 = true) {m : Nat} (h : ∀ j, j < m → M.spec_l13Local p (M.wAt p (M.newWarp p w) j) = true) {k : Nat} (hk : k ≤ m) : M.Fine p (M.wAt p (M.newWarp p w) k) :=
  wAt_fine (newWarp_fine (quiet_prog hq) hw) k fun j hj => h j (by omega)
theorem wp.spec_LongestStack.math (p : List D.Ins) (w : Int) (h : M.spec_LongestStack_pre p w) : wp.spec_LongestStack p w (fun r => r = M.spec_LongestStack p w) := by
  unfold wp.spec_LongestStack
  refine ⟨h, fun r hr => bcase_mk (fun e => ?_) fun e => ⟨h, fun y hy => ?_⟩⟩
  all_goals
    have hr : r = M.warpResult p w := hr
    subst hr
  · have e : (M.warpResult p w).2.2 = false := by simpa using e
    unfold M.spec_LongestStack M.longest
    rw [if_neg (by rw [e]; simp)]
  · have e : (M.warpResult p w).2.2 = true := by simpa using e
    obtain ⟨hq, hw, m, hm, -, hn, hl, -⟩ := result_trace e
    have hy : y.1 = M.newWarp p w := by
      rw [hy]
      unfold M.spec_WarpNew
      rw [if_pos (by rw [quiet_prog hq, hw]; rfl)]
    rw [hy]
    have hM : M.spec_LongestStack p w = M.mostTo p (M.newWarp p w) 0 (m + 1) := by
      unfold M.spec_LongestStack M.longest
      rw [if_pos e, hn, Int.toNat_natCast]
    rw [hM, hn]
    have h0 : M.mostTo p (M.newWarp p w) 0 1 = (((M.newWarp p w).Frames.length : Nat) : Int) := by
      show (if (((M.newWarp p w).Frames.length : Nat) : Int) > 0 then (((M.newWarp p w).Frames.length : Nat) : Int) else 0) = _
      generalize (M.newWarp p w).Frames.length = q
      by_cases hq0 : ((q : Nat) : Int) > 0
      · rw [if_pos hq0]
      · rw [if_neg hq0]; omega
    refine loop_n m (fun k => (M.mostTo p (M.newWarp p w) 0 (k + 1), (k : Int), (M.wAt p (M.newWarp p w) k).Number, (M.wAt p (M.newWarp p w) k).Frames, (M.wAt p (M.newWarp p w) k).Regs, ())) (fun _ => True) (by rw [h0]; rfl) trivial (fun k hk _ next hnx => ?_) fun _ next => bcase_f (by simp) rfl
    dsimp only
    refine bcase_t (by simp; omega) ⟨goes_of (trace_fine hq hw hl (by omega)) (hl k hk), fun z hz => ?_⟩
    rw [up64 hk (by omega), hz]
    exact hnx trivial
theorem wp.impl_LongestStack_1.math (x : D.Warp) (m : Int) (h : M.impl_LongestStack_1_pre x m) : wp.impl_LongestStack_1 x m (fun r => r = M.impl_LongestStack_1 x m) := rfl
theorem wp.impl_visit_a.math (p : List D.Ins) (w m : Int) (h : M.impl_visit_a_pre p w m) : wp.impl_visit_a p w m (fun r => r = M.impl_visit_a p w m) := by
  unfold wp.impl_visit_a
  refine ⟨h, fun r hr => bcase_mk (fun e => ?_) fun e => ⟨trivial, fun y hy => ?_⟩⟩
  all_goals
    have hr : r = M.warpResult p w := hr
    subst hr
  · have e : (M.warpResult p w).2.2 = false := by simpa using e
    unfold M.impl_visit_a
    rw [if_neg (by rw [e]; simp)]
  · have e : (M.warpResult p w).2.2 = true := by simpa using e
    obtain ⟨hq, hw, n, hm, -, hn, hl, -⟩ := result_trace e
    have hy : y = M.newWarp p w := hy
    subst hy
    have hM : M.impl_visit_a p w m = (true, M.mostTo p (M.newWarp p w) m (n + 1)) := by
      unfold M.impl_visit_a
      rw [if_pos e, hn, Int.toNat_natCast]
    rw [hM, hn]
    refine loop_n n (fun k => ((k : Int), M.mostTo p (M.newWarp p w) m k, (M.wAt p (M.newWarp p w) k).Number, (M.wAt p (M.newWarp p w) k).Frames, (M.wAt p (M.newWarp p w) k).Regs, ())) (fun _ => True) rfl trivial (fun k hk _ next hnx => ?_) fun _ next => bcase_f (by simp) ⟨trivial, fun z hz => by rw [hz]; rfl⟩
    dsimp only
    refine bcase_t (by simp; omega) ⟨trivial, fun z hz => ⟨trace_fine hq hw hl (by omega), fun u hu => ?_⟩⟩
    rw [up64 hk (by omega), hz, hu]
    unfold M.impl_Warp_pass
    rw [if_pos (hl k hk)]
    exact hnx trivial
theorem wp.impl_LongestStack.math (p : List D.Ins) (w : Int) (h : M.impl_LongestStack_pre p w) : wp.impl_LongestStack p w (fun r => r = M.impl_LongestStack p w) := by
  refine ⟨h, fun r hr => ?_⟩
  rw [hr]
  unfold M.impl_visit_a M.impl_LongestStack M.longest
  by_cases e : (M.warpResult p w).2.2 = true
  · rw [if_pos e, if_pos e]; exact bcase_f rfl rfl
  · rw [if_neg e, if_neg e]; exact bcase_t rfl rfl
theorem wp.laws_FnExactLongestStack.math (p : List D.Ins) (w : Int) (h : M.laws_FnExactLongestStack_pre p w) : wp.laws_FnExactLongestStack p w (fun r => r = M.laws_FnExactLongestStack p w) := by
  have h1 : M.Long p := h
  refine ⟨⟨by omega, by omega, h⟩, fun r hr => bcase_mk (fun _ => rfl) fun e => ?_⟩
  obtain ⟨hl, hr'⟩ := sz_smallP hr e
  have hs : M.laws_toInsS_pre p := by unfold M.laws_toInsS_pre; omega
  simp only [M.laws_toInsS, forall_eq, M.spec_LongestStack, M.impl_LongestStack, M.laws_eqInsS, beq_self_eq_true, bne_self_eq_false, Bool.not_true, bcase]
  exact ⟨hs, h, hs, h, hs, h1, rfl⟩
end Go.V
