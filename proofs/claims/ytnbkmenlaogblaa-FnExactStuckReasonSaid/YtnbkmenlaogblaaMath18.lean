import Derived.Test.YtnbkmenlaogblaaMath15
import Derived.Test.YtnbkmenlaogblaaWp18
set_option linter.unusedVariables false
set_option linter.unusedSimpArgs false
set_option maxRecDepth 20000
namespace Go.V
theorem activeMask_wp {x : D.Warp} (h : M.Long x.Frames) {Q : Int → Prop} (hQ : Q (M.activeMask x)) : bcase (((x.Frames.length : Nat) : Int) == 0) (Q 0) (((0 ≤ (IntKind.wrap .i64 (((x.Frames.length : Nat) : Int) - 1)) ∧ (IntKind.wrap .i64 (((x.Frames.length : Nat) : Int) - 1)) < ((x.Frames.length : Nat) : Int)) ∧ Q ((rd x.Frames (IntKind.wrap .i64 (((x.Frames.length : Nat) : Int) - 1))).Mask))) := by
  rw [empty_len0]
  refine bcase_mk (fun e => ?_) fun e => ?_
  · unfold M.activeMask at hQ; rw [if_pos e] at hQ; exact hQ
  · have hx : x.Frames ≠ [] := by simpa using e
    have hpos : 0 < x.Frames.length := List.length_pos_iff.2 hx
    rw [last_wrap h]
    unfold M.activeMask at hQ
    rw [if_neg (by rw [e]; simp)] at hQ
    exact ⟨by omega, hQ⟩
theorem wp.spec_ActiveMask.math (x : D.Warp) (h : M.spec_ActiveMask_pre x) : wp.spec_ActiveMask x (fun r => r = M.spec_ActiveMask x) := activeMask_wp (Q := fun r => r = M.activeMask x) h rfl
theorem wp.impl_ActiveMask.math (x : D.Warp) (h : M.impl_ActiveMask_pre x) : wp.impl_ActiveMask x (fun r => r = M.impl_ActiveMask x) := activeMask_wp (Q := fun r => r = M.activeMask x) h rfl
/-- the mask, lane by lane -/
theorem zeroMask_range (x : D.Warp) (reg : Int) : M.zeroMask x reg = (List.range 8).foldl (fun m (k : Nat) => if M.hasLane (M.activeMask x) (k : Int) = true then M.zeroStep x reg m (k : Int) else m) 0 := by
  unfold M.zeroMask M.lanesOf
  rw [List.foldl_filter]
  rfl
theorem reg_in {reg k : Int} (hr : M.isReg reg = true) (h0 : 0 ≤ k) (h7 : k ≤ 7) : 0 ≤ k * 4 + reg ∧ k * 4 + reg < 32 := by rw [isReg_iff] at hr; omega
theorem wp.spec_ZeroMask.math (x : D.Warp) (reg : Int) (h : M.spec_ZeroMask_pre x reg) : wp.spec_ZeroMask x reg (fun r => r = M.spec_ZeroMask x reg) := by
  unfold wp.spec_ZeroMask
  simp only [lenB]
  refine fun r hr => bcase_mk (fun e => ?_) fun e => bcase_mk (fun e2 => ?_) fun e2 => ?_
  all_goals simp only [M.spec_l04Reg] at hr
  · simp [M.spec_ZeroMask, nt e hr]
  · have : (x.Regs.length == 32) = false := by simpa using e2
    simp [M.spec_ZeroMask, this]
  have hreg := nf e hr
  have h32 : (x.Regs.length == 32) = true := by simpa using e2
  have h32' : x.Regs.length = 32 := by simpa using h32
  have hM : M.spec_ZeroMask x reg = M.zeroMask x reg := by simp [M.spec_ZeroMask, hreg, h32]
  rw [hM, zeroMask_range]
  let F : Nat → Int := fun k => (List.range k).foldl (fun m (k : Nat) => if M.hasLane (M.activeMask x) (k : Int) = true then M.zeroStep x reg m (k : Int) else m) 0
  have hF : ∀ k, F (k + 1) = if M.hasLane (M.activeMask x) (k : Int) = true then M.zeroStep x reg (F k) (k : Int) else F k := fun k => by simp [F, List.range_succ]
  refine loop_n 8 (fun k => (F k, (k : Int), ())) (fun _ => True) rfl trivial (fun k hk _ next hn => ?_) fun _ next => bcase_f (by simp) rfl
  have hn := hn trivial
  rw [hF] at hn
  have hw : IntKind.wrap .i64 (IntKind.wrap .i64 ((k : Int) * 4) + reg) = (k : Int) * 4 + reg := by
    have := reg_in hreg (k := (k : Int)) (by omega) (by omega)
    rw [w64 (x := (k : Int) * 4) (by omega) (by omega), w64 (by omega) (by omega)]
  have hin := reg_in hreg (k := (k : Int)) (by omega) (by omega)
  refine bcase_t (by simp; omega) ⟨h, fun r2 hr2 r3 hr3 => bcase_mk (fun e3 => ?_) fun e3 => ?_⟩
  all_goals simp only [M.spec_ActiveMask] at hr2
  all_goals simp only [M.spec_HasLane, hr2] at hr3
  · rw [hw, h32']
    rw [if_pos (hr3.symm.trans e3)] at hn
    refine ⟨⟨hin.1, by omega⟩, bcase_mk (fun e4 => ⟨Int.natCast_nonneg k, ?_⟩) fun e4 => ?_⟩
    · have e4 : rd x.Regs ((k : Int) * 4 + reg) = 0 := by simpa using e4
      unfold M.zeroStep at hn
      rw [if_pos e4] at hn
      rw [up64 (n := 8) hk (by omega)]; exact hn
    · have e4 : ¬ rd x.Regs ((k : Int) * 4 + reg) = 0 := by simpa using e4
      unfold M.zeroStep at hn
      rw [if_neg e4] at hn
      rw [up64 (n := 8) hk (by omega)]; exact hn
  · have e3 : ¬ M.hasLane (M.activeMask x) (k : Int) = true := by rw [← hr3, e3]; simp
    rw [if_neg e3] at hn
    rw [up64 (n := 8) hk (by omega)]; exact hn
theorem lanes_in {m l : Int} (h : l ∈ M.lanesOf m) : 0 ≤ l ∧ l ≤ 7 := by
  have := (List.mem_filter.1 h).1
  simp only [List.mem_cons, List.not_mem_nil, or_false] at this
  omega
theorem lanes_len (m : Int) : (M.lanesOf m).length ≤ 8 := by
  have := List.length_filter_le (M.hasLane m) [0, 1, 2, 3, 4, 5, 6, 7]
  exact this
theorem rd_cut {α : Type} [Inhabited α] {l : List α} {a b : Nat} {i : Int} (h0 : 0 ≤ i) (hi : a + i.toNat < b) (hb : b ≤ l.length) : rd ((l.take b).drop a) i = rd l ((a : Int) + i) := by
  have e : ((a : Int) + i).toNat = a + i.toNat := by omega
  unfold rd
  rw [e, List.getD_eq_getElem?_getD, List.getD_eq_getElem?_getD, List.getElem?_drop, List.getElem?_take, if_pos hi]
theorem wp.impl_Warp_zeroMask.math (x : D.Warp) (reg : Int) (h : M.impl_Warp_zeroMask_pre x reg) : wp.impl_Warp_zeroMask x reg (fun r => r = M.impl_Warp_zeroMask x reg) := by
  obtain ⟨h1, h32, hreg⟩ := h
  refine ⟨h1, fun r hr r2 hr2 => ?_⟩
  have hr2' : r2 = M.lanesOf (M.activeMask x) := by rw [hr2, hr]; rfl
  show LoopP _ _
  have hl := lanes_len (M.activeMask x)
  have hmem : ∀ k : Nat, k < r2.length → 0 ≤ rd r2 (k : Int) ∧ rd r2 (k : Int) ≤ 7 := fun k hk => lanes_in (m := M.activeMask x) (by rw [← hr2']; exact rd_mem hk)
  have hM : M.impl_Warp_zeroMask x reg = r2.foldl (M.zeroStep x reg) 0 := by rw [hr2']; rfl
  rw [hM]
  have hlen : r2.length ≤ 8 := by rw [hr2']; exact hl
  clear hr2 hr2' hM
  refine loop_n r2.length (fun k => ((r2.take k).foldl (M.zeroStep x reg) 0, (k : Int), ())) (fun _ => True) rfl trivial (fun k hk _ next hn => ?_) fun _ next => bcase_f (by simp) (by rw [List.take_length])
  have hn := hn trivial
  rw [List.take_add_one, List.getElem?_eq_getElem hk, Option.toList_some, List.foldl_append, ← rd_nat hk] at hn
  simp only [List.foldl_cons, List.foldl_nil] at hn
  have hm := hmem k hk
  dsimp only
  generalize rd r2 (k : Int) = l at *
  have hin := reg_in hreg hm.1 hm.2
  rw [isReg_iff] at hreg
  have a1 : IntKind.wrap .i64 (l * 4) = l * 4 := w64 (by omega) (by omega)
  have a2 : IntKind.wrap .i64 ((IntKind.wrap .i64 (l + 1)) * 4) = l * 4 + 4 := by rw [w64 (x := l + 1) (by omega) (by omega), w64 (by omega) (by omega)]; omega
  rw [a1, a2]
  have hc : rd ((x.Regs.take (l * 4 + 4).toNat).drop (l * 4).toNat) reg = rd x.Regs (l * 4 + reg) := by
    rw [rd_cut hreg.1 (by omega) (by omega)]
    congr 1; omega
  rw [hc, up64 hk (by omega)]
  refine bcase_t (by simp; omega) ⟨by omega, ⟨h32, hm⟩, ⟨by omega, by simp; omega⟩, bcase_mk (fun e => ⟨by omega, ?_⟩) fun e => ?_⟩
  · have e : rd x.Regs (l * 4 + reg) = 0 := by simpa using e
    unfold M.zeroStep at hn
    rw [if_pos e] at hn
    exact hn
  · have e : ¬ rd x.Regs (l * 4 + reg) = 0 := by simpa using e
    unfold M.zeroStep at hn
    rw [if_neg e] at hn
    exact hn
/-- what a warp that runs gives -/
theorem runs_top {p : List D.Ins} {x : D.Warp} (h : M.Runs p x) : p.length ≤ 32 ∧ 0 < x.Frames.length ∧ x.Frames.length ≤ 24 ∧ x.Regs.length = 32 ∧ 0 ≤ M.topPc x ∧ M.topPc x < ((p.length : Nat) : Int) ∧ M.insOk (M.topIns p x) p.length = true ∧ 0 ≤ x.Number ∧ x.Number ≤ 2 := by
  obtain ⟨hp, hw, hx⟩ := h
  obtain ⟨k1, k2, k3⟩ := frames_last hw hx
  have hp' := hp
  simp only [M.programOk, Bool.and_eq_true, decide_eq_true_eq, List.all_eq_true] at hp
  simp only [M.warpOf, Bool.and_eq_true, M.isIn, decide_eq_true_eq, beq_iff_eq] at hw
  exact ⟨hp.1, List.length_pos_iff.2 hx, k1, hw.2.1, k2, k3, hp.2 _ (rd_of k2 k3), hw.1.1, hw.1.2⟩
theorem zero_reg {i : D.Ins} {n : Int} (h : M.insOk i n = true) (e : i.Op = 10) : M.isReg i.A = true := by
  simp only [M.insOk, Bool.and_eq_true] at h
  have h := h.2
  rw [if_neg (by omega), if_neg (by omega), if_neg (by omega), if_neg (by omega), if_pos e] at h
  simp only [Bool.and_eq_true] at h
  exact h.1
theorem activeMask_top {x : D.Warp} (h : x.Frames ≠ []) : M.activeMask x = (M.lastF x.Frames).Mask := by
  unfold M.activeMask
  rw [if_neg (by simpa using h)]
theorem wp.spec_l13Splits.math (p : List D.Ins) (x : D.Warp) (h : M.spec_l13Splits_pre p x) : wp.spec_l13Splits p x (fun r => r = M.spec_l13Splits p x) := by
  obtain ⟨t1, t2, t3, t4, t5, t6, t7, _⟩ := runs_top h
  unfold wp.spec_l13Splits
  rw [last_wrap (by omega)]
  change (_ ∧ _) ∧ (0 ≤ M.topPc x ∧ M.topPc x < _) ∧ bcase ((M.topIns p x).Op != 10) _ ((0 ≤ M.topPc x ∧ M.topPc x < _) ∧ bcase ((M.topIns p x).B == IntKind.wrap .i64 (M.topPc x + 1)) _ ((0 ≤ M.topPc x ∧ M.topPc x < _) ∧ (M.spec_ZeroMask_pre x (M.topIns p x).A ∧ ∀ r, r = M.spec_ZeroMask x (M.topIns p x).A → bcase (r != 0) ((r != (M.lastF x.Frames).Mask) = _) _)))
  rw [w64 (x := M.topPc x + 1) (by omega) (by omega)]
  refine ⟨by omega, ⟨t5, t6⟩, bcase_mk (fun e => ?_) fun e => ⟨⟨t5, t6⟩, bcase_mk (fun e2 => ?_) fun e2 => ⟨⟨t5, t6⟩, by show x.Frames.length ≤ 9223372036854775807; omega, fun r hr => bcase_mk (fun e3 => ?_) fun e3 => ?_⟩⟩⟩
  · have e : ¬ (M.topIns p x).Op = 10 := by simpa using e
    simp [M.spec_l13Splits, M.splits, e]
  · have e2 : (M.topIns p x).B = M.topPc x + 1 := by simpa using e2
    simp [M.spec_l13Splits, M.splits, e2]
  all_goals
    have e : (M.topIns p x).Op = 10 := by simpa using e
    have e2 : ¬ (M.topIns p x).B = M.topPc x + 1 := by simpa using e2
    have hz : r = M.zeroMask x (M.topIns p x).A := by
      rw [hr]
      simp [M.spec_ZeroMask, zero_reg t7 e, t4]
    rw [hz] at e3
    try rw [hz]
  · simp only [M.spec_l13Splits, M.splits, e, e3, Bool.true_and]
    have : ((M.topIns p x).B != M.topPc x + 1) = true := by simpa using e2
    rw [this]; rfl
  · simp only [M.spec_l13Splits, M.splits, e3, Bool.false_and, Bool.and_false]
theorem wp.impl_Warp_splits.math (x : D.Warp) (p : List D.Ins) (h : M.impl_Warp_splits_pre x p) : wp.impl_Warp_splits x p (fun r => r = M.impl_Warp_splits x p) := by
  obtain ⟨t1, t2, t3, t4, t5, t6, t7, _⟩ := runs_top h
  have hL : M.Long x.Frames := by unfold M.Long; omega
  unfold wp.impl_Warp_splits
  rw [last_wrap (by omega)]
  change (_ ∧ _) ∧ (0 ≤ M.topPc x ∧ M.topPc x < _) ∧ bcase ((M.topIns p x).Op != 10) _ ((0 ≤ M.topPc x ∧ M.topPc x < _) ∧ bcase ((M.topIns p x).B == IntKind.wrap .i64 (M.topPc x + 1)) _ ((0 ≤ M.topPc x ∧ M.topPc x < _) ∧ (M.impl_Warp_zeroMask_pre x (M.topIns p x).A ∧ ∀ r, r = M.impl_Warp_zeroMask x (M.topIns p x).A → bcase (r != 0) (M.impl_ActiveMask_pre x ∧ ∀ r49, r49 = M.impl_ActiveMask x → (r != r49) = _) _)))
  rw [w64 (x := M.topPc x + 1) (by omega) (by omega)]
  refine ⟨by omega, ⟨t5, t6⟩, bcase_mk (fun e => ?_) fun e => ⟨⟨t5, t6⟩, bcase_mk (fun e2 => ?_) fun e2 => ⟨⟨t5, t6⟩, ⟨hL, t4, zero_reg t7 (by simpa using e)⟩, fun r hr => bcase_mk (fun e3 => ⟨hL, fun r4 hr4 => ?_⟩) fun e3 => ?_⟩⟩⟩
  · have e : ¬ (M.topIns p x).Op = 10 := by simpa using e
    simp [M.impl_Warp_splits, M.splits, e]
  · have e2 : (M.topIns p x).B = M.topPc x + 1 := by simpa using e2
    simp [M.impl_Warp_splits, M.splits, e2]
  all_goals
    have e : (M.topIns p x).Op = 10 := by simpa using e
    have e2 : ¬ (M.topIns p x).B = M.topPc x + 1 := by simpa using e2
    have hz : r = M.zeroMask x (M.topIns p x).A := hr
    rw [hz] at e3
    try rw [hz]
  · have hr4' : r4 = (M.lastF x.Frames).Mask := by rw [hr4]; exact activeMask_top h.2.2
    rw [hr4']
    simp only [M.impl_Warp_splits, M.splits, e, e3, Bool.true_and]
    have : ((M.topIns p x).B != M.topPc x + 1) = true := by simpa using e2
    rw [this]; rfl
  · simp only [M.impl_Warp_splits, M.splits, e3, Bool.false_and, Bool.and_false]
theorem wp.spec_l13Local.math (p : List D.Ins) (x : D.Warp) (h : M.spec_l13Local_pre p x) : wp.spec_l13Local p x (fun r => r = M.spec_l13Local p x) := by
  unfold wp.spec_l13Local
  rw [empty_len0]
  refine bcase_mk (fun e => ?_) fun e => ?_
  · simp [M.spec_l13Local, e]
  have hx : x.Frames ≠ [] := by simpa using e
  obtain ⟨t1, t2, t3, t4, t5, t6, t7, _⟩ := runs_top ⟨h.1, h.2, hx⟩
  rw [last_wrap (by omega)]
  refine ⟨by omega, ⟨t5, t6⟩, fun r hr => bcase_mk (fun e2 => ?_) fun e2 => ⟨⟨h.1, h.2, hx⟩, fun r2 hr2 => bcase_mk (fun e3 => ?_) fun e3 => ?_⟩⟩
  all_goals have hr' : r = M.isLocal (M.topIns p x) := hr
  · have := nt e2 hr'
    simp [M.spec_l13Local, this]
  · have := nt e3 (show r2 = M.splits p x from hr2)
    simp [M.spec_l13Local, e, nf e2 hr', this]
  · have := nf e3 (show r2 = M.splits p x from hr2)
    simp only [M.spec_l13Local, e, nf e2 hr', this, Bool.not_false, Bool.not_true, Bool.true_and, Bool.false_or]
    congr 1; exact propext (by omega)
theorem has_runs {b : D.Block} {w : Int} (h : M.Has b w) (hx : (rd b.Warps w).Frames ≠ []) : M.Runs b.Code (rd b.Warps w) := by
  obtain ⟨_, _, hp, hw, _⟩ := has_warp h
  exact ⟨hp, hw, hx⟩
theorem one_len {α : Type} {l : List α} : (((l.length : Nat) : Int) == 1) = (l.length == 1) := by
  rw [Bool.eq_iff_iff]; simp; omega
theorem wp.spec_l30Can.math (b : D.Block) (w : Int) (h : M.spec_l30Can_pre b w) : wp.spec_l30Can b w (fun r => r = M.spec_l30Can b w) := by
  obtain ⟨h0, h1, hp, hw, hn, hok⟩ := has_warp h
  unfold wp.spec_l30Can
  rw [empty_len0, one_len]
  refine ⟨⟨h0, h1⟩, bcase_mk (fun e => ?_) fun e => ⟨h0, bcase_mk (fun e2 => ?_) fun e2 => ?_⟩⟩
  · simp [M.spec_l30Can, M.canGo, e]
  · have : M.waits b w = true := e2
    simp [M.spec_l30Can, M.canGo, this]
  have hx : (rd b.Warps w).Frames ≠ [] := by simpa using e
  have e2 : M.waits b w = false := e2
  refine ⟨⟨h, hx⟩, fun r hr r2 hr2 => bcase_mk (fun e3 => ⟨⟨hp, hw⟩, fun r3 hr3 => ?_⟩) fun e3 => bcase_mk (fun e4 => ?_) fun e4 => ?_⟩
  all_goals
    have hr' : r = M.topIns b.Code (rd b.Warps w) := hr
    have hr2' : r2 = M.isLocal (M.topIns b.Code (rd b.Warps w)) := by rw [hr2, hr']; rfl
  · have hl := hr2'.symm.trans e3
    rw [hr3]
    simp only [M.spec_l13Local, M.spec_l30Can, M.canGo, e, e2, hl, if_true, Bool.not_false, Bool.true_and]
  · have hl := hr2'.symm.trans e3
    rw [hr'] at e4
    simp [M.spec_l30Can, M.canGo, e, e2, hl, e4]
  · have hl := hr2'.symm.trans e3
    rw [hr'] at e4
    simp [M.spec_l30Can, M.canGo, e, e2, hl, e4]
theorem wp.impl_Block_canStep.math (b : D.Block) (w : Int) (h : M.impl_Block_canStep_pre b w) : wp.impl_Block_canStep b w (fun r => r = M.impl_Block_canStep b w) := by
  obtain ⟨h0, h1, hp, hw, hn, hok⟩ := has_warp h
  refine ⟨h, fun r hr => ?_⟩
  by_cases e : (rd b.Warps w).Frames.isEmpty = true
  · have hr' : r = (⟨0, 0, 0, 0⟩, false) := by rw [hr]; simp [M.impl_Block_nextIns, e]
    rw [hr']
    unfold JoinP
    refine bcase_t rfl (bcase_t rfl ?_)
    simp [M.impl_Block_canStep, M.canGo, e]
  have e : (rd b.Warps w).Frames.isEmpty = false := by simpa using e
  have hx : (rd b.Warps w).Frames ≠ [] := by simpa using e
  have hr' : r = (M.topIns b.Code (rd b.Warps w), true) := by
    rw [hr]; simp only [M.impl_Block_nextIns]; rw [if_neg (by rw [e]; simp)]; rfl
  have hruns := has_runs h hx
  obtain ⟨t1, t2, t3, t4, t5, t6, t7, _⟩ := runs_top hruns
  rw [hr']
  unfold JoinP
  refine bcase_f rfl ⟨h0, fun r2 hr2 => ?_⟩
  have hr2' : r2 = M.waits b w := hr2
  refine bcase_mk (fun e2 => ?_) fun e2 => bcase_mk (fun e3 => ?_) fun e3 => ?_
  · have := hr2'.symm.trans e2
    simp [M.impl_Block_canStep, M.canGo, this]
  · have e2 := hr2'.symm.trans e2
    have e3 : (M.topIns b.Code (rd b.Warps w)).Op = 16 := by simpa using e3
    have hl : M.isLocal (M.topIns b.Code (rd b.Warps w)) = false := by simp [M.isLocal, M.isIn, e3]
    refine ⟨⟨h0, h1⟩, ?_⟩
    rw [one_len]
    simp only [M.impl_Block_canStep, M.canGo, e, e2, hl, e3, Bool.not_false, Bool.true_and, bne_self_eq_false, Bool.false_or, Bool.false_eq_true, if_false]
  · have e2 := hr2'.symm.trans e2
    have e3 : ¬ (M.topIns b.Code (rd b.Warps w)).Op = 16 := by simpa using e3
    intro r3 hr3
    refine bcase_mk (fun e4 => ⟨⟨h0, h1⟩, hruns, fun r4 hr4 => bcase_mk (fun e5 => ?_) fun e5 => ⟨⟨h0, h1⟩, ?_⟩⟩) fun e4 => ?_
    · have e4 := (show r3 = M.isLocal (M.topIns b.Code (rd b.Warps w)) from hr3).symm.trans e4
      have := nt e5 (show r4 = M.splits b.Code (rd b.Warps w) from hr4)
      simp [M.impl_Block_canStep, M.canGo, e, e2, e4, this]
    · have e4 := (show r3 = M.isLocal (M.topIns b.Code (rd b.Warps w)) from hr3).symm.trans e4
      have := nf e5 (show r4 = M.splits b.Code (rd b.Warps w) from hr4)
      rw [w64 (by omega) (by omega)]
      simp only [M.impl_Block_canStep, M.canGo, e, e2, e4, this, Bool.not_false, Bool.not_true, Bool.true_and, Bool.false_or, if_true]
      congr 1; exact propext (by omega)
    · have e4 := (show r3 = M.isLocal (M.topIns b.Code (rd b.Warps w)) from hr3).symm.trans e4
      simp [M.impl_Block_canStep, M.canGo, e, e2, e4, e3]
theorem wp.spec_CanStep.math (b : D.Block) (w : Int) (h : M.spec_CanStep_pre b w) : wp.spec_CanStep b w (fun r => r = M.spec_CanStep b w) := by
  refine ⟨h, fun r hr => bcase_mk (fun e => ⟨⟨h, hr.symm.trans e⟩, fun r2 hr2 => ?_⟩) fun e => ?_⟩
  all_goals have hr' : r = M.hasWarp b w := hr
  · rw [hr2]; simp [M.spec_CanStep, M.canStep, ← hr', e, M.spec_l30Can]
  · simp [M.spec_CanStep, M.canStep, ← hr', e]
theorem wp.impl_CanStep.math (b : D.Block) (w : Int) (h : M.impl_CanStep_pre b w) : wp.impl_CanStep b w (fun r => r = M.impl_CanStep b w) := by
  refine ⟨h, fun r hr => bcase_mk (fun e => ⟨⟨h, hr.symm.trans e⟩, fun r2 hr2 => ?_⟩) fun e => ?_⟩
  all_goals have hr' : r = M.hasWarp b w := hr
  · rw [hr2]; simp [M.impl_CanStep, M.canStep, ← hr', e, M.impl_Block_canStep]
  · simp [M.impl_CanStep, M.canStep, ← hr', e]
theorem good_count {b : D.Block} (h : M.Good b) : 1 ≤ b.Warps.length ∧ b.Warps.length ≤ 3 := by
  have := h.2
  simp only [M.blockOk, Bool.and_eq_true, M.isIn, decide_eq_true_eq] at this
  omega
theorem good_has {b : D.Block} (h : M.Good b) {w : Int} (h0 : 0 ≤ w) (h1 : w < ((b.Warps.length : Nat) : Int)) : M.Has b w := by
  have hc := good_count h
  refine ⟨h.1, ?_⟩
  simp only [M.hasWarp, h.2, Bool.true_and, M.isIn, last_wrap (n := b.Warps.length) (by omega), Bool.and_eq_true, decide_eq_true_eq]
  omega
theorem tmod_in2 {x n : Int} (hx : 0 ≤ x) (hn : 0 < n) : 0 ≤ Int.tmod x n ∧ Int.tmod x n < n :=
  ⟨Int.tmod_nonneg _ hx, Int.tmod_lt_of_pos _ hn⟩
theorem pick_loop {b : D.Block} (h : M.Good b) {q : Int} (h0 : 0 ≤ q) (hq : q ≤ 9223372036854775807) {B : (Int × Unit) → ((Int × Unit) → Prop) → Prop} {Q : Int → Prop} (hQ : Q (M.pick b q))
    (hb : ∀ (k : Nat) (next : (Int × Unit) → Prop), k < b.Warps.length → M.Has b (Int.tmod (Int.tmod q b.Warps.length + k) b.Warps.length) → (M.canGo b (Int.tmod (Int.tmod q b.Warps.length + k) b.Warps.length) = true → Q (Int.tmod (Int.tmod q b.Warps.length + k) b.Warps.length)) →
      (M.canGo b (Int.tmod (Int.tmod q b.Warps.length + k) b.Warps.length) = false → next (((k + 1 : Nat) : Int), ())) → IntKind.wrap .i64 (Int.tmod q b.Warps.length + k) = Int.tmod q b.Warps.length + k → B ((k : Int), ()) next)
    (he : ∀ next : (Int × Unit) → Prop, Q (-1) → B ((b.Warps.length : Int), ()) next) : LoopP B (0, ()) := by
  have hc := good_count h
  have ht := tmod_in2 (x := q) (n := b.Warps.length) h0 (by omega)
  refine loop_n b.Warps.length (fun k => ((k : Int), ())) (fun k => M.pick b q = M.pickFrom b b.Warps.length (Int.tmod q b.Warps.length) (b.Warps.length - k) (k : Int)) rfl rfl (fun k hk hF next hn => ?_) fun hF next => ?_
  · rw [show b.Warps.length - k = (b.Warps.length - (k + 1)) + 1 by omega, M.pickFrom] at hF
    have ht2 := tmod_in2 (x := Int.tmod q b.Warps.length + k) (n := b.Warps.length) (by omega) (by omega)
    refine hb k next hk (good_has h ht2.1 ht2.2) (fun e => ?_) (fun e => hn ?_) (w64 (by omega) (by omega))
    · rw [if_pos e] at hF; rw [← hF]; exact hQ
    · rw [if_neg (by rw [e]; simp)] at hF; rw [hF]; rfl
  · refine he next ?_
    rw [Nat.sub_self, M.pickFrom] at hF
    rw [← hF]; exact hQ
theorem wp.spec_l32Pick.math (b : D.Block) (q : Int) (h : M.spec_l32Pick_pre b q) : wp.spec_l32Pick b q (fun r => r = M.spec_l32Pick b q) := by
  obtain ⟨hg, h0, hq⟩ := h
  have hc := good_count hg
  refine ⟨by omega, pick_loop hg h0 hq (Q := fun r => r = M.pick b q) rfl (fun k next hk hh h1 h2 hw => ?_) fun next hh => bcase_f (by simp) hh⟩
  refine bcase_t (by simp; omega) ⟨by omega, ?_⟩
  simp only [hw]
  refine ⟨hh, fun r hr => bcase_mk (fun e => h1 (hr.symm.trans e)) fun e => ?_⟩
  rw [up64 hk (by omega)]; exact h2 (hr.symm.trans e)
theorem wp.impl_Block_pickWarp.math (b : D.Block) (q : Int) (h : M.impl_Block_pickWarp_pre b q) : wp.impl_Block_pickWarp b q (fun r => r = M.impl_Block_pickWarp b q) := by
  obtain ⟨hg, h0, hq⟩ := h
  have hc := good_count hg
  refine pick_loop hg h0 hq (Q := fun r => r = M.pick b q) rfl (fun k next hk hh h1 h2 hw => ?_) fun next hh => bcase_f (by simp) hh
  refine bcase_t (by simp; omega) ⟨by omega, by omega, ?_⟩
  simp only [hw]
  refine ⟨hh, fun r hr => bcase_mk (fun e => h1 (hr.symm.trans e)) fun e => ?_⟩
  rw [up64 hk (by omega)]; exact h2 (hr.symm.trans e)
theorem wp.spec_PickWarp.math (b : D.Block) (q : Int) (h : M.spec_PickWarp_pre b q) : wp.spec_PickWarp b q (fun r => r = M.spec_PickWarp b q) := by
  obtain ⟨h, hq⟩ := h
  refine ⟨h, fun r hr => bcase_mk (fun e => ?_) fun e => bcase_mk (fun e2 => ?_) fun e2 => ?_⟩
  · simp [M.spec_PickWarp, M.pickWarp, nt e (show r = M.blockOk b from hr)]
  · have e2 : ¬ 0 ≤ q := by simp at e2; omega
    simp [M.spec_PickWarp, M.pickWarp, e2]
  · have e2 : 0 ≤ q := by simp at e2; omega
    have e := nf e (show r = M.blockOk b from hr)
    exact ⟨⟨⟨h, e⟩, e2, hq⟩, fun r2 hr2 => by rw [hr2]; simp [M.spec_PickWarp, M.pickWarp, e, e2, M.spec_l32Pick]⟩
theorem wp.impl_PickWarp.math (b : D.Block) (q : Int) (h : M.impl_PickWarp_pre b q) : wp.impl_PickWarp b q (fun r => r = M.impl_PickWarp b q) := by
  obtain ⟨h, hq⟩ := h
  refine bcase_mk (fun e2 => ?_) fun e2 => ⟨h, fun r hr => bcase_mk (fun e => ?_) fun e => ?_⟩
  · have e2 : ¬ 0 ≤ q := by simp at e2; omega
    simp [M.impl_PickWarp, M.pickWarp, e2]
  · simp [M.impl_PickWarp, M.pickWarp, nt e (show r = M.blockOk b from hr)]
  · have e2 : 0 ≤ q := by simp at e2; omega
    have e := nf e (show r = M.blockOk b from hr)
    exact ⟨⟨⟨h, e⟩, e2, hq⟩, fun r2 hr2 => by rw [hr2]; simp [M.impl_PickWarp, M.pickWarp, e, e2, M.impl_Block_pickWarp]⟩
/-- a loop over the warps of a block -/
theorem warps_all {b : D.Block} (hl : b.Warps.length ≤ 3) {g : Nat → Bool} {B : (Int × Unit) → ((Int × Unit) → Prop) → Prop}
    (hb : ∀ (k : Nat) (next : (Int × Unit) → Prop), k < b.Warps.length → (g k = false → (List.range b.Warps.length).all g = false) → (g k = true → next (((k + 1 : Nat) : Int), ())) → B ((k : Int), ()) next)
    (he : ∀ next : (Int × Unit) → Prop, (List.range b.Warps.length).all g = true → B ((b.Warps.length : Int), ()) next) : LoopP B (0, ()) := by
  refine loop_n b.Warps.length (fun k => ((k : Int), ())) (fun k => (List.range k).all g = true) rfl rfl (fun k hk hF next hn => ?_) fun hF next => he next hF
  refine hb k next hk (fun e => ?_) fun e => hn (by rw [List.range_succ, List.all_append, hF]; simp [e])
  refine Bool.eq_false_iff.2 fun hh => ?_
  rw [List.all_eq_true] at hh
  have := hh k (List.mem_range.2 hk)
  rw [e] at this; cases this
theorem wp.spec_IsStuck.math (b : D.Block) (h : M.spec_IsStuck_pre b) : wp.spec_IsStuck b (fun r => r = M.spec_IsStuck b) := by
  refine ⟨h, fun r hr => bcase_mk (fun e => ?_) fun e => ⟨h.2.1.1, fun r2 hr2 => bcase_mk (fun e2 => ?_) fun e2 => ?_⟩⟩
  · simp [M.spec_IsStuck, M.isStuck, nt e (show r = M.blockOk b from hr)]
  · have := (show r2 = M.ended b from hr2).symm.trans e2
    simp [M.spec_IsStuck, M.isStuck, this]
  · have e := nf e (show r = M.blockOk b from hr)
    have e2 := (show r2 = M.ended b from hr2).symm.trans e2
    have hg : M.Good b := ⟨h, e⟩
    have hc := good_count hg
    have hM : M.spec_IsStuck b = (List.range b.Warps.length).all fun k : Nat => !M.canGo b (k : Int) := by simp only [M.spec_IsStuck, M.isStuck, e, e2, Bool.true_and, Bool.not_false]
    rw [hM]
    refine warps_all hc.2 (g := fun k : Nat => !M.canGo b (k : Int)) (fun k next hk h1 h2 => ?_) fun next hh => bcase_f (by simp) hh.symm
    refine bcase_t (by simp; omega) ⟨good_has hg (by omega) (by omega), fun r3 hr3 => bcase_mk (fun e3 => (h1 ?_).symm) fun e3 => ?_⟩
    · have := (show r3 = M.canGo b (k : Int) from hr3).symm.trans e3
      simp [this]
    · have := (show r3 = M.canGo b (k : Int) from hr3).symm.trans e3
      rw [up64 hk (by omega)]; exact h2 (by simp [this])
theorem wp.impl_IsStuck.math (b : D.Block) (h : M.impl_IsStuck_pre b) : wp.impl_IsStuck b (fun r => r = M.impl_IsStuck b) := by
  refine ⟨h, fun r hr => bcase_mk (fun e => ?_) fun e => ⟨h.2.1.1, fun r2 hr2 => bcase_mk (fun e2 => ?_) fun e2 => ?_⟩⟩
  · simp [M.impl_IsStuck, M.isStuck, nt e (show r = M.blockOk b from hr)]
  · have := (show r2 = M.ended b from hr2).symm.trans e2
    simp [M.impl_IsStuck, M.isStuck, this]
  · have e := nf e (show r = M.blockOk b from hr)
    have e2 := (show r2 = M.ended b from hr2).symm.trans e2
    have hg : M.Good b := ⟨h, e⟩
    have hc := good_count hg
    have hM : M.impl_IsStuck b = (List.range b.Warps.length).all fun k : Nat => !M.canGo b (k : Int) := by simp only [M.impl_IsStuck, M.isStuck, e, e2, Bool.true_and, Bool.not_false]
    rw [hM]
    refine warps_all hc.2 (g := fun k : Nat => !M.canGo b (k : Int)) (fun k next hk h1 h2 => ?_) fun next hh => bcase_f (by simp) hh.symm
    refine bcase_t (by simp; omega) ⟨good_has hg (by omega) (by omega), fun r3 hr3 => bcase_mk (fun e3 => (h1 ?_).symm) fun e3 => ?_⟩
    · have := (show r3 = M.canGo b (k : Int) from hr3).symm.trans e3
      simp [this]
    · have := (show r3 = M.canGo b (k : Int) from hr3).symm.trans e3
      rw [up64 hk (by omega)]; exact h2 (by simp [this])
theorem stuck_good {b : D.Block} (h : M.BLong b) (e : M.isStuck b = true) : M.Good b := by
  simp only [M.isStuck, Bool.and_eq_true] at e
  exact ⟨h, e.1⟩
theorem wp.spec_StuckReason.math (b : D.Block) (h : M.spec_StuckReason_pre b) : wp.spec_StuckReason b (fun r => r = M.spec_StuckReason b) := by
  refine ⟨h, fun r hr => bcase_mk (fun e => ?_) fun e => ?_⟩
  · have := nt e (show r = M.isStuck b from hr)
    simp [M.spec_StuckReason, M.stuckReason, this]
  · have e := nf e (show r = M.isStuck b from hr)
    have hc := good_count (stuck_good h e)
    refine warps_all hc.2 (g := fun k : Nat => !M.isSplitBarrier b (k : Int)) (fun k next hk h1 h2 => ?_) fun next hh => bcase_f (by simp) ?_
    · refine bcase_t (by simp; omega) ⟨h, fun r3 hr3 => bcase_mk (fun e3 => ?_) fun e3 => ?_⟩
      · have e3 := (show r3 = M.isSplitBarrier b (k : Int) from hr3).symm.trans e3
        have := h1 (by simp [e3])
        simp only [M.spec_StuckReason, M.stuckReason, e, this, if_true, Bool.false_eq_true, if_false]
      · have e3 := (show r3 = M.isSplitBarrier b (k : Int) from hr3).symm.trans e3
        rw [up64 hk (by omega)]; exact h2 (by simp [e3])
    · simp only [M.spec_StuckReason, M.stuckReason, e, hh, if_true]
theorem wp.impl_StuckReason.math (b : D.Block) (h : M.impl_StuckReason_pre b) : wp.impl_StuckReason b (fun r => r = M.impl_StuckReason b) := by
  refine ⟨h, fun r hr => bcase_mk (fun e => ?_) fun e => ?_⟩
  · have := nt e (show r = M.isStuck b from hr)
    simp [M.impl_StuckReason, M.stuckReason, this]
  · have e := nf e (show r = M.isStuck b from hr)
    have hc := good_count (stuck_good h e)
    refine warps_all hc.2 (g := fun k : Nat => !M.isSplitBarrier b (k : Int)) (fun k next hk h1 h2 => ?_) fun next hh => bcase_f (by simp) ?_
    · refine bcase_t (by simp; omega) ⟨h, fun r3 hr3 => bcase_mk (fun e3 => ?_) fun e3 => ?_⟩
      · have e3 := (show r3 = M.isSplitBarrier b (k : Int) from hr3).symm.trans e3
        have := h1 (by simp [e3])
        simp only [M.impl_StuckReason, M.stuckReason, e, this, if_true, Bool.false_eq_true, if_false]
      · have e3 := (show r3 = M.isSplitBarrier b (k : Int) from hr3).symm.trans e3
        rw [up64 hk (by omega)]; exact h2 (by simp [e3])
    · simp only [M.impl_StuckReason, M.stuckReason, e, hh, if_true]
theorem wp.laws_FnExactCanStep.math (b : D.Block) (w : Int) (h : M.laws_FnExactCanStep_pre b w) : wp.laws_FnExactCanStep b w (fun r => r = M.laws_FnExactCanStep b w) := by
  refine ⟨⟨by unfold M.Left; omega, h⟩, fun r hr => bcase_mk (fun _ => rfl) fun e => ?_⟩
  obtain ⟨hs, hl⟩ := sz_small hr e
  simp only [M.laws_toBlock, forall_eq, M.spec_CanStep, M.impl_CanStep, M.laws_eqBlock, beq_self_eq_true, bne_self_eq_false, Bool.not_true, bcase]
  exact ⟨hs, hl, hs, hl, hs, hl, rfl⟩
theorem wp.laws_FnExactPickWarp.math (b : D.Block) (q : Int) (h : M.laws_FnExactPickWarp_pre b q) : wp.laws_FnExactPickWarp b q (fun r => r = M.laws_FnExactPickWarp b q) := by
  obtain ⟨h, hq⟩ := h
  refine ⟨⟨by unfold M.Left; omega, h⟩, fun r hr => bcase_mk (fun _ => rfl) fun e => ?_⟩
  obtain ⟨hs, hl⟩ := sz_small hr e
  simp only [M.laws_toBlock, forall_eq, M.spec_PickWarp, M.impl_PickWarp, M.laws_eqBlock, beq_self_eq_true, bne_self_eq_false, Bool.not_true, bcase]
  exact ⟨hs, ⟨hl, hq⟩, hs, ⟨hl, hq⟩, hs, hl, rfl⟩
theorem wp.laws_FnExactIsStuck.math (b : D.Block) (h : M.laws_FnExactIsStuck_pre b) : wp.laws_FnExactIsStuck b (fun r => r = M.laws_FnExactIsStuck b) := by
  refine ⟨⟨by unfold M.Left; omega, h⟩, fun r hr => bcase_mk (fun _ => rfl) fun e => ?_⟩
  obtain ⟨hs, hl⟩ := sz_small hr e
  simp only [M.laws_toBlock, forall_eq, M.spec_IsStuck, M.impl_IsStuck, M.laws_eqBlock, beq_self_eq_true, bne_self_eq_false, Bool.not_true, bcase]
  exact ⟨hs, hl, hs, hl, hs, hl, rfl⟩
theorem wp.laws_FnExactStuckReason.math (b : D.Block) (h : M.laws_FnExactStuckReason_pre b) : wp.laws_FnExactStuckReason b (fun r => r = M.laws_FnExactStuckReason b) := by
  refine ⟨⟨by unfold M.Left; omega, h⟩, fun r hr => bcase_mk (fun _ => rfl) fun e => ?_⟩
  obtain ⟨hs, hl⟩ := sz_small hr e
  simp only [M.laws_toBlock, forall_eq, M.spec_StuckReason, M.impl_StuckReason, M.laws_eqBlock, beq_self_eq_true, bne_self_eq_false, Bool.not_true, bcase]
  exact ⟨hs, hl, hs, hl, hs, hl, rfl⟩
end Go.V
