import Derived.Test.YtnbkmenlaogblaaMath14
import Derived.Test.YtnbkmenlaogblaaWp15
set_option linter.unusedVariables false
set_option linter.unusedSimpArgs false
set_option maxRecDepth 20000
namespace Go.V
theorem empty_len {α : Type} {l : List α} : decide (((l.length : Nat) : Int) > 0) = !l.isEmpty := by
  cases l with
  | nil => rfl
  | cons x l =>
    have : (((x :: l).length : Nat) : Int) > 0 := by simp only [List.length_cons]; omega
    rw [decide_eq_true this]; rfl
theorem empty_len0 {α : Type} {l : List α} : (((l.length : Nat) : Int) == 0) = l.isEmpty := by
  cases l with
  | nil => rfl
  | cons x l =>
    have : ¬ (((x :: l).length : Nat) : Int) = 0 := by simp only [List.length_cons]; omega
    rw [beq_eq_false_iff_ne.2 this]; rfl
theorem wp.spec_l29Ended.math (b : D.Block) (h : M.spec_l29Ended_pre b) : wp.spec_l29Ended b (fun r => r = M.spec_l29Ended b) := by
  unfold wp.spec_l29Ended
  refine all_loop (g := fun x : D.Warp => x.Frames.isEmpty) (Q := fun r => r = M.ended b) h (fun k next hk h1 h2 => ?_) (fun next ha => bcase_f (by simp) ha.symm) fun ha => ha.symm
  refine bcase_t (by simp; omega) ⟨by omega, bcase_mk (fun e => ?_) fun e => ?_⟩
  · rw [empty_len] at e
    have e : (rd b.Warps (k : Int)).Frames.isEmpty = false := by simpa using e
    exact h1 e (all_false (g := fun x : D.Warp => x.Frames.isEmpty) hk e)
  · rw [empty_len] at e
    rw [up64 hk h]; exact h2 (by simpa using e)
theorem wp.spec_BlockEnded.math (b : D.Block) (h : M.spec_BlockEnded_pre b) : wp.spec_BlockEnded b (fun r => r = M.spec_BlockEnded b) := by
  refine ⟨h, fun r hr => bcase_mk (fun e => ⟨h.2.1.1, fun r2 hr2 => ?_⟩) fun e => ?_⟩
  · have : M.blockOk b = true := hr.symm.trans e
    rw [hr2]; simp [M.spec_BlockEnded, M.blockEnded, this, M.spec_l29Ended]
  · have : M.blockOk b = false := hr.symm.trans e
    simp [M.spec_BlockEnded, M.blockEnded, this]
theorem wp.slices_IndexFunc_impl_Warp_impl_Warp.math (l : List D.Warp) (g : D.Warp → Bool) (D : D.Warp → Prop) (h : M.slices_IndexFunc_impl_Warp_impl_Warp_pre l g D) : wp.slices_IndexFunc_impl_Warp_impl_Warp l g D (fun r => r = M.slices_IndexFunc_impl_Warp_impl_Warp l g) := by
  unfold wp.slices_IndexFunc_impl_Warp_impl_Warp
  obtain ⟨h1, h2⟩ := h
  refine loop_n l.length (fun k => ((k : Int), ())) (fun k => M.slices_IndexFunc_impl_Warp_impl_Warp l g = M.firstIx g (l.drop k) k) rfl (by simp [M.slices_IndexFunc_impl_Warp_impl_Warp]) (fun k hk hF next hn => ?_) fun hF next => ?_
  · rw [firstIx_from g l k hk] at hF
    refine bcase_t (by simp; omega) ⟨by omega, h2 _ (rd_mem hk), fun r hr => bcase_mk (fun e => ?_) fun e => ?_⟩
    · rw [hF, if_pos (by rw [← hr]; exact e)]
    · rw [up64 hk h1]
      exact hn (by rw [hF, if_neg (by rw [← hr, e]; simp)])
  · refine bcase_f (by simp) ?_
    rw [hF]; simp [M.firstIx]
theorem wp.slices_ContainsFunc_impl_Warp_impl_Warp.math (l : List D.Warp) (g : D.Warp → Bool) (D : D.Warp → Prop) (h : M.slices_ContainsFunc_impl_Warp_impl_Warp_pre l g D) : wp.slices_ContainsFunc_impl_Warp_impl_Warp l g D (fun r => r = M.slices_ContainsFunc_impl_Warp_impl_Warp l g) :=
  ⟨h, fun r hr => by rw [hr]; exact firstIx_nonneg g l 0⟩
theorem wp.impl_Block_ended_1.math (x : D.Warp) (h : M.impl_Block_ended_1_pre x) : wp.impl_Block_ended_1 x (fun r => r = M.impl_Block_ended_1 x) := empty_len
theorem wp.impl_Block_ended.math (b : D.Block) (h : M.impl_Block_ended_pre b) : wp.impl_Block_ended b (fun r => r = M.impl_Block_ended b) := by
  refine ⟨⟨h, fun _ _ => trivial⟩, fun r hr => ?_⟩
  rw [hr]
  simp only [M.slices_ContainsFunc_impl_Warp_impl_Warp, M.impl_Block_ended, M.ended, M.impl_Block_ended_1, ← List.all_eq_not_any_not]
theorem wp.impl_BlockEnded.math (b : D.Block) (h : M.impl_BlockEnded_pre b) : wp.impl_BlockEnded b (fun r => r = M.impl_BlockEnded b) := by
  refine ⟨h, fun r hr => bcase_mk (fun e => ⟨h.2.1.1, fun r2 hr2 => ?_⟩) fun e => ?_⟩
  · have : M.blockOk b = true := hr.symm.trans e
    rw [hr2]; simp [M.impl_BlockEnded, M.blockEnded, this, M.impl_Block_ended]
  · have : M.blockOk b = false := hr.symm.trans e
    simp [M.impl_BlockEnded, M.blockEnded, this]
/-- what a valid block gives at one of its warps -/
theorem warp_at {p : List D.Ins} : ∀ {l : List D.Warp} {k n : Nat}, M.warpsOk p k l = true → n < l.length → M.warpAt p (k + n) (rd l (n : Int)) = true
  | [], k, n, h, hn => absurd hn (by simp)
  | x :: l, k, 0, h, hn => by
    simp only [M.warpsOk, Bool.and_eq_true] at h
    exact h.1
  | x :: l, k, n + 1, h, hn => by
    simp only [M.warpsOk, Bool.and_eq_true] at h
    have := warp_at (n := n) h.2 (by simpa using hn)
    rw [show k + (n + 1) = k + 1 + n by omega]
    have e : rd (x :: l) ((n + 1 : Nat) : Int) = rd l (n : Int) := by
      have hn' : n < l.length := by simpa using hn
      rw [rd_nat hn, rd_nat hn']; rfl
    rw [e]; exact this
theorem has_warp {b : D.Block} {w : Int} (h : M.Has b w) : 0 ≤ w ∧ w < ((b.Warps.length : Nat) : Int) ∧ M.programOk b.Code = true ∧ M.warpOf b.Code (rd b.Warps w) = true ∧ (rd b.Warps w).Number = w ∧ M.blockOk b = true := by
  obtain ⟨hb, hh⟩ := h
  obtain ⟨h0, h1, hok⟩ := has_in hb.2.1.1 hh
  have hok' := hok
  simp only [M.blockOk, Bool.and_eq_true] at hok
  obtain ⟨k, rfl⟩ := Int.eq_ofNat_of_zero_le h0
  have := warp_at (n := k) hok.2.2.2.2.2 (by omega)
  rw [Nat.zero_add] at this
  simp only [M.warpAt, Bool.and_eq_true, beq_iff_eq] at this
  exact ⟨h0, h1, hok.1, this.2, this.1, hok'⟩
theorem frames_last {p : List D.Ins} {x : D.Warp} (h : M.warpOf p x = true) (hx : x.Frames ≠ []) : x.Frames.length ≤ 24 ∧ 0 ≤ (M.lastF x.Frames).Pc ∧ (M.lastF x.Frames).Pc < ((p.length : Nat) : Int) := by
  simp only [M.warpOf, M.areFrames, Bool.and_eq_true, Bool.or_eq_true] at h
  obtain ⟨h1, h2, h3, h4, h5⟩ := h
  have h5 := h5.resolve_left (by simpa using hx)
  have hpos : 0 < x.Frames.length := List.length_pos_iff.2 hx
  have hm : M.lastF x.Frames ∈ x.Frames := rd_of (by omega) (by omega)
  have hf := List.all_eq_true.1 h4 _ hm
  simp only [M.endsOk, M.frameOk, M.isIn, Bool.and_eq_true, decide_eq_true_eq, bne_iff_ne] at h5 hf
  exact ⟨h5.1, hf.1.1, by omega⟩
theorem wp.spec_l30Next.math (b : D.Block) (w : Int) (h : M.spec_l30Next_pre b w) : wp.spec_l30Next b w (fun r => r = M.spec_l30Next b w) := by
  obtain ⟨hh, hx⟩ := h
  obtain ⟨h0, h1, hp, hw, hn, hok⟩ := has_warp hh
  obtain ⟨k1, k2, k3⟩ := frames_last hw hx
  have hpos : 0 < (rd b.Warps w).Frames.length := List.length_pos_iff.2 hx
  unfold wp.spec_l30Next
  rw [last_wrap (by omega)]
  exact ⟨⟨h0, h1⟩, ⟨by omega, by omega⟩, ⟨k2, k3⟩, rfl⟩
theorem wp.impl_Block_nextIns.math (b : D.Block) (w : Int) (h : M.impl_Block_nextIns_pre b w) : wp.impl_Block_nextIns b w (fun r => r = M.impl_Block_nextIns b w) := by
  obtain ⟨h0, h1, hp, hw, hn, hok⟩ := has_warp h
  unfold wp.impl_Block_nextIns
  rw [empty_len0]
  refine ⟨⟨h0, h1⟩, bcase_mk (fun e => ?_) fun e => ?_⟩
  · simp [M.impl_Block_nextIns, e]
  · have hx : (rd b.Warps w).Frames ≠ [] := by simpa using e
    obtain ⟨k1, k2, k3⟩ := frames_last hw hx
    have hpos : 0 < (rd b.Warps w).Frames.length := List.length_pos_iff.2 hx
    rw [last_wrap (by omega)]
    refine ⟨⟨by omega, by omega⟩, ⟨k2, k3⟩, ?_⟩
    simp only [M.impl_Block_nextIns, e]; rfl
theorem wp.spec_NextOp.math (b : D.Block) (w : Int) (h : M.spec_NextOp_pre b w) : wp.spec_NextOp b w (fun r => r = M.spec_NextOp b w) := by
  unfold wp.spec_NextOp
  rw [empty_len0]
  refine ⟨h, fun r hr => bcase_mk (fun e => ?_) fun e => ?_⟩
  · have : M.hasWarp b w = false := nt e hr
    simp [M.spec_NextOp, M.nextOp, this]
  have hw : M.hasWarp b w = true := nf e hr
  obtain ⟨h0, h1, _⟩ := has_warp ⟨h, hw⟩
  refine ⟨⟨h0, h1⟩, bcase_mk (fun e2 => ?_) fun e2 => ⟨⟨⟨h, hw⟩, by simpa using e2⟩, fun r2 hr2 => ?_⟩⟩
  · simp [M.spec_NextOp, M.nextOp, e2]
  · rw [hr2]; simp [M.spec_NextOp, M.nextOp, e2, hw, M.spec_l30Next]
theorem wp.impl_NextOp.math (b : D.Block) (w : Int) (h : M.impl_NextOp_pre b w) : wp.impl_NextOp b w (fun r => r = M.impl_NextOp b w) := by
  refine ⟨h, fun r hr => bcase_mk (fun e => ?_) fun e => ?_⟩
  · have : M.hasWarp b w = false := nt e hr
    simp [M.impl_NextOp, M.nextOp, this]
  have hw : M.hasWarp b w = true := nf e hr
  refine ⟨⟨h, hw⟩, fun r2 hr2 => ?_⟩
  subst hr2
  unfold M.impl_Block_nextIns
  by_cases e2 : (rd b.Warps w).Frames.isEmpty = true
  · rw [if_pos e2]
    exact bcase_t rfl (by simp [M.impl_NextOp, M.nextOp, e2])
  · rw [if_neg e2]
    have e2 : (rd b.Warps w).Frames.isEmpty = false := by simpa using e2
    exact bcase_f rfl (by simp [M.impl_NextOp, M.nextOp, e2, hw])
theorem wp.spec_AtBarrier.math (b : D.Block) (w : Int) (h : M.spec_AtBarrier_pre b w) : wp.spec_AtBarrier b w (fun r => r = M.spec_AtBarrier b w) := ⟨h, fun r hr => by rw [hr]; rfl⟩
theorem wp.impl_AtBarrier.math (b : D.Block) (w : Int) (h : M.impl_AtBarrier_pre b w) : wp.impl_AtBarrier b w (fun r => r = M.impl_AtBarrier b w) := ⟨h, fun r hr => by rw [hr]; rfl⟩
theorem atBarrier_has {b : D.Block} {w : Int} (h : M.atBarrier b w = true) : M.hasWarp b w = true := by
  unfold M.atBarrier M.nextOp at h
  by_cases e : M.hasWarp b w = true
  · exact e
  · simp [e] at h
theorem wp.spec_IsSplitBarrier.math (b : D.Block) (w : Int) (h : M.spec_IsSplitBarrier_pre b w) : wp.spec_IsSplitBarrier b w (fun r => r = M.spec_IsSplitBarrier b w) := by
  refine ⟨h, fun r hr => bcase_mk (fun e => ?_) fun e => ?_⟩
  · have e : M.atBarrier b w = true := hr.symm.trans e
    obtain ⟨h0, h1, _⟩ := has_warp ⟨h, atBarrier_has e⟩
    refine ⟨⟨h0, h1⟩, ?_⟩
    simp only [M.spec_IsSplitBarrier, M.isSplitBarrier, e, Bool.true_and]
  · have e : M.atBarrier b w = false := hr.symm.trans e
    simp only [M.spec_IsSplitBarrier, M.isSplitBarrier, e, Bool.false_and]
theorem wp.impl_IsSplitBarrier.math (b : D.Block) (w : Int) (h : M.impl_IsSplitBarrier_pre b w) : wp.impl_IsSplitBarrier b w (fun r => r = M.impl_IsSplitBarrier b w) := by
  refine ⟨h, fun r hr => bcase_mk (fun e => ?_) fun e => ?_⟩
  · have e : M.atBarrier b w = true := hr.symm.trans e
    obtain ⟨h0, h1, _⟩ := has_warp ⟨h, atBarrier_has e⟩
    refine ⟨⟨h0, h1⟩, ?_⟩
    simp only [M.impl_IsSplitBarrier, M.isSplitBarrier, e, Bool.true_and]
  · have e : M.atBarrier b w = false := hr.symm.trans e
    simp only [M.impl_IsSplitBarrier, M.isSplitBarrier, e, Bool.false_and]
theorem wp.laws_FnExactBlockEnded.math (b : D.Block) (h : M.laws_FnExactBlockEnded_pre b) : wp.laws_FnExactBlockEnded b (fun r => r = M.laws_FnExactBlockEnded b) := by
  refine ⟨⟨by unfold M.Left; omega, h⟩, fun r hr => bcase_mk (fun _ => rfl) fun e => ?_⟩
  obtain ⟨hs, hl⟩ := sz_small hr e
  simp only [M.laws_toBlock, forall_eq, M.spec_BlockEnded, M.impl_BlockEnded, M.laws_eqBlock, beq_self_eq_true, bne_self_eq_false, Bool.not_true, bcase]
  exact ⟨hs, hl, hs, hl, hs, hl, rfl⟩
theorem wp.laws_FnExactNextOp.math (b : D.Block) (w : Int) (h : M.laws_FnExactNextOp_pre b w) : wp.laws_FnExactNextOp b w (fun r => r = M.laws_FnExactNextOp b w) := by
  refine ⟨⟨by unfold M.Left; omega, h⟩, fun r hr => bcase_mk (fun _ => rfl) fun e => ?_⟩
  obtain ⟨hs, hl⟩ := sz_small hr e
  simp only [M.laws_toBlock, forall_eq, M.spec_NextOp, M.impl_NextOp, M.laws_eqBlock, beq_self_eq_true, bne_self_eq_false, Bool.not_true, bcase]
  exact ⟨hs, hl, hs, hl, hs, hl, rfl⟩
theorem wp.laws_FnExactAtBarrier.math (b : D.Block) (w : Int) (h : M.laws_FnExactAtBarrier_pre b w) : wp.laws_FnExactAtBarrier b w (fun r => r = M.laws_FnExactAtBarrier b w) := by
  refine ⟨⟨by unfold M.Left; omega, h⟩, fun r hr => bcase_mk (fun _ => rfl) fun e => ?_⟩
  obtain ⟨hs, hl⟩ := sz_small hr e
  simp only [M.laws_toBlock, forall_eq, M.spec_AtBarrier, M.impl_AtBarrier, M.laws_eqBlock, beq_self_eq_true, bne_self_eq_false, Bool.not_true, bcase]
  exact ⟨hs, hl, hs, hl, hs, hl, rfl⟩
theorem wp.laws_FnExactIsSplitBarrier.math (b : D.Block) (w : Int) (h : M.laws_FnExactIsSplitBarrier_pre b w) : wp.laws_FnExactIsSplitBarrier b w (fun r => r = M.laws_FnExactIsSplitBarrier b w) := by
  refine ⟨⟨by unfold M.Left; omega, h⟩, fun r hr => bcase_mk (fun _ => rfl) fun e => ?_⟩
  obtain ⟨hs, hl⟩ := sz_small hr e
  simp only [M.laws_toBlock, forall_eq, M.spec_IsSplitBarrier, M.impl_IsSplitBarrier, M.laws_eqBlock, beq_self_eq_true, bne_self_eq_false, Bool.not_true, bcase]
  exact ⟨hs, hl, hs, hl, hs, hl, rfl⟩
end Go.V
