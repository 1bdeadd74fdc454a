import Derived.Test.YtnbkmenlaogblaaMath13
import Derived.Test.YtnbkmenlaogblaaMath6
import Derived.Test.YtnbkmenlaogblaaWp14
set_option linter.unusedVariables false
set_option linter.unusedSimpArgs false
set_option maxRecDepth 20000
namespace Go.V
theorem last_wrap {n : Nat} (h : n ≤ 9223372036854775807) : IntKind.wrap .i64 ((n : Int) - 1) = (n : Int) - 1 := w64 (by omega) (by omega)
theorem all_rd {α : Type} [Inhabited α] {l : List α} {g : α → Bool} (h : l.all g = true) {k : Nat} (hk : k < l.length) : g (rd l (k : Int)) = true := by
  rw [List.all_eq_true] at h; exact h _ (rd_mem hk)
theorem frames_false {fs : List D.Frame} {n : Int} {k : Nat} (hk : k < fs.length) (h : M.frameOk n (rd fs (k : Int)) = false) : M.areFrames fs n = false := by
  have := all_false (g := M.frameOk n) hk h
  simp [M.areFrames, this]
theorem ends_false {fs : List D.Frame} {n : Int} (h0 : fs ≠ []) (h : M.endsOk fs n = false) : M.areFrames fs n = false := by
  have : fs.isEmpty = false := by simpa using h0
  simp [M.areFrames, h, this]
theorem wp.impl_areFrames.math (fs : List D.Frame) (n : Int) (h : M.impl_areFrames_pre fs n) : wp.impl_areFrames fs n (fun r => r = M.impl_areFrames fs n) := by
  unfold wp.impl_areFrames
  have hl : fs.length ≤ 9223372036854775807 := h
  refine all_loop (g := M.frameOk n) (Q := fun r => r = M.areFrames fs n) h (fun k next hk h1 h2 => ?_) (fun next ha => ?_) fun ha => by simp [M.areFrames, ha]
  · refine bcase_t (by simp; omega) ⟨by omega, fun r hr => bcase_mk (fun e => ?_) fun e r2 hr2 => bcase_mk (fun e2 => ?_) fun e2 r3 hr3 => bcase_mk (fun e3 => ?_) fun e3 => bcase_mk (fun e4 => ?_) fun e4 => ?_⟩
    all_goals simp only [M.impl_within, M.impl_IsMask] at *
    · have := nt e hr
      exact (frames_false hk (by simp [M.frameOk, this])).symm
    · have := nt e2 hr2
      exact (frames_false hk (by simp [M.frameOk, this])).symm
    · have := nt e3 hr3
      exact (frames_false hk (by simp [M.frameOk, this])).symm
    · have e4 : (rd fs (k : Int)).Mask = 0 := by simpa using e4
      exact (frames_false hk (by simp [M.frameOk, e4])).symm
    · rw [up64 hk h]
      refine h2 ?_
      have e4 : (rd fs (k : Int)).Mask ≠ 0 := by simpa using e4
      simp [M.frameOk, nf e hr, nf e2 hr2, nf e3 hr3, e4]
  · refine bcase_f (by simp) (bcase_mk (fun e => ?_) fun e => ?_)
    · have : fs = [] := by simpa using e
      subst this; rfl
    have h0 : fs ≠ [] := by rintro rfl; simp at e
    have hpos : 0 < fs.length := List.length_pos_iff.2 h0
    have hA : M.areFrames fs n = M.endsOk fs n := by
      have : fs.isEmpty = false := by simpa using h0
      simp [M.areFrames, ha, this]
    show _
    simp only [M.impl_areFrames, hA, last_wrap hl]
    refine ⟨by omega, bcase_mk (fun e1 => bcase_mk (fun e2 => bcase_mk (fun e3 => ⟨by omega, bcase_mk (fun e4 => ⟨by omega, ?_⟩) fun e4 => ?_⟩) fun e3 => ?_) fun e2 => ?_) fun e1 => ?_⟩
    all_goals simp only [M.endsOk]
    all_goals change _ = (_ && ((rd fs (((fs.length : Nat) : Int) - 1)).Pc != (rd fs (((fs.length : Nat) : Int) - 1)).Stop && ((rd fs (((fs.length : Nat) : Int) - 1)).Pc != n && _)))
    · have e1 : fs.length ≤ 24 := by simp at e1; omega
      rw [e2, e3, e4]; simp [e1]
    · rw [e4]; simp
    · rw [e3]; simp
    · rw [e2]; simp
    · have e1 : ¬ fs.length ≤ 24 := by simp at e1; omega
      simp [e1]
theorem lenE {r : List Int} : (((r.length : Nat) : Int) == 32) = (r.length == 32) := by
  rw [Bool.eq_iff_iff]; simp; omega
theorem wp.impl_areAllRegs.math (r : List Int) : wp.impl_areAllRegs r (fun x => x = M.impl_areAllRegs r) := lenE
theorem wp.impl_isWarpCount.math (n : Int) : wp.impl_isWarpCount n (fun x => x = M.impl_isWarpCount n) := fun r hr => hr
theorem wp.impl_isMemory.math (m : List Int) (h : M.impl_isMemory_pre m) : wp.impl_isMemory m (fun x => x = M.impl_isMemory m) := by
  refine bcase_mk (fun e => ⟨h, fun r hr => ?_⟩) fun e => ?_
  · have : m.length = 32 := by simp at e; omega
    rw [hr]; simp [M.impl_isMemory, this, M.impl_AreWords]
  · have : ¬ m.length = 32 := by simp at e; omega
    simp [M.impl_isMemory, this]
theorem wp.impl_isWarpOf.math (p : List D.Ins) (x : D.Warp) (h : M.impl_isWarpOf_pre p x) : wp.impl_isWarpOf p x (fun r => r = M.impl_isWarpOf p x) := by
  obtain ⟨h1, h2⟩ := h
  refine fun r hr => bcase_mk (fun e r2 hr2 => bcase_mk (fun e2 => ⟨h2, fun r3 hr3 => bcase_mk (fun e3 => ⟨h1, fun r4 hr4 => ?_⟩) fun e3 => ?_⟩) fun e2 => ?_) fun e => ?_
  all_goals try simp only [M.impl_isWarpNumber, M.impl_areAllRegs, M.impl_AreWords, M.impl_areFrames, M.impl_isWarpOf, M.warpOf] at *
  · subst hr hr2 hr3 hr4; simp [e, e2, e3]
  · subst hr hr2 hr3; simp [e, e2, e3]
  · subst hr hr2; simp [e, e2]
  · subst hr; simp [e]
theorem lenB {r : List Int} : (((r.length : Nat) : Int) != 32) = !(r.length == 32) := by rw [← lenE]; rfl
theorem wp.spec_WarpOk.math (p : List D.Ins) (x : D.Warp) (h : M.spec_WarpOk_pre p x) : wp.spec_WarpOk p x (fun r => r = M.spec_WarpOk p x) := by
  obtain ⟨hp, h1, h2⟩ := h
  have hl : x.Frames.length ≤ 9223372036854775807 := h1
  unfold wp.spec_WarpOk
  simp only [lenB]
  refine ⟨hp, fun r hr => bcase_mk (fun e => ?_) fun e r2 hr2 => bcase_mk (fun e2 => ?_) fun e2 => bcase_mk (fun e3 => ?_) fun e3 => ⟨h2, fun r4 hr4 => bcase_mk (fun e4 => ?_) fun e4 => bcase_mk (fun e5 => ?_) fun e5 => ?_⟩⟩
  all_goals try simp only [M.spec_ProgramOk, M.spec_l01In, M.spec_AreWords] at *
  all_goals try simp only [M.spec_WarpOk, M.warpOf]
  · rw [nt e hr]; rfl
  · rw [nt e2 hr2]; simp
  · have : (x.Regs.length == 32) = false := by simpa using e3
    rw [this]; simp
  · rw [nt e4 hr4]; simp
  · have h24 : ¬ x.Frames.length ≤ 24 := by simp at e5; omega
    have h0 : x.Frames ≠ [] := by rintro h; rw [h] at h24; simp at h24
    rw [ends_false h0 (by simp [M.endsOk, h24])]; simp
  have h24 : x.Frames.length ≤ 24 := by simp at e5; omega
  have h32 : (x.Regs.length == 32) = true := by simpa using e3
  rw [nf e hr, nf e2 hr2, nf e4 hr4, h32]
  simp only [Bool.true_and]
  have hR : ∀ k : Nat, k < x.Frames.length → rd x.Frames ((k : Int)) = rd x.Frames (k : Int) := fun _ _ => rfl
  rw [last_wrap hl]
  refine loop_n x.Frames.length (fun k => ((k : Int), ())) (fun k => (x.Frames.take k).all (M.frameOk p.length) = true ∧ (0 < k → (rd x.Frames 0).Stop = p.length ∧ (rd x.Frames 0).Mask = 255) ∧ (k = x.Frames.length → 0 < k → (M.lastF x.Frames).Pc ≠ (M.lastF x.Frames).Stop ∧ (M.lastF x.Frames).Pc ≠ p.length)) rfl ⟨by simp, by simp, by simp⟩ (fun k hk hF next hn => ?_) fun hF next => ?_
  · obtain ⟨g1, g2, g3⟩ := hF
    have h0 : x.Frames ≠ [] := by rintro h; rw [h] at hk; simp at hk
    refine bcase_t (by simp; omega) ⟨by omega, fun r hr => bcase_mk (fun e => ?_) fun e r2 hr2 => bcase_mk (fun e2 => ?_) fun e2 r3 hr3 => bcase_mk (fun e3 => ?_) fun e3 => bcase_mk (fun e4 => ?_) fun e4 => ?_⟩
    all_goals simp only [M.spec_IsMask] at *
    · have := nt e hr
      exact (frames_false hk (by simp [M.frameOk, this])).symm
    · have := nt e2 hr2
      exact (frames_false hk (by simp [M.frameOk, this])).symm
    · have := nt e3 hr3
      exact (frames_false hk (by simp [M.frameOk, this])).symm
    · have e4 : (rd x.Frames (k : Int)).Mask = 0 := by simpa using e4
      exact (frames_false hk (by simp [M.frameOk, e4])).symm
    have e4 : (rd x.Frames (k : Int)).Mask ≠ 0 := by simpa using e4
    have hok : M.frameOk p.length (rd x.Frames (k : Int)) = true := by simp [M.frameOk, nf e hr, nf e2 hr2, nf e3 hr3, e4]
    rw [rd_nat hk] at hok
    have gk := take_all_succ hk g1 hok
    have tail : ((rd x.Frames 0).Stop = p.length ∧ (rd x.Frames 0).Mask = 255) → bcase ((k : Int) == (x.Frames.length : Int) - 1) (bcase ((rd x.Frames (k : Int)).Pc == (rd x.Frames (k : Int)).Stop) (false = M.areFrames x.Frames p.length) (bcase ((rd x.Frames (k : Int)).Pc == ((p.length : Nat) : Int)) (false = M.areFrames x.Frames p.length) (next ((IntKind.wrap .i64 ((k : Int) + 1)), ())))) (next ((IntKind.wrap .i64 ((k : Int) + 1)), ())) := by
      intro hz
      rw [up64 hk hl]
      refine bcase_mk (fun e5 => ?_) fun e5 => ?_
      · have e5 : (k : Int) = (x.Frames.length : Int) - 1 := by simpa using e5
        have hlast : M.lastF x.Frames = rd x.Frames (k : Int) := by rw [e5]; rfl
        refine bcase_mk (fun e6 => ?_) fun e6 => bcase_mk (fun e7 => ?_) fun e7 => ?_
        · have e6 : (rd x.Frames (k : Int)).Pc = (rd x.Frames (k : Int)).Stop := by simpa using e6
          exact (ends_false h0 (by simp [M.endsOk, hlast, e6])).symm
        · have e7 : (rd x.Frames (k : Int)).Pc = p.length := by simpa using e7
          exact (ends_false h0 (by simp [M.endsOk, hlast, e7])).symm
        · exact hn ⟨gk, fun _ => hz, fun _ _ => by rw [hlast]; exact ⟨by simpa using e6, by simpa using e7⟩⟩
      · have e5 : ¬ (k : Int) = (x.Frames.length : Int) - 1 := by simpa using e5
        exact hn ⟨gk, fun _ => hz, fun h _ => by omega⟩
    refine bcase_mk (fun e5 => ?_) fun e5 => ?_
    · have e5 : k = 0 := by simp at e5; omega
      subst e5
      refine bcase_mk (fun e6 => ?_) fun e6 => bcase_mk (fun e7 => ?_) fun e7 => ?_
      · have e6 : (rd x.Frames 0).Stop ≠ p.length := by simpa using e6
        exact (ends_false h0 (by simp [M.endsOk, e6])).symm
      · have e7 : (rd x.Frames 0).Mask ≠ 255 := by simpa using e7
        exact (ends_false h0 (by simp [M.endsOk, e7])).symm
      · exact tail ⟨by simpa using e6, by simpa using e7⟩
    · have e5 : 0 < k := by simp at e5; omega
      exact tail (g2 e5)
  · obtain ⟨g1, g2, g3⟩ := hF
    refine bcase_f (by simp) ?_
    rw [List.take_length] at g1
    rcases Nat.eq_zero_or_pos x.Frames.length with h0 | h0
    · have : x.Frames = [] := List.eq_nil_of_length_eq_zero h0
      rw [this]; rfl
    · have hne : x.Frames.isEmpty = false := by simpa using List.length_pos_iff.1 h0
      obtain ⟨a1, a2⟩ := g2 h0
      obtain ⟨b1, b2⟩ := g3 rfl h0
      have : M.endsOk x.Frames p.length = true := by simp [M.endsOk, h24, a1, a2, b1, b2]
      simp [M.areFrames, g1, this]
theorem warps_from (p : List D.Ins) (l : List D.Warp) (k : Nat) (hk : k < l.length) : M.warpsOk p k (l.drop k) = (M.warpAt p k (rd l (k : Int)) && M.warpsOk p (k + 1) (l.drop (k + 1))) := by
  rw [List.drop_eq_getElem_cons hk, rd_nat hk]; rfl
theorem warps_loop {p : List D.Ins} {l : List D.Warp} (hl : M.Long l) {B : (Int × Unit) → ((Int × Unit) → Prop) → Prop}
    (hb : ∀ (k : Nat) (next : (Int × Unit) → Prop), k < l.length → (M.warpAt p k (rd l (k : Int)) = false → false = M.warpsOk p 0 l) → (M.warpAt p k (rd l (k : Int)) = true → next (((k + 1 : Nat) : Int), ())) → B ((k : Int), ()) next)
    (he : ∀ (next : (Int × Unit) → Prop), true = M.warpsOk p 0 l → B ((l.length : Int), ()) next) : LoopP B (0, ()) := by
  refine loop_n l.length (fun k => ((k : Int), ())) (fun k => M.warpsOk p 0 l = M.warpsOk p k (l.drop k)) rfl rfl (fun k hk hF next hn => ?_) fun hF next => ?_
  · rw [warps_from p l k hk] at hF
    refine hb k next hk (fun e => by rw [hF, e]; rfl) fun e => hn (by rw [hF, e]; rfl)
  · refine he next ?_
    rw [hF, List.drop_length]; rfl
theorem wp.spec_BlockOk.math (b : D.Block) (h : M.spec_BlockOk_pre b) : wp.spec_BlockOk b (fun r => r = M.spec_BlockOk b) := by
  obtain ⟨h1, ⟨h2, hW⟩, h3⟩ := h
  unfold wp.spec_BlockOk
  simp only [lenB]
  refine ⟨h1, fun r hr => bcase_mk (fun e => ?_) fun e r2 hr2 => bcase_mk (fun e2 => ?_) fun e2 => bcase_mk (fun e3 => ?_) fun e3 => ⟨h3, fun r4 hr4 => bcase_mk (fun e4 => ?_) fun e4 => ⟨by omega, fun r5 hr5 => bcase_mk (fun e5 => ?_) fun e5 r6 hr6 => bcase_mk (fun e6 => ?_) fun e6 => ?_⟩⟩⟩
  all_goals try simp only [M.spec_ProgramOk, M.spec_l01In, M.spec_AreWords] at *
  all_goals simp only [M.spec_BlockOk, M.blockOk, M.impl_isMemory]
  · rw [nt e hr]; rfl
  · rw [nt e2 hr2]; simp
  · have : (b.Memory.length == 32) = false := by simpa using e3
    rw [this]; simp
  · rw [nt e4 hr4]; simp
  · have := nt e5 hr5
    unfold M.waitTop; rw [this]; simp
  · rw [nt e6 hr6]; simp
  have h32 : (b.Memory.length == 32) = true := by simpa using e3
  have h5 := nf e5 hr5
  have hp := nf e hr
  unfold M.waitTop
  rw [hp, nf e2 hr2, nf e4 hr4, h32, h5, nf e6 hr6]
  simp only [Bool.true_and]
  refine warps_loop h2 (fun k next hk g1 g2 => ?_) fun next hh => bcase_f (by simp) hh
  refine bcase_t (by simp; omega) ⟨by omega, ⟨h1, hW _ (rd_mem hk)⟩, fun r hr => bcase_mk (fun e => ?_) fun e => ⟨by omega, bcase_mk (fun e2 => ?_) fun e2 => ?_⟩⟩
  all_goals simp only [M.spec_WarpOk, hp, Bool.true_and] at *
  · exact g1 (by simp [M.warpAt, nt e hr])
  · have e2 : (rd b.Warps (k : Int)).Number ≠ (k : Int) := by simpa using e2
    exact g1 (by simp [M.warpAt, e2])
  · have e2 : (rd b.Warps (k : Int)).Number = (k : Int) := by simpa using e2
    rw [up64 hk h2]; exact g2 (by simp [M.warpAt, e2, nf e hr])
theorem wp.impl_BlockOk.math (b : D.Block) (h : M.impl_BlockOk_pre b) : wp.impl_BlockOk b (fun r => r = M.impl_BlockOk b) := by
  obtain ⟨h1, ⟨h2, hW⟩, h3⟩ := h
  refine ⟨h1, fun r hr => bcase_mk (fun e => ?_) fun e r2 hr2 => bcase_mk (fun e2 => ?_) fun e2 => ⟨h3, fun r4 hr4 => bcase_mk (fun e4 => ?_) fun e4 => ⟨by omega, fun r5 hr5 => bcase_mk (fun e5 => ?_) fun e5 r6 hr6 => bcase_mk (fun e6 => ?_) fun e6 => ?_⟩⟩⟩
  all_goals simp only [M.impl_ProgramOk, M.impl_isWarpCount, M.impl_within] at *
  all_goals simp only [M.impl_BlockOk, M.blockOk]
  · rw [nt e hr]; rfl
  · rw [nt e2 hr2]; simp
  · rw [nt e4 hr4]; simp
  · have := nt e5 hr5
    unfold M.waitTop; rw [this]; simp
  · rw [nt e6 hr6]; simp
  have h5 := nf e5 hr5
  unfold M.waitTop
  rw [nf e hr, nf e2 hr2, nf e4 hr4, h5, nf e6 hr6]
  simp only [Bool.true_and]
  refine warps_loop h2 (fun k next hk g1 g2 => ?_) fun next hh => bcase_f (by simp) hh
  refine bcase_t (by simp; omega) ⟨by omega, bcase_mk (fun e2 => ?_) fun e2 => ⟨hW _ (rd_mem hk), fun r hr => bcase_mk (fun e => ?_) fun e => ?_⟩⟩
  all_goals simp only [M.impl_isWarpOf] at *
  · have e2 : (rd b.Warps (k : Int)).Number ≠ (k : Int) := by simpa using e2
    exact g1 (by simp [M.warpAt, e2])
  · exact g1 (by simp [M.warpAt, nt e hr])
  · have e2 : (rd b.Warps (k : Int)).Number = (k : Int) := by simpa using e2
    rw [up64 hk h2]; exact g2 (by simp [M.warpAt, e2, nf e hr])
theorem wp.spec_l30Ok.math (b : D.Block) (w : Int) (h : M.spec_l30Ok_pre b w) : wp.spec_l30Ok b w (fun r => r = M.spec_l30Ok b w) := by
  refine ⟨h, fun r hr => bcase_mk (fun e r2 hr2 => ?_) fun e => ?_⟩
  all_goals simp only [M.spec_BlockOk, M.spec_l01In, M.spec_l30Ok, M.hasWarp] at *
  · rw [hr2, ← hr, e]; rfl
  · rw [← hr, e]; rfl
theorem wp.impl_hasWarp.math (b : D.Block) (w : Int) (h : M.impl_hasWarp_pre b w) : wp.impl_hasWarp b w (fun r => r = M.impl_hasWarp b w) := by
  refine ⟨h, fun r hr => bcase_mk (fun e r2 hr2 => ?_) fun e => ?_⟩
  all_goals simp only [M.impl_BlockOk, M.impl_within, M.impl_hasWarp, M.hasWarp] at *
  · rw [hr2, ← hr, e]; rfl
  · rw [← hr, e]; rfl
theorem wp.impl_Block_waits.math (b : D.Block) (w : Int) (h : M.impl_Block_waits_pre b w) : wp.impl_Block_waits b w (fun r => r = M.impl_Block_waits b w) := ⟨h, rfl⟩
theorem has_in {b : D.Block} {w : Int} (hb : M.Long b.Warps) (h : M.hasWarp b w = true) : 0 ≤ w ∧ w < ((b.Warps.length : Nat) : Int) ∧ M.blockOk b = true := by
  have hl : b.Warps.length ≤ 9223372036854775807 := hb
  simp only [M.hasWarp, Bool.and_eq_true, M.isIn, decide_eq_true_eq, last_wrap hl] at h
  exact ⟨h.2.1, by omega, h.1⟩
theorem wp.spec_IsWaiting.math (b : D.Block) (w : Int) (h : M.spec_IsWaiting_pre b w) : wp.spec_IsWaiting b w (fun r => r = M.spec_IsWaiting b w) := by
  refine ⟨h, fun r hr => bcase_mk (fun e => ⟨?_, ?_⟩) fun e => ?_⟩
  · exact (has_in h.2.1.1 (hr.symm.trans e)).1
  · have : M.hasWarp b w = true := hr.symm.trans e
    simp only [M.spec_IsWaiting, M.isWaiting, this, M.waits, Bool.true_and]
  · have : M.hasWarp b w = false := hr.symm.trans e
    simp only [M.spec_IsWaiting, M.isWaiting, this, Bool.false_and]
theorem wp.impl_IsWaiting.math (b : D.Block) (w : Int) (h : M.impl_IsWaiting_pre b w) : wp.impl_IsWaiting b w (fun r => r = M.impl_IsWaiting b w) := by
  refine ⟨h, fun r hr => bcase_mk (fun e => ⟨?_, fun r2 hr2 => ?_⟩) fun e => ?_⟩
  · exact (has_in h.2.1.1 (hr.symm.trans e)).1
  · have : M.hasWarp b w = true := hr.symm.trans e
    rw [hr2]
    simp only [M.impl_IsWaiting, M.isWaiting, this, M.impl_Block_waits, Bool.true_and]
  · have : M.hasWarp b w = false := hr.symm.trans e
    simp only [M.impl_IsWaiting, M.isWaiting, this, Bool.false_and]
theorem small_long {b : D.Block} (h : M.BSmall b) : M.BLong b := by
  obtain ⟨h1, ⟨h2, h3⟩, h4⟩ := h
  unfold M.BLong M.WsLong M.WLong M.Long
  exact ⟨by omega, ⟨by omega, fun x hx => by have := h3 x hx; unfold M.WSmall at this; omega⟩, by omega⟩
theorem sz_small {b : D.Block} {r : Int} (hr : r = M.laws_szBlock b 1048576) (e : decide (r < 0) = false) : M.BSmall b ∧ M.BLong b := by
  have hb := (szB_le (b := b) (x := 1048576) (by unfold M.Left; omega) (by rw [← hr]; simpa using e)).2
  exact ⟨hb, small_long hb⟩
theorem wp.laws_FnExactBlockOk.math (b : D.Block) (h : M.laws_FnExactBlockOk_pre b) : wp.laws_FnExactBlockOk b (fun r => r = M.laws_FnExactBlockOk b) := by
  refine ⟨⟨by unfold M.Left; omega, h⟩, fun r hr => bcase_mk (fun _ => rfl) fun e => ?_⟩
  obtain ⟨hs, hl⟩ := sz_small hr e
  simp only [M.laws_toBlock, forall_eq, M.spec_BlockOk, M.impl_BlockOk, M.laws_eqBlock, beq_self_eq_true, bne_self_eq_false, Bool.not_true, bcase]
  exact ⟨hs, hl, hs, hl, hs, hl, rfl⟩
theorem wp.laws_FnExactIsWaiting.math (b : D.Block) (w : Int) (h : M.laws_FnExactIsWaiting_pre b w) : wp.laws_FnExactIsWaiting b w (fun r => r = M.laws_FnExactIsWaiting b w) := by
  refine ⟨⟨by unfold M.Left; omega, h⟩, fun r hr => bcase_mk (fun _ => rfl) fun e => ?_⟩
  obtain ⟨hs, hl⟩ := sz_small hr e
  simp only [M.laws_toBlock, forall_eq, M.spec_IsWaiting, M.impl_IsWaiting, M.laws_eqBlock, beq_self_eq_true, bne_self_eq_false, Bool.not_true, bcase]
  exact ⟨hs, hl, hs, hl, hs, hl, rfl⟩
end Go.V
