import Derived.Test.YtkacokecjojkoaaGreatKWrMath1
set_option linter.unusedVariables false
set_option linter.unusedSimpArgs false
set_option maxRecDepth 20000
namespace Go.V
theorem fits_cut {i : D.Ins} {n : Int} {r : List Int} {k : Nat} (h : M.insOk i n = true) (hr : r.length = 32) (hk : k < 8) : M.Fits i (M.laneCut r k) := ⟨laneCut_len hr hk, n, h⟩
theorem wp.impl_Warp_advance.math (x : D.Warp) (p : List D.Ins) (h : M.impl_Warp_advance_pre x p) : wp.impl_Warp_advance x p (fun r => r = M.impl_Warp_advance x p) := by
  obtain ⟨t1, t2, t3, t4, t5, t6, t7, t8, t9⟩ := runs_top h
  have hx := h.2.2
  unfold wp.impl_Warp_advance
  rw [last_wrap (by omega)]
  refine ⟨by omega, ⟨t5, t6⟩, fun ls hls => ?_⟩
  have hls : ls = M.lanesOf (M.lastF x.Frames).Mask := hls
  have hmem : ∀ k ∈ ls, 0 ≤ k ∧ k ≤ 7 := fun k hk => lanes_in (m := (M.lastF x.Frames).Mask) (hls ▸ hk)
  have hlen : ls.length ≤ 8 := by rw [hls]; exact lanes_len _
  let G : Nat → List Int := fun k => (ls.take k).foldl (stepL (M.topIns p x) x.Number) x.Regs
  have hG : ∀ k, (G k).length = 32 := fun k => fold_len _ _ t4 fun j hj => hmem j (List.mem_of_mem_take hj)
  refine loop_n ls.length (fun k => ((k : Int), G k, ())) (fun _ => True) rfl trivial (fun k hk _ next hn => ?_) fun _ next => ?_
  · have hn := hn trivial
    have hm := hmem _ (rd_mem hk)
    have hGk := hG k
    have hnext : G (k + 1) = stepL (M.topIns p x) x.Number (G k) (rd ls (k : Int)) := by
      simp only [G]
      rw [List.take_add_one, List.getElem?_eq_getElem hk, Option.toList_some, List.foldl_append, ← rd_nat hk]
      rfl
    rw [hnext] at hn
    dsimp only
    generalize rd ls (k : Int) = l at *
    generalize G k = g at *
    have a1 : IntKind.wrap .i64 (l * 4) = l * 4 := w64 (by omega) (by omega)
    have a2 : IntKind.wrap .i64 ((IntKind.wrap .i64 (l + 1)) * 4) = l * 4 + 4 := by rw [w64 (x := l + 1) (by omega) (by omega), w64 (by omega) (by omega)]; omega
    have a3 : IntKind.wrap .i64 ((IntKind.wrap .i64 (x.Number * 8)) + l) = x.Number * 8 + l := by rw [w64 (x := x.Number * 8) (by omega) (by omega), w64 (by omega) (by omega)]
    rw [a1, a2, a3, up64 hk (by omega)]
    refine bcase_t (by simp; omega) ⟨by omega, ⟨hGk, hm⟩, ⟨?_, by omega, by omega⟩, fun r2 hr2 => ?_⟩
    · have := fits_cut (k := l.toNat) t7 hGk (by omega)
      unfold M.laneCut at this
      rw [show l.toNat * 4 + 4 = (l * 4 + 4).toNat by omega, show l.toNat * 4 = (l * 4).toNat by omega] at this
      exact this
    · rw [hr2]; exact hn
  · have hall : G ls.length = M.applyAll (M.topIns p x) x.Number (M.lastF x.Frames).Mask x.Regs := by
      simp only [G]
      rw [List.take_length, applyAll_fold t4, hls]
    dsimp only
    rw [hall]
    refine bcase_f (by simp) ?_
    have e1 : (((x.Frames.length : Nat) : Int) - 1).toNat = x.Frames.length - 1 := by omega
    have fin : ∀ pc, pc = M.turnPc p x → (⟨x.Number, x.Frames.set (((x.Frames.length : Nat) : Int) - 1).toNat ⟨pc, (M.lastF x.Frames).Stop, (M.lastF x.Frames).Mask⟩, M.applyAll (M.topIns p x) x.Number (M.lastF x.Frames).Mask x.Regs⟩ : D.Warp) = M.impl_Warp_advance x p := by
      rintro _ rfl
      unfold M.impl_Warp_advance M.advance M.setTop
      rw [e1]
    show bcase ((M.topIns p x).Op == 12) _ (bcase ((M.topIns p x).Op == 11) (bcase true _ _) (bcase ((M.topIns p x).Op == 10) _ (bcase false _ _)))
    refine bcase_mk (fun c1 => fin _ ?_) fun c1 => bcase_mk (fun c2 => bcase_t rfl (fin _ ?_)) fun c2 => bcase_mk (fun c3 => ⟨?_, fun z hz => ?_⟩) fun c3 => bcase_f rfl (fin _ ?_)
    · have c1 : (M.topIns p x).Op = 12 := by simpa using c1
      simp [M.turnPc, c1]
    · have c2 : (M.topIns p x).Op = 11 := by simpa using c2
      simp only [M.turnPc, c2]
      rfl
    · have c3 : (M.topIns p x).Op = 10 := by simpa using c3
      exact ⟨by show x.Frames.length ≤ 9223372036854775807; omega, applyAll_len t4, zero_reg t7 c3⟩
    · have c3 : (M.topIns p x).Op = 10 := by simpa using c3
      have hz : z = M.zeroMask x (M.topIns p x).A := by
        rw [hz, applyAll_branch t4 c3]; rfl
      show bcase (z == (M.lastF x.Frames).Mask) _ _
      rw [hz]
      refine bcase_mk (fun c4 => fin _ ?_) fun c4 => fin _ ?_
      · have c4 : M.zeroMask x (M.topIns p x).A = (M.lastF x.Frames).Mask := by simpa using c4
        unfold M.turnPc
        rw [if_neg (by omega), if_neg (by omega), if_pos ⟨c3, c4⟩]; rfl
      · have c4 : ¬ M.zeroMask x (M.topIns p x).A = (M.lastF x.Frames).Mask := by simpa using c4
        unfold M.turnPc
        rw [if_neg (by omega), if_neg (by omega), if_neg (fun hc => c4 hc.2)]
        exact w64 (x := M.topPc x + 1) (by omega) (by omega)
    · have c1 : ¬ (M.topIns p x).Op = 12 := by simpa using c1
      have c2 : ¬ (M.topIns p x).Op = 11 := by simpa using c2
      have c3 : ¬ (M.topIns p x).Op = 10 := by simpa using c3
      unfold M.turnPc
      rw [if_neg c1, if_neg c2, if_neg (fun hc => c3 hc.1)]
      exact w64 (x := M.topPc x + 1) (by omega) (by omega)
theorem has_branches {p : List D.Ins} {b : Int} (h : M.Branch p b) : M.has (M.branches p) b = true := by
  unfold M.has M.branches
  rw [if_pos h.1, List.any_eq_true]
  exact ⟨b, mem_idx.2 ⟨b.toNat, by have := h.2.2.1; have := h.2.1; omega, by have := h.2.1; omega, h.2.2.2⟩, by simp⟩
theorem wp.impl_Warp_separate.math (x : D.Warp) (p : List D.Ins) (h : M.impl_Warp_separate_pre x p) : wp.impl_Warp_separate x p (fun r => r = M.impl_Warp_separate x p) := by
  obtain ⟨hr, hs⟩ := h
  obtain ⟨t1, t2, t3, t4, t5, t6, t7, t8, t9⟩ := runs_top hr
  have hb := split_branch hr hs
  unfold wp.impl_Warp_separate
  rw [last_wrap (by omega), w64 (x := ((x.Frames.length : Nat) : Int) + 2) (by omega) (by omega)]
  refine bcase_mk (fun e => ?_) fun e => ⟨by omega, ⟨t5, t6⟩, ⟨by show x.Frames.length ≤ 9223372036854775807; omega, t4, zero_reg t7 hs.1⟩, fun z hz => ⟨prog_small hr.1, fun j hj => ⟨⟨t5, t6⟩, ?_⟩⟩⟩
  · have e : ¬ x.Frames.length ≤ 22 := by have := of_decide_eq_true e; omega
    unfold M.impl_Warp_separate
    rw [if_neg e]
  · have e : x.Frames.length ≤ 22 := by have := of_decide_eq_false e; omega
    have hj : j = M.joinB p (M.topPc x) := by
      rw [hj]
      show M.joinOf p (M.topPc x) = _
      unfold M.joinOf
      rw [if_pos (has_branches hb)]
    have hw : IntKind.wrap .i64 (M.topPc x + 1) = M.topPc x + 1 := w64 (by omega) (by omega)
    have key : ∀ y, y = M.separated p x → (true, y) = M.impl_Warp_separate x p := by
      rintro _ rfl
      unfold M.impl_Warp_separate
      rw [if_pos e]
    have e1 : (((x.Frames.length : Nat) : Int) - 1).toNat = x.Frames.length - 1 := by omega
    have fin : (true, (⟨x.Number, (x.Frames.set (((x.Frames.length : Nat) : Int) - 1).toNat ⟨j, (M.lastF x.Frames).Stop, (M.lastF x.Frames).Mask⟩) ++ [⟨IntKind.wrap .i64 (M.topPc x + 1), j, bitNot .i64 (M.lastF x.Frames).Mask z⟩, ⟨(M.topIns p x).B, j, z⟩], x.Regs⟩ : D.Warp)) = M.impl_Warp_separate x p := by
      refine key _ ?_
      rw [hw, hj, hz, e1]; rfl
    have hle : (x.Frames.set (((x.Frames.length : Nat) : Int) - 1).toNat ⟨j, (M.lastF x.Frames).Stop, (M.lastF x.Frames).Mask⟩).length + 2 ≤ 17179869184 := by rw [List.length_set]; omega
    exact ⟨⟨hle, fin⟩, ⟨⟨hle, fin⟩, ⟨hle, fin⟩, trivial⟩, trivial⟩
end Go.V
set_option linter.unusedVariables false
set_option linter.unusedSimpArgs false
set_option maxRecDepth 20000
namespace Go.V
def putSome (r x : List Int) (l j : Nat) : List Int := r.take (l * 4) ++ x.take j ++ r.drop (l * 4 + j)
theorem putSome_len {r x : List Int} {l j : Nat} (h : r.length = 32) (hl : l < 8) (hx : x.length = 4) (hj : j ≤ 4) : (putSome r x l j).length = 32 := by unfold putSome; simp; omega
theorem putSome_get {r x : List Int} {l j : Nat} (h : r.length = 32) (hl : l < 8) (hx : x.length = 4) (hj : j ≤ 4) (i : Nat) : (putSome r x l j)[i]? = if l * 4 ≤ i ∧ i < l * 4 + j then x[i - l * 4]? else r[i]? := by
  unfold putSome
  rw [List.getElem?_append, List.length_append, List.length_take, List.length_take, hx, Nat.min_eq_left (by omega), Nat.min_eq_left hj, List.getElem?_append, List.length_take, Nat.min_eq_left (by omega)]
  by_cases h1 : i < l * 4
  · rw [if_pos (by omega), if_pos h1, if_neg (by omega), List.getElem?_take, if_pos h1]
  · by_cases h2 : i < l * 4 + j
    · rw [if_pos h2, if_neg h1, if_pos (by omega), List.getElem?_take, if_pos (by omega)]
    · rw [if_neg h2, if_neg (by omega), List.getElem?_drop]
      congr 1; omega
theorem putSome_zero (r x : List Int) (l : Nat) : putSome r x l 0 = r := by unfold putSome; simp
theorem putSome_all {r x : List Int} {l : Nat} (hx : x.length = 4) : putSome r x l 4 = M.putLane r l x := by unfold putSome M.putLane; rw [List.take_of_length_le (l := x) (by omega)]
theorem putSome_set {r x : List Int} {l j : Nat} (h : r.length = 32) (hl : l < 8) (hx : x.length = 4) (hj : j < 4) : (putSome r x l j).set (l * 4 + j) (rd x (j : Int)) = putSome r x l (j + 1) := by
  apply List.ext_getElem?
  intro i
  rw [putSome_get h hl hx (by omega)]
  by_cases e : l * 4 + j = i
  · subst e
    rw [List.getElem?_set_self (by rw [putSome_len h hl hx (by omega)]; omega), if_pos (by omega), show l * 4 + j - l * 4 = j by omega, rd_nat (by omega), List.getElem?_eq_getElem (by omega)]
  · rw [List.getElem?_set_ne e, putSome_get h hl hx (by omega)]
    by_cases h1 : l * 4 ≤ i ∧ i < l * 4 + j
    · rw [if_pos h1, if_pos (by omega)]
    · rw [if_neg h1, if_neg (by omega)]
theorem wp.spec_l13Apply.math (p : List D.Ins) (x : D.Warp) (h : M.spec_l13Apply_pre p x) : wp.spec_l13Apply p x (fun r => r = M.spec_l13Apply p x) := by
  obtain ⟨t1, t2, t3, t4, t5, t6, t7, t8, t9⟩ := runs_top h
  unfold wp.spec_l13Apply
  rw [last_wrap (by omega), List.nil_append]
  refine ⟨by simp; omega, by omega, ?_⟩
  let G : Nat → List Int := M.applyTo (M.topIns p x) x.Number (M.lastF x.Frames).Mask x.Regs
  have hG : ∀ k, k ≤ 8 → (G k).length = 32 := fun k hk => applyTo_len t4 k hk
  refine loop_n 8 (fun k => ((k : Int), G k, ())) (fun _ => True) rfl trivial (fun k hk _ next hn => ?_) fun _ next => bcase_f (by simp) rfl
  have hn := hn trivial
  have hGk := hG k (by omega)
  have hnext : G (k + 1) = if M.hasLane (M.lastF x.Frames).Mask (k : Int) then M.putLane (G k) k (M.apply (M.topIns p x) (x.Number * 8 + (k : Int)) (M.laneCut x.Regs k)) else G k := rfl
  rw [hnext] at hn
  dsimp only
  generalize G k = g at *
  refine bcase_t (by simp; omega) fun b hb => ?_
  have hb : b = M.hasLane (M.lastF x.Frames).Mask (k : Int) := hb
  have a1 : IntKind.wrap .i64 ((k : Int) * 4) = (k : Int) * 4 := w64 (by omega) (by omega)
  have a2 : IntKind.wrap .i64 ((IntKind.wrap .i64 ((k : Int) + 1)) * 4) = (k : Int) * 4 + 4 := by rw [w64 (x := (k : Int) + 1) (by omega) (by omega), w64 (by omega) (by omega)]; omega
  have a3 : IntKind.wrap .i64 ((IntKind.wrap .i64 (x.Number * 8)) + (k : Int)) = x.Number * 8 + (k : Int) := by rw [w64 (x := x.Number * 8) (by omega) (by omega), w64 (by omega) (by omega)]
  refine bcase_mk (fun e => ?_) fun e => ?_
  · rw [if_pos (hb.symm.trans e)] at hn
    rw [a1, a2, a3, t4, show ((k : Int) * 4 + 4).toNat = k * 4 + 4 by omega, show ((k : Int) * 4).toNat = k * 4 by omega]
    refine ⟨⟨t5, t6⟩, ⟨by omega, by omega, by omega, by omega⟩, fits_cut t7 t4 hk, fun y hy => ?_⟩
    have hy : y = M.apply (M.topIns p x) (x.Number * 8 + (k : Int)) (M.laneCut x.Regs k) := hy
    have hyl : y.length = 4 := by rw [hy, apply_len, laneCut_len t4 hk]
    rw [← hy] at hn
    refine loop_n 4 (fun j => ((j : Int), putSome g y k j, ())) (fun _ => True) (by rw [putSome_zero]; rfl) trivial (fun j hj _ next2 hn2 => ?_) fun _ next2 => ?_
    · have hn2 := hn2 trivial
      rw [← putSome_set hGk hk hyl hj] at hn2
      dsimp only
      have a4 : IntKind.wrap .i64 ((k : Int) * 4 + (j : Int)) = (k : Int) * 4 + (j : Int) := w64 (by omega) (by omega)
      rw [a4, hyl, putSome_len hGk hk hyl (by omega), show ((k : Int) * 4 + (j : Int)).toNat = k * 4 + j by omega, up64 (n := 4) hj (by omega)]
      exact bcase_t (by simp; omega) ⟨by omega, by omega, hn2⟩
    · dsimp only
      rw [putSome_all hyl, up64 (n := 8) hk (by omega)]
      exact bcase_f (by simp) hn
  · rw [if_neg (by rw [← hb, e]; simp)] at hn
    rw [up64 (n := 8) hk (by omega)]
    exact hn
theorem wp.spec_l13Step.math (p : List D.Ins) (x : D.Warp) (h : M.spec_l13Step_pre p x) : wp.spec_l13Step p x (fun r => r = M.spec_l13Step p x) := by
  obtain ⟨hr, hl⟩ := h
  obtain ⟨t1, t2, t3, t4, t5, t6, t7, t8, t9⟩ := runs_top hr
  obtain ⟨f1, f2, f3, f4, f5, f6⟩ := runs_frames hr
  have hx := hr.2.2
  unfold wp.spec_l13Step
  rw [last_wrap (by omega)]
  refine ⟨⟨by omega, by omega⟩, fun y hy => ?_⟩
  have hy : y = x := hy
  subst hy
  have e1 : (((y.Frames.length : Nat) : Int) - 1).toNat = y.Frames.length - 1 := by omega
  refine ⟨by omega, ⟨t5, t6⟩, hr, fun s hs => ?_⟩
  have hs : s = M.splits p y := hs
  have hw : IntKind.wrap .i64 (M.topPc y + 1) = M.topPc y + 1 := w64 (by omega) (by omega)
  refine bcase_mk (fun e => ⟨by show y.Frames.length ≤ 9223372036854775807; omega, fun z hz => ?_⟩) fun e => ⟨hr, fun rg hrg => ?_⟩
  · have hsp := hs.symm.trans e
    obtain ⟨hsp', hz0, hzm⟩ := splits_iff hsp
    have hb := split_branch hr hsp'
    have hz : z = M.zeroMask y (M.topIns p y).A := by
      have hz : z = M.spec_ZeroMask y (M.topIns p y).A := hz
      rw [hz]
      unfold M.spec_ZeroMask
      rw [if_pos (by rw [zero_reg t7 hsp'.1, t4]; rfl)]
    have hact : M.activeMask y = (M.lastF y.Frames).Mask := activeMask_top hx
    obtain ⟨m1, m2, m3⟩ := mask_part (x := y) (reg := (M.topIns p y).A) (by rw [hact]; exact f5)
    rw [hact] at m2 m3
    have hm : IntKind.wrap .i64 ((M.lastF y.Frames).Mask - z) = bitNot .i64 (M.lastF y.Frames).Mask (M.zeroMask y (M.topIns p y).A) := by
      rw [m2, hz]
      simp only [M.isMask, M.isIn, Bool.and_eq_true, decide_eq_true_eq] at m3
      exact w64 (by omega) (by omega)
    refine ⟨hb, fun j hj => ⟨by omega, ⟨by simp; omega, ⟨by refine ⟨?_, ?_⟩ <;> simp <;> omega, fun d hd => ?_⟩⟩⟩⟩
    have hj : j = M.joinB p (M.topPc y) := hj
    have hd : d = M.dropW (M.separated p y) p.length := by
      rw [hd]
      show M.dropW _ _ = M.dropW _ _
      congr 1
      unfold M.separated M.setTop
      rw [← hm, ← hj, ← hz, e1, ← hw]; rfl
    show d = M.stepW p y
    unfold M.stepW
    rw [if_pos hsp]; exact hd
  · have hns : ¬ M.splits p y = true := by rw [← hs, e]; simp
    have hrg : rg = M.applyAll (M.topIns p y) y.Number (M.lastF y.Frames).Mask y.Regs := hrg
    have hfit : ∀ pc, M.WFit ⟨y.Number, y.Frames.set (((y.Frames.length : Nat) : Int) - 1).toNat ⟨pc, (M.lastF y.Frames).Stop, (M.lastF y.Frames).Mask⟩, rg⟩ := fun pc => by
      refine ⟨?_, ?_⟩
      · show (y.Frames.set _ _).length ≤ _
        rw [List.length_set]; omega
      · show rg.length ≤ _
        rw [hrg, applyAll_len t4]; omega
    have fin : ∀ pc, pc = M.turnPc p y → ∀ d, d = M.spec_DropFrames p ⟨y.Number, y.Frames.set (((y.Frames.length : Nat) : Int) - 1).toNat ⟨pc, (M.lastF y.Frames).Stop, (M.lastF y.Frames).Mask⟩, rg⟩ → d = M.stepW p y := by
      rintro _ rfl d hd
      rw [hd, hrg]
      show M.dropW _ _ = _
      unfold M.stepW
      rw [if_neg hns, e1]; rfl
    show bcase ((M.topIns p y).Op == 12) _ (bcase ((M.topIns p y).Op == 11) _ (_ ∧ bcase ((M.topIns p y).Op == 10) _ (bcase false _ _)))
    refine bcase_mk (fun c1 => ⟨by omega, hfit _, fun d hd => fin _ ?_ d hd⟩) fun c1 => bcase_mk (fun c2 => ⟨by omega, hfit _, fun d hd => fin _ ?_ d hd⟩) fun c2 => ⟨by omega, bcase_mk (fun c3 => ⟨by show y.Frames.length ≤ 9223372036854775807; omega, fun z hz => ?_⟩) fun c3 => bcase_f rfl ⟨hfit _, fun d hd => fin _ ?_ d hd⟩⟩
    · have c1 : (M.topIns p y).Op = 12 := by simpa using c1
      simp [M.turnPc, c1]
    · have c2 : (M.topIns p y).Op = 11 := by simpa using c2
      simp only [M.turnPc, c2]
      rfl
    · have c3 : (M.topIns p y).Op = 10 := by simpa using c3
      have hz : z = M.zeroMask y (M.topIns p y).A := by
        have hz : z = M.spec_ZeroMask y (M.topIns p y).A := hz
        rw [hz]
        unfold M.spec_ZeroMask
        rw [if_pos (by rw [zero_reg t7 c3, t4]; rfl)]
      show bcase (z == (M.lastF y.Frames).Mask) _ _
      rw [hz]
      refine bcase_mk (fun c4 => ⟨by rw [List.length_set]; omega, hfit _, fun d hd => fin _ ?_ d hd⟩) fun c4 => ⟨hfit _, fun d hd => fin _ ?_ d hd⟩
      · have c4 : M.zeroMask y (M.topIns p y).A = (M.lastF y.Frames).Mask := by simpa using c4
        unfold M.turnPc
        rw [if_neg (by omega), if_neg (by omega), if_pos ⟨c3, c4⟩]; rfl
      · have c4 : ¬ M.zeroMask y (M.topIns p y).A = (M.lastF y.Frames).Mask := by simpa using c4
        unfold M.turnPc
        rw [if_neg (by omega), if_neg (by omega), if_neg (fun hc => c4 hc.2)]
        exact hw
    · have c1 : ¬ (M.topIns p y).Op = 12 := by simpa using c1
      have c2 : ¬ (M.topIns p y).Op = 11 := by simpa using c2
      have c3 : ¬ (M.topIns p y).Op = 10 := by simpa using c3
      unfold M.turnPc
      rw [if_neg c1, if_neg c2, if_neg (fun hc => c3 hc.1)]
      exact hw
end Go.V
set_option linter.unusedVariables false
set_option linter.unusedSimpArgs false
set_option maxRecDepth 20000
namespace Go.V
theorem goes_of {p : List D.Ins} {x : D.Warp} (h : M.Fine p x) (hl : M.spec_l13Local p x = true) : M.Goes p x := by
  refine ⟨⟨h.1, h.2, ?_⟩, hl⟩
  simp only [M.spec_l13Local, Bool.and_eq_true] at hl
  intro e
  rw [e] at hl
  simp at hl
theorem wp.impl_Warp_pass.math (x : D.Warp) (p : List D.Ins) (h : M.impl_Warp_pass_pre x p) : wp.impl_Warp_pass x p (fun r => r = M.impl_Warp_pass x p) := by
  obtain ⟨hp, hw⟩ := h
  unfold wp.impl_Warp_pass
  rw [empty_len0]
  refine bcase_mk (fun e => ?_) fun e => ?_
  · have : M.spec_l13Local p x = false := by simp [M.spec_l13Local, e]
    unfold M.impl_Warp_pass
    rw [if_neg (by rw [this]; simp)]
  have hx : x.Frames ≠ [] := by simpa using e
  have hr : M.Runs p x := ⟨hp, hw, hx⟩
  obtain ⟨t1, t2, t3, t4, t5, t6, t7, t8, t9⟩ := runs_top hr
  rw [last_wrap (by omega)]
  have hl : ∀ b, M.isLocal (M.topIns p x) = b → M.spec_l13Local p x = (b && (!M.splits p x || decide (x.Frames.length ≤ 22))) := fun b hb => by
    simp only [M.spec_l13Local, hb, e, Bool.not_false, Bool.true_and]
  have no : M.spec_l13Local p x = false → (false, x) = M.impl_Warp_pass x p := fun hf => by
    unfold M.impl_Warp_pass
    rw [if_neg (by rw [hf]; simp)]
  have yes : M.spec_l13Local p x = true → ∀ y, y = M.stepW p x → (true, y) = M.impl_Warp_pass x p := fun hf y hy => by
    unfold M.impl_Warp_pass
    rw [if_pos hf, hy]
  refine ⟨by omega, ⟨t5, t6⟩, fun b hb => bcase_mk (fun c => no ?_) fun c => ⟨hr, fun s hs => bcase_mk (fun c2 => ⟨⟨hr, ?_⟩, fun q hq => ?_⟩) fun c2 => ⟨hr, fun q hq => ⟨?_, fun d hd => ?_⟩⟩⟩⟩
  · have c : b = false := by simpa using c
    rw [hl b hb.symm, c]; rfl
  · exact (splits_iff (hs.symm.trans c2)).1
  · have c : b = true := by simpa using c
    have hsp : M.splits p x = true := hs.symm.trans c2
    have hl' := hl b hb.symm
    rw [c, hsp] at hl'
    simp only [Bool.true_and, Bool.not_true, Bool.false_or] at hl'
    rw [hq]
    unfold M.impl_Warp_separate
    by_cases h22 : x.Frames.length ≤ 22
    · rw [decide_eq_true h22] at hl'
      rw [if_pos h22]
      refine bcase_f rfl ⟨?_, fun d hd => yes hl' _ ?_⟩
      · show (M.separated p x).Frames.length ≤ 9223372036854775807
        simp only [M.separated, M.setTop, List.length_append, List.length_set, List.length_cons, List.length_nil]; omega
      · rw [hd]
        unfold M.stepW
        rw [if_pos hsp]; rfl
    · rw [decide_eq_false h22] at hl'
      rw [if_neg h22]
      exact bcase_t rfl (no hl')
  · rw [hq]
    show (M.setTop x.Frames _).length ≤ 9223372036854775807
    simp only [M.setTop, List.length_set]; omega
  · have c : b = true := by simpa using c
    have hsp : M.splits p x = false := by rw [← show s = M.splits p x from hs, c2]
    have hl' := hl b hb.symm
    rw [c, hsp] at hl'
    refine yes hl' _ ?_
    rw [hd, hq]
    unfold M.stepW
    rw [if_neg (by rw [hsp]; simp)]; rfl
theorem wp.impl_WarpOk.math (p : List D.Ins) (x : D.Warp) (h : M.impl_WarpOk_pre p x) : wp.impl_WarpOk p x (fun r => r = M.impl_WarpOk p x) := by
  obtain ⟨h1, h2⟩ := h
  refine ⟨h1, fun b hb => bcase_mk (fun e => ⟨h2, fun c hc => ?_⟩) fun e => ?_⟩
  · have : M.programOk p = true := hb.symm.trans e
    rw [hc]
    show M.warpOf p x = _
    unfold M.impl_WarpOk M.spec_WarpOk
    rw [this, Bool.true_and]
  · have : M.programOk p = false := hb.symm.trans e
    unfold M.impl_WarpOk M.spec_WarpOk
    rw [this, Bool.false_and]
def RunI (p : List D.Ins) (x : D.Warp) (n k : Nat) : Prop := M.Fine p (M.wAt p x k) ∧ (k ≤ n → M.runW p n x 0 = M.runW p (n - k) (M.wAt p x k) (k : Int))
theorem runI_zero {p : List D.Ins} {x : D.Warp} (h : M.Fine p x) (n : Nat) : RunI p x n 0 := ⟨h, fun _ => rfl⟩
theorem runI_go {p : List D.Ins} {x : D.Warp} {n k : Nat} (h : RunI p x n k) (hk : k < n) (hl : M.spec_l13Local p (M.wAt p x k) = true) : RunI p x n (k + 1) := by
  refine ⟨stepW_fine (goes_of h.1 hl), fun _ => ?_⟩
  rw [h.2 (by omega), show n - k = (n - (k + 1)) + 1 by omega]
  simp only [M.runW]
  rw [if_pos hl]; rfl
theorem runI_stop {p : List D.Ins} {x : D.Warp} {n k : Nat} (h : RunI p x n k) (hk : k < n) (hl : M.spec_l13Local p (M.wAt p x k) = false) : M.runW p n x 0 = (M.wAt p x k, (k : Int)) := by
  rw [h.2 (by omega), show n - k = (n - (k + 1)) + 1 by omega]
  simp only [M.runW]
  rw [if_neg (by rw [hl]; simp)]
theorem runI_end {p : List D.Ins} {x : D.Warp} {n : Nat} (h : RunI p x n n) : M.runW p n x 0 = (M.wAt p x n, (n : Int)) := by
  rw [h.2 (Nat.le_refl _), Nat.sub_self]; rfl
theorem wp.spec_l14Run.math (p : List D.Ins) (x : D.Warp) (steps : Int) (h : M.spec_l14Run_pre p x steps) : wp.spec_l14Run p x steps (fun r => r = M.spec_l14Run p x steps) := by
  obtain ⟨hF, h0, h1⟩ := h
  obtain ⟨n, rfl⟩ := Int.eq_ofNat_of_zero_le h0
  unfold wp.spec_l14Run M.spec_l14Run
  rw [Int.toNat_natCast]
  refine loop_n n (fun k => ((k : Int), (M.wAt p x k).Number, (M.wAt p x k).Frames, (M.wAt p x k).Regs, ())) (RunI p x n) rfl (runI_zero hF n) (fun k hk hI next hn => ?_) fun hI next => bcase_f (by simp) (runI_end hI).symm
  dsimp only
  refine bcase_t (by simp; omega) ⟨hI.1, fun b hb => bcase_mk (fun e => ⟨goes_of hI.1 (hb.symm.trans e), fun y hy => ?_⟩) fun e => (runI_stop hI hk (hb.symm.trans e)).symm⟩
  have hn := hn (runI_go hI hk (hb.symm.trans e))
  rw [up64 hk (by omega), hy]
  exact hn
theorem wp.impl_RunWarp.math (p : List D.Ins) (x : D.Warp) (steps : Int) (h : M.impl_RunWarp_pre p x steps) : wp.impl_RunWarp p x steps (fun r => r = M.impl_RunWarp p x steps) := by
  obtain ⟨h1, h2⟩ := h
  have hWL : M.WLong x := ⟨Nat.le_trans h2.1 (by omega), Nat.le_trans h2.2 (by omega)⟩
  refine ⟨h2, fun y hy => ?_⟩
  have hy : y = x := hy
  subst hy
  have no : (M.isQuiet p && (M.spec_WarpOk p y && M.isIn steps 0 8000)) = false → (y, (-1 : Int)) = M.impl_RunWarp p y steps := fun hf => by
    unfold M.impl_RunWarp M.runWarp
    rw [if_neg (by rw [hf]; simp)]
  refine ⟨h1, fun a ha => bcase_mk (fun e => no ?_) fun e => ⟨⟨h1, hWL⟩, fun b hb => bcase_mk (fun e2 => no ?_) fun e2 => fun c hc => bcase_mk (fun e3 => no ?_) fun e3 => ?_⟩⟩
  · have : M.isQuiet p = false := by rw [← show a = M.isQuiet p from ha]; simpa using e
    rw [this]; rfl
  · have : M.spec_WarpOk p y = false := by rw [← show b = M.spec_WarpOk p y from hb]; simpa using e2
    rw [this, Bool.false_and, Bool.and_false]
  · have : M.isIn steps 0 8000 = false := by rw [← show c = M.isIn steps 0 8000 from hc]; simpa using e3
    rw [this, Bool.and_false, Bool.and_false]
  · have q1 : M.isQuiet p = true := by rw [← show a = M.isQuiet p from ha]; simpa using e
    have q2 : M.spec_WarpOk p y = true := by rw [← show b = M.spec_WarpOk p y from hb]; simpa using e2
    have q3 : M.isIn steps 0 8000 = true := by rw [← show c = M.isIn steps 0 8000 from hc]; simpa using e3
    have hF : M.Fine p y := by have := q2; simp only [M.spec_WarpOk, Bool.and_eq_true] at this; exact this
    have hM : M.impl_RunWarp p y steps = M.runW p steps.toNat y 0 := by
      unfold M.impl_RunWarp M.runWarp
      rw [if_pos (by rw [q1, q2, q3]; rfl)]
    rw [hM]
    simp only [M.isIn, Bool.and_eq_true, decide_eq_true_eq] at q3
    obtain ⟨n, rfl⟩ := Int.eq_ofNat_of_zero_le q3.1
    rw [Int.toNat_natCast]
    refine loop_n n (fun k => ((k : Int), (M.wAt p y k).Number, (M.wAt p y k).Frames, (M.wAt p y k).Regs, ())) (RunI p y n) rfl (runI_zero hF n) (fun k hk hI next hn => ?_) fun hI next => bcase_f (by simp) (runI_end hI).symm
    dsimp only
    refine bcase_t (by simp; omega) ⟨hI.1, fun r hr => ?_⟩
    rw [hr]
    unfold M.impl_Warp_pass
    cases hl : M.spec_l13Local p (M.wAt p y k) with
    | true =>
      have hn := hn (runI_go hI hk hl)
      rw [if_pos rfl, up64 hk (by omega)]
      exact bcase_t rfl hn
    | false =>
      rw [if_neg (by simp)]
      exact bcase_f rfl (runI_stop hI hk hl).symm
theorem quiet_prog {p : List D.Ins} (h : M.isQuiet p = true) : M.programOk p = true := by
  simp only [M.isQuiet, Bool.and_eq_true] at h; exact h.1
theorem newWarp_fine {p : List D.Ins} (hp : M.programOk p = true) {w : Int} (hw : M.isIn w 0 2 = true) : M.Fine p (M.newWarp p w) := by
  refine ⟨hp, ?_⟩
  have hz : (List.replicate 32 (0 : Int)).all M.isWord = true := by rfl
  unfold M.warpOf
  have hN : (M.newWarp p w).Number = w := rfl
  have hR : (M.newWarp p w).Regs = List.replicate 32 0 := rfl
  have hF : (M.newWarp p w).Frames = if p.length > 0 then [⟨0, p.length, 255⟩] else [] := rfl
  rw [hN, hR, hF, hw, hz, List.length_replicate]
  by_cases h0 : p.length > 0
  · rw [if_pos h0]
    have hn : ((p.length : Nat) : Int) ≠ 0 := by omega
    have h1 : M.frameOk p.length ⟨0, p.length, 255⟩ = true := by
      simp only [M.frameOk, M.isIn, M.isMask, Bool.and_eq_true, decide_eq_true_eq, bne_iff_ne]; omega
    have hl : M.lastF [(⟨0, p.length, 255⟩ : D.Frame)] = ⟨0, p.length, 255⟩ := rfl
    have hr : rd [(⟨0, p.length, 255⟩ : D.Frame)] 0 = ⟨0, p.length, 255⟩ := rfl
    have h2 : M.endsOk [(⟨0, p.length, 255⟩ : D.Frame)] p.length = true := by
      unfold M.endsOk
      rw [hl, hr]
      simp only [Bool.and_eq_true, decide_eq_true_eq, bne_iff_ne, beq_iff_eq, List.length_cons, List.length_nil]
      exact ⟨by omega, fun h => hn h.symm, fun h => hn h.symm, trivial, trivial⟩
    have : M.areFrames [(⟨0, p.length, 255⟩ : D.Frame)] p.length = true := by
      unfold M.areFrames
      rw [h2]; simp [h1]
    rw [this]; rfl
  · rw [if_neg h0]; rfl
theorem newWarp_fit (p : List D.Ins) (w : Int) : M.WFit (M.newWarp p w) := by
  refine ⟨?_, ?_⟩
  · show (if p.length > 0 then [(⟨0, p.length, 255⟩ : D.Frame)] else []).length ≤ _
    split <;> simp
  · show (List.replicate 32 (0 : Int)).length ≤ _
    simp
theorem wp.spec_WarpResult.math (p : List D.Ins) (w : Int) (h : M.spec_WarpResult_pre p w) : wp.spec_WarpResult p w (fun r => r = M.spec_WarpResult p w) := by
  have no : (M.isQuiet p && M.isIn w 0 2) = false → (M.noWarp, (0 : Int), false) = M.spec_WarpResult p w := fun hf => by
    unfold M.spec_WarpResult M.warpResult
    rw [if_neg (by rw [hf]; simp)]
  refine ⟨h, fun a ha => bcase_mk (fun e => no ?_) fun e => ⟨h, fun b hb => bcase_mk (fun e2 => no ?_) fun e2 => ?_⟩⟩
  · have e : a.2 = false := by simpa using e
    rw [ha] at e
    unfold M.spec_WarpNew at e
    split at e
    · cases e
    · rename_i hc
      cases hq : M.isQuiet p with
      | false => rfl
      | true =>
        rw [quiet_prog hq, Bool.true_and] at hc
        simpa using hc
  · have : M.isQuiet p = false := by rw [← show b = M.isQuiet p from hb]; simpa using e2
    rw [this]; rfl
  · have q1 : M.isQuiet p = true := by rw [← show b = M.isQuiet p from hb]; simpa using e2
    have e : a.2 = true := by simpa using e
    have ha' : M.isIn w 0 2 = true ∧ a.1 = M.newWarp p w := by
      rw [ha] at e ⊢
      unfold M.spec_WarpNew at e ⊢
      split at e
      · rename_i hc
        rw [if_pos hc]
        simp only [Bool.and_eq_true] at hc
        exact ⟨hc.2, rfl⟩
      · cases e
    rw [ha'.2]
    have hF := newWarp_fine (quiet_prog q1) ha'.1
    refine ⟨⟨hF, by omega, by omega⟩, fun r hr => ?_⟩
    have hr : r = M.runW p 8000 (M.newWarp p w) 0 := hr
    rw [empty_len]
    unfold M.spec_WarpResult M.warpResult
    rw [if_pos (by rw [q1, ha'.1]; rfl), ← hr]
    refine bcase_mk (fun e3 => ?_) fun e3 => ?_
    · rw [if_neg (by simpa using e3)]; rfl
    · rw [if_pos (by simpa using e3)]
theorem wp.impl_WarpResult.math (p : List D.Ins) (w : Int) (h : M.impl_WarpResult_pre p w) : wp.impl_WarpResult p w (fun r => r = M.impl_WarpResult p w) := by
  have no : (M.isQuiet p && M.isIn w 0 2) = false → (M.noWarp, (0 : Int), false) = M.impl_WarpResult p w := fun hf => by
    unfold M.impl_WarpResult M.warpResult
    rw [if_neg (by rw [hf]; simp)]
  refine ⟨h, fun a ha => bcase_mk (fun e => no ?_) fun e => fun b hb => bcase_mk (fun e2 => no ?_) fun e2 => ⟨trivial, fun y hy => ?_⟩⟩
  · have : M.isQuiet p = false := by rw [← show a = M.isQuiet p from ha]; simpa using e
    rw [this]; rfl
  · have : M.isIn w 0 2 = false := by rw [← show b = M.isIn w 0 2 from hb]; simpa using e2
    rw [this, Bool.and_false]
  · have q1 : M.isQuiet p = true := by rw [← show a = M.isQuiet p from ha]; simpa using e
    have q2 : M.isIn w 0 2 = true := by rw [← show b = M.isIn w 0 2 from hb]; simpa using e2
    have hy : y = M.newWarp p w := hy
    have hF := newWarp_fine (quiet_prog q1) q2
    have hfit := newWarp_fit p w
    rw [hy]
    refine ⟨⟨h, hfit⟩, fun r hr => ?_⟩
    have hr : r = M.runW p 8000 (M.newWarp p w) 0 := by
      rw [hr]
      show M.runWarp p _ 8000 = _
      unfold M.runWarp
      have hok : M.spec_WarpOk p (M.newWarp p w) = true := by
        unfold M.spec_WarpOk
        rw [hF.1, hF.2]; rfl
      rw [if_pos (by rw [q1, hok]; rfl)]; rfl
    rw [empty_len]
    unfold M.impl_WarpResult M.warpResult
    rw [if_pos (by rw [q1, q2]; rfl), ← hr]
    refine bcase_mk (fun e3 => ?_) fun e3 => ?_
    · rw [if_neg (by simpa using e3)]; rfl
    · rw [if_pos (by simpa using e3)]
end Go.V
set_option linter.unusedVariables false
namespace Go.V
def wp.laws_markWarp (s0 : D.Warp) (x1 : Int) (Q : (Int × (List D.Frame) × (List Int)) → Prop) : Prop :=
  (M.laws_markFrameS_pre s0.Frames x1 ∧ ∀ r23, r23 = M.laws_markFrameS s0.Frames x1 → (M.laws_markIntS_pre s0.Regs r23.1 ∧ ∀ r29, r29 = M.laws_markIntS s0.Regs r23.1 → Q (r29.1, r23.2, r29.2)))
def wp.laws_heldWarp (s0 : D.Warp) (x1 : Int) (Q : Int → Prop) : Prop :=
  (M.laws_heldFrameS_pre s0.Frames x1 ∧ ∀ r23, r23 = M.laws_heldFrameS s0.Frames x1 → bcase (decide (r23 < 0)) (Q (-1)) ((M.laws_heldIntS_pre s0.Regs r23 ∧ ∀ r28, r28 = M.laws_heldIntS s0.Regs r23 → bcase (decide (r28 < 0)) (Q (-1)) (Q r28))))
def wp.laws_FnExactWarpResult (xs0 : List D.Ins) (x1 : Int) (Q : Bool → Prop) : Prop :=
  (M.laws_szInsS_pre xs0 1048576 ∧ ∀ r21, r21 = M.laws_szInsS xs0 1048576 → bcase (decide (r21 < 0)) (Q true) ((M.laws_toInsS_pre xs0 ∧ ∀ r26, r26 = M.laws_toInsS xs0 → (M.spec_WarpResult_pre r26 x1 ∧ ∀ r33, r33 = M.spec_WarpResult r26 x1 → (M.laws_toInsS_pre xs0 ∧ ∀ r46, r46 = M.laws_toInsS xs0 → (M.impl_WarpResult_pre r46 x1 ∧ ∀ r53, r53 = M.impl_WarpResult r46 x1 → (M.laws_eqWarp_pre r53.1 r33.1 ∧ ∀ r66, r66 = M.laws_eqWarp r53.1 r33.1 → bcase (!r66) (Q false) (bcase (r53.2.1 != r33.2.1) (Q false) (bcase (!(r53.2.2 == r33.2.2)) (Q false) ((M.laws_toInsS_pre xs0 ∧ ∀ r71, r71 = M.laws_toInsS xs0 → (M.laws_eqInsS_pre r46 r71 ∧ ∀ r78, r78 = M.laws_eqInsS r46 r71 → bcase (!r78) (Q false) ((M.laws_markInsS_pre r46 1 ∧ ∀ r83, r83 = M.laws_markInsS r46 1 → bcase (decide (r83.1 < 0)) (Q false) ((M.laws_eqWarp_pre r53.1 r33.1 ∧ ∀ r89, r89 = M.laws_eqWarp r53.1 r33.1 → bcase (!r89) (Q false) (bcase (r53.2.1 != r33.2.1) (Q false) (bcase (!(r53.2.2 == r33.2.2)) (Q false) ((M.laws_markWarp_pre r53.1 1 ∧ ∀ r94, r94 = M.laws_markWarp r53.1 1 → (M.laws_heldWarp_pre (⟨r53.1.Number, r94.2.1, r94.2.2⟩ : D.Warp) 1 ∧ ∀ r101, r101 = M.laws_heldWarp (⟨r53.1.Number, r94.2.1, r94.2.2⟩ : D.Warp) 1 → bcase (decide (r101 < 0)) (Q false) (bcase (r101 != r94.1) (Q false) ((M.laws_toInsS_pre xs0 ∧ ∀ r106, r106 = M.laws_toInsS xs0 → (M.impl_WarpResult_pre r106 x1 ∧ ∀ r113, r113 = M.impl_WarpResult r106 x1 → (M.laws_eqWarp_pre r113.1 r33.1 ∧ ∀ r126, r126 = M.laws_eqWarp r113.1 r33.1 → bcase (!r126) (Q false) (bcase (r113.2.1 != r33.2.1) (Q false) (bcase (!(r113.2.2 == r33.2.2)) (Q false) ((M.laws_heldWarp_pre (⟨r53.1.Number, r94.2.1, r94.2.2⟩ : D.Warp) 1 ∧ ∀ r131, r131 = M.laws_heldWarp (⟨r53.1.Number, r94.2.1, r94.2.2⟩ : D.Warp) 1 → bcase (decide (r131 < 0)) (Q false) (bcase (r131 != r94.1) (Q false) (Q true))))))))))))))))))))))))))))))))
end Go.V
set_option linter.unusedVariables false
set_option linter.unusedSimpArgs false
set_option maxRecDepth 20000
namespace Go.V
theorem wp.laws_markWarp.math (x : D.Warp) (k : Int) (h : M.laws_markWarp_pre x k) : wp.laws_markWarp x k (fun r => r = M.laws_markWarp x k) := by
  obtain ⟨h0, h1⟩ := h
  refine ⟨⟨⟨by omega, by omega⟩, by unfold M.Few; omega⟩, fun r hr => ?_⟩
  subst hr
  refine ⟨⟨⟨by simp only [M.laws_markFrameS]; omega, by simp only [M.laws_markFrameS]; omega⟩, by unfold M.Few; omega⟩, fun r hr => ?_⟩
  subst hr
  simp only [M.laws_markFrameS, M.laws_markIntS, M.laws_markWarp]
theorem wp.laws_heldWarp.math (x : D.Warp) (k : Int) (h : M.laws_heldWarp_pre x k) : wp.laws_heldWarp x k (fun r => r = M.laws_heldWarp x k) := by
  obtain ⟨h0, h1⟩ := h
  refine ⟨⟨⟨by omega, by omega⟩, by unfold M.Few; omega⟩, fun r hr => ?_⟩
  by_cases f1 : x.Frames = M.seqFrame k x.Frames.length
  · have hr1 : r = k + 3 * x.Frames.length := by rw [hr]; unfold M.laws_heldFrameS; rw [if_pos f1]
    refine bcase_f (by simp; omega) ⟨⟨⟨by omega, by omega⟩, by unfold M.Few; omega⟩, fun r2 hr2 => ?_⟩
    by_cases f2 : x.Regs = M.seqInt (k + 3 * x.Frames.length) x.Regs.length
    · have hr3 : r2 = k + 3 * x.Frames.length + x.Regs.length := by rw [hr2, hr1]; unfold M.laws_heldIntS; rw [if_pos f2]
      refine bcase_f (by simp; omega) ?_
      rw [hr3]
      unfold M.laws_heldWarp
      rw [if_pos ⟨f1, f2⟩]
    · have hr3 : r2 = -1 := by rw [hr2, hr1]; unfold M.laws_heldIntS; rw [if_neg f2]
      refine bcase_t (by rw [hr3]; rfl) ?_
      unfold M.laws_heldWarp
      rw [if_neg fun h => f2 h.2]
  · have hr1 : r = -1 := by rw [hr]; unfold M.laws_heldFrameS; rw [if_neg f1]
    refine bcase_t (by rw [hr1]; rfl) ?_
    unfold M.laws_heldWarp
    rw [if_neg fun h => f1 h.1]
theorem held_markW (n : Int) (x : D.Warp) (k : Int) : M.laws_heldWarp ⟨n, M.seqFrame k x.Frames.length, M.seqInt (k + 3 * x.Frames.length) x.Regs.length⟩ k = k + 3 * x.Frames.length + x.Regs.length := by
  unfold M.laws_heldWarp
  rw [if_pos ⟨by simp only [seqFrame_len], by simp only [seqFrame_len, seqInt_len]⟩]
  simp only [seqFrame_len, seqInt_len]
theorem fine_small {p : List D.Ins} {x : D.Warp} (h : M.Fine p x) : x.Frames.length ≤ 24 ∧ x.Regs.length = 32 := by
  have hw := h.2
  simp only [M.warpOf, M.areFrames, Bool.and_eq_true, Bool.or_eq_true, beq_iff_eq] at hw
  obtain ⟨h1, h2, h3, h4, h5⟩ := hw
  refine ⟨?_, h2⟩
  rcases h5 with h5 | h5
  · have : x.Frames = [] := by simpa using h5
    rw [this]; simp
  · simp only [M.endsOk, Bool.and_eq_true, decide_eq_true_eq] at h5
    exact h5.1
theorem runW_fine {p : List D.Ins} : ∀ (n : Nat) (x : D.Warp) (k : Int), M.Fine p x → M.Fine p (M.runW p n x k).1
  | 0, x, k, h => h
  | n + 1, x, k, h => by
    simp only [M.runW]
    split
    · rename_i hl
      exact runW_fine n _ _ (stepW_fine (goes_of h hl))
    · exact h
theorem sz_smallP {p : List D.Ins} {r : Int} (hr : r = M.laws_szInsS p 1048576) (e : decide (r < 0) = false) : p.length ≤ 1048576 ∧ r = 1048576 - p.length := by
  rw [hr] at e ⊢
  unfold M.laws_szInsS at e ⊢
  split at e
  · simp at e
  · rename_i hc
    rw [if_neg hc]; exact ⟨by omega, rfl⟩
theorem result_small (p : List D.Ins) (w : Int) : (M.warpResult p w).1.Frames.length ≤ 24 ∧ (M.warpResult p w).1.Regs.length ≤ 32 := by
  unfold M.warpResult
  split
  · rename_i hc
    simp only [Bool.and_eq_true] at hc
    have := fine_small (runW_fine (p := p) 8000 (M.newWarp p w) 0 (newWarp_fine (quiet_prog hc.1) hc.2))
    split
    · exact ⟨this.1, by rw [this.2]; exact Nat.le_refl _⟩
    · simp [M.noWarp]
  · simp [M.noWarp]
theorem wp.laws_FnExactWarpResult.math (p : List D.Ins) (w : Int) (h : M.laws_FnExactWarpResult_pre p w) : wp.laws_FnExactWarpResult p w (fun r => r = M.laws_FnExactWarpResult p w) := by
  have h1 : M.Long p := h
  refine ⟨⟨by omega, by omega, h⟩, fun r hr => bcase_mk (fun _ => rfl) fun e => ?_⟩
  obtain ⟨hl, hr'⟩ := sz_smallP hr e
  have hs : M.laws_toInsS_pre p := by unfold M.laws_toInsS_pre; omega
  obtain ⟨n1, n2⟩ := result_small p w
  have hWL : M.WLong (M.warpResult p w).1 := by unfold M.WLong M.Long; omega
  have q3 : M.laws_markInsS_pre p 1 := ⟨⟨by omega, by omega⟩, by unfold M.Few; omega⟩
  have q5 : M.laws_markWarp_pre (M.warpResult p w).1 1 := ⟨by omega, by omega⟩
  have q6 : M.laws_heldWarp_pre ⟨(M.warpResult p w).1.Number, M.seqFrame 1 (M.warpResult p w).1.Frames.length, M.seqInt (1 + 3 * (M.warpResult p w).1.Frames.length) (M.warpResult p w).1.Regs.length⟩ 1 := ⟨by omega, by simp only [seqFrame_len, seqInt_len]; omega⟩
  have b1 : decide (1 + 4 * (p.length : Int) < 0) = false := decide_eq_false (by omega)
  have b2 : decide (1 + 3 * ((M.warpResult p w).1.Frames.length : Int) + ((M.warpResult p w).1.Regs.length : Int) < 0) = false := decide_eq_false (by omega)
  simp only [M.laws_toInsS, forall_eq, M.spec_WarpResult, M.impl_WarpResult, M.laws_eqWarp, M.laws_eqInsS, M.laws_markInsS, M.laws_markWarp, held_markW, beq_self_eq_true, bne_self_eq_false, Bool.not_true, b1, b2, bcase]
  exact ⟨hs, h, hs, h, hWL, hs, h1, q3, hWL, q5, q6, hs, h, hWL, q6, rfl⟩
end Go.V
