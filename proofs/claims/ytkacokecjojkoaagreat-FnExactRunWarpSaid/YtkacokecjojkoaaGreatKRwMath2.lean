import Derived.Test.YtkacokecjojkoaaGreatKRwMath1
set_option linter.unusedVariables false
set_option linter.unusedSimpArgs false
set_option maxRecDepth 20000
namespace Go.V
theorem laneCut_len {r : List Int} {l : Nat} (h : r.length = 32) (hl : l < 8) : (M.laneCut r l).length = 4 := by unfold M.laneCut; simp; omega
theorem putLane_len {r x : List Int} {l : Nat} (h : r.length = 32) (hl : l < 8) (hx : x.length = 4) : (M.putLane r l x).length = 32 := by unfold M.putLane; simp; omega
theorem putLane_get {r x : List Int} {l : Nat} (h : r.length = 32) (hl : l < 8) (hx : x.length = 4) (i : Nat) : (M.putLane r l x)[i]? = if l * 4 ≤ i ∧ i < l * 4 + 4 then x[i - l * 4]? else r[i]? := by
  unfold M.putLane
  rw [List.getElem?_append, List.length_append, List.length_take, Nat.min_eq_left (by omega), hx, List.getElem?_append, List.length_take, Nat.min_eq_left (by omega)]
  by_cases h1 : i < l * 4
  · rw [if_pos (by omega), if_pos h1, if_neg (by omega), List.getElem?_take, if_pos h1]
  · by_cases h2 : i < l * 4 + 4
    · rw [if_pos h2, if_neg h1, if_pos (by omega)]
    · rw [if_neg h2, if_neg (by omega), List.getElem?_drop]
      congr 1; omega
theorem laneCut_get (r : List Int) (l i : Nat) : (M.laneCut r l)[i]? = if i < 4 then r[l * 4 + i]? else none := by
  unfold M.laneCut
  rw [List.getElem?_drop, List.getElem?_take]
  by_cases h : i < 4
  · rw [if_pos h, if_pos (by omega)]
  · rw [if_neg h, if_neg (by omega)]
theorem cut_put_other {r x : List Int} {l j : Nat} (h : r.length = 32) (hl : l < 8) (hx : x.length = 4) (hne : j ≠ l) : M.laneCut (M.putLane r l x) j = M.laneCut r j := by
  apply List.ext_getElem?
  intro i
  rw [laneCut_get, laneCut_get]
  by_cases hi : i < 4
  · rw [if_pos hi, if_pos hi, putLane_get h hl hx, if_neg (by omega)]
  · rw [if_neg hi, if_neg hi]
theorem put_self {r : List Int} {l : Nat} (h : r.length = 32) (hl : l < 8) : M.putLane r l (M.laneCut r l) = r := by
  apply List.ext_getElem?
  intro i
  rw [putLane_get h hl (laneCut_len h hl)]
  by_cases hi : l * 4 ≤ i ∧ i < l * 4 + 4
  · rw [if_pos hi, laneCut_get, if_pos (by omega)]
    congr 1; omega
  · rw [if_neg hi]
theorem applyTo_len {i : D.Ins} {num m : Int} {r : List Int} (h : r.length = 32) : ∀ k, k ≤ 8 → (M.applyTo i num m r k).length = 32
  | 0, _ => h
  | k + 1, hk => by
    have ih := applyTo_len (i := i) (num := num) (m := m) h k (by omega)
    simp only [M.applyTo]
    split
    · exact putLane_len ih (by omega) (by rw [apply_len, laneCut_len h (by omega)])
    · exact ih
theorem applyTo_cut {i : D.Ins} {num m : Int} {r : List Int} (h : r.length = 32) : ∀ k, k ≤ 8 → ∀ j, k ≤ j → M.laneCut (M.applyTo i num m r k) j = M.laneCut r j
  | 0, _, _, _ => rfl
  | k + 1, hk, j, hj => by
    have ih := applyTo_cut (i := i) (num := num) (m := m) h k (by omega) j (by omega)
    simp only [M.applyTo]
    split
    · rw [cut_put_other (applyTo_len h k (by omega)) (by omega) (by rw [apply_len, laneCut_len h (by omega)]) (by omega), ih]
    · exact ih
def stepL (i : D.Ins) (num : Int) (acc : List Int) (l : Int) : List Int := M.impl_apply_v i (num * 8 + l) acc (l * 4).toNat (l * 4 + 4).toNat
theorem stepL_put (i : D.Ins) (num : Int) (acc : List Int) (k : Nat) : stepL i num acc (k : Int) = M.putLane acc k (M.apply i (num * 8 + (k : Int)) (M.laneCut acc k)) := by
  unfold stepL M.impl_apply_v M.putLane M.laneCut
  rw [show ((k : Int) * 4).toNat = k * 4 by omega, show ((k : Int) * 4 + 4).toNat = k * 4 + 4 by omega]
theorem applyAll_fold {i : D.Ins} {num m : Int} {r : List Int} (h : r.length = 32) : M.applyAll i num m r = (M.lanesOf m).foldl (stepL i num) r := by
  have key : ∀ k, k ≤ 8 → (List.range k).foldl (fun acc (j : Nat) => if M.hasLane m (j : Int) = true then stepL i num acc (j : Int) else acc) r = M.applyTo i num m r k := by
    intro k
    induction k with
    | zero => intro _; rfl
    | succ k ih =>
      intro hk
      rw [List.range_succ, List.foldl_append, ih (by omega)]
      simp only [List.foldl_cons, List.foldl_nil, M.applyTo]
      rw [stepL_put, applyTo_cut h k (by omega) k (Nat.le_refl _)]
  unfold M.applyAll
  rw [← key 8 (Nat.le_refl _)]
  unfold M.lanesOf
  rw [List.foldl_filter]
  rfl
theorem fold_len {i : D.Ins} {num : Int} : ∀ (l : List Int) (r : List Int), r.length = 32 → (∀ k ∈ l, 0 ≤ k ∧ k ≤ 7) → (l.foldl (stepL i num) r).length = 32
  | [], r, h, _ => h
  | k :: l, r, h, hl => by
    simp only [List.foldl_cons]
    obtain ⟨h0, h7⟩ := hl k List.mem_cons_self
    refine fold_len l _ ?_ fun j hj => hl j (List.mem_cons_of_mem _ hj)
    rw [show k = ((k.toNat : Nat) : Int) by omega, stepL_put]
    exact putLane_len h (by omega) (by rw [apply_len, laneCut_len h (by omega)])
theorem applyAll_len {i : D.Ins} {num m : Int} {r : List Int} (h : r.length = 32) : (M.applyAll i num m r).length = 32 := applyTo_len h 8 (Nat.le_refl _)
theorem applyAll_branch {i : D.Ins} {num m : Int} {r : List Int} (h : r.length = 32) (e : i.Op = 10) : M.applyAll i num m r = r := by
  have ha : ∀ t (q : List Int), M.apply i t q = q := fun t q => by simp [M.apply, e]
  have : ∀ k, k ≤ 8 → M.applyTo i num m r k = r := by
    intro k
    induction k with
    | zero => intro _; rfl
    | succ k ih =>
      intro hk
      simp only [M.applyTo, ih (by omega), ha, put_self h (show k < 8 by omega), ite_self]
  exact this 8 (Nat.le_refl _)
theorem words_put {r x : List Int} {l : Nat} (h : r.all M.isWord = true) (hx : x.all M.isWord = true) : (M.putLane r l x).all M.isWord = true := by
  rw [List.all_eq_true] at h hx ⊢
  intro y hy
  unfold M.putLane at hy
  rcases List.mem_append.1 hy with hy | hy
  · rcases List.mem_append.1 hy with hy | hy
    · exact h y (List.mem_of_mem_take hy)
    · exact hx y hy
  · exact h y (List.mem_of_mem_drop hy)
theorem words_cut {r : List Int} {l : Nat} (h : r.all M.isWord = true) : (M.laneCut r l).all M.isWord = true := by
  rw [List.all_eq_true] at h ⊢
  intro y hy
  exact h y (List.mem_of_mem_take (List.mem_of_mem_drop hy))
theorem applyTo_words {i : D.Ins} {n num m : Int} {r : List Int} (hok : M.insOk i n = true) (hn : 0 ≤ num ∧ num ≤ 2) (hl : r.length = 32) (h : r.all M.isWord = true) : ∀ k, k ≤ 8 → (M.applyTo i num m r k).all M.isWord = true
  | 0, _ => h
  | k + 1, hk => by
    have ih := applyTo_words (m := m) hok hn hl h k (by omega)
    simp only [M.applyTo]
    split
    · exact words_put ih (apply_words hok (by omega) (laneCut_len hl (by omega)) (words_cut h))
    · exact ih
theorem lastF_set {fs : List D.Frame} (h : fs ≠ []) (pc : Int) : M.lastF (M.setTop fs pc) = ⟨pc, (M.lastF fs).Stop, (M.lastF fs).Mask⟩ := by
  have hpos : 0 < fs.length := List.length_pos_iff.2 h
  have e : (((fs.length : Nat) : Int) - 1) = ((fs.length - 1 : Nat) : Int) := by omega
  unfold M.lastF M.setTop
  rw [List.length_set, e, rd_nat (by rw [List.length_set]; omega), List.getElem_set_self]
  unfold M.lastF
  rw [e]
theorem mem_lastF {fs : List D.Frame} (h : fs ≠ []) : M.lastF fs ∈ fs := by
  have hpos : 0 < fs.length := List.length_pos_iff.2 h
  exact rd_of (by omega) (by omega)
theorem setTop_all {fs : List D.Frame} {n pc : Int} (h : fs.all (M.frameOk n) = true) (hx : fs ≠ []) (hp : 0 ≤ pc ∧ pc ≤ n) : (M.setTop fs pc).all (M.frameOk n) = true := by
  rw [List.all_eq_true] at h ⊢
  intro f hf
  rcases List.mem_or_eq_of_mem_set hf with hf | rfl
  · exact h f hf
  · have := h _ (mem_lastF hx)
    simp only [M.frameOk, M.isIn, Bool.and_eq_true, decide_eq_true_eq] at this ⊢
    exact ⟨hp, this.2⟩
theorem drop_spec (fs : List D.Frame) (n : Int) : ∀ k, k ≤ fs.length → M.dropN fs n k = [] ∨ ∃ j : Nat, 0 < j ∧ j ≤ k ∧ M.dropN fs n k = fs.take j ∧ (rd fs ((j - 1 : Nat) : Int)).Pc ≠ (rd fs ((j - 1 : Nat) : Int)).Stop ∧ (rd fs ((j - 1 : Nat) : Int)).Pc ≠ n
  | 0, _ => .inl rfl
  | k + 1, hk => by
    simp only [M.dropN]
    split
    · rename_i e
      exact .inr ⟨k + 1, by omega, Nat.le_refl _, rfl, e⟩
    · rcases drop_spec fs n k (by omega) with h | ⟨j, h0, h1, h2⟩
      · exact .inl h
      · exact .inr ⟨j, h0, by omega, h2⟩
theorem drop_fine {fs : List D.Frame} {n : Int} (hall : fs.all (M.frameOk n) = true) (hl : fs.length ≤ 24) (h0 : fs ≠ [] → (rd fs 0).Stop = n ∧ (rd fs 0).Mask = 255) : M.areFrames (M.dropF fs n) n = true := by
  unfold M.dropF
  rcases drop_spec fs n fs.length (Nat.le_refl _) with h | ⟨j, hj0, hj1, h2, h3, h4⟩
  · rw [h]; rfl
  · rw [h2]
    have hne : fs ≠ [] := by intro e; rw [e] at hj1; simp at hj1; omega
    have hlen : (fs.take j).length = j := by rw [List.length_take]; omega
    have hall' : (fs.take j).all (M.frameOk n) = true := by
      rw [List.all_eq_true] at hall ⊢
      exact fun f hf => hall f (List.mem_of_mem_take hf)
    have hlast : M.lastF (fs.take j) = rd fs ((j - 1 : Nat) : Int) := by
      unfold M.lastF
      rw [hlen, show ((j : Int) - 1) = ((j - 1 : Nat) : Int) by omega, rd_take (by omega)]
    have hz : rd (fs.take j) 0 = rd fs 0 := by
      have := rd_take (l := fs) (k := 0) (m := j) (by omega)
      exact this
    unfold M.areFrames
    rw [hall', Bool.true_and, Bool.or_eq_true]
    right
    unfold M.endsOk
    rw [hlast, hz, hlen]
    obtain ⟨k1, k2⟩ := h0 hne
    simp only [Bool.and_eq_true, decide_eq_true_eq, bne_iff_ne, beq_iff_eq]
    exact ⟨by omega, h3, h4, k1, k2⟩
theorem setTop_first {fs : List D.Frame} (h : fs ≠ []) (pc : Int) : (rd (M.setTop fs pc) 0).Stop = (rd fs 0).Stop ∧ (rd (M.setTop fs pc) 0).Mask = (rd fs 0).Mask := by
  have hpos : 0 < fs.length := List.length_pos_iff.2 h
  have z : (0 : Int) = ((0 : Nat) : Int) := rfl
  by_cases h1 : fs.length = 1
  · have hl := lastF_set h pc
    have e1 : M.lastF (M.setTop fs pc) = rd (M.setTop fs pc) 0 := by unfold M.lastF M.setTop; rw [List.length_set, h1]; rfl
    have e2 : M.lastF fs = rd fs 0 := by unfold M.lastF; rw [h1]; rfl
    rw [← e1, hl, e2]; exact ⟨rfl, rfl⟩
  · have e : rd (M.setTop fs pc) 0 = rd fs 0 := by
      unfold M.setTop rd
      rw [List.getD_eq_getElem?_getD, List.getD_eq_getElem?_getD, List.getElem?_set_ne (by simp; omega)]
    rw [e]; exact ⟨rfl, rfl⟩
theorem runs_frames {p : List D.Ins} {x : D.Warp} (h : M.Runs p x) : x.Frames.all (M.frameOk p.length) = true ∧ x.Frames.length ≤ 24 ∧ (rd x.Frames 0).Stop = p.length ∧ (rd x.Frames 0).Mask = 255 ∧ M.isMask (M.lastF x.Frames).Mask = true ∧ x.Regs.all M.isWord = true := by
  obtain ⟨hp, hw, hx⟩ := h
  simp only [M.warpOf, M.areFrames, Bool.and_eq_true, Bool.or_eq_true] at hw
  obtain ⟨h1, h2, h3, h4, h5⟩ := hw
  have h5 := h5.resolve_left (by simpa using hx)
  have hf := List.all_eq_true.1 h4 _ (mem_lastF hx)
  simp only [M.endsOk, M.frameOk, Bool.and_eq_true, decide_eq_true_eq, beq_iff_eq] at h5 hf
  exact ⟨h4, h5.1, h5.2.2.2.1, h5.2.2.2.2, hf.2.2.1, h3⟩
theorem split_branch {p : List D.Ins} {x : D.Warp} (h : M.Runs p x) (hs : M.isSplit p x) : M.Branch p (M.topPc x) := by
  obtain ⟨_, _, _, _, t5, t6, _⟩ := runs_top h
  refine ⟨h.1, t5, t6, ?_⟩
  unfold M.isBr
  simp only [Bool.and_eq_true, beq_iff_eq, bne_iff_ne]
  exact hs
theorem splits_iff {p : List D.Ins} {x : D.Warp} (h : M.splits p x = true) : M.isSplit p x ∧ M.zeroMask x (M.topIns p x).A ≠ 0 ∧ M.zeroMask x (M.topIns p x).A ≠ (M.lastF x.Frames).Mask := by
  simp only [M.splits, Bool.and_eq_true, beq_iff_eq, bne_iff_ne] at h
  exact ⟨h.1, h.2.1, h.2.2⟩
theorem turn_in {p : List D.Ins} {x : D.Warp} (h : M.Runs p x) : 0 ≤ M.turnPc p x ∧ M.turnPc p x ≤ ((p.length : Nat) : Int) := by
  obtain ⟨_, _, _, _, t5, t6, t7, _⟩ := runs_top h
  unfold M.turnPc
  split
  · omega
  · split
    · exact target_in t7 (.inr (by assumption))
    · split
      · rename_i e; exact target_in t7 (.inl e.1)
      · omega
theorem stepW_fine {p : List D.Ins} {x : D.Warp} (h : M.Goes p x) : M.Fine p (M.stepW p x) := by
  obtain ⟨hr, hl⟩ := h
  obtain ⟨t1, t2, t3, t4, t5, t6, t7, t8, t9⟩ := runs_top hr
  obtain ⟨f1, f2, f3, f4, f5, f6⟩ := runs_frames hr
  have hx := hr.2.2
  refine ⟨hr.1, ?_⟩
  have fin : ∀ (fs : List D.Frame) (rg : List Int), rg.length = 32 → rg.all M.isWord = true → fs.all (M.frameOk p.length) = true → fs.length ≤ 24 → (fs ≠ [] → (rd fs 0).Stop = p.length ∧ (rd fs 0).Mask = 255) → M.warpOf p (M.dropW ⟨x.Number, fs, rg⟩ p.length) = true := by
    intro fs rg g1 g2 g3 g4 g5
    simp only [M.warpOf, M.dropW, Bool.and_eq_true, beq_iff_eq]
    exact ⟨by simp only [M.isIn, Bool.and_eq_true, decide_eq_true_eq]; exact ⟨t8, t9⟩, g1, g2, drop_fine g3 g4 g5⟩
  have s0 := fun pc => setTop_first hx pc
  unfold M.stepW
  by_cases hs : M.splits p x = true
  · rw [if_pos hs]
    obtain ⟨hsp, hz0, hzm⟩ := splits_iff hs
    have hb := split_branch hr hsp
    have hj := join_in hb
    have hact : M.activeMask x = (M.lastF x.Frames).Mask := activeMask_top hx
    obtain ⟨m1, m2, m3⟩ := mask_part (x := x) (reg := (M.topIns p x).A) (by rw [hact]; exact f5)
    rw [hact] at m2 m3
    have h22 : x.Frames.length ≤ 22 := by
      simp only [M.spec_l13Local, hs, Bool.and_eq_true, Bool.not_true, Bool.false_or, decide_eq_true_eq] at hl
      exact hl.2.2
    have hB := target_in t7 (.inl hsp.1)
    unfold M.separated
    refine fin _ _ t4 f6 ?_ ?_ fun _ => ?_
    · rw [List.all_append, setTop_all f1 hx hj, Bool.true_and]
      simp only [List.all_cons, List.all_nil, Bool.and_true, M.frameOk, Bool.and_eq_true, M.isIn, decide_eq_true_eq, bne_iff_ne]
      unfold M.nodeIn at hj
      rw [m2]
      exact ⟨⟨by omega, hj, m3, by omega⟩, hB, hj, m1, hz0⟩
    · simp only [List.length_append, M.setTop, List.length_set, List.length_cons, List.length_nil]; omega
    · have e : rd (M.setTop x.Frames (M.joinB p (M.topPc x)) ++ [⟨M.topPc x + 1, M.joinB p (M.topPc x), bitNot .i64 (M.lastF x.Frames).Mask (M.zeroMask x (M.topIns p x).A)⟩, ⟨(M.topIns p x).B, M.joinB p (M.topPc x), M.zeroMask x (M.topIns p x).A⟩]) 0 = rd (M.setTop x.Frames (M.joinB p (M.topPc x))) 0 := by
        unfold rd
        rw [List.getD_eq_getElem?_getD, List.getD_eq_getElem?_getD, List.getElem?_append_left (by simp [M.setTop]; omega)]
      rw [e, (s0 _).1, (s0 _).2]
      exact ⟨f3, f4⟩
  · rw [if_neg hs]
    unfold M.advance
    refine fin _ _ (applyAll_len t4) (applyTo_words t7 ⟨t8, t9⟩ t4 f6 8 (Nat.le_refl _)) (setTop_all f1 hx (turn_in hr)) (by simp only [M.setTop, List.length_set]; exact f2) fun _ => ?_
    rw [(s0 _).1, (s0 _).2]
    exact ⟨f3, f4⟩
end Go.V
set_option linter.unusedVariables false
set_option linter.unusedSimpArgs false
set_option maxRecDepth 20000
namespace Go.V
theorem fits_cut {i : D.Ins} {n : Int} {r : List Int} {k : Nat} (h : M.insOk i n = true) (hr : r.length = 32) (hk : k < 8) : M.Fits i (M.laneCut r k) := ⟨laneCut_len hr hk, n, h⟩
theorem wp.impl_Warp_advance.math (x : D.Warp) (p : List D.Ins) (h : M.impl_Warp_advance_pre x p) : wp.impl_Warp_advance x p (fun r => r = M.impl_Warp_advance x p) := by
  obtain ⟨t1, t2, t3, t4, t5, t6, t7, t8, t9⟩ := runs_top h
  have hx := h.2.2
  unfold wp.impl_Warp_advance
  rw [last_wrap (by omega)]
  refine ⟨by omega, ⟨t5, t6⟩, fun ls hls => ?_⟩
  have hls : ls = M.lanesOf (M.lastF x.Frames).Mask := hls
  have hmem : ∀ k ∈ ls, 0 ≤ k ∧ k ≤ 7 := fun k hk => lanes_in (m := (M.lastF x.Frames).Mask) (hls ▸ hk)
  have hlen : ls.length ≤ 8 := by rw [hls]; exact lanes_len _
  let G : Nat → List Int := fun k => (ls.take k).foldl (stepL (M.topIns p x) x.Number) x.Regs
  have hG : ∀ k, (G k).length = 32 := fun k => fold_len _ _ t4 fun j hj => hmem j (List.mem_of_mem_take hj)
  refine loop_n ls.length (fun k => ((k : Int), G k, ())) (fun _ => True) rfl trivial (fun k hk _ next hn => ?_) fun _ next => ?_
  · have hn := hn trivial
    have hm := hmem _ (rd_mem hk)
    have hGk := hG k
    have hnext : G (k + 1) = stepL (M.topIns p x) x.Number (G k) (rd ls (k : Int)) := by
      simp only [G]
      rw [List.take_add_one, List.getElem?_eq_getElem hk, Option.toList_some, List.foldl_append, ← rd_nat hk]
      rfl
    rw [hnext] at hn
    dsimp only
    generalize rd ls (k : Int) = l at *
    generalize G k = g at *
    have a1 : IntKind.wrap .i64 (l * 4) = l * 4 := w64 (by omega) (by omega)
    have a2 : IntKind.wrap .i64 ((IntKind.wrap .i64 (l + 1)) * 4) = l * 4 + 4 := by rw [w64 (x := l + 1) (by omega) (by omega), w64 (by omega) (by omega)]; omega
    have a3 : IntKind.wrap .i64 ((IntKind.wrap .i64 (x.Number * 8)) + l) = x.Number * 8 + l := by rw [w64 (x := x.Number * 8) (by omega) (by omega), w64 (by omega) (by omega)]
    rw [a1, a2, a3, up64 hk (by omega)]
    refine bcase_t (by simp; omega) ⟨by omega, ⟨hGk, hm⟩, ⟨?_, by omega, by omega⟩, fun r2 hr2 => ?_⟩
    · have := fits_cut (k := l.toNat) t7 hGk (by omega)
      unfold M.laneCut at this
      rw [show l.toNat * 4 + 4 = (l * 4 + 4).toNat by omega, show l.toNat * 4 = (l * 4).toNat by omega] at this
      exact this
    · rw [hr2]; exact hn
  · have hall : G ls.length = M.applyAll (M.topIns p x) x.Number (M.lastF x.Frames).Mask x.Regs := by
      simp only [G]
      rw [List.take_length, applyAll_fold t4, hls]
    dsimp only
    rw [hall]
    refine bcase_f (by simp) ?_
    have e1 : (((x.Frames.length : Nat) : Int) - 1).toNat = x.Frames.length - 1 := by omega
    have fin : ∀ pc, pc = M.turnPc p x → (⟨x.Number, x.Frames.set (((x.Frames.length : Nat) : Int) - 1).toNat ⟨pc, (M.lastF x.Frames).Stop, (M.lastF x.Frames).Mask⟩, M.applyAll (M.topIns p x) x.Number (M.lastF x.Frames).Mask x.Regs⟩ : D.Warp) = M.impl_Warp_advance x p := by
      rintro _ rfl
      unfold M.impl_Warp_advance M.advance M.setTop
      rw [e1]
    show bcase ((M.topIns p x).Op == 12) _ (bcase ((M.topIns p x).Op == 11) (bcase true _ _) (bcase ((M.topIns p x).Op == 10) _ (bcase false _ _)))
    refine bcase_mk (fun c1 => fin _ ?_) fun c1 => bcase_mk (fun c2 => bcase_t rfl (fin _ ?_)) fun c2 => bcase_mk (fun c3 => ⟨?_, fun z hz => ?_⟩) fun c3 => bcase_f rfl (fin _ ?_)
    · have c1 : (M.topIns p x).Op = 12 := by simpa using c1
      simp [M.turnPc, c1]
    · have c2 : (M.topIns p x).Op = 11 := by simpa using c2
      simp only [M.turnPc, c2]
      rfl
    · have c3 : (M.topIns p x).Op = 10 := by simpa using c3
      exact ⟨by show x.Frames.length ≤ 9223372036854775807; omega, applyAll_len t4, zero_reg t7 c3⟩
    · have c3 : (M.topIns p x).Op = 10 := by simpa using c3
      have hz : z = M.zeroMask x (M.topIns p x).A := by
        rw [hz, applyAll_branch t4 c3]; rfl
      show bcase (z == (M.lastF x.Frames).Mask) _ _
      rw [hz]
      refine bcase_mk (fun c4 => fin _ ?_) fun c4 => fin _ ?_
      · have c4 : M.zeroMask x (M.topIns p x).A = (M.lastF x.Frames).Mask := by simpa using c4
        unfold M.turnPc
        rw [if_neg (by omega), if_neg (by omega), if_pos ⟨c3, c4⟩]; rfl
      · have c4 : ¬ M.zeroMask x (M.topIns p x).A = (M.lastF x.Frames).Mask := by simpa using c4
        unfold M.turnPc
        rw [if_neg (by omega), if_neg (by omega), if_neg (fun hc => c4 hc.2)]
        exact w64 (x := M.topPc x + 1) (by omega) (by omega)
    · have c1 : ¬ (M.topIns p x).Op = 12 := by simpa using c1
      have c2 : ¬ (M.topIns p x).Op = 11 := by simpa using c2
      have c3 : ¬ (M.topIns p x).Op = 10 := by simpa using c3
      unfold M.turnPc
      rw [if_neg c1, if_neg c2, if_neg (fun hc => c3 hc.1)]
      exact w64 (x := M.topPc x + 1) (by omega) (by omega)
theorem has_branches {p : List D.Ins} {b : Int} (h : M.Branch p b) : M.has (M.branches p) b = true := by
  unfold M.has M.branches
  rw [if_pos h.1, List.any_eq_true]
  exact ⟨b, mem_idx.2 ⟨b.toNat, by have := h.2.2.1; have := h.2.1; omega, by have := h.2.1; omega, h.2.2.2⟩, by simp⟩
theorem wp.impl_Warp_separate.math (x : D.Warp) (p : List D.Ins) (h : M.impl_Warp_separate_pre x p) : wp.impl_Warp_separate x p (fun r => r = M.impl_Warp_separate x p) := by
  obtain ⟨hr, hs⟩ := h
  obtain ⟨t1, t2, t3, t4, t5, t6, t7, t8, t9⟩ := runs_top hr
  have hb := split_branch hr hs
  unfold wp.impl_Warp_separate
  rw [last_wrap (by omega), w64 (x := ((x.Frames.length : Nat) : Int) + 2) (by omega) (by omega)]
  refine bcase_mk (fun e => ?_) fun e => ⟨by omega, ⟨t5, t6⟩, ⟨by show x.Frames.length ≤ 9223372036854775807; omega, t4, zero_reg t7 hs.1⟩, fun z hz => ⟨prog_small hr.1, fun j hj => ⟨⟨t5, t6⟩, ?_⟩⟩⟩
  · have e : ¬ x.Frames.length ≤ 22 := by have := of_decide_eq_true e; omega
    unfold M.impl_Warp_separate
    rw [if_neg e]
  · have e : x.Frames.length ≤ 22 := by have := of_decide_eq_false e; omega
    have hj : j = M.joinB p (M.topPc x) := by
      rw [hj]
      show M.joinOf p (M.topPc x) = _
      unfold M.joinOf
      rw [if_pos (has_branches hb)]
    have hw : IntKind.wrap .i64 (M.topPc x + 1) = M.topPc x + 1 := w64 (by omega) (by omega)
    have key : ∀ y, y = M.separated p x → (true, y) = M.impl_Warp_separate x p := by
      rintro _ rfl
      unfold M.impl_Warp_separate
      rw [if_pos e]
    have e1 : (((x.Frames.length : Nat) : Int) - 1).toNat = x.Frames.length - 1 := by omega
    have fin : (true, (⟨x.Number, (x.Frames.set (((x.Frames.length : Nat) : Int) - 1).toNat ⟨j, (M.lastF x.Frames).Stop, (M.lastF x.Frames).Mask⟩) ++ [⟨IntKind.wrap .i64 (M.topPc x + 1), j, bitNot .i64 (M.lastF x.Frames).Mask z⟩, ⟨(M.topIns p x).B, j, z⟩], x.Regs⟩ : D.Warp)) = M.impl_Warp_separate x p := by
      refine key _ ?_
      rw [hw, hj, hz, e1]; rfl
    have hle : (x.Frames.set (((x.Frames.length : Nat) : Int) - 1).toNat ⟨j, (M.lastF x.Frames).Stop, (M.lastF x.Frames).Mask⟩).length + 2 ≤ 17179869184 := by rw [List.length_set]; omega
    exact ⟨⟨hle, fin⟩, ⟨⟨hle, fin⟩, ⟨hle, fin⟩, trivial⟩, trivial⟩
end Go.V
set_option linter.unusedVariables false
set_option linter.unusedSimpArgs false
set_option maxRecDepth 20000
namespace Go.V
def putSome (r x : List Int) (l j : Nat) : List Int := r.take (l * 4) ++ x.take j ++ r.drop (l * 4 + j)
theorem putSome_len {r x : List Int} {l j : Nat} (h : r.length = 32) (hl : l < 8) (hx : x.length = 4) (hj : j ≤ 4) : (putSome r x l j).length = 32 := by unfold putSome; simp; omega
theorem putSome_get {r x : List Int} {l j : Nat} (h : r.length = 32) (hl : l < 8) (hx : x.length = 4) (hj : j ≤ 4) (i : Nat) : (putSome r x l j)[i]? = if l * 4 ≤ i ∧ i < l * 4 + j then x[i - l * 4]? else r[i]? := by
  unfold putSome
  rw [List.getElem?_append, List.length_append, List.length_take, List.length_take, hx, Nat.min_eq_left (by omega), Nat.min_eq_left hj, List.getElem?_append, List.length_take, Nat.min_eq_left (by omega)]
  by_cases h1 : i < l * 4
  · rw [if_pos (by omega), if_pos h1, if_neg (by omega), List.getElem?_take, if_pos h1]
  · by_cases h2 : i < l * 4 + j
    · rw [if_pos h2, if_neg h1, if_pos (by omega), List.getElem?_take, if_pos (by omega)]
    · rw [if_neg h2, if_neg (by omega), List.getElem?_drop]
      congr 1; omega
theorem putSome_zero (r x : List Int) (l : Nat) : putSome r x l 0 = r := by unfold putSome; simp
theorem putSome_all {r x : List Int} {l : Nat} (hx : x.length = 4) : putSome r x l 4 = M.putLane r l x := by unfold putSome M.putLane; rw [List.take_of_length_le (l := x) (by omega)]
theorem putSome_set {r x : List Int} {l j : Nat} (h : r.length = 32) (hl : l < 8) (hx : x.length = 4) (hj : j < 4) : (putSome r x l j).set (l * 4 + j) (rd x (j : Int)) = putSome r x l (j + 1) := by
  apply List.ext_getElem?
  intro i
  rw [putSome_get h hl hx (by omega)]
  by_cases e : l * 4 + j = i
  · subst e
    rw [List.getElem?_set_self (by rw [putSome_len h hl hx (by omega)]; omega), if_pos (by omega), show l * 4 + j - l * 4 = j by omega, rd_nat (by omega), List.getElem?_eq_getElem (by omega)]
  · rw [List.getElem?_set_ne e, putSome_get h hl hx (by omega)]
    by_cases h1 : l * 4 ≤ i ∧ i < l * 4 + j
    · rw [if_pos h1, if_pos (by omega)]
    · rw [if_neg h1, if_neg (by omega)]
theorem wp.spec_l13Apply.math (p : List D.Ins) (x : D.Warp) (h : M.spec_l13Apply_pre p x) : wp.spec_l13Apply p x (fun r => r = M.spec_l13Apply p x) := by
  obtain ⟨t1, t2, t3, t4, t5, t6, t7, t8, t9⟩ := runs_top h
  unfold wp.spec_l13Apply
  rw [last_wrap (by omega), List.nil_append]
  refine ⟨by simp; omega, by omega, ?_⟩
  let G : Nat → List Int := M.applyTo (M.topIns p x) x.Number (M.lastF x.Frames).Mask x.Regs
  have hG : ∀ k, k ≤ 8 → (G k).length = 32 := fun k hk => applyTo_len t4 k hk
  refine loop_n 8 (fun k => ((k : Int), G k, ())) (fun _ => True) rfl trivial (fun k hk _ next hn => ?_) fun _ next => bcase_f (by simp) rfl
  have hn := hn trivial
  have hGk := hG k (by omega)
  have hnext : G (k + 1) = if M.hasLane (M.lastF x.Frames).Mask (k : Int) then M.putLane (G k) k (M.apply (M.topIns p x) (x.Number * 8 + (k : Int)) (M.laneCut x.Regs k)) else G k := rfl
  rw [hnext] at hn
  dsimp only
  generalize G k = g at *
  refine bcase_t (by simp; omega) fun b hb => ?_
  have hb : b = M.hasLane (M.lastF x.Frames).Mask (k : Int) := hb
  have a1 : IntKind.wrap .i64 ((k : Int) * 4) = (k : Int) * 4 := w64 (by omega) (by omega)
  have a2 : IntKind.wrap .i64 ((IntKind.wrap .i64 ((k : Int) + 1)) * 4) = (k : Int) * 4 + 4 := by rw [w64 (x := (k : Int) + 1) (by omega) (by omega), w64 (by omega) (by omega)]; omega
  have a3 : IntKind.wrap .i64 ((IntKind.wrap .i64 (x.Number * 8)) + (k : Int)) = x.Number * 8 + (k : Int) := by rw [w64 (x := x.Number * 8) (by omega) (by omega), w64 (by omega) (by omega)]
  refine bcase_mk (fun e => ?_) fun e => ?_
  · rw [if_pos (hb.symm.trans e)] at hn
    rw [a1, a2, a3, t4, show ((k : Int) * 4 + 4).toNat = k * 4 + 4 by omega, show ((k : Int) * 4).toNat = k * 4 by omega]
    refine ⟨⟨t5, t6⟩, ⟨by omega, by omega, by omega, by omega⟩, fits_cut t7 t4 hk, fun y hy => ?_⟩
    have hy : y = M.apply (M.topIns p x) (x.Number * 8 + (k : Int)) (M.laneCut x.Regs k) := hy
    have hyl : y.length = 4 := by rw [hy, apply_len, laneCut_len t4 hk]
    rw [← hy] at hn
    refine loop_n 4 (fun j => ((j : Int), putSome g y k j, ())) (fun _ => True) (by rw [putSome_zero]; rfl) trivial (fun j hj _ next2 hn2 => ?_) fun _ next2 => ?_
    · have hn2 := hn2 trivial
      rw [← putSome_set hGk hk hyl hj] at hn2
      dsimp only
      have a4 : IntKind.wrap .i64 ((k : Int) * 4 + (j : Int)) = (k : Int) * 4 + (j : Int) := w64 (by omega) (by omega)
      rw [a4, hyl, putSome_len hGk hk hyl (by omega), show ((k : Int) * 4 + (j : Int)).toNat = k * 4 + j by omega, up64 (n := 4) hj (by omega)]
      exact bcase_t (by simp; omega) ⟨by omega, by omega, hn2⟩
    · dsimp only
      rw [putSome_all hyl, up64 (n := 8) hk (by omega)]
      exact bcase_f (by simp) hn
  · rw [if_neg (by rw [← hb, e]; simp)] at hn
    rw [up64 (n := 8) hk (by omega)]
    exact hn
theorem wp.spec_l13Step.math (p : List D.Ins) (x : D.Warp) (h : M.spec_l13Step_pre p x) : wp.spec_l13Step p x (fun r => r = M.spec_l13Step p x) := by
  obtain ⟨hr, hl⟩ := h
  obtain ⟨t1, t2, t3, t4, t5, t6, t7, t8, t9⟩ := runs_top hr
  obtain ⟨f1, f2, f3, f4, f5, f6⟩ := runs_frames hr
  have hx := hr.2.2
  unfold wp.spec_l13Step
  rw [last_wrap (by omega)]
  refine ⟨⟨by omega, by omega⟩, fun y hy => ?_⟩
  have hy : y = x := hy
  subst hy
  have e1 : (((y.Frames.length : Nat) : Int) - 1).toNat = y.Frames.length - 1 := by omega
  refine ⟨by omega, ⟨t5, t6⟩, hr, fun s hs => ?_⟩
  have hs : s = M.splits p y := hs
  have hw : IntKind.wrap .i64 (M.topPc y + 1) = M.topPc y + 1 := w64 (by omega) (by omega)
  refine bcase_mk (fun e => ⟨by show y.Frames.length ≤ 9223372036854775807; omega, fun z hz => ?_⟩) fun e => ⟨hr, fun rg hrg => ?_⟩
  · have hsp := hs.symm.trans e
    obtain ⟨hsp', hz0, hzm⟩ := splits_iff hsp
    have hb := split_branch hr hsp'
    have hz : z = M.zeroMask y (M.topIns p y).A := by
      have hz : z = M.spec_ZeroMask y (M.topIns p y).A := hz
      rw [hz]
      unfold M.spec_ZeroMask
      rw [if_pos (by rw [zero_reg t7 hsp'.1, t4]; rfl)]
    have hact : M.activeMask y = (M.lastF y.Frames).Mask := activeMask_top hx
    obtain ⟨m1, m2, m3⟩ := mask_part (x := y) (reg := (M.topIns p y).A) (by rw [hact]; exact f5)
    rw [hact] at m2 m3
    have hm : IntKind.wrap .i64 ((M.lastF y.Frames).Mask - z) = bitNot .i64 (M.lastF y.Frames).Mask (M.zeroMask y (M.topIns p y).A) := by
      rw [m2, hz]
      simp only [M.isMask, M.isIn, Bool.and_eq_true, decide_eq_true_eq] at m3
      exact w64 (by omega) (by omega)
    refine ⟨hb, fun j hj => ⟨by omega, ⟨by simp; omega, ⟨by refine ⟨?_, ?_⟩ <;> simp <;> omega, fun d hd => ?_⟩⟩⟩⟩
    have hj : j = M.joinB p (M.topPc y) := hj
    have hd : d = M.dropW (M.separated p y) p.length := by
      rw [hd]
      show M.dropW _ _ = M.dropW _ _
      congr 1
      unfold M.separated M.setTop
      rw [← hm, ← hj, ← hz, e1, ← hw]; rfl
    show d = M.stepW p y
    unfold M.stepW
    rw [if_pos hsp]; exact hd
  · have hns : ¬ M.splits p y = true := by rw [← hs, e]; simp
    have hrg : rg = M.applyAll (M.topIns p y) y.Number (M.lastF y.Frames).Mask y.Regs := hrg
    have hfit : ∀ pc, M.WFit ⟨y.Number, y.Frames.set (((y.Frames.length : Nat) : Int) - 1).toNat ⟨pc, (M.lastF y.Frames).Stop, (M.lastF y.Frames).Mask⟩, rg⟩ := fun pc => by
      refine ⟨?_, ?_⟩
      · show (y.Frames.set _ _).length ≤ _
        rw [List.length_set]; omega
      · show rg.length ≤ _
        rw [hrg, applyAll_len t4]; omega
    have fin : ∀ pc, pc = M.turnPc p y → ∀ d, d = M.spec_DropFrames p ⟨y.Number, y.Frames.set (((y.Frames.length : Nat) : Int) - 1).toNat ⟨pc, (M.lastF y.Frames).Stop, (M.lastF y.Frames).Mask⟩, rg⟩ → d = M.stepW p y := by
      rintro _ rfl d hd
      rw [hd, hrg]
      show M.dropW _ _ = _
      unfold M.stepW
      rw [if_neg hns, e1]; rfl
    show bcase ((M.topIns p y).Op == 12) _ (bcase ((M.topIns p y).Op == 11) _ (_ ∧ bcase ((M.topIns p y).Op == 10) _ (bcase false _ _)))
    refine bcase_mk (fun c1 => ⟨by omega, hfit _, fun d hd => fin _ ?_ d hd⟩) fun c1 => bcase_mk (fun c2 => ⟨by omega, hfit _, fun d hd => fin _ ?_ d hd⟩) fun c2 => ⟨by omega, bcase_mk (fun c3 => ⟨by show y.Frames.length ≤ 9223372036854775807; omega, fun z hz => ?_⟩) fun c3 => bcase_f rfl ⟨hfit _, fun d hd => fin _ ?_ d hd⟩⟩
    · have c1 : (M.topIns p y).Op = 12 := by simpa using c1
      simp [M.turnPc, c1]
    · have c2 : (M.topIns p y).Op = 11 := by simpa using c2
      simp only [M.turnPc, c2]
      rfl
    · have c3 : (M.topIns p y).Op = 10 := by simpa using c3
      have hz : z = M.zeroMask y (M.topIns p y).A := by
        have hz : z = M.spec_ZeroMask y (M.topIns p y).A := hz
        rw [hz]
        unfold M.spec_ZeroMask
        rw [if_pos (by rw [zero_reg t7 c3, t4]; rfl)]
      show bcase (z == (M.lastF y.Frames).Mask) _ _
      rw [hz]
      refine bcase_mk (fun c4 => ⟨by rw [List.length_set]; omega, hfit _, fun d hd => fin _ ?_ d hd⟩) fun c4 => ⟨hfit _, fun d hd => fin _ ?_ d hd⟩
      · have c4 : M.zeroMask y (M.topIns p y).A = (M.lastF y.Frames).Mask := by simpa using c4
        unfold M.turnPc
        rw [if_neg (by omega), if_neg (by omega), if_pos ⟨c3, c4⟩]; rfl
      · have c4 : ¬ M.zeroMask y (M.topIns p y).A = (M.lastF y.Frames).Mask := by simpa using c4
        unfold M.turnPc
        rw [if_neg (by omega), if_neg (by omega), if_neg (fun hc => c4 hc.2)]
        exact hw
    · have c1 : ¬ (M.topIns p y).Op = 12 := by simpa using c1
      have c2 : ¬ (M.topIns p y).Op = 11 := by simpa using c2
      have c3 : ¬ (M.topIns p y).Op = 10 := by simpa using c3
      unfold M.turnPc
      rw [if_neg c1, if_neg c2, if_neg (fun hc => c3 hc.1)]
      exact hw
end Go.V
set_option linter.unusedVariables false
set_option linter.unusedSimpArgs false
set_option maxRecDepth 20000
namespace Go.V
theorem goes_of {p : List D.Ins} {x : D.Warp} (h : M.Fine p x) (hl : M.spec_l13Local p x = true) : M.Goes p x := by
  refine ⟨⟨h.1, h.2, ?_⟩, hl⟩
  simp only [M.spec_l13Local, Bool.and_eq_true] at hl
  intro e
  rw [e] at hl
  simp at hl
theorem wp.impl_Warp_pass.math (x : D.Warp) (p : List D.Ins) (h : M.impl_Warp_pass_pre x p) : wp.impl_Warp_pass x p (fun r => r = M.impl_Warp_pass x p) := by
  obtain ⟨hp, hw⟩ := h
  unfold wp.impl_Warp_pass
  rw [empty_len0]
  refine bcase_mk (fun e => ?_) fun e => ?_
  · have : M.spec_l13Local p x = false := by simp [M.spec_l13Local, e]
    unfold M.impl_Warp_pass
    rw [if_neg (by rw [this]; simp)]
  have hx : x.Frames ≠ [] := by simpa using e
  have hr : M.Runs p x := ⟨hp, hw, hx⟩
  obtain ⟨t1, t2, t3, t4, t5, t6, t7, t8, t9⟩ := runs_top hr
  rw [last_wrap (by omega)]
  have hl : ∀ b, M.isLocal (M.topIns p x) = b → M.spec_l13Local p x = (b && (!M.splits p x || decide (x.Frames.length ≤ 22))) := fun b hb => by
    simp only [M.spec_l13Local, hb, e, Bool.not_false, Bool.true_and]
  have no : M.spec_l13Local p x = false → (false, x) = M.impl_Warp_pass x p := fun hf => by
    unfold M.impl_Warp_pass
    rw [if_neg (by rw [hf]; simp)]
  have yes : M.spec_l13Local p x = true → ∀ y, y = M.stepW p x → (true, y) = M.impl_Warp_pass x p := fun hf y hy => by
    unfold M.impl_Warp_pass
    rw [if_pos hf, hy]
  refine ⟨by omega, ⟨t5, t6⟩, fun b hb => bcase_mk (fun c => no ?_) fun c => ⟨hr, fun s hs => bcase_mk (fun c2 => ⟨⟨hr, ?_⟩, fun q hq => ?_⟩) fun c2 => ⟨hr, fun q hq => ⟨?_, fun d hd => ?_⟩⟩⟩⟩
  · have c : b = false := by simpa using c
    rw [hl b hb.symm, c]; rfl
  · exact (splits_iff (hs.symm.trans c2)).1
  · have c : b = true := by simpa using c
    have hsp : M.splits p x = true := hs.symm.trans c2
    have hl' := hl b hb.symm
    rw [c, hsp] at hl'
    simp only [Bool.true_and, Bool.not_true, Bool.false_or] at hl'
    rw [hq]
    unfold M.impl_Warp_separate
    by_cases h22 : x.Frames.length ≤ 22
    · rw [decide_eq_true h22] at hl'
      rw [if_pos h22]
      refine bcase_f rfl ⟨?_, fun d hd => yes hl' _ ?_⟩
      · show (M.separated p x).Frames.length ≤ 9223372036854775807
        simp only [M.separated, M.setTop, List.length_append, List.length_set, List.length_cons, List.length_nil]; omega
      · rw [hd]
        unfold M.stepW
        rw [if_pos hsp]; rfl
    · rw [decide_eq_false h22] at hl'
      rw [if_neg h22]
      exact bcase_t rfl (no hl')
  · rw [hq]
    show (M.setTop x.Frames _).length ≤ 9223372036854775807
    simp only [M.setTop, List.length_set]; omega
  · have c : b = true := by simpa using c
    have hsp : M.splits p x = false := by rw [← show s = M.splits p x from hs, c2]
    have hl' := hl b hb.symm
    rw [c, hsp] at hl'
    refine yes hl' _ ?_
    rw [hd, hq]
    unfold M.stepW
    rw [if_neg (by rw [hsp]; simp)]; rfl
theorem wp.impl_WarpOk.math (p : List D.Ins) (x : D.Warp) (h : M.impl_WarpOk_pre p x) : wp.impl_WarpOk p x (fun r => r = M.impl_WarpOk p x) := by
  obtain ⟨h1, h2⟩ := h
  refine ⟨h1, fun b hb => bcase_mk (fun e => ⟨h2, fun c hc => ?_⟩) fun e => ?_⟩
  · have : M.programOk p = true := hb.symm.trans e
    rw [hc]
    show M.warpOf p x = _
    unfold M.impl_WarpOk M.spec_WarpOk
    rw [this, Bool.true_and]
  · have : M.programOk p = false := hb.symm.trans e
    unfold M.impl_WarpOk M.spec_WarpOk
    rw [this, Bool.false_and]
def RunI (p : List D.Ins) (x : D.Warp) (n k : Nat) : Prop := M.Fine p (M.wAt p x k) ∧ (k ≤ n → M.runW p n x 0 = M.runW p (n - k) (M.wAt p x k) (k : Int))
theorem runI_zero {p : List D.Ins} {x : D.Warp} (h : M.Fine p x) (n : Nat) : RunI p x n 0 := ⟨h, fun _ => rfl⟩
theorem runI_go {p : List D.Ins} {x : D.Warp} {n k : Nat} (h : RunI p x n k) (hk : k < n) (hl : M.spec_l13Local p (M.wAt p x k) = true) : RunI p x n (k + 1) := by
  refine ⟨stepW_fine (goes_of h.1 hl), fun _ => ?_⟩
  rw [h.2 (by omega), show n - k = (n - (k + 1)) + 1 by omega]
  simp only [M.runW]
  rw [if_pos hl]; rfl
theorem runI_stop {p : List D.Ins} {x : D.Warp} {n k : Nat} (h : RunI p x n k) (hk : k < n) (hl : M.spec_l13Local p (M.wAt p x k) = false) : M.runW p n x 0 = (M.wAt p x k, (k : Int)) := by
  rw [h.2 (by omega), show n - k = (n - (k + 1)) + 1 by omega]
  simp only [M.runW]
  rw [if_neg (by rw [hl]; simp)]
theorem runI_end {p : List D.Ins} {x : D.Warp} {n : Nat} (h : RunI p x n n) : M.runW p n x 0 = (M.wAt p x n, (n : Int)) := by
  rw [h.2 (Nat.le_refl _), Nat.sub_self]; rfl
theorem wp.spec_l14Run.math (p : List D.Ins) (x : D.Warp) (steps : Int) (h : M.spec_l14Run_pre p x steps) : wp.spec_l14Run p x steps (fun r => r = M.spec_l14Run p x steps) := by
  obtain ⟨hF, h0, h1⟩ := h
  obtain ⟨n, rfl⟩ := Int.eq_ofNat_of_zero_le h0
  unfold wp.spec_l14Run M.spec_l14Run
  rw [Int.toNat_natCast]
  refine loop_n n (fun k => ((k : Int), (M.wAt p x k).Number, (M.wAt p x k).Frames, (M.wAt p x k).Regs, ())) (RunI p x n) rfl (runI_zero hF n) (fun k hk hI next hn => ?_) fun hI next => bcase_f (by simp) (runI_end hI).symm
  dsimp only
  refine bcase_t (by simp; omega) ⟨hI.1, fun b hb => bcase_mk (fun e => ⟨goes_of hI.1 (hb.symm.trans e), fun y hy => ?_⟩) fun e => (runI_stop hI hk (hb.symm.trans e)).symm⟩
  have hn := hn (runI_go hI hk (hb.symm.trans e))
  rw [up64 hk (by omega), hy]
  exact hn
theorem wp.spec_RunWarp.math (p : List D.Ins) (x : D.Warp) (steps : Int) (h : M.spec_RunWarp_pre p x steps) : wp.spec_RunWarp p x steps (fun r => r = M.spec_RunWarp p x steps) := by
  obtain ⟨h1, h2⟩ := h
  have hWL : M.WLong x := ⟨Nat.le_trans h2.1 (by omega), Nat.le_trans h2.2 (by omega)⟩
  have no : (M.isQuiet p && (M.spec_WarpOk p x && M.isIn steps 0 8000)) = false → ∀ y, y = M.spec_l12Copy x → ((⟨y.Number, y.Frames, y.Regs⟩ : D.Warp), (-1 : Int)) = M.spec_RunWarp p x steps := fun hf y hy => by
    unfold M.spec_RunWarp M.runWarp
    rw [if_neg (by rw [hf]; simp), hy]; rfl
  refine ⟨h1, fun a ha => bcase_mk (fun e => ⟨h2, fun y hy => no ?_ y hy⟩) fun e => ⟨⟨h1, hWL⟩, fun b hb => bcase_mk (fun e2 => ⟨h2, fun y hy => no ?_ y hy⟩) fun e2 => fun c hc => bcase_mk (fun e3 => ⟨h2, fun y hy => no ?_ y hy⟩) fun e3 => ⟨h2, fun y hy => ?_⟩⟩⟩
  · have : M.isQuiet p = false := by rw [← show a = M.isQuiet p from ha]; simpa using e
    rw [this]; rfl
  · have : M.spec_WarpOk p x = false := by rw [← hb]; simpa using e2
    rw [this, Bool.false_and, Bool.and_false]
  · have : M.isIn steps 0 8000 = false := by rw [← show c = M.isIn steps 0 8000 from hc]; simpa using e3
    rw [this, Bool.and_false, Bool.and_false]
  · have q1 : M.isQuiet p = true := by rw [← show a = M.isQuiet p from ha]; simpa using e
    have q2 : M.spec_WarpOk p x = true := by rw [← hb]; simpa using e2
    have q3 : M.isIn steps 0 8000 = true := by rw [← show c = M.isIn steps 0 8000 from hc]; simpa using e3
    have hy : y = x := hy
    subst hy
    have hF : M.Fine p y := by have := q2; simp only [M.spec_WarpOk, Bool.and_eq_true] at this; exact this
    have q3' := q3
    simp only [M.isIn, Bool.and_eq_true, decide_eq_true_eq] at q3'
    refine ⟨⟨hF, by omega, by omega⟩, fun r hr => ?_⟩
    rw [hr]
    unfold M.spec_RunWarp M.runWarp
    rw [if_pos (by rw [q1, q2, q3]; rfl)]; rfl
theorem wp.impl_RunWarp.math (p : List D.Ins) (x : D.Warp) (steps : Int) (h : M.impl_RunWarp_pre p x steps) : wp.impl_RunWarp p x steps (fun r => r = M.impl_RunWarp p x steps) := by
  obtain ⟨h1, h2⟩ := h
  have hWL : M.WLong x := ⟨Nat.le_trans h2.1 (by omega), Nat.le_trans h2.2 (by omega)⟩
  refine ⟨h2, fun y hy => ?_⟩
  have hy : y = x := hy
  subst hy
  have no : (M.isQuiet p && (M.spec_WarpOk p y && M.isIn steps 0 8000)) = false → (y, (-1 : Int)) = M.impl_RunWarp p y steps := fun hf => by
    unfold M.impl_RunWarp M.runWarp
    rw [if_neg (by rw [hf]; simp)]
  refine ⟨h1, fun a ha => bcase_mk (fun e => no ?_) fun e => ⟨⟨h1, hWL⟩, fun b hb => bcase_mk (fun e2 => no ?_) fun e2 => fun c hc => bcase_mk (fun e3 => no ?_) fun e3 => ?_⟩⟩
  · have : M.isQuiet p = false := by rw [← show a = M.isQuiet p from ha]; simpa using e
    rw [this]; rfl
  · have : M.spec_WarpOk p y = false := by rw [← show b = M.spec_WarpOk p y from hb]; simpa using e2
    rw [this, Bool.false_and, Bool.and_false]
  · have : M.isIn steps 0 8000 = false := by rw [← show c = M.isIn steps 0 8000 from hc]; simpa using e3
    rw [this, Bool.and_false, Bool.and_false]
  · have q1 : M.isQuiet p = true := by rw [← show a = M.isQuiet p from ha]; simpa using e
    have q2 : M.spec_WarpOk p y = true := by rw [← show b = M.spec_WarpOk p y from hb]; simpa using e2
    have q3 : M.isIn steps 0 8000 = true := by rw [← show c = M.isIn steps 0 8000 from hc]; simpa using e3
    have hF : M.Fine p y := by have := q2; simp only [M.spec_WarpOk, Bool.and_eq_true] at this; exact this
    have hM : M.impl_RunWarp p y steps = M.runW p steps.toNat y 0 := by
      unfold M.impl_RunWarp M.runWarp
      rw [if_pos (by rw [q1, q2, q3]; rfl)]
    rw [hM]
    simp only [M.isIn, Bool.and_eq_true, decide_eq_true_eq] at q3
    obtain ⟨n, rfl⟩ := Int.eq_ofNat_of_zero_le q3.1
    rw [Int.toNat_natCast]
    refine loop_n n (fun k => ((k : Int), (M.wAt p y k).Number, (M.wAt p y k).Frames, (M.wAt p y k).Regs, ())) (RunI p y n) rfl (runI_zero hF n) (fun k hk hI next hn => ?_) fun hI next => bcase_f (by simp) (runI_end hI).symm
    dsimp only
    refine bcase_t (by simp; omega) ⟨hI.1, fun r hr => ?_⟩
    rw [hr]
    unfold M.impl_Warp_pass
    cases hl : M.spec_l13Local p (M.wAt p y k) with
    | true =>
      have hn := hn (runI_go hI hk hl)
      rw [if_pos rfl, up64 hk (by omega)]
      exact bcase_t rfl hn
    | false =>
      rw [if_neg (by simp)]
      exact bcase_f rfl (runI_stop hI hk hl).symm
end Go.V
set_option linter.unusedVariables false
namespace Go.V
def wp.laws_markWarp (s0 : D.Warp) (x1 : Int) (Q : (Int × (List D.Frame) × (List Int)) → Prop) : Prop :=
  (M.laws_markFrameS_pre s0.Frames x1 ∧ ∀ r23, r23 = M.laws_markFrameS s0.Frames x1 → (M.laws_markIntS_pre s0.Regs r23.1 ∧ ∀ r29, r29 = M.laws_markIntS s0.Regs r23.1 → Q (r29.1, r23.2, r29.2)))
def wp.laws_heldWarp (s0 : D.Warp) (x1 : Int) (Q : Int → Prop) : Prop :=
  (M.laws_heldFrameS_pre s0.Frames x1 ∧ ∀ r23, r23 = M.laws_heldFrameS s0.Frames x1 → bcase (decide (r23 < 0)) (Q (-1)) ((M.laws_heldIntS_pre s0.Regs r23 ∧ ∀ r28, r28 = M.laws_heldIntS s0.Regs r23 → bcase (decide (r28 < 0)) (Q (-1)) (Q r28))))
def wp.laws_FnExactRunWarp (xs0 : List D.Ins) (s1 : D.Warp) (x2 : Int) (Q : Bool → Prop) : Prop :=
  (M.laws_szInsS_pre xs0 1048576 ∧ ∀ r23, r23 = M.laws_szInsS xs0 1048576 → bcase (decide (r23 < 0)) (Q true) ((M.laws_szWarp_pre s1 r23 ∧ ∀ r28, r28 = M.laws_szWarp s1 r23 → bcase (decide (r28 < 0)) (Q true) (JoinP (σ := Int × (List D.Frame) × (List Int) × Int × Unit) (fun J41 => (((M.laws_toInsS_pre xs0 ∧ ∀ r45, r45 = M.laws_toInsS xs0 → (((M.laws_toWarp_pre s1 ∧ ∀ r52, r52 = M.laws_toWarp s1 → (((M.spec_RunWarp_pre r45 r52 x2 ∧ ∀ r61, r61 = M.spec_RunWarp r45 r52 x2 → J41 (r61.1.Number, r61.1.Frames, r61.1.Regs, r61.2, ()))) ∧ ((M.spec_RunWarp_pre r45 r52 x2 ∧ ∀ r76, r76 = M.spec_RunWarp r45 r52 x2 → J41 (r76.1.Number, r76.1.Frames, r76.1.Regs, r76.2, ()))) ∧ True))) ∧ ((M.laws_toWarp_pre s1 ∧ ∀ r89, r89 = M.laws_toWarp s1 → (M.spec_RunWarp_pre r45 r89 x2 ∧ ∀ r98, r98 = M.spec_RunWarp r45 r89 x2 → J41 (r98.1.Number, r98.1.Frames, r98.1.Regs, r98.2, ())))) ∧ True))) ∧ ((M.laws_toInsS_pre xs0 ∧ ∀ r111, r111 = M.laws_toInsS xs0 → (M.laws_toWarp_pre s1 ∧ ∀ r118, r118 = M.laws_toWarp s1 → (M.spec_RunWarp_pre r111 r118 x2 ∧ ∀ r127, r127 = M.spec_RunWarp r111 r118 x2 → J41 (r127.1.Number, r127.1.Frames, r127.1.Regs, r127.2, ()))))) ∧ True)) (fun (p363 : Int × (List D.Frame) × (List Int) × Int × Unit) => match p363 with | (i33, xs34, xs37, i40, _) => (M.laws_toInsS_pre xs0 ∧ ∀ r138, r138 = M.laws_toInsS xs0 → (M.laws_toWarp_pre s1 ∧ ∀ r145, r145 = M.laws_toWarp s1 → (M.impl_RunWarp_pre r138 r145 x2 ∧ ∀ r158, r158 = M.impl_RunWarp r138 r145 x2 → (M.laws_eqWarp_pre r158.1 (⟨i33, xs34, xs37⟩ : D.Warp) ∧ ∀ r171, r171 = M.laws_eqWarp r158.1 (⟨i33, xs34, xs37⟩ : D.Warp) → bcase (!r171) (Q false) (bcase (r158.2 != i40) (Q false) ((M.laws_toInsS_pre xs0 ∧ ∀ r176, r176 = M.laws_toInsS xs0 → (M.laws_eqInsS_pre r138 r176 ∧ ∀ r183, r183 = M.laws_eqInsS r138 r176 → bcase (!r183) (Q false) ((M.laws_toWarp_pre s1 ∧ ∀ r189, r189 = M.laws_toWarp s1 → (M.laws_eqWarp_pre r145 r189 ∧ ∀ r198, r198 = M.laws_eqWarp r145 r189 → bcase (!r198) (Q false) ((M.laws_markInsS_pre r138 1 ∧ ∀ r203, r203 = M.laws_markInsS r138 1 → (M.laws_markWarp_pre r145 r203.1 ∧ ∀ r209, r209 = M.laws_markWarp r145 r203.1 → bcase (decide (r209.1 < 0)) (Q false) ((M.laws_eqWarp_pre r158.1 (⟨i33, xs34, xs37⟩ : D.Warp) ∧ ∀ r216, r216 = M.laws_eqWarp r158.1 (⟨i33, xs34, xs37⟩ : D.Warp) → bcase (!r216) (Q false) (bcase (r158.2 != i40) (Q false) ((M.laws_markWarp_pre r158.1 1 ∧ ∀ r221, r221 = M.laws_markWarp r158.1 1 → (M.laws_heldWarp_pre (⟨r158.1.Number, r221.2.1, r221.2.2⟩ : D.Warp) 1 ∧ ∀ r228, r228 = M.laws_heldWarp (⟨r158.1.Number, r221.2.1, r221.2.2⟩ : D.Warp) 1 → bcase (decide (r228 < 0)) (Q false) (bcase (r228 != r221.1) (Q false) (JoinP (σ := Int × (List D.Frame) × (List Int) × Int × Unit) (fun J241 => (((M.laws_toInsS_pre xs0 ∧ ∀ r245, r245 = M.laws_toInsS xs0 → (((M.laws_toWarp_pre s1 ∧ ∀ r252, r252 = M.laws_toWarp s1 → (((M.impl_RunWarp_pre r245 r252 x2 ∧ ∀ r261, r261 = M.impl_RunWarp r245 r252 x2 → J241 (r261.1.Number, r261.1.Frames, r261.1.Regs, r261.2, ()))) ∧ ((M.impl_RunWarp_pre r245 r252 x2 ∧ ∀ r276, r276 = M.impl_RunWarp r245 r252 x2 → J241 (r276.1.Number, r276.1.Frames, r276.1.Regs, r276.2, ()))) ∧ True))) ∧ ((M.laws_toWarp_pre s1 ∧ ∀ r289, r289 = M.laws_toWarp s1 → (M.impl_RunWarp_pre r245 r289 x2 ∧ ∀ r298, r298 = M.impl_RunWarp r245 r289 x2 → J241 (r298.1.Number, r298.1.Frames, r298.1.Regs, r298.2, ())))) ∧ True))) ∧ ((M.laws_toInsS_pre xs0 ∧ ∀ r311, r311 = M.laws_toInsS xs0 → (M.laws_toWarp_pre s1 ∧ ∀ r318, r318 = M.laws_toWarp s1 → (M.impl_RunWarp_pre r311 r318 x2 ∧ ∀ r327, r327 = M.impl_RunWarp r311 r318 x2 → J241 (r327.1.Number, r327.1.Frames, r327.1.Regs, r327.2, ()))))) ∧ True)) (fun (p352 : Int × (List D.Frame) × (List Int) × Int × Unit) => match p352 with | (i233, xs234, xs237, i240, _) => (M.laws_eqWarp_pre (⟨i233, xs234, xs237⟩ : D.Warp) (⟨i33, xs34, xs37⟩ : D.Warp) ∧ ∀ r338, r338 = M.laws_eqWarp (⟨i233, xs234, xs237⟩ : D.Warp) (⟨i33, xs34, xs37⟩ : D.Warp) → bcase (!r338) (Q false) (bcase (i240 != i40) (Q false) ((M.laws_heldWarp_pre (⟨r158.1.Number, r221.2.1, r221.2.2⟩ : D.Warp) 1 ∧ ∀ r343, r343 = M.laws_heldWarp (⟨r158.1.Number, r221.2.1, r221.2.2⟩ : D.Warp) 1 → bcase (decide (r343 < 0)) (Q false) (bcase (r343 != r221.1) (Q false) (Q true))))))))))))))))))))))))))))))))))
end Go.V
set_option linter.unusedVariables false
set_option linter.unusedSimpArgs false
set_option maxRecDepth 20000
namespace Go.V
theorem wp.laws_markWarp.math (x : D.Warp) (k : Int) (h : M.laws_markWarp_pre x k) : wp.laws_markWarp x k (fun r => r = M.laws_markWarp x k) := by
  obtain ⟨h0, h1⟩ := h
  refine ⟨⟨⟨by omega, by omega⟩, by unfold M.Few; omega⟩, fun r hr => ?_⟩
  subst hr
  refine ⟨⟨⟨by simp only [M.laws_markFrameS]; omega, by simp only [M.laws_markFrameS]; omega⟩, by unfold M.Few; omega⟩, fun r hr => ?_⟩
  subst hr
  simp only [M.laws_markFrameS, M.laws_markIntS, M.laws_markWarp]
theorem wp.laws_heldWarp.math (x : D.Warp) (k : Int) (h : M.laws_heldWarp_pre x k) : wp.laws_heldWarp x k (fun r => r = M.laws_heldWarp x k) := by
  obtain ⟨h0, h1⟩ := h
  refine ⟨⟨⟨by omega, by omega⟩, by unfold M.Few; omega⟩, fun r hr => ?_⟩
  by_cases f1 : x.Frames = M.seqFrame k x.Frames.length
  · have hr1 : r = k + 3 * x.Frames.length := by rw [hr]; unfold M.laws_heldFrameS; rw [if_pos f1]
    refine bcase_f (by simp; omega) ⟨⟨⟨by omega, by omega⟩, by unfold M.Few; omega⟩, fun r2 hr2 => ?_⟩
    by_cases f2 : x.Regs = M.seqInt (k + 3 * x.Frames.length) x.Regs.length
    · have hr3 : r2 = k + 3 * x.Frames.length + x.Regs.length := by rw [hr2, hr1]; unfold M.laws_heldIntS; rw [if_pos f2]
      refine bcase_f (by simp; omega) ?_
      rw [hr3]
      unfold M.laws_heldWarp
      rw [if_pos ⟨f1, f2⟩]
    · have hr3 : r2 = -1 := by rw [hr2, hr1]; unfold M.laws_heldIntS; rw [if_neg f2]
      refine bcase_t (by rw [hr3]; rfl) ?_
      unfold M.laws_heldWarp
      rw [if_neg fun h => f2 h.2]
  · have hr1 : r = -1 := by rw [hr]; unfold M.laws_heldFrameS; rw [if_neg f1]
    refine bcase_t (by rw [hr1]; rfl) ?_
    unfold M.laws_heldWarp
    rw [if_neg fun h => f1 h.1]
theorem held_markW (n : Int) (x : D.Warp) (k : Int) : M.laws_heldWarp ⟨n, M.seqFrame k x.Frames.length, M.seqInt (k + 3 * x.Frames.length) x.Regs.length⟩ k = k + 3 * x.Frames.length + x.Regs.length := by
  unfold M.laws_heldWarp
  rw [if_pos ⟨by simp only [seqFrame_len], by simp only [seqFrame_len, seqInt_len]⟩]
  simp only [seqFrame_len, seqInt_len]
theorem fine_small {p : List D.Ins} {x : D.Warp} (h : M.Fine p x) : x.Frames.length ≤ 24 ∧ x.Regs.length = 32 := by
  have hw := h.2
  simp only [M.warpOf, M.areFrames, Bool.and_eq_true, Bool.or_eq_true, beq_iff_eq] at hw
  obtain ⟨h1, h2, h3, h4, h5⟩ := hw
  refine ⟨?_, h2⟩
  rcases h5 with h5 | h5
  · have : x.Frames = [] := by simpa using h5
    rw [this]; simp
  · simp only [M.endsOk, Bool.and_eq_true, decide_eq_true_eq] at h5
    exact h5.1
theorem runW_fine {p : List D.Ins} : ∀ (n : Nat) (x : D.Warp) (k : Int), M.Fine p x → M.Fine p (M.runW p n x k).1
  | 0, x, k, h => h
  | n + 1, x, k, h => by
    simp only [M.runW]
    split
    · rename_i hl
      exact runW_fine n _ _ (stepW_fine (goes_of h hl))
    · exact h
theorem runWarp_small {p : List D.Ins} {x : D.Warp} {steps : Int} {n : Nat} (hn : 32 ≤ n) (h1 : x.Frames.length ≤ n) (h2 : x.Regs.length ≤ n) : (M.runWarp p x steps).1.Frames.length ≤ n ∧ (M.runWarp p x steps).1.Regs.length ≤ n := by
  unfold M.runWarp
  split
  · rename_i hc
    simp only [Bool.and_eq_true, M.spec_WarpOk] at hc
    have := fine_small (runW_fine (p := p) steps.toNat x 0 ⟨hc.2.1.1, hc.2.1.2⟩)
    omega
  · exact ⟨h1, h2⟩
theorem sz_smallP {p : List D.Ins} {r : Int} (hr : r = M.laws_szInsS p 1048576) (e : decide (r < 0) = false) : p.length ≤ 1048576 ∧ r = 1048576 - p.length := by
  rw [hr] at e ⊢
  unfold M.laws_szInsS at e ⊢
  split at e
  · simp at e
  · rename_i hc
    rw [if_neg hc]; exact ⟨by omega, rfl⟩
theorem sz_smallW {x : D.Warp} {l r : Int} (hl : l ≤ 1048576) (hr : r = M.laws_szWarp x l) (e : decide (r < 0) = false) : x.Frames.length ≤ 1048576 ∧ x.Regs.length ≤ 1048576 := by
  have e := of_decide_eq_false e
  rw [hr] at e
  unfold M.laws_szWarp at e
  split at e
  · omega
  · rename_i h1
    split at e
    · omega
    · rename_i h2
      unfold M.laws_szFrameS at h1 h2
      unfold M.laws_szIntS at h2
      have h3 : ¬ l - (x.Frames.length : Int) < 0 := by intro hc; rw [if_pos hc] at h1; omega
      rw [if_neg h3] at h2
      split at h2 <;> omega
theorem wp.laws_FnExactRunWarp.math (p : List D.Ins) (x : D.Warp) (steps : Int) (h : M.laws_FnExactRunWarp_pre p x steps) : wp.laws_FnExactRunWarp p x steps (fun r => r = M.laws_FnExactRunWarp p x steps) := by
  obtain ⟨h1, h2⟩ := h
  refine ⟨⟨by omega, by omega, h1⟩, fun r hr => bcase_mk (fun _ => rfl) fun e => ?_⟩
  obtain ⟨hl, hr'⟩ := sz_smallP hr e
  refine ⟨⟨⟨by omega, by omega⟩, h2⟩, fun r2 hr2 => bcase_mk (fun _ => rfl) fun e2 => ?_⟩
  obtain ⟨hF, hR⟩ := sz_smallW (by omega) hr2 e2
  have hs : M.laws_toInsS_pre p := by unfold M.laws_toInsS_pre; omega
  have hw : M.laws_toWarp_pre x := ⟨by omega, by omega⟩
  have q1 : M.spec_RunWarp_pre p x steps := ⟨h1, by unfold M.WFit; omega⟩
  have q2 : M.impl_RunWarp_pre p x steps := q1
  obtain ⟨n1, n2⟩ := runWarp_small (p := p) (steps := steps) (n := 1048576) (by omega) hF hR
  have hWL : M.WLong (M.runWarp p x steps).1 := by unfold M.WLong M.Long; omega
  have hXL : M.WLong x := by unfold M.WLong M.Long; omega
  have q3 : M.laws_markInsS_pre p 1 := ⟨⟨by omega, by omega⟩, by unfold M.Few; omega⟩
  have q4 : M.laws_markWarp_pre x (1 + 4 * p.length) := ⟨by omega, by omega⟩
  have q5 : M.laws_markWarp_pre (M.runWarp p x steps).1 1 := ⟨by omega, by omega⟩
  have q6 : M.laws_heldWarp_pre ⟨(M.runWarp p x steps).1.Number, M.seqFrame 1 (M.runWarp p x steps).1.Frames.length, M.seqInt (1 + 3 * (M.runWarp p x steps).1.Frames.length) (M.runWarp p x steps).1.Regs.length⟩ 1 := ⟨by omega, by simp only [seqFrame_len, seqInt_len]; omega⟩
  have b1 : decide (1 + 4 * (p.length : Int) + 3 * (x.Frames.length : Int) + (x.Regs.length : Int) < 0) = false := decide_eq_false (by omega)
  have b2 : decide (1 + 3 * ((M.runWarp p x steps).1.Frames.length : Int) + ((M.runWarp p x steps).1.Regs.length : Int) < 0) = false := decide_eq_false (by omega)
  refine joinP_of ((M.runWarp p x steps).1.Number, (M.runWarp p x steps).1.Frames, (M.runWarp p x steps).1.Regs, (M.runWarp p x steps).2, ()) ?_ fun J hJ => by
    simp only [M.laws_toInsS, M.laws_toWarp, forall_eq, M.spec_RunWarp, hs, hw, q1, hJ, true_and, and_true, and_self]
  simp only [M.laws_toInsS, M.laws_toWarp, forall_eq, M.impl_RunWarp, M.laws_eqWarp, M.laws_eqInsS, M.laws_markInsS, M.laws_markWarp, held_markW, beq_self_eq_true, bne_self_eq_false, Bool.not_true, b1, b2, bcase]
  refine ⟨hs, hw, q2, hWL, hs, h1, hw, hXL, q3, q4, hWL, q5, q6, ?_⟩
  refine joinP_of ((M.runWarp p x steps).1.Number, (M.runWarp p x steps).1.Frames, (M.runWarp p x steps).1.Regs, (M.runWarp p x steps).2, ()) ?_ fun J hJ => by
    simp only [hs, hw, q2, hJ, true_and, and_true, and_self]
  simp only [beq_self_eq_true, bne_self_eq_false, Bool.not_true, b1, b2, bcase]
  exact ⟨hWL, q6, rfl⟩
end Go.V
