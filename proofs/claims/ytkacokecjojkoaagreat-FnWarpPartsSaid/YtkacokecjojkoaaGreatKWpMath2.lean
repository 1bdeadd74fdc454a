import Derived.Test.YtkacokecjojkoaaGreatKWpMath1
set_option linter.unusedVariables false
set_option linter.unusedSimpArgs false
set_option maxRecDepth 20000
namespace Go.V
theorem laneCut_len {r : List Int} {l : Nat} (h : r.length = 32) (hl : l < 8) : (M.laneCut r l).length = 4 := by unfold M.laneCut; simp; omega
theorem putLane_len {r x : List Int} {l : Nat} (h : r.length = 32) (hl : l < 8) (hx : x.length = 4) : (M.putLane r l x).length = 32 := by unfold M.putLane; simp; omega
theorem putLane_get {r x : List Int} {l : Nat} (h : r.length = 32) (hl : l < 8) (hx : x.length = 4) (i : Nat) : (M.putLane r l x)[i]? = if l * 4 ≤ i ∧ i < l * 4 + 4 then x[i - l * 4]? else r[i]? := by
  unfold M.putLane
  rw [List.getElem?_append, List.length_append, List.length_take, Nat.min_eq_left (by omega), hx, List.getElem?_append, List.length_take, Nat.min_eq_left (by omega)]
  by_cases h1 : i < l * 4
  · rw [if_pos (by omega), if_pos h1, if_neg (by omega), List.getElem?_take, if_pos h1]
  · by_cases h2 : i < l * 4 + 4
    · rw [if_pos h2, if_neg h1, if_pos (by omega)]
    · rw [if_neg h2, if_neg (by omega), List.getElem?_drop]
      congr 1; omega
theorem laneCut_get (r : List Int) (l i : Nat) : (M.laneCut r l)[i]? = if i < 4 then r[l * 4 + i]? else none := by
  unfold M.laneCut
  rw [List.getElem?_drop, List.getElem?_take]
  by_cases h : i < 4
  · rw [if_pos h, if_pos (by omega)]
  · rw [if_neg h, if_neg (by omega)]
theorem cut_put_other {r x : List Int} {l j : Nat} (h : r.length = 32) (hl : l < 8) (hx : x.length = 4) (hne : j ≠ l) : M.laneCut (M.putLane r l x) j = M.laneCut r j := by
  apply List.ext_getElem?
  intro i
  rw [laneCut_get, laneCut_get]
  by_cases hi : i < 4
  · rw [if_pos hi, if_pos hi, putLane_get h hl hx, if_neg (by omega)]
  · rw [if_neg hi, if_neg hi]
theorem put_self {r : List Int} {l : Nat} (h : r.length = 32) (hl : l < 8) : M.putLane r l (M.laneCut r l) = r := by
  apply List.ext_getElem?
  intro i
  rw [putLane_get h hl (laneCut_len h hl)]
  by_cases hi : l * 4 ≤ i ∧ i < l * 4 + 4
  · rw [if_pos hi, laneCut_get, if_pos (by omega)]
    congr 1; omega
  · rw [if_neg hi]
theorem applyTo_len {i : D.Ins} {num m : Int} {r : List Int} (h : r.length = 32) : ∀ k, k ≤ 8 → (M.applyTo i num m r k).length = 32
  | 0, _ => h
  | k + 1, hk => by
    have ih := applyTo_len (i := i) (num := num) (m := m) h k (by omega)
    simp only [M.applyTo]
    split
    · exact putLane_len ih (by omega) (by rw [apply_len, laneCut_len h (by omega)])
    · exact ih
theorem applyTo_cut {i : D.Ins} {num m : Int} {r : List Int} (h : r.length = 32) : ∀ k, k ≤ 8 → ∀ j, k ≤ j → M.laneCut (M.applyTo i num m r k) j = M.laneCut r j
  | 0, _, _, _ => rfl
  | k + 1, hk, j, hj => by
    have ih := applyTo_cut (i := i) (num := num) (m := m) h k (by omega) j (by omega)
    simp only [M.applyTo]
    split
    · rw [cut_put_other (applyTo_len h k (by omega)) (by omega) (by rw [apply_len, laneCut_len h (by omega)]) (by omega), ih]
    · exact ih
def stepL (i : D.Ins) (num : Int) (acc : List Int) (l : Int) : List Int := M.impl_apply_v i (num * 8 + l) acc (l * 4).toNat (l * 4 + 4).toNat
theorem stepL_put (i : D.Ins) (num : Int) (acc : List Int) (k : Nat) : stepL i num acc (k : Int) = M.putLane acc k (M.apply i (num * 8 + (k : Int)) (M.laneCut acc k)) := by
  unfold stepL M.impl_apply_v M.putLane M.laneCut
  rw [show ((k : Int) * 4).toNat = k * 4 by omega, show ((k : Int) * 4 + 4).toNat = k * 4 + 4 by omega]
theorem applyAll_fold {i : D.Ins} {num m : Int} {r : List Int} (h : r.length = 32) : M.applyAll i num m r = (M.lanesOf m).foldl (stepL i num) r := by
  have key : ∀ k, k ≤ 8 → (List.range k).foldl (fun acc (j : Nat) => if M.hasLane m (j : Int) = true then stepL i num acc (j : Int) else acc) r = M.applyTo i num m r k := by
    intro k
    induction k with
    | zero => intro _; rfl
    | succ k ih =>
      intro hk
      rw [List.range_succ, List.foldl_append, ih (by omega)]
      simp only [List.foldl_cons, List.foldl_nil, M.applyTo]
      rw [stepL_put, applyTo_cut h k (by omega) k (Nat.le_refl _)]
  unfold M.applyAll
  rw [← key 8 (Nat.le_refl _)]
  unfold M.lanesOf
  rw [List.foldl_filter]
  rfl
theorem fold_len {i : D.Ins} {num : Int} : ∀ (l : List Int) (r : List Int), r.length = 32 → (∀ k ∈ l, 0 ≤ k ∧ k ≤ 7) → (l.foldl (stepL i num) r).length = 32
  | [], r, h, _ => h
  | k :: l, r, h, hl => by
    simp only [List.foldl_cons]
    obtain ⟨h0, h7⟩ := hl k List.mem_cons_self
    refine fold_len l _ ?_ fun j hj => hl j (List.mem_cons_of_mem _ hj)
    rw [show k = ((k.toNat : Nat) : Int) by omega, stepL_put]
    exact putLane_len h (by omega) (by rw [apply_len, laneCut_len h (by omega)])
theorem applyAll_len {i : D.Ins} {num m : Int} {r : List Int} (h : r.length = 32) : (M.applyAll i num m r).length = 32 := applyTo_len h 8 (Nat.le_refl _)
theorem applyAll_branch {i : D.Ins} {num m : Int} {r : List Int} (h : r.length = 32) (e : i.Op = 10) : M.applyAll i num m r = r := by
  have ha : ∀ t (q : List Int), M.apply i t q = q := fun t q => by simp [M.apply, e]
  have : ∀ k, k ≤ 8 → M.applyTo i num m r k = r := by
    intro k
    induction k with
    | zero => intro _; rfl
    | succ k ih =>
      intro hk
      simp only [M.applyTo, ih (by omega), ha, put_self h (show k < 8 by omega), ite_self]
  exact this 8 (Nat.le_refl _)
theorem words_put {r x : List Int} {l : Nat} (h : r.all M.isWord = true) (hx : x.all M.isWord = true) : (M.putLane r l x).all M.isWord = true := by
  rw [List.all_eq_true] at h hx ⊢
  intro y hy
  unfold M.putLane at hy
  rcases List.mem_append.1 hy with hy | hy
  · rcases List.mem_append.1 hy with hy | hy
    · exact h y (List.mem_of_mem_take hy)
    · exact hx y hy
  · exact h y (List.mem_of_mem_drop hy)
theorem words_cut {r : List Int} {l : Nat} (h : r.all M.isWord = true) : (M.laneCut r l).all M.isWord = true := by
  rw [List.all_eq_true] at h ⊢
  intro y hy
  exact h y (List.mem_of_mem_take (List.mem_of_mem_drop hy))
theorem applyTo_words {i : D.Ins} {n num m : Int} {r : List Int} (hok : M.insOk i n = true) (hn : 0 ≤ num ∧ num ≤ 2) (hl : r.length = 32) (h : r.all M.isWord = true) : ∀ k, k ≤ 8 → (M.applyTo i num m r k).all M.isWord = true
  | 0, _ => h
  | k + 1, hk => by
    have ih := applyTo_words (m := m) hok hn hl h k (by omega)
    simp only [M.applyTo]
    split
    · exact words_put ih (apply_words hok (by omega) (laneCut_len hl (by omega)) (words_cut h))
    · exact ih
theorem lastF_set {fs : List D.Frame} (h : fs ≠ []) (pc : Int) : M.lastF (M.setTop fs pc) = ⟨pc, (M.lastF fs).Stop, (M.lastF fs).Mask⟩ := by
  have hpos : 0 < fs.length := List.length_pos_iff.2 h
  have e : (((fs.length : Nat) : Int) - 1) = ((fs.length - 1 : Nat) : Int) := by omega
  unfold M.lastF M.setTop
  rw [List.length_set, e, rd_nat (by rw [List.length_set]; omega), List.getElem_set_self]
  unfold M.lastF
  rw [e]
theorem mem_lastF {fs : List D.Frame} (h : fs ≠ []) : M.lastF fs ∈ fs := by
  have hpos : 0 < fs.length := List.length_pos_iff.2 h
  exact rd_of (by omega) (by omega)
theorem setTop_all {fs : List D.Frame} {n pc : Int} (h : fs.all (M.frameOk n) = true) (hx : fs ≠ []) (hp : 0 ≤ pc ∧ pc ≤ n) : (M.setTop fs pc).all (M.frameOk n) = true := by
  rw [List.all_eq_true] at h ⊢
  intro f hf
  rcases List.mem_or_eq_of_mem_set hf with hf | rfl
  · exact h f hf
  · have := h _ (mem_lastF hx)
    simp only [M.frameOk, M.isIn, Bool.and_eq_true, decide_eq_true_eq] at this ⊢
    exact ⟨hp, this.2⟩
theorem drop_spec (fs : List D.Frame) (n : Int) : ∀ k, k ≤ fs.length → M.dropN fs n k = [] ∨ ∃ j : Nat, 0 < j ∧ j ≤ k ∧ M.dropN fs n k = fs.take j ∧ (rd fs ((j - 1 : Nat) : Int)).Pc ≠ (rd fs ((j - 1 : Nat) : Int)).Stop ∧ (rd fs ((j - 1 : Nat) : Int)).Pc ≠ n
  | 0, _ => .inl rfl
  | k + 1, hk => by
    simp only [M.dropN]
    split
    · rename_i e
      exact .inr ⟨k + 1, by omega, Nat.le_refl _, rfl, e⟩
    · rcases drop_spec fs n k (by omega) with h | ⟨j, h0, h1, h2⟩
      · exact .inl h
      · exact .inr ⟨j, h0, by omega, h2⟩
theorem drop_fine {fs : List D.Frame} {n : Int} (hall : fs.all (M.frameOk n) = true) (hl : fs.length ≤ 24) (h0 : fs ≠ [] → (rd fs 0).Stop = n ∧ (rd fs 0).Mask = 255) : M.areFrames (M.dropF fs n) n = true := by
  unfold M.dropF
  rcases drop_spec fs n fs.length (Nat.le_refl _) with h | ⟨j, hj0, hj1, h2, h3, h4⟩
  · rw [h]; rfl
  · rw [h2]
    have hne : fs ≠ [] := by intro e; rw [e] at hj1; simp at hj1; omega
    have hlen : (fs.take j).length = j := by rw [List.length_take]; omega
    have hall' : (fs.take j).all (M.frameOk n) = true := by
      rw [List.all_eq_true] at hall ⊢
      exact fun f hf => hall f (List.mem_of_mem_take hf)
    have hlast : M.lastF (fs.take j) = rd fs ((j - 1 : Nat) : Int) := by
      unfold M.lastF
      rw [hlen, show ((j : Int) - 1) = ((j - 1 : Nat) : Int) by omega, rd_take (by omega)]
    have hz : rd (fs.take j) 0 = rd fs 0 := by
      have := rd_take (l := fs) (k := 0) (m := j) (by omega)
      exact this
    unfold M.areFrames
    rw [hall', Bool.true_and, Bool.or_eq_true]
    right
    unfold M.endsOk
    rw [hlast, hz, hlen]
    obtain ⟨k1, k2⟩ := h0 hne
    simp only [Bool.and_eq_true, decide_eq_true_eq, bne_iff_ne, beq_iff_eq]
    exact ⟨by omega, h3, h4, k1, k2⟩
theorem setTop_first {fs : List D.Frame} (h : fs ≠ []) (pc : Int) : (rd (M.setTop fs pc) 0).Stop = (rd fs 0).Stop ∧ (rd (M.setTop fs pc) 0).Mask = (rd fs 0).Mask := by
  have hpos : 0 < fs.length := List.length_pos_iff.2 h
  have z : (0 : Int) = ((0 : Nat) : Int) := rfl
  by_cases h1 : fs.length = 1
  · have hl := lastF_set h pc
    have e1 : M.lastF (M.setTop fs pc) = rd (M.setTop fs pc) 0 := by unfold M.lastF M.setTop; rw [List.length_set, h1]; rfl
    have e2 : M.lastF fs = rd fs 0 := by unfold M.lastF; rw [h1]; rfl
    rw [← e1, hl, e2]; exact ⟨rfl, rfl⟩
  · have e : rd (M.setTop fs pc) 0 = rd fs 0 := by
      unfold M.setTop rd
      rw [List.getD_eq_getElem?_getD, List.getD_eq_getElem?_getD, List.getElem?_set_ne (by simp; omega)]
    rw [e]; exact ⟨rfl, rfl⟩
theorem runs_frames {p : List D.Ins} {x : D.Warp} (h : M.Runs p x) : x.Frames.all (M.frameOk p.length) = true ∧ x.Frames.length ≤ 24 ∧ (rd x.Frames 0).Stop = p.length ∧ (rd x.Frames 0).Mask = 255 ∧ M.isMask (M.lastF x.Frames).Mask = true ∧ x.Regs.all M.isWord = true := by
  obtain ⟨hp, hw, hx⟩ := h
  simp only [M.warpOf, M.areFrames, Bool.and_eq_true, Bool.or_eq_true] at hw
  obtain ⟨h1, h2, h3, h4, h5⟩ := hw
  have h5 := h5.resolve_left (by simpa using hx)
  have hf := List.all_eq_true.1 h4 _ (mem_lastF hx)
  simp only [M.endsOk, M.frameOk, Bool.and_eq_true, decide_eq_true_eq, beq_iff_eq] at h5 hf
  exact ⟨h4, h5.1, h5.2.2.2.1, h5.2.2.2.2, hf.2.2.1, h3⟩
theorem split_branch {p : List D.Ins} {x : D.Warp} (h : M.Runs p x) (hs : M.isSplit p x) : M.Branch p (M.topPc x) := by
  obtain ⟨_, _, _, _, t5, t6, _⟩ := runs_top h
  refine ⟨h.1, t5, t6, ?_⟩
  unfold M.isBr
  simp only [Bool.and_eq_true, beq_iff_eq, bne_iff_ne]
  exact hs
theorem splits_iff {p : List D.Ins} {x : D.Warp} (h : M.splits p x = true) : M.isSplit p x ∧ M.zeroMask x (M.topIns p x).A ≠ 0 ∧ M.zeroMask x (M.topIns p x).A ≠ (M.lastF x.Frames).Mask := by
  simp only [M.splits, Bool.and_eq_true, beq_iff_eq, bne_iff_ne] at h
  exact ⟨h.1, h.2.1, h.2.2⟩
theorem turn_in {p : List D.Ins} {x : D.Warp} (h : M.Runs p x) : 0 ≤ M.turnPc p x ∧ M.turnPc p x ≤ ((p.length : Nat) : Int) := by
  obtain ⟨_, _, _, _, t5, t6, t7, _⟩ := runs_top h
  unfold M.turnPc
  split
  · omega
  · split
    · exact target_in t7 (.inr (by assumption))
    · split
      · rename_i e; exact target_in t7 (.inl e.1)
      · omega
theorem stepW_fine {p : List D.Ins} {x : D.Warp} (h : M.Goes p x) : M.Fine p (M.stepW p x) := by
  obtain ⟨hr, hl⟩ := h
  obtain ⟨t1, t2, t3, t4, t5, t6, t7, t8, t9⟩ := runs_top hr
  obtain ⟨f1, f2, f3, f4, f5, f6⟩ := runs_frames hr
  have hx := hr.2.2
  refine ⟨hr.1, ?_⟩
  have fin : ∀ (fs : List D.Frame) (rg : List Int), rg.length = 32 → rg.all M.isWord = true → fs.all (M.frameOk p.length) = true → fs.length ≤ 24 → (fs ≠ [] → (rd fs 0).Stop = p.length ∧ (rd fs 0).Mask = 255) → M.warpOf p (M.dropW ⟨x.Number, fs, rg⟩ p.length) = true := by
    intro fs rg g1 g2 g3 g4 g5
    simp only [M.warpOf, M.dropW, Bool.and_eq_true, beq_iff_eq]
    exact ⟨by simp only [M.isIn, Bool.and_eq_true, decide_eq_true_eq]; exact ⟨t8, t9⟩, g1, g2, drop_fine g3 g4 g5⟩
  have s0 := fun pc => setTop_first hx pc
  unfold M.stepW
  by_cases hs : M.splits p x = true
  · rw [if_pos hs]
    obtain ⟨hsp, hz0, hzm⟩ := splits_iff hs
    have hb := split_branch hr hsp
    have hj := join_in hb
    have hact : M.activeMask x = (M.lastF x.Frames).Mask := activeMask_top hx
    obtain ⟨m1, m2, m3⟩ := mask_part (x := x) (reg := (M.topIns p x).A) (by rw [hact]; exact f5)
    rw [hact] at m2 m3
    have h22 : x.Frames.length ≤ 22 := by
      simp only [M.spec_l13Local, hs, Bool.and_eq_true, Bool.not_true, Bool.false_or, decide_eq_true_eq] at hl
      exact hl.2.2
    have hB := target_in t7 (.inl hsp.1)
    unfold M.separated
    refine fin _ _ t4 f6 ?_ ?_ fun _ => ?_
    · rw [List.all_append, setTop_all f1 hx hj, Bool.true_and]
      simp only [List.all_cons, List.all_nil, Bool.and_true, M.frameOk, Bool.and_eq_true, M.isIn, decide_eq_true_eq, bne_iff_ne]
      unfold M.nodeIn at hj
      rw [m2]
      exact ⟨⟨by omega, hj, m3, by omega⟩, hB, hj, m1, hz0⟩
    · simp only [List.length_append, M.setTop, List.length_set, List.length_cons, List.length_nil]; omega
    · have e : rd (M.setTop x.Frames (M.joinB p (M.topPc x)) ++ [⟨M.topPc x + 1, M.joinB p (M.topPc x), bitNot .i64 (M.lastF x.Frames).Mask (M.zeroMask x (M.topIns p x).A)⟩, ⟨(M.topIns p x).B, M.joinB p (M.topPc x), M.zeroMask x (M.topIns p x).A⟩]) 0 = rd (M.setTop x.Frames (M.joinB p (M.topPc x))) 0 := by
        unfold rd
        rw [List.getD_eq_getElem?_getD, List.getD_eq_getElem?_getD, List.getElem?_append_left (by simp [M.setTop]; omega)]
      rw [e, (s0 _).1, (s0 _).2]
      exact ⟨f3, f4⟩
  · rw [if_neg hs]
    unfold M.advance
    refine fin _ _ (applyAll_len t4) (applyTo_words t7 ⟨t8, t9⟩ t4 f6 8 (Nat.le_refl _)) (setTop_all f1 hx (turn_in hr)) (by simp only [M.setTop, List.length_set]; exact f2) fun _ => ?_
    rw [(s0 _).1, (s0 _).2]
    exact ⟨f3, f4⟩
end Go.V
set_option linter.unusedVariables false
set_option linter.unusedSimpArgs false
set_option maxRecDepth 20000
namespace Go.V
theorem fits_cut {i : D.Ins} {n : Int} {r : List Int} {k : Nat} (h : M.insOk i n = true) (hr : r.length = 32) (hk : k < 8) : M.Fits i (M.laneCut r k) := ⟨laneCut_len hr hk, n, h⟩
theorem wp.impl_Warp_advance.math (x : D.Warp) (p : List D.Ins) (h : M.impl_Warp_advance_pre x p) : wp.impl_Warp_advance x p (fun r => r = M.impl_Warp_advance x p) := by
  obtain ⟨t1, t2, t3, t4, t5, t6, t7, t8, t9⟩ := runs_top h
  have hx := h.2.2
  unfold wp.impl_Warp_advance
  rw [last_wrap (by omega)]
  refine ⟨by omega, ⟨t5, t6⟩, fun ls hls => ?_⟩
  have hls : ls = M.lanesOf (M.lastF x.Frames).Mask := hls
  have hmem : ∀ k ∈ ls, 0 ≤ k ∧ k ≤ 7 := fun k hk => lanes_in (m := (M.lastF x.Frames).Mask) (hls ▸ hk)
  have hlen : ls.length ≤ 8 := by rw [hls]; exact lanes_len _
  let G : Nat → List Int := fun k => (ls.take k).foldl (stepL (M.topIns p x) x.Number) x.Regs
  have hG : ∀ k, (G k).length = 32 := fun k => fold_len _ _ t4 fun j hj => hmem j (List.mem_of_mem_take hj)
  refine loop_n ls.length (fun k => ((k : Int), G k, ())) (fun _ => True) rfl trivial (fun k hk _ next hn => ?_) fun _ next => ?_
  · have hn := hn trivial
    have hm := hmem _ (rd_mem hk)
    have hGk := hG k
    have hnext : G (k + 1) = stepL (M.topIns p x) x.Number (G k) (rd ls (k : Int)) := by
      simp only [G]
      rw [List.take_add_one, List.getElem?_eq_getElem hk, Option.toList_some, List.foldl_append, ← rd_nat hk]
      rfl
    rw [hnext] at hn
    dsimp only
    generalize rd ls (k : Int) = l at *
    generalize G k = g at *
    have a1 : IntKind.wrap .i64 (l * 4) = l * 4 := w64 (by omega) (by omega)
    have a2 : IntKind.wrap .i64 ((IntKind.wrap .i64 (l + 1)) * 4) = l * 4 + 4 := by rw [w64 (x := l + 1) (by omega) (by omega), w64 (by omega) (by omega)]; omega
    have a3 : IntKind.wrap .i64 ((IntKind.wrap .i64 (x.Number * 8)) + l) = x.Number * 8 + l := by rw [w64 (x := x.Number * 8) (by omega) (by omega), w64 (by omega) (by omega)]
    rw [a1, a2, a3, up64 hk (by omega)]
    refine bcase_t (by simp; omega) ⟨by omega, ⟨hGk, hm⟩, ⟨?_, by omega, by omega⟩, fun r2 hr2 => ?_⟩
    · have := fits_cut (k := l.toNat) t7 hGk (by omega)
      unfold M.laneCut at this
      rw [show l.toNat * 4 + 4 = (l * 4 + 4).toNat by omega, show l.toNat * 4 = (l * 4).toNat by omega] at this
      exact this
    · rw [hr2]; exact hn
  · have hall : G ls.length = M.applyAll (M.topIns p x) x.Number (M.lastF x.Frames).Mask x.Regs := by
      simp only [G]
      rw [List.take_length, applyAll_fold t4, hls]
    dsimp only
    rw [hall]
    refine bcase_f (by simp) ?_
    have e1 : (((x.Frames.length : Nat) : Int) - 1).toNat = x.Frames.length - 1 := by omega
    have fin : ∀ pc, pc = M.turnPc p x → (⟨x.Number, x.Frames.set (((x.Frames.length : Nat) : Int) - 1).toNat ⟨pc, (M.lastF x.Frames).Stop, (M.lastF x.Frames).Mask⟩, M.applyAll (M.topIns p x) x.Number (M.lastF x.Frames).Mask x.Regs⟩ : D.Warp) = M.impl_Warp_advance x p := by
      rintro _ rfl
      unfold M.impl_Warp_advance M.advance M.setTop
      rw [e1]
    show bcase ((M.topIns p x).Op == 12) _ (bcase ((M.topIns p x).Op == 11) (bcase true _ _) (bcase ((M.topIns p x).Op == 10) _ (bcase false _ _)))
    refine bcase_mk (fun c1 => fin _ ?_) fun c1 => bcase_mk (fun c2 => bcase_t rfl (fin _ ?_)) fun c2 => bcase_mk (fun c3 => ⟨?_, fun z hz => ?_⟩) fun c3 => bcase_f rfl (fin _ ?_)
    · have c1 : (M.topIns p x).Op = 12 := by simpa using c1
      simp [M.turnPc, c1]
    · have c2 : (M.topIns p x).Op = 11 := by simpa using c2
      simp only [M.turnPc, c2]
      rfl
    · have c3 : (M.topIns p x).Op = 10 := by simpa using c3
      exact ⟨by show x.Frames.length ≤ 9223372036854775807; omega, applyAll_len t4, zero_reg t7 c3⟩
    · have c3 : (M.topIns p x).Op = 10 := by simpa using c3
      have hz : z = M.zeroMask x (M.topIns p x).A := by
        rw [hz, applyAll_branch t4 c3]; rfl
      show bcase (z == (M.lastF x.Frames).Mask) _ _
      rw [hz]
      refine bcase_mk (fun c4 => fin _ ?_) fun c4 => fin _ ?_
      · have c4 : M.zeroMask x (M.topIns p x).A = (M.lastF x.Frames).Mask := by simpa using c4
        unfold M.turnPc
        rw [if_neg (by omega), if_neg (by omega), if_pos ⟨c3, c4⟩]; rfl
      · have c4 : ¬ M.zeroMask x (M.topIns p x).A = (M.lastF x.Frames).Mask := by simpa using c4
        unfold M.turnPc
        rw [if_neg (by omega), if_neg (by omega), if_neg (fun hc => c4 hc.2)]
        exact w64 (x := M.topPc x + 1) (by omega) (by omega)
    · have c1 : ¬ (M.topIns p x).Op = 12 := by simpa using c1
      have c2 : ¬ (M.topIns p x).Op = 11 := by simpa using c2
      have c3 : ¬ (M.topIns p x).Op = 10 := by simpa using c3
      unfold M.turnPc
      rw [if_neg c1, if_neg c2, if_neg (fun hc => c3 hc.1)]
      exact w64 (x := M.topPc x + 1) (by omega) (by omega)
theorem has_branches {p : List D.Ins} {b : Int} (h : M.Branch p b) : M.has (M.branches p) b = true := by
  unfold M.has M.branches
  rw [if_pos h.1, List.any_eq_true]
  exact ⟨b, mem_idx.2 ⟨b.toNat, by have := h.2.2.1; have := h.2.1; omega, by have := h.2.1; omega, h.2.2.2⟩, by simp⟩
theorem wp.impl_Warp_separate.math (x : D.Warp) (p : List D.Ins) (h : M.impl_Warp_separate_pre x p) : wp.impl_Warp_separate x p (fun r => r = M.impl_Warp_separate x p) := by
  obtain ⟨hr, hs⟩ := h
  obtain ⟨t1, t2, t3, t4, t5, t6, t7, t8, t9⟩ := runs_top hr
  have hb := split_branch hr hs
  unfold wp.impl_Warp_separate
  rw [last_wrap (by omega), w64 (x := ((x.Frames.length : Nat) : Int) + 2) (by omega) (by omega)]
  refine bcase_mk (fun e => ?_) fun e => ⟨by omega, ⟨t5, t6⟩, ⟨by show x.Frames.length ≤ 9223372036854775807; omega, t4, zero_reg t7 hs.1⟩, fun z hz => ⟨prog_small hr.1, fun j hj => ⟨⟨t5, t6⟩, ?_⟩⟩⟩
  · have e : ¬ x.Frames.length ≤ 22 := by have := of_decide_eq_true e; omega
    unfold M.impl_Warp_separate
    rw [if_neg e]
  · have e : x.Frames.length ≤ 22 := by have := of_decide_eq_false e; omega
    have hj : j = M.joinB p (M.topPc x) := by
      rw [hj]
      show M.joinOf p (M.topPc x) = _
      unfold M.joinOf
      rw [if_pos (has_branches hb)]
    have hw : IntKind.wrap .i64 (M.topPc x + 1) = M.topPc x + 1 := w64 (by omega) (by omega)
    have key : ∀ y, y = M.separated p x → (true, y) = M.impl_Warp_separate x p := by
      rintro _ rfl
      unfold M.impl_Warp_separate
      rw [if_pos e]
    have e1 : (((x.Frames.length : Nat) : Int) - 1).toNat = x.Frames.length - 1 := by omega
    have fin : (true, (⟨x.Number, (x.Frames.set (((x.Frames.length : Nat) : Int) - 1).toNat ⟨j, (M.lastF x.Frames).Stop, (M.lastF x.Frames).Mask⟩) ++ [⟨IntKind.wrap .i64 (M.topPc x + 1), j, bitNot .i64 (M.lastF x.Frames).Mask z⟩, ⟨(M.topIns p x).B, j, z⟩], x.Regs⟩ : D.Warp)) = M.impl_Warp_separate x p := by
      refine key _ ?_
      rw [hw, hj, hz, e1]; rfl
    have hle : (x.Frames.set (((x.Frames.length : Nat) : Int) - 1).toNat ⟨j, (M.lastF x.Frames).Stop, (M.lastF x.Frames).Mask⟩).length + 2 ≤ 17179869184 := by rw [List.length_set]; omega
    exact ⟨⟨hle, fin⟩, ⟨⟨hle, fin⟩, ⟨hle, fin⟩, trivial⟩, trivial⟩
end Go.V
set_option linter.unusedVariables false
set_option linter.unusedSimpArgs false
set_option maxRecDepth 20000
namespace Go.V
def putSome (r x : List Int) (l j : Nat) : List Int := r.take (l * 4) ++ x.take j ++ r.drop (l * 4 + j)
theorem putSome_len {r x : List Int} {l j : Nat} (h : r.length = 32) (hl : l < 8) (hx : x.length = 4) (hj : j ≤ 4) : (putSome r x l j).length = 32 := by unfold putSome; simp; omega
theorem putSome_get {r x : List Int} {l j : Nat} (h : r.length = 32) (hl : l < 8) (hx : x.length = 4) (hj : j ≤ 4) (i : Nat) : (putSome r x l j)[i]? = if l * 4 ≤ i ∧ i < l * 4 + j then x[i - l * 4]? else r[i]? := by
  unfold putSome
  rw [List.getElem?_append, List.length_append, List.length_take, List.length_take, hx, Nat.min_eq_left (by omega), Nat.min_eq_left hj, List.getElem?_append, List.length_take, Nat.min_eq_left (by omega)]
  by_cases h1 : i < l * 4
  · rw [if_pos (by omega), if_pos h1, if_neg (by omega), List.getElem?_take, if_pos h1]
  · by_cases h2 : i < l * 4 + j
    · rw [if_pos h2, if_neg h1, if_pos (by omega), List.getElem?_take, if_pos (by omega)]
    · rw [if_neg h2, if_neg (by omega), List.getElem?_drop]
      congr 1; omega
theorem putSome_zero (r x : List Int) (l : Nat) : putSome r x l 0 = r := by unfold putSome; simp
theorem putSome_all {r x : List Int} {l : Nat} (hx : x.length = 4) : putSome r x l 4 = M.putLane r l x := by unfold putSome M.putLane; rw [List.take_of_length_le (l := x) (by omega)]
theorem putSome_set {r x : List Int} {l j : Nat} (h : r.length = 32) (hl : l < 8) (hx : x.length = 4) (hj : j < 4) : (putSome r x l j).set (l * 4 + j) (rd x (j : Int)) = putSome r x l (j + 1) := by
  apply List.ext_getElem?
  intro i
  rw [putSome_get h hl hx (by omega)]
  by_cases e : l * 4 + j = i
  · subst e
    rw [List.getElem?_set_self (by rw [putSome_len h hl hx (by omega)]; omega), if_pos (by omega), show l * 4 + j - l * 4 = j by omega, rd_nat (by omega), List.getElem?_eq_getElem (by omega)]
  · rw [List.getElem?_set_ne e, putSome_get h hl hx (by omega)]
    by_cases h1 : l * 4 ≤ i ∧ i < l * 4 + j
    · rw [if_pos h1, if_pos (by omega)]
    · rw [if_neg h1, if_neg (by omega)]
theorem wp.spec_l13Apply.math (p : List D.Ins) (x : D.Warp) (h : M.spec_l13Apply_pre p x) : wp.spec_l13Apply p x (fun r => r = M.spec_l13Apply p x) := by
  obtain ⟨t1, t2, t3, t4, t5, t6, t7, t8, t9⟩ := runs_top h
  unfold wp.spec_l13Apply
  rw [last_wrap (by omega), List.nil_append]
  refine ⟨by simp; omega, by omega, ?_⟩
  let G : Nat → List Int := M.applyTo (M.topIns p x) x.Number (M.lastF x.Frames).Mask x.Regs
  have hG : ∀ k, k ≤ 8 → (G k).length = 32 := fun k hk => applyTo_len t4 k hk
  refine loop_n 8 (fun k => ((k : Int), G k, ())) (fun _ => True) rfl trivial (fun k hk _ next hn => ?_) fun _ next => bcase_f (by simp) rfl
  have hn := hn trivial
  have hGk := hG k (by omega)
  have hnext : G (k + 1) = if M.hasLane (M.lastF x.Frames).Mask (k : Int) then M.putLane (G k) k (M.apply (M.topIns p x) (x.Number * 8 + (k : Int)) (M.laneCut x.Regs k)) else G k := rfl
  rw [hnext] at hn
  dsimp only
  generalize G k = g at *
  refine bcase_t (by simp; omega) fun b hb => ?_
  have hb : b = M.hasLane (M.lastF x.Frames).Mask (k : Int) := hb
  have a1 : IntKind.wrap .i64 ((k : Int) * 4) = (k : Int) * 4 := w64 (by omega) (by omega)
  have a2 : IntKind.wrap .i64 ((IntKind.wrap .i64 ((k : Int) + 1)) * 4) = (k : Int) * 4 + 4 := by rw [w64 (x := (k : Int) + 1) (by omega) (by omega), w64 (by omega) (by omega)]; omega
  have a3 : IntKind.wrap .i64 ((IntKind.wrap .i64 (x.Number * 8)) + (k : Int)) = x.Number * 8 + (k : Int) := by rw [w64 (x := x.Number * 8) (by omega) (by omega), w64 (by omega) (by omega)]
  refine bcase_mk (fun e => ?_) fun e => ?_
  · rw [if_pos (hb.symm.trans e)] at hn
    rw [a1, a2, a3, t4, show ((k : Int) * 4 + 4).toNat = k * 4 + 4 by omega, show ((k : Int) * 4).toNat = k * 4 by omega]
    refine ⟨⟨t5, t6⟩, ⟨by omega, by omega, by omega, by omega⟩, fits_cut t7 t4 hk, fun y hy => ?_⟩
    have hy : y = M.apply (M.topIns p x) (x.Number * 8 + (k : Int)) (M.laneCut x.Regs k) := hy
    have hyl : y.length = 4 := by rw [hy, apply_len, laneCut_len t4 hk]
    rw [← hy] at hn
    refine loop_n 4 (fun j => ((j : Int), putSome g y k j, ())) (fun _ => True) (by rw [putSome_zero]; rfl) trivial (fun j hj _ next2 hn2 => ?_) fun _ next2 => ?_
    · have hn2 := hn2 trivial
      rw [← putSome_set hGk hk hyl hj] at hn2
      dsimp only
      have a4 : IntKind.wrap .i64 ((k : Int) * 4 + (j : Int)) = (k : Int) * 4 + (j : Int) := w64 (by omega) (by omega)
      rw [a4, hyl, putSome_len hGk hk hyl (by omega), show ((k : Int) * 4 + (j : Int)).toNat = k * 4 + j by omega, up64 (n := 4) hj (by omega)]
      exact bcase_t (by simp; omega) ⟨by omega, by omega, hn2⟩
    · dsimp only
      rw [putSome_all hyl, up64 (n := 8) hk (by omega)]
      exact bcase_f (by simp) hn
  · rw [if_neg (by rw [← hb, e]; simp)] at hn
    rw [up64 (n := 8) hk (by omega)]
    exact hn
theorem wp.spec_l13Step.math (p : List D.Ins) (x : D.Warp) (h : M.spec_l13Step_pre p x) : wp.spec_l13Step p x (fun r => r = M.spec_l13Step p x) := by
  obtain ⟨hr, hl⟩ := h
  obtain ⟨t1, t2, t3, t4, t5, t6, t7, t8, t9⟩ := runs_top hr
  obtain ⟨f1, f2, f3, f4, f5, f6⟩ := runs_frames hr
  have hx := hr.2.2
  unfold wp.spec_l13Step
  rw [last_wrap (by omega)]
  refine ⟨⟨by omega, by omega⟩, fun y hy => ?_⟩
  have hy : y = x := hy
  subst hy
  have e1 : (((y.Frames.length : Nat) : Int) - 1).toNat = y.Frames.length - 1 := by omega
  refine ⟨by omega, ⟨t5, t6⟩, hr, fun s hs => ?_⟩
  have hs : s = M.splits p y := hs
  have hw : IntKind.wrap .i64 (M.topPc y + 1) = M.topPc y + 1 := w64 (by omega) (by omega)
  refine bcase_mk (fun e => ⟨by show y.Frames.length ≤ 9223372036854775807; omega, fun z hz => ?_⟩) fun e => ⟨hr, fun rg hrg => ?_⟩
  · have hsp := hs.symm.trans e
    obtain ⟨hsp', hz0, hzm⟩ := splits_iff hsp
    have hb := split_branch hr hsp'
    have hz : z = M.zeroMask y (M.topIns p y).A := by
      have hz : z = M.spec_ZeroMask y (M.topIns p y).A := hz
      rw [hz]
      unfold M.spec_ZeroMask
      rw [if_pos (by rw [zero_reg t7 hsp'.1, t4]; rfl)]
    have hact : M.activeMask y = (M.lastF y.Frames).Mask := activeMask_top hx
    obtain ⟨m1, m2, m3⟩ := mask_part (x := y) (reg := (M.topIns p y).A) (by rw [hact]; exact f5)
    rw [hact] at m2 m3
    have hm : IntKind.wrap .i64 ((M.lastF y.Frames).Mask - z) = bitNot .i64 (M.lastF y.Frames).Mask (M.zeroMask y (M.topIns p y).A) := by
      rw [m2, hz]
      simp only [M.isMask, M.isIn, Bool.and_eq_true, decide_eq_true_eq] at m3
      exact w64 (by omega) (by omega)
    refine ⟨hb, fun j hj => ⟨by omega, ⟨by simp; omega, ⟨by refine ⟨?_, ?_⟩ <;> simp <;> omega, fun d hd => ?_⟩⟩⟩⟩
    have hj : j = M.joinB p (M.topPc y) := hj
    have hd : d = M.dropW (M.separated p y) p.length := by
      rw [hd]
      show M.dropW _ _ = M.dropW _ _
      congr 1
      unfold M.separated M.setTop
      rw [← hm, ← hj, ← hz, e1, ← hw]; rfl
    show d = M.stepW p y
    unfold M.stepW
    rw [if_pos hsp]; exact hd
  · have hns : ¬ M.splits p y = true := by rw [← hs, e]; simp
    have hrg : rg = M.applyAll (M.topIns p y) y.Number (M.lastF y.Frames).Mask y.Regs := hrg
    have hfit : ∀ pc, M.WFit ⟨y.Number, y.Frames.set (((y.Frames.length : Nat) : Int) - 1).toNat ⟨pc, (M.lastF y.Frames).Stop, (M.lastF y.Frames).Mask⟩, rg⟩ := fun pc => by
      refine ⟨?_, ?_⟩
      · show (y.Frames.set _ _).length ≤ _
        rw [List.length_set]; omega
      · show rg.length ≤ _
        rw [hrg, applyAll_len t4]; omega
    have fin : ∀ pc, pc = M.turnPc p y → ∀ d, d = M.spec_DropFrames p ⟨y.Number, y.Frames.set (((y.Frames.length : Nat) : Int) - 1).toNat ⟨pc, (M.lastF y.Frames).Stop, (M.lastF y.Frames).Mask⟩, rg⟩ → d = M.stepW p y := by
      rintro _ rfl d hd
      rw [hd, hrg]
      show M.dropW _ _ = _
      unfold M.stepW
      rw [if_neg hns, e1]; rfl
    show bcase ((M.topIns p y).Op == 12) _ (bcase ((M.topIns p y).Op == 11) _ (_ ∧ bcase ((M.topIns p y).Op == 10) _ (bcase false _ _)))
    refine bcase_mk (fun c1 => ⟨by omega, hfit _, fun d hd => fin _ ?_ d hd⟩) fun c1 => bcase_mk (fun c2 => ⟨by omega, hfit _, fun d hd => fin _ ?_ d hd⟩) fun c2 => ⟨by omega, bcase_mk (fun c3 => ⟨by show y.Frames.length ≤ 9223372036854775807; omega, fun z hz => ?_⟩) fun c3 => bcase_f rfl ⟨hfit _, fun d hd => fin _ ?_ d hd⟩⟩
    · have c1 : (M.topIns p y).Op = 12 := by simpa using c1
      simp [M.turnPc, c1]
    · have c2 : (M.topIns p y).Op = 11 := by simpa using c2
      simp only [M.turnPc, c2]
      rfl
    · have c3 : (M.topIns p y).Op = 10 := by simpa using c3
      have hz : z = M.zeroMask y (M.topIns p y).A := by
        have hz : z = M.spec_ZeroMask y (M.topIns p y).A := hz
        rw [hz]
        unfold M.spec_ZeroMask
        rw [if_pos (by rw [zero_reg t7 c3, t4]; rfl)]
      show bcase (z == (M.lastF y.Frames).Mask) _ _
      rw [hz]
      refine bcase_mk (fun c4 => ⟨by rw [List.length_set]; omega, hfit _, fun d hd => fin _ ?_ d hd⟩) fun c4 => ⟨hfit _, fun d hd => fin _ ?_ d hd⟩
      · have c4 : M.zeroMask y (M.topIns p y).A = (M.lastF y.Frames).Mask := by simpa using c4
        unfold M.turnPc
        rw [if_neg (by omega), if_neg (by omega), if_pos ⟨c3, c4⟩]; rfl
      · have c4 : ¬ M.zeroMask y (M.topIns p y).A = (M.lastF y.Frames).Mask := by simpa using c4
        unfold M.turnPc
        rw [if_neg (by omega), if_neg (by omega), if_neg (fun hc => c4 hc.2)]
        exact hw
    · have c1 : ¬ (M.topIns p y).Op = 12 := by simpa using c1
      have c2 : ¬ (M.topIns p y).Op = 11 := by simpa using c2
      have c3 : ¬ (M.topIns p y).Op = 10 := by simpa using c3
      unfold M.turnPc
      rw [if_neg c1, if_neg c2, if_neg (fun hc => c3 hc.1)]
      exact hw
end Go.V
set_option linter.unusedVariables false
set_option linter.unusedSimpArgs false
set_option maxRecDepth 20000
namespace Go.V
theorem goes_of {p : List D.Ins} {x : D.Warp} (h : M.Fine p x) (hl : M.spec_l13Local p x = true) : M.Goes p x := by
  refine ⟨⟨h.1, h.2, ?_⟩, hl⟩
  simp only [M.spec_l13Local, Bool.and_eq_true] at hl
  intro e
  rw [e] at hl
  simp at hl
theorem wp.impl_Warp_pass.math (x : D.Warp) (p : List D.Ins) (h : M.impl_Warp_pass_pre x p) : wp.impl_Warp_pass x p (fun r => r = M.impl_Warp_pass x p) := by
  obtain ⟨hp, hw⟩ := h
  unfold wp.impl_Warp_pass
  rw [empty_len0]
  refine bcase_mk (fun e => ?_) fun e => ?_
  · have : M.spec_l13Local p x = false := by simp [M.spec_l13Local, e]
    unfold M.impl_Warp_pass
    rw [if_neg (by rw [this]; simp)]
  have hx : x.Frames ≠ [] := by simpa using e
  have hr : M.Runs p x := ⟨hp, hw, hx⟩
  obtain ⟨t1, t2, t3, t4, t5, t6, t7, t8, t9⟩ := runs_top hr
  rw [last_wrap (by omega)]
  have hl : ∀ b, M.isLocal (M.topIns p x) = b → M.spec_l13Local p x = (b && (!M.splits p x || decide (x.Frames.length ≤ 22))) := fun b hb => by
    simp only [M.spec_l13Local, hb, e, Bool.not_false, Bool.true_and]
  have no : M.spec_l13Local p x = false → (false, x) = M.impl_Warp_pass x p := fun hf => by
    unfold M.impl_Warp_pass
    rw [if_neg (by rw [hf]; simp)]
  have yes : M.spec_l13Local p x = true → ∀ y, y = M.stepW p x → (true, y) = M.impl_Warp_pass x p := fun hf y hy => by
    unfold M.impl_Warp_pass
    rw [if_pos hf, hy]
  refine ⟨by omega, ⟨t5, t6⟩, fun b hb => bcase_mk (fun c => no ?_) fun c => ⟨hr, fun s hs => bcase_mk (fun c2 => ⟨⟨hr, ?_⟩, fun q hq => ?_⟩) fun c2 => ⟨hr, fun q hq => ⟨?_, fun d hd => ?_⟩⟩⟩⟩
  · have c : b = false := by simpa using c
    rw [hl b hb.symm, c]; rfl
  · exact (splits_iff (hs.symm.trans c2)).1
  · have c : b = true := by simpa using c
    have hsp : M.splits p x = true := hs.symm.trans c2
    have hl' := hl b hb.symm
    rw [c, hsp] at hl'
    simp only [Bool.true_and, Bool.not_true, Bool.false_or] at hl'
    rw [hq]
    unfold M.impl_Warp_separate
    by_cases h22 : x.Frames.length ≤ 22
    · rw [decide_eq_true h22] at hl'
      rw [if_pos h22]
      refine bcase_f rfl ⟨?_, fun d hd => yes hl' _ ?_⟩
      · show (M.separated p x).Frames.length ≤ 9223372036854775807
        simp only [M.separated, M.setTop, List.length_append, List.length_set, List.length_cons, List.length_nil]; omega
      · rw [hd]
        unfold M.stepW
        rw [if_pos hsp]; rfl
    · rw [decide_eq_false h22] at hl'
      rw [if_neg h22]
      exact bcase_t rfl (no hl')
  · rw [hq]
    show (M.setTop x.Frames _).length ≤ 9223372036854775807
    simp only [M.setTop, List.length_set]; omega
  · have c : b = true := by simpa using c
    have hsp : M.splits p x = false := by rw [← show s = M.splits p x from hs, c2]
    have hl' := hl b hb.symm
    rw [c, hsp] at hl'
    refine yes hl' _ ?_
    rw [hd, hq]
    unfold M.stepW
    rw [if_neg (by rw [hsp]; simp)]; rfl
theorem wp.impl_WarpOk.math (p : List D.Ins) (x : D.Warp) (h : M.impl_WarpOk_pre p x) : wp.impl_WarpOk p x (fun r => r = M.impl_WarpOk p x) := by
  obtain ⟨h1, h2⟩ := h
  refine ⟨h1, fun b hb => bcase_mk (fun e => ⟨h2, fun c hc => ?_⟩) fun e => ?_⟩
  · have : M.programOk p = true := hb.symm.trans e
    rw [hc]
    show M.warpOf p x = _
    unfold M.impl_WarpOk M.spec_WarpOk
    rw [this, Bool.true_and]
  · have : M.programOk p = false := hb.symm.trans e
    unfold M.impl_WarpOk M.spec_WarpOk
    rw [this, Bool.false_and]
def RunI (p : List D.Ins) (x : D.Warp) (n k : Nat) : Prop := M.Fine p (M.wAt p x k) ∧ (k ≤ n → M.runW p n x 0 = M.runW p (n - k) (M.wAt p x k) (k : Int))
theorem runI_zero {p : List D.Ins} {x : D.Warp} (h : M.Fine p x) (n : Nat) : RunI p x n 0 := ⟨h, fun _ => rfl⟩
theorem runI_go {p : List D.Ins} {x : D.Warp} {n k : Nat} (h : RunI p x n k) (hk : k < n) (hl : M.spec_l13Local p (M.wAt p x k) = true) : RunI p x n (k + 1) := by
  refine ⟨stepW_fine (goes_of h.1 hl), fun _ => ?_⟩
  rw [h.2 (by omega), show n - k = (n - (k + 1)) + 1 by omega]
  simp only [M.runW]
  rw [if_pos hl]; rfl
theorem runI_stop {p : List D.Ins} {x : D.Warp} {n k : Nat} (h : RunI p x n k) (hk : k < n) (hl : M.spec_l13Local p (M.wAt p x k) = false) : M.runW p n x 0 = (M.wAt p x k, (k : Int)) := by
  rw [h.2 (by omega), show n - k = (n - (k + 1)) + 1 by omega]
  simp only [M.runW]
  rw [if_neg (by rw [hl]; simp)]
theorem runI_end {p : List D.Ins} {x : D.Warp} {n : Nat} (h : RunI p x n n) : M.runW p n x 0 = (M.wAt p x n, (n : Int)) := by
  rw [h.2 (Nat.le_refl _), Nat.sub_self]; rfl
theorem wp.spec_l14Run.math (p : List D.Ins) (x : D.Warp) (steps : Int) (h : M.spec_l14Run_pre p x steps) : wp.spec_l14Run p x steps (fun r => r = M.spec_l14Run p x steps) := by
  obtain ⟨hF, h0, h1⟩ := h
  obtain ⟨n, rfl⟩ := Int.eq_ofNat_of_zero_le h0
  unfold wp.spec_l14Run M.spec_l14Run
  rw [Int.toNat_natCast]
  refine loop_n n (fun k => ((k : Int), (M.wAt p x k).Number, (M.wAt p x k).Frames, (M.wAt p x k).Regs, ())) (RunI p x n) rfl (runI_zero hF n) (fun k hk hI next hn => ?_) fun hI next => bcase_f (by simp) (runI_end hI).symm
  dsimp only
  refine bcase_t (by simp; omega) ⟨hI.1, fun b hb => bcase_mk (fun e => ⟨goes_of hI.1 (hb.symm.trans e), fun y hy => ?_⟩) fun e => (runI_stop hI hk (hb.symm.trans e)).symm⟩
  have hn := hn (runI_go hI hk (hb.symm.trans e))
  rw [up64 hk (by omega), hy]
  exact hn
theorem wp.impl_RunWarp.math (p : List D.Ins) (x : D.Warp) (steps : Int) (h : M.impl_RunWarp_pre p x steps) : wp.impl_RunWarp p x steps (fun r => r = M.impl_RunWarp p x steps) := by
  obtain ⟨h1, h2⟩ := h
  have hWL : M.WLong x := ⟨Nat.le_trans h2.1 (by omega), Nat.le_trans h2.2 (by omega)⟩
  refine ⟨h2, fun y hy => ?_⟩
  have hy : y = x := hy
  subst hy
  have no : (M.isQuiet p && (M.spec_WarpOk p y && M.isIn steps 0 8000)) = false → (y, (-1 : Int)) = M.impl_RunWarp p y steps := fun hf => by
    unfold M.impl_RunWarp M.runWarp
    rw [if_neg (by rw [hf]; simp)]
  refine ⟨h1, fun a ha => bcase_mk (fun e => no ?_) fun e => ⟨⟨h1, hWL⟩, fun b hb => bcase_mk (fun e2 => no ?_) fun e2 => fun c hc => bcase_mk (fun e3 => no ?_) fun e3 => ?_⟩⟩
  · have : M.isQuiet p = false := by rw [← show a = M.isQuiet p from ha]; simpa using e
    rw [this]; rfl
  · have : M.spec_WarpOk p y = false := by rw [← show b = M.spec_WarpOk p y from hb]; simpa using e2
    rw [this, Bool.false_and, Bool.and_false]
  · have : M.isIn steps 0 8000 = false := by rw [← show c = M.isIn steps 0 8000 from hc]; simpa using e3
    rw [this, Bool.and_false, Bool.and_false]
  · have q1 : M.isQuiet p = true := by rw [← show a = M.isQuiet p from ha]; simpa using e
    have q2 : M.spec_WarpOk p y = true := by rw [← show b = M.spec_WarpOk p y from hb]; simpa using e2
    have q3 : M.isIn steps 0 8000 = true := by rw [← show c = M.isIn steps 0 8000 from hc]; simpa using e3
    have hF : M.Fine p y := by have := q2; simp only [M.spec_WarpOk, Bool.and_eq_true] at this; exact this
    have hM : M.impl_RunWarp p y steps = M.runW p steps.toNat y 0 := by
      unfold M.impl_RunWarp M.runWarp
      rw [if_pos (by rw [q1, q2, q3]; rfl)]
    rw [hM]
    simp only [M.isIn, Bool.and_eq_true, decide_eq_true_eq] at q3
    obtain ⟨n, rfl⟩ := Int.eq_ofNat_of_zero_le q3.1
    rw [Int.toNat_natCast]
    refine loop_n n (fun k => ((k : Int), (M.wAt p y k).Number, (M.wAt p y k).Frames, (M.wAt p y k).Regs, ())) (RunI p y n) rfl (runI_zero hF n) (fun k hk hI next hn => ?_) fun hI next => bcase_f (by simp) (runI_end hI).symm
    dsimp only
    refine bcase_t (by simp; omega) ⟨hI.1, fun r hr => ?_⟩
    rw [hr]
    unfold M.impl_Warp_pass
    cases hl : M.spec_l13Local p (M.wAt p y k) with
    | true =>
      have hn := hn (runI_go hI hk hl)
      rw [if_pos rfl, up64 hk (by omega)]
      exact bcase_t rfl hn
    | false =>
      rw [if_neg (by simp)]
      exact bcase_f rfl (runI_stop hI hk hl).symm
theorem quiet_prog {p : List D.Ins} (h : M.isQuiet p = true) : M.programOk p = true := by
  simp only [M.isQuiet, Bool.and_eq_true] at h; exact h.1
theorem newWarp_fine {p : List D.Ins} (hp : M.programOk p = true) {w : Int} (hw : M.isIn w 0 2 = true) : M.Fine p (M.newWarp p w) := by
  refine ⟨hp, ?_⟩
  have hz : (List.replicate 32 (0 : Int)).all M.isWord = true := by rfl
  unfold M.warpOf
  have hN : (M.newWarp p w).Number = w := rfl
  have hR : (M.newWarp p w).Regs = List.replicate 32 0 := rfl
  have hF : (M.newWarp p w).Frames = if p.length > 0 then [⟨0, p.length, 255⟩] else [] := rfl
  rw [hN, hR, hF, hw, hz, List.length_replicate]
  by_cases h0 : p.length > 0
  · rw [if_pos h0]
    have hn : ((p.length : Nat) : Int) ≠ 0 := by omega
    have h1 : M.frameOk p.length ⟨0, p.length, 255⟩ = true := by
      simp only [M.frameOk, M.isIn, M.isMask, Bool.and_eq_true, decide_eq_true_eq, bne_iff_ne]; omega
    have hl : M.lastF [(⟨0, p.length, 255⟩ : D.Frame)] = ⟨0, p.length, 255⟩ := rfl
    have hr : rd [(⟨0, p.length, 255⟩ : D.Frame)] 0 = ⟨0, p.length, 255⟩ := rfl
    have h2 : M.endsOk [(⟨0, p.length, 255⟩ : D.Frame)] p.length = true := by
      unfold M.endsOk
      rw [hl, hr]
      simp only [Bool.and_eq_true, decide_eq_true_eq, bne_iff_ne, beq_iff_eq, List.length_cons, List.length_nil]
      exact ⟨by omega, fun h => hn h.symm, fun h => hn h.symm, trivial, trivial⟩
    have : M.areFrames [(⟨0, p.length, 255⟩ : D.Frame)] p.length = true := by
      unfold M.areFrames
      rw [h2]; simp [h1]
    rw [this]; rfl
  · rw [if_neg h0]; rfl
end Go.V
set_option linter.unusedVariables false
namespace Go.V
def wp.spec_l01Once (s0 : D.Cur) (x1 : Int) (Q : (Bool × D.Cur) → Prop) : Prop :=
  (M.spec_l01Below_pre s0 x1 ∧ ∀ r21, r21 = M.spec_l01Below s0 x1 → Q ((r21.1 == 0), (⟨s0.b, r21.2.i, r21.2.h⟩ : D.Cur)))
def wp.spec_l05Body (s0 : D.Cur) (xs1 : List D.Ins) (x2 : Int) (Q : ((List D.Ins) × D.Cur) → Prop) : Prop :=
  (M.spec_l01Below_pre s0 4 ∧ ∀ r21, r21 = M.spec_l01Below s0 4 → LoopP (σ := (List D.Ins) × Int × Int × Int × Unit) (fun (p210 : (List D.Ins) × Int × Int × Int × Unit) next51 => match p210 with | (xs42, i45, i46, i47, _) => bcase (decide (i45 > 0)) (bcase (decide (((xs42.length : Nat) : Int) < 20)) ((M.spec_l01Below_pre (⟨s0.b, i46, i47⟩ : D.Cur) 5 ∧ ∀ r53, r53 = M.spec_l01Below (⟨s0.b, i46, i47⟩ : D.Cur) 5 → bcase (r53.1 == 0) (bcase (x2 == 0) (next51 (xs42, (IntKind.wrap .i64 (i45 - 1)), r53.2.i, r53.2.h, ())) ((M.spec_l01Below_pre (⟨s0.b, r53.2.i, r53.2.h⟩ : D.Cur) 4 ∧ ∀ r62, r62 = M.spec_l01Below (⟨s0.b, r53.2.i, r53.2.h⟩ : D.Cur) 4 → ((xs42.length + ([(⟨10, r62.1, 0, 0⟩ : D.Ins)] : List D.Ins).length ≤ 17179869184) ∧ (M.spec_l05Body_pre (⟨s0.b, r62.2.i, r62.2.h⟩ : D.Cur) (xs42 ++ ([(⟨10, r62.1, 0, 0⟩ : D.Ins)] : List D.Ins)) (IntKind.wrap .i64 (x2 - 1)) ∧ ∀ r76, r76 = M.spec_l05Body (⟨s0.b, r62.2.i, r62.2.h⟩ : D.Cur) (xs42 ++ ([(⟨10, r62.1, 0, 0⟩ : D.Ins)] : List D.Ins)) (IntKind.wrap .i64 (x2 - 1)) → (M.spec_l01Once_pre (⟨s0.b, r76.2.i, r76.2.h⟩ : D.Cur) 2 ∧ ∀ r84, r84 = M.spec_l01Once (⟨s0.b, r76.2.i, r76.2.h⟩ : D.Cur) 2 → bcase r84.1 (((0 ≤ ((xs42.length : Nat) : Int) ∧ ((xs42.length : Nat) : Int) < ((r76.1.length : Nat) : Int)) ∧ next51 ((List.set r76.1 (((xs42.length : Nat) : Int).toNat) (⟨(rd r76.1 ((xs42.length : Nat) : Int)).Op, (rd r76.1 ((xs42.length : Nat) : Int)).A, ((r76.1.length : Nat) : Int), (rd r76.1 ((xs42.length : Nat) : Int)).C⟩ : D.Ins)), (IntKind.wrap .i64 (i45 - 1)), r84.2.i, r84.2.h, ()))) (((r76.1.length + ([(⟨11, 0, 0, 0⟩ : D.Ins)] : List D.Ins).length ≤ 17179869184) ∧ ((0 ≤ ((xs42.length : Nat) : Int) ∧ ((xs42.length : Nat) : Int) < (((r76.1 ++ ([(⟨11, 0, 0, 0⟩ : D.Ins)] : List D.Ins)).length : Nat) : Int)) ∧ (M.spec_l05Body_pre (⟨s0.b, r84.2.i, r84.2.h⟩ : D.Cur) (List.set (r76.1 ++ ([(⟨11, 0, 0, 0⟩ : D.Ins)] : List D.Ins)) (((xs42.length : Nat) : Int).toNat) (⟨(rd (r76.1 ++ ([(⟨11, 0, 0, 0⟩ : D.Ins)] : List D.Ins)) ((xs42.length : Nat) : Int)).Op, (rd (r76.1 ++ ([(⟨11, 0, 0, 0⟩ : D.Ins)] : List D.Ins)) ((xs42.length : Nat) : Int)).A, ((((r76.1 ++ ([(⟨11, 0, 0, 0⟩ : D.Ins)] : List D.Ins))).length : Nat) : Int), (rd (r76.1 ++ ([(⟨11, 0, 0, 0⟩ : D.Ins)] : List D.Ins)) ((xs42.length : Nat) : Int)).C⟩ : D.Ins)) (IntKind.wrap .i64 (x2 - 1)) ∧ ∀ r117, r117 = M.spec_l05Body (⟨s0.b, r84.2.i, r84.2.h⟩ : D.Cur) (List.set (r76.1 ++ ([(⟨11, 0, 0, 0⟩ : D.Ins)] : List D.Ins)) (((xs42.length : Nat) : Int).toNat) (⟨(rd (r76.1 ++ ([(⟨11, 0, 0, 0⟩ : D.Ins)] : List D.Ins)) ((xs42.length : Nat) : Int)).Op, (rd (r76.1 ++ ([(⟨11, 0, 0, 0⟩ : D.Ins)] : List D.Ins)) ((xs42.length : Nat) : Int)).A, ((((r76.1 ++ ([(⟨11, 0, 0, 0⟩ : D.Ins)] : List D.Ins))).length : Nat) : Int), (rd (r76.1 ++ ([(⟨11, 0, 0, 0⟩ : D.Ins)] : List D.Ins)) ((xs42.length : Nat) : Int)).C⟩ : D.Ins)) (IntKind.wrap .i64 (x2 - 1)) → ((0 ≤ ((r76.1.length : Nat) : Int) ∧ ((r76.1.length : Nat) : Int) < ((r117.1.length : Nat) : Int)) ∧ next51 ((List.set r117.1 (((r76.1.length : Nat) : Int).toNat) (⟨(rd r117.1 ((r76.1.length : Nat) : Int)).Op, (rd r117.1 ((r76.1.length : Nat) : Int)).A, ((r117.1.length : Nat) : Int), (rd r117.1 ((r76.1.length : Nat) : Int)).C⟩ : D.Ins)), (IntKind.wrap .i64 (i45 - 1)), r117.2.i, r117.2.h, ())))))))))))) (bcase (r53.1 == 1) (bcase (x2 == 0) (next51 (xs42, (IntKind.wrap .i64 (i45 - 1)), r53.2.i, r53.2.h, ())) (bcase (decide (((xs42.length : Nat) : Int) > 14)) (next51 (xs42, (IntKind.wrap .i64 (i45 - 1)), r53.2.i, r53.2.h, ())) (((xs42.length + ([(⟨8, 3, 0, 0⟩ : D.Ins)] : List D.Ins).length ≤ 17179869184) ∧ (((xs42 ++ ([(⟨8, 3, 0, 0⟩ : D.Ins)] : List D.Ins)).length + ([(⟨10, 3, 0, 0⟩ : D.Ins)] : List D.Ins).length ≤ 17179869184) ∧ ((((xs42 ++ ([(⟨8, 3, 0, 0⟩ : D.Ins)] : List D.Ins)) ++ ([(⟨10, 3, 0, 0⟩ : D.Ins)] : List D.Ins)).length + ([(⟨3, 0, 0, 1⟩ : D.Ins), (⟨1, 2, 1, 0⟩ : D.Ins), (⟨4, 3, 3, 2⟩ : D.Ins)] : List D.Ins).length ≤ 17179869184) ∧ (((((xs42 ++ ([(⟨8, 3, 0, 0⟩ : D.Ins)] : List D.Ins)) ++ ([(⟨10, 3, 0, 0⟩ : D.Ins)] : List D.Ins)) ++ ([(⟨3, 0, 0, 1⟩ : D.Ins), (⟨1, 2, 1, 0⟩ : D.Ins), (⟨4, 3, 3, 2⟩ : D.Ins)] : List D.Ins)).length + ([(⟨11, 0, ((((xs42 ++ ([(⟨8, 3, 0, 0⟩ : D.Ins)] : List D.Ins))).length : Nat) : Int), 0⟩ : D.Ins)] : List D.Ins).length ≤ 17179869184) ∧ ((0 ≤ ((((xs42 ++ ([(⟨8, 3, 0, 0⟩ : D.Ins)] : List D.Ins))).length : Nat) : Int) ∧ ((((xs42 ++ ([(⟨8, 3, 0, 0⟩ : D.Ins)] : List D.Ins))).length : Nat) : Int) < ((((((xs42 ++ ([(⟨8, 3, 0, 0⟩ : D.Ins)] : List D.Ins)) ++ ([(⟨10, 3, 0, 0⟩ : D.Ins)] : List D.Ins)) ++ ([(⟨3, 0, 0, 1⟩ : D.Ins), (⟨1, 2, 1, 0⟩ : D.Ins), (⟨4, 3, 3, 2⟩ : D.Ins)] : List D.Ins)) ++ ([(⟨11, 0, ((((xs42 ++ ([(⟨8, 3, 0, 0⟩ : D.Ins)] : List D.Ins))).length : Nat) : Int), 0⟩ : D.Ins)] : List D.Ins)).length : Nat) : Int)) ∧ next51 ((List.set ((((xs42 ++ ([(⟨8, 3, 0, 0⟩ : D.Ins)] : List D.Ins)) ++ ([(⟨10, 3, 0, 0⟩ : D.Ins)] : List D.Ins)) ++ ([(⟨3, 0, 0, 1⟩ : D.Ins), (⟨1, 2, 1, 0⟩ : D.Ins), (⟨4, 3, 3, 2⟩ : D.Ins)] : List D.Ins)) ++ ([(⟨11, 0, ((((xs42 ++ ([(⟨8, 3, 0, 0⟩ : D.Ins)] : List D.Ins))).length : Nat) : Int), 0⟩ : D.Ins)] : List D.Ins)) (((((xs42 ++ ([(⟨8, 3, 0, 0⟩ : D.Ins)] : List D.Ins))).length : Nat) : Int).toNat) (⟨(rd ((((xs42 ++ ([(⟨8, 3, 0, 0⟩ : D.Ins)] : List D.Ins)) ++ ([(⟨10, 3, 0, 0⟩ : D.Ins)] : List D.Ins)) ++ ([(⟨3, 0, 0, 1⟩ : D.Ins), (⟨1, 2, 1, 0⟩ : D.Ins), (⟨4, 3, 3, 2⟩ : D.Ins)] : List D.Ins)) ++ ([(⟨11, 0, ((((xs42 ++ ([(⟨8, 3, 0, 0⟩ : D.Ins)] : List D.Ins))).length : Nat) : Int), 0⟩ : D.Ins)] : List D.Ins)) ((((xs42 ++ ([(⟨8, 3, 0, 0⟩ : D.Ins)] : List D.Ins))).length : Nat) : Int)).Op, (rd ((((xs42 ++ ([(⟨8, 3, 0, 0⟩ : D.Ins)] : List D.Ins)) ++ ([(⟨10, 3, 0, 0⟩ : D.Ins)] : List D.Ins)) ++ ([(⟨3, 0, 0, 1⟩ : D.Ins), (⟨1, 2, 1, 0⟩ : D.Ins), (⟨4, 3, 3, 2⟩ : D.Ins)] : List D.Ins)) ++ ([(⟨11, 0, ((((xs42 ++ ([(⟨8, 3, 0, 0⟩ : D.Ins)] : List D.Ins))).length : Nat) : Int), 0⟩ : D.Ins)] : List D.Ins)) ((((xs42 ++ ([(⟨8, 3, 0, 0⟩ : D.Ins)] : List D.Ins))).length : Nat) : Int)).A, (((((((xs42 ++ ([(⟨8, 3, 0, 0⟩ : D.Ins)] : List D.Ins)) ++ ([(⟨10, 3, 0, 0⟩ : D.Ins)] : List D.Ins)) ++ ([(⟨3, 0, 0, 1⟩ : D.Ins), (⟨1, 2, 1, 0⟩ : D.Ins), (⟨4, 3, 3, 2⟩ : D.Ins)] : List D.Ins)) ++ ([(⟨11, 0, ((((xs42 ++ ([(⟨8, 3, 0, 0⟩ : D.Ins)] : List D.Ins))).length : Nat) : Int), 0⟩ : D.Ins)] : List D.Ins))).length : Nat) : Int), (rd ((((xs42 ++ ([(⟨8, 3, 0, 0⟩ : D.Ins)] : List D.Ins)) ++ ([(⟨10, 3, 0, 0⟩ : D.Ins)] : List D.Ins)) ++ ([(⟨3, 0, 0, 1⟩ : D.Ins), (⟨1, 2, 1, 0⟩ : D.Ins), (⟨4, 3, 3, 2⟩ : D.Ins)] : List D.Ins)) ++ ([(⟨11, 0, ((((xs42 ++ ([(⟨8, 3, 0, 0⟩ : D.Ins)] : List D.Ins))).length : Nat) : Int), 0⟩ : D.Ins)] : List D.Ins)) ((((xs42 ++ ([(⟨8, 3, 0, 0⟩ : D.Ins)] : List D.Ins))).length : Nat) : Int)).C⟩ : D.Ins)), (IntKind.wrap .i64 (i45 - 1)), r53.2.i, r53.2.h, ()))))))))) ((M.spec_l04Plain_pre (⟨s0.b, r53.2.i, r53.2.h⟩ : D.Cur) ∧ ∀ r189, r189 = M.spec_l04Plain (⟨s0.b, r53.2.i, r53.2.h⟩ : D.Cur) → ((xs42.length + ([r189.1] : List D.Ins).length ≤ 17179869184) ∧ next51 ((xs42 ++ ([r189.1] : List D.Ins)), (IntKind.wrap .i64 (i45 - 1)), r189.2.i, r189.2.h, ()))))))) (Q (xs42, (⟨s0.b, i46, i47⟩ : D.Cur)))) (Q (xs42, (⟨s0.b, i46, i47⟩ : D.Cur)))) (xs1, r21.1, r21.2.i, r21.2.h, ()))
def wp.spec_l05Quiet (s0 : D.Cur) (Q : ((List D.Ins) × D.Cur) → Prop) : Prop :=
  JoinP (σ := (List D.Ins) × Int × Int × Unit) (fun J29 => (M.spec_l01Once_pre s0 4 ∧ ∀ r32, r32 = M.spec_l01Once s0 4 → bcase (!r32.1) ((M.spec_l01Below_pre (⟨s0.b, r32.2.i, r32.2.h⟩ : D.Cur) 2 ∧ ∀ r38, r38 = M.spec_l01Below (⟨s0.b, r32.2.i, r32.2.h⟩ : D.Cur) 2 → ((([] : List D.Ins).length + ([(⟨8, r38.1, 0, 0⟩ : D.Ins)] : List D.Ins).length ≤ 17179869184) ∧ J29 ((([] : List D.Ins) ++ ([(⟨8, r38.1, 0, 0⟩ : D.Ins)] : List D.Ins)), r38.2.i, r38.2.h, ())))) (J29 (([] : List D.Ins), r32.2.i, r32.2.h, ())))) (fun (p91 : (List D.Ins) × Int × Int × Unit) => match p91 with | (xs24, i27, i28, _) => (M.spec_l05Body_pre (⟨s0.b, i27, i28⟩ : D.Cur) xs24 2 ∧ ∀ r53, r53 = M.spec_l05Body (⟨s0.b, i27, i28⟩ : D.Cur) xs24 2 → JoinP (σ := Bool × Int × Int × Unit) (fun J64 => (M.spec_l01Once_pre (⟨s0.b, r53.2.i, r53.2.h⟩ : D.Cur) 6 ∧ ∀ r67, r67 = M.spec_l01Once (⟨s0.b, r53.2.i, r53.2.h⟩ : D.Cur) 6 → bcase r67.1 (J64 ((decide (((r53.1.length : Nat) : Int) > 1)), r67.2.i, r67.2.h, ())) (J64 (false, r67.2.i, r67.2.h, ())))) (fun (p89 : Bool × Int × Int × Unit) => match p89 with | (b61, i62, i63, _) => bcase b61 ((M.spec_l01Below_pre (⟨s0.b, i62, i63⟩ : D.Cur) ((r53.1.length : Nat) : Int) ∧ ∀ r74, r74 = M.spec_l01Below (⟨s0.b, i62, i63⟩ : D.Cur) ((r53.1.length : Nat) : Int) → ((0 ≤ r74.1 ∧ r74.1 < ((r53.1.length : Nat) : Int)) ∧ Q ((List.set r53.1 (r74.1.toNat) (⟨12, 0, 0, 0⟩ : D.Ins)), (⟨s0.b, r74.2.i, r74.2.h⟩ : D.Cur))))) (Q (r53.1, (⟨s0.b, i62, i63⟩ : D.Cur))))))
def wp.spec_l14Case (s0 : D.Cur) (Q : ((List D.Ins) × D.Warp × D.Cur) → Prop) : Prop :=
  (M.spec_l05Quiet_pre s0 ∧ ∀ r23, r23 = M.spec_l05Quiet s0 → JoinP (σ := (List D.Ins) × Int × Int × Unit) (fun J36 => (M.spec_l01Once_pre (⟨s0.b, r23.2.i, r23.2.h⟩ : D.Cur) 3 ∧ ∀ r39, r39 = M.spec_l01Once (⟨s0.b, r23.2.i, r23.2.h⟩ : D.Cur) 3 → bcase r39.1 ((M.spec_l07Wild_pre (⟨s0.b, r39.2.i, r39.2.h⟩ : D.Cur) ∧ ∀ r45, r45 = M.spec_l07Wild (⟨s0.b, r39.2.i, r39.2.h⟩ : D.Cur) → J36 (r45.1, r45.2.i, r45.2.h, ()))) (J36 (r23.1, r39.2.i, r39.2.h, ())))) (fun (p161 : (List D.Ins) × Int × Int × Unit) => match p161 with | (xs31, i34, i35, _) => (M.spec_l01Below_pre (⟨s0.b, i34, i35⟩ : D.Cur) 3 ∧ ∀ r54, r54 = M.spec_l01Below (⟨s0.b, i34, i35⟩ : D.Cur) 3 → (M.spec_WarpNew_pre xs31 r54.1 ∧ ∀ r60, r60 = M.spec_WarpNew xs31 r54.1 → JoinP (σ := Int × Int × Int × (List Int) × Unit) (fun J101 => (M.spec_l01Once_pre (⟨s0.b, r54.2.i, r54.2.h⟩ : D.Cur) 3 ∧ ∀ r104, r104 = M.spec_l01Once (⟨s0.b, r54.2.i, r54.2.h⟩ : D.Cur) 3 → bcase r104.1 ((M.spec_l02Words_pre (⟨s0.b, r104.2.i, r104.2.h⟩ : D.Cur) 32 ∧ ∀ r110, r110 = M.spec_l02Words (⟨s0.b, r104.2.i, r104.2.h⟩ : D.Cur) 32 → J101 (r110.2.i, r110.2.h, r60.1.Number, r110.1, ()))) (J101 (r104.2.i, r104.2.h, r60.1.Number, r60.1.Regs, ())))) (fun (p159 : Int × Int × Int × (List Int) × Unit) => match p159 with | (i95, i96, i97, xs98, _) => (((M.spec_l01Below_pre (⟨s0.b, i95, i96⟩ : D.Cur) 30 ∧ ∀ r121, r121 = M.spec_l01Below (⟨s0.b, i95, i96⟩ : D.Cur) 30 → (M.spec_l14Run_pre xs31 (⟨i97, r60.1.Frames, xs98⟩ : D.Warp) r121.1 ∧ ∀ r127, r127 = M.spec_l14Run xs31 (⟨i97, r60.1.Frames, xs98⟩ : D.Warp) r121.1 → Q (xs31, (⟨r127.1.Number, r127.1.Frames, r127.1.Regs⟩ : D.Warp), (⟨s0.b, r121.2.i, r121.2.h⟩ : D.Cur))))) ∧ ((M.spec_l01Below_pre (⟨s0.b, i95, i96⟩ : D.Cur) 30 ∧ ∀ r140, r140 = M.spec_l01Below (⟨s0.b, i95, i96⟩ : D.Cur) 30 → (M.spec_l14Run_pre xs31 (⟨i97, r60.1.Frames, xs98⟩ : D.Warp) r140.1 ∧ ∀ r146, r146 = M.spec_l14Run xs31 (⟨i97, r60.1.Frames, xs98⟩ : D.Warp) r140.1 → Q (xs31, (⟨r146.1.Number, r146.1.Frames, r146.1.Regs⟩ : D.Warp), (⟨s0.b, r140.2.i, r140.2.h⟩ : D.Cur))))) ∧ True))))))
def wp.spec_DrawWarp (xs0 : List Int) (Q : ((List D.Ins) × D.Warp) → Prop) : Prop :=
  (M.spec_l01New_pre xs0 ∧ ∀ r23, r23 = M.spec_l01New xs0 → (M.spec_l14Case_pre (⟨xs0, r23.i, r23.h⟩ : D.Cur) ∧ ∀ r29, r29 = M.spec_l14Case (⟨xs0, r23.i, r23.h⟩ : D.Cur) → Q (r29.1, (⟨r29.2.1.Number, r29.2.1.Frames, r29.2.1.Regs⟩ : D.Warp))))
def wp.laws_FnWarpParts (xs0 : List Int) (Q : Bool → Prop) : Prop :=
  (∀ r21, r21 = M.laws_big xs0 → bcase r21 (Q true) ((M.spec_DrawWarp_pre xs0 ∧ ∀ r26, r26 = M.spec_DrawWarp xs0 → (M.spec_DrawPlaces_pre xs0 ∧ ∀ r41, r41 = M.spec_DrawPlaces xs0 → ((0 ≤ (0 : Int) ∧ (0 : Int) < ((r41.length : Nat) : Int)) ∧ ((0 ≤ (1 : Int) ∧ (1 : Int) < ((r41.length : Nat) : Int)) ∧ (M.impl_RunWarp_pre r26.1 r26.2 (IntKind.wrap .i64 ((Int.tmod (rd r41 0) 20) + (Int.tmod (rd r41 1) 20))) ∧ ∀ r60, r60 = M.impl_RunWarp r26.1 r26.2 (IntKind.wrap .i64 ((Int.tmod (rd r41 0) 20) + (Int.tmod (rd r41 1) 20))) → (M.impl_RunWarp_pre r26.1 r26.2 (Int.tmod (rd r41 0) 20) ∧ ∀ r73, r73 = M.impl_RunWarp r26.1 r26.2 (Int.tmod (rd r41 0) 20) → (M.impl_RunWarp_pre r26.1 r73.1 (Int.tmod (rd r41 1) 20) ∧ ∀ r86, r86 = M.impl_RunWarp r26.1 r73.1 (Int.tmod (rd r41 1) 20) → bcase (decide (r60.2 ≥ 0)) (bcase (decide (r73.2 ≥ 0)) (bcase (decide (r86.2 ≥ 0)) (bcase ((IntKind.wrap .i64 (r73.2 + r86.2)) == r60.2) ((M.impl_SameWarp_pre r60.1 r86.1 ∧ ∀ r99, r99 = M.impl_SameWarp r60.1 r86.1 → Q r99)) (Q false)) (Q false)) (Q false)) (Q false))))))))))
end Go.V
set_option linter.unusedVariables false
set_option linter.unusedSimpArgs false
set_option maxRecDepth 20000
namespace Go.V
def plainI (i : D.Ins) : Bool := M.isIn i.Op 1 9 && M.insOk i 32
inductive Seg : Nat → List D.Ins → Prop
  | nil (b : Nat) : Seg b []
  | cat {b : Nat} {s t : List D.Ins} : Seg b s → Seg (b + s.length) t → Seg b (s ++ t)
  | one {b : Nat} {i : D.Ins} : plainI i = true → Seg b [i]
  | thn {b : Nat} {r : Int} {s : List D.Ins} : 0 ≤ r → r ≤ 3 → Seg (b + 1) s → Seg b (⟨10, r, ((b + 1 + s.length : Nat) : Int), 0⟩ :: s)
  | els {b : Nat} {r : Int} {s t : List D.Ins} : 0 ≤ r → r ≤ 3 → Seg (b + 1) s → Seg (b + 2 + s.length) t → Seg b (⟨10, r, ((b + 2 + s.length : Nat) : Int), 0⟩ :: (s ++ ⟨11, 0, ((b + 2 + s.length + t.length : Nat) : Int), 0⟩ :: t))
  | loop {b : Nat} : b ≤ 14 → Seg b [⟨8, 3, 0, 0⟩, ⟨10, 3, ((b + 6 : Nat) : Int), 0⟩, ⟨3, 0, 0, 1⟩, ⟨1, 2, 1, 0⟩, ⟨4, 3, 3, 2⟩, ⟨11, 0, ((b + 1 : Nat) : Int), 0⟩]
theorem plainI_ok {i : D.Ins} (h : plainI i = true) {n : Int} (hn : 0 ≤ n ∧ n ≤ 32) : M.insOk i n = true ∧ M.isLocal i = true := by
  unfold plainI at h
  rw [Bool.and_eq_true] at h
  obtain ⟨h1, h2⟩ := h
  have h1' := h1
  simp only [M.isIn, Bool.and_eq_true, decide_eq_true_eq] at h1'
  refine ⟨?_, by simp only [M.isLocal, M.isIn, Bool.and_eq_true, decide_eq_true_eq]; omega⟩
  have e : M.isIn n 0 32 = true := by simp only [M.isIn, Bool.and_eq_true, decide_eq_true_eq]; omega
  have e32 : M.isIn 32 0 32 = true := by decide
  unfold M.insOk at h2 ⊢
  rw [e, Bool.true_and]
  rw [e32, Bool.true_and] at h2
  rw [if_neg (by omega : ¬ i.Op = 10), if_neg (by omega : ¬ i.Op = 11)] at h2 ⊢
  exact h2
theorem seg_ok {b : Nat} {s : List D.Ins} (h : Seg b s) : ∀ n : Nat, b + s.length ≤ n → n ≤ 32 → ∀ i ∈ s, M.insOk i (n : Int) = true ∧ M.isLocal i = true := by
  have br : ∀ (n : Nat) (r : Int) (t : Nat), 0 ≤ r → r ≤ 3 → t ≤ n → n ≤ 32 → M.insOk ⟨10, r, ((t : Nat) : Int), 0⟩ (n : Int) = true ∧ M.isLocal ⟨10, r, ((t : Nat) : Int), 0⟩ = true := fun n r t h0 h1 h2 h3 => by
    refine ⟨?_, rfl⟩
    simp only [M.insOk, M.isReg, M.isIn, Bool.and_eq_true, decide_eq_true_eq]
    simp
    omega
  have jm : ∀ (n t : Nat), t ≤ n → n ≤ 32 → M.insOk ⟨11, 0, ((t : Nat) : Int), 0⟩ (n : Int) = true ∧ M.isLocal ⟨11, 0, ((t : Nat) : Int), 0⟩ = true := fun n t h2 h3 => by
    refine ⟨?_, rfl⟩
    simp only [M.insOk, M.isReg, M.isIn, Bool.and_eq_true, decide_eq_true_eq]
    simp
    omega
  have pl : ∀ (n : Nat) (i : D.Ins), plainI i = true → n ≤ 32 → M.insOk i (n : Int) = true ∧ M.isLocal i = true := fun n i hi hn => plainI_ok hi ⟨by omega, by omega⟩
  induction h with
  | nil b => intro n _ _ i hi; simp at hi
  | cat _ _ ih1 ih2 =>
    intro n hn h32 i hi
    rw [List.length_append] at hn
    rcases List.mem_append.1 hi with hi | hi
    · exact ih1 n (by omega) h32 i hi
    · exact ih2 n (by omega) h32 i hi
  | one hp => intro n hn h32 i hi; rw [List.mem_singleton] at hi; subst hi; exact pl n _ hp h32
  | thn h0 h3 _ ih =>
    intro n hn h32 i hi
    rw [List.length_cons] at hn
    rcases List.mem_cons.1 hi with hi | hi
    · subst hi; exact br n _ _ h0 h3 (by omega) h32
    · exact ih n (by omega) h32 i hi
  | els h0 h3 _ _ ih1 ih2 =>
    intro n hn h32 i hi
    rw [List.length_cons, List.length_append, List.length_cons] at hn
    rcases List.mem_cons.1 hi with hi | hi
    · subst hi; exact br n _ _ h0 h3 (by omega) h32
    rcases List.mem_append.1 hi with hi | hi
    · exact ih1 n (by omega) h32 i hi
    rcases List.mem_cons.1 hi with hi | hi
    · subst hi; exact jm n _ (by omega) h32
    · exact ih2 n (by omega) h32 i hi
  | loop hb =>
    intro n hn h32 i hi
    simp only [List.length_cons, List.length_nil] at hn
    simp only [List.mem_cons, List.not_mem_nil, or_false] at hi
    rcases hi with hi | hi | hi | hi | hi | hi <;> subst hi
    · exact pl n _ rfl h32
    · exact br n _ _ (by omega) (by omega) (by omega) h32
    · exact pl n _ rfl h32
    · exact pl n _ rfl h32
    · exact pl n _ rfl h32
    · exact jm n _ (by omega) h32
theorem plain_plainI (c : D.Cur) : plainI (M.spec_l04Plain c).1 = true := by
  unfold plainI
  rw [(plain_good c (n := 32) ⟨by omega, by omega⟩).1, Bool.and_true]
  have h := below_in c (n := 9) (by omega)
  have e : IntKind.wrap .i64 (1 + (M.spec_l01Below c 9).1) = 1 + (M.spec_l01Below c 9).1 := w64 (by omega) (by omega)
  have : (M.spec_l04Plain c).1.Op = 1 + (M.spec_l01Below c 9).1 := by
    unfold M.spec_l04Plain
    simp only
    rw [e]
    split
    · rfl
    split
    · rfl
    split <;> rfl
  rw [this]
  simp only [M.isIn, Bool.and_eq_true, decide_eq_true_eq]
  omega
theorem once_b (c : D.Cur) (n : Int) : (M.once c n).2.b = c.b := below_b c n
theorem once_ok {c : D.Cur} (h : M.CurOk c) (n : Int) : M.CurOk (M.once c n).2 := below_ok h n
theorem set_at {p s : List D.Ins} {x y : D.Ins} : (p ++ x :: s).set p.length y = p ++ y :: s := by
  rw [List.set_append_right _ _ (Nat.le_refl _), Nat.sub_self]; rfl
theorem setB_at {p s : List D.Ins} {x : D.Ins} {k : Nat} (hk : p.length = k) (v : Int) : M.setB (p ++ x :: s) k v = p ++ ⟨x.Op, x.A, v, x.C⟩ :: s := by
  subst hk
  unfold M.setB
  rw [rd_app rfl, set_at]
def Grows (L : Nat) (rec : D.Cur → List D.Ins → List D.Ins × D.Cur) : Prop :=
  ∀ (c : D.Cur) (p : List D.Ins), M.CurOk c → M.CurOk (rec c p).2 ∧ (rec c p).2.b = c.b ∧ ∃ s, (rec c p).1 = p ++ s ∧ Seg p.length s ∧ p.length + s.length ≤ max p.length L
theorem countLoop_seg (p : List D.Ins) : M.countLoop p = p ++ [⟨8, 3, 0, 0⟩, ⟨10, 3, ((p.length + 6 : Nat) : Int), 0⟩, ⟨3, 0, 0, 1⟩, ⟨1, 2, 1, 0⟩, ⟨4, 3, 3, 2⟩, ⟨11, 0, ((p.length + 1 : Nat) : Int), 0⟩] := by
  have e : M.loopAll p = (p ++ [⟨8, 3, 0, 0⟩]) ++ (⟨10, 3, 0, 0⟩ : D.Ins) :: [⟨3, 0, 0, 1⟩, ⟨1, 2, 1, 0⟩, ⟨4, 3, 3, 2⟩, ⟨11, 0, ((p.length + 1 : Nat) : Int), 0⟩] := by
    unfold M.loopAll M.loopHead; simp
  have l1 : (M.loopHead p).length = (p ++ [(⟨8, 3, 0, 0⟩ : D.Ins)]).length := rfl
  have l2 : (M.loopAll p).length = p.length + 6 := by rw [e]; simp
  unfold M.countLoop
  rw [l2, e, setB_at l1.symm]
  simp
theorem ifIn_grows {L : Nat} {rec : D.Cur → List D.Ins → List D.Ins × D.Cur} (hr : Grows L rec) (hL : 20 ≤ L) {c : D.Cur} (hc : M.CurOk c) {p : List D.Ins} (hp : p.length < 20) :
    M.CurOk (M.ifIn rec c p).2 ∧ (M.ifIn rec c p).2.b = c.b ∧ ∃ s, (M.ifIn rec c p).1 = p ++ s ∧ Seg p.length s ∧ p.length + s.length ≤ L + 1 := by
  have hreg := below_in c (n := 4) (by omega)
  have c1 := below_ok hc 4
  have b1 := below_b c 4
  obtain ⟨c2, b2, s1, e1, g1, n1⟩ := hr (M.spec_l01Below c 4).2 (p ++ [⟨10, (M.spec_l01Below c 4).1, 0, 0⟩]) c1
  have hb1 : M.branchIn rec c p = rec (M.spec_l01Below c 4).2 (p ++ [⟨10, (M.spec_l01Below c 4).1, 0, 0⟩]) := rfl
  rw [← hb1] at c2 b2 e1
  rw [List.length_append, List.length_singleton] at g1 n1
  have e1' : (M.branchIn rec c p).1 = p ++ ⟨10, (M.spec_l01Below c 4).1, 0, 0⟩ :: s1 := by rw [e1]; simp
  have l1 : (M.branchIn rec c p).1.length = p.length + 1 + s1.length := by rw [e1']; simp; omega
  have c3 := once_ok c2 2
  have b3 := once_b (M.branchIn rec c p).2 2
  unfold M.ifIn
  split
  · refine ⟨c3, by rw [b3, b2, b1], _, ?_, Seg.thn (r := (M.spec_l01Below c 4).1) (by omega) (by omega) g1, ?_⟩
    · show M.setB _ _ _ = _
      rw [l1, e1', setB_at rfl]
    · rw [List.length_cons]; omega
  · have e2 : M.setB ((M.branchIn rec c p).1 ++ [⟨11, 0, 0, 0⟩]) p.length ((((M.branchIn rec c p).1 ++ [(⟨11, 0, 0, 0⟩ : D.Ins)]).length : Nat) : Int) = p ++ ⟨10, (M.spec_l01Below c 4).1, ((p.length + 2 + s1.length : Nat) : Int), 0⟩ :: (s1 ++ [⟨11, 0, 0, 0⟩]) := by
      rw [List.length_append, List.length_singleton, l1, e1', List.append_assoc, List.cons_append, setB_at rfl]
      congr 4
      omega
    obtain ⟨c4, b4, s2, e3, g2, n2⟩ := hr (M.once (M.branchIn rec c p).2 2).2 (p ++ ⟨10, (M.spec_l01Below c 4).1, ((p.length + 2 + s1.length : Nat) : Int), 0⟩ :: (s1 ++ [⟨11, 0, 0, 0⟩])) c3
    have hb2 : M.elseIn rec (M.once (M.branchIn rec c p).2 2).2 p (M.branchIn rec c p).1 = rec (M.once (M.branchIn rec c p).2 2).2 (p ++ ⟨10, (M.spec_l01Below c 4).1, ((p.length + 2 + s1.length : Nat) : Int), 0⟩ :: (s1 ++ [⟨11, 0, 0, 0⟩])) := by
      unfold M.elseIn; rw [e2]
    rw [← hb2] at c4 b4 e3
    have lq : (p ++ ⟨10, (M.spec_l01Below c 4).1, ((p.length + 2 + s1.length : Nat) : Int), 0⟩ :: (s1 ++ [(⟨11, 0, 0, 0⟩ : D.Ins)])).length = p.length + 2 + s1.length := by simp; omega
    rw [lq] at g2 n2
    have e3' : (M.elseIn rec (M.once (M.branchIn rec c p).2 2).2 p (M.branchIn rec c p).1).1 = (p ++ ⟨10, (M.spec_l01Below c 4).1, ((p.length + 2 + s1.length : Nat) : Int), 0⟩ :: s1) ++ ⟨11, 0, 0, 0⟩ :: s2 := by rw [e3]; simp
    have l3 : (M.elseIn rec (M.once (M.branchIn rec c p).2 2).2 p (M.branchIn rec c p).1).1.length = p.length + 2 + s1.length + s2.length := by rw [e3']; simp; omega
    refine ⟨c4, by rw [b4, b3, b2, b1], _, ?_, Seg.els (r := (M.spec_l01Below c 4).1) (by omega) (by omega) g1 g2, ?_⟩
    · show M.setB _ _ _ = _
      rw [l3, l1, e3', setB_at (by simp; omega)]
      simp
    · rw [List.length_cons, List.length_append, List.length_cons]; omega
theorem one_grows {L : Nat} {rec : D.Cur → List D.Ins → List D.Ins × D.Cur} (hr : Grows L rec) (hL : 20 ≤ L) (deep : Bool) {c : D.Cur} (hc : M.CurOk c) {p : List D.Ins} (hp : p.length < 20) :
    M.CurOk (M.bodyOne rec deep c p).2 ∧ (M.bodyOne rec deep c p).2.b = c.b ∧ ∃ s, (M.bodyOne rec deep c p).1 = p ++ s ∧ Seg p.length s ∧ p.length + s.length ≤ if deep then L + 1 else 20 := by
  have c1 := below_ok hc 5
  have b1 := below_b c 5
  obtain ⟨B, hB, hB1, hB2⟩ : ∃ B, (if deep then L + 1 else 20) = B ∧ 20 ≤ B ∧ (deep = true → B = L + 1) := ⟨_, rfl, by split <;> omega, fun h => if_pos h⟩
  rw [hB]
  have same : M.CurOk (M.spec_l01Below c 5).2 ∧ (M.spec_l01Below c 5).2.b = c.b ∧ ∃ s, p = p ++ s ∧ Seg p.length s ∧ p.length + s.length ≤ B :=
    ⟨c1, b1, [], by simp, Seg.nil _, by simp only [List.length_nil]; omega⟩
  unfold M.bodyOne
  split
  · split
    · rename_i hd
      obtain ⟨g1, g2, s, g3, g4, g5⟩ := ifIn_grows hr hL c1 hp
      exact ⟨g1, by rw [g2, b1], s, g3, g4, by rw [hB2 hd]; exact g5⟩
    · exact same
  split
  · split
    · rename_i hd
      refine ⟨c1, b1, _, countLoop_seg p, Seg.loop (by omega), ?_⟩
      have := hB2 hd.1
      simp only [List.length_cons, List.length_nil]
      omega
    · exact same
  · refine ⟨plain_ok c1, by rw [plain_b, b1], _, rfl, Seg.one (plain_plainI _), ?_⟩
    simp only [List.length_cons, List.length_nil]
    omega
theorem bodyN_grows {L : Nat} {rec : D.Cur → List D.Ins → List D.Ins × D.Cur} (hr : Grows L rec) (hL : 20 ≤ L) (deep : Bool) : ∀ n, Grows (if deep then L + 1 else 20) (M.bodyN rec deep n)
  | 0, c, p, hc => ⟨hc, rfl, [], by simp [M.bodyN], Seg.nil _, by simp only [List.length_nil]; omega⟩
  | n + 1, c, p, hc => by
    rw [M.bodyN]
    split
    · rename_i hp
      obtain ⟨g1, g2, s, g3, g4, g5⟩ := one_grows hr hL deep hc (p := p) (by omega)
      obtain ⟨k1, k2, t, k3, k4, k5⟩ := bodyN_grows hr hL deep n (M.bodyOne rec deep c p).2 (M.bodyOne rec deep c p).1 g1
      rw [g3, List.length_append] at k4 k5
      refine ⟨k1, by rw [k2, g2], s ++ t, by rw [k3, g3, List.append_assoc], Seg.cat g4 k4, ?_⟩
      rw [List.length_append]
      have : p.length ≤ if deep = true then L + 1 else 20 := by split <;> omega
      omega
    · exact ⟨hc, rfl, [], by simp, Seg.nil _, by simp only [List.length_nil]; omega⟩
theorem grows_mono {L K : Nat} {rec : D.Cur → List D.Ins → List D.Ins × D.Cur} (h : Grows L rec) (hk : L ≤ K) : Grows K rec := fun c p hc => by
  obtain ⟨g1, g2, s, g3, g4, g5⟩ := h c p hc
  exact ⟨g1, g2, s, g3, g4, by omega⟩
theorem grows_id : Grows 20 (fun c p => (p, c)) := fun c p hc => ⟨hc, rfl, [], by simp, Seg.nil _, by simp only [List.length_nil]; omega⟩
theorem body_grows : ∀ d, Grows (20 + d) (M.body d)
  | 0, c, p, hc => by
    obtain ⟨g1, g2, r⟩ := bodyN_grows grows_id (Nat.le_refl _) false (M.spec_l01Below c 4).1.toNat (M.spec_l01Below c 4).2 p (below_ok hc 4)
    exact ⟨g1, g2.trans (below_b c 4), r⟩
  | d + 1, c, p, hc => by
    obtain ⟨g1, g2, r⟩ := bodyN_grows (body_grows d) (by omega) true (M.spec_l01Below c 4).1.toNat (M.spec_l01Below c 4).2 p (below_ok hc 4)
    exact ⟨g1, g2.trans (below_b c 4), r⟩
end Go.V
set_option linter.unusedVariables false
set_option linter.unusedVariables false
set_option linter.unusedSimpArgs false
set_option maxRecDepth 20000
namespace Go.V
theorem fine_small {p : List D.Ins} {x : D.Warp} (h : M.Fine p x) : x.Frames.length ≤ 24 ∧ x.Regs.length = 32 := by
  have hw := h.2
  simp only [M.warpOf, M.areFrames, Bool.and_eq_true, Bool.or_eq_true, beq_iff_eq] at hw
  obtain ⟨h1, h2, h3, h4, h5⟩ := hw
  refine ⟨?_, h2⟩
  rcases h5 with h5 | h5
  · have : x.Frames = [] := by simpa using h5
    rw [this]; simp
  · simp only [M.endsOk, Bool.and_eq_true, decide_eq_true_eq] at h5
    exact h5.1
theorem runW_fine {p : List D.Ins} : ∀ (n : Nat) (x : D.Warp) (k : Int), M.Fine p x → M.Fine p (M.runW p n x k).1
  | 0, x, k, h => h
  | n + 1, x, k, h => by
    simp only [M.runW]
    split
    · rename_i hl
      exact runW_fine n _ _ (stepW_fine (goes_of h hl))
    · exact h
end Go.V
set_option linter.unusedVariables false
set_option linter.unusedVariables false
set_option linter.unusedSimpArgs false
set_option maxRecDepth 20000
set_option linter.unusedVariables false
set_option linter.unusedSimpArgs false
set_option maxRecDepth 20000
namespace Go.V
theorem wp.spec_l01Once.math (c : D.Cur) (n : Int) (h : M.spec_l01Once_pre c n) : wp.spec_l01Once c n (fun r => r = M.spec_l01Once c n) := by
  refine ⟨h, fun r hr => ?_⟩
  rw [hr, cur_eta (below_b c n)]; rfl
theorem spec_l05Body.dec {c : D.Cur} {p : List D.Ins} {x : Int} (h : M.spec_l05Body_pre c p x) (e : (x == 0) = false) : (IntKind.wrap .i64 (x - 1)).toNat < x.toNat := by
  obtain ⟨_, _, h3, h4⟩ := h
  have e : x ≠ 0 := by simpa using e
  rw [w64 (by omega) (by omega)]; omega
def itB (rec : D.Cur → List D.Ins → List D.Ins × D.Cur) (deep : Bool) : Nat → D.Cur → List D.Ins → List D.Ins × D.Cur
  | 0, c, p => (p, c)
  | k + 1, c, p => M.bodyOne rec deep (itB rec deep k c p).2 (itB rec deep k c p).1
def recOf : Nat → D.Cur → List D.Ins → List D.Ins × D.Cur
  | 0 => fun c p => (p, c)
  | d + 1 => M.body d
def deepOf : Nat → Bool
  | 0 => false
  | _ + 1 => true
theorem body_eq (d : Nat) (c : D.Cur) (p : List D.Ins) : M.body d c p = M.bodyN (recOf d) (deepOf d) (M.spec_l01Below c 4).1.toNat (M.spec_l01Below c 4).2 p := by cases d <;> rfl
theorem recOf_grows : ∀ d, Grows (20 + d) (recOf d)
  | 0 => grows_id
  | d + 1 => grows_mono (body_grows d) (by omega)
theorem wp.spec_l05Body.math (c : D.Cur) (p : List D.Ins) (x : Int) (h : M.spec_l05Body_pre c p x) : wp.spec_l05Body c p x (fun r => r = M.spec_l05Body c p x) := by
  obtain ⟨h1, h2, h3, h4⟩ := h
  obtain ⟨d, rfl⟩ := Int.eq_ofNat_of_zero_le h3
  unfold wp.spec_l05Body
  refine ⟨h1, fun r0 g0 => ?_⟩
  subst g0
  have hb := below_in c (n := 4) (by omega)
  have hc0 := below_ok h1 4
  have hb0 := below_b c 4
  have eM : M.spec_l05Body c p (d : Int) = M.bodyN (recOf d) (deepOf d) (M.spec_l01Below c 4).1.toNat (M.spec_l01Below c 4).2 p := by
    unfold M.spec_l05Body
    rw [Int.toNat_natCast, body_eq]
  rw [eM]
  obtain ⟨n, hn⟩ := Int.eq_ofNat_of_zero_le hb.1
  generalize (M.spec_l01Below c 4).2 = c0 at *
  rw [hn] at hb ⊢
  rw [Int.toNat_natCast]
  refine loop_n n (fun k => ((itB (recOf d) (deepOf d) k c0 p).1, ((n : Int) - (k : Int)), (itB (recOf d) (deepOf d) k c0 p).2.i, (itB (recOf d) (deepOf d) k c0 p).2.h, ()))
    (fun k => M.CurOk (itB (recOf d) (deepOf d) k c0 p).2 ∧ (itB (recOf d) (deepOf d) k c0 p).2.b = c.b ∧ (k ≤ n → M.bodyN (recOf d) (deepOf d) n c0 p = M.bodyN (recOf d) (deepOf d) (n - k) (itB (recOf d) (deepOf d) k c0 p).2 (itB (recOf d) (deepOf d) k c0 p).1))
    (by simp [itB]) ⟨hc0, hb0, fun _ => rfl⟩ (fun k hk hF next hnx => ?_) fun hF next => ?_
  · obtain ⟨f1, f2, f3⟩ := hF
    have f3 := f3 (by omega)
    have it : itB (recOf d) (deepOf d) (k + 1) c0 p = M.bodyOne (recOf d) (deepOf d) (itB (recOf d) (deepOf d) k c0 p).2 (itB (recOf d) (deepOf d) k c0 p).1 := rfl
    rw [it] at hnx
    generalize itB (recOf d) (deepOf d) k c0 p = y at *
    obtain ⟨q, e⟩ := y
    dsimp only at *
    refine bcase_t (by simp; omega) (bcase_mk (fun g => ?_) fun g => ?_)
    · have g : ((q.length : Nat) : Int) < 20 := by simpa using g
      obtain ⟨k1, k2, s, k3, k4, k5⟩ := one_grows (recOf_grows d) (by omega) (deepOf d) f1 (p := q) (by omega)
      have ew : IntKind.wrap .i64 ((n : Int) - (k : Int) - 1) = (n : Int) - ((k + 1 : Nat) : Int) := by rw [w64 (by omega) (by omega)]; omega
      have fin : ∀ P c', M.bodyOne (recOf d) (deepOf d) e q = (P, c') → next (P, IntKind.wrap .i64 ((n : Int) - (k : Int) - 1), c'.i, c'.h, ()) := fun P c' hE => by
        rw [ew]
        have := hnx ⟨k1, k2.trans f2, fun _ => ?_⟩
        · rw [hE] at this; exact this
        · rw [f3, show n - k = (n - (k + 1)) + 1 by omega, M.bodyN, if_pos g]
      rw [cur_eta f2]
      refine ⟨f1, fun r5 g5 => ?_⟩
      subst g5
      have c5 := below_ok f1 5
      have b5 : (M.spec_l01Below e 5).2.b = c.b := (below_b e 5).trans f2
      rw [cur_eta b5]
      have hb5 := below_in e (n := 5) (by omega)
      refine bcase_mk (fun e0 => ?_) fun e0 => bcase_mk (fun e1 => ?_) fun e1 => ?_
      · have e0 : (M.spec_l01Below e 5).1 = 0 := by simpa using e0
        cases d with
        | zero =>
          refine bcase_t rfl (fin _ _ ?_)
          unfold M.bodyOne
          rw [if_pos e0]; rfl
        | succ d =>
          refine bcase_f (by simp; omega) ?_
          have hM : M.bodyOne (recOf (d + 1)) (deepOf (d + 1)) e q = M.ifIn (M.body d) (M.spec_l01Below e 5).2 q := by
            unfold M.bodyOne
            rw [if_pos e0]; rfl
          rw [hM] at fin
          generalize (M.spec_l01Below e 5).2 = e5 at *
          refine ⟨c5, fun r6 g6 => ?_⟩
          subst g6
          have c6 := below_ok c5 4
          have b6 : (M.spec_l01Below e5 4).2.b = c.b := (below_b e5 4).trans b5
          have ed : IntKind.wrap .i64 (((d + 1 : Nat) : Int) - 1) = (d : Int) := by rw [w64 (by omega) (by omega)]; omega
          have hbody : ∀ c p, M.spec_l05Body c p (d : Int) = M.body d c p := fun c p => by unfold M.spec_l05Body; rw [Int.toNat_natCast]
          simp only [cur_eta b6, ed, hbody]
          obtain ⟨i1, i2, s1, i3, i4, i5⟩ := body_grows d (M.spec_l01Below e5 4).2 (q ++ [⟨10, (M.spec_l01Below e5 4).1, 0, 0⟩]) c6
          rw [List.length_append, List.length_singleton] at i5
          refine ⟨by simp; omega, ⟨c6, by simp; omega, by omega, by omega⟩, fun r7 g7 => ?_⟩
          have hbr : M.branchIn (M.body d) e5 q = M.body d (M.spec_l01Below e5 4).2 (q ++ [⟨10, (M.spec_l01Below e5 4).1, 0, 0⟩]) := rfl
          rw [← g7] at hbr i1 i2 i3
          have hE : M.ifIn (M.body d) e5 q = if (M.once r7.2 2).1 then (M.setB r7.1 q.length ((r7.1.length : Nat) : Int), (M.once r7.2 2).2)
              else (M.setB (M.elseIn (M.body d) (M.once r7.2 2).2 q r7.1).1 r7.1.length (((M.elseIn (M.body d) (M.once r7.2 2).2 q r7.1).1.length : Nat) : Int), (M.elseIn (M.body d) (M.once r7.2 2).2 q r7.1).2) := by
            unfold M.ifIn; rw [hbr]
          rw [hE] at fin
          have b7 : r7.2.b = c.b := i2.trans b6
          have l7 : r7.1.length = q.length + 1 + s1.length := by rw [i3]; simp; omega
          rw [cur_eta b7]
          refine ⟨i1, fun r8 g8 => ?_⟩
          have g8 : r8 = M.once r7.2 2 := g8
          rw [← g8] at fin
          have c8 : M.CurOk r8.2 := by rw [g8]; exact once_ok i1 2
          have b8 : r8.2.b = c.b := by rw [g8]; exact (once_b _ _).trans b7
          refine bcase_mk (fun t => ⟨by omega, ?_⟩) fun t => ⟨by simp; omega, by simp; omega, ?_⟩
          · refine fin _ _ ?_
            rw [if_pos t, Int.toNat_natCast]; rfl
          · rw [if_neg (by rw [t]; simp)] at fin
            simp only [cur_eta b8]
            have hel : M.elseIn (M.body d) r8.2 q r7.1 = M.body d r8.2 (List.set (r7.1 ++ [(⟨11, 0, 0, 0⟩ : D.Ins)]) (((q.length : Nat) : Int).toNat) (⟨(rd (r7.1 ++ [(⟨11, 0, 0, 0⟩ : D.Ins)]) ((q.length : Nat) : Int)).Op, (rd (r7.1 ++ [(⟨11, 0, 0, 0⟩ : D.Ins)]) ((q.length : Nat) : Int)).A, (((r7.1 ++ [(⟨11, 0, 0, 0⟩ : D.Ins)]).length : Nat) : Int), (rd (r7.1 ++ [(⟨11, 0, 0, 0⟩ : D.Ins)]) ((q.length : Nat) : Int)).C⟩ : D.Ins)) := by
              rw [Int.toNat_natCast]; rfl
            obtain ⟨j1, j2, s2, j3, j4, j5⟩ := body_grows d r8.2 (List.set (r7.1 ++ [(⟨11, 0, 0, 0⟩ : D.Ins)]) (((q.length : Nat) : Int).toNat) (⟨(rd (r7.1 ++ [(⟨11, 0, 0, 0⟩ : D.Ins)]) ((q.length : Nat) : Int)).Op, (rd (r7.1 ++ [(⟨11, 0, 0, 0⟩ : D.Ins)]) ((q.length : Nat) : Int)).A, (((r7.1 ++ [(⟨11, 0, 0, 0⟩ : D.Ins)]).length : Nat) : Int), (rd (r7.1 ++ [(⟨11, 0, 0, 0⟩ : D.Ins)]) ((q.length : Nat) : Int)).C⟩ : D.Ins)) c8
            refine ⟨⟨c8, by simp; omega, by omega, by omega⟩, fun r9 g9 => ?_⟩
            rw [← hel] at g9 j3
            rw [← g9] at fin j3
            refine ⟨?_, ?_⟩
            · have : r9.1.length = r7.1.length + 1 + s2.length := by rw [j3, List.length_append, List.length_set, List.length_append]; rfl
              omega
            · refine fin _ _ ?_
              rw [Int.toNat_natCast]; rfl
      · have e0 : ¬ (M.spec_l01Below e 5).1 = 0 := by simpa using e0
        have e1 : (M.spec_l01Below e 5).1 = 1 := by simpa using e1
        have hM : M.bodyOne (recOf d) (deepOf d) e q = if deepOf d ∧ ¬ ((q.length : Nat) : Int) > 14 then (M.countLoop q, (M.spec_l01Below e 5).2) else (q, (M.spec_l01Below e 5).2) := by
          unfold M.bodyOne
          rw [if_neg e0, if_pos e1]
        rw [hM] at fin
        cases d with
        | zero =>
          refine bcase_t rfl (fin _ _ ?_)
          rw [if_neg (by simp [deepOf])]
        | succ d =>
          refine bcase_f (by simp; omega) (bcase_mk (fun g14 => fin _ _ ?_) fun g14 => ?_)
          · have g14 : ((q.length : Nat) : Int) > 14 := by simpa using g14
            rw [if_neg (by simp only [not_and, Int.not_lt]; omega)]
          · have g14 : ¬ ((q.length : Nat) : Int) > 14 := by simpa using g14
            refine ⟨by simp; omega, by simp; omega, by simp; omega, by simp; omega, by simp; omega, fin _ _ ?_⟩
            rw [if_pos ⟨rfl, g14⟩, Int.toNat_natCast]; rfl
      · have e0 : ¬ (M.spec_l01Below e 5).1 = 0 := by simpa using e0
        have e1 : ¬ (M.spec_l01Below e 5).1 = 1 := by simpa using e1
        refine ⟨c5, fun r6 g6 => ⟨by simp; omega, fin _ _ ?_⟩⟩
        unfold M.bodyOne
        rw [if_neg e0, if_neg e1, g6]
    · have g : ¬ ((q.length : Nat) : Int) < 20 := by simpa using g
      rw [f3, show n - k = (n - (k + 1)) + 1 by omega, M.bodyN, if_neg g, cur_eta f2]
  · obtain ⟨f1, f2, f3⟩ := hF
    refine bcase_f (by simp) ?_
    rw [f3 (Nat.le_refl _), Nat.sub_self, cur_eta f2]; rfl
theorem startQ_good {c : D.Cur} (h : M.CurOk c) : M.CurOk (M.startQ c).2 ∧ (M.startQ c).2.b = c.b ∧ (M.startQ c).1.length ≤ 1 ∧ Seg 0 (M.startQ c).1 := by
  have h1 := once_ok h 4
  have b1 := once_b c 4
  have hr := below_in (M.once c 4).2 (n := 2) (by omega)
  unfold M.startQ
  split
  · exact ⟨h1, b1, by simp, Seg.nil _⟩
  · refine ⟨below_ok h1 _, (below_b _ _).trans b1, by simp, Seg.one ?_⟩
    simp only [plainI, M.insOk, M.isReg, M.isIn, Bool.and_eq_true, decide_eq_true_eq]
    simp
    omega
theorem bodyQ_good {c : D.Cur} (h : M.CurOk c) : M.CurOk (M.bodyQ c).2 ∧ (M.bodyQ c).2.b = c.b ∧ Seg 0 (M.bodyQ c).1 ∧ (M.bodyQ c).1.length ≤ 22 := by
  obtain ⟨h1, h2, h3, h4⟩ := startQ_good h
  obtain ⟨g1, g2, s, g3, g4, g5⟩ := body_grows 2 (M.startQ c).2 (M.startQ c).1 h1
  have e : M.bodyQ c = M.body 2 (M.startQ c).2 (M.startQ c).1 := rfl
  rw [← e] at g1 g2 g3
  refine ⟨g1, g2.trans h2, ?_, ?_⟩
  · rw [g3]
    exact Seg.cat h4 (by rw [Nat.zero_add]; exact g4)
  · rw [g3, List.length_append]; omega
theorem quiet_draw {c : D.Cur} (h : M.CurOk c) : M.CurOk (M.spec_l05Quiet c).2 ∧ (M.spec_l05Quiet c).2.b = c.b ∧ ∃ s, Seg 0 s ∧ s.length ≤ 22 ∧ ((M.spec_l05Quiet c).1 = s ∨ ∃ k, k < s.length ∧ (M.spec_l05Quiet c).1 = s.set k ⟨12, 0, 0, 0⟩) := by
  obtain ⟨h1, h2, h3, h4⟩ := bodyQ_good h
  have c1 := once_ok h1 6
  have b1 := once_b (M.bodyQ c).2 6
  unfold M.spec_l05Quiet
  split
  · rename_i hc
    simp only [Bool.and_eq_true, decide_eq_true_eq] at hc
    have hr := below_in (M.once (M.bodyQ c).2 6).2 (n := (((M.bodyQ c).1.length : Nat) : Int)) (by omega)
    exact ⟨below_ok c1 _, (below_b _ _).trans (b1.trans h2), _, h3, h4, .inr ⟨_, by omega, rfl⟩⟩
  · exact ⟨c1, b1.trans h2, _, h3, h4, .inl rfl⟩
theorem seg_quiet {s p : List D.Ins} (h : Seg 0 s) (hl : s.length ≤ 32) (hp : p = s ∨ ∃ k, k < s.length ∧ p = s.set k ⟨12, 0, 0, 0⟩) : M.isQuiet p = true ∧ p.length = s.length := by
  have hlen : p.length = s.length := by rcases hp with rfl | ⟨k, hk, rfl⟩ <;> simp
  have hall : ∀ i ∈ p, M.insOk i (p.length : Int) = true ∧ M.isLocal i = true := by
    intro i hi
    rw [hlen]
    have hs := seg_ok h s.length (by omega) hl
    rcases hp with rfl | ⟨k, hk, rfl⟩
    · exact hs i hi
    · rcases List.mem_or_eq_of_mem_set hi with hi | hi
      · exact hs i hi
      · subst hi
        refine ⟨?_, rfl⟩
        simp only [M.insOk, M.isReg, M.isIn, Bool.and_eq_true, decide_eq_true_eq]
        simp
        omega
  refine ⟨?_, hlen⟩
  unfold M.isQuiet M.programOk
  rw [Bool.and_eq_true, Bool.and_eq_true, List.all_eq_true, List.all_eq_true, decide_eq_true_eq]
  exact ⟨⟨by omega, fun i hi => (hall i hi).1⟩, fun i hi => (hall i hi).2⟩
theorem quiet_good {c : D.Cur} (h : M.CurOk c) : M.isQuiet (M.spec_l05Quiet c).1 = true ∧ (M.spec_l05Quiet c).1.length ≤ 22 := by
  obtain ⟨h1, h2, s, h3, h4, h5⟩ := quiet_draw h
  obtain ⟨g1, g2⟩ := seg_quiet h3 (by omega) h5
  exact ⟨g1, by omega⟩
theorem wp.spec_l05Quiet.math (c : D.Cur) (h : M.spec_l05Quiet_pre c) : wp.spec_l05Quiet c (fun r => r = M.spec_l05Quiet c) := by
  obtain ⟨s1, s2, s3, s4⟩ := startQ_good h
  obtain ⟨q1, q2, q3, q4⟩ := bodyQ_good h
  refine joinP_of ((M.startQ c).1, (M.startQ c).2.i, (M.startQ c).2.h, ()) ?_ fun J hJ => ⟨h, fun r hr => ?_⟩
  · dsimp only
    rw [cur_eta s2]
    refine ⟨⟨s1, by omega, by omega, by omega⟩, fun r hr => ?_⟩
    have hr : r = M.bodyQ c := hr
    subst hr
    have c1 := once_ok q1 6
    have b1 := (once_b (M.bodyQ c).2 6).trans q2
    refine joinP_of (((M.once (M.bodyQ c).2 6).1 && decide ((((M.bodyQ c).1.length : Nat) : Int) > 1)), (M.once (M.bodyQ c).2 6).2.i, (M.once (M.bodyQ c).2 6).2.h, ()) ?_ fun J hJ => ?_
    · dsimp only
      rw [cur_eta b1]
      refine bcase_mk (fun e => ⟨c1, fun r hr => ?_⟩) fun e => ?_
      · subst hr
        have e' := e
        simp only [Bool.and_eq_true, decide_eq_true_eq] at e'
        have hr := below_in (M.once (M.bodyQ c).2 6).2 (n := (((M.bodyQ c).1.length : Nat) : Int)) (by omega)
        refine ⟨hr, ?_⟩
        rw [cur_eta ((below_b _ _).trans b1)]
        unfold M.spec_l05Quiet
        rw [if_pos e]
      · unfold M.spec_l05Quiet
        rw [if_neg (by rw [e]; simp)]
    · rw [cur_eta q2]
      refine ⟨q1, fun r hr => ?_⟩
      have hr : r = M.once (M.bodyQ c).2 6 := hr
      subst hr
      refine bcase_mk (fun e => ?_) fun e => ?_
      · rw [e, Bool.true_and] at hJ; exact hJ
      · rw [e, Bool.false_and] at hJ; exact hJ
  · have hr : r = M.once c 4 := hr
    subst hr
    have b1 := once_b c 4
    unfold M.startQ at hJ
    refine bcase_mk (fun e => ?_) fun e => ?_
    · have e : (M.once c 4).1 = false := by simpa using e
      rw [if_neg (by rw [e]; simp)] at hJ
      rw [cur_eta b1]
      exact ⟨once_ok h 4, fun r hr => by subst hr; exact ⟨by simp, hJ⟩⟩
    · have e : (M.once c 4).1 = true := by simpa using e
      rw [if_pos e] at hJ
      exact hJ
theorem caseP_good {c : D.Cur} (h : M.CurOk c) : M.CurOk (M.caseP c).2 ∧ (M.caseP c).2.b = c.b ∧ M.isQuiet (M.caseP c).1 = true ∧ (M.caseP c).1.length ≤ 22 := by
  obtain ⟨q1, q2, _⟩ := quiet_draw h
  obtain ⟨q3, q4⟩ := quiet_good h
  have c1 := once_ok q1 3
  have b1 := (once_b (M.spec_l05Quiet c).2 3).trans q2
  unfold M.caseP
  split
  · have := wild_quiet (M.once (M.spec_l05Quiet c).2 3).2
    exact ⟨lwild_ok c1, (lwild_b _).trans b1, this.1, by omega⟩
  · exact ⟨c1, b1, q3, q4⟩
theorem caseR_good {c : D.Cur} (h : M.CurOk c) : M.CurOk (M.caseR c).2 ∧ (M.caseR c).2.b = c.b ∧ (M.caseR c).1.length = 32 ∧ (M.caseR c).1.all M.isWord = true := by
  obtain ⟨q1, q2, _⟩ := caseP_good h
  have c1 := below_ok q1 3
  have b1 := (below_b (M.caseP c).2 3).trans q2
  have c2 := once_ok c1 3
  have b2 := (once_b (M.spec_l01Below (M.caseP c).2 3).2 3).trans b1
  unfold M.caseR
  split
  · exact ⟨words_ok _ c2, (lwords_b _ _).trans b2, words_len 32 _, words_good 32 _⟩
  · refine ⟨c2, b2, ?_, ?_⟩
    · show (List.replicate 32 (0 : Int)).length = 32
      simp
    · show (List.replicate 32 (0 : Int)).all M.isWord = true
      rfl
theorem caseW_fine {c : D.Cur} (h : M.CurOk c) : M.Fine (M.caseP c).1 ⟨(M.caseW c).Number, (M.caseW c).Frames, (M.caseR c).1⟩ := by
  obtain ⟨q1, q2, q3, q4⟩ := caseP_good h
  obtain ⟨r1, r2, r3, r4⟩ := caseR_good h
  have hr := below_in (M.caseP c).2 (n := 3) (by omega)
  have hF := newWarp_fine (quiet_prog q3) (w := (M.spec_l01Below (M.caseP c).2 3).1) (by simp only [M.isIn, Bool.and_eq_true, decide_eq_true_eq]; omega)
  refine ⟨hF.1, ?_⟩
  have h2 := hF.2
  unfold M.warpOf at h2 ⊢
  simp only [Bool.and_eq_true, beq_iff_eq] at h2 ⊢
  exact ⟨h2.1, r3, r4, h2.2.2.2⟩
theorem wp.spec_l14Case.math (c : D.Cur) (h : M.spec_l14Case_pre c) : wp.spec_l14Case c (fun r => r = M.spec_l14Case c) := by
  have h : M.CurOk c := h
  obtain ⟨q1, q2, q3, q4⟩ := caseP_good h
  obtain ⟨r1, r2, r3, r4⟩ := caseR_good h
  obtain ⟨s1, s2, _⟩ := quiet_draw h
  have hF := caseW_fine h
  refine ⟨h, fun r hr => ?_⟩
  subst hr
  refine joinP_of ((M.caseP c).1, (M.caseP c).2.i, (M.caseP c).2.h, ()) ?_ fun J hJ => ?_
  · dsimp only
    rw [cur_eta q2]
    refine ⟨q1, fun r hr => ?_⟩
    subst hr
    have c1 := below_ok q1 3
    have b1 := (below_b (M.caseP c).2 3).trans q2
    have hr := below_in (M.caseP c).2 (n := 3) (by omega)
    refine ⟨by show M.Long _; unfold M.Long; omega, fun r hr2 => ?_⟩
    have hr2 : r = (M.caseW c, true) := by
      rw [hr2]; unfold M.spec_WarpNew
      rw [if_pos (by rw [quiet_prog q3]; simp only [M.isIn, Bool.true_and, Bool.and_eq_true, decide_eq_true_eq]; omega)]; rfl
    subst hr2
    refine joinP_of ((M.caseR c).2.i, (M.caseR c).2.h, (M.caseW c).Number, (M.caseR c).1, ()) ?_ fun J hJ => ?_
    · dsimp only
      rw [cur_eta r2]
      have c2 := below_ok r1 30
      have b2 := (below_b (M.caseR c).2 30).trans r2
      have h30 := below_in (M.caseR c).2 (n := 30) (by omega)
      have go : (M.spec_l01Below_pre (M.caseR c).2 30 ∧ ∀ r121, r121 = M.spec_l01Below (M.caseR c).2 30 → (M.spec_l14Run_pre (M.caseP c).1 (⟨(M.caseW c).Number, (M.caseW c).Frames, (M.caseR c).1⟩ : D.Warp) r121.1 ∧ ∀ r127, r127 = M.spec_l14Run (M.caseP c).1 (⟨(M.caseW c).Number, (M.caseW c).Frames, (M.caseR c).1⟩ : D.Warp) r121.1 → ((M.caseP c).1, (⟨r127.1.Number, r127.1.Frames, r127.1.Regs⟩ : D.Warp), (⟨c.b, r121.2.i, r121.2.h⟩ : D.Cur)) = M.spec_l14Case c)) := by
        refine ⟨r1, fun r hr => ?_⟩
        subst hr
        refine ⟨⟨hF, by omega, by omega⟩, fun r hr => ?_⟩
        subst hr
        rw [cur_eta b2]; rfl
      exact ⟨go, go, trivial⟩
    · rw [cur_eta b1]
      refine ⟨c1, fun r hr => ?_⟩
      have hr : r = M.once (M.spec_l01Below (M.caseP c).2 3).2 3 := hr
      subst hr
      unfold M.caseR at hJ
      refine bcase_mk (fun e => ?_) fun e => ?_
      · rw [if_pos e] at hJ
        rw [cur_eta ((once_b _ _).trans b1)]
        exact ⟨⟨once_ok c1 3, by omega, by omega⟩, fun r hr => by subst hr; exact hJ⟩
      · rw [if_neg (by rw [e]; simp)] at hJ
        exact hJ
  · rw [cur_eta s2]
    refine ⟨s1, fun r hr => ?_⟩
    have hr : r = M.once (M.spec_l05Quiet c).2 3 := hr
    subst hr
    unfold M.caseP at hJ
    refine bcase_mk (fun e => ?_) fun e => ?_
    · rw [if_pos e] at hJ
      rw [cur_eta ((once_b _ _).trans s2)]
      exact ⟨once_ok s1 3, fun r hr => by subst hr; exact hJ⟩
    · rw [if_neg (by rw [e]; simp)] at hJ
      exact hJ
theorem wp.spec_DrawWarp.math (b : List Int) (h : M.spec_DrawWarp_pre b) : wp.spec_DrawWarp b (fun r => r = M.spec_DrawWarp b) := by
  have hn := new_ok h
  refine ⟨h, fun r hr => ?_⟩
  have e : (⟨b, r.i, r.h⟩ : D.Cur) = M.spec_l01New b := by subst hr; rfl
  rw [e]
  refine ⟨hn, fun r2 hr2 => ?_⟩
  subst hr2; rfl
theorem runW_off (p : List D.Ins) : ∀ (k : Nat) (x : D.Warp) (n : Int), M.runW p k x n = ((M.runW p k x 0).1, n + (M.runW p k x 0).2)
  | 0, x, n => by simp [M.runW]
  | k + 1, x, n => by
    simp only [M.runW]
    split
    · rw [runW_off p k _ (n + 1), runW_off p k _ (0 + 1)]
      simp only [Prod.mk.injEq, true_and]; omega
    · simp
theorem runW_stop (p : List D.Ins) (k : Nat) (x : D.Warp) (n : Int) (h : M.spec_l13Local p x = false) : M.runW p k x n = (x, n) := by
  cases k with
  | zero => rfl
  | succ k => simp only [M.runW]; rw [if_neg (by rw [h]; simp)]
theorem runW_add (p : List D.Ins) : ∀ (a b : Nat) (x : D.Warp) (n : Int), M.runW p (a + b) x n = M.runW p b (M.runW p a x n).1 (M.runW p a x n).2
  | 0, b, x, n => by simp [M.runW]
  | a + 1, b, x, n => by
    rw [show a + 1 + b = (a + b) + 1 by omega]
    simp only [M.runW]
    split
    · exact runW_add p a b _ _
    · rename_i h
      exact (runW_stop p b x n (by simpa using h)).symm
theorem runW_count (p : List D.Ins) : ∀ (k : Nat) (x : D.Warp) (n : Int), n ≤ (M.runW p k x n).2 ∧ (M.runW p k x n).2 ≤ n + k
  | 0, x, n => by simp [M.runW]
  | k + 1, x, n => by
    simp only [M.runW]
    split
    · have := runW_count p k (M.stepW p x) (n + 1); omega
    · simp only; omega
theorem runW_same (p : List D.Ins) {x : D.Warp} (h : M.isQuiet p = true) (hF : M.Fine p x) {u : Int} (hu : 0 ≤ u ∧ u ≤ 8000) : M.impl_RunWarp p x u = M.runW p u.toNat x 0 := by
  have h1 : M.isIn u 0 8000 = true := by simp only [M.isIn, Bool.and_eq_true, decide_eq_true_eq]; omega
  show M.runWarp p x u = _
  unfold M.runWarp M.spec_WarpOk
  rw [if_pos (by rw [h, h1, hF.1, hF.2]; rfl)]
theorem fine_fit {p : List D.Ins} {x : D.Warp} (h : M.Fine p x) : M.WFit x ∧ M.WLong x := by
  have := fine_small h
  unfold M.WFit M.WLong M.Long
  omega
theorem wp.laws_FnWarpParts.math (b : List Int) (h : M.laws_FnWarpParts_pre b) : wp.laws_FnWarpParts b (fun r => r = M.laws_FnWarpParts b) := by
  intro r0 _
  refine bcase_mk (fun _ => rfl) fun _ => ⟨h, fun r1 g1 => ⟨h, fun r2 g2 => ?_⟩⟩
  subst g1
  subst g2
  have hc := new_ok h
  obtain ⟨q1, q2, hq, q4⟩ := caseP_good hc
  have hF0 := caseW_fine hc
  have hd : M.spec_DrawWarp b = ((M.caseP (M.spec_l01New b)).1, (M.runW (M.caseP (M.spec_l01New b)).1 (M.spec_l01Below (M.caseR (M.spec_l01New b)).2 30).1.toNat ⟨(M.caseW (M.spec_l01New b)).Number, (M.caseW (M.spec_l01New b)).Frames, (M.caseR (M.spec_l01New b)).1⟩ 0).1) := rfl
  have hF : M.Fine (M.spec_DrawWarp b).1 (M.spec_DrawWarp b).2 := by rw [hd]; exact runW_fine _ _ 0 hF0
  have hq : M.isQuiet (M.spec_DrawWarp b).1 = true := by rw [hd]; exact hq
  have hpl : (M.spec_DrawPlaces b).length = 12 := places_len 12 _
  have hpg : ∀ x ∈ M.spec_DrawPlaces b, 0 ≤ x ∧ x < 10000 := places_good 12 _
  have hlen : (M.spec_DrawWarp b).1.length ≤ 22 := by rw [hd]; exact q4
  clear hd hF0
  generalize M.spec_DrawPlaces b = x at *
  generalize M.spec_DrawWarp b = d at *
  have h0 := hpg _ (rd_of (xs := x) (i := 0) (by omega) (by omega))
  have h1 := hpg _ (rd_of (xs := x) (i := 1) (by omega) (by omega))
  have a0 := tmod_in (n := 20) h0.1 (by omega)
  have a1 := tmod_in (n := 20) h1.1 (by omega)
  have hlong : M.Long d.1 := by unfold M.Long; omega
  refine ⟨by omega, by omega, ?_⟩
  generalize Int.tmod (rd x 0) 20 = u at *
  generalize Int.tmod (rd x 1) 20 = v at *
  rw [w64 (x := u + v) (by omega) (by omega)]
  have hF2 := runW_fine u.toNat d.2 0 hF
  rw [runW_same d.1 hq hF (by omega), runW_same d.1 hq hF (by omega), Int.toNat_add a0.1 a1.1, runW_add, runW_off d.1 v.toNat _ (M.runW d.1 u.toNat d.2 0).2]
  have c1 := runW_count d.1 u.toNat d.2 0
  have c2 := runW_count d.1 v.toNat (M.runW d.1 u.toNat d.2 0).1 0
  have hF3 := runW_fine v.toNat _ 0 hF2
  refine ⟨⟨hlong, (fine_fit hF).1⟩, fun r1 g1 => ⟨⟨hlong, (fine_fit hF).1⟩, fun r2 g2 => ?_⟩⟩
  subst g2
  rw [runW_same d.1 hq hF2 (by omega)]
  refine ⟨⟨hlong, (fine_fit hF2).1⟩, fun r3 g3 => ?_⟩
  subst g3
  subst g1
  generalize M.runW d.1 u.toNat d.2 0 = w1 at *
  generalize M.runW d.1 v.toNat w1.1 0 = w2 at *
  have hw : IntKind.wrap .i64 (w1.2 + w2.2) = w1.2 + w2.2 := w64 (by omega) (by omega)
  refine bcase_t (by simp; omega) (bcase_t (by simp; omega) (bcase_t (by simp; omega) (bcase_t (by simp [hw]) ⟨(fine_fit hF3).2, fun r hr => ?_⟩)))
  rw [hr]; simp [M.impl_SameWarp, M.laws_FnWarpParts]
end Go.V
