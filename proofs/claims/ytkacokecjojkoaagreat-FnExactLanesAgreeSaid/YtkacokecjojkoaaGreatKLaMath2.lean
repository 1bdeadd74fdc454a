import Derived.Test.YtkacokecjojkoaaGreatKLaMath1
set_option linter.unusedVariables false
set_option linter.unusedSimpArgs false
set_option maxRecDepth 20000
namespace Go.V
theorem rd_take {α : Type} [Inhabited α] {l : List α} {k m : Nat} (h : k < m) : rd (l.take m) (k : Int) = rd l (k : Int) := by
  unfold rd
  rw [List.getD_eq_getElem?_getD, List.getD_eq_getElem?_getD, List.getElem?_take, if_pos (by simpa using h)]
theorem take_take' {α : Type} {l : List α} {k m : Nat} (h : k ≤ m) : (l.take m).take k = l.take k := by rw [List.take_take, Nat.min_eq_left h]
theorem wp.impl_Warp_drop.math (x : D.Warp) (n : Int) (h : M.impl_Warp_drop_pre x n) : wp.impl_Warp_drop x n (fun r => r = M.impl_Warp_drop x n) := by
  unfold wp.impl_Warp_drop
  have hL : x.Frames.length ≤ 9223372036854775807 := h
  refine loop_n x.Frames.length (fun j => (x.Number, x.Frames.take (x.Frames.length - j), ())) (fun j => M.dropF x.Frames n = M.dropN x.Frames n (x.Frames.length - j)) (by simp) (by simp [M.dropF]) (fun j hj hF next hn => ?_) (fun hF next => ?_)
  · obtain ⟨m, hm⟩ : ∃ m, x.Frames.length - j = m + 1 := ⟨x.Frames.length - j - 1, by omega⟩
    have hm1 : x.Frames.length - (j + 1) = m := by omega
    rw [hm1] at hn
    rw [hm] at hF
    dsimp only
    rw [hm]
    have hl : (x.Frames.take (m + 1)).length = m + 1 := by rw [List.length_take]; omega
    rw [hl, last_wrap (by omega), show (((m + 1 : Nat) : Int) - 1) = (m : Int) by omega, rd_take (Nat.lt_succ_self m), take_take' (by omega)]
    refine bcase_t (by simp) ⟨by omega, ?_⟩
    show bcase _ (bcase _ _ _) _
    have go : ¬ ((rd x.Frames (m : Int)).Pc ≠ (rd x.Frames (m : Int)).Stop ∧ (rd x.Frames (m : Int)).Pc ≠ n) → next (x.Number, x.Frames.take m, ()) := fun hc => hn (by rw [hF]; simp only [M.dropN]; rw [if_neg hc])
    refine bcase_mk (fun e1 => bcase_mk (fun e2 => ?_) fun e2 => ?_) fun e1 => ?_
    · simp only [M.dropN] at hF
      rw [if_pos ⟨by simpa using e1, by simpa using e2⟩] at hF
      show _ = M.dropW x n
      unfold M.dropW
      rw [hF]
    · have := go (fun hc => hc.2 (by simpa using e2))
      exact ⟨⟨by omega, this⟩, ⟨by omega, this⟩, trivial⟩
    · have := go (fun hc => hc.1 (by simpa using e1))
      exact ⟨⟨by omega, this⟩, ⟨by omega, this⟩, trivial⟩
  · rw [Nat.sub_self] at hF
    dsimp only
    rw [Nat.sub_self, List.take_zero]
    refine bcase_f (by simp) ?_
    show _ = M.dropW x n
    unfold M.dropW
    rw [hF]; rfl
theorem wp.spec_DropFrames.math (p : List D.Ins) (x : D.Warp) (h : M.spec_DropFrames_pre p x) : wp.spec_DropFrames p x (fun r => r = M.spec_DropFrames p x) := by
  unfold wp.spec_DropFrames
  have hL : x.Frames.length ≤ 17179869184 := h.1
  refine ⟨h, fun r hr => ?_⟩
  have hr : r = x := hr
  subst hr
  rw [last_wrap (by omega)]
  refine loop_n r.Frames.length (fun j => (((r.Frames.length : Nat) : Int) - 1 - (j : Int), r.Number, r.Frames.take (r.Frames.length - j), ())) (fun j => M.dropF r.Frames p.length = M.dropN r.Frames p.length (r.Frames.length - j)) (by simp) (by simp [M.dropF]) (fun j hj hF next hn => ?_) (fun hF next => ?_)
  · obtain ⟨m, hm⟩ : ∃ m, r.Frames.length - j = m + 1 := ⟨r.Frames.length - j - 1, by omega⟩
    have hm1 : r.Frames.length - (j + 1) = m := by omega
    rw [hm1] at hn
    rw [hm] at hF
    dsimp only
    rw [hm, show (((r.Frames.length : Nat) : Int) - 1 - (j : Int)) = (m : Int) by omega]
    rw [show (((r.Frames.length : Nat) : Int) - 1 - ((j + 1 : Nat) : Int)) = IntKind.wrap .i64 ((m : Int) - 1) by rw [w64 (by omega) (by omega)]; omega] at hn
    have hl : (r.Frames.take (m + 1)).length = m + 1 := by rw [List.length_take]; omega
    rw [hl, rd_take (Nat.lt_succ_self m), Int.toNat_natCast, take_take' (by omega)]
    have go : ¬ ((rd r.Frames (m : Int)).Pc ≠ (rd r.Frames (m : Int)).Stop ∧ (rd r.Frames (m : Int)).Pc ≠ ((p.length : Nat) : Int)) → next (IntKind.wrap .i64 ((m : Int) - 1), r.Number, r.Frames.take m, ()) := fun hc => hn (by rw [hF]; simp only [M.dropN]; rw [if_neg hc])
    refine bcase_t (by simp) ⟨by omega, ?_⟩
    refine bcase_mk (fun e1 => bcase_mk (fun e2 => ?_) fun e2 => ?_) fun e1 => ?_
    · simp only [M.dropN] at hF
      rw [if_pos ⟨by simpa using e1, by simpa using e2⟩] at hF
      show _ = M.dropW r p.length
      unfold M.dropW
      rw [hF]
    · exact ⟨by omega, go (fun hc => hc.2 (by simpa using e2))⟩
    · exact ⟨by omega, go (fun hc => hc.1 (by simpa using e1))⟩
  · rw [Nat.sub_self] at hF
    dsimp only
    rw [Nat.sub_self, List.take_zero]
    refine bcase_f (by simp; omega) ?_
    show _ = M.dropW r p.length
    unfold M.dropW
    rw [hF]; rfl
theorem set_cut {α : Type} {xs : List α} {lo hi k : Nat} {y : α} (h1 : lo ≤ hi) (h2 : hi ≤ xs.length) (hk : k < hi - lo) : xs.set (lo + k) y = xs.take lo ++ ((xs.take hi).drop lo).set k y ++ xs.drop hi := by
  apply List.ext_getElem?
  intro i
  have hl : (((xs.take hi).drop lo).set k y).length = hi - lo := by simp; omega
  rw [List.getElem?_append, List.length_append, hl, List.length_take, Nat.min_eq_left (by omega), List.getElem?_append, List.length_take, Nat.min_eq_left (by omega)]
  by_cases hi1 : i < lo
  · rw [if_pos (by omega), if_pos hi1, List.getElem?_set_ne (by omega), List.getElem?_take, if_pos hi1]
  · by_cases hi2 : i < hi
    · rw [if_pos (by omega), if_neg hi1]
      by_cases e : lo + k = i
      · subst e
        rw [List.getElem?_set_self (by omega), show lo + k - lo = k by omega, List.getElem?_set_self (by simp; omega)]
      · rw [List.getElem?_set_ne e, List.getElem?_set_ne (by omega), List.getElem?_drop, List.getElem?_take, if_pos (by omega)]
        congr 1; omega
    · rw [if_neg (by omega), List.getElem?_set_ne (by omega), List.getElem?_drop]
      congr 1; omega
theorem cut_self {α : Type} {xs : List α} {lo hi : Nat} (h1 : lo ≤ hi) (h2 : hi ≤ xs.length) : xs.take lo ++ (xs.take hi).drop lo ++ xs.drop hi = xs := by
  apply List.ext_getElem?
  intro i
  have hl : ((xs.take hi).drop lo).length = hi - lo := by simp; omega
  rw [List.getElem?_append, List.length_append, hl, List.length_take, Nat.min_eq_left (by omega), List.getElem?_append, List.length_take, Nat.min_eq_left (by omega)]
  by_cases hi1 : i < lo
  · rw [if_pos (by omega), if_pos hi1, List.getElem?_take, if_pos hi1]
  · by_cases hi2 : i < hi
    · rw [if_pos (by omega), if_neg hi1, List.getElem?_drop, List.getElem?_take, if_pos (by omega)]
      congr 1; omega
    · rw [if_neg (by omega), List.getElem?_drop]
      congr 1; omega
theorem wp.impl_apply_v.math (i : D.Ins) (t : Int) (xs : List Int) (lo hi : Nat) (h : M.impl_apply_v_pre i t xs lo hi) : wp.impl_apply_v i t xs lo hi (fun x => x = M.impl_apply_v i t xs lo hi) := by
  obtain ⟨hf, h1, h2⟩ := h
  obtain ⟨hl, hA, hB, hC⟩ := fits_regs hf
  have hl4 : hi - lo = 4 := by rw [← hl]; simp; omega
  have st : ∀ y, (0 ≤ i.A ∧ i.A ≤ 3) → xs.set (lo + i.A.toNat) y = xs.take lo ++ ((xs.take hi).drop lo).set i.A.toNat y ++ xs.drop hi := fun y ha => set_cut h1 h2 (by omega)
  have sf := cut_self h1 h2
  generalize hr : (xs.take hi).drop lo = r at *
  unfold wp.impl_apply_v
  simp only [hr, forall_eq]
  refine bcase_mk (fun e => ?_) fun n1 => bcase_mk (fun e => ?_) fun n2 => bcase_mk (fun e => ?_) fun n3 => bcase_mk (fun e => ?_) fun n4 => bcase_mk (fun e => ?_) fun n5 => bcase_mk (fun e => ?_) fun n6 => bcase_mk (fun e => ?_) fun n7 => bcase_mk (fun e => ?_) fun n8 => bcase_mk (fun e => ?_) fun n9 => ?_
  · have hk : i.Op = 1 := by simpa using e
    exact ⟨rd_reg hl (hA (by omega)), by rw [st _ (hA (by omega))]; simp [M.impl_apply_v, M.apply, hk, hr]⟩
  · have hk : i.Op = 2 := by simpa using e
    exact ⟨rd_reg hl (hB (by omega)), rd_reg hl (hA (by omega)), by rw [st _ (hA (by omega))]; simp [M.impl_apply_v, M.apply, hk, hr]⟩
  · have hk : i.Op = 3 := by simpa using e
    exact ⟨rd_reg hl (hB (by omega)), rd_reg hl (hC (by omega)), rd_reg hl (hA (by omega)), by rw [st _ (hA (by omega))]; simp [M.impl_apply_v, M.apply, hk, hr, M.spec_AddWords, M.impl_AddWords]⟩
  · have hk : i.Op = 4 := by simpa using e
    exact ⟨rd_reg hl (hB (by omega)), rd_reg hl (hC (by omega)), rd_reg hl (hA (by omega)), by rw [st _ (hA (by omega))]; simp [M.impl_apply_v, M.apply, hk, hr, M.spec_SubWords, M.impl_SubWords]⟩
  · have hk : i.Op = 5 := by simpa using e
    exact ⟨rd_reg hl (hB (by omega)), rd_reg hl (hC (by omega)), rd_reg hl (hA (by omega)), by rw [st _ (hA (by omega))]; simp [M.impl_apply_v, M.apply, hk, hr, M.spec_MulWords, M.impl_MulWords]⟩
  · have hk : i.Op = 6 := by simpa using e
    exact ⟨rd_reg hl (hB (by omega)), rd_reg hl (hC (by omega)), rd_reg hl (hA (by omega)), by rw [st _ (hA (by omega))]; simp [M.impl_apply_v, M.apply, hk, hr]⟩
  · have hk : i.Op = 7 := by simpa using e
    exact ⟨rd_reg hl (hB (by omega)), rd_reg hl (hC (by omega)), rd_reg hl (hA (by omega)), by rw [st _ (hA (by omega))]; simp [M.impl_apply_v, M.apply, hk, hr, M.spec_LessWords, M.impl_LessWords]⟩
  · have hk : i.Op = 8 := by simpa using e
    exact ⟨rd_reg hl (hA (by omega)), by rw [st _ (hA (by omega))]; simp [M.impl_apply_v, M.apply, hk, hr]⟩
  · have hk : i.Op = 9 := by simpa using e
    refine ⟨rd_reg hl (hC (by omega)), bcase_mk (fun e2 => ⟨rd_reg hl (hB (by omega)), rd_reg hl (hA (by omega)), ?_⟩) fun e2 => ?_⟩
    · have h2 : ¬ rd r i.C = 0 := by simpa using e2
      rw [st _ (hA (by omega))]
      simp [M.impl_apply_v, M.apply, hk, h2, hr]
    · have h2 : rd r i.C = 0 := by simpa using e2
      simp only [M.impl_apply_v, M.apply, hk, h2, hr]
      simpa using sf.symm
  · simp at n1 n2 n3 n4 n5 n6 n7 n8 n9
    simp only [M.impl_apply_v, M.apply, n1, n2, n3, n4, n5, n6, n7, n8, n9, hr, if_false]
    exact sf.symm
end Go.V
set_option linter.unusedVariables false
set_option linter.unusedSimpArgs false
set_option maxRecDepth 20000
namespace Go.V
theorem laneCut_len {r : List Int} {l : Nat} (h : r.length = 32) (hl : l < 8) : (M.laneCut r l).length = 4 := by unfold M.laneCut; simp; omega
theorem putLane_len {r x : List Int} {l : Nat} (h : r.length = 32) (hl : l < 8) (hx : x.length = 4) : (M.putLane r l x).length = 32 := by unfold M.putLane; simp; omega
theorem putLane_get {r x : List Int} {l : Nat} (h : r.length = 32) (hl : l < 8) (hx : x.length = 4) (i : Nat) : (M.putLane r l x)[i]? = if l * 4 ≤ i ∧ i < l * 4 + 4 then x[i - l * 4]? else r[i]? := by
  unfold M.putLane
  rw [List.getElem?_append, List.length_append, List.length_take, Nat.min_eq_left (by omega), hx, List.getElem?_append, List.length_take, Nat.min_eq_left (by omega)]
  by_cases h1 : i < l * 4
  · rw [if_pos (by omega), if_pos h1, if_neg (by omega), List.getElem?_take, if_pos h1]
  · by_cases h2 : i < l * 4 + 4
    · rw [if_pos h2, if_neg h1, if_pos (by omega)]
    · rw [if_neg h2, if_neg (by omega), List.getElem?_drop]
      congr 1; omega
theorem laneCut_get (r : List Int) (l i : Nat) : (M.laneCut r l)[i]? = if i < 4 then r[l * 4 + i]? else none := by
  unfold M.laneCut
  rw [List.getElem?_drop, List.getElem?_take]
  by_cases h : i < 4
  · rw [if_pos h, if_pos (by omega)]
  · rw [if_neg h, if_neg (by omega)]
theorem cut_put_other {r x : List Int} {l j : Nat} (h : r.length = 32) (hl : l < 8) (hx : x.length = 4) (hne : j ≠ l) : M.laneCut (M.putLane r l x) j = M.laneCut r j := by
  apply List.ext_getElem?
  intro i
  rw [laneCut_get, laneCut_get]
  by_cases hi : i < 4
  · rw [if_pos hi, if_pos hi, putLane_get h hl hx, if_neg (by omega)]
  · rw [if_neg hi, if_neg hi]
theorem put_self {r : List Int} {l : Nat} (h : r.length = 32) (hl : l < 8) : M.putLane r l (M.laneCut r l) = r := by
  apply List.ext_getElem?
  intro i
  rw [putLane_get h hl (laneCut_len h hl)]
  by_cases hi : l * 4 ≤ i ∧ i < l * 4 + 4
  · rw [if_pos hi, laneCut_get, if_pos (by omega)]
    congr 1; omega
  · rw [if_neg hi]
theorem applyTo_len {i : D.Ins} {num m : Int} {r : List Int} (h : r.length = 32) : ∀ k, k ≤ 8 → (M.applyTo i num m r k).length = 32
  | 0, _ => h
  | k + 1, hk => by
    have ih := applyTo_len (i := i) (num := num) (m := m) h k (by omega)
    simp only [M.applyTo]
    split
    · exact putLane_len ih (by omega) (by rw [apply_len, laneCut_len h (by omega)])
    · exact ih
theorem applyTo_cut {i : D.Ins} {num m : Int} {r : List Int} (h : r.length = 32) : ∀ k, k ≤ 8 → ∀ j, k ≤ j → M.laneCut (M.applyTo i num m r k) j = M.laneCut r j
  | 0, _, _, _ => rfl
  | k + 1, hk, j, hj => by
    have ih := applyTo_cut (i := i) (num := num) (m := m) h k (by omega) j (by omega)
    simp only [M.applyTo]
    split
    · rw [cut_put_other (applyTo_len h k (by omega)) (by omega) (by rw [apply_len, laneCut_len h (by omega)]) (by omega), ih]
    · exact ih
def stepL (i : D.Ins) (num : Int) (acc : List Int) (l : Int) : List Int := M.impl_apply_v i (num * 8 + l) acc (l * 4).toNat (l * 4 + 4).toNat
theorem stepL_put (i : D.Ins) (num : Int) (acc : List Int) (k : Nat) : stepL i num acc (k : Int) = M.putLane acc k (M.apply i (num * 8 + (k : Int)) (M.laneCut acc k)) := by
  unfold stepL M.impl_apply_v M.putLane M.laneCut
  rw [show ((k : Int) * 4).toNat = k * 4 by omega, show ((k : Int) * 4 + 4).toNat = k * 4 + 4 by omega]
theorem applyAll_fold {i : D.Ins} {num m : Int} {r : List Int} (h : r.length = 32) : M.applyAll i num m r = (M.lanesOf m).foldl (stepL i num) r := by
  have key : ∀ k, k ≤ 8 → (List.range k).foldl (fun acc (j : Nat) => if M.hasLane m (j : Int) = true then stepL i num acc (j : Int) else acc) r = M.applyTo i num m r k := by
    intro k
    induction k with
    | zero => intro _; rfl
    | succ k ih =>
      intro hk
      rw [List.range_succ, List.foldl_append, ih (by omega)]
      simp only [List.foldl_cons, List.foldl_nil, M.applyTo]
      rw [stepL_put, applyTo_cut h k (by omega) k (Nat.le_refl _)]
  unfold M.applyAll
  rw [← key 8 (Nat.le_refl _)]
  unfold M.lanesOf
  rw [List.foldl_filter]
  rfl
theorem fold_len {i : D.Ins} {num : Int} : ∀ (l : List Int) (r : List Int), r.length = 32 → (∀ k ∈ l, 0 ≤ k ∧ k ≤ 7) → (l.foldl (stepL i num) r).length = 32
  | [], r, h, _ => h
  | k :: l, r, h, hl => by
    simp only [List.foldl_cons]
    obtain ⟨h0, h7⟩ := hl k List.mem_cons_self
    refine fold_len l _ ?_ fun j hj => hl j (List.mem_cons_of_mem _ hj)
    rw [show k = ((k.toNat : Nat) : Int) by omega, stepL_put]
    exact putLane_len h (by omega) (by rw [apply_len, laneCut_len h (by omega)])
theorem applyAll_len {i : D.Ins} {num m : Int} {r : List Int} (h : r.length = 32) : (M.applyAll i num m r).length = 32 := applyTo_len h 8 (Nat.le_refl _)
theorem applyAll_branch {i : D.Ins} {num m : Int} {r : List Int} (h : r.length = 32) (e : i.Op = 10) : M.applyAll i num m r = r := by
  have ha : ∀ t (q : List Int), M.apply i t q = q := fun t q => by simp [M.apply, e]
  have : ∀ k, k ≤ 8 → M.applyTo i num m r k = r := by
    intro k
    induction k with
    | zero => intro _; rfl
    | succ k ih =>
      intro hk
      simp only [M.applyTo, ih (by omega), ha, put_self h (show k < 8 by omega), ite_self]
  exact this 8 (Nat.le_refl _)
theorem words_put {r x : List Int} {l : Nat} (h : r.all M.isWord = true) (hx : x.all M.isWord = true) : (M.putLane r l x).all M.isWord = true := by
  rw [List.all_eq_true] at h hx ⊢
  intro y hy
  unfold M.putLane at hy
  rcases List.mem_append.1 hy with hy | hy
  · rcases List.mem_append.1 hy with hy | hy
    · exact h y (List.mem_of_mem_take hy)
    · exact hx y hy
  · exact h y (List.mem_of_mem_drop hy)
theorem words_cut {r : List Int} {l : Nat} (h : r.all M.isWord = true) : (M.laneCut r l).all M.isWord = true := by
  rw [List.all_eq_true] at h ⊢
  intro y hy
  exact h y (List.mem_of_mem_take (List.mem_of_mem_drop hy))
theorem applyTo_words {i : D.Ins} {n num m : Int} {r : List Int} (hok : M.insOk i n = true) (hn : 0 ≤ num ∧ num ≤ 2) (hl : r.length = 32) (h : r.all M.isWord = true) : ∀ k, k ≤ 8 → (M.applyTo i num m r k).all M.isWord = true
  | 0, _ => h
  | k + 1, hk => by
    have ih := applyTo_words (m := m) hok hn hl h k (by omega)
    simp only [M.applyTo]
    split
    · exact words_put ih (apply_words hok (by omega) (laneCut_len hl (by omega)) (words_cut h))
    · exact ih
theorem lastF_set {fs : List D.Frame} (h : fs ≠ []) (pc : Int) : M.lastF (M.setTop fs pc) = ⟨pc, (M.lastF fs).Stop, (M.lastF fs).Mask⟩ := by
  have hpos : 0 < fs.length := List.length_pos_iff.2 h
  have e : (((fs.length : Nat) : Int) - 1) = ((fs.length - 1 : Nat) : Int) := by omega
  unfold M.lastF M.setTop
  rw [List.length_set, e, rd_nat (by rw [List.length_set]; omega), List.getElem_set_self]
  unfold M.lastF
  rw [e]
theorem mem_lastF {fs : List D.Frame} (h : fs ≠ []) : M.lastF fs ∈ fs := by
  have hpos : 0 < fs.length := List.length_pos_iff.2 h
  exact rd_of (by omega) (by omega)
theorem setTop_all {fs : List D.Frame} {n pc : Int} (h : fs.all (M.frameOk n) = true) (hx : fs ≠ []) (hp : 0 ≤ pc ∧ pc ≤ n) : (M.setTop fs pc).all (M.frameOk n) = true := by
  rw [List.all_eq_true] at h ⊢
  intro f hf
  rcases List.mem_or_eq_of_mem_set hf with hf | rfl
  · exact h f hf
  · have := h _ (mem_lastF hx)
    simp only [M.frameOk, M.isIn, Bool.and_eq_true, decide_eq_true_eq] at this ⊢
    exact ⟨hp, this.2⟩
theorem drop_spec (fs : List D.Frame) (n : Int) : ∀ k, k ≤ fs.length → M.dropN fs n k = [] ∨ ∃ j : Nat, 0 < j ∧ j ≤ k ∧ M.dropN fs n k = fs.take j ∧ (rd fs ((j - 1 : Nat) : Int)).Pc ≠ (rd fs ((j - 1 : Nat) : Int)).Stop ∧ (rd fs ((j - 1 : Nat) : Int)).Pc ≠ n
  | 0, _ => .inl rfl
  | k + 1, hk => by
    simp only [M.dropN]
    split
    · rename_i e
      exact .inr ⟨k + 1, by omega, Nat.le_refl _, rfl, e⟩
    · rcases drop_spec fs n k (by omega) with h | ⟨j, h0, h1, h2⟩
      · exact .inl h
      · exact .inr ⟨j, h0, by omega, h2⟩
theorem drop_fine {fs : List D.Frame} {n : Int} (hall : fs.all (M.frameOk n) = true) (hl : fs.length ≤ 24) (h0 : fs ≠ [] → (rd fs 0).Stop = n ∧ (rd fs 0).Mask = 255) : M.areFrames (M.dropF fs n) n = true := by
  unfold M.dropF
  rcases drop_spec fs n fs.length (Nat.le_refl _) with h | ⟨j, hj0, hj1, h2, h3, h4⟩
  · rw [h]; rfl
  · rw [h2]
    have hne : fs ≠ [] := by intro e; rw [e] at hj1; simp at hj1; omega
    have hlen : (fs.take j).length = j := by rw [List.length_take]; omega
    have hall' : (fs.take j).all (M.frameOk n) = true := by
      rw [List.all_eq_true] at hall ⊢
      exact fun f hf => hall f (List.mem_of_mem_take hf)
    have hlast : M.lastF (fs.take j) = rd fs ((j - 1 : Nat) : Int) := by
      unfold M.lastF
      rw [hlen, show ((j : Int) - 1) = ((j - 1 : Nat) : Int) by omega, rd_take (by omega)]
    have hz : rd (fs.take j) 0 = rd fs 0 := by
      have := rd_take (l := fs) (k := 0) (m := j) (by omega)
      exact this
    unfold M.areFrames
    rw [hall', Bool.true_and, Bool.or_eq_true]
    right
    unfold M.endsOk
    rw [hlast, hz, hlen]
    obtain ⟨k1, k2⟩ := h0 hne
    simp only [Bool.and_eq_true, decide_eq_true_eq, bne_iff_ne, beq_iff_eq]
    exact ⟨by omega, h3, h4, k1, k2⟩
theorem setTop_first {fs : List D.Frame} (h : fs ≠ []) (pc : Int) : (rd (M.setTop fs pc) 0).Stop = (rd fs 0).Stop ∧ (rd (M.setTop fs pc) 0).Mask = (rd fs 0).Mask := by
  have hpos : 0 < fs.length := List.length_pos_iff.2 h
  have z : (0 : Int) = ((0 : Nat) : Int) := rfl
  by_cases h1 : fs.length = 1
  · have hl := lastF_set h pc
    have e1 : M.lastF (M.setTop fs pc) = rd (M.setTop fs pc) 0 := by unfold M.lastF M.setTop; rw [List.length_set, h1]; rfl
    have e2 : M.lastF fs = rd fs 0 := by unfold M.lastF; rw [h1]; rfl
    rw [← e1, hl, e2]; exact ⟨rfl, rfl⟩
  · have e : rd (M.setTop fs pc) 0 = rd fs 0 := by
      unfold M.setTop rd
      rw [List.getD_eq_getElem?_getD, List.getD_eq_getElem?_getD, List.getElem?_set_ne (by simp; omega)]
    rw [e]; exact ⟨rfl, rfl⟩
theorem runs_frames {p : List D.Ins} {x : D.Warp} (h : M.Runs p x) : x.Frames.all (M.frameOk p.length) = true ∧ x.Frames.length ≤ 24 ∧ (rd x.Frames 0).Stop = p.length ∧ (rd x.Frames 0).Mask = 255 ∧ M.isMask (M.lastF x.Frames).Mask = true ∧ x.Regs.all M.isWord = true := by
  obtain ⟨hp, hw, hx⟩ := h
  simp only [M.warpOf, M.areFrames, Bool.and_eq_true, Bool.or_eq_true] at hw
  obtain ⟨h1, h2, h3, h4, h5⟩ := hw
  have h5 := h5.resolve_left (by simpa using hx)
  have hf := List.all_eq_true.1 h4 _ (mem_lastF hx)
  simp only [M.endsOk, M.frameOk, Bool.and_eq_true, decide_eq_true_eq, beq_iff_eq] at h5 hf
  exact ⟨h4, h5.1, h5.2.2.2.1, h5.2.2.2.2, hf.2.2.1, h3⟩
theorem split_branch {p : List D.Ins} {x : D.Warp} (h : M.Runs p x) (hs : M.isSplit p x) : M.Branch p (M.topPc x) := by
  obtain ⟨_, _, _, _, t5, t6, _⟩ := runs_top h
  refine ⟨h.1, t5, t6, ?_⟩
  unfold M.isBr
  simp only [Bool.and_eq_true, beq_iff_eq, bne_iff_ne]
  exact hs
theorem splits_iff {p : List D.Ins} {x : D.Warp} (h : M.splits p x = true) : M.isSplit p x ∧ M.zeroMask x (M.topIns p x).A ≠ 0 ∧ M.zeroMask x (M.topIns p x).A ≠ (M.lastF x.Frames).Mask := by
  simp only [M.splits, Bool.and_eq_true, beq_iff_eq, bne_iff_ne] at h
  exact ⟨h.1, h.2.1, h.2.2⟩
theorem turn_in {p : List D.Ins} {x : D.Warp} (h : M.Runs p x) : 0 ≤ M.turnPc p x ∧ M.turnPc p x ≤ ((p.length : Nat) : Int) := by
  obtain ⟨_, _, _, _, t5, t6, t7, _⟩ := runs_top h
  unfold M.turnPc
  split
  · omega
  · split
    · exact target_in t7 (.inr (by assumption))
    · split
      · rename_i e; exact target_in t7 (.inl e.1)
      · omega
theorem stepW_fine {p : List D.Ins} {x : D.Warp} (h : M.Goes p x) : M.Fine p (M.stepW p x) := by
  obtain ⟨hr, hl⟩ := h
  obtain ⟨t1, t2, t3, t4, t5, t6, t7, t8, t9⟩ := runs_top hr
  obtain ⟨f1, f2, f3, f4, f5, f6⟩ := runs_frames hr
  have hx := hr.2.2
  refine ⟨hr.1, ?_⟩
  have fin : ∀ (fs : List D.Frame) (rg : List Int), rg.length = 32 → rg.all M.isWord = true → fs.all (M.frameOk p.length) = true → fs.length ≤ 24 → (fs ≠ [] → (rd fs 0).Stop = p.length ∧ (rd fs 0).Mask = 255) → M.warpOf p (M.dropW ⟨x.Number, fs, rg⟩ p.length) = true := by
    intro fs rg g1 g2 g3 g4 g5
    simp only [M.warpOf, M.dropW, Bool.and_eq_true, beq_iff_eq]
    exact ⟨by simp only [M.isIn, Bool.and_eq_true, decide_eq_true_eq]; exact ⟨t8, t9⟩, g1, g2, drop_fine g3 g4 g5⟩
  have s0 := fun pc => setTop_first hx pc
  unfold M.stepW
  by_cases hs : M.splits p x = true
  · rw [if_pos hs]
    obtain ⟨hsp, hz0, hzm⟩ := splits_iff hs
    have hb := split_branch hr hsp
    have hj := join_in hb
    have hact : M.activeMask x = (M.lastF x.Frames).Mask := activeMask_top hx
    obtain ⟨m1, m2, m3⟩ := mask_part (x := x) (reg := (M.topIns p x).A) (by rw [hact]; exact f5)
    rw [hact] at m2 m3
    have h22 : x.Frames.length ≤ 22 := by
      simp only [M.spec_l13Local, hs, Bool.and_eq_true, Bool.not_true, Bool.false_or, decide_eq_true_eq] at hl
      exact hl.2.2
    have hB := target_in t7 (.inl hsp.1)
    unfold M.separated
    refine fin _ _ t4 f6 ?_ ?_ fun _ => ?_
    · rw [List.all_append, setTop_all f1 hx hj, Bool.true_and]
      simp only [List.all_cons, List.all_nil, Bool.and_true, M.frameOk, Bool.and_eq_true, M.isIn, decide_eq_true_eq, bne_iff_ne]
      unfold M.nodeIn at hj
      rw [m2]
      exact ⟨⟨by omega, hj, m3, by omega⟩, hB, hj, m1, hz0⟩
    · simp only [List.length_append, M.setTop, List.length_set, List.length_cons, List.length_nil]; omega
    · have e : rd (M.setTop x.Frames (M.joinB p (M.topPc x)) ++ [⟨M.topPc x + 1, M.joinB p (M.topPc x), bitNot .i64 (M.lastF x.Frames).Mask (M.zeroMask x (M.topIns p x).A)⟩, ⟨(M.topIns p x).B, M.joinB p (M.topPc x), M.zeroMask x (M.topIns p x).A⟩]) 0 = rd (M.setTop x.Frames (M.joinB p (M.topPc x))) 0 := by
        unfold rd
        rw [List.getD_eq_getElem?_getD, List.getD_eq_getElem?_getD, List.getElem?_append_left (by simp [M.setTop]; omega)]
      rw [e, (s0 _).1, (s0 _).2]
      exact ⟨f3, f4⟩
  · rw [if_neg hs]
    unfold M.advance
    refine fin _ _ (applyAll_len t4) (applyTo_words t7 ⟨t8, t9⟩ t4 f6 8 (Nat.le_refl _)) (setTop_all f1 hx (turn_in hr)) (by simp only [M.setTop, List.length_set]; exact f2) fun _ => ?_
    rw [(s0 _).1, (s0 _).2]
    exact ⟨f3, f4⟩
end Go.V
set_option linter.unusedVariables false
set_option linter.unusedSimpArgs false
set_option maxRecDepth 20000
namespace Go.V
theorem fits_cut {i : D.Ins} {n : Int} {r : List Int} {k : Nat} (h : M.insOk i n = true) (hr : r.length = 32) (hk : k < 8) : M.Fits i (M.laneCut r k) := ⟨laneCut_len hr hk, n, h⟩
theorem wp.impl_Warp_advance.math (x : D.Warp) (p : List D.Ins) (h : M.impl_Warp_advance_pre x p) : wp.impl_Warp_advance x p (fun r => r = M.impl_Warp_advance x p) := by
  obtain ⟨t1, t2, t3, t4, t5, t6, t7, t8, t9⟩ := runs_top h
  have hx := h.2.2
  unfold wp.impl_Warp_advance
  rw [last_wrap (by omega)]
  refine ⟨by omega, ⟨t5, t6⟩, fun ls hls => ?_⟩
  have hls : ls = M.lanesOf (M.lastF x.Frames).Mask := hls
  have hmem : ∀ k ∈ ls, 0 ≤ k ∧ k ≤ 7 := fun k hk => lanes_in (m := (M.lastF x.Frames).Mask) (hls ▸ hk)
  have hlen : ls.length ≤ 8 := by rw [hls]; exact lanes_len _
  let G : Nat → List Int := fun k => (ls.take k).foldl (stepL (M.topIns p x) x.Number) x.Regs
  have hG : ∀ k, (G k).length = 32 := fun k => fold_len _ _ t4 fun j hj => hmem j (List.mem_of_mem_take hj)
  refine loop_n ls.length (fun k => ((k : Int), G k, ())) (fun _ => True) rfl trivial (fun k hk _ next hn => ?_) fun _ next => ?_
  · have hn := hn trivial
    have hm := hmem _ (rd_mem hk)
    have hGk := hG k
    have hnext : G (k + 1) = stepL (M.topIns p x) x.Number (G k) (rd ls (k : Int)) := by
      simp only [G]
      rw [List.take_add_one, List.getElem?_eq_getElem hk, Option.toList_some, List.foldl_append, ← rd_nat hk]
      rfl
    rw [hnext] at hn
    dsimp only
    generalize rd ls (k : Int) = l at *
    generalize G k = g at *
    have a1 : IntKind.wrap .i64 (l * 4) = l * 4 := w64 (by omega) (by omega)
    have a2 : IntKind.wrap .i64 ((IntKind.wrap .i64 (l + 1)) * 4) = l * 4 + 4 := by rw [w64 (x := l + 1) (by omega) (by omega), w64 (by omega) (by omega)]; omega
    have a3 : IntKind.wrap .i64 ((IntKind.wrap .i64 (x.Number * 8)) + l) = x.Number * 8 + l := by rw [w64 (x := x.Number * 8) (by omega) (by omega), w64 (by omega) (by omega)]
    rw [a1, a2, a3, up64 hk (by omega)]
    refine bcase_t (by simp; omega) ⟨by omega, ⟨hGk, hm⟩, ⟨?_, by omega, by omega⟩, fun r2 hr2 => ?_⟩
    · have := fits_cut (k := l.toNat) t7 hGk (by omega)
      unfold M.laneCut at this
      rw [show l.toNat * 4 + 4 = (l * 4 + 4).toNat by omega, show l.toNat * 4 = (l * 4).toNat by omega] at this
      exact this
    · rw [hr2]; exact hn
  · have hall : G ls.length = M.applyAll (M.topIns p x) x.Number (M.lastF x.Frames).Mask x.Regs := by
      simp only [G]
      rw [List.take_length, applyAll_fold t4, hls]
    dsimp only
    rw [hall]
    refine bcase_f (by simp) ?_
    have e1 : (((x.Frames.length : Nat) : Int) - 1).toNat = x.Frames.length - 1 := by omega
    have fin : ∀ pc, pc = M.turnPc p x → (⟨x.Number, x.Frames.set (((x.Frames.length : Nat) : Int) - 1).toNat ⟨pc, (M.lastF x.Frames).Stop, (M.lastF x.Frames).Mask⟩, M.applyAll (M.topIns p x) x.Number (M.lastF x.Frames).Mask x.Regs⟩ : D.Warp) = M.impl_Warp_advance x p := by
      rintro _ rfl
      unfold M.impl_Warp_advance M.advance M.setTop
      rw [e1]
    show bcase ((M.topIns p x).Op == 12) _ (bcase ((M.topIns p x).Op == 11) (bcase true _ _) (bcase ((M.topIns p x).Op == 10) _ (bcase false _ _)))
    refine bcase_mk (fun c1 => fin _ ?_) fun c1 => bcase_mk (fun c2 => bcase_t rfl (fin _ ?_)) fun c2 => bcase_mk (fun c3 => ⟨?_, fun z hz => ?_⟩) fun c3 => bcase_f rfl (fin _ ?_)
    · have c1 : (M.topIns p x).Op = 12 := by simpa using c1
      simp [M.turnPc, c1]
    · have c2 : (M.topIns p x).Op = 11 := by simpa using c2
      simp only [M.turnPc, c2]
      rfl
    · have c3 : (M.topIns p x).Op = 10 := by simpa using c3
      exact ⟨by show x.Frames.length ≤ 9223372036854775807; omega, applyAll_len t4, zero_reg t7 c3⟩
    · have c3 : (M.topIns p x).Op = 10 := by simpa using c3
      have hz : z = M.zeroMask x (M.topIns p x).A := by
        rw [hz, applyAll_branch t4 c3]; rfl
      show bcase (z == (M.lastF x.Frames).Mask) _ _
      rw [hz]
      refine bcase_mk (fun c4 => fin _ ?_) fun c4 => fin _ ?_
      · have c4 : M.zeroMask x (M.topIns p x).A = (M.lastF x.Frames).Mask := by simpa using c4
        unfold M.turnPc
        rw [if_neg (by omega), if_neg (by omega), if_pos ⟨c3, c4⟩]; rfl
      · have c4 : ¬ M.zeroMask x (M.topIns p x).A = (M.lastF x.Frames).Mask := by simpa using c4
        unfold M.turnPc
        rw [if_neg (by omega), if_neg (by omega), if_neg (fun hc => c4 hc.2)]
        exact w64 (x := M.topPc x + 1) (by omega) (by omega)
    · have c1 : ¬ (M.topIns p x).Op = 12 := by simpa using c1
      have c2 : ¬ (M.topIns p x).Op = 11 := by simpa using c2
      have c3 : ¬ (M.topIns p x).Op = 10 := by simpa using c3
      unfold M.turnPc
      rw [if_neg c1, if_neg c2, if_neg (fun hc => c3 hc.1)]
      exact w64 (x := M.topPc x + 1) (by omega) (by omega)
theorem has_branches {p : List D.Ins} {b : Int} (h : M.Branch p b) : M.has (M.branches p) b = true := by
  unfold M.has M.branches
  rw [if_pos h.1, List.any_eq_true]
  exact ⟨b, mem_idx.2 ⟨b.toNat, by have := h.2.2.1; have := h.2.1; omega, by have := h.2.1; omega, h.2.2.2⟩, by simp⟩
theorem wp.impl_Warp_separate.math (x : D.Warp) (p : List D.Ins) (h : M.impl_Warp_separate_pre x p) : wp.impl_Warp_separate x p (fun r => r = M.impl_Warp_separate x p) := by
  obtain ⟨hr, hs⟩ := h
  obtain ⟨t1, t2, t3, t4, t5, t6, t7, t8, t9⟩ := runs_top hr
  have hb := split_branch hr hs
  unfold wp.impl_Warp_separate
  rw [last_wrap (by omega), w64 (x := ((x.Frames.length : Nat) : Int) + 2) (by omega) (by omega)]
  refine bcase_mk (fun e => ?_) fun e => ⟨by omega, ⟨t5, t6⟩, ⟨by show x.Frames.length ≤ 9223372036854775807; omega, t4, zero_reg t7 hs.1⟩, fun z hz => ⟨prog_small hr.1, fun j hj => ⟨⟨t5, t6⟩, ?_⟩⟩⟩
  · have e : ¬ x.Frames.length ≤ 22 := by have := of_decide_eq_true e; omega
    unfold M.impl_Warp_separate
    rw [if_neg e]
  · have e : x.Frames.length ≤ 22 := by have := of_decide_eq_false e; omega
    have hj : j = M.joinB p (M.topPc x) := by
      rw [hj]
      show M.joinOf p (M.topPc x) = _
      unfold M.joinOf
      rw [if_pos (has_branches hb)]
    have hw : IntKind.wrap .i64 (M.topPc x + 1) = M.topPc x + 1 := w64 (by omega) (by omega)
    have key : ∀ y, y = M.separated p x → (true, y) = M.impl_Warp_separate x p := by
      rintro _ rfl
      unfold M.impl_Warp_separate
      rw [if_pos e]
    have e1 : (((x.Frames.length : Nat) : Int) - 1).toNat = x.Frames.length - 1 := by omega
    have fin : (true, (⟨x.Number, (x.Frames.set (((x.Frames.length : Nat) : Int) - 1).toNat ⟨j, (M.lastF x.Frames).Stop, (M.lastF x.Frames).Mask⟩) ++ [⟨IntKind.wrap .i64 (M.topPc x + 1), j, bitNot .i64 (M.lastF x.Frames).Mask z⟩, ⟨(M.topIns p x).B, j, z⟩], x.Regs⟩ : D.Warp)) = M.impl_Warp_separate x p := by
      refine key _ ?_
      rw [hw, hj, hz, e1]; rfl
    have hle : (x.Frames.set (((x.Frames.length : Nat) : Int) - 1).toNat ⟨j, (M.lastF x.Frames).Stop, (M.lastF x.Frames).Mask⟩).length + 2 ≤ 17179869184 := by rw [List.length_set]; omega
    exact ⟨⟨hle, fin⟩, ⟨⟨hle, fin⟩, ⟨hle, fin⟩, trivial⟩, trivial⟩
end Go.V
set_option linter.unusedVariables false
set_option linter.unusedSimpArgs false
set_option maxRecDepth 20000
namespace Go.V
def putSome (r x : List Int) (l j : Nat) : List Int := r.take (l * 4) ++ x.take j ++ r.drop (l * 4 + j)
theorem putSome_len {r x : List Int} {l j : Nat} (h : r.length = 32) (hl : l < 8) (hx : x.length = 4) (hj : j ≤ 4) : (putSome r x l j).length = 32 := by unfold putSome; simp; omega
theorem putSome_get {r x : List Int} {l j : Nat} (h : r.length = 32) (hl : l < 8) (hx : x.length = 4) (hj : j ≤ 4) (i : Nat) : (putSome r x l j)[i]? = if l * 4 ≤ i ∧ i < l * 4 + j then x[i - l * 4]? else r[i]? := by
  unfold putSome
  rw [List.getElem?_append, List.length_append, List.length_take, List.length_take, hx, Nat.min_eq_left (by omega), Nat.min_eq_left hj, List.getElem?_append, List.length_take, Nat.min_eq_left (by omega)]
  by_cases h1 : i < l * 4
  · rw [if_pos (by omega), if_pos h1, if_neg (by omega), List.getElem?_take, if_pos h1]
  · by_cases h2 : i < l * 4 + j
    · rw [if_pos h2, if_neg h1, if_pos (by omega), List.getElem?_take, if_pos (by omega)]
    · rw [if_neg h2, if_neg (by omega), List.getElem?_drop]
      congr 1; omega
theorem putSome_zero (r x : List Int) (l : Nat) : putSome r x l 0 = r := by unfold putSome; simp
theorem putSome_all {r x : List Int} {l : Nat} (hx : x.length = 4) : putSome r x l 4 = M.putLane r l x := by unfold putSome M.putLane; rw [List.take_of_length_le (l := x) (by omega)]
theorem putSome_set {r x : List Int} {l j : Nat} (h : r.length = 32) (hl : l < 8) (hx : x.length = 4) (hj : j < 4) : (putSome r x l j).set (l * 4 + j) (rd x (j : Int)) = putSome r x l (j + 1) := by
  apply List.ext_getElem?
  intro i
  rw [putSome_get h hl hx (by omega)]
  by_cases e : l * 4 + j = i
  · subst e
    rw [List.getElem?_set_self (by rw [putSome_len h hl hx (by omega)]; omega), if_pos (by omega), show l * 4 + j - l * 4 = j by omega, rd_nat (by omega), List.getElem?_eq_getElem (by omega)]
  · rw [List.getElem?_set_ne e, putSome_get h hl hx (by omega)]
    by_cases h1 : l * 4 ≤ i ∧ i < l * 4 + j
    · rw [if_pos h1, if_pos (by omega)]
    · rw [if_neg h1, if_neg (by omega)]
theorem wp.spec_l13Apply.math (p : List D.Ins) (x : D.Warp) (h : M.spec_l13Apply_pre p x) : wp.spec_l13Apply p x (fun r => r = M.spec_l13Apply p x) := by
  obtain ⟨t1, t2, t3, t4, t5, t6, t7, t8, t9⟩ := runs_top h
  unfold wp.spec_l13Apply
  rw [last_wrap (by omega), List.nil_append]
  refine ⟨by simp; omega, by omega, ?_⟩
  let G : Nat → List Int := M.applyTo (M.topIns p x) x.Number (M.lastF x.Frames).Mask x.Regs
  have hG : ∀ k, k ≤ 8 → (G k).length = 32 := fun k hk => applyTo_len t4 k hk
  refine loop_n 8 (fun k => ((k : Int), G k, ())) (fun _ => True) rfl trivial (fun k hk _ next hn => ?_) fun _ next => bcase_f (by simp) rfl
  have hn := hn trivial
  have hGk := hG k (by omega)
  have hnext : G (k + 1) = if M.hasLane (M.lastF x.Frames).Mask (k : Int) then M.putLane (G k) k (M.apply (M.topIns p x) (x.Number * 8 + (k : Int)) (M.laneCut x.Regs k)) else G k := rfl
  rw [hnext] at hn
  dsimp only
  generalize G k = g at *
  refine bcase_t (by simp; omega) fun b hb => ?_
  have hb : b = M.hasLane (M.lastF x.Frames).Mask (k : Int) := hb
  have a1 : IntKind.wrap .i64 ((k : Int) * 4) = (k : Int) * 4 := w64 (by omega) (by omega)
  have a2 : IntKind.wrap .i64 ((IntKind.wrap .i64 ((k : Int) + 1)) * 4) = (k : Int) * 4 + 4 := by rw [w64 (x := (k : Int) + 1) (by omega) (by omega), w64 (by omega) (by omega)]; omega
  have a3 : IntKind.wrap .i64 ((IntKind.wrap .i64 (x.Number * 8)) + (k : Int)) = x.Number * 8 + (k : Int) := by rw [w64 (x := x.Number * 8) (by omega) (by omega), w64 (by omega) (by omega)]
  refine bcase_mk (fun e => ?_) fun e => ?_
  · rw [if_pos (hb.symm.trans e)] at hn
    rw [a1, a2, a3, t4, show ((k : Int) * 4 + 4).toNat = k * 4 + 4 by omega, show ((k : Int) * 4).toNat = k * 4 by omega]
    refine ⟨⟨t5, t6⟩, ⟨by omega, by omega, by omega, by omega⟩, fits_cut t7 t4 hk, fun y hy => ?_⟩
    have hy : y = M.apply (M.topIns p x) (x.Number * 8 + (k : Int)) (M.laneCut x.Regs k) := hy
    have hyl : y.length = 4 := by rw [hy, apply_len, laneCut_len t4 hk]
    rw [← hy] at hn
    refine loop_n 4 (fun j => ((j : Int), putSome g y k j, ())) (fun _ => True) (by rw [putSome_zero]; rfl) trivial (fun j hj _ next2 hn2 => ?_) fun _ next2 => ?_
    · have hn2 := hn2 trivial
      rw [← putSome_set hGk hk hyl hj] at hn2
      dsimp only
      have a4 : IntKind.wrap .i64 ((k : Int) * 4 + (j : Int)) = (k : Int) * 4 + (j : Int) := w64 (by omega) (by omega)
      rw [a4, hyl, putSome_len hGk hk hyl (by omega), show ((k : Int) * 4 + (j : Int)).toNat = k * 4 + j by omega, up64 (n := 4) hj (by omega)]
      exact bcase_t (by simp; omega) ⟨by omega, by omega, hn2⟩
    · dsimp only
      rw [putSome_all hyl, up64 (n := 8) hk (by omega)]
      exact bcase_f (by simp) hn
  · rw [if_neg (by rw [← hb, e]; simp)] at hn
    rw [up64 (n := 8) hk (by omega)]
    exact hn
theorem wp.spec_l13Step.math (p : List D.Ins) (x : D.Warp) (h : M.spec_l13Step_pre p x) : wp.spec_l13Step p x (fun r => r = M.spec_l13Step p x) := by
  obtain ⟨hr, hl⟩ := h
  obtain ⟨t1, t2, t3, t4, t5, t6, t7, t8, t9⟩ := runs_top hr
  obtain ⟨f1, f2, f3, f4, f5, f6⟩ := runs_frames hr
  have hx := hr.2.2
  unfold wp.spec_l13Step
  rw [last_wrap (by omega)]
  refine ⟨⟨by omega, by omega⟩, fun y hy => ?_⟩
  have hy : y = x := hy
  subst hy
  have e1 : (((y.Frames.length : Nat) : Int) - 1).toNat = y.Frames.length - 1 := by omega
  refine ⟨by omega, ⟨t5, t6⟩, hr, fun s hs => ?_⟩
  have hs : s = M.splits p y := hs
  have hw : IntKind.wrap .i64 (M.topPc y + 1) = M.topPc y + 1 := w64 (by omega) (by omega)
  refine bcase_mk (fun e => ⟨by show y.Frames.length ≤ 9223372036854775807; omega, fun z hz => ?_⟩) fun e => ⟨hr, fun rg hrg => ?_⟩
  · have hsp := hs.symm.trans e
    obtain ⟨hsp', hz0, hzm⟩ := splits_iff hsp
    have hb := split_branch hr hsp'
    have hz : z = M.zeroMask y (M.topIns p y).A := by
      have hz : z = M.spec_ZeroMask y (M.topIns p y).A := hz
      rw [hz]
      unfold M.spec_ZeroMask
      rw [if_pos (by rw [zero_reg t7 hsp'.1, t4]; rfl)]
    have hact : M.activeMask y = (M.lastF y.Frames).Mask := activeMask_top hx
    obtain ⟨m1, m2, m3⟩ := mask_part (x := y) (reg := (M.topIns p y).A) (by rw [hact]; exact f5)
    rw [hact] at m2 m3
    have hm : IntKind.wrap .i64 ((M.lastF y.Frames).Mask - z) = bitNot .i64 (M.lastF y.Frames).Mask (M.zeroMask y (M.topIns p y).A) := by
      rw [m2, hz]
      simp only [M.isMask, M.isIn, Bool.and_eq_true, decide_eq_true_eq] at m3
      exact w64 (by omega) (by omega)
    refine ⟨hb, fun j hj => ⟨by omega, ⟨by simp; omega, ⟨by refine ⟨?_, ?_⟩ <;> simp <;> omega, fun d hd => ?_⟩⟩⟩⟩
    have hj : j = M.joinB p (M.topPc y) := hj
    have hd : d = M.dropW (M.separated p y) p.length := by
      rw [hd]
      show M.dropW _ _ = M.dropW _ _
      congr 1
      unfold M.separated M.setTop
      rw [← hm, ← hj, ← hz, e1, ← hw]; rfl
    show d = M.stepW p y
    unfold M.stepW
    rw [if_pos hsp]; exact hd
  · have hns : ¬ M.splits p y = true := by rw [← hs, e]; simp
    have hrg : rg = M.applyAll (M.topIns p y) y.Number (M.lastF y.Frames).Mask y.Regs := hrg
    have hfit : ∀ pc, M.WFit ⟨y.Number, y.Frames.set (((y.Frames.length : Nat) : Int) - 1).toNat ⟨pc, (M.lastF y.Frames).Stop, (M.lastF y.Frames).Mask⟩, rg⟩ := fun pc => by
      refine ⟨?_, ?_⟩
      · show (y.Frames.set _ _).length ≤ _
        rw [List.length_set]; omega
      · show rg.length ≤ _
        rw [hrg, applyAll_len t4]; omega
    have fin : ∀ pc, pc = M.turnPc p y → ∀ d, d = M.spec_DropFrames p ⟨y.Number, y.Frames.set (((y.Frames.length : Nat) : Int) - 1).toNat ⟨pc, (M.lastF y.Frames).Stop, (M.lastF y.Frames).Mask⟩, rg⟩ → d = M.stepW p y := by
      rintro _ rfl d hd
      rw [hd, hrg]
      show M.dropW _ _ = _
      unfold M.stepW
      rw [if_neg hns, e1]; rfl
    show bcase ((M.topIns p y).Op == 12) _ (bcase ((M.topIns p y).Op == 11) _ (_ ∧ bcase ((M.topIns p y).Op == 10) _ (bcase false _ _)))
    refine bcase_mk (fun c1 => ⟨by omega, hfit _, fun d hd => fin _ ?_ d hd⟩) fun c1 => bcase_mk (fun c2 => ⟨by omega, hfit _, fun d hd => fin _ ?_ d hd⟩) fun c2 => ⟨by omega, bcase_mk (fun c3 => ⟨by show y.Frames.length ≤ 9223372036854775807; omega, fun z hz => ?_⟩) fun c3 => bcase_f rfl ⟨hfit _, fun d hd => fin _ ?_ d hd⟩⟩
    · have c1 : (M.topIns p y).Op = 12 := by simpa using c1
      simp [M.turnPc, c1]
    · have c2 : (M.topIns p y).Op = 11 := by simpa using c2
      simp only [M.turnPc, c2]
      rfl
    · have c3 : (M.topIns p y).Op = 10 := by simpa using c3
      have hz : z = M.zeroMask y (M.topIns p y).A := by
        have hz : z = M.spec_ZeroMask y (M.topIns p y).A := hz
        rw [hz]
        unfold M.spec_ZeroMask
        rw [if_pos (by rw [zero_reg t7 c3, t4]; rfl)]
      show bcase (z == (M.lastF y.Frames).Mask) _ _
      rw [hz]
      refine bcase_mk (fun c4 => ⟨by rw [List.length_set]; omega, hfit _, fun d hd => fin _ ?_ d hd⟩) fun c4 => ⟨hfit _, fun d hd => fin _ ?_ d hd⟩
      · have c4 : M.zeroMask y (M.topIns p y).A = (M.lastF y.Frames).Mask := by simpa using c4
        unfold M.turnPc
        rw [if_neg (by omega), if_neg (by omega), if_pos ⟨c3, c4⟩]; rfl
      · have c4 : ¬ M.zeroMask y (M.topIns p y).A = (M.lastF y.Frames).Mask := by simpa using c4
        unfold M.turnPc
        rw [if_neg (by omega), if_neg (by omega), if_neg (fun hc => c4 hc.2)]
        exact hw
    · have c1 : ¬ (M.topIns p y).Op = 12 := by simpa using c1
      have c2 : ¬ (M.topIns p y).Op = 11 := by simpa using c2
      have c3 : ¬ (M.topIns p y).Op = 10 := by simpa using c3
      unfold M.turnPc
      rw [if_neg c1, if_neg c2, if_neg (fun hc => c3 hc.1)]
      exact hw
end Go.V
set_option linter.unusedVariables false
set_option linter.unusedSimpArgs false
set_option maxRecDepth 20000
namespace Go.V
theorem goes_of {p : List D.Ins} {x : D.Warp} (h : M.Fine p x) (hl : M.spec_l13Local p x = true) : M.Goes p x := by
  refine ⟨⟨h.1, h.2, ?_⟩, hl⟩
  simp only [M.spec_l13Local, Bool.and_eq_true] at hl
  intro e
  rw [e] at hl
  simp at hl
theorem wp.impl_Warp_pass.math (x : D.Warp) (p : List D.Ins) (h : M.impl_Warp_pass_pre x p) : wp.impl_Warp_pass x p (fun r => r = M.impl_Warp_pass x p) := by
  obtain ⟨hp, hw⟩ := h
  unfold wp.impl_Warp_pass
  rw [empty_len0]
  refine bcase_mk (fun e => ?_) fun e => ?_
  · have : M.spec_l13Local p x = false := by simp [M.spec_l13Local, e]
    unfold M.impl_Warp_pass
    rw [if_neg (by rw [this]; simp)]
  have hx : x.Frames ≠ [] := by simpa using e
  have hr : M.Runs p x := ⟨hp, hw, hx⟩
  obtain ⟨t1, t2, t3, t4, t5, t6, t7, t8, t9⟩ := runs_top hr
  rw [last_wrap (by omega)]
  have hl : ∀ b, M.isLocal (M.topIns p x) = b → M.spec_l13Local p x = (b && (!M.splits p x || decide (x.Frames.length ≤ 22))) := fun b hb => by
    simp only [M.spec_l13Local, hb, e, Bool.not_false, Bool.true_and]
  have no : M.spec_l13Local p x = false → (false, x) = M.impl_Warp_pass x p := fun hf => by
    unfold M.impl_Warp_pass
    rw [if_neg (by rw [hf]; simp)]
  have yes : M.spec_l13Local p x = true → ∀ y, y = M.stepW p x → (true, y) = M.impl_Warp_pass x p := fun hf y hy => by
    unfold M.impl_Warp_pass
    rw [if_pos hf, hy]
  refine ⟨by omega, ⟨t5, t6⟩, fun b hb => bcase_mk (fun c => no ?_) fun c => ⟨hr, fun s hs => bcase_mk (fun c2 => ⟨⟨hr, ?_⟩, fun q hq => ?_⟩) fun c2 => ⟨hr, fun q hq => ⟨?_, fun d hd => ?_⟩⟩⟩⟩
  · have c : b = false := by simpa using c
    rw [hl b hb.symm, c]; rfl
  · exact (splits_iff (hs.symm.trans c2)).1
  · have c : b = true := by simpa using c
    have hsp : M.splits p x = true := hs.symm.trans c2
    have hl' := hl b hb.symm
    rw [c, hsp] at hl'
    simp only [Bool.true_and, Bool.not_true, Bool.false_or] at hl'
    rw [hq]
    unfold M.impl_Warp_separate
    by_cases h22 : x.Frames.length ≤ 22
    · rw [decide_eq_true h22] at hl'
      rw [if_pos h22]
      refine bcase_f rfl ⟨?_, fun d hd => yes hl' _ ?_⟩
      · show (M.separated p x).Frames.length ≤ 9223372036854775807
        simp only [M.separated, M.setTop, List.length_append, List.length_set, List.length_cons, List.length_nil]; omega
      · rw [hd]
        unfold M.stepW
        rw [if_pos hsp]; rfl
    · rw [decide_eq_false h22] at hl'
      rw [if_neg h22]
      exact bcase_t rfl (no hl')
  · rw [hq]
    show (M.setTop x.Frames _).length ≤ 9223372036854775807
    simp only [M.setTop, List.length_set]; omega
  · have c : b = true := by simpa using c
    have hsp : M.splits p x = false := by rw [← show s = M.splits p x from hs, c2]
    have hl' := hl b hb.symm
    rw [c, hsp] at hl'
    refine yes hl' _ ?_
    rw [hd, hq]
    unfold M.stepW
    rw [if_neg (by rw [hsp]; simp)]; rfl
theorem wp.impl_WarpOk.math (p : List D.Ins) (x : D.Warp) (h : M.impl_WarpOk_pre p x) : wp.impl_WarpOk p x (fun r => r = M.impl_WarpOk p x) := by
  obtain ⟨h1, h2⟩ := h
  refine ⟨h1, fun b hb => bcase_mk (fun e => ⟨h2, fun c hc => ?_⟩) fun e => ?_⟩
  · have : M.programOk p = true := hb.symm.trans e
    rw [hc]
    show M.warpOf p x = _
    unfold M.impl_WarpOk M.spec_WarpOk
    rw [this, Bool.true_and]
  · have : M.programOk p = false := hb.symm.trans e
    unfold M.impl_WarpOk M.spec_WarpOk
    rw [this, Bool.false_and]
theorem wAt_fine {p : List D.Ins} {x : D.Warp} (h : M.Fine p x) : ∀ k, (∀ j, j < k → M.spec_l13Local p (M.wAt p x j) = true) → M.Fine p (M.wAt p x k)
  | 0, _ => h
  | k + 1, hj => stepW_fine (goes_of (wAt_fine h k fun j hjk => hj j (by omega)) (hj k (by omega)))
def RunI (p : List D.Ins) (x : D.Warp) (n k : Nat) : Prop := M.Fine p (M.wAt p x k) ∧ (k ≤ n → M.runW p n x 0 = M.runW p (n - k) (M.wAt p x k) (k : Int))
theorem runI_zero {p : List D.Ins} {x : D.Warp} (h : M.Fine p x) (n : Nat) : RunI p x n 0 := ⟨h, fun _ => rfl⟩
theorem runI_go {p : List D.Ins} {x : D.Warp} {n k : Nat} (h : RunI p x n k) (hk : k < n) (hl : M.spec_l13Local p (M.wAt p x k) = true) : RunI p x n (k + 1) := by
  refine ⟨stepW_fine (goes_of h.1 hl), fun _ => ?_⟩
  rw [h.2 (by omega), show n - k = (n - (k + 1)) + 1 by omega]
  simp only [M.runW]
  rw [if_pos hl]; rfl
theorem runI_stop {p : List D.Ins} {x : D.Warp} {n k : Nat} (h : RunI p x n k) (hk : k < n) (hl : M.spec_l13Local p (M.wAt p x k) = false) : M.runW p n x 0 = (M.wAt p x k, (k : Int)) := by
  rw [h.2 (by omega), show n - k = (n - (k + 1)) + 1 by omega]
  simp only [M.runW]
  rw [if_neg (by rw [hl]; simp)]
theorem runI_end {p : List D.Ins} {x : D.Warp} {n : Nat} (h : RunI p x n n) : M.runW p n x 0 = (M.wAt p x n, (n : Int)) := by
  rw [h.2 (Nat.le_refl _), Nat.sub_self]; rfl
theorem wp.spec_l14Run.math (p : List D.Ins) (x : D.Warp) (steps : Int) (h : M.spec_l14Run_pre p x steps) : wp.spec_l14Run p x steps (fun r => r = M.spec_l14Run p x steps) := by
  obtain ⟨hF, h0, h1⟩ := h
  obtain ⟨n, rfl⟩ := Int.eq_ofNat_of_zero_le h0
  unfold wp.spec_l14Run M.spec_l14Run
  rw [Int.toNat_natCast]
  refine loop_n n (fun k => ((k : Int), (M.wAt p x k).Number, (M.wAt p x k).Frames, (M.wAt p x k).Regs, ())) (RunI p x n) rfl (runI_zero hF n) (fun k hk hI next hn => ?_) fun hI next => bcase_f (by simp) (runI_end hI).symm
  dsimp only
  refine bcase_t (by simp; omega) ⟨hI.1, fun b hb => bcase_mk (fun e => ⟨goes_of hI.1 (hb.symm.trans e), fun y hy => ?_⟩) fun e => (runI_stop hI hk (hb.symm.trans e)).symm⟩
  have hn := hn (runI_go hI hk (hb.symm.trans e))
  rw [up64 hk (by omega), hy]
  exact hn
theorem wp.impl_RunWarp.math (p : List D.Ins) (x : D.Warp) (steps : Int) (h : M.impl_RunWarp_pre p x steps) : wp.impl_RunWarp p x steps (fun r => r = M.impl_RunWarp p x steps) := by
  obtain ⟨h1, h2⟩ := h
  have hWL : M.WLong x := ⟨Nat.le_trans h2.1 (by omega), Nat.le_trans h2.2 (by omega)⟩
  refine ⟨h2, fun y hy => ?_⟩
  have hy : y = x := hy
  subst hy
  have no : (M.isQuiet p && (M.spec_WarpOk p y && M.isIn steps 0 8000)) = false → (y, (-1 : Int)) = M.impl_RunWarp p y steps := fun hf => by
    unfold M.impl_RunWarp M.runWarp
    rw [if_neg (by rw [hf]; simp)]
  refine ⟨h1, fun a ha => bcase_mk (fun e => no ?_) fun e => ⟨⟨h1, hWL⟩, fun b hb => bcase_mk (fun e2 => no ?_) fun e2 => fun c hc => bcase_mk (fun e3 => no ?_) fun e3 => ?_⟩⟩
  · have : M.isQuiet p = false := by rw [← show a = M.isQuiet p from ha]; simpa using e
    rw [this]; rfl
  · have : M.spec_WarpOk p y = false := by rw [← show b = M.spec_WarpOk p y from hb]; simpa using e2
    rw [this, Bool.false_and, Bool.and_false]
  · have : M.isIn steps 0 8000 = false := by rw [← show c = M.isIn steps 0 8000 from hc]; simpa using e3
    rw [this, Bool.and_false, Bool.and_false]
  · have q1 : M.isQuiet p = true := by rw [← show a = M.isQuiet p from ha]; simpa using e
    have q2 : M.spec_WarpOk p y = true := by rw [← show b = M.spec_WarpOk p y from hb]; simpa using e2
    have q3 : M.isIn steps 0 8000 = true := by rw [← show c = M.isIn steps 0 8000 from hc]; simpa using e3
    have hF : M.Fine p y := by have := q2; simp only [M.spec_WarpOk, Bool.and_eq_true] at this; exact this
    have hM : M.impl_RunWarp p y steps = M.runW p steps.toNat y 0 := by
      unfold M.impl_RunWarp M.runWarp
      rw [if_pos (by rw [q1, q2, q3]; rfl)]
    rw [hM]
    simp only [M.isIn, Bool.and_eq_true, decide_eq_true_eq] at q3
    obtain ⟨n, rfl⟩ := Int.eq_ofNat_of_zero_le q3.1
    rw [Int.toNat_natCast]
    refine loop_n n (fun k => ((k : Int), (M.wAt p y k).Number, (M.wAt p y k).Frames, (M.wAt p y k).Regs, ())) (RunI p y n) rfl (runI_zero hF n) (fun k hk hI next hn => ?_) fun hI next => bcase_f (by simp) (runI_end hI).symm
    dsimp only
    refine bcase_t (by simp; omega) ⟨hI.1, fun r hr => ?_⟩
    rw [hr]
    unfold M.impl_Warp_pass
    cases hl : M.spec_l13Local p (M.wAt p y k) with
    | true =>
      have hn := hn (runI_go hI hk hl)
      rw [if_pos rfl, up64 hk (by omega)]
      exact bcase_t rfl hn
    | false =>
      rw [if_neg (by simp)]
      exact bcase_f rfl (runI_stop hI hk hl).symm
theorem quiet_prog {p : List D.Ins} (h : M.isQuiet p = true) : M.programOk p = true := by
  simp only [M.isQuiet, Bool.and_eq_true] at h; exact h.1
theorem newWarp_fine {p : List D.Ins} (hp : M.programOk p = true) {w : Int} (hw : M.isIn w 0 2 = true) : M.Fine p (M.newWarp p w) := by
  refine ⟨hp, ?_⟩
  have hz : (List.replicate 32 (0 : Int)).all M.isWord = true := by rfl
  unfold M.warpOf
  have hN : (M.newWarp p w).Number = w := rfl
  have hR : (M.newWarp p w).Regs = List.replicate 32 0 := rfl
  have hF : (M.newWarp p w).Frames = if p.length > 0 then [⟨0, p.length, 255⟩] else [] := rfl
  rw [hN, hR, hF, hw, hz, List.length_replicate]
  by_cases h0 : p.length > 0
  · rw [if_pos h0]
    have hn : ((p.length : Nat) : Int) ≠ 0 := by omega
    have h1 : M.frameOk p.length ⟨0, p.length, 255⟩ = true := by
      simp only [M.frameOk, M.isIn, M.isMask, Bool.and_eq_true, decide_eq_true_eq, bne_iff_ne]; omega
    have hl : M.lastF [(⟨0, p.length, 255⟩ : D.Frame)] = ⟨0, p.length, 255⟩ := rfl
    have hr : rd [(⟨0, p.length, 255⟩ : D.Frame)] 0 = ⟨0, p.length, 255⟩ := rfl
    have h2 : M.endsOk [(⟨0, p.length, 255⟩ : D.Frame)] p.length = true := by
      unfold M.endsOk
      rw [hl, hr]
      simp only [Bool.and_eq_true, decide_eq_true_eq, bne_iff_ne, beq_iff_eq, List.length_cons, List.length_nil]
      exact ⟨by omega, fun h => hn h.symm, fun h => hn h.symm, trivial, trivial⟩
    have : M.areFrames [(⟨0, p.length, 255⟩ : D.Frame)] p.length = true := by
      unfold M.areFrames
      rw [h2]; simp [h1]
    rw [this]; rfl
  · rw [if_neg h0]; rfl
theorem newWarp_fit (p : List D.Ins) (w : Int) : M.WFit (M.newWarp p w) := by
  refine ⟨?_, ?_⟩
  · show (if p.length > 0 then [(⟨0, p.length, 255⟩ : D.Frame)] else []).length ≤ _
    split <;> simp
  · show (List.replicate 32 (0 : Int)).length ≤ _
    simp
theorem wp.spec_WarpResult.math (p : List D.Ins) (w : Int) (h : M.spec_WarpResult_pre p w) : wp.spec_WarpResult p w (fun r => r = M.spec_WarpResult p w) := by
  have no : (M.isQuiet p && M.isIn w 0 2) = false → (M.noWarp, (0 : Int), false) = M.spec_WarpResult p w := fun hf => by
    unfold M.spec_WarpResult M.warpResult
    rw [if_neg (by rw [hf]; simp)]
  refine ⟨h, fun a ha => bcase_mk (fun e => no ?_) fun e => ⟨h, fun b hb => bcase_mk (fun e2 => no ?_) fun e2 => ?_⟩⟩
  · have e : a.2 = false := by simpa using e
    rw [ha] at e
    unfold M.spec_WarpNew at e
    split at e
    · cases e
    · rename_i hc
      cases hq : M.isQuiet p with
      | false => rfl
      | true =>
        rw [quiet_prog hq, Bool.true_and] at hc
        simpa using hc
  · have : M.isQuiet p = false := by rw [← show b = M.isQuiet p from hb]; simpa using e2
    rw [this]; rfl
  · have q1 : M.isQuiet p = true := by rw [← show b = M.isQuiet p from hb]; simpa using e2
    have e : a.2 = true := by simpa using e
    have ha' : M.isIn w 0 2 = true ∧ a.1 = M.newWarp p w := by
      rw [ha] at e ⊢
      unfold M.spec_WarpNew at e ⊢
      split at e
      · rename_i hc
        rw [if_pos hc]
        simp only [Bool.and_eq_true] at hc
        exact ⟨hc.2, rfl⟩
      · cases e
    rw [ha'.2]
    have hF := newWarp_fine (quiet_prog q1) ha'.1
    refine ⟨⟨hF, by omega, by omega⟩, fun r hr => ?_⟩
    have hr : r = M.runW p 8000 (M.newWarp p w) 0 := hr
    rw [empty_len]
    unfold M.spec_WarpResult M.warpResult
    rw [if_pos (by rw [q1, ha'.1]; rfl), ← hr]
    refine bcase_mk (fun e3 => ?_) fun e3 => ?_
    · rw [if_neg (by simpa using e3)]; rfl
    · rw [if_pos (by simpa using e3)]
theorem wp.impl_WarpResult.math (p : List D.Ins) (w : Int) (h : M.impl_WarpResult_pre p w) : wp.impl_WarpResult p w (fun r => r = M.impl_WarpResult p w) := by
  have no : (M.isQuiet p && M.isIn w 0 2) = false → (M.noWarp, (0 : Int), false) = M.impl_WarpResult p w := fun hf => by
    unfold M.impl_WarpResult M.warpResult
    rw [if_neg (by rw [hf]; simp)]
  refine ⟨h, fun a ha => bcase_mk (fun e => no ?_) fun e => fun b hb => bcase_mk (fun e2 => no ?_) fun e2 => ⟨trivial, fun y hy => ?_⟩⟩
  · have : M.isQuiet p = false := by rw [← show a = M.isQuiet p from ha]; simpa using e
    rw [this]; rfl
  · have : M.isIn w 0 2 = false := by rw [← show b = M.isIn w 0 2 from hb]; simpa using e2
    rw [this, Bool.and_false]
  · have q1 : M.isQuiet p = true := by rw [← show a = M.isQuiet p from ha]; simpa using e
    have q2 : M.isIn w 0 2 = true := by rw [← show b = M.isIn w 0 2 from hb]; simpa using e2
    have hy : y = M.newWarp p w := hy
    have hF := newWarp_fine (quiet_prog q1) q2
    have hfit := newWarp_fit p w
    rw [hy]
    refine ⟨⟨h, hfit⟩, fun r hr => ?_⟩
    have hr : r = M.runW p 8000 (M.newWarp p w) 0 := by
      rw [hr]
      show M.runWarp p _ 8000 = _
      unfold M.runWarp
      have hok : M.spec_WarpOk p (M.newWarp p w) = true := by
        unfold M.spec_WarpOk
        rw [hF.1, hF.2]; rfl
      rw [if_pos (by rw [q1, hok]; rfl)]; rfl
    rw [empty_len]
    unfold M.impl_WarpResult M.warpResult
    rw [if_pos (by rw [q1, q2]; rfl), ← hr]
    refine bcase_mk (fun e3 => ?_) fun e3 => ?_
    · rw [if_neg (by simpa using e3)]; rfl
    · rw [if_pos (by simpa using e3)]
end Go.V
set_option linter.unusedVariables false
set_option linter.unusedVariables false
set_option linter.unusedSimpArgs false
set_option maxRecDepth 20000
namespace Go.V
theorem fine_small {p : List D.Ins} {x : D.Warp} (h : M.Fine p x) : x.Frames.length ≤ 24 ∧ x.Regs.length = 32 := by
  have hw := h.2
  simp only [M.warpOf, M.areFrames, Bool.and_eq_true, Bool.or_eq_true, beq_iff_eq] at hw
  obtain ⟨h1, h2, h3, h4, h5⟩ := hw
  refine ⟨?_, h2⟩
  rcases h5 with h5 | h5
  · have : x.Frames = [] := by simpa using h5
    rw [this]; simp
  · simp only [M.endsOk, Bool.and_eq_true, decide_eq_true_eq] at h5
    exact h5.1
theorem runW_fine {p : List D.Ins} : ∀ (n : Nat) (x : D.Warp) (k : Int), M.Fine p x → M.Fine p (M.runW p n x k).1
  | 0, x, k, h => h
  | n + 1, x, k, h => by
    simp only [M.runW]
    split
    · rename_i hl
      exact runW_fine n _ _ (stepW_fine (goes_of h hl))
    · exact h
theorem sz_smallP {p : List D.Ins} {r : Int} (hr : r = M.laws_szInsS p 1048576) (e : decide (r < 0) = false) : p.length ≤ 1048576 ∧ r = 1048576 - p.length := by
  rw [hr] at e ⊢
  unfold M.laws_szInsS at e ⊢
  split at e
  · simp at e
  · rename_i hc
    rw [if_neg hc]; exact ⟨by omega, rfl⟩
theorem result_small (p : List D.Ins) (w : Int) : (M.warpResult p w).1.Frames.length ≤ 24 ∧ (M.warpResult p w).1.Regs.length ≤ 32 := by
  unfold M.warpResult
  split
  · rename_i hc
    simp only [Bool.and_eq_true] at hc
    have := fine_small (runW_fine (p := p) 8000 (M.newWarp p w) 0 (newWarp_fine (quiet_prog hc.1) hc.2))
    split
    · exact ⟨this.1, by rw [this.2]; exact Nat.le_refl _⟩
    · simp [M.noWarp]
  · simp [M.noWarp]
end Go.V
set_option linter.unusedVariables false
namespace Go.V
def wp.spec_LanesAgree (xs0 : List D.Ins) (x1 : Int) (Q : Bool → Prop) : Prop :=
  (M.spec_WarpResult_pre xs0 x1 ∧ ∀ r21, r21 = M.spec_WarpResult xs0 x1 → bcase (!r21.2.2) (Q false) ((M.spec_EndRegs_pre xs0 (IntKind.wrap .i64 (x1 * 8)) 8 ∧ ∀ r34, r34 = M.spec_EndRegs xs0 (IntKind.wrap .i64 (x1 * 8)) 8 → bcase (!r34.2) (Q false) (LoopP (σ := Int × Unit) (fun (p63 : Int × Unit) next45 => match p63 with | (i41, _) => bcase (decide (i41 < ((r34.1.length : Nat) : Int))) (((0 ≤ i41 ∧ i41 < ((r34.1.length : Nat) : Int)) ∧ ((0 ≤ i41 ∧ i41 < ((r21.1.Regs.length : Nat) : Int)) ∧ bcase ((rd r34.1 i41) != (rd r21.1.Regs i41)) (Q false) (next45 ((IntKind.wrap .i64 (i41 + 1)), ()))))) (Q true)) (0, ())))))
def wp.impl_LanesAgree (xs0 : List D.Ins) (x1 : Int) (Q : Bool → Prop) : Prop :=
  (M.impl_WarpResult_pre xs0 x1 ∧ ∀ r21, r21 = M.impl_WarpResult xs0 x1 → (M.impl_EndRegs_pre xs0 (IntKind.wrap .i64 (r21.1.Number * 8)) 8 ∧ ∀ r34, r34 = M.impl_EndRegs xs0 (IntKind.wrap .i64 (r21.1.Number * 8)) 8 → bcase r21.2.2 (bcase r34.2 ((M.slices_Equal_int_int_pre r21.1.Regs r34.1 ∧ ∀ r41, r41 = M.slices_Equal_int_int r21.1.Regs r34.1 → Q r41)) (Q false)) (Q false)))
def wp.laws_FnExactLanesAgree (xs0 : List D.Ins) (x1 : Int) (Q : Bool → Prop) : Prop :=
  (M.laws_szInsS_pre xs0 1048576 ∧ ∀ r21, r21 = M.laws_szInsS xs0 1048576 → bcase (decide (r21 < 0)) (Q true) ((M.laws_toInsS_pre xs0 ∧ ∀ r26, r26 = M.laws_toInsS xs0 → (M.spec_LanesAgree_pre r26 x1 ∧ ∀ r33, r33 = M.spec_LanesAgree r26 x1 → (M.laws_toInsS_pre xs0 ∧ ∀ r38, r38 = M.laws_toInsS xs0 → (M.impl_LanesAgree_pre r38 x1 ∧ ∀ r45, r45 = M.impl_LanesAgree r38 x1 → bcase (!(r45 == r33)) (Q false) ((M.laws_toInsS_pre xs0 ∧ ∀ r50, r50 = M.laws_toInsS xs0 → (M.laws_eqInsS_pre r38 r50 ∧ ∀ r57, r57 = M.laws_eqInsS r38 r50 → bcase (!r57) (Q false) (Q true))))))))))
end Go.V
set_option linter.unusedVariables false
set_option linter.unusedSimpArgs false
set_option maxRecDepth 20000
namespace Go.V
theorem wAt_shift (p : List D.Ins) (x : D.Warp) : ∀ k, M.wAt p (M.stepW p x) k = M.wAt p x (k + 1)
  | 0 => rfl
  | k + 1 => by
    show M.stepW p (M.wAt p (M.stepW p x) k) = M.stepW p (M.wAt p x (k + 1))
    rw [wAt_shift p x k]
theorem runW_trace {p : List D.Ins} : ∀ (n : Nat) (x : D.Warp) (c : Int), ∃ m : Nat, m ≤ n ∧ M.runW p n x c = (M.wAt p x m, c + (m : Int)) ∧ ∀ j, j < m → M.spec_l13Local p (M.wAt p x j) = true
  | 0, x, c => ⟨0, Nat.le_refl _, by simp [M.runW, M.wAt], fun j hj => by omega⟩
  | n + 1, x, c => by
    simp only [M.runW]
    by_cases h : M.spec_l13Local p x = true
    · rw [if_pos h]
      obtain ⟨m, h1, h2, h3⟩ := runW_trace n (M.stepW p x) (c + 1)
      refine ⟨m + 1, by omega, ?_, fun j hj => ?_⟩
      · rw [h2, wAt_shift]
        refine Prod.ext rfl ?_
        show c + 1 + (m : Int) = c + ((m + 1 : Nat) : Int)
        omega
      · cases j with
        | zero => exact h
        | succ j => rw [← wAt_shift]; exact h3 j (by omega)
    · rw [if_neg h]
      exact ⟨0, by omega, by simp [M.wAt], fun j hj => by omega⟩
theorem wAt_number (p : List D.Ins) (x : D.Warp) : ∀ k, (M.wAt p x k).Number = x.Number
  | 0 => rfl
  | k + 1 => by
    show (M.stepW p (M.wAt p x k)).Number = _
    rw [← wAt_number p x k]
    unfold M.stepW M.dropW
    split <;> rfl
theorem result_trace {p : List D.Ins} {w : Int} (h : (M.warpResult p w).2.2 = true) :
    M.isQuiet p = true ∧ M.isIn w 0 2 = true ∧ ∃ m : Nat, m ≤ 8000 ∧ (M.warpResult p w).1 = M.wAt p (M.newWarp p w) m ∧ (M.warpResult p w).2.1 = (m : Int) ∧ (∀ j, j < m → M.spec_l13Local p (M.wAt p (M.newWarp p w) j) = true) ∧ (M.wAt p (M.newWarp p w) m).Frames = [] := by
  obtain ⟨m, h1, h2, h3⟩ := runW_trace (p := p) 8000 (M.newWarp p w) 0
  unfold M.warpResult at h ⊢
  rw [h2] at h ⊢
  split at h
  · rename_i hc
    rw [if_pos hc]
    simp only [Bool.and_eq_true] at hc
    split at h
    · rename_i he
      rw [if_pos he]
      exact ⟨hc.1, hc.2, m, h1, rfl, by show (0 : Int) + (m : Int) = m; omega, h3, by simpa using he⟩
    · cases h
  · cases h
theorem trace_fine {p : List D.Ins} {w : Int} (hq : M.isQuiet p = true) (hw : M.isIn w 0 2 = true) {m : Nat} (h : ∀ j, j < m → M.spec_l13Local p (M.wAt p (M.newWarp p w) j) = true) {k : Nat} (hk : k ≤ m) : M.Fine p (M.wAt p (M.newWarp p w) k) :=
  wAt_fine (newWarp_fine (quiet_prog hq) hw) k fun j hj => h j (by omega)
theorem wp.spec_LanesAgree.math (p : List D.Ins) (w : Int) (h : M.spec_LanesAgree_pre p w) : wp.spec_LanesAgree p w (fun r => r = M.spec_LanesAgree p w) := by
  unfold wp.spec_LanesAgree
  refine ⟨h, fun r hr => bcase_mk (fun e => ?_) fun e => ?_⟩
  all_goals
    have hr : r = M.warpResult p w := hr
    subst hr
  · have e : (M.warpResult p w).2.2 = false := by simpa using e
    unfold M.spec_LanesAgree M.lanesAgree
    rw [e, Bool.false_and]
  · have e : (M.warpResult p w).2.2 = true := by simpa using e
    obtain ⟨hq, hw, m, hm, hy, hn, hl, -⟩ := result_trace e
    have hF := trace_fine hq hw hl (Nat.le_refl m)
    have hreg : (M.warpResult p w).1.Regs.length = 32 := by rw [hy]; exact (fine_small hF).2
    have hw' := hw
    simp only [M.isIn, Bool.and_eq_true, decide_eq_true_eq] at hw'
    have hM : M.spec_LanesAgree p w = ((M.endRegs p (w * 8) 8).2 && (M.warpResult p w).1.Regs == (M.endRegs p (w * 8) 8).1) := by
      unfold M.spec_LanesAgree M.lanesAgree
      rw [e, Bool.true_and]
    rw [hM, w64 (x := w * 8) (by omega) (by omega)]
    refine ⟨h, fun s hs => bcase_mk (fun e2 => ?_) fun e2 => ?_⟩
    all_goals
      have hs : s = M.endRegs p (w * 8) 8 := hs
      subst hs
    · have e2 : (M.endRegs p (w * 8) 8).2 = false := by simpa using e2
      rw [e2, Bool.false_and]
    · have e2 : (M.endRegs p (w * 8) 8).2 = true := by simpa using e2
      have h4 := endRegs_four e2
      rw [e2, Bool.true_and]
      generalize (M.warpResult p w).1.Regs = a at *
      generalize (M.endRegs p (w * 8) 8).1 = b at *
      refine loop_n 32 (fun k => ((k : Int), ())) (fun k => ∀ j : Nat, j < k → rd a (j : Int) = rd b (j : Int)) rfl (fun j hj => by omega) (fun k hk hF next hnx => ?_) fun hF next => ?_
      · dsimp only
        rw [h4, hreg]
        refine bcase_t (by simp; omega) ⟨by omega, by omega, bcase_mk (fun c => ?_) fun c => ?_⟩
        · have c : ¬ rd b (k : Int) = rd a (k : Int) := by simpa using c
          refine (beq_eq_false_iff_ne.2 fun hab => c ?_).symm
          rw [hab]
        · have c : rd b (k : Int) = rd a (k : Int) := by simpa using c
          rw [up64 (n := 32) hk (by omega)]
          refine hnx fun j hj => ?_
          by_cases hjk : j = k
          · subst hjk; exact c.symm
          · exact hF j (by omega)
      · dsimp only
        rw [h4]
        refine bcase_f (by simp) ?_
        have : a = b := eq_of_takes (by omega) fun k hk => hF k (by omega)
        rw [this]; simp
theorem wp.impl_LanesAgree.math (p : List D.Ins) (w : Int) (h : M.impl_LanesAgree_pre p w) : wp.impl_LanesAgree p w (fun r => r = M.impl_LanesAgree p w) := by
  unfold wp.impl_LanesAgree
  refine ⟨h, fun r hr => ⟨h, fun s hs => ?_⟩⟩
  have hr : r = M.warpResult p w := hr
  subst hr
  obtain ⟨n1, n2⟩ := result_small p w
  refine bcase_mk (fun e => ?_) fun e => ?_
  · have e : (M.warpResult p w).2.2 = true := e
    obtain ⟨hq, hw, m, hm, hy, hn, hl, -⟩ := result_trace e
    simp only [M.isIn, Bool.and_eq_true, decide_eq_true_eq] at hw
    have hnum : (M.warpResult p w).1.Number = w := by rw [hy, wAt_number]; rfl
    have hs : s = M.endRegs p (w * 8) 8 := by
      rw [hs, hnum, w64 (x := w * 8) (by omega) (by omega)]; rfl
    subst hs
    unfold M.impl_LanesAgree M.lanesAgree
    rw [e, Bool.true_and]
    refine bcase_mk (fun e2 => ⟨by show (M.warpResult p w).1.Regs.length ≤ 9223372036854775807; omega, fun t ht => ?_⟩) fun e2 => ?_
    · rw [e2, Bool.true_and, ht]; rfl
    · rw [e2, Bool.false_and]
  · unfold M.impl_LanesAgree M.lanesAgree
    rw [e, Bool.false_and]
theorem wp.laws_FnExactLanesAgree.math (p : List D.Ins) (w : Int) (h : M.laws_FnExactLanesAgree_pre p w) : wp.laws_FnExactLanesAgree p w (fun r => r = M.laws_FnExactLanesAgree p w) := by
  have h1 : M.Long p := h
  refine ⟨⟨by omega, by omega, h⟩, fun r hr => bcase_mk (fun _ => rfl) fun e => ?_⟩
  obtain ⟨hl, hr'⟩ := sz_smallP hr e
  have hs : M.laws_toInsS_pre p := by unfold M.laws_toInsS_pre; omega
  simp only [M.laws_toInsS, forall_eq, M.spec_LanesAgree, M.impl_LanesAgree, M.laws_eqInsS, beq_self_eq_true, bne_self_eq_false, Bool.not_true, bcase]
  exact ⟨hs, h, hs, h, hs, h1, rfl⟩
end Go.V
