import Derived.Test.YtnbkmenlaogblaaWp1
set_option linter.unusedVariables false
set_option linter.unusedSimpArgs false
namespace Go.V

theorem wp.impl_within.math (x a b : Int) : wp.impl_within x a b (fun r => r = M.impl_within x a b) := by
  simp only [wp.impl_within, bcase_iff, M.impl_within, M.isIn]
  exact ⟨fun h => by simp at h; simp [h], fun h => by simp at h; simp; omega⟩
theorem wp.spec_l01In.math (x a b : Int) : wp.spec_l01In x a b (fun r => r = M.spec_l01In x a b) := wp.impl_within.math x a b
theorem wp.impl_IsWord.math (x : Int) : wp.impl_IsWord x (fun r => r = M.impl_IsWord x) := fun r h => h
theorem wp.spec_IsWord.math (x : Int) : wp.spec_IsWord x (fun r => r = M.spec_IsWord x) := fun r h => h
theorem wp.impl_IsMask.math (x : Int) : wp.impl_IsMask x (fun r => r = M.impl_IsMask x) := fun r h => h
theorem wp.impl_isLane.math (x : Int) : wp.impl_isLane x (fun r => r = M.impl_isLane x) := fun r h => h
theorem wp.impl_HasLane.math (m l : Int) : wp.impl_HasLane m l (fun r => r = M.impl_HasLane m l) := by
  intro r1 h1
  refine bcase_mk (fun e1 r2 h2 => bcase_mk (fun e2 => ?_) fun e2 => ?_) fun e1 => ?_
  · have : M.isLane l = true := by rw [← e2, h2]; rfl
    have h0 : 0 ≤ l := by simp [M.isLane, M.isIn] at this; omega
    refine ⟨h0, ?_⟩
    have e1' : M.isMask m = true := by rw [← e1, h1]; rfl
    simp [M.impl_HasLane, M.hasLane, e1', this]
  · have : M.isLane l = false := by rw [← e2, h2]; rfl
    simp [M.impl_HasLane, M.hasLane, this]
  · have : M.isMask m = false := by rw [← e1, h1]; rfl
    simp [M.impl_HasLane, M.hasLane, this]
theorem wp.impl_LanesOf.math (m : Int) : wp.impl_LanesOf m (fun r => r = M.impl_LanesOf m) := by
  unfold wp.impl_LanesOf
  refine ⟨fun k p => (k : Int) = 8 - p.2.1 ∧ 0 ≤ p.2.1 ∧ p.2.1 ≤ 8 ∧ p.1 = ([0, 1, 2, 3, 4, 5, 6, 7].take p.2.1.toNat).filter (M.hasLane m), ⟨8, by simp⟩, ?_⟩
  rintro k ⟨xs, i, _⟩ ⟨hk, h0, h8, hx⟩
  simp only at hk h0 h8 hx ⊢
  refine bcase_mk (fun e => ?_) fun e => ?_
  · have hlt : i < 8 := by simpa using e
    intro r hr
    have hs : (([0, 1, 2, 3, 4, 5, 6, 7] : List Int).take (i + 1).toNat) = ([0, 1, 2, 3, 4, 5, 6, 7] : List Int).take i.toNat ++ [i] := by
      have : i = 0 ∨ i = 1 ∨ i = 2 ∨ i = 3 ∨ i = 4 ∨ i = 5 ∨ i = 6 ∨ i = 7 := by omega
      rcases this with rfl | rfl | rfl | rfl | rfl | rfl | rfl | rfl <;> rfl
    have hw : IntKind.wrap .i64 (i + 1) = i + 1 := w64 (by omega) (by omega)
    refine bcase_mk (fun e2 => ⟨?_, (k - 1), by omega, ?_⟩) fun e2 => ⟨k - 1, by omega, ?_⟩
    · rw [hx]
      have := List.length_filter_le (M.hasLane m) (([0, 1, 2, 3, 4, 5, 6, 7] : List Int).take i.toNat)
      simp at this ⊢; omega
    · simp only [hw, hs, List.filter_append]
      refine ⟨by omega, by omega, by omega, ?_⟩
      rw [hx, List.filter_cons, if_pos (by rw [← e2, hr]; rfl)]; rfl
    · simp only [hw, hs, List.filter_append]
      refine ⟨by omega, by omega, by omega, ?_⟩
      rw [hx, List.filter_cons, if_neg (by rw [show M.hasLane m i = r from hr.symm, e2]; simp)]; simp
  · have : i = 8 := by simp at e; omega
    subst this
    rw [hx]; rfl
theorem wp.spec_AreWords.math (l : List Int) (h : M.spec_AreWords_pre l) : wp.spec_AreWords l (fun r => r = M.spec_AreWords l) := by
  unfold wp.spec_AreWords
  have hb : l.length ≤ 9223372036854775807 := by unfold M.spec_AreWords_pre at h; omega
  refine loop_n l.length (fun k => ((k : Int), ())) (fun k => (l.take k).all M.isWord = true) rfl (by simp) (fun k hk hF next hn => ?_) fun hF next => ?_
  · refine bcase_t (by simp; omega) ⟨by omega, fun r hr => ?_⟩
    rw [rd_nat hk] at hr
    refine bcase_mk (fun e => ?_) fun e => ?_
    · have e' : M.isWord l[k] = false := by rw [hr] at e; simpa [M.spec_IsWord] using e
      exact (all_at hk e').symm
    · have e' : M.isWord l[k] = true := by rw [hr] at e; simpa [M.spec_IsWord] using e
      rw [up64 hk hb]
      exact hn (take_all_succ hk hF e')
  · refine bcase_f (by simp) ?_
    rw [List.take_length] at hF
    exact hF.symm
theorem wp.laws_eqIntS.math (a b : List Int) (h : M.laws_eqIntS_pre a b) : wp.laws_eqIntS a b (fun r => r = M.laws_eqIntS a b) := by
  unfold wp.laws_eqIntS
  have hb : a.length ≤ 9223372036854775807 := by unfold M.laws_eqIntS_pre at h; omega
  refine bcase_mk (fun e => ?_) fun e => ?_
  · simp [M.laws_eqIntS]; rintro rfl; simp at e
  have hl : a.length = b.length := by simp at e; omega
  refine loop_n a.length (fun k => ((k : Int), ())) (fun k => ∀ j : Nat, j < k → rd a j = rd b j) rfl (by simp) (fun k hk hF next hn => ?_) fun hF next => ?_
  · refine bcase_t (by simp; omega) ⟨by omega, by omega, bcase_mk (fun e => ?_) fun e => ?_⟩
    · simp [M.laws_eqIntS]; rintro rfl; simp at e
    · rw [up64 hk hb]
      refine hn fun j hj => ?_
      by_cases hjk : j = k
      · subst hjk; simpa using e
      · exact hF j (by omega)
  · refine bcase_f (by simp) ?_
    have := eq_of_takes hl hF
    simp [M.laws_eqIntS, this]
theorem wp.laws_toIntS.math (a : List Int) (h : M.laws_toIntS_pre a) : wp.laws_toIntS a (fun r => r = M.laws_toIntS a) := by
  unfold wp.laws_toIntS
  unfold M.laws_toIntS_pre at h
  refine ⟨by omega, ?_⟩
  refine loop_n a.length (fun k => ((k : Int), cp id a k, ())) (fun _ => True) (by simp [cp_zero]) trivial (fun k hk hF next hn => ?_) fun hF next => ?_
  · refine bcase_t (by simp; omega) ⟨by omega, ⟨by omega, by simp only [cp_len id a (Nat.le_of_lt hk)]; omega⟩, ?_⟩
    rw [up64 hk (by omega), rd_nat hk]
    have := cp_set id a hk
    simp only [id] at this
    simp only [Int.toNat_natCast]
    rw [this]
    exact hn trivial
  · exact bcase_f (by simp) (by rw [cp_all]; simp [M.laws_toIntS])
theorem wp.laws_toAccess.math (a : D.Access) : wp.laws_toAccess a (fun r => r = M.laws_toAccess a) := rfl
theorem wp.impl_IsRace.math (a b : D.Access) : wp.impl_IsRace a b (fun r => r = M.impl_IsRace a b) := by
  simp only [wp.impl_IsRace, JoinP, M.impl_IsRace, M.isRace]
  rcases e1 : a.Kind == b.Kind <;> rcases e2 : a.Kind == 13 <;> rcases e3 : a.Phase == b.Phase <;> rcases e4 : a.Address == b.Address <;> rcases e5 : a.Warp != b.Warp <;> simp [bcase]
theorem wp.spec_IsRace.math (a b : D.Access) : wp.spec_IsRace a b (fun r => r = M.spec_IsRace a b) := by
  simp only [wp.spec_IsRace, M.spec_IsRace, M.isRace, bne]
  rcases e1 : a.Kind == b.Kind <;> rcases e2 : a.Kind == 13 <;> rcases e3 : a.Phase == b.Phase <;> rcases e4 : a.Address == b.Address <;> rcases e5 : a.Warp == b.Warp <;> simp [bcase]
theorem wp.laws_szAccessS.math (a : List D.Access) (x : Int) (h : M.laws_szAccessS_pre a x) : wp.laws_szAccessS a x (fun r => r = M.laws_szAccessS a x) := by
  unfold wp.laws_szAccessS M.laws_szAccessS
  obtain ⟨h1, h2, h3⟩ := h
  rw [w64 (by omega) (by omega)]
  refine bcase_mk (fun e => ?_) fun e => ?_
  · rw [if_pos (by simpa using e)]
  · rw [if_neg (by simpa using e)]
theorem wp.laws_toAccessS.math (a : List D.Access) (h : M.laws_toAccessS_pre a) : wp.laws_toAccessS a (fun r => r = M.laws_toAccessS a) := by
  unfold wp.laws_toAccessS
  unfold M.laws_toAccessS_pre at h
  refine ⟨by omega, ?_⟩
  refine loop_n a.length (fun k => ((k : Int), cp id a k, ())) (fun _ => True) (by simp [cp_zero]) trivial (fun k hk hF next hn => ?_) fun hF next => ?_
  · refine bcase_t (by simp; omega) ⟨by omega, fun r hr => ⟨⟨by omega, by simp only [cp_len id a (Nat.le_of_lt hk)]; omega⟩, ?_⟩⟩
    rw [rd_nat hk] at hr
    subst hr
    rw [up64 hk (by omega)]
    have := cp_set id a hk
    simp only [id] at this
    simp only [Int.toNat_natCast]
    rw [show (⟨(M.laws_toAccess a[k]).Phase, (M.laws_toAccess a[k]).Warp, (M.laws_toAccess a[k]).Address, (M.laws_toAccess a[k]).Kind⟩ : D.Access) = a[k] from rfl, this]
    exact hn trivial
  · exact bcase_f (by simp) (by rw [cp_all]; simp [M.laws_toAccessS])
theorem wp.laws_FnExactIsRace.math (a b : D.Access) : wp.laws_FnExactIsRace a b (fun r => r = M.laws_FnExactIsRace a b) := by
  intro r1 h1 r2 h2 r3 h3 r4 h4 r5 h5 r6 h6
  subst h1 h2 h3 h4 h5 h6
  exact bcase_f (by simp [M.impl_IsRace, M.spec_IsRace, M.laws_toAccess]) rfl
end Go.V
