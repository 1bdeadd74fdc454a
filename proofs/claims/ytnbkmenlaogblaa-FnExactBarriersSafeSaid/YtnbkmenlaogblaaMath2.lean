import Derived.Test.YtnbkmenlaogblaaWp2
set_option linter.unusedVariables false
set_option linter.unusedSimpArgs false
namespace Go.V
theorem wp.laws_markIntS.math (a : List Int) (x : Int) (h : M.laws_markIntS_pre a x) : wp.laws_markIntS a x (fun r => r = M.laws_markIntS a x) := by
  unfold wp.laws_markIntS
  obtain ⟨⟨h1, h2⟩, h3⟩ := h
  unfold M.Few at h3
  refine loop_n a.length (fun k => (x + k, (k : Int), mk (fun i => x + (i : Int)) a k, ())) (fun _ => True) (by simp [mk_zero]) trivial (fun k hk hF next hn => ?_) fun hF next => ?_
  · refine bcase_t (by simp; omega) ⟨⟨by omega, by simp only [mk_len _ a (Nat.le_of_lt hk)]; omega⟩, ?_⟩
    have e1 : IntKind.wrap .i64 (x + (k : Int) + 1) = x + ((k + 1 : Nat) : Int) := by rw [w64 (by omega) (by omega)]; push_cast; omega
    have e2 := mk_set (fun i : Nat => x + (i : Int)) a hk
    simp only [Int.toNat_natCast]
    rw [up64 hk (by omega), e1, e2]
    exact hn trivial
  · exact bcase_f (by simp) (by rw [mk_all]; rfl)
theorem wp.laws_heldIntS.math (a : List Int) (x : Int) (h : M.laws_heldIntS_pre a x) : wp.laws_heldIntS a x (fun r => r = M.laws_heldIntS a x) := by
  unfold wp.laws_heldIntS
  obtain ⟨⟨h1, h2⟩, h3⟩ := h
  unfold M.Few at h3
  refine loop_n a.length (fun k => (x + k, (k : Int), ())) (fun k => ∀ j : Nat, j < k → rd a j = x + (j : Int)) (by simp) (by simp) (fun k hk hF next hn => ?_) fun hF next => ?_
  · refine bcase_t (by simp; omega) ⟨⟨by omega, by omega⟩, bcase_mk (fun e => ?_) fun e => ?_⟩
    · exact (if_neg (ne_seq (fun i : Nat => x + (i : Int)) hk (by simpa using e))).symm
    · have e1 : IntKind.wrap .i64 (x + (k : Int) + 1) = x + ((k + 1 : Nat) : Int) := by rw [w64 (by omega) (by omega)]; push_cast; omega
      rw [up64 hk (by omega), e1]
      refine hn fun j hj => ?_
      by_cases hjk : j = k
      · subst hjk; simpa using e
      · exact hF j (by omega)
  · exact bcase_f (by simp) (if_pos (eq_seq (fun i : Nat => x + (i : Int)) hF)).symm
theorem wp.laws_markAccessS.math (a : List D.Access) (x : Int) (h : M.laws_markAccessS_pre a x) : wp.laws_markAccessS a x (fun r => r = M.laws_markAccessS a x) := by
  unfold wp.laws_markAccessS
  obtain ⟨⟨h1, h2⟩, h3⟩ := h
  unfold M.Few at h3
  let g : Nat → D.Access := fun i => ⟨x + 4 * (i : Int), x + 4 * (i : Int) + 1, x + 4 * (i : Int) + 2, x + 4 * (i : Int) + 3⟩
  refine loop_n a.length (fun k => (x + 4 * k, (k : Int), mk g a k, ())) (fun _ => True) (by simp [mk_zero]) trivial (fun k hk hF next hn => ?_) fun hF next => ?_
  · have hl := mk_len g a (Nat.le_of_lt hk)
    have e1 : IntKind.wrap .i64 (x + 4 * (k : Int) + 1) = x + 4 * (k : Int) + 1 := w64 (by omega) (by omega)
    have e2 : IntKind.wrap .i64 (x + 4 * (k : Int) + 1 + 1) = x + 4 * (k : Int) + 2 := by rw [w64 (by omega) (by omega)]; omega
    have e3 : IntKind.wrap .i64 (x + 4 * (k : Int) + 2 + 1) = x + 4 * (k : Int) + 3 := by rw [w64 (by omega) (by omega)]; omega
    have e4 : IntKind.wrap .i64 (x + 4 * (k : Int) + 3 + 1) = x + 4 * ((k + 1 : Nat) : Int) := by rw [w64 (by omega) (by omega)]; push_cast; omega
    have hs := mk_set g a hk
    refine bcase_t (by simp; omega) ?_
    simp only [e1, e2, e3, e4, List.length_set, hl, Int.toNat_natCast, up64 hk (show a.length ≤ 9223372036854775807 by omega)]
    refine ⟨by omega, by omega, by omega, by omega, ?_⟩
    rw [show (⟨x + 4 * (k : Int), x + 4 * (k : Int) + 1, x + 4 * (k : Int) + 2, x + 4 * (k : Int) + 3⟩ : D.Access) = g k from rfl, hs]
    exact hn trivial
  · exact bcase_f (by simp) (by rw [mk_all]; rfl)
theorem wp.laws_heldAccessS.math (a : List D.Access) (x : Int) (h : M.laws_heldAccessS_pre a x) : wp.laws_heldAccessS a x (fun r => r = M.laws_heldAccessS a x) := by
  unfold wp.laws_heldAccessS
  obtain ⟨⟨h1, h2⟩, h3⟩ := h
  unfold M.Few at h3
  let g : Nat → D.Access := fun i => ⟨x + 4 * (i : Int), x + 4 * (i : Int) + 1, x + 4 * (i : Int) + 2, x + 4 * (i : Int) + 3⟩
  refine loop_n a.length (fun k => (x + 4 * k, (k : Int), ())) (fun k => ∀ j : Nat, j < k → rd a j = g j) (by simp) (by simp) (fun k hk hF next hn => ?_) fun hF next => ?_
  · have e1 : IntKind.wrap .i64 (x + 4 * (k : Int) + 1) = x + 4 * (k : Int) + 1 := w64 (by omega) (by omega)
    have e2 : IntKind.wrap .i64 (x + 4 * (k : Int) + 1 + 1) = x + 4 * (k : Int) + 2 := by rw [w64 (by omega) (by omega)]; omega
    have e3 : IntKind.wrap .i64 (x + 4 * (k : Int) + 2 + 1) = x + 4 * (k : Int) + 3 := by rw [w64 (by omega) (by omega)]; omega
    have e4 : IntKind.wrap .i64 (x + 4 * (k : Int) + 3 + 1) = x + 4 * ((k + 1 : Nat) : Int) := by rw [w64 (by omega) (by omega)]; push_cast; omega
    have bad : ∀ (P : Prop), (rd a k = g k → P) → ¬ P → -1 = M.laws_heldAccessS a x := fun P hp hn => (if_neg (ne_seq g hk (fun e => hn (hp e)))).symm
    refine bcase_t (by simp; omega) ?_
    simp only [e1, e2, e3, e4, up64 hk (show a.length ≤ 9223372036854775807 by omega)]
    refine ⟨by omega, bcase_mk (fun f1 => ?_) fun f1 => ⟨by omega, bcase_mk (fun f2 => ?_) fun f2 => ⟨by omega, bcase_mk (fun f3 => ?_) fun f3 => ⟨by omega, bcase_mk (fun f4 => ?_) fun f4 => ?_⟩⟩⟩⟩
    · exact bad ((rd a k).Phase = x + 4 * (k : Int)) (fun e => by rw [e]) (by simpa using f1)
    · exact bad ((rd a k).Warp = x + 4 * (k : Int) + 1) (fun e => by rw [e]) (by simpa using f2)
    · exact bad ((rd a k).Address = x + 4 * (k : Int) + 2) (fun e => by rw [e]) (by simpa using f3)
    · exact bad ((rd a k).Kind = x + 4 * (k : Int) + 3) (fun e => by rw [e]) (by simpa using f4)
    · refine hn fun j hj => ?_
      by_cases hjk : j = k
      · subst hjk
        simp only [bne_eq_false_iff_eq] at f1 f2 f3 f4
        show rd a (j : Int) = (⟨x + 4 * (j : Int), x + 4 * (j : Int) + 1, x + 4 * (j : Int) + 2, x + 4 * (j : Int) + 3⟩ : D.Access)
        rw [← f4, ← f3, ← f2, ← f1]
      · exact hF j (by omega)
  · exact bcase_f (by simp) (if_pos (eq_seq g hF)).symm
theorem wp.laws_eqAccess.math (a b : D.Access) : wp.laws_eqAccess a b (fun r => r = M.laws_eqAccess a b) := by
  obtain ⟨a1, a2, a3, a4⟩ := a
  obtain ⟨b1, b2, b3, b4⟩ := b
  simp only [wp.laws_eqAccess, M.laws_eqAccess]
  refine bcase_mk (fun e => ?_) fun e1 => bcase_mk (fun e => ?_) fun e2 => bcase_mk (fun e => ?_) fun e3 => bcase_mk (fun e => ?_) fun e4 => ?_ <;> simp_all
theorem wp.laws_eqAccessS.math (a b : List D.Access) (h : M.laws_eqAccessS_pre a b) : wp.laws_eqAccessS a b (fun r => r = M.laws_eqAccessS a b) := by
  unfold wp.laws_eqAccessS
  have hb : a.length ≤ 9223372036854775807 := by unfold M.laws_eqAccessS_pre at h; omega
  refine bcase_mk (fun e => ?_) fun e => ?_
  · simp [M.laws_eqAccessS]; rintro rfl; simp at e
  have hl : a.length = b.length := by simp at e; omega
  refine loop_n a.length (fun k => ((k : Int), ())) (fun k => ∀ j : Nat, j < k → rd a j = rd b j) rfl (by simp) (fun k hk hF next hn => ?_) fun hF next => ?_
  · refine bcase_t (by simp; omega) ⟨by omega, by omega, fun r hr => bcase_mk (fun e => ?_) fun e => ?_⟩
    · subst hr; simp [M.laws_eqAccessS]; rintro rfl; simp [M.laws_eqAccess] at e
    · subst hr
      rw [up64 hk hb]
      refine hn fun j hj => ?_
      by_cases hjk : j = k
      · subst hjk; simpa [M.laws_eqAccess] using e
      · exact hF j (by omega)
  · refine bcase_f (by simp) ?_
    have := eq_of_takes hl hF
    simp [M.laws_eqAccessS, this]
end Go.V
