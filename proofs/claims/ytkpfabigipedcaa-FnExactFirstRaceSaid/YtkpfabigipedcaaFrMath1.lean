import Derived.Test.YtkpfabigipedcaaVBase
import Derived.Test.YtkpfabigipedcaaVWords
import Derived.Test.YtkpfabigipedcaaVOwn
import Derived.Test.YtkpfabigipedcaaVLoop
import Derived.Test.YtkpfabigipedcaaVDeep
import Derived.Test.YtkpfabigipedcaaVEq
import Derived.Test.YtkpfabigipedcaaVCut
import Derived.Test.YtkpfabigipedcaaVPlc
import Derived.Test.YtkpfabigipedcaaVMapD
import Derived.Test.YtkpfabigipedcaaVMap
import Derived.Test.YtkpfabigipedcaaVMap2
import Derived.Test.YtkpfabigipedcaaVFoc
import Derived.Test.YtkpfabigipedcaaPure2
set_option linter.unusedVariables false
namespace Go.V.M
def firstRaceFrom (l : List D.Access) : Nat → Nat → Int × Int × Bool
  | 0, _ => (0, 0, false)
  | n + 1, k => match (List.range k).find? (fun i : Nat => isRace (rd l (i : Int)) (rd l (k : Int))) with
    | some i => ((i : Int), (k : Int), true)
    | none => firstRaceFrom l n (k + 1)
def firstRace (l : List D.Access) : Int × Int × Bool := firstRaceFrom l l.length 0
def spec_FirstRace := firstRace
def spec_FirstRace_pre (l : List D.Access) : Prop := Long l
def impl_FirstRace := firstRace
def impl_FirstRace_pre (l : List D.Access) : Prop := l.length ≤ 1048576
def laws_FnExactFirstRace (l : List D.Access) : Bool := true
def laws_FnExactFirstRace_pre (l : List D.Access) : Prop := Long l
end Go.V.M
set_option linter.unusedVariables false
namespace Go.V
def wp.laws_toAccess (s0 : D.Access) (Q : D.Access → Prop) : Prop :=
  Q (⟨s0.Phase, s0.Warp, s0.Address, s0.Kind⟩ : D.Access)
def wp.impl_IsRace (s0 : D.Access) (s1 : D.Access) (Q : Bool → Prop) : Prop :=
  JoinP (σ := Bool × Unit) (fun J26 => bcase (s0.Kind == s1.Kind) (bcase (s0.Kind == 13) (J26 (true, ())) (J26 ((s0.Kind == 15), ()))) (J26 (false, ()))) (fun (p34 : Bool × Unit) => match p34 with | (b25, _) => bcase (s0.Phase == s1.Phase) (bcase (s0.Address == s1.Address) (bcase (s0.Warp != s1.Warp) (Q (!b25)) (Q false)) (Q false)) (Q false))
def wp.spec_IsRace (s0 : D.Access) (s1 : D.Access) (Q : Bool → Prop) : Prop :=
  bcase (s0.Phase != s1.Phase) (Q false) (bcase (s0.Address != s1.Address) (Q false) (bcase (s0.Warp == s1.Warp) (Q false) (bcase (s0.Kind != s1.Kind) (Q true) (bcase (s0.Kind != 13) (Q (s0.Kind != 15)) (Q false)))))
def wp.laws_szAccessS (xs0 : List D.Access) (x1 : Int) (Q : Int → Prop) : Prop :=
  bcase (decide ((IntKind.wrap .i64 (x1 - ((xs0.length : Nat) : Int))) < 0)) (Q (-1)) (Q (IntKind.wrap .i64 (x1 - ((xs0.length : Nat) : Int))))
def wp.laws_toAccessS (xs0 : List D.Access) (Q : (List D.Access) → Prop) : Prop :=
  ((0 ≤ ((xs0.length : Nat) : Int) ∧ ((xs0.length : Nat) : Int) ≤ 17179869184) ∧ LoopP (σ := Int × (List D.Access) × Unit) (fun (p80 : Int × (List D.Access) × Unit) next56 => match p80 with | (i50, xs51, _) => bcase (decide (i50 < ((xs0.length : Nat) : Int))) (((0 ≤ i50 ∧ i50 < ((xs0.length : Nat) : Int)) ∧ (∀ r63, r63 = M.laws_toAccess (rd xs0 i50) → ((0 ≤ i50 ∧ i50 < ((xs51.length : Nat) : Int)) ∧ next56 ((IntKind.wrap .i64 (i50 + 1)), (List.set xs51 (i50.toNat) (⟨r63.Phase, r63.Warp, r63.Address, r63.Kind⟩ : D.Access)), ()))))) (Q xs51)) (0, (List.replicate (((xs0.length : Nat) : Int).toNat) (default : D.Access)), ()))
end Go.V
set_option linter.unusedVariables false
set_option linter.unusedSimpArgs false
namespace Go.V
theorem wp.laws_toAccess.math (a : D.Access) : wp.laws_toAccess a (fun r => r = M.laws_toAccess a) := rfl
theorem wp.impl_IsRace.math (a b : D.Access) : wp.impl_IsRace a b (fun r => r = M.impl_IsRace a b) := by
  simp only [wp.impl_IsRace, JoinP, M.impl_IsRace, M.isRace]
  rcases e1 : a.Kind == b.Kind <;> rcases e2 : a.Kind == 13 <;> rcases e3 : a.Phase == b.Phase <;> rcases e4 : a.Address == b.Address <;> rcases e5 : a.Warp != b.Warp <;> simp [bcase]
theorem wp.spec_IsRace.math (a b : D.Access) : wp.spec_IsRace a b (fun r => r = M.spec_IsRace a b) := by
  simp only [wp.spec_IsRace, M.spec_IsRace, M.isRace, bne]
  rcases e1 : a.Kind == b.Kind <;> rcases e2 : a.Kind == 13 <;> rcases e3 : a.Phase == b.Phase <;> rcases e4 : a.Address == b.Address <;> rcases e5 : a.Warp == b.Warp <;> simp [bcase]
theorem wp.laws_szAccessS.math (a : List D.Access) (x : Int) (h : M.laws_szAccessS_pre a x) : wp.laws_szAccessS a x (fun r => r = M.laws_szAccessS a x) := by
  unfold wp.laws_szAccessS M.laws_szAccessS
  obtain ⟨h1, h2, h3⟩ := h
  rw [w64 (by omega) (by omega)]
  refine bcase_mk (fun e => ?_) fun e => ?_
  · rw [if_pos (by simpa using e)]
  · rw [if_neg (by simpa using e)]
theorem wp.laws_toAccessS.math (a : List D.Access) (h : M.laws_toAccessS_pre a) : wp.laws_toAccessS a (fun r => r = M.laws_toAccessS a) := by
  unfold wp.laws_toAccessS
  unfold M.laws_toAccessS_pre at h
  refine ⟨by omega, ?_⟩
  refine loop_n a.length (fun k => ((k : Int), cp id a k, ())) (fun _ => True) (by simp [cp_zero]) trivial (fun k hk hF next hn => ?_) fun hF next => ?_
  · refine bcase_t (by simp; omega) ⟨by omega, fun r hr => ⟨⟨by omega, by simp only [cp_len id a (Nat.le_of_lt hk)]; omega⟩, ?_⟩⟩
    rw [rd_nat hk] at hr
    subst hr
    rw [up64 hk (by omega)]
    have := cp_set id a hk
    simp only [id] at this
    simp only [Int.toNat_natCast]
    rw [show (⟨(M.laws_toAccess a[k]).Phase, (M.laws_toAccess a[k]).Warp, (M.laws_toAccess a[k]).Address, (M.laws_toAccess a[k]).Kind⟩ : D.Access) = a[k] from rfl, this]
    exact hn trivial
  · exact bcase_f (by simp) (by rw [cp_all]; simp [M.laws_toAccessS])
end Go.V
set_option linter.unusedVariables false
namespace Go.V
def wp.laws_eqAccess (s0 : D.Access) (s1 : D.Access) (Q : Bool → Prop) : Prop :=
  bcase (s0.Phase != s1.Phase) (Q false) (bcase (s0.Warp != s1.Warp) (Q false) (bcase (s0.Address != s1.Address) (Q false) (bcase (s0.Kind != s1.Kind) (Q false) (Q true))))
def wp.laws_eqAccessS (xs0 : List D.Access) (xs1 : List D.Access) (Q : Bool → Prop) : Prop :=
  bcase (((xs0.length : Nat) : Int) != ((xs1.length : Nat) : Int)) (Q false) (LoopP (σ := Int × Unit) (fun (p48 : Int × Unit) next25 => match p48 with | (i21, _) => bcase (decide (i21 < ((xs0.length : Nat) : Int))) (((0 ≤ i21 ∧ i21 < ((xs0.length : Nat) : Int)) ∧ ((0 ≤ i21 ∧ i21 < ((xs1.length : Nat) : Int)) ∧ (∀ r38, r38 = M.laws_eqAccess (rd xs0 i21) (rd xs1 i21) → bcase (!r38) (Q false) (next25 ((IntKind.wrap .i64 (i21 + 1)), ())))))) (Q true)) (0, ()))
end Go.V
set_option linter.unusedVariables false
set_option linter.unusedSimpArgs false
namespace Go.V
theorem wp.laws_eqAccess.math (a b : D.Access) : wp.laws_eqAccess a b (fun r => r = M.laws_eqAccess a b) := by
  obtain ⟨a1, a2, a3, a4⟩ := a
  obtain ⟨b1, b2, b3, b4⟩ := b
  simp only [wp.laws_eqAccess, M.laws_eqAccess]
  refine bcase_mk (fun e => ?_) fun e1 => bcase_mk (fun e => ?_) fun e2 => bcase_mk (fun e => ?_) fun e3 => bcase_mk (fun e => ?_) fun e4 => ?_ <;> simp_all
theorem wp.laws_eqAccessS.math (a b : List D.Access) (h : M.laws_eqAccessS_pre a b) : wp.laws_eqAccessS a b (fun r => r = M.laws_eqAccessS a b) := by
  unfold wp.laws_eqAccessS
  have hb : a.length ≤ 9223372036854775807 := by unfold M.laws_eqAccessS_pre at h; omega
  refine bcase_mk (fun e => ?_) fun e => ?_
  · simp [M.laws_eqAccessS]; rintro rfl; simp at e
  have hl : a.length = b.length := by simp at e; omega
  refine loop_n a.length (fun k => ((k : Int), ())) (fun k => ∀ j : Nat, j < k → rd a j = rd b j) rfl (by simp) (fun k hk hF next hn => ?_) fun hF next => ?_
  · refine bcase_t (by simp; omega) ⟨by omega, by omega, fun r hr => bcase_mk (fun e => ?_) fun e => ?_⟩
    · subst hr; simp [M.laws_eqAccessS]; rintro rfl; simp [M.laws_eqAccess] at e
    · subst hr
      rw [up64 hk hb]
      refine hn fun j hj => ?_
      by_cases hjk : j = k
      · subst hjk; simpa [M.laws_eqAccess] using e
      · exact hF j (by omega)
  · refine bcase_f (by simp) ?_
    have := eq_of_takes hl hF
    simp [M.laws_eqAccessS, this]
end Go.V
set_option linter.unusedVariables false
namespace Go.V
def wp.spec_FirstRace (xs0 : List D.Access) (Q : (Int × Int × Bool) → Prop) : Prop :=
  LoopP (σ := Int × Unit) (fun (p62 : Int × Unit) next25 => match p62 with | (i21, _) => bcase (decide (i21 < ((xs0.length : Nat) : Int))) (LoopP (σ := Int × Unit) (fun (p57 : Int × Unit) next31 => match p57 with | (i27, _) => bcase (decide (i27 < i21)) (((0 ≤ i27 ∧ i27 < ((xs0.length : Nat) : Int)) ∧ ((0 ≤ i21 ∧ i21 < ((xs0.length : Nat) : Int)) ∧ (∀ r44, r44 = M.spec_IsRace (rd xs0 i27) (rd xs0 i21) → bcase r44 (Q (i27, i21, true)) (next31 ((IntKind.wrap .i64 (i27 + 1)), ())))))) (next25 ((IntKind.wrap .i64 (i21 + 1)), ()))) (0, ())) (Q (0, 0, false))) (0, ())
end Go.V
set_option linter.unusedVariables false
set_option linter.unusedSimpArgs false
namespace Go.V
theorem rangeFind_some {p : Nat → Bool} {k i : Nat} (hi : i < k) (h : p i = true) (hn : ∀ j, j < i → p j = false) : (List.range k).find? p = some i := by
  rw [List.find?_range_eq_some]
  exact ⟨h, List.mem_range.2 hi, fun j hj => by rw [hn j hj]; rfl⟩
theorem rangeFind_none {p : Nat → Bool} {k : Nat} (hn : ∀ j, j < k → p j = false) : (List.range k).find? p = none := by
  rw [List.find?_range_eq_none]
  exact fun j hj => by rw [hn j hj]; rfl
theorem race_hit {l : List D.Access} {n k i : Nat} (h : (List.range k).find? (fun i : Nat => M.isRace (rd l (i : Int)) (rd l (k : Int))) = some i) : M.firstRaceFrom l (n + 1) k = ((i : Int), (k : Int), true) := by
  rw [M.firstRaceFrom, h]
theorem race_miss {l : List D.Access} {n k : Nat} (h : (List.range k).find? (fun i : Nat => M.isRace (rd l (i : Int)) (rd l (k : Int))) = none) : M.firstRaceFrom l (n + 1) k = M.firstRaceFrom l n (k + 1) := by
  rw [M.firstRaceFrom, h]
theorem wp.spec_FirstRace.math (l : List D.Access) (h : M.spec_FirstRace_pre l) : wp.spec_FirstRace l (fun r => r = M.spec_FirstRace l) := by
  have h : l.length ≤ 9223372036854775807 := h
  refine loop_n l.length (fun k => ((k : Int), ())) (fun k => M.firstRace l = M.firstRaceFrom l (l.length - k) k) rfl rfl (fun k hk hF next hn => ?_) fun hF next => ?_
  · rw [show l.length - k = (l.length - (k + 1)) + 1 by omega] at hF
    refine bcase_t (by simp; omega) ?_
    refine loop_n k (fun i => ((i : Int), ())) (fun i => ∀ j : Nat, j < i → M.isRace (rd l (j : Int)) (rd l (k : Int)) = false) rfl (fun j hj => by omega) (fun i hi hG next2 hn2 => ?_) fun hG next2 => ?_
    · dsimp only
      rw [up64 hi (by omega)]
      refine bcase_t (by simp; omega) ⟨⟨by omega, by omega⟩, ⟨by omega, by omega⟩, fun r hr => ?_⟩
      have hr : r = M.isRace (rd l (i : Int)) (rd l (k : Int)) := hr
      refine bcase_mk (fun e => ?_) fun e => hn2 fun j hj => ?_
      · show _ = M.firstRace l
        rw [hF, race_hit (rangeFind_some (p := fun i : Nat => M.isRace (rd l (i : Int)) (rd l (k : Int))) hi (hr.symm.trans e) hG)]
      · by_cases ej : j = i
        · rw [ej, ← hr, e]
        · exact hG j (by omega)
    · dsimp only
      rw [up64 hk h]
      refine bcase_f (by simp) (hn ?_)
      rw [hF, race_miss (rangeFind_none (p := fun i : Nat => M.isRace (rd l (i : Int)) (rd l (k : Int))) hG)]
  · refine bcase_f (by simp) ?_
    show _ = M.firstRace l
    rw [hF, Nat.sub_self]; rfl
def pkey (a : D.Access) : List Int := [a.Phase, a.Address]
def rix (l : List D.Access) (k : Nat) (key : List Int) : List Int := ((List.range k).filter fun i : Nat => pkey (rd l (i : Int)) == key).map fun i : Nat => (i : Int)
theorem rix_zero (l : List D.Access) : rix l 0 = fun _ => [] := rfl
theorem rix_up (l : List D.Access) (k : Nat) (key : List Int) : rix l (k + 1) key = if key = pkey (rd l (k : Int)) then rix l k (pkey (rd l (k : Int))) ++ [(k : Int)] else rix l k key := by
  unfold rix
  rw [List.range_succ, List.filter_append, List.map_append]
  by_cases e : key = pkey (rd l (k : Int))
  · subst e; simp
  · have : ¬ pkey (rd l (k : Int)) = key := fun h => e h.symm
    rw [if_neg e]
    simp [this]
theorem rix_len (l : List D.Access) (k : Nat) (key : List Int) : (rix l k key).length ≤ k := by
  unfold rix
  rw [List.length_map]
  have := List.length_filter_le (fun i : Nat => pkey (rd l (i : Int)) == key) (List.range k)
  simpa using this
theorem rix_in {l : List D.Access} {k : Nat} {key : List Int} {y : Int} (h : y ∈ rix l k key) : 0 ≤ y ∧ y < (k : Int) := by
  unfold rix at h
  obtain ⟨i, hi, rfl⟩ := List.mem_map.1 h
  have := List.mem_range.1 (List.mem_filter.1 hi).1
  omega
theorem race_key {a b : D.Access} (h : M.isRace a b = true) : pkey a = pkey b := by
  simp only [M.isRace, Bool.and_eq_true, beq_iff_eq] at h
  unfold pkey
  rw [h.1.1.1, h.1.1.2]
theorem rix_find (l : List D.Access) (k : Nat) : (rix l k (pkey (rd l (k : Int)))).find? (fun y => M.isRace (rd l y) (rd l (k : Int))) = ((List.range k).find? (fun i : Nat => M.isRace (rd l (i : Int)) (rd l (k : Int)))).map fun i : Nat => (i : Int) := by
  unfold rix
  rw [List.find?_map, List.find?_filter]
  congr 1
  refine congrArg (fun p => (List.range k).find? p) (funext fun i => ?_)
  show decide ((pkey (rd l (i : Int)) == pkey (rd l (k : Int))) = true ∧ M.isRace (rd l (i : Int)) (rd l (k : Int)) = true) = _
  cases e : M.isRace (rd l (i : Int)) (rd l (k : Int)) with
  | false => simp
  | true => rw [race_key e]; simp
theorem rix_hit {l : List D.Access} {n k : Nat} {y : Int} (h : (rix l k (pkey (rd l (k : Int)))).find? (fun y => M.isRace (rd l y) (rd l (k : Int))) = some y) : M.firstRaceFrom l (n + 1) k = (y, (k : Int), true) := by
  rw [rix_find] at h
  cases e : (List.range k).find? (fun i : Nat => M.isRace (rd l (i : Int)) (rd l (k : Int))) with
  | none => rw [e] at h; cases h
  | some i => rw [e] at h; cases h; exact race_hit e
theorem rix_miss {l : List D.Access} {n k : Nat} (h : (rix l k (pkey (rd l (k : Int)))).find? (fun y => M.isRace (rd l y) (rd l (k : Int))) = none) : M.firstRaceFrom l (n + 1) k = M.firstRaceFrom l n (k + 1) := by
  rw [rix_find] at h
  refine race_miss ?_
  cases e : (List.range k).find? (fun i : Nat => M.isRace (rd l (i : Int)) (rd l (k : Int))) with
  | none => rfl
  | some i => rw [e] at h; cases h
end Go.V
set_option linter.unusedVariables false
namespace Go.V
def wp.laws_FnExactFirstRace (xs0 : List D.Access) (Q : Bool → Prop) : Prop :=
  (M.laws_szAccessS_pre xs0 1048576 ∧ ∀ r21, r21 = M.laws_szAccessS xs0 1048576 → bcase (decide (r21 < 0)) (Q true) ((M.laws_toAccessS_pre xs0 ∧ ∀ r26, r26 = M.laws_toAccessS xs0 → (M.spec_FirstRace_pre r26 ∧ ∀ r33, r33 = M.spec_FirstRace r26 → (M.laws_toAccessS_pre xs0 ∧ ∀ r38, r38 = M.laws_toAccessS xs0 → (M.impl_FirstRace_pre r38 ∧ ∀ r45, r45 = M.impl_FirstRace r38 → bcase (r45.1 != r33.1) (Q false) (bcase (r45.2.1 != r33.2.1) (Q false) (bcase (!(r45.2.2 == r33.2.2)) (Q false) ((M.laws_toAccessS_pre xs0 ∧ ∀ r50, r50 = M.laws_toAccessS xs0 → (M.laws_eqAccessS_pre r38 r50 ∧ ∀ r57, r57 = M.laws_eqAccessS r38 r50 → bcase (!r57) (Q false) (Q true))))))))))))
end Go.V
set_option linter.unusedVariables false
set_option linter.unusedSimpArgs false
namespace Go.V
theorem wp.laws_FnExactFirstRace.math (l : List D.Access) (h : M.laws_FnExactFirstRace_pre l) : wp.laws_FnExactFirstRace l (fun r => r = M.laws_FnExactFirstRace l) := by
  have hL : l.length ≤ 9223372036854775807 := h
  refine ⟨⟨by omega, by omega, hL⟩, fun r1 g1 => bcase_mk (fun _ => rfl) fun e1 => ?_⟩
  have g1 : r1 = if (1048576 : Int) - (l.length : Int) < 0 then (-1 : Int) else (1048576 : Int) - (l.length : Int) := g1
  have e1 : ¬ r1 < 0 := by simpa using e1
  have l1 : l.length ≤ 1048576 := by
    split at g1
    · omega
    · omega
  have q1 : M.laws_toAccessS_pre l := by show l.length ≤ _; omega
  have q2 : M.laws_eqAccessS_pre l l := by show l.length ≤ _; omega
  simp only [M.laws_FnExactFirstRace, M.laws_toAccessS, forall_eq, M.spec_FirstRace, M.impl_FirstRace, M.laws_eqAccessS, beq_self_eq_true, Bool.not_true, bne_self_eq_false, bcase]
  exact ⟨q1, hL, q1, l1, q1, q2, trivial⟩
end Go.V
