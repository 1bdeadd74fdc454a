import Derived.Test.YtkpfabigipedcaaVBase
import Derived.Test.YtkpfabigipedcaaVWords
import Derived.Test.YtkpfabigipedcaaVOwn
import Derived.Test.YtkpfabigipedcaaVLoop
import Derived.Test.YtkpfabigipedcaaVDeep
import Derived.Test.YtkpfabigipedcaaVEq
import Derived.Test.YtkpfabigipedcaaVCut
import Derived.Test.YtkpfabigipedcaaVPlc
import Derived.Test.YtkpfabigipedcaaVMapD
import Derived.Test.YtkpfabigipedcaaVMap
import Derived.Test.YtkpfabigipedcaaVFoc
import Derived.Test.YtkpfabigipedcaaPure2
set_option linter.unusedVariables false
namespace Go.V.M
def addOne (out : List D.Access) (a : D.Access) : List D.Access := if out.contains a then out else out ++ [a]
def addAll (log list : List D.Access) : List D.Access := list.foldl addOne log
def TwoFit (log list : List D.Access) : Prop := log.length + list.length ≤ 17179869184
def spec_AddAccesses := addAll
def spec_AddAccesses_pre (log list : List D.Access) : Prop := TwoFit log list
def slices_Clone_impl_Access_impl_Access (l : List D.Access) : List D.Access := l
def slices_Clone_impl_Access_impl_Access_pre (l : List D.Access) : Prop := l.length ≤ 17179869184
def impl_AddAccesses := addAll
def impl_AddAccesses_pre (log list : List D.Access) : Prop := TwoFit log list
def laws_FnExactAddAccesses (log list : List D.Access) : Bool := true
def laws_FnExactAddAccesses_pre (log list : List D.Access) : Prop := Long log ∧ Long list
end Go.V.M
set_option linter.unusedVariables false
namespace Go.V
def wp.laws_toAccess (s0 : D.Access) (Q : D.Access → Prop) : Prop :=
  Q (⟨s0.Phase, s0.Warp, s0.Address, s0.Kind⟩ : D.Access)
def wp.laws_szAccessS (xs0 : List D.Access) (x1 : Int) (Q : Int → Prop) : Prop :=
  bcase (decide ((IntKind.wrap .i64 (x1 - ((xs0.length : Nat) : Int))) < 0)) (Q (-1)) (Q (IntKind.wrap .i64 (x1 - ((xs0.length : Nat) : Int))))
def wp.laws_toAccessS (xs0 : List D.Access) (Q : (List D.Access) → Prop) : Prop :=
  ((0 ≤ ((xs0.length : Nat) : Int) ∧ ((xs0.length : Nat) : Int) ≤ 17179869184) ∧ LoopP (σ := Int × (List D.Access) × Unit) (fun (p80 : Int × (List D.Access) × Unit) next56 => match p80 with | (i50, xs51, _) => bcase (decide (i50 < ((xs0.length : Nat) : Int))) (((0 ≤ i50 ∧ i50 < ((xs0.length : Nat) : Int)) ∧ (∀ r63, r63 = M.laws_toAccess (rd xs0 i50) → ((0 ≤ i50 ∧ i50 < ((xs51.length : Nat) : Int)) ∧ next56 ((IntKind.wrap .i64 (i50 + 1)), (List.set xs51 (i50.toNat) (⟨r63.Phase, r63.Warp, r63.Address, r63.Kind⟩ : D.Access)), ()))))) (Q xs51)) (0, (List.replicate (((xs0.length : Nat) : Int).toNat) (default : D.Access)), ()))
end Go.V
set_option linter.unusedVariables false
set_option linter.unusedSimpArgs false
namespace Go.V
theorem wp.laws_toAccess.math (a : D.Access) : wp.laws_toAccess a (fun r => r = M.laws_toAccess a) := rfl
theorem wp.laws_szAccessS.math (a : List D.Access) (x : Int) (h : M.laws_szAccessS_pre a x) : wp.laws_szAccessS a x (fun r => r = M.laws_szAccessS a x) := by
  unfold wp.laws_szAccessS M.laws_szAccessS
  obtain ⟨h1, h2, h3⟩ := h
  rw [w64 (by omega) (by omega)]
  refine bcase_mk (fun e => ?_) fun e => ?_
  · rw [if_pos (by simpa using e)]
  · rw [if_neg (by simpa using e)]
theorem wp.laws_toAccessS.math (a : List D.Access) (h : M.laws_toAccessS_pre a) : wp.laws_toAccessS a (fun r => r = M.laws_toAccessS a) := by
  unfold wp.laws_toAccessS
  unfold M.laws_toAccessS_pre at h
  refine ⟨by omega, ?_⟩
  refine loop_n a.length (fun k => ((k : Int), cp id a k, ())) (fun _ => True) (by simp [cp_zero]) trivial (fun k hk hF next hn => ?_) fun hF next => ?_
  · refine bcase_t (by simp; omega) ⟨by omega, fun r hr => ⟨⟨by omega, by simp only [cp_len id a (Nat.le_of_lt hk)]; omega⟩, ?_⟩⟩
    rw [rd_nat hk] at hr
    subst hr
    rw [up64 hk (by omega)]
    have := cp_set id a hk
    simp only [id] at this
    simp only [Int.toNat_natCast]
    rw [show (⟨(M.laws_toAccess a[k]).Phase, (M.laws_toAccess a[k]).Warp, (M.laws_toAccess a[k]).Address, (M.laws_toAccess a[k]).Kind⟩ : D.Access) = a[k] from rfl, this]
    exact hn trivial
  · exact bcase_f (by simp) (by rw [cp_all]; simp [M.laws_toAccessS])
end Go.V
set_option linter.unusedVariables false
namespace Go.V
def wp.laws_markAccessS (xs0 : List D.Access) (x1 : Int) (Q : (Int × (List D.Access)) → Prop) : Prop :=
  LoopP (σ := Int × Int × (List D.Access) × Unit) (fun (p111 : Int × Int × (List D.Access) × Unit) next70 => match p111 with | (i63, i64, xs65, _) => bcase (decide (i64 < ((xs0.length : Nat) : Int))) (((0 ≤ i64 ∧ i64 < ((xs65.length : Nat) : Int)) ∧ ((0 ≤ i64 ∧ i64 < (((List.set xs65 (i64.toNat) (⟨i63, (rd xs65 i64).Warp, (rd xs65 i64).Address, (rd xs65 i64).Kind⟩ : D.Access)).length : Nat) : Int)) ∧ ((0 ≤ i64 ∧ i64 < (((List.set xs65 (i64.toNat) (⟨i63, (IntKind.wrap .i64 (i63 + 1)), (rd xs65 i64).Address, (rd xs65 i64).Kind⟩ : D.Access)).length : Nat) : Int)) ∧ ((0 ≤ i64 ∧ i64 < (((List.set xs65 (i64.toNat) (⟨i63, (IntKind.wrap .i64 (i63 + 1)), (IntKind.wrap .i64 ((IntKind.wrap .i64 (i63 + 1)) + 1)), (rd xs65 i64).Kind⟩ : D.Access)).length : Nat) : Int)) ∧ next70 ((IntKind.wrap .i64 ((IntKind.wrap .i64 ((IntKind.wrap .i64 ((IntKind.wrap .i64 (i63 + 1)) + 1)) + 1)) + 1)), (IntKind.wrap .i64 (i64 + 1)), (List.set xs65 (i64.toNat) (⟨i63, (IntKind.wrap .i64 (i63 + 1)), (IntKind.wrap .i64 ((IntKind.wrap .i64 (i63 + 1)) + 1)), (IntKind.wrap .i64 ((IntKind.wrap .i64 ((IntKind.wrap .i64 (i63 + 1)) + 1)) + 1))⟩ : D.Access)), ())))))) (Q (i63, xs65))) (x1, 0, xs0, ())
def wp.laws_heldAccessS (xs0 : List D.Access) (x1 : Int) (Q : Int → Prop) : Prop :=
  LoopP (σ := Int × Int × Unit) (fun (p56 : Int × Int × Unit) next26 => match p56 with | (i21, i22, _) => bcase (decide (i22 < ((xs0.length : Nat) : Int))) (((0 ≤ i22 ∧ i22 < ((xs0.length : Nat) : Int)) ∧ bcase ((rd xs0 i22).Phase != i21) (Q (-1)) (((0 ≤ i22 ∧ i22 < ((xs0.length : Nat) : Int)) ∧ bcase ((rd xs0 i22).Warp != (IntKind.wrap .i64 (i21 + 1))) (Q (-1)) (((0 ≤ i22 ∧ i22 < ((xs0.length : Nat) : Int)) ∧ bcase ((rd xs0 i22).Address != (IntKind.wrap .i64 ((IntKind.wrap .i64 (i21 + 1)) + 1))) (Q (-1)) (((0 ≤ i22 ∧ i22 < ((xs0.length : Nat) : Int)) ∧ bcase ((rd xs0 i22).Kind != (IntKind.wrap .i64 ((IntKind.wrap .i64 ((IntKind.wrap .i64 (i21 + 1)) + 1)) + 1))) (Q (-1)) (next26 ((IntKind.wrap .i64 ((IntKind.wrap .i64 ((IntKind.wrap .i64 ((IntKind.wrap .i64 (i21 + 1)) + 1)) + 1)) + 1)), (IntKind.wrap .i64 (i22 + 1)), ())))))))))) (Q i21)) (x1, 0, ())
def wp.laws_eqAccess (s0 : D.Access) (s1 : D.Access) (Q : Bool → Prop) : Prop :=
  bcase (s0.Phase != s1.Phase) (Q false) (bcase (s0.Warp != s1.Warp) (Q false) (bcase (s0.Address != s1.Address) (Q false) (bcase (s0.Kind != s1.Kind) (Q false) (Q true))))
def wp.laws_eqAccessS (xs0 : List D.Access) (xs1 : List D.Access) (Q : Bool → Prop) : Prop :=
  bcase (((xs0.length : Nat) : Int) != ((xs1.length : Nat) : Int)) (Q false) (LoopP (σ := Int × Unit) (fun (p48 : Int × Unit) next25 => match p48 with | (i21, _) => bcase (decide (i21 < ((xs0.length : Nat) : Int))) (((0 ≤ i21 ∧ i21 < ((xs0.length : Nat) : Int)) ∧ ((0 ≤ i21 ∧ i21 < ((xs1.length : Nat) : Int)) ∧ (∀ r38, r38 = M.laws_eqAccess (rd xs0 i21) (rd xs1 i21) → bcase (!r38) (Q false) (next25 ((IntKind.wrap .i64 (i21 + 1)), ())))))) (Q true)) (0, ()))
end Go.V
set_option linter.unusedVariables false
set_option linter.unusedSimpArgs false
namespace Go.V
theorem wp.laws_markAccessS.math (a : List D.Access) (x : Int) (h : M.laws_markAccessS_pre a x) : wp.laws_markAccessS a x (fun r => r = M.laws_markAccessS a x) := by
  unfold wp.laws_markAccessS
  obtain ⟨⟨h1, h2⟩, h3⟩ := h
  unfold M.Few at h3
  let g : Nat → D.Access := fun i => ⟨x + 4 * (i : Int), x + 4 * (i : Int) + 1, x + 4 * (i : Int) + 2, x + 4 * (i : Int) + 3⟩
  refine loop_n a.length (fun k => (x + 4 * k, (k : Int), mk g a k, ())) (fun _ => True) (by simp [mk_zero]) trivial (fun k hk hF next hn => ?_) fun hF next => ?_
  · have hl := mk_len g a (Nat.le_of_lt hk)
    have e1 : IntKind.wrap .i64 (x + 4 * (k : Int) + 1) = x + 4 * (k : Int) + 1 := w64 (by omega) (by omega)
    have e2 : IntKind.wrap .i64 (x + 4 * (k : Int) + 1 + 1) = x + 4 * (k : Int) + 2 := by rw [w64 (by omega) (by omega)]; omega
    have e3 : IntKind.wrap .i64 (x + 4 * (k : Int) + 2 + 1) = x + 4 * (k : Int) + 3 := by rw [w64 (by omega) (by omega)]; omega
    have e4 : IntKind.wrap .i64 (x + 4 * (k : Int) + 3 + 1) = x + 4 * ((k + 1 : Nat) : Int) := by rw [w64 (by omega) (by omega)]; push_cast; omega
    have hs := mk_set g a hk
    refine bcase_t (by simp; omega) ?_
    simp only [e1, e2, e3, e4, List.length_set, hl, Int.toNat_natCast, up64 hk (show a.length ≤ 9223372036854775807 by omega)]
    refine ⟨by omega, by omega, by omega, by omega, ?_⟩
    rw [show (⟨x + 4 * (k : Int), x + 4 * (k : Int) + 1, x + 4 * (k : Int) + 2, x + 4 * (k : Int) + 3⟩ : D.Access) = g k from rfl, hs]
    exact hn trivial
  · exact bcase_f (by simp) (by rw [mk_all]; rfl)
theorem wp.laws_heldAccessS.math (a : List D.Access) (x : Int) (h : M.laws_heldAccessS_pre a x) : wp.laws_heldAccessS a x (fun r => r = M.laws_heldAccessS a x) := by
  unfold wp.laws_heldAccessS
  obtain ⟨⟨h1, h2⟩, h3⟩ := h
  unfold M.Few at h3
  let g : Nat → D.Access := fun i => ⟨x + 4 * (i : Int), x + 4 * (i : Int) + 1, x + 4 * (i : Int) + 2, x + 4 * (i : Int) + 3⟩
  refine loop_n a.length (fun k => (x + 4 * k, (k : Int), ())) (fun k => ∀ j : Nat, j < k → rd a j = g j) (by simp) (by simp) (fun k hk hF next hn => ?_) fun hF next => ?_
  · have e1 : IntKind.wrap .i64 (x + 4 * (k : Int) + 1) = x + 4 * (k : Int) + 1 := w64 (by omega) (by omega)
    have e2 : IntKind.wrap .i64 (x + 4 * (k : Int) + 1 + 1) = x + 4 * (k : Int) + 2 := by rw [w64 (by omega) (by omega)]; omega
    have e3 : IntKind.wrap .i64 (x + 4 * (k : Int) + 2 + 1) = x + 4 * (k : Int) + 3 := by rw [w64 (by omega) (by omega)]; omega
    have e4 : IntKind.wrap .i64 (x + 4 * (k : Int) + 3 + 1) = x + 4 * ((k + 1 : Nat) : Int) := by rw [w64 (by omega) (by omega)]; push_cast; omega
    have bad : ∀ (P : Prop), (rd a k = g k → P) → ¬ P → -1 = M.laws_heldAccessS a x := fun P hp hn => (if_neg (ne_seq g hk (fun e => hn (hp e)))).symm
    refine bcase_t (by simp; omega) ?_
    simp only [e1, e2, e3, e4, up64 hk (show a.length ≤ 9223372036854775807 by omega)]
    refine ⟨by omega, bcase_mk (fun f1 => ?_) fun f1 => ⟨by omega, bcase_mk (fun f2 => ?_) fun f2 => ⟨by omega, bcase_mk (fun f3 => ?_) fun f3 => ⟨by omega, bcase_mk (fun f4 => ?_) fun f4 => ?_⟩⟩⟩⟩
    · exact bad ((rd a k).Phase = x + 4 * (k : Int)) (fun e => by rw [e]) (by simpa using f1)
    · exact bad ((rd a k).Warp = x + 4 * (k : Int) + 1) (fun e => by rw [e]) (by simpa using f2)
    · exact bad ((rd a k).Address = x + 4 * (k : Int) + 2) (fun e => by rw [e]) (by simpa using f3)
    · exact bad ((rd a k).Kind = x + 4 * (k : Int) + 3) (fun e => by rw [e]) (by simpa using f4)
    · refine hn fun j hj => ?_
      by_cases hjk : j = k
      · subst hjk
        simp only [bne_eq_false_iff_eq] at f1 f2 f3 f4
        show rd a (j : Int) = (⟨x + 4 * (j : Int), x + 4 * (j : Int) + 1, x + 4 * (j : Int) + 2, x + 4 * (j : Int) + 3⟩ : D.Access)
        rw [← f4, ← f3, ← f2, ← f1]
      · exact hF j (by omega)
  · exact bcase_f (by simp) (if_pos (eq_seq g hF)).symm
theorem wp.laws_eqAccess.math (a b : D.Access) : wp.laws_eqAccess a b (fun r => r = M.laws_eqAccess a b) := by
  obtain ⟨a1, a2, a3, a4⟩ := a
  obtain ⟨b1, b2, b3, b4⟩ := b
  simp only [wp.laws_eqAccess, M.laws_eqAccess]
  refine bcase_mk (fun e => ?_) fun e1 => bcase_mk (fun e => ?_) fun e2 => bcase_mk (fun e => ?_) fun e3 => bcase_mk (fun e => ?_) fun e4 => ?_ <;> simp_all
theorem wp.laws_eqAccessS.math (a b : List D.Access) (h : M.laws_eqAccessS_pre a b) : wp.laws_eqAccessS a b (fun r => r = M.laws_eqAccessS a b) := by
  unfold wp.laws_eqAccessS
  have hb : a.length ≤ 9223372036854775807 := by unfold M.laws_eqAccessS_pre at h; omega
  refine bcase_mk (fun e => ?_) fun e => ?_
  · simp [M.laws_eqAccessS]; rintro rfl; simp at e
  have hl : a.length = b.length := by simp at e; omega
  refine loop_n a.length (fun k => ((k : Int), ())) (fun k => ∀ j : Nat, j < k → rd a j = rd b j) rfl (by simp) (fun k hk hF next hn => ?_) fun hF next => ?_
  · refine bcase_t (by simp; omega) ⟨by omega, by omega, fun r hr => bcase_mk (fun e => ?_) fun e => ?_⟩
    · subst hr; simp [M.laws_eqAccessS]; rintro rfl; simp [M.laws_eqAccess] at e
    · subst hr
      rw [up64 hk hb]
      refine hn fun j hj => ?_
      by_cases hjk : j = k
      · subst hjk; simpa [M.laws_eqAccess] using e
      · exact hF j (by omega)
  · refine bcase_f (by simp) ?_
    have := eq_of_takes hl hF
    simp [M.laws_eqAccessS, this]
end Go.V
set_option linter.unusedVariables false
namespace Go.V
def wp.spec_AddAccesses (xs0 : List D.Access) (xs1 : List D.Access) (Q : (List D.Access) → Prop) : Prop :=
  ((([] : List D.Access).length + xs0.length ≤ 17179869184) ∧ LoopP (σ := (List D.Access) × Int × Unit) (fun (p89 : (List D.Access) × Int × Unit) next36 => match p89 with | (xs29, i32, _) => bcase (decide (i32 < ((xs1.length : Nat) : Int))) (LoopP (σ := Bool × Int × Unit) (fun (p84 : Bool × Int × Unit) next43 => match p84 with | (b38, i39, _) => bcase (decide (i39 < ((xs29.length : Nat) : Int))) (bcase b38 (next43 (true, (IntKind.wrap .i64 (i39 + 1)), ())) (((0 ≤ i39 ∧ i39 < ((xs29.length : Nat) : Int)) ∧ ((0 ≤ i32 ∧ i32 < ((xs1.length : Nat) : Int)) ∧ next43 ((((rd xs29 i39).Phase == (rd xs1 i32).Phase) && ((rd xs29 i39).Warp == (rd xs1 i32).Warp) && ((rd xs29 i39).Address == (rd xs1 i32).Address) && ((rd xs29 i39).Kind == (rd xs1 i32).Kind)), (IntKind.wrap .i64 (i39 + 1)), ()))))) (bcase (!b38) (((0 ≤ i32 ∧ i32 < ((xs1.length : Nat) : Int)) ∧ ((xs29.length + ([(rd xs1 i32)] : List D.Access).length ≤ 17179869184) ∧ next36 ((xs29 ++ ([(rd xs1 i32)] : List D.Access)), (IntKind.wrap .i64 (i32 + 1)), ())))) (next36 (xs29, (IntKind.wrap .i64 (i32 + 1)), ())))) (false, 0, ())) (Q xs29)) ((([] : List D.Access) ++ xs0), 0, ()))
def wp.slices_Clone_impl_Access_impl_Access (xs0 : List D.Access) (Q : (List D.Access) → Prop) : Prop :=
  (∀ b21 : Bool, (b21 = true → xs0 = []) → bcase b21 (Q ([] : List D.Access)) (((([] : List D.Access).length + xs0.length ≤ 17179869184) ∧ Q (([] : List D.Access) ++ xs0))))
def wp.impl_AddAccesses (xs0 : List D.Access) (xs1 : List D.Access) (Q : (List D.Access) → Prop) : Prop :=
  LoopP (σ := Int × (List (List Int × Bool)) × Unit) (fun (p138 : Int × (List (List Int × Bool)) × Unit) next45 => match p138 with | (i40, xs41, _) => bcase (decide (i40 < ((xs0.length : Nat) : Int))) (((0 ≤ i40 ∧ i40 < ((xs0.length : Nat) : Int)) ∧ next45 ((IntKind.wrap .i64 (i40 + 1)), (mput xs41 [(rd xs0 i40).Phase, (rd xs0 i40).Warp, (rd xs0 i40).Address, (rd xs0 i40).Kind] true), ()))) ((M.slices_Clone_impl_Access_impl_Access_pre xs0 ∧ ∀ r61, r61 = M.slices_Clone_impl_Access_impl_Access xs0 → LoopP (σ := (List D.Access) × Int × (List (List Int × Bool)) × Unit) (fun (p133 : (List D.Access) × Int × (List (List Int × Bool)) × Unit) next104 => match p133 with | (xs96, i99, xs100, _) => bcase (decide (i99 < ((xs1.length : Nat) : Int))) (((0 ≤ i99 ∧ i99 < ((xs1.length : Nat) : Int)) ∧ bcase (!((mget xs100 [(rd xs1 i99).Phase, (rd xs1 i99).Warp, (rd xs1 i99).Address, (rd xs1 i99).Kind]).getD false)) (((xs96.length + ([(rd xs1 i99)] : List D.Access).length ≤ 17179869184) ∧ next104 ((xs96 ++ ([(rd xs1 i99)] : List D.Access)), (IntKind.wrap .i64 (i99 + 1)), (mput xs100 [(rd xs1 i99).Phase, (rd xs1 i99).Warp, (rd xs1 i99).Address, (rd xs1 i99).Kind] true), ()))) (next104 (xs96, (IntKind.wrap .i64 (i99 + 1)), xs100, ())))) (Q xs96)) (r61, 0, xs41, ())))) (0, ([] : List (List Int × Bool)), ())
def wp.laws_FnExactAddAccesses (xs0 : List D.Access) (xs1 : List D.Access) (Q : Bool → Prop) : Prop :=
  (M.laws_szAccessS_pre xs0 1048576 ∧ ∀ r21, r21 = M.laws_szAccessS xs0 1048576 → bcase (decide (r21 < 0)) (Q true) ((M.laws_szAccessS_pre xs1 r21 ∧ ∀ r26, r26 = M.laws_szAccessS xs1 r21 → bcase (decide (r26 < 0)) (Q true) ((M.laws_toAccessS_pre xs0 ∧ ∀ r31, r31 = M.laws_toAccessS xs0 → (M.laws_toAccessS_pre xs1 ∧ ∀ r38, r38 = M.laws_toAccessS xs1 → (M.spec_AddAccesses_pre r31 r38 ∧ ∀ r45, r45 = M.spec_AddAccesses r31 r38 → (M.laws_toAccessS_pre xs0 ∧ ∀ r52, r52 = M.laws_toAccessS xs0 → (M.laws_toAccessS_pre xs1 ∧ ∀ r59, r59 = M.laws_toAccessS xs1 → (M.impl_AddAccesses_pre r52 r59 ∧ ∀ r66, r66 = M.impl_AddAccesses r52 r59 → (M.laws_eqAccessS_pre r66 r45 ∧ ∀ r73, r73 = M.laws_eqAccessS r66 r45 → bcase (!r73) (Q false) ((M.laws_toAccessS_pre xs0 ∧ ∀ r78, r78 = M.laws_toAccessS xs0 → (M.laws_eqAccessS_pre r52 r78 ∧ ∀ r85, r85 = M.laws_eqAccessS r52 r78 → bcase (!r85) (Q false) ((M.laws_toAccessS_pre xs1 ∧ ∀ r90, r90 = M.laws_toAccessS xs1 → (M.laws_eqAccessS_pre r59 r90 ∧ ∀ r97, r97 = M.laws_eqAccessS r59 r90 → bcase (!r97) (Q false) ((M.laws_markAccessS_pre r52 1 ∧ ∀ r102, r102 = M.laws_markAccessS r52 1 → (M.laws_markAccessS_pre r59 r102.1 ∧ ∀ r108, r108 = M.laws_markAccessS r59 r102.1 → bcase (decide (r108.1 < 0)) (Q false) ((M.laws_eqAccessS_pre r66 r45 ∧ ∀ r114, r114 = M.laws_eqAccessS r66 r45 → bcase (!r114) (Q false) ((M.laws_markAccessS_pre r66 1 ∧ ∀ r119, r119 = M.laws_markAccessS r66 1 → (M.laws_heldAccessS_pre r119.2 1 ∧ ∀ r125, r125 = M.laws_heldAccessS r119.2 1 → bcase (decide (r125 < 0)) (Q false) (bcase (r125 != r119.1) (Q false) ((M.laws_toAccessS_pre xs0 ∧ ∀ r130, r130 = M.laws_toAccessS xs0 → (M.laws_toAccessS_pre xs1 ∧ ∀ r137, r137 = M.laws_toAccessS xs1 → (M.impl_AddAccesses_pre r130 r137 ∧ ∀ r144, r144 = M.impl_AddAccesses r130 r137 → (M.laws_eqAccessS_pre r144 r45 ∧ ∀ r151, r151 = M.laws_eqAccessS r144 r45 → bcase (!r151) (Q false) ((M.laws_heldAccessS_pre r119.2 1 ∧ ∀ r156, r156 = M.laws_heldAccessS r119.2 1 → bcase (decide (r156 < 0)) (Q false) (bcase (r156 != r119.1) (Q false) (Q true)))))))))))))))))))))))))))))))))))
end Go.V
set_option linter.unusedVariables false
set_option linter.unusedSimpArgs false
namespace Go.V
def akey (a : D.Access) : List Int := [a.Phase, a.Warp, a.Address, a.Kind]
theorem akey_inj {a b : D.Access} : akey a = akey b ↔ a = b := by
  cases a; cases b; simp [akey]
theorem mget_put {V : Type} (k k' : List Int) (v : V) : ∀ l : List (List Int × V), mget (mput l k v) k' = if k' = k then some v else mget l k'
  | [] => by
    by_cases e : k = k'
    · subst e; simp [mput, mget]
    · have : ¬ k' = k := fun h => e h.symm
      simp [mput, mget, e, this]
  | p :: l => by
    unfold mput
    by_cases h : p.1 = k
    · rw [if_pos h]
      by_cases e : k = k'
      · subst e; simp [mget]
      · have : ¬ k' = k := fun h => e h.symm
        simp [mget, e, this, h]
    · rw [if_neg h]
      unfold mget
      rw [mget_put k k' v l]
      by_cases e : k' = k
      · subst e; rw [if_neg h, if_pos rfl, if_pos rfl]
      · rw [if_neg e]; simp [e]
theorem eq_fields (x y : D.Access) : ((x.Phase == y.Phase) && (x.Warp == y.Warp) && (x.Address == y.Address) && (x.Kind == y.Kind)) = (x == y) := by
  rw [Bool.eq_iff_iff]
  cases x; cases y
  simp [and_assoc]
def HasI (m : List (List Int × Bool)) (out : List D.Access) : Prop := ∀ a, (mget m (akey a)).getD false = out.contains a
theorem hasI_put {m : List (List Int × Bool)} {out : List D.Access} (h : HasI m out) (a : D.Access) : HasI (mput m (akey a) true) (out ++ [a]) := by
  intro b
  rw [mget_put]
  have := h b
  by_cases e : b = a
  · subst e; simp
  · have e2 : ¬ akey b = akey a := fun hh => e (akey_inj.1 hh)
    rw [if_neg e2, this]
    simp [e]
def fillM (l : List D.Access) : List (List Int × Bool) := l.foldl (fun m a => mput m (akey a) true) []
theorem fill_append (l : List D.Access) (a : D.Access) : fillM (l ++ [a]) = mput (fillM l) (akey a) true := by simp [fillM]
theorem take_up {α : Type} [Inhabited α] {l : List α} {k : Nat} (h : k < l.length) : l.take (k + 1) = l.take k ++ [rd l (k : Int)] := by
  rw [rd_nat h]; simp
theorem fill_has (l : List D.Access) : ∀ k, k ≤ l.length → HasI (fillM (l.take k)) (l.take k)
  | 0, _ => fun a => by simp [fillM, mget]
  | k + 1, h => by
    rw [take_up (by omega), fill_append]
    exact hasI_put (fill_has l k (by omega)) _
def addSt (s : List D.Access × List (List Int × Bool)) (a : D.Access) : List D.Access × List (List Int × Bool) := if s.1.contains a then s else (s.1 ++ [a], mput s.2 (akey a) true)
def addTo (log list : List D.Access) : List D.Access × List (List Int × Bool) := list.foldl addSt (log, fillM log)
theorem addTo_up {log list : List D.Access} {k : Nat} (h : k < list.length) : addTo log (list.take (k + 1)) = addSt (addTo log (list.take k)) (rd list (k : Int)) := by
  rw [take_up h]; simp [addTo]
theorem addAll_up {log list : List D.Access} {k : Nat} (h : k < list.length) : M.addAll log (list.take (k + 1)) = M.addOne (M.addAll log (list.take k)) (rd list (k : Int)) := by
  rw [take_up h]; simp [M.addAll]
theorem addOne_len (out : List D.Access) (a : D.Access) : (M.addOne out a).length ≤ out.length + 1 := by
  unfold M.addOne
  split <;> simp
theorem addAll_len {log list : List D.Access} : ∀ k, k ≤ list.length → (M.addAll log (list.take k)).length ≤ log.length + k
  | 0, _ => by simp [M.addAll]
  | k + 1, h => by
    rw [addAll_up (by omega)]
    have := addAll_len (log := log) (list := list) k (by omega)
    have := addOne_len (M.addAll log (list.take k)) (rd list (k : Int))
    omega
theorem addTo_inv {log list : List D.Access} : ∀ k, k ≤ list.length → (addTo log (list.take k)).1 = M.addAll log (list.take k) ∧ HasI (addTo log (list.take k)).2 (addTo log (list.take k)).1
  | 0, _ => by
    have := fill_has log log.length (Nat.le_refl _)
    rw [List.take_length] at this
    exact ⟨rfl, this⟩
  | k + 1, h => by
    obtain ⟨h1, h2⟩ := addTo_inv (log := log) (list := list) k (by omega)
    rw [addTo_up (by omega), addAll_up (by omega), ← h1]
    unfold addSt M.addOne
    split
    · exact ⟨rfl, h2⟩
    · exact ⟨rfl, hasI_put h2 _⟩
theorem wp.slices_Clone_impl_Access_impl_Access.math (l : List D.Access) (h : M.slices_Clone_impl_Access_impl_Access_pre l) : wp.slices_Clone_impl_Access_impl_Access l (fun r => r = M.slices_Clone_impl_Access_impl_Access l) := by
  intro b hb
  refine bcase_mk (fun e => ?_) fun e => ⟨by simp only [List.length_nil, Nat.zero_add]; exact h, ?_⟩
  · rw [hb e]; rfl
  · simp [M.slices_Clone_impl_Access_impl_Access]
theorem wp.impl_AddAccesses.math (log list : List D.Access) (h : M.impl_AddAccesses_pre log list) : wp.impl_AddAccesses log list (fun r => r = M.impl_AddAccesses log list) := by
  have h : log.length + list.length ≤ 17179869184 := h
  refine loop_n log.length (fun k => ((k : Int), fillM (log.take k), ())) (fun _ => True) rfl trivial (fun k hk _ next hn => ?_) fun _ next => ?_
  · have hn := hn trivial
    rw [take_up hk, fill_append] at hn
    dsimp only
    rw [up64 hk (by omega)]
    exact bcase_t (by simp; omega) ⟨⟨by omega, by omega⟩, hn⟩
  · refine bcase_f (by simp) ⟨by show log.length ≤ _; omega, fun r hr => ?_⟩
    have hr : r = log := hr
    subst hr
    rw [List.take_length]
    refine loop_n list.length (fun k => ((addTo r (list.take k)).1, (k : Int), (addTo r (list.take k)).2, ())) (fun _ => True) rfl trivial (fun k hk _ next hn => ?_) fun _ next => ?_
    · have hn := hn trivial
      rw [addTo_up hk] at hn
      obtain ⟨h1, h2⟩ := addTo_inv (log := r) (list := list) k (by omega)
      have hl := addAll_len (log := r) (list := list) k (by omega)
      rw [← h1] at hl
      generalize addTo r (list.take k) = s at *
      dsimp only
      have hg : (mget s.2 [(rd list (k : Int)).Phase, (rd list (k : Int)).Warp, (rd list (k : Int)).Address, (rd list (k : Int)).Kind]).getD false = s.1.contains (rd list (k : Int)) := h2 (rd list (k : Int))
      unfold addSt at hn
      rw [up64 hk (by omega), hg]
      refine bcase_t (by simp; omega) ⟨⟨by omega, by omega⟩, bcase_mk (fun e => ⟨by simp; omega, ?_⟩) fun e => ?_⟩
      · rw [if_neg (by simpa using e)] at hn; exact hn
      · rw [if_pos (by simpa using e)] at hn; exact hn
    · refine bcase_f (by simp) ?_
      rw [List.take_length, (show (addTo r list).1 = M.addAll r list from by have := (addTo_inv (log := r) (list := list) list.length (Nat.le_refl _)).1; rwa [List.take_length] at this)]
      rfl
theorem any_eq (out : List D.Access) (a : D.Access) : (out.any fun x => x == a) = out.contains a := by
  rw [Bool.eq_iff_iff]
  simp
theorem any_take {out : List D.Access} {p : D.Access → Bool} {k : Nat} (h : k < out.length) : (out.take (k + 1)).any p = ((out.take k).any p || p (rd out (k : Int))) := by
  rw [take_up h]; simp
theorem wp.spec_AddAccesses.math (log list : List D.Access) (h : M.spec_AddAccesses_pre log list) : wp.spec_AddAccesses log list (fun r => r = M.spec_AddAccesses log list) := by
  have h : log.length + list.length ≤ 17179869184 := h
  refine ⟨by simp; omega, ?_⟩
  refine loop_n list.length (fun k => (M.addAll log (list.take k), (k : Int), ())) (fun _ => True) (by simp [M.addAll]) trivial (fun k hk _ next hn => ?_) fun _ next => ?_
  · have hn := hn trivial
    rw [addAll_up hk] at hn
    have hl := addAll_len (log := log) (list := list) k (by omega)
    generalize M.addAll log (list.take k) = out at *
    refine bcase_t (by simp; omega) ?_
    refine loop_n out.length (fun i => ((out.take i).any (fun x => x == rd list (k : Int)), (i : Int), ())) (fun _ => True) (by simp) trivial (fun i hi _ next2 hn2 => ?_) fun _ next2 => ?_
    · have hn2 := hn2 trivial
      rw [any_take hi] at hn2
      dsimp only
      rw [up64 hi (by omega)]
      refine bcase_t (by simp; omega) (bcase_mk (fun e => ?_) fun e => ⟨⟨by omega, by omega⟩, ⟨by omega, by omega⟩, ?_⟩)
      · rw [e, Bool.true_or] at hn2; exact hn2
      · rw [e, Bool.false_or] at hn2
        rw [eq_fields]; exact hn2
    · dsimp only
      rw [List.take_length, any_eq, up64 hk (by omega)]
      unfold M.addOne at hn
      refine bcase_f (by simp) (bcase_mk (fun e => ⟨⟨by omega, by omega⟩, by simp; omega, ?_⟩) fun e => ?_)
      · rw [if_neg (by simpa using e)] at hn; exact hn
      · rw [if_pos (by simpa using e)] at hn; exact hn
  · refine bcase_f (by simp) ?_
    rw [List.take_length]; rfl
theorem seqAccess_len (k : Int) (n : Nat) : (M.seqAccess k n).length = n := by simp [M.seqAccess]
theorem wp.laws_FnExactAddAccesses.math (log list : List D.Access) (h : M.laws_FnExactAddAccesses_pre log list) : wp.laws_FnExactAddAccesses log list (fun r => r = M.laws_FnExactAddAccesses log list) := by
  obtain ⟨hL, hM⟩ := h
  have hL : log.length ≤ 9223372036854775807 := hL
  have hM : list.length ≤ 9223372036854775807 := hM
  refine ⟨⟨by omega, by omega, hL⟩, fun r1 g1 => bcase_mk (fun _ => rfl) fun e1 => ?_⟩
  have g1 : r1 = if (1048576 : Int) - (log.length : Int) < 0 then (-1 : Int) else (1048576 : Int) - (log.length : Int) := g1
  have e1 : ¬ r1 < 0 := by simpa using e1
  have l1 : log.length ≤ 1048576 ∧ r1 = 1048576 - log.length := by
    split at g1
    · omega
    · omega
  refine ⟨⟨by omega, by omega, hM⟩, fun r2 g2 => bcase_mk (fun _ => rfl) fun e2 => ?_⟩
  have g2 : r2 = if r1 - (list.length : Int) < 0 then (-1 : Int) else r1 - (list.length : Int) := g2
  have e2 : ¬ r2 < 0 := by simpa using e2
  have l2 : list.length ≤ 1048576 := by
    split at g2
    · omega
    · omega
  have hw : (M.addAll log list).length ≤ 2097152 := by
    have := addAll_len (log := log) (list := list) list.length (Nat.le_refl _)
    rw [List.take_length] at this
    omega
  simp only [M.laws_FnExactAddAccesses, M.laws_toAccessS, forall_eq, M.spec_AddAccesses, M.impl_AddAccesses, M.laws_markAccessS, M.laws_heldAccessS, seqAccess_len, if_true, M.laws_eqAccessS, M.laws_toAccessS_pre, M.laws_eqAccessS_pre, M.laws_markAccessS_pre, M.laws_heldAccessS_pre, M.spec_AddAccesses_pre, M.impl_AddAccesses_pre, M.TwoFit, M.Small, M.Few]
  generalize M.addAll log list = w at *
  have b1 : decide (1 + 4 * (log.length : Int) + 4 * (list.length : Int) < 0) = false := decide_eq_false (by omega)
  have b2 : decide (1 + 4 * (w.length : Int) < 0) = false := decide_eq_false (by omega)
  simp only [beq_self_eq_true, Bool.not_true, bne_self_eq_false, b1, b2, bcase]
  repeat' (first | trivial | refine ⟨?_, ?_⟩ | omega)
end Go.V
