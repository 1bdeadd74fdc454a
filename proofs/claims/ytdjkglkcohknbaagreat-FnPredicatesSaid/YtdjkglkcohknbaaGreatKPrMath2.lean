import Derived.Test.YtdjkglkcohknbaaGreatKPrMath1
set_option linter.unusedVariables false
set_option linter.unusedSimpArgs false
set_option maxRecDepth 20000
namespace Go.V
theorem count_in (m : Int) : ∀ k : Nat, 0 ≤ M.countTo m k ∧ M.countTo m k ≤ (k : Int)
  | 0 => by simp [M.countTo]
  | k + 1 => by
    have := count_in m k
    simp only [M.countTo]
    split <;> omega
theorem ones_expr : ∃ f : Int → Int, (∀ x (Q : Int → Prop), wp.math_bits_OnesCount64 x Q = Q (f x)) ∧ ((List.range 256).all fun m => f ((m : Nat) : Int) == M.countTo ((m : Nat) : Int) 8) = true :=
  ⟨_, fun x Q => (rfl : wp.math_bits_OnesCount64 x Q = Q _), by kernel_rfl⟩
theorem wp.math_bits_OnesCount64.math (m : Int) (h : M.math_bits_OnesCount64_pre m) : wp.math_bits_OnesCount64 m (fun r => r = M.math_bits_OnesCount64 m) := by
  obtain ⟨k, rfl, hk⟩ := isMask_nat h
  obtain ⟨f, hf, hc⟩ := ones_expr
  rw [hf]
  exact eq_of_beq (List.all_eq_true.1 hc k (List.mem_range.2 hk))
theorem wp.math_bits_OnesCount.math (m : Int) (h : M.math_bits_OnesCount_pre m) : wp.math_bits_OnesCount m (fun r => r = M.math_bits_OnesCount m) := ⟨h, fun r hr => hr⟩
theorem wp.impl_CountLanes.math (m : Int) (h : M.impl_CountLanes_pre m) : wp.impl_CountLanes m (fun r => r = M.impl_CountLanes m) := by
  unfold wp.impl_CountLanes
  refine fun b hb => bcase_mk (fun e => ?_) fun e => ?_
  all_goals have hb : b = M.isMask m := hb
  · have e : b = false := by simpa using e
    unfold M.impl_CountLanes M.countLanes
    rw [if_neg (by rw [← hb, e]; simp)]
  · have e : b = true := by simpa using e
    have hm := hb.symm.trans e
    have hw : IntKind.wrap .u64 m = m := by
      have hm' := hm
      simp only [M.isMask, M.isIn, Bool.and_eq_true, decide_eq_true_eq] at hm'
      show m % 18446744073709551616 = m
      exact Int.emod_eq_of_lt (by omega) (by omega)
    rw [hw]
    refine ⟨hm, fun r hr => ?_⟩
    rw [hr]
    unfold M.impl_CountLanes M.countLanes
    rw [if_pos hm]; rfl
theorem active_mask {p : List D.Ins} {x : D.Warp} (h : M.Runs p x) : M.isMask (M.activeMask x) = true := by
  rw [activeMask_top h.2.2]; exact (runs_frames h).2.2.2.2.1
theorem local_runs {p : List D.Ins} {x : D.Warp} (h : M.Fine p x) (hl : M.spec_l13Local p x = true) : M.Runs p x := (goes_of h hl).1
theorem lanes_count {p : List D.Ins} {x : D.Warp} (h : M.Runs p x) : 0 ≤ M.countLanes (M.activeMask x) ∧ M.countLanes (M.activeMask x) ≤ 8 := by
  unfold M.countLanes
  rw [if_pos (active_mask h)]
  exact count_in _ 8
theorem cost_fit {p : List D.Ins} {x : D.Warp} {m : Nat} (h : ∀ j, j < m → M.Runs p (M.wAt p x j)) : ∀ k : Nat, k ≤ m → (M.costTo p x k).Steps = (k : Int) ∧ 0 ≤ (M.costTo p x k).Active ∧ (M.costTo p x k).Active ≤ 8 * (k : Int) ∧ 0 ≤ (M.costTo p x k).Splits ∧ (M.costTo p x k).Splits ≤ (k : Int)
  | 0, _ => by simp [M.costTo]
  | k + 1, hk => by
    obtain ⟨h1, h2, h3, h4, h5⟩ := cost_fit h k (by omega)
    have hc := lanes_count (h k (by omega))
    simp only [M.costTo, M.costOne]
    refine ⟨by omega, by omega, by omega, ?_, ?_⟩ <;> split <;> omega
theorem wp.impl_CostOf_1.math (x : D.Warp) (c : D.Cost) (p : List D.Ins) (h : M.impl_CostOf_1_pre x c p) : wp.impl_CostOf_1 x c p (fun r => r = M.impl_CostOf_1 x c p) := by
  obtain ⟨hF, g1, g2, g3, g4, g5, g6⟩ := h
  unfold wp.impl_CostOf_1
  rw [empty_len0]
  refine bcase_mk (fun e => ?_) fun e => ?_
  · unfold M.impl_CostOf_1
    rw [if_pos e]
  · have hx : x.Frames ≠ [] := by simpa using e
    have hr : M.Runs p x := ⟨hF.1, hF.2, hx⟩
    have hc := lanes_count hr
    refine ⟨by have := (fine_small hF).1; show x.Frames.length ≤ 9223372036854775807; omega, fun a ha => ⟨trivial, fun b hb => ⟨hr, fun s hs => ?_⟩⟩⟩
    have hb : b = M.countLanes (M.activeMask x) := by rw [hb, ha]; rfl
    have hs : s = M.splits p x := hs
    have hM : M.impl_CostOf_1 x c p = M.costOne p x c := by
      unfold M.impl_CostOf_1
      rw [if_neg (by rw [e]; simp)]
    rw [hM, hb, w64 (x := c.Steps + 1) (by omega) (by omega), w64 (x := c.Active + _) (by omega) (by omega), w64 (x := c.Splits + 1) (by omega) (by omega)]
    unfold M.costOne
    refine bcase_mk (fun e2 => ?_) fun e2 => ?_
    · rw [if_pos (hs.symm.trans e2)]
    · rw [if_neg (by rw [← hs, e2]; simp)]
theorem wp.impl_visit_b.math (p : List D.Ins) (w : Int) (c : D.Cost) (q : List D.Ins) (h : M.impl_visit_b_pre p w c q) : wp.impl_visit_b p w c q (fun r => r = M.impl_visit_b p w c q) := by
  obtain ⟨h, rfl, rfl⟩ := h
  unfold wp.impl_visit_b
  refine ⟨h, fun r hr => bcase_mk (fun e => ?_) fun e => ⟨trivial, fun y hy => ?_⟩⟩
  all_goals
    have hr : r = M.warpResult q w := hr
    subst hr
  · have e : (M.warpResult q w).2.2 = false := by simpa using e
    unfold M.impl_visit_b
    rw [if_neg (by rw [e]; simp)]
  · have e : (M.warpResult q w).2.2 = true := by simpa using e
    obtain ⟨hq, hw, n, hm, -, hn, hl, hend⟩ := result_trace e
    have hy : y = M.newWarp q w := hy
    subst hy
    have hM : M.impl_visit_b q w ⟨0, 0, 0⟩ q = (true, M.costTo q (M.newWarp q w) n) := by
      unfold M.impl_visit_b
      rw [if_pos e, hn, Int.toNat_natCast]
    rw [hM, hn]
    have hR : ∀ j, j < n → M.Runs q (M.wAt q (M.newWarp q w) j) := fun j hj => local_runs (trace_fine hq hw hl (by omega)) (hl j hj)
    have hfit := cost_fit hR
    have hcf : ∀ k, k ≤ n → M.CostFit (M.costTo q (M.newWarp q w) k) := fun k hk => by
      obtain ⟨g1, g2, g3, g4, g5⟩ := hfit k hk
      unfold M.CostFit
      omega
    refine loop_n n (fun k => ((k : Int), (M.costTo q (M.newWarp q w) k).Steps, (M.costTo q (M.newWarp q w) k).Active, (M.costTo q (M.newWarp q w) k).Splits, (M.wAt q (M.newWarp q w) k).Number, (M.wAt q (M.newWarp q w) k).Frames, (M.wAt q (M.newWarp q w) k).Regs, ())) (fun _ => True) rfl trivial (fun k hk _ next hnx => ?_) fun _ next => bcase_f (by simp) ⟨⟨trace_fine hq hw hl (Nat.le_refl _), hcf n (Nat.le_refl _)⟩, fun z hz => ?_⟩
    · have hnx := hnx trivial
      have hF := trace_fine hq hw hl (k := k) (by omega)
      dsimp only
      refine bcase_t (by simp; omega) ⟨⟨hF, hcf k (by omega)⟩, fun z hz => ⟨hF, fun u hu => ?_⟩⟩
      have hz : z = M.costTo q (M.newWarp q w) (k + 1) := by
        rw [hz]
        show M.impl_CostOf_1 (M.wAt q (M.newWarp q w) k) (M.costTo q (M.newWarp q w) k) q = _
        unfold M.impl_CostOf_1
        have hne := (hR k hk).2.2
        rw [if_neg (by simpa using hne)]; rfl
      rw [up64 hk (by omega), hz, hu]
      unfold M.impl_Warp_pass
      rw [if_pos (hl k hk)]
      exact hnx
    · rw [hz]
      show (true, M.impl_CostOf_1 (M.wAt q (M.newWarp q w) n) (M.costTo q (M.newWarp q w) n) q) = _
      unfold M.impl_CostOf_1
      rw [if_pos (by rw [hend]; rfl)]
theorem wp.impl_CostOf.math (p : List D.Ins) (w : Int) (h : M.impl_CostOf_pre p w) : wp.impl_CostOf p w (fun r => r = M.impl_CostOf p w) := by
  refine ⟨⟨h, rfl, rfl⟩, fun r hr => ?_⟩
  rw [hr]
  unfold M.impl_visit_b M.impl_CostOf M.costOf
  by_cases e : (M.warpResult p w).2.2 = true
  · rw [if_pos e, if_pos e]; exact bcase_f rfl rfl
  · rw [if_neg e, if_neg e]; exact bcase_t rfl rfl
end Go.V
set_option linter.unusedVariables false
namespace Go.V
def wp.spec_SavedSplits (xs0 : List D.Ins) (x1 : Int) (Q : Int → Prop) : Prop :=
  (M.spec_PredicateAll_pre xs0 ∧ ∀ r21, r21 = M.spec_PredicateAll xs0 → (M.spec_CostOf_pre xs0 x1 ∧ ∀ r28, r28 = M.spec_CostOf xs0 x1 → (M.spec_CostOf_pre r21.1 x1 ∧ ∀ r37, r37 = M.spec_CostOf r21.1 x1 → bcase (!r28.2) (Q 0) (bcase (!r37.2) (Q 0) (Q (IntKind.wrap .i64 (r28.1.Splits - r37.1.Splits)))))))
def wp.impl_isTarget (x0 : Int) (Q : Bool → Prop) : Prop :=
  bcase (x0 == 10) (Q true) (Q (x0 == 11))
def wp.impl_CanPredicate_1 (s0 : D.Ins) (x1 : Int) (Q : Bool → Prop) : Prop :=
  (∀ r23, r23 = M.impl_isTarget s0.Op → bcase r23 (Q (s0.B == (IntKind.wrap .i64 (x1 + 1)))) (Q false))
def wp.impl_CanPredicate (xs0 : List D.Ins) (x1 : Int) (Q : Bool → Prop) : Prop :=
  (M.impl_IsQuiet_pre xs0 ∧ ∀ r23, r23 = M.impl_IsQuiet xs0 → bcase (!r23) (Q false) ((∀ r28, r28 = M.impl_within x1 0 (IntKind.wrap .i64 (((xs0.length : Nat) : Int) - 2)) → bcase (!r28) (Q false) (JoinP (σ := Int × Int × Int × Int × Int × Int × Int × Int × Unit) (fun J41 => ((0 ≤ x1 ∧ x1 < ((xs0.length : Nat) : Int)) ∧ ((0 ≤ (IntKind.wrap .i64 (x1 + 1)) ∧ (IntKind.wrap .i64 (x1 + 1)) < ((xs0.length : Nat) : Int)) ∧ ((J41 ((rd xs0 x1).Op, (rd xs0 x1).A, (rd xs0 x1).B, (rd xs0 x1).C, (rd xs0 (IntKind.wrap .i64 (x1 + 1))).Op, (rd xs0 (IntKind.wrap .i64 (x1 + 1))).A, (rd xs0 (IntKind.wrap .i64 (x1 + 1))).B, (rd xs0 (IntKind.wrap .i64 (x1 + 1))).C, ())) ∧ (J41 ((rd xs0 x1).Op, (rd xs0 x1).A, (rd xs0 x1).B, (rd xs0 x1).C, (rd xs0 (IntKind.wrap .i64 (x1 + 1))).Op, (rd xs0 (IntKind.wrap .i64 (x1 + 1))).A, (rd xs0 (IntKind.wrap .i64 (x1 + 1))).B, (rd xs0 (IntKind.wrap .i64 (x1 + 1))).C, ())) ∧ True)))) (fun (p80 : Int × Int × Int × Int × Int × Int × Int × Int × Unit) => match p80 with | (i33, i34, i35, i36, i37, i38, i39, i40, _) => bcase (i33 == 10) (bcase (i35 == (IntKind.wrap .i64 (x1 + 2))) (bcase (i37 == 2) (bcase (i38 != i34) ((M.slices_ContainsFunc_impl_Ins_impl_Ins_pre xs0 (fun z0_ => M.impl_CanPredicate_1 z0_ x1) (fun z0_ => M.impl_CanPredicate_1_pre z0_ x1) ∧ ∀ r71, r71 = M.slices_ContainsFunc_impl_Ins_impl_Ins xs0 (fun z0_ => M.impl_CanPredicate_1 z0_ x1) → Q (!r71))) (Q false)) (Q false)) (Q false)) (Q false))))))
def wp.impl_Predicate (xs0 : List D.Ins) (x1 : Int) (Q : ((List D.Ins) × Bool) → Prop) : Prop :=
  (M.slices_Clone_impl_Ins_impl_Ins_pre xs0 ∧ ∀ r21, r21 = M.slices_Clone_impl_Ins_impl_Ins xs0 → (M.impl_CanPredicate_pre xs0 x1 ∧ ∀ r28, r28 = M.impl_CanPredicate xs0 x1 → bcase (!r28) (Q (r21, false)) (((0 ≤ x1 ∧ x1 < ((r21.length : Nat) : Int)) ∧ ((0 ≤ (IntKind.wrap .i64 (x1 + 1)) ∧ (IntKind.wrap .i64 (x1 + 1)) < ((xs0.length : Nat) : Int)) ∧ ((0 ≤ (IntKind.wrap .i64 (x1 + 1)) ∧ (IntKind.wrap .i64 (x1 + 1)) < ((xs0.length : Nat) : Int)) ∧ ((0 ≤ x1 ∧ x1 < ((xs0.length : Nat) : Int)) ∧ ((0 ≤ (IntKind.wrap .i64 (x1 + 1)) ∧ (IntKind.wrap .i64 (x1 + 1)) < (((List.set r21 (x1.toNat) (⟨0, 0, 0, 0⟩ : D.Ins)).length : Nat) : Int)) ∧ Q ((List.set (List.set r21 (x1.toNat) (⟨0, 0, 0, 0⟩ : D.Ins)) ((IntKind.wrap .i64 (x1 + 1)).toNat) (⟨9, (rd xs0 (IntKind.wrap .i64 (x1 + 1))).A, (rd xs0 (IntKind.wrap .i64 (x1 + 1))).B, (rd xs0 x1).A⟩ : D.Ins)), true)))))))))
def wp.impl_PredicateAll (xs0 : List D.Ins) (Q : ((List D.Ins) × Int) → Prop) : Prop :=
  (M.slices_Clone_impl_Ins_impl_Ins_pre xs0 ∧ ∀ r21, r21 = M.slices_Clone_impl_Ins_impl_Ins xs0 → LoopP (σ := (List D.Ins) × Int × Int × Unit) (fun (p53 : (List D.Ins) × Int × Int × Unit) next36 => match p53 with | (xs28, i31, i32, _) => bcase (decide (i32 < ((xs0.length : Nat) : Int))) ((M.impl_Predicate_pre xs28 i32 ∧ ∀ r38, r38 = M.impl_Predicate xs28 i32 → bcase r38.2 (next36 (r38.1, (IntKind.wrap .i64 (i31 + 1)), (IntKind.wrap .i64 (i32 + 1)), ())) (next36 (xs28, i31, (IntKind.wrap .i64 (i32 + 1)), ())))) (Q (xs28, i31))) (r21, 0, 0, ()))
def wp.impl_SavedSplits (xs0 : List D.Ins) (x1 : Int) (Q : Int → Prop) : Prop :=
  (M.impl_PredicateAll_pre xs0 ∧ ∀ r21, r21 = M.impl_PredicateAll xs0 → (M.impl_CostOf_pre xs0 x1 ∧ ∀ r28, r28 = M.impl_CostOf xs0 x1 → (M.impl_CostOf_pre r21.1 x1 ∧ ∀ r37, r37 = M.impl_CostOf r21.1 x1 → bcase (!r28.2) (Q 0) (bcase (!r37.2) (Q 0) (Q (IntKind.wrap .i64 (r28.1.Splits - r37.1.Splits)))))))
end Go.V
set_option linter.unusedVariables false
set_option linter.unusedSimpArgs false
set_option maxRecDepth 20000
namespace Go.V
theorem wp.impl_isTarget.math (o : Int) : wp.impl_isTarget o (fun r => r = M.impl_isTarget o) := by
  unfold wp.impl_isTarget M.impl_isTarget M.isTarget
  refine bcase_mk (fun e => ?_) fun e => ?_
  · rw [e, Bool.true_or]
  · rw [e, Bool.false_or]
theorem wp.impl_CanPredicate_1.math (i : D.Ins) (b : Int) (h : M.impl_CanPredicate_1_pre i b) : wp.impl_CanPredicate_1 i b (fun r => r = M.impl_CanPredicate_1 i b) := by
  obtain ⟨h0, h1⟩ := h
  unfold wp.impl_CanPredicate_1 M.impl_CanPredicate_1 M.noTarget
  rw [w64 (x := b + 1) (by omega) (by omega)]
  refine fun r hr => bcase_mk (fun e => ?_) fun e => ?_
  · rw [show M.isTarget i.Op = true from hr.symm.trans e, Bool.true_and, Bool.not_not]
  · rw [show M.isTarget i.Op = false from hr.symm.trans e]; rfl
theorem canPred_quiet {p : List D.Ins} {b : Int} (h : M.isQuiet p = false) : M.canPred p b = false := by unfold M.canPred; rw [h, Bool.false_and]
theorem wp.impl_CanPredicate.math (p : List D.Ins) (b : Int) (h : M.impl_CanPredicate_pre p b) : wp.impl_CanPredicate p b (fun r => r = M.impl_CanPredicate p b) := by
  have hs : p.length ≤ 2097152 := h
  unfold wp.impl_CanPredicate
  rw [w64 (x := ((p.length : Nat) : Int) - 2) (by omega) (by omega)]
  refine ⟨by show p.length ≤ 9223372036854775807; omega, fun q hq => bcase_mk (fun e => ?_) fun e => fun c hc => bcase_mk (fun e2 => ?_) fun e2 => ?_⟩
  · have e : q = false := by simpa using e
    exact (canPred_quiet (hq.symm.trans e)).symm
  · have e2 : c = false := by simpa using e2
    have : M.isIn b 0 (((p.length : Nat) : Int) - 2) = false := hc.symm.trans e2
    show false = M.canPred p b
    unfold M.canPred
    rw [this, Bool.false_and, Bool.and_false]
  · have q1 : M.isQuiet p = true := by rw [← show q = M.isQuiet p from hq]; simpa using e
    have q2 : M.isIn b 0 (((p.length : Nat) : Int) - 2) = true := by rw [← show c = M.isIn b 0 (((p.length : Nat) : Int) - 2) from hc]; simpa using e2
    have hM : M.impl_CanPredicate p b = ((rd p b).Op == 10 && ((rd p b).B == b + 2 && ((rd p (b + 1)).Op == 2 && ((rd p (b + 1)).A != (rd p b).A && p.all (M.noTarget b))))) := by
      show M.canPred p b = _
      unfold M.canPred
      rw [q1, q2, Bool.true_and, Bool.true_and]
    rw [hM]
    simp only [M.isIn, Bool.and_eq_true, decide_eq_true_eq] at q2
    rw [w64 (x := b + 1) (by omega) (by omega), w64 (x := b + 2) (by omega) (by omega)]
    refine joinP_of ((rd p b).Op, (rd p b).A, (rd p b).B, (rd p b).C, (rd p (b + 1)).Op, (rd p (b + 1)).A, (rd p (b + 1)).B, (rd p (b + 1)).C, ()) ?_ fun J hJ => ⟨by omega, by omega, hJ, hJ, trivial⟩
    dsimp only
    refine bcase_mk (fun c1 => bcase_mk (fun c2 => bcase_mk (fun c3 => bcase_mk (fun c4 => ⟨⟨by show p.length ≤ 9223372036854775807; omega, fun _ _ => ⟨by omega, by omega⟩⟩, fun r hr => ?_⟩) fun c4 => ?_) fun c3 => ?_) fun c2 => ?_) fun c1 => ?_
    · rw [c1, c2, c3, c4, Bool.true_and, Bool.true_and, Bool.true_and, Bool.true_and, hr]
      show (!(p.any fun i => !M.noTarget b i)) = _
      rw [any_not_all, Bool.not_not]
    · rw [c4, Bool.false_and, Bool.and_false, Bool.and_false, Bool.and_false]
    · rw [c3, Bool.false_and, Bool.and_false, Bool.and_false]
    · rw [c2, Bool.false_and, Bool.and_false]
    · rw [c1, Bool.false_and]
theorem pred_len (p : List D.Ins) (b : Int) : (M.predicate p b).1.length = p.length := by
  unfold M.predicate
  split
  · simp only [List.length_set]
  · rfl
theorem canPred_in {p : List D.Ins} {b : Int} (h : M.canPred p b = true) : 0 ≤ b ∧ b + 1 < ((p.length : Nat) : Int) := by
  simp only [M.canPred, Bool.and_eq_true, M.isIn, decide_eq_true_eq] at h
  have := h.2.1
  omega
theorem wp.impl_Predicate.math (p : List D.Ins) (b : Int) (h : M.impl_Predicate_pre p b) : wp.impl_Predicate p b (fun r => r = M.impl_Predicate p b) := by
  have hs : p.length ≤ 2097152 := h
  unfold wp.impl_Predicate
  refine ⟨by show p.length ≤ 17179869184; omega, fun y hy => ?_⟩
  have hy : y = p := hy
  subst hy
  refine ⟨h, fun r hr => ?_⟩
  have hr : r = M.canPred y b := hr
  refine bcase_mk (fun e => ?_) fun e => ?_
  · have e : M.canPred y b = false := by rw [← hr]; simpa using e
    show (y, false) = M.predicate y b
    unfold M.predicate
    rw [if_neg (by rw [e]; simp)]
  · have e : M.canPred y b = true := by rw [← hr]; simpa using e
    have hin := canPred_in e
    rw [w64 (x := b + 1) (by omega) (by omega), List.length_set]
    refine ⟨by omega, by omega, by omega, by omega, by omega, ?_⟩
    show _ = M.predicate y b
    unfold M.predicate
    rw [if_pos e]
theorem predTo_len (p : List D.Ins) : ∀ k, (M.predTo p k).1.length = p.length
  | 0 => rfl
  | k + 1 => by
    simp only [M.predTo]
    split
    · show (M.predicate _ _).1.length = _
      rw [pred_len]; exact predTo_len p k
    · exact predTo_len p k
theorem predTo_count (p : List D.Ins) : ∀ k, 0 ≤ (M.predTo p k).2 ∧ (M.predTo p k).2 ≤ (k : Int)
  | 0 => by simp [M.predTo]
  | k + 1 => by
    have := predTo_count p k
    simp only [M.predTo]
    split
    · show 0 ≤ (M.predTo p k).2 + 1 ∧ (M.predTo p k).2 + 1 ≤ _
      omega
    · omega
theorem wp.impl_PredicateAll.math (p : List D.Ins) (h : M.impl_PredicateAll_pre p) : wp.impl_PredicateAll p (fun r => r = M.impl_PredicateAll p) := by
  have hs : p.length ≤ 2097152 := h
  unfold wp.impl_PredicateAll
  refine ⟨by show p.length ≤ 17179869184; omega, fun y hy => ?_⟩
  have hy : y = p := hy
  subst hy
  refine loop_n y.length (fun k => ((M.predTo y k).1, (M.predTo y k).2, (k : Int), ())) (fun _ => True) rfl trivial (fun k hk _ next hn => ?_) fun _ next => bcase_f (by simp) rfl
  have hn := hn trivial
  have hc := predTo_count y k
  simp only [M.predTo] at hn
  dsimp only
  refine bcase_t (by simp; omega) ⟨by show (M.predTo y k).1.length ≤ 2097152; rw [predTo_len]; exact hs, fun r hr => ?_⟩
  have hr : r = M.predicate (M.predTo y k).1 (k : Int) := hr
  rw [up64 hk (by omega), w64 (x := (M.predTo y k).2 + 1) (by omega) (by omega), hr]
  refine bcase_mk (fun e2 => ?_) fun e2 => ?_
  · rw [if_pos e2] at hn; exact hn
  · rw [if_neg (by rw [e2]; simp)] at hn
    exact hn
theorem wp.spec_SavedSplits.math (p : List D.Ins) (w : Int) (h : M.spec_SavedSplits_pre p w) : wp.spec_SavedSplits p w (fun r => r = M.spec_SavedSplits p w) := by
  have hs : p.length ≤ 2097152 := h
  refine ⟨h, fun q hq => ⟨by show p.length ≤ 9223372036854775807; omega, fun a ha => ⟨?_, fun b hb => ?_⟩⟩⟩
  all_goals have hq : q = M.predicateAll p := hq
  · show q.1.length ≤ 9223372036854775807
    rw [hq]
    show (M.predTo p p.length).1.length ≤ _
    rw [predTo_len]; omega
  · have ha : a = M.costOf p w := ha
    have hb : b = M.costOf (M.predicateAll p).1 w := by rw [← hq]; exact hb
    unfold M.spec_SavedSplits M.savedSplits
    rw [← ha, ← hb]
    refine bcase_mk (fun e => ?_) fun e => bcase_mk (fun e2 => ?_) fun e2 => ?_
    · have e : a.2 = false := by simpa using e
      rw [e]; rfl
    · have e2 : b.2 = false := by simpa using e2
      rw [e2, Bool.and_false]; rfl
    · have e : a.2 = true := by simpa using e
      have e2 : b.2 = true := by simpa using e2
      rw [e, e2]; rfl
theorem wp.impl_SavedSplits.math (p : List D.Ins) (w : Int) (h : M.impl_SavedSplits_pre p w) : wp.impl_SavedSplits p w (fun r => r = M.impl_SavedSplits p w) := wp.spec_SavedSplits.math p w h
end Go.V
set_option linter.unusedVariables false
namespace Go.V
def wp.spec_l01Once (s0 : D.Cur) (x1 : Int) (Q : (Bool × D.Cur) → Prop) : Prop :=
  (M.spec_l01Below_pre s0 x1 ∧ ∀ r21, r21 = M.spec_l01Below s0 x1 → Q ((r21.1 == 0), (⟨s0.b, r21.2.i, r21.2.h⟩ : D.Cur)))
end Go.V
set_option linter.unusedVariables false
set_option linter.unusedSimpArgs false
set_option maxRecDepth 20000
namespace Go.V
def plainI (i : D.Ins) : Bool := M.isIn i.Op 1 9 && M.insOk i 32
theorem plainI_ok {i : D.Ins} (h : plainI i = true) {n : Int} (hn : 0 ≤ n ∧ n ≤ 32) : M.insOk i n = true ∧ M.isLocal i = true := by
  unfold plainI at h
  rw [Bool.and_eq_true] at h
  obtain ⟨h1, h2⟩ := h
  have h1' := h1
  simp only [M.isIn, Bool.and_eq_true, decide_eq_true_eq] at h1'
  refine ⟨?_, by simp only [M.isLocal, M.isIn, Bool.and_eq_true, decide_eq_true_eq]; omega⟩
  have e : M.isIn n 0 32 = true := by simp only [M.isIn, Bool.and_eq_true, decide_eq_true_eq]; omega
  have e32 : M.isIn 32 0 32 = true := by decide
  unfold M.insOk at h2 ⊢
  rw [e, Bool.true_and]
  rw [e32, Bool.true_and] at h2
  rw [if_neg (by omega : ¬ i.Op = 10), if_neg (by omega : ¬ i.Op = 11)] at h2 ⊢
  exact h2
theorem plain_plainI (c : D.Cur) : plainI (M.spec_l04Plain c).1 = true := by
  unfold plainI
  rw [(plain_good c (n := 32) ⟨by omega, by omega⟩).1, Bool.and_true]
  have h := below_in c (n := 9) (by omega)
  have e : IntKind.wrap .i64 (1 + (M.spec_l01Below c 9).1) = 1 + (M.spec_l01Below c 9).1 := w64 (by omega) (by omega)
  have : (M.spec_l04Plain c).1.Op = 1 + (M.spec_l01Below c 9).1 := by
    unfold M.spec_l04Plain
    simp only
    rw [e]
    split
    · rfl
    split
    · rfl
    split <;> rfl
  rw [this]
  simp only [M.isIn, Bool.and_eq_true, decide_eq_true_eq]
  omega
theorem once_b (c : D.Cur) (n : Int) : (M.once c n).2.b = c.b := below_b c n
theorem once_ok {c : D.Cur} (h : M.CurOk c) (n : Int) : M.CurOk (M.once c n).2 := below_ok h n
theorem set_at {p s : List D.Ins} {x y : D.Ins} : (p ++ x :: s).set p.length y = p ++ y :: s := by
  rw [List.set_append_right _ _ (Nat.le_refl _), Nat.sub_self]; rfl
end Go.V
set_option linter.unusedVariables false
set_option linter.unusedVariables false
set_option linter.unusedSimpArgs false
set_option maxRecDepth 20000
set_option linter.unusedVariables false
set_option linter.unusedSimpArgs false
set_option maxRecDepth 20000
namespace Go.V
theorem wp.spec_l01Once.math (c : D.Cur) (n : Int) (h : M.spec_l01Once_pre c n) : wp.spec_l01Once c n (fun r => r = M.spec_l01Once c n) := by
  refine ⟨h, fun r hr => ?_⟩
  rw [hr, cur_eta (below_b c n)]; rfl
theorem spec_l05Body.dec {c : D.Cur} {p : List D.Ins} {x : Int} (h : M.spec_l05Body_pre c p x) (e : (x == 0) = false) : (IntKind.wrap .i64 (x - 1)).toNat < x.toNat := by
  obtain ⟨_, _, h3, h4⟩ := h
  have e : x ≠ 0 := by simpa using e
  rw [w64 (by omega) (by omega)]; omega
theorem runW_stop (p : List D.Ins) (k : Nat) (x : D.Warp) (n : Int) (h : M.spec_l13Local p x = false) : M.runW p k x n = (x, n) := by
  cases k with
  | zero => rfl
  | succ k => simp only [M.runW]; rw [if_neg (by rw [h]; simp)]
end Go.V
set_option linter.unusedVariables false
set_option linter.unusedSimpArgs false
set_option maxRecDepth 20000
namespace Go.V
theorem has_check : ((List.range 256).all fun m => (List.range 8).all fun i => M.hasLane ((m : Nat) : Int) ((i : Nat) : Int) == m.testBit i) = true := by kernel_rfl
theorem has_bit {m i : Nat} (hm : m < 256) (hi : i < 8) : M.hasLane (m : Int) (i : Int) = m.testBit i := by
  have := List.all_eq_true.1 (List.all_eq_true.1 has_check m (List.mem_range.2 hm)) i (List.mem_range.2 hi)
  exact eq_of_beq this
theorem some_check : ((List.range 256).all fun m => m == 0 || (List.range 8).any fun i => M.hasLane ((m : Nat) : Int) ((i : Nat) : Int)) = true := by kernel_rfl
theorem mask_some {m : Int} (h : M.isMask m = true) (h0 : m ≠ 0) : ∃ i : Nat, i < 8 ∧ M.hasLane m (i : Int) = true := by
  obtain ⟨k, rfl, hk⟩ := isMask_nat h
  have := List.all_eq_true.1 some_check k (List.mem_range.2 hk)
  rw [Bool.or_eq_true, List.any_eq_true] at this
  rcases this with h1 | ⟨i, hi, h1⟩
  · have := eq_of_beq h1; omega
  · exact ⟨i, List.mem_range.1 hi, h1⟩
theorem mask_full {i : Nat} (hi : i < 8) : M.hasLane 255 (i : Int) = true := by
  have := has_bit (m := 255) (i := i) (by omega) hi
  rw [show ((255 : Nat) : Int) = 255 from rfl] at this
  rw [this, show 255 = 2 ^ 8 - 1 from rfl, Nat.testBit_two_pow_sub_one]
  simpa using hi
theorem mask_zero (i : Nat) (hi : i < 8) : M.hasLane 0 (i : Int) = false := by
  have := has_bit (m := 0) (i := i) (by omega) hi
  rw [show ((0 : Nat) : Int) = 0 from rfl] at this
  rw [this]; simp
theorem mask_ext {a b : Int} (ha : M.isMask a = true) (hb : M.isMask b = true) (h : ∀ i : Nat, i < 8 → M.hasLane a (i : Int) = M.hasLane b (i : Int)) : a = b := by
  obtain ⟨m, rfl, hm⟩ := isMask_nat ha
  obtain ⟨n, rfl, hn⟩ := isMask_nat hb
  have : m = n := by
    apply Nat.eq_of_testBit_eq
    intro i
    by_cases hi : i < 8
    · rw [← has_bit hm hi, ← has_bit hn hi, h i hi]
    · have h256 : 256 ≤ 2 ^ i := Nat.pow_le_pow_right (n := 2) (by decide) (show 8 ≤ i by omega)
      rw [Nat.testBit_lt_two_pow (Nat.lt_of_lt_of_le hm h256), Nat.testBit_lt_two_pow (Nat.lt_of_lt_of_le hn h256)]
  rw [this]
theorem bitAt_nat {k : Nat} (hk : k < 8) : M.bitAt (k : Int) = ((2 ^ k : Nat) : Int) := eq_of_beq (List.all_eq_true.1 bit_check k (List.mem_range.2 hk))
theorem zero_fold_has {x : D.Warp} {reg : Int} {i : Nat} (hi : i < 8) : ∀ (l : List Int), (∀ k ∈ l, 0 ≤ k ∧ k ≤ 7) → ∀ z : Nat, z < 256 →
    ∃ z' : Nat, l.foldl (M.zeroStep x reg) (z : Int) = (z' : Int) ∧ z' < 256 ∧ (z'.testBit i = true ↔ z.testBit i = true ∨ ((i : Int) ∈ l ∧ rd x.Regs ((i : Int) * 4 + reg) = 0))
  | [], _, z, hz => ⟨z, rfl, hz, by simp⟩
  | k :: l, hl, z, hz => by
    obtain ⟨h0, h7⟩ := hl k List.mem_cons_self
    obtain ⟨n, rfl⟩ := Int.eq_ofNat_of_zero_le h0
    simp only [List.foldl_cons]
    have hp : 2 ^ n < 256 := Nat.lt_of_lt_of_le (Nat.pow_lt_pow_right (by omega) (show n < 8 by omega)) (Nat.le_refl _)
    by_cases e : rd x.Regs ((n : Int) * 4 + reg) = 0
    · have hst : M.zeroStep x reg (z : Int) (n : Int) = ((z ||| 2 ^ n : Nat) : Int) := by
        unfold M.zeroStep
        rw [if_pos e, bitAt_nat (by omega), bitOr_nat hz hp]
      rw [hst]
      obtain ⟨z', g1, g2, g3⟩ := zero_fold_has hi l (fun k hk => hl k (List.mem_cons_of_mem _ hk)) _ (Nat.or_lt_two_pow (n := 8) hz hp)
      refine ⟨z', g1, g2, g3.trans ?_⟩
      rw [Nat.testBit_or, Bool.or_eq_true, Nat.testBit_two_pow, decide_eq_true_eq, List.mem_cons]
      constructor
      · rintro ((h | rfl) | ⟨h, h'⟩)
        · exact .inl h
        · exact .inr ⟨.inl rfl, e⟩
        · exact .inr ⟨.inr h, h'⟩
      · rintro (h | ⟨h | h, h'⟩)
        · exact .inl (.inl h)
        · exact .inl (.inr (by omega))
        · exact .inr ⟨h, h'⟩
    · have hst : M.zeroStep x reg (z : Int) (n : Int) = (z : Int) := by unfold M.zeroStep; rw [if_neg e]
      rw [hst]
      obtain ⟨z', g1, g2, g3⟩ := zero_fold_has hi l (fun k hk => hl k (List.mem_cons_of_mem _ hk)) z hz
      refine ⟨z', g1, g2, g3.trans ?_⟩
      rw [List.mem_cons]
      constructor
      · rintro (h | ⟨h, h'⟩)
        · exact .inl h
        · exact .inr ⟨.inr h, h'⟩
      · rintro (h | ⟨h | h, h'⟩)
        · exact .inl h
        · exact absurd (h ▸ h') e
        · exact .inr ⟨h, h'⟩
theorem lanesOf_mem {m : Int} {i : Nat} (hi : i < 8) : (i : Int) ∈ M.lanesOf m ↔ M.hasLane m (i : Int) = true := by
  unfold M.lanesOf
  rw [List.mem_filter]
  refine ⟨fun h => h.2, fun h => ⟨?_, h⟩⟩
  have : i = 0 ∨ i = 1 ∨ i = 2 ∨ i = 3 ∨ i = 4 ∨ i = 5 ∨ i = 6 ∨ i = 7 := by omega
  rcases this with rfl | rfl | rfl | rfl | rfl | rfl | rfl | rfl <;> decide
theorem zero_has {x : D.Warp} {reg : Int} {i : Nat} (hi : i < 8) : M.hasLane (M.zeroMask x reg) (i : Int) = true ↔ M.hasLane (M.activeMask x) (i : Int) = true ∧ rd x.Regs ((i : Int) * 4 + reg) = 0 := by
  obtain ⟨z', g1, g2, g3⟩ := zero_fold_has (x := x) (reg := reg) hi (M.lanesOf (M.activeMask x)) (fun k hk => lanes_in hk) 0 (by omega)
  unfold M.zeroMask
  rw [show (0 : Int) = ((0 : Nat) : Int) from rfl, g1, has_bit g2 hi, g3, lanesOf_mem hi]
  simp
theorem minus_has {x : D.Warp} {reg : Int} (h : M.isMask (M.activeMask x) = true) {i : Nat} (hi : i < 8) :
    M.hasLane (bitNot .i64 (M.activeMask x) (M.zeroMask x reg)) (i : Int) = true ↔ M.hasLane (M.activeMask x) (i : Int) = true ∧ ¬ M.hasLane (M.zeroMask x reg) (i : Int) = true := by
  obtain ⟨m, z, hm, hz, h1, h2, hs⟩ := zeroMask_sub (reg := reg) h
  rw [hm, hz, bitNot_nat h1 h2 hs]
  have hc := List.all_eq_true.1 (List.all_eq_true.1 sub_check m (List.mem_range.2 h1)) z (List.mem_range.2 h2)
  simp only [hs, BEq.rfl, Bool.not_true, Bool.false_or, beq_iff_eq] at hc
  have hc' : m - z = m &&& (2 ^ 64 - (z + 1)) := by rw [← hc, Nat.sub_sub, Nat.add_comm]
  rw [has_bit (by omega) hi, has_bit h1 hi, has_bit h2 hi, hc', Nat.testBit_and, Nat.testBit_two_pow_sub_succ (by omega)]
  simp
  intro _ _
  omega
theorem countTo_le {a m : Int} : ∀ k : Nat, k ≤ 8 → (∀ i : Nat, i < k → M.hasLane a (i : Int) = true → M.hasLane m (i : Int) = true) → M.countTo a k ≤ M.countTo m k
  | 0, _, _ => by simp [M.countTo]
  | k + 1, hk, h => by
    have ih := countTo_le k (by omega) fun i hi => h i (by omega)
    simp only [M.countTo]
    split
    · rename_i e
      rw [if_pos (h k (by omega) e)]; omega
    · split <;> omega
theorem countTo_lt {a m : Int} {j : Nat} (hm : M.hasLane m (j : Int) = true) (ha : ¬ M.hasLane a (j : Int) = true) : ∀ k : Nat, k ≤ 8 → j < k → (∀ i : Nat, i < k → M.hasLane a (i : Int) = true → M.hasLane m (i : Int) = true) → M.countTo a k < M.countTo m k
  | 0, _, hj, _ => by omega
  | k + 1, hk, hj, h => by
    simp only [M.countTo]
    by_cases e : j = k
    · subst e
      rw [if_neg ha, if_pos hm]
      have := countTo_le (a := a) (m := m) j (by omega) fun i hi => h i (by omega)
      omega
    · have ih := countTo_lt hm ha k (by omega) (by omega) fun i hi => h i (by omega)
      split
      · rename_i e
        rw [if_pos (h k (by omega) e)]; omega
      · split <;> omega
theorem count_one {m : Int} {i : Nat} (hi : i < 8) (h : M.hasLane m (i : Int) = true) : 1 ≤ M.countTo m 8 := by
  have h0 : M.countTo 0 8 = 0 := by decide
  have := countTo_lt (a := 0) (m := m) h (by rw [mask_zero i hi]; simp) 8 (Nat.le_refl _) hi fun j hj h' => by rw [mask_zero j hj] at h'; cases h'
  omega
def PD (p : List D.Ins) (x r : Int) : Prop := ¬ Rch p r [x] ((p.length : Nat) : Int)
theorem rch_ne {p : List D.Ins} {r x y : Int} (h : Rch p r [x] y) : x ≠ r := by
  induction h with
  | base hs hne => rwa [List.mem_singleton.1 hs] at hne
  | step _ _ _ ih => exact ih
theorem PD.next {p : List D.Ins} {x r y : Int} (h : PD p x r) (hx : x ≠ r) (hy : y ∈ M.nextOf p x) : PD p y r := fun hr => by
  have hne := rch_ne hr
  exact h (rch_via (b := x) (.step (.base (List.mem_singleton.2 rfl) hx) hy hne) hr)
theorem PD.exit {p : List D.Ins} {r : Int} (h : PD p ((p.length : Nat) : Int) r) : r = ((p.length : Nat) : Int) := by
  by_cases e : ((p.length : Nat) : Int) = r
  · exact e.symm
  · exact absurd (.base (List.mem_singleton.2 rfl) e) h
theorem PD.refl {p : List D.Ins} (x : Int) : PD p x x := fun h => rch_ne h rfl
theorem PD.last {p : List D.Ins} (x : Int) : PD p x ((p.length : Nat) : Int) := fun h => by
  have : ∀ y, Rch p ((p.length : Nat) : Int) [x] y → y ≠ ((p.length : Nat) : Int) := fun y hy => by
    cases hy with
    | base _ hne => exact hne
    | step _ _ hne => exact hne
  exact this _ h rfl
def Alone (p : List D.Ins) : Nat → D.Lane → List Int → Prop
  | 0, l, R => l.Pc = ((p.length : Nat) : Int) ∧ l.Regs = R
  | k + 1, l, R => l.Pc < ((p.length : Nat) : Int) ∧ Alone p k (M.step p l) R
theorem Alone.at_end {p : List D.Ins} {k : Nat} {l : D.Lane} {R : List Int} (h : Alone p k l R) (e : l.Pc = ((p.length : Nat) : Int)) : k = 0 ∧ l.Regs = R := by
  cases k with
  | zero => exact ⟨rfl, h.2⟩
  | succ k => have := h.1; omega
theorem Alone.go {p : List D.Ins} {k : Nat} {l : D.Lane} {R : List Int} (h : Alone p k l R) (e : l.Pc ≠ ((p.length : Nat) : Int)) : ∃ j, k = j + 1 ∧ Alone p j (M.step p l) R := by
  cases k with
  | zero => exact absurd h.1 e
  | succ k => exact ⟨k, rfl, h.2⟩
theorem alone_run {p : List D.Ins} : ∀ (k N : Nat) (l : D.Lane) (n : Int) (R : List Int), Alone p k l R → k ≤ N → (M.runN p N l n).2 = n + (k : Int) ∧ (M.runN p N l n).1.Pc = ((p.length : Nat) : Int) ∧ (M.runN p N l n).1.Regs = R
  | 0, N, l, n, R, h, hk => by
    have e : M.runN p N l n = (l, n) := runN_end p N l n (by have := h.1; omega)
    rw [e]; exact ⟨by simp, h.1, h.2⟩
  | k + 1, N + 1, l, n, R, h, hk => by
    rw [M.runN, if_pos h.1]
    obtain ⟨g1, g2, g3⟩ := alone_run k N _ (n + 1) R h.2 (by omega)
    exact ⟨by rw [g1]; push_cast; omega, g2, g3⟩
theorem alone_reach {p : List D.Ins} (hp : M.programOk p = true) : ∀ (k : Nat) (l : D.Lane) (R : List Int), Alone p k l R → 0 ≤ l.Pc → Rch p (-1) [l.Pc] ((p.length : Nat) : Int)
  | 0, l, R, h, h0 => by rw [h.1]; exact .base (List.mem_singleton.2 rfl) (by omega)
  | k + 1, l, R, h, h0 => by
    have hn : (M.step p l).Pc ∈ M.nextOf p l.Pc := by
      show M.next p l.Pc l.Regs ∈ _
      unfold M.next M.nextOf
      rw [if_neg (by have := h.1; omega)]
      split
      · simp
      split
      · simp
      split
      · split <;> (rw [putTwo_mem]; simp)
      · simp
    have hin : M.nodeIn p (M.step p l).Pc := (next_ok ⟨hp, h0, by have := h.1; omega⟩).1 _ hn
    exact rch_via (b := l.Pc) (.step (.base (List.mem_singleton.2 rfl) (by omega)) hn (by have := hin.1; omega)) (alone_reach hp k _ R h.2 hin.1)
end Go.V
set_option linter.unusedVariables false
set_option linter.unusedSimpArgs false
set_option maxRecDepth 20000
namespace Go.V
def loc (n : Int) : List D.Frame → Nat → Int
  | [], _ => n
  | f :: r, i => if M.hasLane f.Mask (i : Int) = true then f.Pc else loc n r i
structure Under (A P : D.Frame) : Prop where
  stop : A.Stop = P.Pc
  sub : ∀ i : Nat, i < 8 → M.hasLane A.Mask (i : Int) = true → M.hasLane P.Mask (i : Int) = true
  less : M.countTo A.Mask 8 < M.countTo P.Mask 8
inductive Stk (n : Int) : List D.Frame → Prop
  | base {f : D.Frame} : f.Mask = 255 → f.Stop = n → Stk n [f]
  | one {A P : D.Frame} {r : List D.Frame} : Stk n (P :: r) → Under A P → Stk n (A :: P :: r)
  | two {B A P : D.Frame} {r : List D.Frame} : Stk n (P :: r) → Under A P → Under B P → (∀ i : Nat, i < 8 → M.hasLane A.Mask (i : Int) = true → ¬ M.hasLane B.Mask (i : Int) = true) → Stk n (B :: A :: P :: r)
theorem Stk.pop {n : Int} {f : D.Frame} {r : List D.Frame} (h : Stk n (f :: r)) (e : f.Pc = f.Stop) : (r = [] ∨ Stk n r) ∧ ∀ i : Nat, i < 8 → loc n r i = loc n (f :: r) i := by
  cases h with
  | base h1 h2 =>
    refine ⟨.inl rfl, fun i hi => ?_⟩
    simp only [loc]
    rw [h1, mask_full hi, if_pos rfl, e, h2]
  | one h1 h2 =>
    refine ⟨.inr h1, fun i hi => ?_⟩
    simp only [loc]
    by_cases g : M.hasLane f.Mask (i : Int) = true
    · rw [if_pos g, if_pos (h2.sub i hi g), e, h2.stop]
    · rw [if_neg g]
  | two h1 h2 h3 h4 =>
    refine ⟨.inr (.one h1 h2), fun i hi => ?_⟩
    simp only [loc]
    by_cases g : M.hasLane f.Mask (i : Int) = true
    · rw [if_pos g, if_neg (fun g' => h4 i hi g' g), if_pos (h3.sub i hi g), e, h3.stop]
    · rw [if_neg g]
theorem Stk.set {n : Int} {f : D.Frame} {r : List D.Frame} (h : Stk n (f :: r)) (pc : Int) : Stk n (⟨pc, f.Stop, f.Mask⟩ :: r) := by
  cases h with
  | base h1 h2 => exact .base h1 h2
  | one h1 h2 => exact .one h1 ⟨h2.stop, h2.sub, h2.less⟩
  | two h1 h2 h3 h4 => exact .two h1 h2 ⟨h3.stop, h3.sub, h3.less⟩ h4
theorem Stk.long {n : Int} {fs : List D.Frame} (h : Stk n fs) : ∀ f r, fs = f :: r → ((fs.length : Nat) : Int) ≤ 17 - 2 * M.countTo f.Mask 8 := by
  induction h with
  | base h1 h2 =>
    rintro f r e
    cases e
    have : M.countTo 255 8 = 8 := by decide
    rw [h1, this]; simp
  | one h1 h2 ih =>
    rintro f r e
    cases e
    have := ih _ _ rfl
    have := h2.less
    simp only [List.length_cons] at *
    omega
  | two h1 h2 h3 h4 ih =>
    rintro f r e
    cases e
    have := ih _ _ rfl
    have := h3.less
    simp only [List.length_cons] at *
    omega
def dropR (n : Int) : List D.Frame → List D.Frame
  | [] => []
  | f :: r => if f.Pc ≠ f.Stop ∧ f.Pc ≠ n then f :: r else dropR n r
theorem dropN_rev (fs : List D.Frame) (n : Int) : ∀ k, k ≤ fs.length → (M.dropN fs n k).reverse = dropR n (fs.take k).reverse
  | 0, _ => by simp [M.dropN, dropR]
  | k + 1, hk => by
    have ih := dropN_rev fs n k (by omega)
    rw [M.dropN, List.take_add_one, List.getElem?_eq_getElem (by omega : k < fs.length), Option.toList_some, List.reverse_append, List.reverse_singleton, List.singleton_append, dropR, rd_nat (by omega)]
    split
    · rw [List.reverse_append, List.reverse_singleton, List.singleton_append]
    · exact ih
theorem dropF_rev (fs : List D.Frame) (n : Int) : (M.dropF fs n).reverse = dropR n fs.reverse := by
  have := dropN_rev fs n fs.length (Nat.le_refl _)
  rw [List.take_length] at this
  exact this
theorem dropR_sub (n : Int) : ∀ fs : List D.Frame, ∀ f ∈ dropR n fs, f ∈ fs
  | [], f, h => h
  | g :: r, f, h => by
    rw [dropR] at h
    split at h
    · exact h
    · exact List.mem_cons_of_mem _ (dropR_sub n r f h)
theorem dropR_good {p : List D.Ins} : ∀ fs : List D.Frame, (fs = [] ∨ Stk p.length fs) → (∀ f ∈ fs, PD p f.Pc f.Stop) →
    (dropR p.length fs = [] ∨ Stk p.length (dropR p.length fs)) ∧ ∀ i : Nat, i < 8 → loc p.length (dropR p.length fs) i = loc p.length fs i
  | [], _, _ => ⟨.inl rfl, fun _ _ => rfl⟩
  | f :: r, h, hpd => by
    have h := h.resolve_left (by simp)
    rw [dropR]
    split
    · exact ⟨.inr h, fun _ _ => rfl⟩
    · rename_i e
      have hf := hpd f List.mem_cons_self
      have e' : f.Pc = f.Stop := by
        by_cases h1 : f.Pc = f.Stop
        · exact h1
        · have : f.Pc = ((p.length : Nat) : Int) := by
            by_cases h2 : f.Pc = ((p.length : Nat) : Int)
            · exact h2
            · exact absurd ⟨h1, h2⟩ e
          rw [this] at hf ⊢
          exact hf.exit.symm
      obtain ⟨g1, g2⟩ := h.pop e'
      obtain ⟨k1, k2⟩ := dropR_good r g1 fun g hg => hpd g (List.mem_cons_of_mem _ hg)
      exact ⟨k1, fun i hi => (k2 i hi).trans (g2 i hi)⟩
structure LInv (p : List D.Ins) (x : D.Warp) (rem : Nat → Nat) (R : Nat → List Int) : Prop where
  stk : x.Frames = [] ∨ Stk p.length x.Frames.reverse
  pd : ∀ f ∈ x.Frames, PD p f.Pc f.Stop
  lane : ∀ i : Nat, i < 8 → Alone p (rem i) ⟨x.Number * 8 + (i : Int), loc p.length x.Frames.reverse i, M.laneCut x.Regs i⟩ (R i)
theorem LInv.drop {p : List D.Ins} {x : D.Warp} {rem : Nat → Nat} {R : Nat → List Int} (h : LInv p x rem R) : LInv p (M.dropW x p.length) rem R := by
  have hs : x.Frames.reverse = [] ∨ Stk p.length x.Frames.reverse := h.stk.imp (fun e => by rw [e]; rfl) id
  obtain ⟨k1, k2⟩ := dropR_good x.Frames.reverse hs fun f hf => h.pd f (List.mem_reverse.1 hf)
  rw [← dropF_rev] at k1 k2
  refine ⟨k1.imp (fun e => List.reverse_eq_nil_iff.1 e) id, fun f hf => h.pd f ?_, fun i hi => ?_⟩
  · have : f ∈ dropR p.length x.Frames.reverse := by rw [← dropF_rev]; exact List.mem_reverse.2 hf
    exact List.mem_reverse.1 (dropR_sub _ _ f this)
  · have := h.lane i hi
    rw [← k2 i hi] at this
    exact this
theorem cut_put_same {r x : List Int} {l : Nat} (h : r.length = 32) (hl : l < 8) (hx : x.length = 4) : M.laneCut (M.putLane r l x) l = x := by
  apply List.ext_getElem?
  intro i
  rw [laneCut_get]
  by_cases hi : i < 4
  · rw [if_pos hi, putLane_get h hl hx, if_pos (by omega)]
    congr 1; omega
  · rw [if_neg hi, List.getElem?_eq_none (by omega)]
theorem applyTo_lane {i : D.Ins} {num m : Int} {r : List Int} (h : r.length = 32) : ∀ k, k ≤ 8 → ∀ j : Nat, j < k → M.laneCut (M.applyTo i num m r k) j = if M.hasLane m (j : Int) = true then M.apply i (num * 8 + (j : Int)) (M.laneCut r j) else M.laneCut r j
  | 0, _, j, hj => by omega
  | k + 1, hk, j, hj => by
    have hl := applyTo_len (i := i) (num := num) (m := m) h k (by omega)
    have ha : (M.apply i (num * 8 + (k : Int)) (M.laneCut r k)).length = 4 := by rw [apply_len, laneCut_len h (by omega)]
    simp only [M.applyTo]
    by_cases e : j = k
    · subst e
      by_cases g : M.hasLane m (j : Int) = true
      · rw [if_pos g, if_pos g, cut_put_same hl (by omega) ha]
      · rw [if_neg g, if_neg g, applyTo_cut h j (by omega) j (Nat.le_refl _)]
    · have ih := applyTo_lane (i := i) (num := num) (m := m) h k (by omega) j (by omega)
      split
      · rw [cut_put_other hl (by omega) ha e, ih]
      · exact ih
theorem applyAll_lane {i : D.Ins} {num m : Int} {r : List Int} (h : r.length = 32) {j : Nat} (hj : j < 8) : M.laneCut (M.applyAll i num m r) j = if M.hasLane m (j : Int) = true then M.apply i (num * 8 + (j : Int)) (M.laneCut r j) else M.laneCut r j :=
  applyTo_lane h 8 (Nat.le_refl _) j hj
theorem rd_lane {r : List Int} (h : r.length = 32) {j : Nat} (hj : j < 8) {a : Int} (ha : M.isReg a = true) : rd (M.laneCut r j) a = rd r ((j : Int) * 4 + a) := by
  rw [isReg_iff] at ha
  unfold M.laneCut
  rw [rd_cut ha.1 (by omega) (by omega), show ((j * 4 : Nat) : Int) = (j : Int) * 4 by push_cast; rfl]
theorem setTop_app (bs : List D.Frame) (f : D.Frame) (pc : Int) : M.setTop (bs ++ [f]) pc = bs ++ [⟨pc, f.Stop, f.Mask⟩] := by
  have hl : M.lastF (bs ++ [f]) = f := by
    unfold M.lastF
    rw [List.length_append, List.length_singleton, show (((bs.length + 1 : Nat) : Int) - 1) = ((bs.length : Nat) : Int) by omega, rd_nat (by simp), List.getElem_append_right (Nat.le_refl _)]
    simp
  unfold M.setTop
  rw [hl, List.length_append, List.length_singleton, Nat.add_sub_cancel, List.set_append_right _ _ (Nat.le_refl _), Nat.sub_self]; rfl
theorem lastF_app (bs : List D.Frame) (f : D.Frame) : M.lastF (bs ++ [f]) = f := by
  unfold M.lastF
  rw [List.length_append, List.length_singleton, show (((bs.length + 1 : Nat) : Int) - 1) = ((bs.length : Nat) : Int) by omega, rd_nat (by simp), List.getElem_append_right (Nat.le_refl _)]
  simp
theorem app_last {fs : List D.Frame} (h : fs ≠ []) : ∃ bs, fs = bs ++ [M.lastF fs] := by
  refine ⟨fs.dropLast, ?_⟩
  have e := (List.dropLast_concat_getLast h).symm
  have : M.lastF fs = fs.getLast h := by
    have h2 : M.lastF fs = M.lastF (fs.dropLast ++ [fs.getLast h]) := by rw [← e]
    rw [h2, lastF_app]
  rw [this]; exact e
theorem top_ends {p : List D.Ins} {x : D.Warp} (h : M.Runs p x) : (M.lastF x.Frames).Pc ≠ (M.lastF x.Frames).Stop ∧ (M.lastF x.Frames).Mask ≠ 0 := by
  obtain ⟨hp, hw, hx⟩ := h
  simp only [M.warpOf, M.areFrames, Bool.and_eq_true, Bool.or_eq_true] at hw
  obtain ⟨h1, h2, h3, h4, h5⟩ := hw
  have h5 := h5.resolve_left (by simpa using hx)
  have hf := List.all_eq_true.1 h4 _ (mem_lastF hx)
  simp only [M.endsOk, M.frameOk, Bool.and_eq_true, decide_eq_true_eq, beq_iff_eq, bne_iff_ne] at h5 hf
  exact ⟨h5.2.1, hf.2.2.2⟩
theorem turn_next {p : List D.Ins} {x : D.Warp} (h : M.Runs p x) : M.turnPc p x ∈ M.nextOf p (M.topPc x) := by
  obtain ⟨t1, t2, t3, t4, t5, t6, t7, t8, t9⟩ := runs_top h
  unfold M.turnPc M.nextOf
  rw [if_neg (show ¬ M.topPc x = ((p.length : Nat) : Int) by omega), show rd p (M.topPc x) = M.topIns p x from rfl]
  by_cases h12 : (M.topIns p x).Op = 12
  · rw [if_pos h12, if_pos h12]; simp
  rw [if_neg h12, if_neg h12]
  by_cases h11 : (M.topIns p x).Op = 11
  · rw [if_pos h11, if_pos h11]; simp
  rw [if_neg h11, if_neg h11]
  by_cases h10 : (M.topIns p x).Op = 10
  · rw [if_pos h10]
    split <;> (rw [putTwo_mem]; simp)
  · rw [if_neg h10, if_neg (fun h => h10 h.1)]; simp
theorem firstS_prop {p : List D.Ins} {all : List Int} : ∀ l : List Int, M.firstS p all l ≠ -1 → all.all (M.afterB p (M.firstS p all l)) = true
  | [], h => absurd rfl h
  | y :: l, h => by
    rw [M.firstS] at h ⊢
    split at h
    · rename_i e; rw [if_pos e]; exact e
    · rename_i e; rw [if_neg e]; exact firstS_prop l h
theorem next_turn {p : List D.Ins} {x : D.Warp} (h : M.Runs p x) (hs : M.splits p x = false) {i : Nat} (hi : i < 8) (ha : M.hasLane (M.lastF x.Frames).Mask (i : Int) = true) : M.next p (M.topPc x) (M.laneCut x.Regs i) = M.turnPc p x := by
  obtain ⟨t1, t2, t3, t4, t5, t6, t7, t8, t9⟩ := runs_top h
  obtain ⟨f1, f2, f3, f4, f5, f6⟩ := runs_frames h
  have hact := activeMask_top h.2.2
  have e : rd p (M.topPc x) = M.topIns p x := rfl
  unfold M.next M.turnPc
  rw [e]
  split
  · rfl
  split
  · rfl
  by_cases h10 : (M.topIns p x).Op = 10
  · rw [if_pos h10]
    have hreg := zero_reg t7 h10
    rw [rd_lane t4 hi hreg]
    have hz := zero_has (x := x) (reg := (M.topIns p x).A) hi
    rw [hact] at hz
    obtain ⟨m1, m2, m3⟩ := mask_part (x := x) (reg := (M.topIns p x).A) (by rw [hact]; exact f5)
    by_cases hB : (M.topIns p x).B = M.topPc x + 1
    · rw [hB]; simp
    · simp only [M.splits, h10, Bool.and_eq_false_iff, bne_eq_false_iff_eq, beq_self_eq_true, Bool.true_and] at hs
      have hs := hs.resolve_left (by simpa using hB)
      by_cases g : rd x.Regs ((i : Int) * 4 + (M.topIns p x).A) = 0
      · rw [if_pos g]
        have hzi := hz.2 ⟨ha, g⟩
        rcases hs with hs | hs
        · rw [hs, mask_zero i hi] at hzi; cases hzi
        · rw [if_pos ⟨h10, hs⟩]
      · rw [if_neg g]
        rcases hs with hs | hs
        · have hne : M.zeroMask x (M.topIns p x).A ≠ (M.lastF x.Frames).Mask := by
            rw [hs]; exact (top_ends h).2.symm
          rw [if_neg (fun h => hne h.2)]
        · rw [← hs] at ha
          exact absurd (hz.1 ha).2 g
  · rw [if_neg h10, if_neg (fun h => h10 h.1)]
theorem LInv.step {p : List D.Ins} {x : D.Warp} {rem : Nat → Nat} {R : Nat → List Int} (h : LInv p x rem R) (hq : M.isQuiet p = true) (hF : M.Fine p x) (hx : x.Frames ≠ []) :
    M.spec_l13Local p x = true ∧ ∃ rem' : Nat → Nat, LInv p (M.stepW p x) rem' R ∧ ∀ i : Nat, i < 8 → rem i = rem' i + if M.hasLane (M.activeMask x) (i : Int) = true then 1 else 0 := by
  have hr : M.Runs p x := ⟨hF.1, hF.2, hx⟩
  obtain ⟨t1, t2, t3, t4, t5, t6, t7, t8, t9⟩ := runs_top hr
  obtain ⟨f1, f2, f3, f4, f5, f6⟩ := runs_frames hr
  obtain ⟨e1, e2⟩ := top_ends hr
  have hact := activeMask_top hx
  obtain ⟨bs, hbs⟩ := app_last hx
  have hrev : x.Frames.reverse = M.lastF x.Frames :: bs.reverse := by
    conv => lhs; rw [hbs]
    rw [List.reverse_append, List.reverse_singleton, List.singleton_append]
  have hstk := h.stk.resolve_left hx
  rw [hrev] at hstk
  have hpdf := h.pd _ (mem_lastF hx)
  have hpdb : ∀ f ∈ bs, PD p f.Pc f.Stop := fun f hf => h.pd f (by rw [hbs]; exact List.mem_append_left _ hf)
  have hlen : x.Frames.length ≤ 15 := by
    have h1 := hstk.long _ _ rfl
    have h2 : (M.lastF x.Frames :: bs.reverse).length = x.Frames.length := by rw [← hrev, List.length_reverse]
    obtain ⟨i, hi, hh⟩ := mask_some f5 e2
    have := count_one hi hh
    rw [h2] at h1
    omega
  have hlocal : M.isLocal (M.topIns p x) = true := quiet_local hq t5 t6
  have hl : M.spec_l13Local p x = true := by
    unfold M.spec_l13Local
    rw [hlocal]
    have : x.Frames.isEmpty = false := by simpa using hx
    rw [this, decide_eq_true (by omega : x.Frames.length ≤ 22)]
    simp
  refine ⟨hl, ?_⟩
  have hloc : ∀ i : Nat, loc p.length x.Frames.reverse i = if M.hasLane (M.lastF x.Frames).Mask (i : Int) = true then M.topPc x else loc p.length bs.reverse i := fun i => by rw [hrev]; rfl
  -- lanes: those active go one step
  have hgo : ∀ i : Nat, i < 8 → M.hasLane (M.lastF x.Frames).Mask (i : Int) = true → ∃ j, rem i = j + 1 ∧ Alone p j ⟨x.Number * 8 + (i : Int), M.next p (M.topPc x) (M.laneCut x.Regs i), M.apply (M.topIns p x) (x.Number * 8 + (i : Int)) (M.laneCut x.Regs i)⟩ (R i) := fun i hi ha => by
    have hL := h.lane i hi
    rw [hloc i, if_pos ha] at hL
    exact hL.go (by show M.topPc x ≠ _; omega)
  let rem' : Nat → Nat := fun i => if M.hasLane (M.lastF x.Frames).Mask (i : Int) = true then rem i - 1 else rem i
  have hrem : ∀ i : Nat, i < 8 → rem i = rem' i + if M.hasLane (M.activeMask x) (i : Int) = true then 1 else 0 := fun i hi => by
    rw [hact]
    show rem i = (if _ then _ else _) + _
    by_cases ha : M.hasLane (M.lastF x.Frames).Mask (i : Int) = true
    · obtain ⟨j, hj, _⟩ := hgo i hi ha
      rw [if_pos ha, if_pos ha]; omega
    · rw [if_neg ha, if_neg ha]; rfl
  refine ⟨rem', ?_, hrem⟩
  unfold M.stepW
  by_cases hs : M.splits p x = true
  · rw [if_pos hs]
    obtain ⟨⟨h10, hB⟩, hz0, hzm⟩ := splits_iff hs
    have hbr := split_branch hr ⟨h10, hB⟩
    obtain ⟨m1, m2, m3⟩ := mask_part (x := x) (reg := (M.topIns p x).A) (by rw [hact]; exact f5)
    have hz := fun (i : Nat) (hi : i < 8) => zero_has (x := x) (reg := (M.topIns p x).A) hi
    have hm := fun (i : Nat) (hi : i < 8) => minus_has (x := x) (reg := (M.topIns p x).A) (by rw [hact]; exact f5) hi
    rw [hact] at m2 m3 hz hm
    have hreg := zero_reg t7 h10
    have hN : M.Node p (M.topPc x) := ⟨hF.1, by omega, by omega⟩
    have hnx : M.nextOf p (M.topPc x) = M.putTwo (M.topPc x + 1) (M.topIns p x).B := by
      unfold M.nextOf
      rw [if_neg (by omega), show rd p (M.topPc x) = M.topIns p x from rfl, if_neg (by omega), if_neg (by omega), if_pos h10]
    have hn1 : M.topPc x + 1 ∈ M.nextOf p (M.topPc x) := by rw [hnx, putTwo_mem]; simp
    have hn2 : (M.topIns p x).B ∈ M.nextOf p (M.topPc x) := by rw [hnx, putTwo_mem]; simp
    have hin1 := (next_ok hN).1 _ hn1
    have hin2 := (next_ok hN).1 _ hn2
    have hnext : ∀ i : Nat, i < 8 → M.next p (M.topPc x) (M.laneCut x.Regs i) = if rd x.Regs ((i : Int) * 4 + (M.topIns p x).A) = 0 then (M.topIns p x).B else M.topPc x + 1 := fun i hi => by
      unfold M.next
      rw [show rd p (M.topPc x) = M.topIns p x from rfl, if_neg (by omega), if_neg (by omega), if_pos h10, rd_lane t4 hi hreg]
    have happ : ∀ i : Nat, M.apply (M.topIns p x) (x.Number * 8 + (i : Int)) (M.laneCut x.Regs i) = M.laneCut x.Regs i := fun i => by
      unfold M.apply
      rw [if_neg (by omega), if_neg (by omega), if_neg (by omega), if_neg (by omega), if_neg (by omega), if_neg (by omega), if_neg (by omega), if_neg (by omega), if_neg (by omega)]
    -- a lane on each side
    obtain ⟨iz, hiz, hzi⟩ := mask_some m1 hz0
    obtain ⟨im, him, hmi⟩ : ∃ i : Nat, i < 8 ∧ M.hasLane (bitNot .i64 (M.lastF x.Frames).Mask (M.zeroMask x (M.topIns p x).A)) (i : Int) = true := by
      have : ∃ i : Nat, i < 8 ∧ M.hasLane (M.lastF x.Frames).Mask (i : Int) = true ∧ ¬ M.hasLane (M.zeroMask x (M.topIns p x).A) (i : Int) = true := by
        apply Classical.byContradiction
        intro hno
        apply hzm
        refine mask_ext m1 f5 fun i hi => ?_
        by_cases g : M.hasLane (M.lastF x.Frames).Mask (i : Int) = true
        · have : M.hasLane (M.zeroMask x (M.topIns p x).A) (i : Int) = true := by
            apply Classical.byContradiction
            intro g'
            exact hno ⟨i, hi, g, g'⟩
          rw [g, this]
        · have : ¬ M.hasLane (M.zeroMask x (M.topIns p x).A) (i : Int) = true := fun g' => g ((hz i hi).1 g').1
          rw [Bool.not_eq_true] at g this
          rw [g, this]
      obtain ⟨i, hi, g⟩ := this
      exact ⟨i, hi, (hm i hi).2 g⟩
    have hmz := (hm im him).1 hmi
    have hzz := (hz iz hiz).1 hzi
    have hmnz : ¬ rd x.Regs ((im : Int) * 4 + (M.topIns p x).A) = 0 := fun g => hmz.2 ((hz im him).2 ⟨hmz.1, g⟩)
    -- both successors reach the exit
    have hn : M.nodeIn p ((p.length : Nat) : Int) := ⟨by omega, by omega⟩
    have ex1 : M.exitB p (M.topPc x + 1) = true := by
      obtain ⟨j, _, hj⟩ := hgo im him hmz.1
      rw [hnext im him, if_neg hmnz] at hj
      exact (reached_iff hF.1 (fun x hx => by obtain rfl := List.mem_singleton.1 hx; exact hin1) hn).2 (alone_reach hF.1 j _ _ hj hin1.1)
    have ex2 : M.exitB p (M.topIns p x).B = true := by
      obtain ⟨j, _, hj⟩ := hgo iz hiz hzz.1
      rw [hnext iz hiz, if_pos hzz.2] at hj
      exact (reached_iff hF.1 (fun x hx => by obtain rfl := List.mem_singleton.1 hx; exact hin2) hn).2 (alone_reach hF.1 j _ _ hj hin2.1)
    have hjoin : M.joinB p (M.topPc x) = M.firstAfter p (M.topPc x) := by
      unfold M.joinB
      rw [if_pos (by rw [ex1, show rd p (M.topPc x) = M.topIns p x from rfl, ex2]; rfl)]
    have exb : M.exitB p (M.topPc x) = true := by
      refine (reached_iff hF.1 (fun x hx => by obtain rfl := List.mem_singleton.1 hx; exact hN.2) hn).2 ?_
      have hx1 := (reached_iff hF.1 (fun x hx => by obtain rfl := List.mem_singleton.1 hx; exact hin1) hn).1 ex1
      exact rch_via (b := M.topPc x) (y := -1) (.step (.base (List.mem_singleton.2 rfl) (by omega)) hn1 (by have := hin1.1; omega)) hx1
    have hfi := first_in hN (by omega) exb
    obtain ⟨fN, fne, _, fA⟩ := afters_nodes hfi
    have hmem : ∀ r, M.nodeIn p r → r ≠ M.topPc x → PD p (M.topPc x) r → r ∈ M.others (M.aftersOf p (M.topPc x)) (M.topPc x) := by
      intro r hr hrb ha
      unfold M.others M.aftersOf
      rw [if_pos (by simp only [Bool.and_eq_true]; exact ⟨isNode_iff.2 hN, exb⟩)]
      refine List.mem_filter.2 ⟨mem_idx.2 ⟨r.toNat, by unfold M.nodeIn at hr; omega, by unfold M.nodeIn at hr; omega, (afterB_iff hN).2 ha⟩, by simpa using hrb⟩
    have hfall : (M.others (M.aftersOf p (M.topPc x)) (M.topPc x)).all (M.afterB p (M.firstAfter p (M.topPc x))) = true := firstS_prop _ (by
      have := fN.2.1
      show M.firstAfter p (M.topPc x) ≠ -1
      omega)
    have hpdj : PD p (M.topPc x) (M.joinB p (M.topPc x)) := by rw [hjoin]; exact (afterB_iff hN).1 fA
    have hjne : M.topPc x ≠ M.joinB p (M.topPc x) := by
      rw [hjoin]
      have := (List.mem_filter.1 hfi).2
      intro e
      rw [← e] at this
      simp at this
    have hstop : M.nodeIn p (M.lastF x.Frames).Stop := by
      have := List.all_eq_true.1 f1 _ (mem_lastF hx)
      simp only [M.frameOk, M.isIn, Bool.and_eq_true, decide_eq_true_eq] at this
      exact this.2.1
    have hpds : PD p (M.joinB p (M.topPc x)) (M.lastF x.Frames).Stop := by
      have := List.all_eq_true.1 hfall _ (hmem _ hstop (Ne.symm e1) hpdf)
      rw [hjoin]
      exact (afterB_iff fN).1 this
    apply LInv.drop
    let P : D.Frame := ⟨M.joinB p (M.topPc x), (M.lastF x.Frames).Stop, (M.lastF x.Frames).Mask⟩
    let A : D.Frame := ⟨M.topPc x + 1, M.joinB p (M.topPc x), bitNot .i64 (M.lastF x.Frames).Mask (M.zeroMask x (M.topIns p x).A)⟩
    let B : D.Frame := ⟨(M.topIns p x).B, M.joinB p (M.topPc x), M.zeroMask x (M.topIns p x).A⟩
    have hfr : (M.separated p x).Frames = bs ++ [P] ++ [A, B] := by
      show M.setTop x.Frames _ ++ _ = _
      congr 1
      conv => lhs; rw [hbs]
      exact setTop_app bs _ _
    have hrev' : (M.separated p x).Frames.reverse = B :: A :: P :: bs.reverse := by
      rw [hfr]; simp
    have hnum : (M.separated p x).Number = x.Number := rfl
    have hregs : (M.separated p x).Regs = x.Regs := rfl
    refine ⟨.inr ?_, fun f hf => ?_, fun i hi => ?_⟩
    · rw [hrev']
      refine .two (hstk.set _) ⟨rfl, fun i hi g => ((hm i hi).1 g).1, ?_⟩ ⟨rfl, fun i hi g => ((hz i hi).1 g).1, ?_⟩ fun i hi g => ((hm i hi).1 g).2
      · exact countTo_lt hzz.1 (fun g => ((hm iz hiz).1 g).2 hzi) 8 (Nat.le_refl _) hiz fun i hi g => ((hm i hi).1 g).1
      · exact countTo_lt hmz.1 hmz.2 8 (Nat.le_refl _) him fun i hi g => ((hz i hi).1 g).1
    · rw [hfr] at hf
      rcases List.mem_append.1 hf with hf | hf
      · rcases List.mem_append.1 hf with hf | hf
        · exact hpdb f hf
        · obtain rfl := List.mem_singleton.1 hf
          exact hpds
      · simp only [List.mem_cons, List.not_mem_nil, or_false] at hf
        rcases hf with rfl | rfl
        · exact hpdj.next hjne hn1
        · exact hpdj.next hjne hn2
    · rw [hrev', hnum, hregs]
      show Alone p (if _ then _ else _) ⟨_, (if M.hasLane (M.zeroMask x (M.topIns p x).A) (i : Int) = true then (M.topIns p x).B else if M.hasLane (bitNot .i64 (M.lastF x.Frames).Mask (M.zeroMask x (M.topIns p x).A)) (i : Int) = true then M.topPc x + 1 else if M.hasLane (M.lastF x.Frames).Mask (i : Int) = true then M.joinB p (M.topPc x) else loc p.length bs.reverse i), _⟩ _
      by_cases ha : M.hasLane (M.lastF x.Frames).Mask (i : Int) = true
      · obtain ⟨j, hj, hA⟩ := hgo i hi ha
        rw [hnext i hi, happ i] at hA
        rw [if_pos ha, hj, Nat.add_sub_cancel]
        by_cases g : rd x.Regs ((i : Int) * 4 + (M.topIns p x).A) = 0
        · rw [if_pos ((hz i hi).2 ⟨ha, g⟩)]
          rw [if_pos g] at hA
          exact hA
        · have hnz : ¬ M.hasLane (M.zeroMask x (M.topIns p x).A) (i : Int) = true := fun g' => g ((hz i hi).1 g').2
          rw [if_neg hnz, if_pos ((hm i hi).2 ⟨ha, hnz⟩)]
          rw [if_neg g] at hA
          exact hA
      · rw [if_neg ha, if_neg (fun g => ha ((hz i hi).1 g).1), if_neg (fun g => ha ((hm i hi).1 g).1), if_neg ha]
        have := h.lane i hi
        rw [hloc i, if_neg ha] at this
        exact this
  · rw [if_neg hs]
    have hs : M.splits p x = false := by simpa using hs
    apply LInv.drop
    have hfr : (M.advance p x).Frames = bs ++ [⟨M.turnPc p x, (M.lastF x.Frames).Stop, (M.lastF x.Frames).Mask⟩] := by
      show M.setTop x.Frames (M.turnPc p x) = _
      conv => lhs; rw [hbs]
      exact setTop_app bs _ _
    have hrev' : (M.advance p x).Frames.reverse = ⟨M.turnPc p x, (M.lastF x.Frames).Stop, (M.lastF x.Frames).Mask⟩ :: bs.reverse := by
      rw [hfr, List.reverse_append, List.reverse_singleton, List.singleton_append]
    refine ⟨.inr ?_, fun f hf => ?_, fun i hi => ?_⟩
    · rw [hrev']; exact hstk.set _
    · rw [hfr] at hf
      rcases List.mem_append.1 hf with hf | hf
      · exact hpdb f hf
      · obtain rfl := List.mem_singleton.1 hf
        exact hpdf.next e1 (turn_next hr)
    · rw [hrev']
      have hnum : (M.advance p x).Number = x.Number := rfl
      have hregs : (M.advance p x).Regs = M.applyAll (M.topIns p x) x.Number (M.lastF x.Frames).Mask x.Regs := rfl
      rw [hnum, hregs, applyAll_lane t4 hi]
      show Alone p (if _ then _ else _) ⟨_, (if _ then _ else _), _⟩ _
      by_cases ha : M.hasLane (M.lastF x.Frames).Mask (i : Int) = true
      · obtain ⟨j, hj, hA⟩ := hgo i hi ha
        rw [if_pos ha, if_pos ha, if_pos ha, hj, Nat.add_sub_cancel, ← next_turn hr hs hi ha]
        exact hA
      · rw [if_neg ha, if_neg ha, if_neg ha]
        have := h.lane i hi
        rw [hloc i, if_neg ha] at this
        exact this
end Go.V
set_option linter.unusedVariables false
set_option linter.unusedSimpArgs false
set_option maxRecDepth 20000
namespace Go.V
def Walk (p : List D.Ins) : Nat → D.Lane → D.Lane → Prop
  | 0, l, m => l = m
  | k + 1, l, m => l.Pc < ((p.length : Nat) : Int) ∧ Walk p k (M.step p l) m
theorem Walk.trans {p : List D.Ins} : ∀ {a b : Nat} {l m n : D.Lane}, Walk p a l m → Walk p b m n → Walk p (a + b) l n
  | 0, b, l, m, n, h, k => by rw [Nat.zero_add]; have h : l = m := h; rw [h]; exact k
  | a + 1, b, l, m, n, h, k => by rw [show a + 1 + b = (a + b) + 1 by omega]; exact ⟨h.1, Walk.trans h.2 k⟩
theorem Walk.ok {p : List D.Ins} : ∀ {a : Nat} {l m : D.Lane}, Walk p a l m → M.laneOk p l = true → M.laneOk p m = true
  | 0, l, m, h, hl => by have h : l = m := h; rw [← h]; exact hl
  | a + 1, l, m, h, hl => Walk.ok h.2 (laneOk_step hl h.1)
theorem Walk.alone {p : List D.Ins} : ∀ {a : Nat} {l m : D.Lane}, Walk p a l m → m.Pc = ((p.length : Nat) : Int) → Alone p a l m.Regs
  | 0, l, m, h, hm => by have h : l = m := h; rw [h]; exact ⟨hm, rfl⟩
  | a + 1, l, m, h, hm => ⟨h.1, Walk.alone h.2 hm⟩
def Agrees (p : List D.Ins) (b : Nat) (s : List D.Ins) : Prop := b + s.length ≤ p.length ∧ ∀ j : Nat, j < s.length → rd p ((b + j : Nat) : Int) = rd s (j : Int) ∨ rd p ((b + j : Nat) : Int) = ⟨12, 0, 0, 0⟩
theorem rd_left {α : Type} [Inhabited α] {s t : List α} {j : Nat} (hj : j < s.length) : rd (s ++ t) (j : Int) = rd s (j : Int) := by
  rw [rd_nat (by rw [List.length_append]; omega), List.getElem_append_left hj, rd_nat hj]
theorem rd_right {α : Type} [Inhabited α] {s t : List α} {j : Nat} (hj : j < t.length) : rd (s ++ t) ((s.length + j : Nat) : Int) = rd t (j : Int) := by
  rw [rd_nat (by rw [List.length_append]; omega), List.getElem_append_right (by omega), rd_nat hj]
  simp
theorem Agrees.left {p : List D.Ins} {b : Nat} {s t : List D.Ins} (h : Agrees p b (s ++ t)) : Agrees p b s := by
  refine ⟨by have := h.1; rw [List.length_append] at this; omega, fun j hj => ?_⟩
  have := h.2 j (by rw [List.length_append]; omega)
  rwa [rd_left hj] at this
theorem Agrees.right {p : List D.Ins} {b : Nat} {s t : List D.Ins} (h : Agrees p b (s ++ t)) : Agrees p (b + s.length) t := by
  refine ⟨by have := h.1; rw [List.length_append] at this; omega, fun j hj => ?_⟩
  have := h.2 (s.length + j) (by rw [List.length_append]; omega)
  rwa [rd_right hj, ← Nat.add_assoc] at this
theorem Agrees.head {p : List D.Ins} {b : Nat} {i : D.Ins} {s : List D.Ins} (h : Agrees p b (i :: s)) : rd p (b : Int) = i ∨ rd p (b : Int) = ⟨12, 0, 0, 0⟩ := h.2 0 (by simp)
theorem Agrees.tail {p : List D.Ins} {b : Nat} {i : D.Ins} {s : List D.Ins} (h : Agrees p b (i :: s)) : Agrees p (b + 1) s := by
  refine ⟨by have := h.1; rw [List.length_cons] at this; omega, fun j hj => ?_⟩
  have := h.2 (j + 1) (by rw [List.length_cons]; omega)
  rw [show b + (j + 1) = b + 1 + j by omega] at this
  have e : rd (i :: s) ((j + 1 : Nat) : Int) = rd s (j : Int) := by rw [rd_nat (by simp; omega), rd_nat hj]; rfl
  rwa [e] at this
def Comes (p : List D.Ins) (l : D.Lane) (e c : Nat) : Prop := ∃ k m, k ≤ c ∧ Walk p k l m ∧ (m.Pc = (e : Int) ∨ m.Pc = ((p.length : Nat) : Int))
theorem Comes.mono {p : List D.Ins} {l : D.Lane} {e c d : Nat} (h : Comes p l e c) (hd : c ≤ d) : Comes p l e d := by
  obtain ⟨k, m, h1, h2, h3⟩ := h
  exact ⟨k, m, by omega, h2, h3⟩
theorem Comes.step {p : List D.Ins} {l : D.Lane} {e c : Nat} (h : l.Pc < ((p.length : Nat) : Int)) (hc : Comes p (M.step p l) e c) : Comes p l e (c + 1) := by
  obtain ⟨k, m, h1, h2, h3⟩ := hc
  exact ⟨k + 1, m, by omega, ⟨h, h2⟩, h3⟩
theorem Comes.then {p : List D.Ins} {l : D.Lane} {e f c d : Nat} (hl : M.laneOk p l = true) (h : Comes p l e c) (k : ∀ m, M.laneOk p m = true → m.Pc = (e : Int) → Comes p m f d) : Comes p l f (c + d) := by
  obtain ⟨k1, m, h1, h2, h3⟩ := h
  rcases h3 with h3 | h3
  · obtain ⟨k2, n, g1, g2, g3⟩ := k m (h2.ok hl) h3
    exact ⟨k1 + k2, n, by omega, h2.trans g2, g3⟩
  · exact ⟨k1, m, by omega, h2, .inr h3⟩
theorem goes_on {p : List D.Ins} {l : D.Lane} {b : Nat} {i : D.Ins} (h : l.Pc = (b : Int)) (hi : rd p (b : Int) = i) (h12 : i.Op ≠ 12) (h11 : i.Op ≠ 11) (h10 : i.Op ≠ 10) : (M.step p l).Pc = ((b + 1 : Nat) : Int) ∧ (M.step p l).Regs = M.apply i l.Thread l.Regs ∧ (M.step p l).Thread = l.Thread := by
  refine ⟨?_, ?_, rfl⟩
  · show M.next p l.Pc l.Regs = _
    unfold M.next
    rw [h, hi, if_neg h12, if_neg h11, if_neg h10]; push_cast; rfl
  · show M.apply (rd p l.Pc) l.Thread l.Regs = _
    rw [h, hi]
end Go.V
set_option linter.unusedVariables false
set_option linter.unusedSimpArgs false
set_option maxRecDepth 20000
namespace Go.V
def sumTo (f : Nat → Nat) : Nat → Nat
  | 0 => 0
  | k + 1 => sumTo f k + f k
theorem sum_count {f g : Nat → Nat} {m : Int} : ∀ k : Nat, k ≤ 8 → (∀ i : Nat, i < k → f i = g i + if M.hasLane m (i : Int) = true then 1 else 0) → ((sumTo f k : Nat) : Int) = ((sumTo g k : Nat) : Int) + M.countTo m k
  | 0, _, _ => by simp [sumTo, M.countTo]
  | k + 1, hk, h => by
    have ih := sum_count k (by omega) fun i hi => h i (by omega)
    have hk := h k (by omega)
    simp only [sumTo, M.countTo]
    split at hk
    · rename_i e; rw [if_pos e]; omega
    · rename_i e; rw [if_neg e]; omega
def csum (p : List D.Ins) (x : D.Warp) : Nat → Int
  | 0 => 0
  | k + 1 => csum p x k + M.countTo (M.activeMask (M.wAt p x k)) 8
theorem trace {p : List D.Ins} {x : D.Warp} {rem : Nat → Nat} {R : Nat → List Int} (h : LInv p x rem R) (hq : M.isQuiet p = true) (hF : M.Fine p x) :
    ∀ j : Nat, (∀ k, k < j → (M.wAt p x k).Frames ≠ []) → ∃ rem' : Nat → Nat, LInv p (M.wAt p x j) rem' R ∧ M.Fine p (M.wAt p x j) ∧ (∀ i : Nat, i < 8 → rem' i ≤ rem i ∧ rem i ≤ rem' i + j) ∧
      csum p x j + ((sumTo rem' 8 : Nat) : Int) = ((sumTo rem 8 : Nat) : Int) ∧ (j : Int) ≤ csum p x j ∧ ∀ k, k < j → M.spec_l13Local p (M.wAt p x k) = true
  | 0, _ => ⟨rem, h, hF, fun i _ => ⟨Nat.le_refl _, by omega⟩, by simp [csum], by simp [csum], fun k hk => by omega⟩
  | j + 1, hj => by
    obtain ⟨rem', g1, g2, g3, g4, g5, g6⟩ := trace h hq hF j fun k hk => hj k (by omega)
    have hne := hj j (by omega)
    obtain ⟨l1, rem2, l2, l3⟩ := g1.step hq g2 hne
    have hc := sum_count 8 (Nat.le_refl _) l3
    have hr : M.Runs p (M.wAt p x j) := ⟨g2.1, g2.2, hne⟩
    obtain ⟨i, hi, ha⟩ := mask_some (runs_frames hr).2.2.2.2.1 (top_ends hr).2
    have h1 := count_one hi ha
    rw [← activeMask_top hne] at h1
    refine ⟨rem2, l2, stepW_fine (goes_of g2 l1), fun i hi => ?_, ?_, ?_, fun k hk => ?_⟩
    · have := g3 i hi
      have := l3 i hi
      split at this <;> omega
    · rw [csum]; omega
    · rw [csum]; push_cast; omega
    · by_cases e : k = j
      · rw [e]; exact l1
      · exact g6 k (by omega)
theorem least {P : Nat → Prop} : ∀ n : Nat, P n → ∃ m, m ≤ n ∧ P m ∧ ∀ k, k < m → ¬ P k
  | n, h => by
    by_cases e : ∃ k, k < n ∧ P k
    · obtain ⟨k, hk, hp⟩ := e
      obtain ⟨m, h1, h2, h3⟩ := least k hp
      exact ⟨m, by omega, h2, h3⟩
    · exact ⟨n, Nat.le_refl _, h, fun k hk hp => e ⟨k, hk, hp⟩⟩
theorem run_ends {p : List D.Ins} {x : D.Warp} {rem : Nat → Nat} {R : Nat → List Int} (h : LInv p x rem R) (hq : M.isQuiet p = true) (hF : M.Fine p x) :
    ∃ m : Nat, (m : Int) ≤ ((sumTo rem 8 : Nat) : Int) ∧ (M.wAt p x m).Frames = [] ∧ ∀ k, k < m → (M.wAt p x k).Frames ≠ [] := by
  have : ∃ m, m ≤ sumTo rem 8 + 1 ∧ (M.wAt p x m).Frames = [] := by
    apply Classical.byContradiction
    intro hno
    have hall : ∀ k, k < sumTo rem 8 + 1 → (M.wAt p x k).Frames ≠ [] := fun k hk e => hno ⟨k, by omega, e⟩
    obtain ⟨rem', g1, g2, g3, g4, g5, g6⟩ := trace h hq hF _ hall
    omega
  obtain ⟨m, _, hm⟩ := this
  obtain ⟨m', h1, h2, h3⟩ := least (P := fun k => (M.wAt p x k).Frames = []) m hm
  obtain ⟨rem', g1, g2, g3, g4, g5, g6⟩ := trace h hq hF m' h3
  exact ⟨m', by omega, h2, h3⟩
theorem runW_to {p : List D.Ins} : ∀ (m n : Nat) (x : D.Warp) (c : Int), m ≤ n → (∀ k, k < m → M.spec_l13Local p (M.wAt p x k) = true) → M.spec_l13Local p (M.wAt p x m) = false → M.runW p n x c = (M.wAt p x m, c + (m : Int))
  | 0, n, x, c, _, _, h => by rw [runW_stop p n x c h]; simp [M.wAt]
  | m + 1, 0, x, c, hm, _, _ => by omega
  | m + 1, n + 1, x, c, hm, hl, h => by
    have h0 : M.spec_l13Local p x = true := hl 0 (by omega)
    simp only [M.runW]
    rw [if_pos h0, runW_to m n (M.stepW p x) (c + 1) (by omega) (fun k hk => by rw [wAt_shift]; exact hl (k + 1) (by omega)) (by rw [wAt_shift]; exact h), wAt_shift]
    congr 1
    push_cast; omega
theorem cuts_all (r : List Int) : ∀ k : Nat, (List.range k).flatMap (M.laneCut r) = r.take (k * 4)
  | 0 => by simp
  | k + 1 => by
    rw [List.range_succ, List.flatMap_append, cuts_all r k, List.flatMap_singleton]
    unfold M.laneCut
    have : r.take (k * 4) = (r.take (k * 4 + 4)).take (k * 4) := by rw [List.take_take, Nat.min_eq_left (by omega)]
    rw [this, List.take_append_drop, show (k + 1) * 4 = k * 4 + 4 by omega]
theorem flat_same {α β : Type} {f g : α → List β} : ∀ l : List α, (∀ x ∈ l, f x = g x) → l.flatMap f = l.flatMap g
  | [], _ => rfl
  | x :: l, h => by
    rw [List.flatMap_cons, List.flatMap_cons, h x List.mem_cons_self, flat_same l fun y hy => h y (List.mem_cons_of_mem _ hy)]
theorem new_cut {i : Nat} (hi : i < 8) : M.laneCut (List.replicate 32 (0 : Int)) i = [0, 0, 0, 0] := by
  have : i = 0 ∨ i = 1 ∨ i = 2 ∨ i = 3 ∨ i = 4 ∨ i = 5 ∨ i = 6 ∨ i = 7 := by omega
  rcases this with rfl | rfl | rfl | rfl | rfl | rfl | rfl | rfl <;> rfl
theorem new_inv {p : List D.Ins} {w : Int} (hw : 0 ≤ w ∧ w ≤ 2) {st : Nat → Nat} {R : Nat → List Int} (h : ∀ i : Nat, i < 8 → Alone p (st i) (M.laneNew (w * 8 + (i : Int))) (R i)) : LInv p (M.newWarp p w) st R := by
  have hF : (M.newWarp p w).Frames = if p.length > 0 then [⟨0, p.length, 255⟩] else [] := rfl
  have hR : (M.newWarp p w).Regs = List.replicate 32 0 := rfl
  have hN : (M.newWarp p w).Number = w := rfl
  refine ⟨?_, ?_, fun i hi => ?_⟩
  · rw [hF]
    split
    · exact .inr (.base rfl rfl)
    · exact .inl rfl
  · rw [hF]
    intro f hf
    split at hf
    · obtain rfl := List.mem_singleton.1 hf
      exact PD.last _
    · cases hf
  · have := h i hi
    have hl0 : M.laneNew (w * 8 + (i : Int)) = ⟨w * 8 + (i : Int), 0, [0, 0, 0, 0]⟩ := by
      unfold M.laneNew
      rw [if_pos (by simp only [M.isIn, Bool.and_eq_true, decide_eq_true_eq]; omega)]
    rw [hl0] at this
    rw [hN, hR, hF, new_cut hi]
    split
    · show Alone p _ ⟨_, (if M.hasLane 255 (i : Int) = true then 0 else _), _⟩ _
      rw [if_pos (mask_full hi)]; exact this
    · rename_i e
      show Alone p _ ⟨_, ((p.length : Nat) : Int), _⟩ _
      rw [show ((p.length : Nat) : Int) = 0 by omega]; exact this
structure Ends8 (p : List D.Ins) (w : Int) (st : Nat → Nat) (R : Nat → List Int) : Prop where
  quiet : M.isQuiet p = true
  num : 0 ≤ w ∧ w ≤ 2
  each : ∀ i : Nat, i < 8 → st i ≤ 1000 ∧ Alone p (st i) (M.laneNew (w * 8 + (i : Int))) (R i)
theorem new_ok_lane {p : List D.Ins} (hq : M.isQuiet p = true) {t : Int} (ht : 0 ≤ t ∧ t ≤ 23) : M.laneOk p (M.laneNew t) = true := by
  have hl0 : M.laneNew t = ⟨t, 0, [0, 0, 0, 0]⟩ := by
    unfold M.laneNew
    rw [if_pos (by simp only [M.isIn, Bool.and_eq_true, decide_eq_true_eq]; omega)]
  rw [hl0]
  unfold M.laneOk M.laneOf M.areRegs
  rw [quiet_prog hq]
  simp only [M.isIn, Bool.and_eq_true, decide_eq_true_eq]
  exact ⟨trivial, ht, ⟨by omega, by omega⟩, rfl, rfl⟩
theorem alone_steps {p : List D.Ins} (hq : M.isQuiet p = true) {t : Int} (ht : 0 ≤ t ∧ t ≤ 23) {k : Nat} {R : List Int} (hk : k ≤ 1000) (h : Alone p k (M.laneNew t) R) :
    M.stepsAlone p t = (k : Int) ∧ (M.runAlone p t).2 = true ∧ (M.runAlone p t).1.Regs = R := by
  have hok := new_ok_lane hq ht
  have e : M.runLane p (M.laneNew t) 1000 = M.runN p 1000 (M.laneNew t) 0 := by
    unfold M.runLane
    rw [if_pos (by rw [hq, hok]; rfl)]; rfl
  obtain ⟨g1, g2, g3⟩ := alone_run k 1000 _ 0 R h hk
  unfold M.stepsAlone M.runAlone
  rw [e, g1, g2, if_neg (by omega), if_neg (by omega), if_neg (by omega), if_neg (by omega)]
  exact ⟨by omega, rfl, g3⟩
theorem Ends8.lane {p : List D.Ins} {w : Int} {st : Nat → Nat} {R : Nat → List Int} (h : Ends8 p w st R) {i : Nat} (hi : i < 8) : M.stepsAlone p (w * 8 + (i : Int)) = (st i : Int) ∧ (M.runAlone p (w * 8 + (i : Int))).2 = true ∧ (M.runAlone p (w * 8 + (i : Int))).1.Regs = R i :=
  alone_steps h.quiet (by have := h.num; omega) (h.each i hi).1 (h.each i hi).2
theorem Ends8.fine {p : List D.Ins} {w : Int} {st : Nat → Nat} {R : Nat → List Int} (h : Ends8 p w st R) : M.Fine p (M.newWarp p w) :=
  newWarp_fine (quiet_prog h.quiet) (by have := h.num; simp only [M.isIn, Bool.and_eq_true, decide_eq_true_eq]; exact this)
theorem Ends8.inv {p : List D.Ins} {w : Int} {st : Nat → Nat} {R : Nat → List Int} (h : Ends8 p w st R) : LInv p (M.newWarp p w) st R := new_inv h.num fun i hi => (h.each i hi).2
theorem sumTo_le {st : Nat → Nat} : ∀ k : Nat, (∀ i, i < k → st i ≤ 1000) → sumTo st k ≤ 1000 * k
  | 0, _ => by simp [sumTo]
  | k + 1, h => by
    have := sumTo_le k fun i hi => h i (by omega)
    have := h k (by omega)
    rw [sumTo]; omega
theorem Ends8.result {p : List D.Ins} {w : Int} {st : Nat → Nat} {R : Nat → List Int} (h : Ends8 p w st R) : ∃ m : Nat, (m : Int) ≤ ((sumTo st 8 : Nat) : Int) ∧ (∀ i : Nat, i < 8 → st i ≤ m) ∧
    M.warpResult p w = (M.wAt p (M.newWarp p w) m, (m : Int), true) ∧ (M.wAt p (M.newWarp p w) m).Frames = [] ∧ (∀ k, k < m → (M.wAt p (M.newWarp p w) k).Frames ≠ []) ∧
    (M.wAt p (M.newWarp p w) m).Regs = M.endList p (w * 8) 8 ∧ csum p (M.newWarp p w) m = ((sumTo st 8 : Nat) : Int) := by
  obtain ⟨m, h1, h2, h3⟩ := run_ends h.inv h.quiet h.fine
  obtain ⟨rem', g1, g2, g3, g4, g5, g6⟩ := trace h.inv h.quiet h.fine m h3
  have hend : ∀ i : Nat, i < 8 → rem' i = 0 ∧ M.laneCut (M.wAt p (M.newWarp p w) m).Regs i = R i := fun i hi => by
    have := g1.lane i hi
    rw [h2] at this
    exact this.at_end rfl
  have hz : sumTo rem' 8 = 0 := by
    have : ∀ k, k ≤ 8 → sumTo rem' k = 0 := by
      intro k hk
      induction k with
      | zero => rfl
      | succ k ih => rw [sumTo, ih (by omega), (hend k (by omega)).1]
    exact this 8 (Nat.le_refl _)
  have hs := sumTo_le 8 fun i hi => (h.each i hi).1
  have hlen : (M.wAt p (M.newWarp p w) m).Regs.length = 32 := (fine_small g2).2
  refine ⟨m, h1, fun i hi => ?_, ?_, h2, h3, ?_, by rw [hz] at g4; omega⟩
  · have := g3 i hi
    have := (hend i hi).1
    omega
  · have hrun : M.runW p 8000 (M.newWarp p w) 0 = (M.wAt p (M.newWarp p w) m, 0 + (m : Int)) := runW_to m 8000 _ 0 (by omega) g6 (by simp [M.spec_l13Local, h2])
    unfold M.warpResult
    rw [hrun, if_pos (by rw [h.quiet]; have := h.num; simp only [M.isIn, Bool.true_and, Bool.and_eq_true, decide_eq_true_eq]; exact this), if_pos (by rw [h2]; rfl)]
    simp
  · have e1 : (M.wAt p (M.newWarp p w) m).Regs = (List.range 8).flatMap (M.laneCut (M.wAt p (M.newWarp p w) m).Regs) := by
      rw [cuts_all, List.take_of_length_le (by omega)]
    rw [e1]
    unfold M.endList
    refine flat_same _ fun i hi => ?_
    have hi := List.mem_range.1 hi
    rw [(hend i hi).2, (h.lane hi).2.2]
end Go.V
set_option linter.unusedVariables false
set_option linter.unusedSimpArgs false
set_option maxRecDepth 20000
namespace Go.V
theorem Ends8.stepsList {p : List D.Ins} {w : Int} {st : Nat → Nat} {R : Nat → List Int} (h : Ends8 p w st R) : M.stepsList p w = (List.range 8).map fun i : Nat => (st i : Int) := by
  unfold M.stepsList
  apply List.map_congr_left
  intro i hi
  exact (h.lane (List.mem_range.1 hi)).1
theorem Ends8.stepsOf {p : List D.Ins} {w : Int} {st : Nat → Nat} {R : Nat → List Int} (h : Ends8 p w st R) : M.stepsOf p w = ((List.range 8).map fun i : Nat => (st i : Int), true) := by
  have hw : M.isIn w 0 2 = true := by have := h.num; simp only [M.isIn, Bool.and_eq_true, decide_eq_true_eq]; exact this
  unfold M.stepsOf
  rw [h.stepsList, hw, if_pos]
  rw [Bool.true_and, List.all_eq_true]
  intro x hx
  obtain ⟨i, _, rfl⟩ := List.mem_map.1 hx
  simp
theorem most_le {b : Int} : ∀ (l : List Int) (m : Int), m ≤ b → (∀ x ∈ l, x ≤ b) → M.most l m ≤ b
  | [], m, hm, _ => hm
  | x :: l, m, hm, h => by
    show M.most l (if x > m then x else m) ≤ b
    refine most_le l _ ?_ fun y hy => h y (List.mem_cons_of_mem _ hy)
    split
    · exact h x List.mem_cons_self
    · exact hm
theorem Ends8.most {p : List D.Ins} {w : Int} {st : Nat → Nat} {R : Nat → List Int} (h : Ends8 p w st R) {m : Nat} (hm : ∀ i : Nat, i < 8 → st i ≤ m) : M.mostAlone p w ≤ (m : Int) := by
  unfold M.mostAlone
  rw [h.stepsOf, if_pos rfl]
  refine most_le _ _ (by omega) fun x hx => ?_
  obtain ⟨i, hi, rfl⟩ := List.mem_map.1 hx
  have := hm i (List.mem_range.1 hi)
  omega
theorem Ends8.endRegs {p : List D.Ins} {w : Int} {st : Nat → Nat} {R : Nat → List Int} (h : Ends8 p w st R) : M.endRegs p (w * 8) 8 = (M.endList p (w * 8) 8, true) := by
  unfold M.endRegs
  rw [if_pos]
  · rfl
  · rw [Bool.and_eq_true, Bool.and_eq_true]
    refine ⟨rfl, by have := h.num; simp only [M.isIn, Bool.and_eq_true, decide_eq_true_eq]; omega, ?_⟩
    unfold M.endOk
    rw [List.all_eq_true]
    intro i hi
    exact (h.lane (List.mem_range.1 hi)).2.1
end Go.V
set_option linter.unusedVariables false
set_option linter.unusedSimpArgs false
set_option maxRecDepth 20000
namespace Go.V
structure FlowP (p : List D.Ins) : Prop where
  quiet : M.isQuiet p = true
  at' : ∀ k : Nat, k < p.length → (0 ≤ (rd p (k : Int)).Op ∧ (rd p (k : Int)).Op ≤ 9) ∨
    ((rd p (k : Int)).Op = 10 ∧ (rd p (k : Int)).B = ((k + 2 : Nat) : Int) ∧ k + 2 ≤ p.length ∧ 0 ≤ (rd p ((k + 1 : Nat) : Int)).Op ∧ (rd p ((k + 1 : Nat) : Int)).Op ≤ 9)
theorem FlowP.next {p : List D.Ins} (h : FlowP p) {k : Nat} (hk : k < p.length) {y : Int} (hy : y ∈ M.nextOf p (k : Int)) : y = ((k + 1 : Nat) : Int) ∨ (y = ((k + 2 : Nat) : Int) ∧ (rd p (k : Int)).Op = 10) := by
  unfold M.nextOf at hy
  rw [if_neg (by omega)] at hy
  rcases h.at' k hk with h1 | ⟨h1, h2, _⟩
  · rw [if_neg (by omega), if_neg (by omega), if_neg (by omega), List.mem_singleton] at hy
    left; rw [hy]; push_cast; rfl
  · rw [if_neg (by omega), if_neg (by omega), if_pos h1, putTwo_mem, h2] at hy
    rcases hy with rfl | rfl
    · left; push_cast; rfl
    · right; exact ⟨rfl, h1⟩
theorem FlowP.one {p : List D.Ins} (h : FlowP p) {k : Nat} (hk : k < p.length) : ((k + 1 : Nat) : Int) ∈ M.nextOf p (k : Int) := by
  unfold M.nextOf
  rw [if_neg (by omega)]
  rcases h.at' k hk with h1 | ⟨h1, h2, _⟩
  · rw [if_neg (by omega), if_neg (by omega), if_neg (by omega), List.mem_singleton]; push_cast; rfl
  · rw [if_neg (by omega), if_neg (by omega), if_pos h1, putTwo_mem]; left; push_cast; rfl
theorem FlowP.way {p : List D.Ins} (h : FlowP p) {wo : Int} : ∀ (d k : Nat), k + d = p.length → (∀ j : Nat, k ≤ j → j ≤ p.length → (j : Int) ≠ wo) → Rch p wo [(k : Int)] ((p.length : Nat) : Int)
  | 0, k, hk, hw => .base (List.mem_singleton.2 (by congr 1; omega)) (hw p.length (by omega) (Nat.le_refl _))
  | d + 1, k, hk, hw => by
    have := h.way (wo := wo) d (k + 1) (by omega) fun j hj => hw j (by omega)
    exact rch_via (b := (k : Int)) (.step (.base (List.mem_singleton.2 rfl) (hw k (Nat.le_refl _) (by omega))) (h.one (by omega)) (hw (k + 1) (by omega) (by omega))) this
theorem FlowP.exit {p : List D.Ins} (h : FlowP p) {k : Nat} (hk : k ≤ p.length) : M.exitB p (k : Int) = true := by
  have hp := quiet_prog h.quiet
  refine (reached_iff hp (fun x hx => by obtain rfl := List.mem_singleton.1 hx; exact ⟨by omega, by omega⟩) ⟨by omega, by omega⟩).2 (h.way (p.length - k) k (by omega) fun j _ _ => by omega)
theorem FlowP.ahead {p : List D.Ins} (h : FlowP p) {wo : Int} {k : Nat} (hk : k ≤ p.length) {y : Int} (hy : Rch p wo [(k : Int)] y) : (k : Int) ≤ y ∧ y ≤ ((p.length : Nat) : Int) := by
  induction hy with
  | base hs hne => rw [List.mem_singleton.1 hs]; omega
  | @step v s hv hs hne ih =>
    obtain ⟨n, rfl⟩ := Int.eq_ofNat_of_zero_le (show 0 ≤ v by omega)
    by_cases e : n < p.length
    · have hb := (next_ok ⟨quiet_prog h.quiet, by omega, by omega⟩).1 _ hs
      rcases h.next e hs with rfl | ⟨rfl, _⟩
      · exact ⟨by omega, hb.2⟩
      · exact ⟨by omega, hb.2⟩
    · unfold M.nextOf at hs
      rw [if_pos (by omega)] at hs
      cases hs
theorem FlowP.join {p : List D.Ins} (h : FlowP p) {k : Nat} (hk : k < p.length) (h10 : (rd p (k : Int)).Op = 10) : M.joinB p (k : Int) = ((k + 2 : Nat) : Int) := by
  have hp := quiet_prog h.quiet
  obtain ⟨_, hB, h2, h3, h4⟩ := (h.at' k hk).resolve_left (by omega)
  have hN : M.Node p (k : Int) := ⟨hp, by omega, by omega⟩
  have hN2 : M.Node p ((k + 2 : Nat) : Int) := ⟨hp, by omega, by omega⟩
  unfold M.joinB
  have e1 : (k : Int) + 1 = ((k + 1 : Nat) : Int) := by push_cast; rfl
  rw [hB, e1, h.exit (by omega), h.exit (by omega), if_pos (show (true && true) = true from rfl)]
  have hfi := first_in hN (by omega) (h.exit (by omega))
  obtain ⟨fN, _, _, fA⟩ := afters_nodes hfi
  have hfne : M.firstAfter p (k : Int) ≠ (k : Int) := by
    have := (List.mem_filter.1 hfi).2
    intro e; rw [e] at this; simp at this
  -- b + 2 is after b
  have hpd2 : PD p (k : Int) ((k + 2 : Nat) : Int) := fun hr => by
    have : ∀ y, Rch p ((k + 2 : Nat) : Int) [(k : Int)] y → y = (k : Int) ∨ y = ((k + 1 : Nat) : Int) := fun y hy => by
      induction hy with
      | base hs hne => left; exact List.mem_singleton.1 hs
      | step _ hs hne ih =>
        rcases ih with rfl | rfl
        · rcases h.next hk hs with rfl | ⟨rfl, _⟩
          · exact .inr rfl
          · exact absurd rfl hne
        · rcases h.next (by omega) hs with rfl | ⟨_, h10'⟩
          · exact absurd rfl hne
          · omega
    rcases this _ hr with e | e <;> omega
  have hin2 : ((k + 2 : Nat) : Int) ∈ M.others (M.aftersOf p (k : Int)) (k : Int) := by
    unfold M.others M.aftersOf
    rw [if_pos (by simp only [Bool.and_eq_true]; exact ⟨isNode_iff.2 hN, h.exit (by omega)⟩)]
    refine List.mem_filter.2 ⟨mem_idx.2 ⟨k + 2, by omega, rfl, (afterB_iff hN).2 hpd2⟩, ?_⟩
    simp only [bne_iff_ne]; omega
  have hfall : (M.others (M.aftersOf p (k : Int)) (k : Int)).all (M.afterB p (M.firstAfter p (k : Int))) = true := firstS_prop _ (by
    have := fN.2.1
    show M.firstAfter p (k : Int) ≠ -1
    omega)
  have hpdf := (afterB_iff hN).1 fA
  have hpd3 := (afterB_iff fN).1 (List.all_eq_true.1 hfall _ hin2)
  obtain ⟨f, hf⟩ := Int.eq_ofNat_of_zero_le fN.2.1
  have hfl : f ≤ p.length := by have := fN.2.2; omega
  rw [hf] at hpdf hpd3 hfne ⊢
  have h1 : ¬ f < k := fun hlt => hpdf (h.way (p.length - k) k (by omega) fun j hj _ => by omega)
  have h2' : f ≠ k + 1 := fun e => by
    apply hpdf
    have hs : ((k + 2 : Nat) : Int) ∈ M.nextOf p (k : Int) := by
      unfold M.nextOf
      rw [if_neg (by omega), if_neg (by omega), if_neg (by omega), if_pos h10, putTwo_mem, hB]; exact .inr rfl
    exact rch_via (b := (k : Int)) (.step (.base (List.mem_singleton.2 rfl) (by omega)) hs (by omega)) (h.way (p.length - (k + 2)) (k + 2) (by omega) fun j hj _ => by omega)
  have h3' : ¬ k + 2 < f := fun hlt => hpd3 (h.way (p.length - f) f (by omega) fun j hj _ => by omega)
  congr 1
  omega
def Bf (n k : Nat) : List D.Frame := if k = n then [] else [⟨(k : Int), (n : Int), 255⟩]
def WW (p : List D.Ins) : Nat → Nat → D.Warp → D.Warp → Prop
  | 0, S, x, y => S = 0 ∧ x = y
  | n + 1, S, x, y => M.spec_l13Local p x = true ∧ ∃ S', S = S' + (if M.splits p x = true then 1 else 0) ∧ WW p n S' (M.stepW p x) y
theorem WW.trans {p : List D.Ins} : ∀ {a S : Nat} {x y : D.Warp} {b T : Nat} {z : D.Warp}, WW p a S x y → WW p b T y z → WW p (a + b) (S + T) x z
  | 0, S, x, y, b, T, z, h, k => by obtain ⟨rfl, rfl⟩ := h; rw [Nat.zero_add, Nat.zero_add]; exact k
  | a + 1, S, x, y, b, T, z, h, k => by
    obtain ⟨h1, S', rfl, h2⟩ := h
    rw [show a + 1 + b = (a + b) + 1 by omega]
    exact ⟨h1, S' + T, by omega, h2.trans k⟩
theorem WW.one {p : List D.Ins} {x : D.Warp} {S : Nat} (h : M.spec_l13Local p x = true) (hS : S = if M.splits p x = true then 1 else 0) : WW p 1 S x (M.stepW p x) := ⟨h, 0, by omega, rfl, rfl⟩
theorem WW.at' {p : List D.Ins} : ∀ {n S : Nat} {x y : D.Warp}, WW p n S x y → M.wAt p x n = y ∧ ∀ j, j < n → M.spec_l13Local p (M.wAt p x j) = true
  | 0, S, x, y, h => ⟨h.2, fun j hj => by omega⟩
  | n + 1, S, x, y, h => by
    obtain ⟨h1, S', _, h2⟩ := h
    obtain ⟨g1, g2⟩ := h2.at'
    refine ⟨by rw [← wAt_shift]; exact g1, fun j hj => ?_⟩
    cases j with
    | zero => exact h1
    | succ j => rw [← wAt_shift]; exact g2 j (by omega)
theorem split_shift (p : List D.Ins) (x : D.Warp) : ∀ n : Nat, (M.costTo p x (n + 1)).Splits = (if M.splits p x = true then 1 else 0) + (M.costTo p (M.stepW p x) n).Splits
  | 0 => by
    show (if M.splits p x = true then (0 : Int) + 1 else 0) = _ + (0 : Int)
    split <;> rfl
  | n + 1 => by
    have ih := split_shift p x n
    have e1 : (M.costTo p x (n + 1 + 1)).Splits = if M.splits p (M.wAt p x (n + 1)) = true then (M.costTo p x (n + 1)).Splits + 1 else (M.costTo p x (n + 1)).Splits := rfl
    have e2 : (M.costTo p (M.stepW p x) (n + 1)).Splits = if M.splits p (M.wAt p (M.stepW p x) n) = true then (M.costTo p (M.stepW p x) n).Splits + 1 else (M.costTo p (M.stepW p x) n).Splits := rfl
    rw [e1, e2, wAt_shift, ih]
    split <;> split <;> omega
theorem WW.cost {p : List D.Ins} : ∀ {n S : Nat} {x y : D.Warp}, WW p n S x y → (M.costTo p x n).Splits = (S : Int)
  | 0, S, x, y, h => by rw [h.1]; rfl
  | n + 1, S, x, y, h => by
    obtain ⟨h1, S', rfl, h2⟩ := h
    rw [split_shift, h2.cost]
    split <;> (push_cast; omega)
theorem dropF_one {n : Int} {f : D.Frame} : M.dropF [f] n = if f.Pc ≠ f.Stop ∧ f.Pc ≠ n then [f] else [] := rfl
theorem dropF_two {n : Int} {f g : D.Frame} : M.dropF [f, g] n = if g.Pc ≠ g.Stop ∧ g.Pc ≠ n then [f, g] else if f.Pc ≠ f.Stop ∧ f.Pc ≠ n then [f] else [] := rfl
theorem dropF_three {n : Int} {f g h : D.Frame} : M.dropF [f, g, h] n = if h.Pc ≠ h.Stop ∧ h.Pc ≠ n then [f, g, h] else if g.Pc ≠ g.Stop ∧ g.Pc ≠ n then [f, g] else if f.Pc ≠ f.Stop ∧ f.Pc ≠ n then [f] else [] := rfl
theorem drop_B (n k : Nat) : M.dropF [⟨(k : Int), (n : Int), 255⟩] (n : Int) = Bf n k := by
  rw [dropF_one]
  unfold Bf
  by_cases e : k = n
  · rw [if_pos e, if_neg]
    simp only [ne_eq, not_and, Classical.not_not]
    omega
  · rw [if_neg e, if_pos]
    exact ⟨by simp only [ne_eq]; omega, by simp only [ne_eq]; omega⟩
theorem flow_one {p : List D.Ins} {x : D.Warp} {k : Nat} (hx : x.Frames = [⟨(k : Int), (p.length : Int), 255⟩]) (hs : M.splits p x = false) (t : Nat) (ht : M.turnPc p x = (t : Int)) :
    M.stepW p x = ⟨x.Number, Bf p.length t, M.applyAll (rd p (k : Int)) x.Number 255 x.Regs⟩ := by
  unfold M.stepW
  rw [if_neg (by rw [hs]; simp)]
  have e1 : M.advance p x = ⟨x.Number, M.setTop x.Frames (M.turnPc p x), M.applyAll (M.topIns p x) x.Number (M.lastF x.Frames).Mask x.Regs⟩ := rfl
  have e2 : M.topIns p x = rd p (k : Int) := by unfold M.topIns M.topPc; rw [hx]; rfl
  have e3 : (M.lastF x.Frames).Mask = 255 := by rw [hx]; rfl
  have e4 : M.setTop x.Frames (M.turnPc p x) = [⟨(t : Int), (p.length : Int), 255⟩] := by rw [hx, ht]; exact setTop_app [] _ _
  rw [e1, e2, e3, e4]
  unfold M.dropW
  rw [drop_B]
theorem flow_local {p : List D.Ins} (h : FlowP p) {x : D.Warp} (hF : M.Fine p x) (hne : x.Frames ≠ []) (hl : x.Frames.length ≤ 2) : M.spec_l13Local p x = true := by
  have hr : M.Runs p x := ⟨hF.1, hF.2, hne⟩
  obtain ⟨t1, t2, t3, t4, t5, t6, t7, t8, t9⟩ := runs_top hr
  unfold M.spec_l13Local
  have : x.Frames.isEmpty = false := by simpa using hne
  rw [show M.isLocal (M.topIns p x) = true from quiet_local h.quiet t5 t6, this, decide_eq_true (by omega : x.Frames.length ≤ 22)]
  simp
theorem flow_plain {p : List D.Ins} (h : FlowP p) {x : D.Warp} {k : Nat} (hF : M.Fine p x) (hk : k < p.length) (hx : x.Frames = [⟨(k : Int), (p.length : Int), 255⟩]) (hop : 0 ≤ (rd p (k : Int)).Op ∧ (rd p (k : Int)).Op ≤ 9) :
    WW p 1 0 x ⟨x.Number, Bf p.length (k + 1), M.applyAll (rd p (k : Int)) x.Number 255 x.Regs⟩ := by
  have e2 : M.topIns p x = rd p (k : Int) := by unfold M.topIns M.topPc; rw [hx]; rfl
  have e3 : M.topPc x = (k : Int) := by unfold M.topPc; rw [hx]; rfl
  have hs : M.splits p x = false := by
    unfold M.splits
    rw [e2]
    have : ((rd p (k : Int)).Op == 10) = false := by rw [beq_eq_false_iff_ne]; omega
    rw [this]; rfl
  have ht : M.turnPc p x = ((k + 1 : Nat) : Int) := by
    unfold M.turnPc
    rw [e2, e3, if_neg (by omega), if_neg (by omega), if_neg (by omega)]; push_cast; rfl
  rw [← flow_one hx hs _ ht]
  exact WW.one (flow_local h hF (by rw [hx]; simp) (by rw [hx]; simp)) (by rw [hs]; rfl)
theorem flow_branch {p : List D.Ins} (h : FlowP p) {x : D.Warp} {k : Nat} (hF : M.Fine p x) (hk : k < p.length) (hx : x.Frames = [⟨(k : Int), (p.length : Int), 255⟩]) (h10 : (rd p (k : Int)).Op = 10) :
    ∃ (n S : Nat) (rg : List Int), WW p n S x ⟨x.Number, Bf p.length (k + 2), rg⟩ ∧ n ≤ 2 ∧ rg.length = 32 ∧ (S = if M.zeroMask x (rd p (k : Int)).A = 0 ∨ M.zeroMask x (rd p (k : Int)).A = 255 then 0 else 1) ∧
      ∀ j : Nat, j < 8 → M.laneCut rg j = if rd x.Regs ((j : Int) * 4 + (rd p (k : Int)).A) = 0 then M.laneCut x.Regs j else M.apply (rd p ((k + 1 : Nat) : Int)) (x.Number * 8 + (j : Int)) (M.laneCut x.Regs j) := by
  obtain ⟨_, hB, h2, h3, h4⟩ := (h.at' k hk).resolve_left (by omega)
  have hne : x.Frames ≠ [] := by rw [hx]; simp
  have hr : M.Runs p x := ⟨hF.1, hF.2, hne⟩
  obtain ⟨t1, t2, t3, t4, t5, t6, t7, t8, t9⟩ := runs_top hr
  have e2 : M.topIns p x = rd p (k : Int) := by unfold M.topIns M.topPc; rw [hx]; rfl
  have e3 : M.topPc x = (k : Int) := by unfold M.topPc; rw [hx]; rfl
  have e4 : (M.lastF x.Frames).Mask = 255 := by rw [hx]; rfl
  have hact : M.activeMask x = 255 := by rw [activeMask_top hne, e4]
  have hl := flow_local h hF hne (by rw [hx]; simp)
  have hz := fun (j : Nat) (hj : j < 8) => zero_has (x := x) (reg := (rd p (k : Int)).A) hj
  obtain ⟨m1, m2, m3⟩ := mask_part (x := x) (reg := (rd p (k : Int)).A) (by rw [hact]; decide)
  have hm := fun (j : Nat) (hj : j < 8) => minus_has (x := x) (reg := (rd p (k : Int)).A) (by rw [hact]; decide) hj
  rw [hact] at hz m2 m3 hm
  have happ0 : M.applyAll (rd p (k : Int)) x.Number 255 x.Regs = x.Regs := applyAll_branch t4 h10
  by_cases z0 : M.zeroMask x (rd p (k : Int)).A = 0
  · -- none is zero
    have hs : M.splits p x = false := by unfold M.splits; rw [e2, z0]; simp
    have ht : M.turnPc p x = ((k + 1 : Nat) : Int) := by
      unfold M.turnPc
      rw [e2, e3, e4, if_neg (by omega), if_neg (by omega), if_neg (by rw [z0]; simp)]; push_cast; rfl
    have w1 := WW.one (S := 0) hl (by rw [hs]; rfl)
    rw [flow_one hx hs _ ht, happ0] at w1
    have hb1 : Bf p.length (k + 1) = [⟨((k + 1 : Nat) : Int), (p.length : Int), 255⟩] := by unfold Bf; rw [if_neg (by omega)]
    rw [hb1] at w1
    have hF1 : M.Fine p ⟨x.Number, [⟨((k + 1 : Nat) : Int), (p.length : Int), 255⟩], x.Regs⟩ := by
      have := stepW_fine (goes_of hF hl)
      rwa [flow_one hx hs _ ht, happ0, hb1] at this
    have w2 := flow_plain h hF1 (by omega) rfl ⟨h3, h4⟩
    refine ⟨2, 0, _, w1.trans w2, by omega, applyAll_len t4, by rw [if_pos (.inl z0)], fun j hj => ?_⟩
    have hnz : ¬ rd x.Regs ((j : Int) * 4 + (rd p (k : Int)).A) = 0 := fun g => by
      have := (hz j hj).2 ⟨mask_full hj, g⟩
      rw [z0, mask_zero j hj] at this; cases this
    rw [if_neg hnz, applyAll_lane t4 hj, if_pos (mask_full hj)]
  by_cases z1 : M.zeroMask x (rd p (k : Int)).A = 255
  · have hs : M.splits p x = false := by unfold M.splits; rw [e2, z1, e4]; simp
    have ht : M.turnPc p x = ((k + 2 : Nat) : Int) := by
      unfold M.turnPc
      rw [e2, e3, e4, if_neg (by omega), if_neg (by omega), if_pos ⟨h10, z1⟩, hB]
    have w1 := WW.one (S := 0) hl (by rw [hs]; rfl)
    rw [flow_one hx hs _ ht, happ0] at w1
    refine ⟨1, 0, _, w1, by omega, t4, by rw [if_pos (.inr z1)], fun j hj => ?_⟩
    have : M.hasLane (M.zeroMask x (rd p (k : Int)).A) (j : Int) = true := by rw [z1]; exact mask_full hj
    rw [if_pos ((hz j hj).1 this).2]
  · have hs : M.splits p x = true := by
      unfold M.splits
      rw [e2, e3, e4, h10, hB]
      simp only [bne_iff_ne, Bool.and_eq_true, beq_self_eq_true, true_and, ne_eq]
      exact ⟨by omega, z0, z1⟩
    have w1 := WW.one (S := 1) hl (by rw [hs]; rfl)
    have hst : M.stepW p x = ⟨x.Number, [⟨((k + 2 : Nat) : Int), (p.length : Int), 255⟩, ⟨((k + 1 : Nat) : Int), ((k + 2 : Nat) : Int), bitNot .i64 255 (M.zeroMask x (rd p (k : Int)).A)⟩], x.Regs⟩ := by
      unfold M.stepW
      rw [if_pos hs]
      unfold M.separated M.dropW
      have e5 : M.setTop x.Frames (M.joinB p (M.topPc x)) = [⟨((k + 2 : Nat) : Int), (p.length : Int), 255⟩] := by
        rw [e3, h.join hk h10, hx]; exact setTop_app [] _ _
      dsimp only
      rw [e5, e2, e3, e4, h.join hk h10, hB]
      show (⟨x.Number, M.dropF [_, _, _] _, x.Regs⟩ : D.Warp) = _
      rw [dropF_three]
      rw [if_neg (by simp), if_pos ⟨by simp only [ne_eq]; omega, by simp only [ne_eq]; omega⟩]
      congr 2
    rw [hst] at w1
    have hF1 := stepW_fine (goes_of hF hl)
    rw [hst] at hF1
    generalize hmk : bitNot .i64 255 (M.zeroMask x (rd p (k : Int)).A) = mk at *
    generalize hy : (⟨x.Number, [⟨((k + 2 : Nat) : Int), (p.length : Int), 255⟩, ⟨((k + 1 : Nat) : Int), ((k + 2 : Nat) : Int), mk⟩], x.Regs⟩ : D.Warp) = y at *
    have hyF : y.Frames = [⟨((k + 2 : Nat) : Int), (p.length : Int), 255⟩, ⟨((k + 1 : Nat) : Int), ((k + 2 : Nat) : Int), mk⟩] := by rw [← hy]
    have f2 : M.topIns p y = rd p ((k + 1 : Nat) : Int) := by unfold M.topIns M.topPc; rw [hyF]; rfl
    have f3 : M.topPc y = ((k + 1 : Nat) : Int) := by unfold M.topPc; rw [hyF]; rfl
    have hs2 : M.splits p y = false := by
      unfold M.splits
      rw [f2]
      have : ((rd p ((k + 1 : Nat) : Int)).Op == 10) = false := by rw [beq_eq_false_iff_ne]; omega
      rw [this]; rfl
    have ht2 : M.turnPc p y = ((k + 2 : Nat) : Int) := by
      unfold M.turnPc
      rw [f2, f3, if_neg (by omega), if_neg (by omega), if_neg (by omega)]; push_cast; omega
    have w2 := WW.one (S := 0) (flow_local h hF1 (by rw [hyF]; simp) (by rw [hyF]; simp)) (by rw [hs2]; rfl)
    have hst2 : M.stepW p y = ⟨x.Number, Bf p.length (k + 2), M.applyAll (rd p ((k + 1 : Nat) : Int)) x.Number mk x.Regs⟩ := by
      unfold M.stepW
      rw [if_neg (by rw [hs2]; simp)]
      unfold M.advance M.dropW
      have g1 : M.setTop y.Frames (M.turnPc p y) = [⟨((k + 2 : Nat) : Int), (p.length : Int), 255⟩, ⟨((k + 2 : Nat) : Int), ((k + 2 : Nat) : Int), mk⟩] := by
        rw [hyF, ht2]; exact setTop_app [_] _ _
      have g2 : (M.lastF y.Frames).Mask = mk := by rw [hyF]; rfl
      dsimp only
      rw [g1, f2, g2, ← hy]
      show (⟨x.Number, M.dropF [_, _] _, _⟩ : D.Warp) = _
      rw [dropF_two, if_neg (by simp), ← dropF_one, drop_B]
    rw [hst2] at w2
    refine ⟨2, 1, _, w1.trans w2, by omega, applyAll_len t4, by rw [if_neg (by rintro (h | h); (· exact z0 h); exact z1 h)], fun j hj => ?_⟩
    rw [applyAll_lane t4 hj]
    by_cases g : rd x.Regs ((j : Int) * 4 + (rd p (k : Int)).A) = 0
    · have hzl := (hz j hj).2 ⟨mask_full hj, g⟩
      rw [if_pos g, if_neg (fun g' => ((hm j hj).1 g').2 hzl)]
    · rw [if_neg g, if_pos ((hm j hj).2 ⟨mask_full hj, fun g' => g ((hz j hj).1 g').2⟩)]
end Go.V
set_option linter.unusedVariables false
set_option linter.unusedSimpArgs false
set_option maxRecDepth 20000
namespace Go.V
inductive Line : Nat → List D.Ins → Prop
  | nil (b : Nat) : Line b []
  | one {b : Nat} {i : D.Ins} {s : List D.Ins} : plainI i = true → Line (b + 1) s → Line b (i :: s)
  | br {b : Nat} {r : Int} {i : D.Ins} {s : List D.Ins} : 0 ≤ r → r ≤ 3 → plainI i = true → Line (b + 2) s → Line b (⟨10, r, ((b + 2 : Nat) : Int), 0⟩ :: i :: s)
inductive Sel : Nat → List D.Ins → List D.Ins → Nat → Prop
  | nil (b : Nat) : Sel b [] [] 0
  | one {b m : Nat} {i : D.Ins} {s t : List D.Ins} : plainI i = true → Sel (b + 1) s t m → Sel b (i :: s) (i :: t) m
  | br {b m : Nat} {r : Int} {i : D.Ins} {s t : List D.Ins} : 0 ≤ r → r ≤ 3 → plainI i = true → Sel (b + 2) s t m → Sel b (⟨10, r, ((b + 2 : Nat) : Int), 0⟩ :: i :: s) (⟨10, r, ((b + 2 : Nat) : Int), 0⟩ :: i :: t) m
  | pr {b m : Nat} {r a c : Int} {s t : List D.Ins} : 0 ≤ r → r ≤ 3 → 0 ≤ a → a ≤ 3 → 0 ≤ c → c ≤ 3 → Sel (b + 2) s t m → Sel b (⟨10, r, ((b + 2 : Nat) : Int), 0⟩ :: ⟨2, a, c, 0⟩ :: s) (⟨0, 0, 0, 0⟩ :: ⟨9, a, c, r⟩ :: t) (m + 1)
theorem Line.cat {b : Nat} {s t : List D.Ins} (h : Line b s) : Line (b + s.length) t → Line b (s ++ t) := by
  induction h with
  | nil b => exact fun k => k
  | @one b i s hp _ ih => exact fun k => .one hp (ih (by rw [List.length_cons] at k; rw [show b + 1 + s.length = b + (s.length + 1) by omega]; exact k))
  | @br b r i s h0 h3 hp _ ih => exact fun k => .br h0 h3 hp (ih (by rw [List.length_cons, List.length_cons] at k; rw [show b + 2 + s.length = b + (s.length + 1 + 1) by omega]; exact k))
theorem Line.sel {b : Nat} {s : List D.Ins} (h : Line b s) : Sel b s s 0 := by
  induction h with
  | nil b => exact .nil b
  | one hp _ ih => exact .one hp ih
  | br h0 h3 hp _ ih => exact .br h0 h3 hp ih
theorem Sel.cat {b m : Nat} {s t : List D.Ins} (h : Sel b s t m) : ∀ {l : Nat} {u v : List D.Ins}, Sel (b + s.length) u v l → Sel b (s ++ u) (t ++ v) (m + l) := by
  induction h with
  | nil b => intro l u v k; rw [Nat.zero_add]; exact k
  | @one b m i s t hp _ ih => intro l u v k; exact .one hp (ih (by rw [List.length_cons] at k; rw [show b + 1 + s.length = b + (s.length + 1) by omega]; exact k))
  | @br b m r i s t h0 h3 hp _ ih => intro l u v k; exact .br h0 h3 hp (ih (by rw [List.length_cons, List.length_cons] at k; rw [show b + 2 + s.length = b + (s.length + 1 + 1) by omega]; exact k))
  | @pr b m r a c s t h0 h1 h2 h3 h4 h5 _ ih =>
    intro l u v k
    rw [show m + 1 + l = (m + l) + 1 by omega]
    exact .pr h0 h1 h2 h3 h4 h5 (ih (by rw [List.length_cons, List.length_cons] at k; rw [show b + 2 + s.length = b + (s.length + 1 + 1) by omega]; exact k))
theorem rd_succ {i : D.Ins} {s : List D.Ins} {k : Nat} : rd (i :: s) ((k + 1 : Nat) : Int) = rd s (k : Int) := rfl
def Pt (b : Nat) (s : List D.Ins) : Prop := ∀ k : Nat, k < s.length → (0 ≤ (rd s (k : Int)).Op ∧ (rd s (k : Int)).Op ≤ 9) ∨
    ((rd s (k : Int)).Op = 10 ∧ (rd s (k : Int)).B = ((b + k + 2 : Nat) : Int) ∧ k + 2 ≤ s.length ∧ 0 ≤ (rd s ((k + 1 : Nat) : Int)).Op ∧ (rd s ((k + 1 : Nat) : Int)).Op ≤ 9)
theorem plain_op {i : D.Ins} (h : plainI i = true) : 1 ≤ i.Op ∧ i.Op ≤ 9 := by
  simp only [plainI, M.isIn, Bool.and_eq_true, decide_eq_true_eq] at h
  exact h.1
theorem Pt.one {b : Nat} {i : D.Ins} {s : List D.Ins} (hi : 0 ≤ i.Op ∧ i.Op ≤ 9) (h : Pt (b + 1) s) : Pt b (i :: s) := fun k hk => by
  cases k with
  | zero => exact .inl hi
  | succ k =>
    rw [List.length_cons] at hk
    rcases h k (by omega) with h | ⟨h1, h2, h3, h4, h5⟩
    · exact .inl h
    · exact .inr ⟨h1, by rw [rd_succ, h2]; congr 1; omega, by rw [List.length_cons]; omega, h4, h5⟩
theorem Pt.br {b : Nat} {r : Int} {i : D.Ins} {s : List D.Ins} (hi : 0 ≤ i.Op ∧ i.Op ≤ 9) (h : Pt (b + 2) s) : Pt b (⟨10, r, ((b + 2 : Nat) : Int), 0⟩ :: i :: s) := fun k hk => by
  have h1 := Pt.one (b := b + 1) hi h
  cases k with
  | zero => exact .inr ⟨rfl, rfl, by simp, hi⟩
  | succ k =>
    rw [List.length_cons] at hk
    rcases h1 k (by omega) with h | ⟨h1, h2, h3, h4, h5⟩
    · exact .inl h
    · exact .inr ⟨h1, by rw [rd_succ, h2]; congr 1; omega, by rw [List.length_cons]; omega, h4, h5⟩
def zeros (s : List D.Ins) : Nat := s.countP fun i => i.Op == 10
def okAll (n : Nat) (s : List D.Ins) : Prop := ∀ i ∈ s, M.insOk i (n : Int) = true ∧ M.isLocal i = true
theorem zero_ok {n t : Nat} {r : Int} (h0 : 0 ≤ r) (h3 : r ≤ 3) (ht : t ≤ n) (hn : n ≤ 32) : M.insOk ⟨10, r, ((t : Nat) : Int), 0⟩ (n : Int) = true ∧ M.isLocal ⟨10, r, ((t : Nat) : Int), 0⟩ = true := by
  refine ⟨?_, rfl⟩
  simp only [M.insOk, M.isReg, M.isIn, Bool.and_eq_true, decide_eq_true_eq]
  simp
  omega
theorem Sel.facts {b m : Nat} {s t : List D.Ins} (h : Sel b s t m) : t.length = s.length ∧ Pt b s ∧ Pt b t ∧ zeros s = zeros t + m ∧ 2 * m ≤ s.length ∧ ∀ n : Nat, b + s.length ≤ n → n ≤ 32 → okAll n s ∧ okAll n t := by
  induction h with
  | nil b => exact ⟨rfl, (fun k hk => absurd hk (Nat.not_lt_zero k)), (fun k hk => absurd hk (Nat.not_lt_zero k)), rfl, Nat.le_refl _, fun n _ _ => ⟨(fun i hi => absurd hi List.not_mem_nil), (fun i hi => absurd hi List.not_mem_nil)⟩⟩
  | @one b m i s t hp _ ih =>
    obtain ⟨i1, i2, i3, i4, i5, i6⟩ := ih
    have ho := plain_op hp
    have hz : (i.Op == 10) = false := by rw [beq_eq_false_iff_ne]; omega
    refine ⟨by simp [i1], i2.one (by omega), i3.one (by omega), ?_, by rw [List.length_cons]; omega, fun n hn h32 => ?_⟩
    · unfold zeros at *
      rw [List.countP_cons, List.countP_cons, hz]; simpa using i4
    · rw [List.length_cons] at hn
      obtain ⟨k1, k2⟩ := i6 n (by omega) h32
      have hi := plainI_ok hp (n := (n : Int)) (by omega)
      exact ⟨fun x hx => (List.mem_cons.1 hx).elim (fun e => e ▸ hi) (k1 x), fun x hx => (List.mem_cons.1 hx).elim (fun e => e ▸ hi) (k2 x)⟩
  | @br b m r i s t h0 h3 hp _ ih =>
    obtain ⟨i1, i2, i3, i4, i5, i6⟩ := ih
    have ho := plain_op hp
    have hz : (i.Op == 10) = false := by rw [beq_eq_false_iff_ne]; omega
    refine ⟨by simp [i1], i2.br (by omega), i3.br (by omega), ?_, by rw [List.length_cons, List.length_cons]; omega, fun n hn h32 => ?_⟩
    · unfold zeros at *
      rw [List.countP_cons, List.countP_cons, List.countP_cons, List.countP_cons, hz, i4]; simp; omega
    · rw [List.length_cons, List.length_cons] at hn
      obtain ⟨k1, k2⟩ := i6 n (by omega) h32
      have hi := plainI_ok hp (n := (n : Int)) (by omega)
      have hb := zero_ok (n := n) (t := b + 2) h0 h3 (by omega) h32
      refine ⟨fun x hx => ?_, fun x hx => ?_⟩ <;> rcases List.mem_cons.1 hx with rfl | hx
      · exact hb
      · exact (List.mem_cons.1 hx).elim (fun e => e ▸ hi) (k1 x)
      · exact hb
      · exact (List.mem_cons.1 hx).elim (fun e => e ▸ hi) (k2 x)
  | @pr b m r a c s t h0 h1 h2 h3 h4 h5 _ ih =>
    obtain ⟨i1, i2, i3, i4, i5, i6⟩ := ih
    refine ⟨by simp [i1], i2.br (show (0 : Int) ≤ 2 ∧ (2 : Int) ≤ 9 by decide), ?_, ?_, by rw [List.length_cons, List.length_cons]; omega, fun n hn h32 => ?_⟩
    · exact Pt.one (show (0 : Int) ≤ 0 ∧ (0 : Int) ≤ 9 by decide) (Pt.one (show (0 : Int) ≤ 9 ∧ (9 : Int) ≤ 9 by decide) i3)
    · unfold zeros at *
      rw [List.countP_cons, List.countP_cons, List.countP_cons, List.countP_cons, i4]; simp; omega
    · rw [List.length_cons, List.length_cons] at hn
      obtain ⟨k1, k2⟩ := i6 n (by omega) h32
      have hb := zero_ok (n := n) (t := b + 2) h0 h1 (by omega) h32
      have hmv : M.insOk ⟨2, a, c, 0⟩ (n : Int) = true ∧ M.isLocal ⟨2, a, c, 0⟩ = true := by
        refine ⟨?_, rfl⟩
        simp only [M.insOk, M.isReg, M.isIn, Bool.and_eq_true, decide_eq_true_eq]
        simp
        omega
      have hnp : M.insOk ⟨0, 0, 0, 0⟩ (n : Int) = true ∧ M.isLocal ⟨0, 0, 0, 0⟩ = true := by
        refine ⟨?_, rfl⟩
        simp only [M.insOk, M.isReg, M.isIn, Bool.and_eq_true, decide_eq_true_eq]
        simp
        omega
      have hpk : M.insOk ⟨9, a, c, r⟩ (n : Int) = true ∧ M.isLocal ⟨9, a, c, r⟩ = true := by
        refine ⟨?_, rfl⟩
        simp only [M.insOk, M.isReg, M.isIn, Bool.and_eq_true, decide_eq_true_eq]
        simp
        omega
      refine ⟨fun x hx => ?_, fun x hx => ?_⟩ <;> rcases List.mem_cons.1 hx with rfl | hx
      · exact hb
      · exact (List.mem_cons.1 hx).elim (fun e => e ▸ hmv) (k1 x)
      · exact hnp
      · exact (List.mem_cons.1 hx).elim (fun e => e ▸ hpk) (k2 x)
theorem quiet_of {s : List D.Ins} (hl : s.length ≤ 32) (h : okAll s.length s) : M.isQuiet s = true := by
  unfold M.isQuiet M.programOk
  rw [Bool.and_eq_true, Bool.and_eq_true, List.all_eq_true, List.all_eq_true, decide_eq_true_eq]
  exact ⟨⟨hl, fun i hi => (h i hi).1⟩, fun i hi => (h i hi).2⟩
theorem Sel.flow {m : Nat} {s t : List D.Ins} (h : Sel 0 s t m) (hl : s.length ≤ 32) : FlowP s ∧ FlowP t := by
  obtain ⟨i1, i2, i3, i4, i5, i6⟩ := h.facts
  obtain ⟨k1, k2⟩ := i6 s.length (by omega) hl
  refine ⟨⟨quiet_of hl k1, fun k hk => ?_⟩, ⟨quiet_of (by omega) (by rw [i1]; exact k2), fun k hk => ?_⟩⟩
  · have := i2 k hk; rw [Nat.zero_add] at this; exact this
  · have := i3 k hk; rw [Nat.zero_add] at this; exact this
theorem predTo_no {p out : List D.Ins} {m k : Nat} (h : M.predTo p k = (out, (m : Int))) (hc : M.canPred out (k : Int) = false) : M.predTo p (k + 1) = (out, (m : Int)) := by
  have : M.predicate (M.predTo p k).1 (k : Int) = (out, false) := by
    rw [h]; unfold M.predicate; rw [if_neg (by rw [hc]; simp)]
  rw [M.predTo, this, if_neg (by simp), h]
theorem canPred_op {out : List D.Ins} {k : Int} (h : (rd out k).Op ≠ 10) : M.canPred out k = false := by
  unfold M.canPred
  have : ((rd out k).Op == 10) = false := by rw [beq_eq_false_iff_ne]; exact h
  rw [this]; simp
theorem pred_all {k : Nat} {rest : List D.Ins} (h : Line k rest) : ∀ (sp tq : List D.Ins) (m : Nat), Sel 0 sp tq m → sp.length = k → (sp ++ rest).length ≤ 32 → M.predTo (sp ++ rest) k = (tq ++ rest, (m : Int)) →
    ∃ q m', Sel 0 (sp ++ rest) q m' ∧ M.predTo (sp ++ rest) (sp ++ rest).length = (q, (m' : Int)) := by
  induction h with
  | nil b =>
    intro sp tq m hs hk hl hp
    rw [List.append_nil] at hp ⊢
    rw [List.append_nil] at hp
    rw [← hk] at hp
    exact ⟨tq, m, hs, hp⟩
  | @one b i s hi _ ih =>
    intro sp tq m hs hk hl hp
    obtain ⟨f1, _⟩ := hs.facts
    have hop := plain_op hi
    have e : rd (tq ++ i :: s) (b : Int) = i := rd_app (by omega)
    have h1 := predTo_no hp (canPred_op (by rw [e]; omega))
    have hs' : Sel 0 (sp ++ [i]) (tq ++ [i]) (m + 0) := hs.cat (.one hi (.nil _))
    have := ih (sp ++ [i]) (tq ++ [i]) m hs' (by simp [hk]) (by simpa using hl) (by simpa using h1)
    rwa [List.append_assoc, List.singleton_append] at this
  | @br b r i s h0 h3 hi hline ih =>
    intro sp tq m hs hk hl hp
    obtain ⟨f1, _⟩ := hs.facts
    have hop := plain_op hi
    have hsel : Sel 0 (sp ++ ⟨10, r, ((b + 2 : Nat) : Int), 0⟩ :: i :: s) (tq ++ ⟨10, r, ((b + 2 : Nat) : Int), 0⟩ :: i :: s) (m + 0) := hs.cat (by rw [Nat.zero_add, hk]; exact .br h0 h3 hi hline.sel)
    obtain ⟨fp, ft⟩ := hsel.flow hl
    have e1 : rd (tq ++ ⟨10, r, ((b + 2 : Nat) : Int), 0⟩ :: i :: s) (b : Int) = ⟨10, r, ((b + 2 : Nat) : Int), 0⟩ := rd_app (by omega)
    have e2 : rd (tq ++ ⟨10, r, ((b + 2 : Nat) : Int), 0⟩ :: i :: s) ((b + 1 : Nat) : Int) = i := by
      have := rd_app (l := tq ++ [(⟨10, r, ((b + 2 : Nat) : Int), 0⟩ : D.Ins)]) (m := s) (y := i) (k := b + 1) (by simp; omega)
      simpa using this
    have hlen : (tq ++ (⟨10, r, ((b + 2 : Nat) : Int), 0⟩ : D.Ins) :: i :: s).length = b + 2 + s.length := by simp; omega
    have hno : (tq ++ (⟨10, r, ((b + 2 : Nat) : Int), 0⟩ : D.Ins) :: i :: s).all (M.noTarget (b : Int)) = true := by
      rw [List.all_eq_true]
      intro x hx
      obtain ⟨j, hj, rfl⟩ := List.getElem_of_mem hx
      rw [← rd_nat hj]
      unfold M.noTarget M.isTarget
      rcases ft.at' j hj with ⟨g1, g2⟩ | ⟨g1, g2, g3, g4, g5⟩
      · have a1 : ((rd (tq ++ (⟨10, r, ((b + 2 : Nat) : Int), 0⟩ : D.Ins) :: i :: s) (j : Int)).Op == 10) = false := by rw [beq_eq_false_iff_ne]; omega
        have a2 : ((rd (tq ++ (⟨10, r, ((b + 2 : Nat) : Int), 0⟩ : D.Ins) :: i :: s) (j : Int)).Op == 11) = false := by rw [beq_eq_false_iff_ne]; omega
        rw [a1, a2]; rfl
      · have : ((rd (tq ++ (⟨10, r, ((b + 2 : Nat) : Int), 0⟩ : D.Ins) :: i :: s) (j : Int)).B == (b : Int) + 1) = false := by
          rw [beq_eq_false_iff_ne, g2]
          intro e
          have : j + 1 = b := by omega
          rw [this, e1] at g5
          exact absurd g5 (show ¬ (10 : Int) ≤ 9 by decide)
        rw [this]; simp
    have e1b : (b : Int) + 1 = ((b + 1 : Nat) : Int) := by push_cast; rfl
    have hcan : M.canPred (tq ++ ⟨10, r, ((b + 2 : Nat) : Int), 0⟩ :: i :: s) (b : Int) = (i.Op == 2 && i.A != r) := by
      unfold M.canPred
      rw [ft.quiet, e1b, e1, e2, hno, hlen]
      have a1 : M.isIn (b : Int) 0 (((b + 2 + s.length : Nat) : Int) - 2) = true := by simp only [M.isIn, Bool.and_eq_true, decide_eq_true_eq]; omega
      have a2 : (((b + 2 : Nat) : Int) == (b : Int) + 2) = true := by rw [beq_iff_eq]; push_cast; rfl
      rw [a1, a2]; simp
    by_cases hc : i.Op = 2 ∧ i.A ≠ r
    · obtain ⟨c1, c2⟩ := hc
      have hcan' : M.canPred (tq ++ ⟨10, r, ((b + 2 : Nat) : Int), 0⟩ :: i :: s) (b : Int) = true := by rw [hcan, c1]; simpa using c2
      have hie : i = ⟨2, i.A, i.B, 0⟩ ∧ (0 ≤ i.A ∧ i.A ≤ 3) ∧ 0 ≤ i.B ∧ i.B ≤ 3 := by
        have := hi
        simp only [plainI, M.insOk, Bool.and_eq_true] at this
        obtain ⟨_, _, this⟩ := this
        rw [if_neg (by omega), if_neg (by omega), if_pos (.inl c1)] at this
        simp only [Bool.and_eq_true, isReg_iff, beq_iff_eq] at this
        refine ⟨?_, this.1, this.2.1⟩
        cases i; simp only at *; simp [c1, this.2.2]
      have hpr : M.predicate (M.predTo (sp ++ ⟨10, r, ((b + 2 : Nat) : Int), 0⟩ :: i :: s) b).1 (b : Int) = (tq ++ ⟨0, 0, 0, 0⟩ :: ⟨9, i.A, i.B, r⟩ :: s, true) := by
        rw [hp]
        unfold M.predicate
        rw [if_pos hcan', e1b, e1, e2]
        refine Prod.ext ?_ rfl
        show ((tq ++ _ :: i :: s).set (b : Int).toNat _).set ((b + 1 : Nat) : Int).toNat _ = _
        rw [Int.toNat_natCast, Int.toNat_natCast, show b = tq.length by omega, set_at]
        simp
      have h1 : M.predTo (sp ++ ⟨10, r, ((b + 2 : Nat) : Int), 0⟩ :: i :: s) (b + 1) = (tq ++ ⟨0, 0, 0, 0⟩ :: ⟨9, i.A, i.B, r⟩ :: s, ((m + 1 : Nat) : Int)) := by
        rw [M.predTo, hpr, if_pos rfl, hp]; push_cast; rfl
      have e3 : rd (tq ++ (⟨0, 0, 0, 0⟩ : D.Ins) :: ⟨9, i.A, i.B, r⟩ :: s) ((b + 1 : Nat) : Int) = ⟨9, i.A, i.B, r⟩ := by
        have := rd_app (l := tq ++ [(⟨0, 0, 0, 0⟩ : D.Ins)]) (m := s) (y := ⟨9, i.A, i.B, r⟩) (k := b + 1) (by simp; omega)
        simpa using this
      have h2 := predTo_no h1 (canPred_op (by rw [e3]; exact (show ¬ (9 : Int) = 10 by decide)))
      have hs' : Sel 0 (sp ++ [⟨10, r, ((b + 2 : Nat) : Int), 0⟩, i]) (tq ++ [⟨0, 0, 0, 0⟩, ⟨9, i.A, i.B, r⟩]) (m + (0 + 1)) := hs.cat (by
        rw [Nat.zero_add, hk]
        obtain ⟨g1, g2, g3⟩ := hie
        conv => arg 2; rw [g1]
        exact .pr h0 h3 g2.1 g2.2 g3.1 g3.2 (.nil _))
      have := ih (sp ++ [⟨10, r, ((b + 2 : Nat) : Int), 0⟩, i]) (tq ++ [⟨0, 0, 0, 0⟩, ⟨9, i.A, i.B, r⟩]) (m + 1) (by simpa using hs') (by simp [hk]) (by simpa using hl) (by simpa using h2)
      simpa using this
    · have hcan' : M.canPred (tq ++ ⟨10, r, ((b + 2 : Nat) : Int), 0⟩ :: i :: s) (b : Int) = false := by
        rw [hcan]
        by_cases c1 : i.Op = 2
        · have c2 : i.A = r := Classical.byContradiction fun g => hc ⟨c1, g⟩
          rw [c1, c2]; simp
        · have : (i.Op == 2) = false := by rw [beq_eq_false_iff_ne]; exact c1
          rw [this]; rfl
      have h1 := predTo_no hp hcan'
      have h2 := predTo_no h1 (canPred_op (by rw [e2]; omega))
      have hs' : Sel 0 (sp ++ [⟨10, r, ((b + 2 : Nat) : Int), 0⟩, i]) (tq ++ [⟨10, r, ((b + 2 : Nat) : Int), 0⟩, i]) (m + 0) := hs.cat (by rw [Nat.zero_add, hk]; exact .br h0 h3 hi (.nil _))
      have := ih (sp ++ [⟨10, r, ((b + 2 : Nat) : Int), 0⟩, i]) (tq ++ [⟨10, r, ((b + 2 : Nat) : Int), 0⟩, i]) m hs' (by simp [hk]) (by simpa using hl) (by simpa using h2)
      simpa using this
theorem pred_line {s : List D.Ins} (h : Line 0 s) (hl : s.length ≤ 32) : ∃ q m, Sel 0 s q m ∧ M.predicateAll s = (q, (m : Int)) := by
  have := pred_all h [] [] 0 (.nil 0) rfl (by simpa using hl) rfl
  simpa [M.predicateAll] using this
end Go.V
set_option linter.unusedVariables false
set_option linter.unusedSimpArgs false
set_option maxRecDepth 20000
namespace Go.V
def Lies (p : List D.Ins) (b : Nat) (s : List D.Ins) : Prop := b + s.length ≤ p.length ∧ ∀ j : Nat, j < s.length → rd p ((b + j : Nat) : Int) = rd s (j : Int)
theorem Lies.head {p : List D.Ins} {b : Nat} {i : D.Ins} {s : List D.Ins} (h : Lies p b (i :: s)) : rd p (b : Int) = i := h.2 0 (by simp)
theorem Lies.tail {p : List D.Ins} {b : Nat} {i : D.Ins} {s : List D.Ins} (h : Lies p b (i :: s)) : Lies p (b + 1) s := by
  refine ⟨by have := h.1; rw [List.length_cons] at this; omega, fun j hj => ?_⟩
  have := h.2 (j + 1) (by rw [List.length_cons]; omega)
  rwa [show b + (j + 1) = b + 1 + j by omega, rd_succ] at this
theorem lies_self (s : List D.Ins) : Lies s 0 s := ⟨by omega, fun j hj => by rw [Nat.zero_add]⟩
theorem step_plain {p : List D.Ins} {l : D.Lane} {b : Nat} {i : D.Ins} (h : l.Pc = (b : Int)) (hi : rd p (b : Int) = i) (hop : 0 ≤ i.Op ∧ i.Op ≤ 9) : M.step p l = ⟨l.Thread, ((b + 1 : Nat) : Int), M.apply i l.Thread l.Regs⟩ := by
  obtain ⟨g1, g2, g3⟩ := goes_on h hi (by omega) (by omega) (by omega)
  have : M.step p l = ⟨(M.step p l).Thread, (M.step p l).Pc, (M.step p l).Regs⟩ := rfl
  rw [this, g1, g2, g3]
theorem step_zero {p : List D.Ins} {l : D.Lane} {b : Nat} {r : Int} (h : l.Pc = (b : Int)) (hi : rd p (b : Int) = ⟨10, r, ((b + 2 : Nat) : Int), 0⟩) : M.step p l = ⟨l.Thread, if rd l.Regs r = 0 then ((b + 2 : Nat) : Int) else ((b + 1 : Nat) : Int), l.Regs⟩ := by
  have e1 : M.next p l.Pc l.Regs = if rd l.Regs r = 0 then ((b + 2 : Nat) : Int) else ((b + 1 : Nat) : Int) := by
    unfold M.next
    rw [h, hi, if_neg (show ¬ (10 : Int) = 12 by decide), if_neg (show ¬ (10 : Int) = 11 by decide), if_pos rfl]
    split <;> (push_cast; omega)
  have e2 : M.apply (rd p l.Pc) l.Thread l.Regs = l.Regs := by rw [h, hi]; rfl
  show (⟨l.Thread, M.next p l.Pc l.Regs, M.apply (rd p l.Pc) l.Thread l.Regs⟩ : D.Lane) = _
  rw [e1, e2]
theorem sel_lane {b m : Nat} {s t : List D.Ins} (h : Sel b s t m) : ∀ (p q : List D.Ins) (l : D.Lane), p.length = q.length → Lies p b s → Lies q b t → l.Pc = (b : Int) →
    ∃ (k k' : Nat) (r : List Int), k ≤ s.length ∧ k' ≤ s.length ∧ Walk p k l ⟨l.Thread, ((b + s.length : Nat) : Int), r⟩ ∧ Walk q k' l ⟨l.Thread, ((b + s.length : Nat) : Int), r⟩ := by
  induction h with
  | nil b =>
    intro p q l _ _ _ hpc
    refine ⟨0, 0, l.Regs, Nat.le_refl _, Nat.le_refl _, ?_, ?_⟩ <;> (show l = _; cases l; simp only at hpc; rw [hpc]; rfl)
  | @one b m i s t hi _ ih =>
    intro p q l hlen hp hq hpc
    have hop := plain_op hi
    have h1 := hp.1
    have h2 := hq.1
    rw [List.length_cons] at h1 h2
    have e1 := step_plain hpc hp.head ⟨by omega, hop.2⟩
    have e2 := step_plain hpc hq.head ⟨by omega, hop.2⟩
    obtain ⟨k, k', r, g1, g2, g3, g4⟩ := ih p q ⟨l.Thread, ((b + 1 : Nat) : Int), M.apply i l.Thread l.Regs⟩ hlen hp.tail hq.tail rfl
    rw [show b + 1 + s.length = b + (i :: s).length by rw [List.length_cons]; omega] at g3 g4
    refine ⟨k + 1, k' + 1, r, by rw [List.length_cons]; omega, by rw [List.length_cons]; omega, ⟨by omega, ?_⟩, ⟨by omega, ?_⟩⟩
    · rw [e1]; exact g3
    · rw [e2]; exact g4
  | @br b m r i s t h0 h3 hi _ ih =>
    intro p q l hlen hp hq hpc
    have hop := plain_op hi
    have h1 := hp.1
    have h2 := hq.1
    rw [List.length_cons, List.length_cons] at h1 h2
    have e1 := step_zero hpc hp.head
    have e2 := step_zero hpc hq.head
    by_cases g : rd l.Regs r = 0
    · rw [if_pos g] at e1 e2
      obtain ⟨k, k', rr, g1, g2, g3, g4⟩ := ih p q ⟨l.Thread, ((b + 2 : Nat) : Int), l.Regs⟩ hlen hp.tail.tail hq.tail.tail rfl
      rw [show b + 2 + s.length = b + (⟨10, r, ((b + 2 : Nat) : Int), 0⟩ :: i :: s).length by rw [List.length_cons, List.length_cons]; omega] at g3 g4
      refine ⟨k + 1, k' + 1, rr, by rw [List.length_cons, List.length_cons]; omega, by rw [List.length_cons, List.length_cons]; omega, ⟨by omega, ?_⟩, ⟨by omega, ?_⟩⟩
      · rw [e1]; exact g3
      · rw [e2]; exact g4
    · rw [if_neg g] at e1 e2
      have f1 := step_plain (p := p) (l := ⟨l.Thread, ((b + 1 : Nat) : Int), l.Regs⟩) rfl hp.tail.head ⟨by omega, hop.2⟩
      have f2 := step_plain (p := q) (l := ⟨l.Thread, ((b + 1 : Nat) : Int), l.Regs⟩) rfl hq.tail.head ⟨by omega, hop.2⟩
      obtain ⟨k, k', rr, g1, g2, g3, g4⟩ := ih p q ⟨l.Thread, ((b + 2 : Nat) : Int), M.apply i l.Thread l.Regs⟩ hlen hp.tail.tail hq.tail.tail rfl
      rw [show b + 2 + s.length = b + (⟨10, r, ((b + 2 : Nat) : Int), 0⟩ :: i :: s).length by rw [List.length_cons, List.length_cons]; omega] at g3 g4
      refine ⟨k + 1 + 1, k' + 1 + 1, rr, by rw [List.length_cons, List.length_cons]; omega, by rw [List.length_cons, List.length_cons]; omega, ⟨by omega, ?_⟩, ⟨by omega, ?_⟩⟩
      · rw [e1]; exact ⟨by show ((b + 1 : Nat) : Int) < _; omega, by rw [f1]; exact g3⟩
      · rw [e2]; exact ⟨by show ((b + 1 : Nat) : Int) < _; omega, by rw [f2]; exact g4⟩
  | @pr b m r a c s t h0 h1 h2 h3 h4 h5 _ ih =>
    intro p q l hlen hp hq hpc
    have z1 := hp.1
    have z2 := hq.1
    rw [List.length_cons, List.length_cons] at z1 z2
    have e1 := step_zero hpc hp.head
    have e2 := step_plain hpc hq.head (show (0 : Int) ≤ 0 ∧ (0 : Int) ≤ 9 by decide)
    have e2' : M.step q l = ⟨l.Thread, ((b + 1 : Nat) : Int), l.Regs⟩ := e2
    have f2 := step_plain (p := q) (l := ⟨l.Thread, ((b + 1 : Nat) : Int), l.Regs⟩) rfl hq.tail.head (show (0 : Int) ≤ 9 ∧ (9 : Int) ≤ 9 by decide)
    have f2' : M.step q ⟨l.Thread, ((b + 1 : Nat) : Int), l.Regs⟩ = ⟨l.Thread, ((b + 2 : Nat) : Int), if rd l.Regs r ≠ 0 then l.Regs.set a.toNat (rd l.Regs c) else l.Regs⟩ := f2
    by_cases g : rd l.Regs r = 0
    · rw [if_pos g] at e1
      rw [if_neg (by simpa using g)] at f2'
      obtain ⟨k, k', rr, g1, g2, g3, g4⟩ := ih p q ⟨l.Thread, ((b + 2 : Nat) : Int), l.Regs⟩ hlen hp.tail.tail hq.tail.tail rfl
      rw [show b + 2 + s.length = b + (⟨10, r, ((b + 2 : Nat) : Int), 0⟩ :: ⟨2, a, c, 0⟩ :: s).length by rw [List.length_cons, List.length_cons]; omega] at g3 g4
      refine ⟨k + 1, k' + 1 + 1, rr, by rw [List.length_cons, List.length_cons]; omega, by rw [List.length_cons, List.length_cons]; omega, ⟨by omega, ?_⟩, ⟨by omega, ?_⟩⟩
      · rw [e1]; exact g3
      · rw [e2']; exact ⟨by show ((b + 1 : Nat) : Int) < _; omega, by rw [f2']; exact g4⟩
    · rw [if_neg g] at e1
      rw [if_pos g] at f2'
      have f1 := step_plain (p := p) (l := ⟨l.Thread, ((b + 1 : Nat) : Int), l.Regs⟩) rfl hp.tail.head (show (0 : Int) ≤ 2 ∧ (2 : Int) ≤ 9 by decide)
      have f1' : M.step p ⟨l.Thread, ((b + 1 : Nat) : Int), l.Regs⟩ = ⟨l.Thread, ((b + 2 : Nat) : Int), l.Regs.set a.toNat (rd l.Regs c)⟩ := f1
      obtain ⟨k, k', rr, g1, g2, g3, g4⟩ := ih p q ⟨l.Thread, ((b + 2 : Nat) : Int), l.Regs.set a.toNat (rd l.Regs c)⟩ hlen hp.tail.tail hq.tail.tail rfl
      rw [show b + 2 + s.length = b + (⟨10, r, ((b + 2 : Nat) : Int), 0⟩ :: ⟨2, a, c, 0⟩ :: s).length by rw [List.length_cons, List.length_cons]; omega] at g3 g4
      refine ⟨k + 1 + 1, k' + 1 + 1, rr, by rw [List.length_cons, List.length_cons]; omega, by rw [List.length_cons, List.length_cons]; omega, ⟨by omega, ?_⟩, ⟨by omega, ?_⟩⟩
      · rw [e1]; exact ⟨by show ((b + 1 : Nat) : Int) < _; omega, by rw [f1']; exact g3⟩
      · rw [e2']; exact ⟨by show ((b + 1 : Nat) : Int) < _; omega, by rw [f2']; exact g4⟩
theorem cuts_eq {r r' : List Int} (h : r.length = 32) (h' : r'.length = 32) (hc : ∀ j : Nat, j < 8 → M.laneCut r j = M.laneCut r' j) : r = r' := by
  have e1 : r = (List.range 8).flatMap (M.laneCut r) := by rw [cuts_all, List.take_of_length_le (by omega)]
  have e2 : r' = (List.range 8).flatMap (M.laneCut r') := by rw [cuts_all, List.take_of_length_le (by omega)]
  rw [e1, e2]
  exact flat_same _ fun j hj => hc j (List.mem_range.1 hj)
theorem WW.fine {p : List D.Ins} : ∀ {n S : Nat} {x y : D.Warp}, WW p n S x y → M.Fine p x → M.Fine p y
  | 0, S, x, y, h, hF => h.2 ▸ hF
  | n + 1, S, x, y, h, hF => by
    obtain ⟨h1, S', _, h2⟩ := h
    exact h2.fine (stepW_fine (goes_of hF h1))
theorem sel_warp {b m : Nat} {s t : List D.Ins} (h : Sel b s t m) : ∀ (p q : List D.Ins) (x : D.Warp), FlowP p → FlowP q → p.length = q.length → Lies p b s → Lies q b t → M.Fine p x → M.Fine q x → x.Frames = Bf p.length b →
    ∃ (k S k' S' : Nat) (y : D.Warp), k ≤ s.length ∧ k' ≤ s.length ∧ WW p k S x y ∧ WW q k' S' x y ∧ S' ≤ S ∧ y.Frames = Bf p.length (b + s.length) := by
  induction h with
  | nil b =>
    intro p q x _ _ _ _ _ _ _ hx
    exact ⟨0, 0, 0, 0, x, Nat.le_refl _, Nat.le_refl _, ⟨rfl, rfl⟩, ⟨rfl, rfl⟩, Nat.le_refl _, hx⟩
  | @one b m i s t hi _ ih =>
    intro p q x fp fq hlen hp hq hF hG hx
    have hop := plain_op hi
    have h1 := hp.1
    rw [List.length_cons] at h1
    have hx1 : x.Frames = [⟨(b : Int), (p.length : Int), 255⟩] := by rw [hx]; unfold Bf; rw [if_neg (by omega)]
    have w1 := flow_plain fp hF (by omega) hx1 (by rw [hp.head]; omega)
    have w2 := flow_plain fq hG (k := b) (by omega) (by rw [← hlen]; exact hx1) (by rw [hq.head]; omega)
    rw [hp.head] at w1
    rw [hq.head, ← hlen] at w2
    obtain ⟨k, S, k', S', y, g0, g0', g1, g2, g3, g4⟩ := ih p q _ fp fq hlen hp.tail hq.tail (w1.fine hF) (w2.fine hG) rfl
    refine ⟨1 + k, 0 + S, 1 + k', 0 + S', y, by rw [List.length_cons]; omega, by rw [List.length_cons]; omega, w1.trans g1, w2.trans g2, by omega, ?_⟩
    exact g4.trans (congrArg (Bf p.length) (by rw [List.length_cons]; omega))
  | @br b m r i s t h0 h3 hi _ ih =>
    intro p q x fp fq hlen hp hq hF hG hx
    have h1 := hp.1
    rw [List.length_cons, List.length_cons] at h1
    have hx1 : x.Frames = [⟨(b : Int), (p.length : Int), 255⟩] := by rw [hx]; unfold Bf; rw [if_neg (by omega)]
    obtain ⟨n1, S1, rg1, w1, l1, d1, c1, z1⟩ := flow_branch fp hF (by omega) hx1 (by rw [hp.head])
    obtain ⟨n2, S2, rg2, w2, l2, d2, c2, z2⟩ := flow_branch fq hG (k := b) (by omega) (by rw [← hlen]; exact hx1) (by rw [hq.head])
    rw [hp.head] at c1 z1
    rw [hq.head] at c2 z2
    rw [hp.tail.head] at z1
    rw [hq.tail.head] at z2
    have hS : S1 = S2 := c1.trans c2.symm
    have hrg : rg1 = rg2 := cuts_eq d1 d2 fun j hj => (z1 j hj).trans (z2 j hj).symm
    subst hrg
    subst hS
    rw [← hlen] at w2
    obtain ⟨k, S, k', S', y, g0, g0', g1, g2, g3, g4⟩ := ih p q _ fp fq hlen hp.tail.tail hq.tail.tail (w1.fine hF) (w2.fine hG) rfl
    refine ⟨n1 + k, S1 + S, n2 + k', S1 + S', y, by rw [List.length_cons, List.length_cons]; omega, by rw [List.length_cons, List.length_cons]; omega, w1.trans g1, w2.trans g2, by omega, ?_⟩
    exact g4.trans (congrArg (Bf p.length) (by rw [List.length_cons, List.length_cons]; omega))
  | @pr b m r a c s t h0 h1 h2 h3 h4 h5 _ ih =>
    intro p q x fp fq hlen hp hq hF hG hx
    have h1 := hp.1
    rw [List.length_cons, List.length_cons] at h1
    have hx1 : x.Frames = [⟨(b : Int), (p.length : Int), 255⟩] := by rw [hx]; unfold Bf; rw [if_neg (by omega)]
    have hr : M.Runs p x := ⟨hF.1, hF.2, by rw [hx1]; simp⟩
    obtain ⟨_, _, _, t4, _, _, _, t8, t9⟩ := runs_top hr
    obtain ⟨n1, S1, rg1, w1, l1, d1, c1, z1⟩ := flow_branch fp hF (by omega) hx1 (by rw [hp.head])
    rw [hp.head] at z1
    rw [hp.tail.head] at z1
    have w2 := flow_plain fq hG (k := b) (by omega) (by rw [← hlen]; exact hx1) (by rw [hq.head]; decide)
    rw [hq.head, ← hlen] at w2
    have hb1 : Bf p.length (b + 1) = [⟨((b + 1 : Nat) : Int), (p.length : Int), 255⟩] := by unfold Bf; rw [if_neg (by omega)]
    rw [hb1] at w2
    have w3 := flow_plain fq (w2.fine hG) (by omega) (k := b + 1) (by rw [← hlen]) (by rw [hq.tail.head]; exact (show (0 : Int) ≤ 9 ∧ (9 : Int) ≤ 9 by decide))
    rw [hq.tail.head, ← hlen] at w3
    have w23 := w2.trans w3
    have hrg : M.applyAll ⟨9, a, c, r⟩ x.Number 255 (M.applyAll ⟨0, 0, 0, 0⟩ x.Number 255 x.Regs) = rg1 := by
      refine cuts_eq (applyAll_len (applyAll_len t4)) d1 fun j hj => ?_
      rw [z1 j hj, applyAll_lane (applyAll_len t4) hj, if_pos (mask_full hj), applyAll_lane t4 hj, if_pos (mask_full hj)]
      have e0 : M.apply ⟨0, 0, 0, 0⟩ (x.Number * 8 + (j : Int)) (M.laneCut x.Regs j) = M.laneCut x.Regs j := rfl
      have e9 : M.apply ⟨9, a, c, r⟩ (x.Number * 8 + (j : Int)) (M.laneCut x.Regs j) = if rd (M.laneCut x.Regs j) r ≠ 0 then (M.laneCut x.Regs j).set a.toNat (rd (M.laneCut x.Regs j) c) else M.laneCut x.Regs j := rfl
      have e2 : M.apply ⟨2, a, c, 0⟩ (x.Number * 8 + (j : Int)) (M.laneCut x.Regs j) = (M.laneCut x.Regs j).set a.toNat (rd (M.laneCut x.Regs j) c) := rfl
      rw [e0, e9, e2, rd_lane t4 hj (by rw [isReg_iff]; omega)]
      by_cases g : rd x.Regs ((j : Int) * 4 + r) = 0
      · rw [if_pos g, if_neg (by simpa using g)]
      · rw [if_neg g, if_pos g]
    have w4 : WW q (1 + 1) (0 + 0) x ⟨x.Number, Bf p.length (b + 2), rg1⟩ := by
      rw [← hrg]
      simp only at w23
      exact w23
    obtain ⟨k, S, k', S', y, g0, g0', g1, g2, g3, g4⟩ := ih p q _ fp fq hlen hp.tail.tail hq.tail.tail (w1.fine hF) (w4.fine hG) rfl
    refine ⟨n1 + k, S1 + S, 1 + 1 + k', 0 + 0 + S', y, by rw [List.length_cons, List.length_cons]; omega, by rw [List.length_cons, List.length_cons]; omega, w1.trans g1, w4.trans g2, by omega, ?_⟩
    exact g4.trans (congrArg (Bf p.length) (by rw [List.length_cons, List.length_cons]; omega))
theorem sel_regs {m : Nat} {s t : List D.Ins} (h : Sel 0 s t m) (hl : s.length ≤ 32) {w : Int} (hw : 0 ≤ w ∧ w ≤ 2) : M.differing s t w = 0 := by
  obtain ⟨f1, _⟩ := h.facts
  obtain ⟨fs, ft⟩ := h.flow hl
  have key : ∀ i : Nat, i < 8 → (M.runAlone s (w * 8 + (i : Int))).2 = true ∧ (M.runAlone t (w * 8 + (i : Int))).2 = true ∧ (M.runAlone s (w * 8 + (i : Int))).1.Regs = (M.runAlone t (w * 8 + (i : Int))).1.Regs := fun i hi => by
    have hl0 : M.laneNew (w * 8 + (i : Int)) = ⟨w * 8 + (i : Int), 0, [0, 0, 0, 0]⟩ := by
      unfold M.laneNew
      rw [if_pos (by simp only [M.isIn, Bool.and_eq_true, decide_eq_true_eq]; omega)]
    obtain ⟨k, k', r, g1, g2, g3, g4⟩ := sel_lane h s t (M.laneNew (w * 8 + (i : Int))) f1.symm (lies_self s) (lies_self t) (by rw [hl0]; rfl)
    rw [Nat.zero_add] at g3 g4
    obtain ⟨_, a1, a2⟩ := alone_steps fs.quiet (t := w * 8 + (i : Int)) (by omega) (show k ≤ 1000 by omega) (g3.alone rfl)
    obtain ⟨_, b1, b2⟩ := alone_steps ft.quiet (t := w * 8 + (i : Int)) (by omega) (show k' ≤ 1000 by omega) (g4.alone (by rw [f1]))
    exact ⟨a1, b1, a2.trans b2.symm⟩
  have hc : M.isIn (8 : Int) 1 24 = true := rfl
  have hf : M.isIn (w * 8) 0 23 = true := by simp only [M.isIn, Bool.and_eq_true, decide_eq_true_eq]; omega
  have e1 : M.endRegs s (w * 8) 8 = (M.endList s (w * 8) 8, true) := by
    unfold M.endRegs
    rw [hc, hf, if_pos]
    · rfl
    · rw [Bool.true_and, Bool.true_and]
      unfold M.endOk
      rw [List.all_eq_true]
      exact fun i hi => (key i (List.mem_range.1 hi)).1
  have e2 : M.endRegs t (w * 8) 8 = (M.endList t (w * 8) 8, true) := by
    unfold M.endRegs
    rw [hc, hf, if_pos]
    · rfl
    · rw [Bool.true_and, Bool.true_and]
      unfold M.endOk
      rw [List.all_eq_true]
      exact fun i hi => (key i (List.mem_range.1 hi)).2.1
  have e3 : M.endList s (w * 8) 8 = M.endList t (w * 8) 8 := flat_same _ fun i hi => (key i (List.mem_range.1 hi)).2.2
  unfold M.differing
  rw [e1, e2, e3, if_pos (by simp only [M.isIn, Bool.and_eq_true, decide_eq_true_eq]; exact ⟨hw, trivial, trivial⟩)]
  show M.diffMask (M.endList t (w * 8) 8) (M.endList t (w * 8) 8) 32 = 0
  unfold M.diffMask
  simp only [if_true]
  have : ∀ l : List Nat, l.foldl (fun (m : Int) (_ : Nat) => m) 0 = 0 := fun l => by
    induction l with
    | nil => rfl
    | cons x l ih => exact ih
  exact this _
theorem flow_cost {p : List D.Ins} (hp : FlowP p) {w : Int} (hw : 0 ≤ w ∧ w ≤ 2) {k S : Nat} {y : D.Warp} (h : WW p k S (M.newWarp p w) y) (hk : k ≤ 32) (hy : y.Frames = []) : (M.costOf p w).2 = true ∧ (M.costOf p w).1.Splits = (S : Int) := by
  obtain ⟨g1, g2⟩ := h.at'
  have hrun : M.runW p 8000 (M.newWarp p w) 0 = (M.wAt p (M.newWarp p w) k, 0 + (k : Int)) := runW_to k 8000 _ 0 (by omega) g2 (by rw [g1]; simp [M.spec_l13Local, hy])
  have hres : M.warpResult p w = (y, (k : Int), true) := by
    unfold M.warpResult
    rw [hrun, g1, if_pos (by rw [hp.quiet]; simp only [M.isIn, Bool.true_and, Bool.and_eq_true, decide_eq_true_eq]; exact hw), if_pos (by rw [hy]; rfl)]
    simp
  unfold M.costOf
  rw [hres, if_pos rfl]
  exact ⟨rfl, by show (M.costTo p (M.newWarp p w) ((k : Int)).toNat).Splits = _; rw [Int.toNat_natCast]; exact h.cost⟩
theorem sel_splits {m : Nat} {s t : List D.Ins} (h : Sel 0 s t m) (hl : s.length ≤ 32) {w : Int} (hw : 0 ≤ w ∧ w ≤ 2) : ∃ S S' : Nat, S' ≤ S ∧ S ≤ 64 ∧ (M.costOf s w).2 = true ∧ (M.costOf t w).2 = true ∧ (M.costOf s w).1.Splits = (S : Int) ∧ (M.costOf t w).1.Splits = (S' : Int) := by
  obtain ⟨f1, _⟩ := h.facts
  obtain ⟨fs, ft⟩ := h.flow hl
  have hin : M.isIn w 0 2 = true := by simp only [M.isIn, Bool.and_eq_true, decide_eq_true_eq]; exact hw
  have e : M.newWarp s w = M.newWarp t w := by unfold M.newWarp; rw [f1]
  have hFr : (M.newWarp s w).Frames = Bf s.length 0 := by
    show (if s.length > 0 then [_] else []) = _
    unfold Bf
    by_cases g : s.length > 0
    · rw [if_pos g, if_neg (by omega)]; rfl
    · rw [if_neg g, if_pos (by omega)]
  obtain ⟨k, S, k', S', y, g0, g0', g1, g2, g3, g4⟩ := sel_warp h s t (M.newWarp s w) fs ft f1.symm (lies_self s) (lies_self t) (newWarp_fine (quiet_prog fs.quiet) hin) (by rw [e]; exact newWarp_fine (quiet_prog ft.quiet) hin) hFr
  rw [Nat.zero_add] at g4
  have hy : y.Frames = [] := by rw [g4]; unfold Bf; rw [if_pos rfl]
  have c1 := flow_cost fs hw g1 (by omega) hy
  rw [e] at g2
  have c2 := flow_cost ft hw g2 (by omega) hy
  have hS : S ≤ k := by
    have : ∀ {n S : Nat} {x y : D.Warp}, WW s n S x y → S ≤ n := by
      intro n
      induction n with
      | zero => intro S x y h; exact Nat.le_of_eq h.1
      | succ n ih =>
        intro S x y h
        obtain ⟨_, S', rfl, h2⟩ := h
        have := ih h2
        split <;> omega
    exact this g1
  exact ⟨S, S', g3, by omega, c1.1, c2.1, c1.2, c2.2⟩
end Go.V
set_option linter.unusedVariables false
set_option linter.unusedVariables false
set_option linter.unusedSimpArgs false
set_option maxRecDepth 20000
namespace Go.V
theorem place_in {b : List Int} (h : M.Long b) {k n : Int} (h0 : 0 ≤ k) (hk : k < 12) (hn : 0 < n) : 0 ≤ Int.tmod (rd (M.spec_DrawPlaces b) k) n ∧ Int.tmod (rd (M.spec_DrawPlaces b) k) n < n := by
  have hpl : (M.spec_DrawPlaces b).length = 12 := places_len 12 _
  have := places_good 12 (M.spec_l01New b) _ (rd_of (xs := M.spec_DrawPlaces b) (i := k) h0 (by omega))
  exact tmod_in this.1 hn
end Go.V
set_option linter.unusedVariables false
namespace Go.V
def wp.spec_l18Short (s0 : D.Cur) (Q : ((List D.Ins) × D.Cur) → Prop) : Prop :=
  (M.spec_l01Below_pre s0 6 ∧ ∀ r21, r21 = M.spec_l01Below s0 6 → LoopP (σ := (List D.Ins) × Int × Int × Int × Unit) (fun (p178 : (List D.Ins) × Int × Int × Int × Unit) next109 => match p178 with | (xs100, i103, i104, i105, _) => (M.spec_l01Below_pre (⟨s0.b, i104, i105⟩ : D.Cur) 4 ∧ ∀ r111, r111 = M.spec_l01Below (⟨s0.b, i104, i105⟩ : D.Cur) 4 → bcase (decide (i103 < (IntKind.wrap .i64 (1 + r111.1)))) (JoinP (σ := (List D.Ins) × Int × Int × Unit) (fun J122 => (M.spec_l01Once_pre (⟨s0.b, r111.2.i, r111.2.h⟩ : D.Cur) 3 ∧ ∀ r125, r125 = M.spec_l01Once (⟨s0.b, r111.2.i, r111.2.h⟩ : D.Cur) 3 → bcase r125.1 ((M.spec_l04Plain_pre (⟨s0.b, r125.2.i, r125.2.h⟩ : D.Cur) ∧ ∀ r131, r131 = M.spec_l04Plain (⟨s0.b, r125.2.i, r125.2.h⟩ : D.Cur) → ((xs100.length + ([r131.1] : List D.Ins).length ≤ 17179869184) ∧ J122 ((xs100 ++ ([r131.1] : List D.Ins)), r131.2.i, r131.2.h, ())))) (J122 (xs100, r125.2.i, r125.2.h, ())))) (fun (p175 : (List D.Ins) × Int × Int × Unit) => match p175 with | (xs117, i120, i121, _) => (M.spec_l01Below_pre (⟨s0.b, i120, i121⟩ : D.Cur) 4 ∧ ∀ r146, r146 = M.spec_l01Below (⟨s0.b, i120, i121⟩ : D.Cur) 4 → (M.spec_l01Below_pre (⟨s0.b, r146.2.i, r146.2.h⟩ : D.Cur) 4 ∧ ∀ r152, r152 = M.spec_l01Below (⟨s0.b, r146.2.i, r146.2.h⟩ : D.Cur) 4 → (M.spec_l01Below_pre (⟨s0.b, r152.2.i, r152.2.h⟩ : D.Cur) 4 ∧ ∀ r158, r158 = M.spec_l01Below (⟨s0.b, r152.2.i, r152.2.h⟩ : D.Cur) 4 → ((xs117.length + ([(⟨10, r146.1, (IntKind.wrap .i64 (((xs117.length : Nat) : Int) + 2)), 0⟩ : D.Ins), (⟨2, r152.1, r158.1, 0⟩ : D.Ins)] : List D.Ins).length ≤ 17179869184) ∧ next109 ((xs117 ++ ([(⟨10, r146.1, (IntKind.wrap .i64 (((xs117.length : Nat) : Int) + 2)), 0⟩ : D.Ins), (⟨2, r152.1, r158.1, 0⟩ : D.Ins)] : List D.Ins)), (IntKind.wrap .i64 (i103 + 1)), r158.2.i, r158.2.h, ()))))))) (Q (xs100, (⟨s0.b, r111.2.i, r111.2.h⟩ : D.Cur))))) (([(⟨8, 0, 0, 0⟩ : D.Ins), (⟨1, 1, r21.1, 0⟩ : D.Ins), (⟨7, 2, 0, 1⟩ : D.Ins)] : List D.Ins), 0, r21.2.i, r21.2.h, ()))
def wp.spec_DrawShort (xs0 : List Int) (Q : (List D.Ins) → Prop) : Prop :=
  (M.spec_l01New_pre xs0 ∧ ∀ r21, r21 = M.spec_l01New xs0 → (M.spec_l18Short_pre (⟨xs0, r21.i, r21.h⟩ : D.Cur) ∧ ∀ r27, r27 = M.spec_l18Short (⟨xs0, r21.i, r21.h⟩ : D.Cur) → Q r27.1))
def wp.impl_CountOps (xs0 : List D.Ins) (x1 : Int) (Q : Int → Prop) : Prop :=
  LoopP (σ := Int × Int × Unit) (fun (p45 : Int × Int × Unit) next26 => match p45 with | (i21, i22, _) => bcase (decide (i22 < ((xs0.length : Nat) : Int))) (((0 ≤ i22 ∧ i22 < ((xs0.length : Nat) : Int)) ∧ bcase ((rd xs0 i22).Op == x1) (next26 ((IntKind.wrap .i64 (i21 + 1)), (IntKind.wrap .i64 (i22 + 1)), ())) (next26 (i21, (IntKind.wrap .i64 (i22 + 1)), ())))) (Q i21)) (0, 0, ())
def wp.laws_FnPredicates (xs0 : List Int) (Q : Bool → Prop) : Prop :=
  (∀ r21, r21 = M.laws_big xs0 → bcase r21 (Q true) ((M.spec_DrawShort_pre xs0 ∧ ∀ r26, r26 = M.spec_DrawShort xs0 → (M.spec_DrawPlaces_pre xs0 ∧ ∀ r33, r33 = M.spec_DrawPlaces xs0 → (M.impl_PredicateAll_pre r26 ∧ ∀ r40, r40 = M.impl_PredicateAll r26 → (M.impl_IsQuiet_pre r40.1 ∧ ∀ r47, r47 = M.impl_IsQuiet r40.1 → bcase r47 (bcase (((r40.1.length : Nat) : Int) == ((r26.length : Nat) : Int)) (bcase (decide (r40.2 ≤ (IntKind.wrap .i64 (Int.tdiv ((r26.length : Nat) : Int) 2)))) (((0 ≤ (0 : Int) ∧ (0 : Int) < ((r33.length : Nat) : Int)) ∧ (M.impl_DifferingLanes_pre r26 r40.1 (Int.tmod (rd r33 0) 3) ∧ ∀ r59, r59 = M.impl_DifferingLanes r26 r40.1 (Int.tmod (rd r33 0) 3) → bcase (r59 == 0) (((0 ≤ (0 : Int) ∧ (0 : Int) < ((r33.length : Nat) : Int)) ∧ (M.impl_SavedSplits_pre r26 (Int.tmod (rd r33 0) 3) ∧ ∀ r70, r70 = M.impl_SavedSplits r26 (Int.tmod (rd r33 0) 3) → bcase (decide (r70 ≥ 0)) ((M.impl_CountOps_pre r40.1 10 ∧ ∀ r75, r75 = M.impl_CountOps r40.1 10 → (M.impl_CountOps_pre r26 10 ∧ ∀ r80, r80 = M.impl_CountOps r26 10 → Q (r75 == (IntKind.wrap .i64 (r80 - r40.2)))))) (Q false)))) (Q false)))) (Q false)) (Q false)) (Q false)))))))
end Go.V
set_option linter.unusedVariables false
set_option linter.unusedSimpArgs false
set_option maxRecDepth 20000
namespace Go.V
theorem wp.impl_CountOps.math (p : List D.Ins) (op : Int) (h : M.impl_CountOps_pre p op) : wp.impl_CountOps p op (fun r => r = M.impl_CountOps p op) := by
  have h : p.length ≤ 9223372036854775807 := h
  refine loop_n p.length (fun k => ((((p.take k).countP fun i => i.Op == op : Nat) : Int), (k : Int), ())) (fun _ => True) rfl trivial (fun k hk _ next hn => ?_) fun _ next => bcase_f (by simp) (by rw [List.take_length]; rfl)
  have hn := hn trivial
  rw [List.take_add_one, List.getElem?_eq_getElem hk, Option.toList_some, List.countP_append, List.countP_singleton] at hn
  have hc : (p.take k).countP (fun i => i.Op == op) ≤ k := Nat.le_trans List.countP_le_length (by rw [List.length_take]; omega)
  dsimp only
  rw [up64 hk h, rd_nat hk]
  refine bcase_t (by simp; omega) ⟨⟨by omega, by omega⟩, bcase_mk (fun e => ?_) fun e => ?_⟩
  · rw [e] at hn
    rw [up64 (k := (p.take k).countP fun i => i.Op == op) (n := p.length) (by omega) h]
    exact hn
  · rw [e] at hn
    exact hn
theorem short_plain {c : D.Cur} (h : M.CurOk c) (p : List D.Ins) : M.CurOk (M.shortPlain c p).2 ∧ (M.shortPlain c p).2.b = c.b ∧ ∃ s, (M.shortPlain c p).1 = p ++ s ∧ Line p.length s ∧ s.length ≤ 1 := by
  have c1 := once_ok h 3
  have b1 := once_b c 3
  unfold M.shortPlain
  split
  · exact ⟨plain_ok c1, (plain_b _).trans b1, _, rfl, .one (plain_plainI _) (.nil _), by simp⟩
  · exact ⟨c1, b1, [], by simp, .nil _, by simp⟩
theorem short_one {c : D.Cur} (h : M.CurOk c) (p : List D.Ins) : M.CurOk (M.shortOne c p).2 ∧ (M.shortOne c p).2.b = c.b ∧ ∃ s, (M.shortOne c p).1 = p ++ s ∧ Line p.length s ∧ s.length ≤ 3 := by
  obtain ⟨c1, b1, s, e1, l1, n1⟩ := short_plain h p
  have h1 := below_in (M.shortPlain c p).2 (n := 4) (by omega)
  have h2 := below_in (M.spec_l01Below (M.shortPlain c p).2 4).2 (n := 4) (by omega)
  have h3 := below_in (M.spec_l01Below (M.spec_l01Below (M.shortPlain c p).2 4).2 4).2 (n := 4) (by omega)
  unfold M.shortOne
  refine ⟨below_ok (below_ok (below_ok c1 4) 4) 4, (below_b _ 4).trans ((below_b _ 4).trans ((below_b _ 4).trans b1)), s ++ _, by rw [e1, List.append_assoc], l1.cat ?_, by rw [List.length_append]; simp; omega⟩
  rw [List.length_append]
  refine .br (by omega) (by omega) ?_ (.nil _)
  simp only [plainI, M.insOk, M.isReg, M.isIn, Bool.and_eq_true, decide_eq_true_eq]
  simp
  omega
theorem short_all : ∀ (f : Nat) (k : Int) (c : D.Cur) (p : List D.Ins), M.CurOk c → M.CurOk (M.shortN f k c p).2 ∧ (M.shortN f k c p).2.b = c.b ∧ ∃ s, (M.shortN f k c p).1 = p ++ s ∧ Line p.length s ∧ s.length ≤ 3 * f
  | 0, k, c, p, h => ⟨below_ok h 4, below_b c 4, [], by simp [M.shortN], .nil _, by simp⟩
  | f + 1, k, c, p, h => by
    have c1 := below_ok h 4
    have b1 := below_b c 4
    rw [M.shortN]
    split
    · obtain ⟨c2, b2, s, e2, l2, n2⟩ := short_one c1 p
      obtain ⟨c3, b3, t, e3, l3, n3⟩ := short_all f (k + 1) (M.shortOne (M.spec_l01Below c 4).2 p).2 (M.shortOne (M.spec_l01Below c 4).2 p).1 c2
      rw [e2, List.length_append] at l3
      exact ⟨c3, b3.trans (b2.trans b1), s ++ t, by rw [e3, e2, List.append_assoc], l2.cat l3, by rw [List.length_append]; omega⟩
    · exact ⟨c1, b1, [], by simp, .nil _, by simp⟩
theorem short_draw {c : D.Cur} (h : M.CurOk c) : Line 0 (M.spec_l18Short c).1 ∧ (M.spec_l18Short c).1.length ≤ 15 := by
  have h6 := below_in c (n := 6) (by omega)
  obtain ⟨c1, b1, s, e1, l1, n1⟩ := short_all 4 0 (M.spec_l01Below c 6).2 (M.shortHead c) (below_ok h 6)
  have hh : Line 0 (M.shortHead c) := by
    unfold M.shortHead
    refine .one rfl (.one ?_ (.one rfl (.nil _)))
    simp only [plainI, M.insOk, M.isReg, M.isWord, M.isIn, Bool.and_eq_true, decide_eq_true_eq]
    simp
    omega
  have hl : (M.shortHead c).length = 3 := rfl
  have e : M.spec_l18Short c = M.shortN 4 0 (M.spec_l01Below c 6).2 (M.shortHead c) := rfl
  rw [e, e1]
  refine ⟨hh.cat (by rw [Nat.zero_add]; exact l1), by rw [List.length_append, hl]; omega⟩
def itS : Nat → D.Cur → List D.Ins → List D.Ins × D.Cur
  | 0, c, p => (p, c)
  | k + 1, c, p => M.shortOne (M.spec_l01Below (itS k c p).2 4).2 (itS k c p).1
theorem wp.spec_l18Short.math (c : D.Cur) (h : M.spec_l18Short_pre c) : wp.spec_l18Short c (fun r => r = M.spec_l18Short c) := by
  have h : M.CurOk c := h
  unfold wp.spec_l18Short
  refine ⟨h, fun r0 g0 => ?_⟩
  subst g0
  have hc0 := below_ok h 6
  have hb0 := below_b c 6
  have eM : M.spec_l18Short c = M.shortN 4 0 (M.spec_l01Below c 6).2 (M.shortHead c) := rfl
  have eH : ([(⟨8, 0, 0, 0⟩ : D.Ins), (⟨1, 1, (M.spec_l01Below c 6).1, 0⟩ : D.Ins), (⟨7, 2, 0, 1⟩ : D.Ins)] : List D.Ins) = M.shortHead c := rfl
  rw [eM, eH]
  have hl0 : (M.shortHead c).length = 3 := rfl
  generalize M.shortHead c = p0 at *
  generalize (M.spec_l01Below c 6).2 = c0 at *
  refine loop_n 4 (fun k => ((itS k c0 p0).1, (k : Int), (itS k c0 p0).2.i, (itS k c0 p0).2.h, ()))
    (fun k => M.CurOk (itS k c0 p0).2 ∧ (itS k c0 p0).2.b = c.b ∧ (itS k c0 p0).1.length ≤ 3 + 3 * k ∧ (k ≤ 4 → M.shortN 4 0 c0 p0 = M.shortN (4 - k) (k : Int) (itS k c0 p0).2 (itS k c0 p0).1))
    rfl ⟨hc0, hb0, by simp [itS, hl0], fun _ => rfl⟩ (fun k hk hF next hnx => ?_) fun hF next => ?_
  · obtain ⟨f1, f2, fl, f3⟩ := hF
    have f3 := f3 (by omega)
    have it : itS (k + 1) c0 p0 = M.shortOne (M.spec_l01Below (itS k c0 p0).2 4).2 (itS k c0 p0).1 := rfl
    rw [it] at hnx
    generalize itS k c0 p0 = y at *
    obtain ⟨q, e⟩ := y
    dsimp only at *
    rw [cur_eta f2]
    refine ⟨f1, fun r hr => ?_⟩
    subst hr
    have c1 := below_ok f1 4
    have b1 : (M.spec_l01Below e 4).2.b = c.b := (below_b e 4).trans f2
    have h4 := below_in e (n := 4) (by omega)
    rw [w64 (x := 1 + (M.spec_l01Below e 4).1) (by omega) (by omega), cur_eta b1]
    refine bcase_mk (fun g => ?_) fun g => ?_
    · have g : (k : Int) < 1 + (M.spec_l01Below e 4).1 := by simpa using g
      have hS : M.shortN 4 0 c0 p0 = M.shortN (4 - (k + 1)) ((k + 1 : Nat) : Int) (M.shortOne (M.spec_l01Below e 4).2 q).2 (M.shortOne (M.spec_l01Below e 4).2 q).1 := by
        rw [f3, show 4 - k = (4 - (k + 1)) + 1 by omega, M.shortN, if_pos g]
        push_cast; rfl
      obtain ⟨k1, k2, s, k3, k4, k5⟩ := short_one c1 q
      have hnx := hnx ⟨k1, k2.trans b1, by rw [k3, List.length_append]; omega, fun _ => hS⟩
      generalize (M.spec_l01Below e 4).2 = e4 at *
      obtain ⟨p1, p2, s1, p3, p4, p5⟩ := short_plain c1 q
      have p2' := p2.trans b1
      refine joinP_of ((M.shortPlain e4 q).1, (M.shortPlain e4 q).2.i, (M.shortPlain e4 q).2.h, ()) ?_ fun J hJ => ⟨c1, fun r hr => ?_⟩
      · dsimp only
        have hlen : (M.shortPlain e4 q).1.length ≤ 16 := by rw [p3, List.length_append]; omega
        rw [cur_eta p2', w64 (x := (((M.shortPlain e4 q).1.length : Nat) : Int) + 2) (by omega) (by omega)]
        refine ⟨p1, fun r hr => ?_⟩
        subst hr
        have b2 := (below_b (M.shortPlain e4 q).2 4).trans p2'
        rw [cur_eta b2]
        refine ⟨below_ok p1 4, fun r hr => ?_⟩
        subst hr
        have b3 := (below_b (M.spec_l01Below (M.shortPlain e4 q).2 4).2 4).trans b2
        rw [cur_eta b3]
        refine ⟨below_ok (below_ok p1 4) 4, fun r hr => ⟨by simp; omega, ?_⟩⟩
        subst hr
        rw [up64 (n := 4) hk (by omega)]
        exact hnx
      · have hr : r = M.once e4 3 := hr
        subst hr
        unfold M.shortPlain at hJ
        refine bcase_mk (fun t => ?_) fun t => ?_
        · rw [if_pos t] at hJ
          rw [cur_eta ((once_b e4 3).trans b1)]
          exact ⟨once_ok c1 3, fun r hr => by subst hr; exact ⟨by simp; omega, hJ⟩⟩
        · rw [if_neg (by rw [t]; simp)] at hJ
          exact hJ
    · have g : ¬ (k : Int) < 1 + (M.spec_l01Below e 4).1 := by simpa using g
      rw [f3, show 4 - k = (4 - (k + 1)) + 1 by omega, M.shortN, if_neg g]
  · obtain ⟨f1, f2, fl, f3⟩ := hF
    have f3 := f3 (Nat.le_refl _)
    dsimp only
    rw [cur_eta f2]
    refine ⟨f1, fun r hr => ?_⟩
    subst hr
    have h4 := below_in (itS 4 c0 p0).2 (n := 4) (by omega)
    have b1 : (M.spec_l01Below (itS 4 c0 p0).2 4).2.b = c.b := (below_b _ 4).trans f2
    rw [w64 (x := 1 + (M.spec_l01Below (itS 4 c0 p0).2 4).1) (by omega) (by omega), cur_eta b1]
    refine bcase_f (by simp; omega) ?_
    rw [f3]; rfl
theorem wp.spec_DrawShort.math (b : List Int) (h : M.spec_DrawShort_pre b) : wp.spec_DrawShort b (fun r => r = M.spec_DrawShort b) := by
  have hn := new_ok h
  refine ⟨h, fun r hr => ?_⟩
  have e : (⟨b, r.i, r.h⟩ : D.Cur) = M.spec_l01New b := by subst hr; rfl
  rw [e]
  refine ⟨hn, fun r2 hr2 => ?_⟩
  subst hr2; rfl
theorem wp.laws_FnPredicates.math (b : List Int) (h : M.laws_FnPredicates_pre b) : wp.laws_FnPredicates b (fun r => r = M.laws_FnPredicates b) := by
  intro r0 _
  refine bcase_mk (fun _ => rfl) fun _ => ⟨h, fun r1 g1 => ⟨h, fun r2 g2 => ?_⟩⟩
  subst g1
  subst g2
  have hpl : (M.spec_DrawPlaces b).length = 12 := places_len 12 _
  have hw := place_in h (k := 0) (n := 3) (by omega) (by omega) (by omega)
  obtain ⟨hL, hl⟩ := short_draw (new_ok h)
  have hL : Line 0 (M.spec_DrawShort b) := hL
  have hl : (M.spec_DrawShort b).length ≤ 15 := hl
  generalize Int.tmod (rd (M.spec_DrawPlaces b) 0) 3 = w at *
  generalize M.spec_DrawShort b = p at *
  obtain ⟨q, m, hS, hP⟩ := pred_line hL (by omega)
  obtain ⟨f1, f2, f3, f4, f5, f6⟩ := hS.facts
  obtain ⟨fs, ft⟩ := hS.flow (by omega)
  have hsm : M.PSmall p := by unfold M.PSmall; omega
  have hlp : M.Long p := by unfold M.Long; omega
  have hlq : M.Long q := by unfold M.Long; omega
  obtain ⟨S, S', k1, k2, k3, k4, k5, k6⟩ := sel_splits hS (by omega) (w := w) (by omega)
  refine ⟨hsm, fun r hr => ?_⟩
  have hr : r = (q, (m : Int)) := hr.trans hP
  subst hr
  refine ⟨hlq, fun a ha => bcase_t (ha.trans ft.quiet) (bcase_t (by rw [f1]; simp) (bcase_t ?_ ⟨⟨by omega, by omega⟩, ⟨hlp, hlq⟩, fun d hd => bcase_t ?_ ⟨⟨by omega, by omega⟩, hsm, fun v hv => bcase_t ?_ ⟨hlq, fun x hx => ⟨hlp, fun y hy => ?_⟩⟩⟩⟩))⟩
  · rw [Int.tdiv_eq_ediv_of_nonneg (by omega), w64 (by omega) (by omega), decide_eq_true_eq]
    show (m : Int) ≤ _
    omega
  · have : d = 0 := hd.trans (sel_regs hS (by omega) (by omega))
    rw [this]; rfl
  · have hv : v = IntKind.wrap .i64 ((S : Int) - (S' : Int)) := by
      rw [hv]
      show M.savedSplits p w = _
      unfold M.savedSplits
      rw [hP, k3, k4, k5, k6]; rfl
    rw [hv, w64 (by omega) (by omega), decide_eq_true_eq]; omega
  · have hx : x = ((zeros q : Nat) : Int) := hx
    have hy : y = ((zeros p : Nat) : Int) := hy
    have hz : zeros p ≤ p.length := List.countP_le_length
    show (x == IntKind.wrap .i64 (y - (m : Int))) = true
    rw [hx, hy, w64 (by omega) (by omega), beq_iff_eq]
    omega
end Go.V
