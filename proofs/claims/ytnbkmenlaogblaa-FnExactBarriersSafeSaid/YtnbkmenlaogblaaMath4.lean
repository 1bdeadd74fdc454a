import Derived.Test.YtnbkmenlaogblaaMath3
import Derived.Test.YtnbkmenlaogblaaWp4
set_option linter.unusedVariables false
set_option linter.unusedSimpArgs false
namespace Go.V
theorem bcq {b x z : Bool} : bcase b (x = z) (false = z) ↔ (b && x) = z := by cases b <;> simp [bcase]
theorem bcn {b x z : Bool} : bcase (!b) (false = z) (x = z) ↔ (b && x) = z := by cases b <;> simp [bcase]
theorem wp.laws_szInsS.math (a : List D.Ins) (x : Int) (h : M.laws_szInsS_pre a x) : wp.laws_szInsS a x (fun r => r = M.laws_szInsS a x) := by
  unfold wp.laws_szInsS M.laws_szInsS
  obtain ⟨h1, h2, h3⟩ := h
  unfold M.Long at h3
  rw [w64 (by omega) (by omega)]
  refine bcase_mk (fun e => ?_) fun e => ?_
  · rw [if_pos (by simpa using e)]
  · rw [if_neg (by simpa using e)]
theorem wp.laws_toIns.math (a : D.Ins) : wp.laws_toIns a (fun r => r = M.laws_toIns a) := rfl
theorem wp.laws_toInsS.math (a : List D.Ins) (h : M.laws_toInsS_pre a) : wp.laws_toInsS a (fun r => r = M.laws_toInsS a) := by
  unfold wp.laws_toInsS
  unfold M.laws_toInsS_pre at h
  refine ⟨by omega, ?_⟩
  refine loop_n a.length (fun k => ((k : Int), cp id a k, ())) (fun _ => True) (by simp [cp_zero]) trivial (fun k hk hF next hn => ?_) fun hF next => ?_
  · refine bcase_t (by simp; omega) ⟨by omega, fun r hr => ⟨⟨by omega, by simp only [cp_len id a (Nat.le_of_lt hk)]; omega⟩, ?_⟩⟩
    rw [rd_nat hk] at hr
    subst hr
    rw [up64 hk (by omega)]
    have := cp_set id a hk
    simp only [id] at this
    simp only [Int.toNat_natCast]
    rw [show (⟨(M.laws_toIns a[k]).Op, (M.laws_toIns a[k]).A, (M.laws_toIns a[k]).B, (M.laws_toIns a[k]).C⟩ : D.Ins) = a[k] from rfl, this]
    exact hn trivial
  · exact bcase_f (by simp) (by rw [cp_all]; simp [M.laws_toInsS])
theorem wp.laws_eqIns.math (a b : D.Ins) : wp.laws_eqIns a b (fun r => r = M.laws_eqIns a b) := by
  obtain ⟨a1, a2, a3, a4⟩ := a
  obtain ⟨b1, b2, b3, b4⟩ := b
  simp only [wp.laws_eqIns, M.laws_eqIns]
  refine bcase_mk (fun e => ?_) fun e1 => bcase_mk (fun e => ?_) fun e2 => bcase_mk (fun e => ?_) fun e3 => bcase_mk (fun e => ?_) fun e4 => ?_ <;> simp_all
theorem wp.laws_eqInsS.math (a b : List D.Ins) (h : M.laws_eqInsS_pre a b) : wp.laws_eqInsS a b (fun r => r = M.laws_eqInsS a b) := by
  unfold wp.laws_eqInsS
  have hb : a.length ≤ 9223372036854775807 := h
  refine bcase_mk (fun e => ?_) fun e => ?_
  · simp [M.laws_eqInsS]; rintro rfl; simp at e
  have hl : a.length = b.length := by simp at e; omega
  refine loop_n a.length (fun k => ((k : Int), ())) (fun k => ∀ j : Nat, j < k → rd a j = rd b j) rfl (by simp) (fun k hk hF next hn => ?_) fun hF next => ?_
  · refine bcase_t (by simp; omega) ⟨by omega, by omega, fun r hr => bcase_mk (fun e => ?_) fun e => ?_⟩
    · subst hr; simp [M.laws_eqInsS]; rintro rfl; simp [M.laws_eqIns] at e
    · subst hr
      rw [up64 hk hb]
      refine hn fun j hj => ?_
      by_cases hjk : j = k
      · subst hjk; simpa [M.laws_eqIns] using e
      · exact hF j (by omega)
  · refine bcase_f (by simp) ?_
    have := eq_of_takes hl hF
    simp [M.laws_eqInsS, this]
theorem wp.spec_LaneNew.math (t : Int) : wp.spec_LaneNew t (fun r => r = M.spec_LaneNew t) := by
  intro r hr
  refine bcase_mk (fun e => ?_) fun e => ⟨by omega, ?_⟩
  · have : M.isIn t 0 23 = false := nt e hr
    simp [M.spec_LaneNew, M.laneNew, this]
  · have : M.isIn t 0 23 = true := nf e hr
    simp only [M.spec_LaneNew, M.laneNew, this, if_true]; rfl
theorem wp.impl_isThread.math (t : Int) : wp.impl_isThread t (fun r => r = M.impl_isThread t) := fun r hr => hr
theorem wp.impl_LaneNew.math (t : Int) : wp.impl_LaneNew t (fun r => r = M.impl_LaneNew t) := by
  intro r hr
  refine bcase_mk (fun e => ?_) fun e => ⟨by omega, ?_⟩
  · have : M.isIn t 0 23 = false := nt e hr
    simp [M.impl_LaneNew, M.laneNew, this]
  · have : M.isIn t 0 23 = true := nf e hr
    simp only [M.impl_LaneNew, M.laneNew, this, if_true]; rfl
theorem wp.spec_l10Copy.math (l : D.Lane) (h : M.spec_l10Copy_pre l) : wp.spec_l10Copy l (fun r => r = M.spec_l10Copy l) := ⟨by simpa [M.spec_l10Copy_pre] using h, rfl⟩
theorem wp.slices_Clone_int_int.math (l : List Int) (h : M.slices_Clone_int_int_pre l) : wp.slices_Clone_int_int l (fun r => r = M.slices_Clone_int_int l) := by
  intro b hb
  refine bcase_mk (fun e => ?_) fun e => ⟨by simpa [M.slices_Clone_int_int_pre] using h, rfl⟩
  rw [hb e]; rfl
theorem wp.impl_copyLane.math (l : D.Lane) (h : M.impl_copyLane_pre l) : wp.impl_copyLane l (fun r => r = M.impl_copyLane l) := ⟨h, fun r hr => by subst hr; rfl⟩
theorem wp.spec_IsLocal.math (i : D.Ins) : wp.spec_IsLocal i (fun r => r = M.spec_IsLocal i) := fun r hr => hr
theorem wp.impl_IsLocal.math (i : D.Ins) : wp.impl_IsLocal i (fun r => r = M.impl_IsLocal i) := fun r hr => hr
theorem wp.spec_l04Reg.math (x : Int) : wp.spec_l04Reg x (fun r => r = M.spec_l04Reg x) := fun r hr => hr
theorem wp.impl_isReg.math (x : Int) : wp.impl_isReg x (fun r => r = M.impl_isReg x) := fun r hr => hr
theorem wp.spec_InsOk.math (i : D.Ins) (n : Int) : wp.spec_InsOk i n (fun r => r = M.spec_InsOk i n) := by
  simp only [wp.spec_InsOk, JoinP, forall_eq, M.spec_l01In, M.spec_l04Reg, M.spec_IsWord, bcq, M.spec_InsOk, M.insOk]
  refine bcase_mk (fun e => ?_) fun e => ?_
  · have hn : M.isIn n 0 32 = false := by simpa using e
    simp [hn]
  have hn : M.isIn n 0 32 = true := by simpa using e
  rw [hn, Bool.true_and]
  by_cases h0 : i.Op = 0
  · simp [h0, bcase, Bool.and_assoc]
  by_cases h12 : i.Op = 12
  · simp [h12, bcase, Bool.and_assoc]
  by_cases h16 : i.Op = 16
  · simp [h16, bcase, Bool.and_assoc]
  by_cases h1 : i.Op = 1
  · simp [h1, bcase, Bool.and_assoc]
  by_cases h2 : i.Op = 2
  · simp [h2, bcase, Bool.and_assoc]
  by_cases h13 : i.Op = 13
  · simp [h13, bcase, Bool.and_assoc]
  by_cases h14 : i.Op = 14
  · simp [h14, bcase, Bool.and_assoc]
  by_cases h15 : i.Op = 15
  · simp [h15, bcase, Bool.and_assoc]
  by_cases h8 : i.Op = 8
  · simp [h8, bcase, Bool.and_assoc]
  by_cases h10 : i.Op = 10
  · simp [h10, bcase, Bool.and_assoc]
  by_cases h11 : i.Op = 11
  · simp [h11, bcase, Bool.and_assoc]
  have b0 : (i.Op == 0) = false := by simp [h0]
  have b12 : (i.Op == 12) = false := by simp [h12]
  have b16 : (i.Op == 16) = false := by simp [h16]
  have b1 : (i.Op == 1) = false := by simp [h1]
  have b2 : (i.Op == 2) = false := by simp [h2]
  have b13 : (i.Op == 13) = false := by simp [h13]
  have b14 : (i.Op == 14) = false := by simp [h14]
  have b15 : (i.Op == 15) = false := by simp [h15]
  have b8 : (i.Op == 8) = false := by simp [h8]
  have b10 : (i.Op == 10) = false := by simp [h10]
  have b11 : (i.Op == 11) = false := by simp [h11]
  simp only [b0, b12, b16, b1, b2, b13, b14, b15, b8, b10, b11, bcase, h0, h12, h16, h1, h2, h13, h14, h15, h8, h10, h11, or_self, if_false]
theorem all_loop {α : Type} [Inhabited α] {l : List α} {g : α → Bool} (hl : M.Long l) {B : (Int × Unit) → ((Int × Unit) → Prop) → Prop} {Q : Bool → Prop}
    (hb : ∀ (k : Nat) (next : (Int × Unit) → Prop), k < l.length → (g (rd l (k : Int)) = false → l.all g = false → Q false) → (g (rd l (k : Int)) = true → next (((k + 1 : Nat) : Int), ())) → B ((k : Int), ()) next)
    (he : ∀ (next : (Int × Unit) → Prop), l.all g = true → B ((l.length : Int), ()) next) (hQ : l.all g = false → Q false) : LoopP B (0, ()) := by
  refine loop_n l.length (fun k => ((k : Int), ())) (fun k => (l.take k).all g = true) rfl (by simp) (fun k hk hF next hn => ?_) fun hF next => ?_
  · refine hb k next hk (fun e h => hQ h) fun e => ?_
    rw [rd_nat hk] at e
    exact hn (take_all_succ hk hF e)
  · rw [List.take_length] at hF
    exact he next hF
theorem all_false {α : Type} [Inhabited α] {l : List α} {g : α → Bool} {k : Nat} (hk : k < l.length) (e : g (rd l (k : Int)) = false) : l.all g = false := by
  rw [rd_nat hk] at e; exact all_at hk e
theorem wp.spec_ProgramOk.math (p : List D.Ins) (h : M.spec_ProgramOk_pre p) : wp.spec_ProgramOk p (fun r => r = M.spec_ProgramOk p) := by
  unfold wp.spec_ProgramOk
  refine all_loop (g := fun i => M.insOk i p.length) (Q := fun r => r = M.programOk p) h (fun k next hk h1 h2 => ?_) (fun next ha => ?_) fun ha => by simp only [M.programOk, ha, Bool.and_false]
  · refine bcase_t (by simp; omega) ⟨by omega, fun r hr => bcase_mk (fun e => ?_) fun e => ?_⟩
    · have := nt e hr
      exact h1 this (all_false (g := fun i => M.insOk i p.length) hk this)
    · rw [up64 hk h]; exact h2 (nf e hr)
  · refine bcase_f (by simp) ?_
    simp only [M.spec_ProgramOk, M.programOk, ha, Bool.and_true]
    by_cases h32 : p.length ≤ 32
    · simp [h32]; omega
    · simp [h32]; omega
theorem wp.spec_IsQuiet.math (p : List D.Ins) (h : M.spec_IsQuiet_pre p) : wp.spec_IsQuiet p (fun r => r = M.spec_IsQuiet p) := by
  unfold wp.spec_IsQuiet
  refine all_loop (g := M.isLocal) (Q := fun r => r = M.isQuiet p) h (fun k next hk h1 h2 => ?_) (fun next ha => ?_) fun ha => by simp only [M.isQuiet, ha, Bool.and_false]
  · refine bcase_t (by simp; omega) ⟨by omega, fun r hr => bcase_mk (fun e => ?_) fun e => ?_⟩
    · have := nt e hr
      exact h1 this (all_false (g := M.isLocal) hk this)
    · rw [up64 hk h]; exact h2 (nf e hr)
  · refine bcase_f (by simp) ⟨h, fun r hr => ?_⟩
    simp only [hr, M.spec_IsQuiet, M.isQuiet, ha, Bool.and_true, M.spec_ProgramOk]
theorem wp.spec_LaneOk.math (p : List D.Ins) (l : D.Lane) (h : M.spec_LaneOk_pre p l) : wp.spec_LaneOk p l (fun r => r = M.spec_LaneOk p l) := by
  refine ⟨h, fun r1 h1 => bcase_mk (fun e1 r2 h2 => bcase_mk (fun e2 r3 h3 => bcase_mk (fun e3 => bcase_mk (fun e4 => ?_) fun e4 => ?_) fun e3 => ?_) fun e2 => ?_) fun e1 => ?_⟩
  · have hl : l.Regs.length = 4 := by simp at e4; omega
    refine ⟨by unfold M.spec_AreWords_pre; omega, fun r4 h4 => ?_⟩
    have h1' : M.programOk p = true := h1.symm.trans e1
    have h2' : M.isIn l.Thread 0 23 = true := h2.symm.trans e2
    have h3' : M.isIn l.Pc 0 p.length = true := h3.symm.trans e3
    simp [M.spec_LaneOk, M.laneOk, M.laneOf, M.areRegs, h1', h2', h3', hl, h4, M.spec_AreWords]
  · have hl : ¬ l.Regs.length = 4 := by simp at e4; omega
    simp [M.spec_LaneOk, M.laneOk, M.laneOf, M.areRegs, hl]
  · have h3' : M.isIn l.Pc 0 p.length = false := h3.symm.trans e3
    simp [M.spec_LaneOk, M.laneOk, M.laneOf, h3']
  · have h2' : M.isIn l.Thread 0 23 = false := h2.symm.trans e2
    simp [M.spec_LaneOk, M.laneOk, M.laneOf, h2']
  · have h1' : M.programOk p = false := h1.symm.trans e1
    simp [M.spec_LaneOk, M.laneOk, h1']
theorem wp.impl_formOf.math (op : Int) : wp.impl_formOf op (fun r => r = M.impl_formOf op) := by
  intro r hr
  refine bcase_mk (fun e => ?_) fun e => ?_
  · have : M.isIn op 0 16 = false := nt e hr
    have h' : ¬ (0 ≤ op ∧ op ≤ 16) := by simpa [M.isIn] using this
    have h2 : M.isIn op 3 9 = false := by simp [M.isIn]; omega
    simp only [M.impl_formOf, M.formOf, h2]
    rw [if_neg (by omega), if_neg (by omega), if_neg (by omega), if_neg (by omega), if_neg (by omega), if_neg (by omega)]
    rfl
  · have : M.isIn op 0 16 = true := nf e hr
    have h' : 0 ≤ op ∧ op ≤ 16 := by simpa [M.isIn] using this
    refine ⟨by simp; omega, ?_⟩
    have : op = 0 ∨ op = 1 ∨ op = 2 ∨ op = 3 ∨ op = 4 ∨ op = 5 ∨ op = 6 ∨ op = 7 ∨ op = 8 ∨ op = 9 ∨ op = 10 ∨ op = 11 ∨ op = 12 ∨ op = 13 ∨ op = 14 ∨ op = 15 ∨ op = 16 := by omega
    rcases this with rfl | rfl | rfl | rfl | rfl | rfl | rfl | rfl | rfl | rfl | rfl | rfl | rfl | rfl | rfl | rfl | rfl <;> rfl
theorem wp.impl_isField.math (f x n : Int) (h : M.impl_isField_pre f x n) : wp.impl_isField f x n (fun r => r = M.impl_isField f x n) := by
  refine bcase_mk (fun e r hr => ?_) fun e1 => bcase_mk (fun e r hr => ?_) fun e2 => bcase_mk (fun e r hr => ?_) fun e3 => ?_
  · simp at e; simp [M.impl_isField, e, hr, M.impl_isReg]
  · simp at e; simp [M.impl_isField, e, hr, M.impl_IsWord]
  · simp at e; simp [M.impl_isField, e, hr, M.impl_within]
  · simp at e1 e2 e3; simp [M.impl_isField, e1, e2, e3]
theorem nt2 {b : Bool} (h : (!b) = true) : b = false := by simpa using h
theorem str_ne {a b : ByteArray} (h : ByteArray.toList a ≠ ByteArray.toList b) : (!(ByteArray.toList a == ByteArray.toList b)) = true := by simp [h]
theorem formOf_cases (op : Int) : (M.formOf op = ⟨#[45, 45, 45]⟩ ∧ (op = 0 ∨ op = 12 ∨ op = 16)) ∨ (M.formOf op = ⟨#[82, 87, 45]⟩ ∧ op = 1) ∨ (M.formOf op = ⟨#[82, 82, 45]⟩ ∧ (op = 2 ∨ op = 13 ∨ op = 14 ∨ op = 15)) ∨
    (M.formOf op = ⟨#[82, 45, 45]⟩ ∧ op = 8) ∨ (M.formOf op = ⟨#[82, 84, 45]⟩ ∧ op = 10) ∨ (M.formOf op = ⟨#[45, 84, 45]⟩ ∧ op = 11) ∨ (M.formOf op = ⟨#[82, 82, 82]⟩ ∧ (3 ≤ op ∧ op ≤ 7 ∨ op = 9)) ∨
    (M.formOf op = ⟨#[]⟩ ∧ (op < 0 ∨ op > 16)) := by
  unfold M.formOf
  by_cases a1 : op = 0 ∨ op = 12 ∨ op = 16
  · rw [if_pos a1]; exact .inl ⟨rfl, a1⟩
  rw [if_neg a1]
  by_cases a2 : op = 1
  · rw [if_pos a2]; exact .inr (.inl ⟨rfl, a2⟩)
  rw [if_neg a2]
  by_cases a3 : op = 2 ∨ op = 13 ∨ op = 14 ∨ op = 15
  · rw [if_pos a3]; exact .inr (.inr (.inl ⟨rfl, a3⟩))
  rw [if_neg a3]
  by_cases a4 : op = 8
  · rw [if_pos a4]; exact .inr (.inr (.inr (.inl ⟨rfl, a4⟩)))
  rw [if_neg a4]
  by_cases a5 : op = 10
  · rw [if_pos a5]; exact .inr (.inr (.inr (.inr (.inl ⟨rfl, a5⟩))))
  rw [if_neg a5]
  by_cases a6 : op = 11
  · rw [if_pos a6]; exact .inr (.inr (.inr (.inr (.inr (.inl ⟨rfl, a6⟩)))))
  rw [if_neg a6]
  by_cases a7 : 3 ≤ op ∧ op ≤ 9
  · rw [if_pos (by simp [M.isIn]; omega)]; exact .inr (.inr (.inr (.inr (.inr (.inr (.inl ⟨rfl, by omega⟩))))))
  rw [if_neg (by simp [M.isIn]; omega)]; exact .inr (.inr (.inr (.inr (.inr (.inr (.inr ⟨rfl, by omega⟩))))))
theorem ins_core {i : D.Ins} {n : Int} {f : ByteArray} {x y z : Int} (hx : bt f 0 = x) (hy : bt f 1 = y) (hz : bt f 2 = z) (hs : f.size = 3) (hf : ByteArray.toList f ≠ ByteArray.toList (⟨#[]⟩)) {P : Bool → Prop} (hin : M.isIn n 0 32 = false → P false)
    (h : M.isIn n 0 32 = true → P (M.impl_isField x i.A n && (M.impl_isField y i.B n && M.impl_isField z i.C n))) :
    bcase (!(ByteArray.toList f == ByteArray.toList (⟨#[]⟩))) ((∀ r28, r28 = M.impl_within n 0 32 → bcase r28 (((0 ≤ (0 : Int) ∧ (0 : Int) < ((ByteArray.size f : Nat) : Int)) ∧ (M.impl_isField_pre (bt f 0) i.A n ∧ ∀ r38, r38 = M.impl_isField (bt f 0) i.A n → bcase r38 (((0 ≤ (1 : Int) ∧ (1 : Int) < ((ByteArray.size f : Nat) : Int)) ∧ (M.impl_isField_pre (bt f 1) i.B n ∧ ∀ r48, r48 = M.impl_isField (bt f 1) i.B n → bcase r48 (((0 ≤ (2 : Int) ∧ (2 : Int) < ((ByteArray.size f : Nat) : Int)) ∧ (M.impl_isField_pre (bt f 2) i.C n ∧ ∀ r58, r58 = M.impl_isField (bt f 2) i.C n → P r58))) (P false)))) (P false)))) (P false))) (P false) := by
  refine bcase_t (str_ne hf) fun r1 h1 => bcase_mk (fun e1 => ⟨by omega, trivial, fun r2 h2 => bcase_mk (fun e2 => ⟨by omega, trivial, fun r3 h3 => bcase_mk (fun e3 => ⟨by omega, trivial, fun r4 h4 => ?_⟩) fun e3 => ?_⟩) fun e2 => ?_⟩) fun e1 => hin (h1.symm.trans e1)
  all_goals have hh := h (h1.symm.trans e1)
  · rw [hx] at h2; rw [hy] at h3; rw [hz] at h4
    rw [← h2, ← h3, ← h4, e2, e3] at hh; exact hh
  · rw [hx] at h2; rw [hy] at h3
    rw [← h2, ← h3, e2, e3] at hh; exact hh
  · rw [hx] at h2
    rw [← h2, e2] at hh; exact hh
theorem wp.impl_InsOk.math (i : D.Ins) (n : Int) : wp.impl_InsOk i n (fun r => r = M.impl_InsOk i n) := by
  intro r hr
  have hr' : r = M.formOf i.Op := hr
  rcases formOf_cases i.Op with ⟨e, h⟩ | ⟨e, h⟩ | ⟨e, h⟩ | ⟨e, h⟩ | ⟨e, h⟩ | ⟨e, h⟩ | ⟨e, h⟩ | ⟨e, h⟩
  case inr.inr.inr.inr.inr.inr.inr =>
    rw [hr', e]
    refine bcase_f (by simp) ?_
    simp only [M.impl_InsOk, M.insOk]
    rw [if_neg (by omega), if_neg (by omega), if_neg (by omega), if_neg (by omega), if_neg (by omega), if_neg (by omega)]
    have : M.isIn i.Op 3 9 = false := by simp [M.isIn]; omega
    simp [this]
  · rw [hr', e]
    refine ins_core (x := 45) (y := 45) (z := 45) (P := fun r => r = M.impl_InsOk i n) (by decide +kernel) (by decide +kernel) (by decide +kernel) rfl (by decide +kernel) (fun hn => by simp [M.impl_InsOk, M.insOk, hn]) fun hn => ?_
    simp only [M.impl_InsOk, M.insOk, hn, Bool.true_and]
    rw [if_pos h]
    simp [M.impl_isField]
  · rw [hr', e]
    refine ins_core (x := 82) (y := 87) (z := 45) (P := fun r => r = M.impl_InsOk i n) (by decide +kernel) (by decide +kernel) (by decide +kernel) rfl (by decide +kernel) (fun hn => by simp [M.impl_InsOk, M.insOk, hn]) fun hn => ?_
    simp only [M.impl_InsOk, M.insOk, hn, Bool.true_and]
    rw [if_neg (by omega), if_pos h]
    simp [M.impl_isField]
  · rw [hr', e]
    refine ins_core (x := 82) (y := 82) (z := 45) (P := fun r => r = M.impl_InsOk i n) (by decide +kernel) (by decide +kernel) (by decide +kernel) rfl (by decide +kernel) (fun hn => by simp [M.impl_InsOk, M.insOk, hn]) fun hn => ?_
    simp only [M.impl_InsOk, M.insOk, hn, Bool.true_and]
    rw [if_neg (by omega), if_neg (by omega), if_pos h]
    simp [M.impl_isField]
  · rw [hr', e]
    refine ins_core (x := 82) (y := 45) (z := 45) (P := fun r => r = M.impl_InsOk i n) (by decide +kernel) (by decide +kernel) (by decide +kernel) rfl (by decide +kernel) (fun hn => by simp [M.impl_InsOk, M.insOk, hn]) fun hn => ?_
    simp only [M.impl_InsOk, M.insOk, hn, Bool.true_and]
    rw [if_neg (by omega), if_neg (by omega), if_neg (by omega), if_pos h]
    simp [M.impl_isField]
  · rw [hr', e]
    refine ins_core (x := 82) (y := 84) (z := 45) (P := fun r => r = M.impl_InsOk i n) (by decide +kernel) (by decide +kernel) (by decide +kernel) rfl (by decide +kernel) (fun hn => by simp [M.impl_InsOk, M.insOk, hn]) fun hn => ?_
    simp only [M.impl_InsOk, M.insOk, hn, Bool.true_and]
    rw [if_neg (by omega), if_neg (by omega), if_neg (by omega), if_neg (by omega), if_pos h]
    simp [M.impl_isField]
  · rw [hr', e]
    refine ins_core (x := 45) (y := 84) (z := 45) (P := fun r => r = M.impl_InsOk i n) (by decide +kernel) (by decide +kernel) (by decide +kernel) rfl (by decide +kernel) (fun hn => by simp [M.impl_InsOk, M.insOk, hn]) fun hn => ?_
    simp only [M.impl_InsOk, M.insOk, hn, Bool.true_and]
    rw [if_neg (by omega), if_neg (by omega), if_neg (by omega), if_neg (by omega), if_neg (by omega), if_pos h]
    simp [M.impl_isField]
  · rw [hr', e]
    refine ins_core (x := 82) (y := 82) (z := 82) (P := fun r => r = M.impl_InsOk i n) (by decide +kernel) (by decide +kernel) (by decide +kernel) rfl (by decide +kernel) (fun hn => by simp [M.impl_InsOk, M.insOk, hn]) fun hn => ?_
    simp only [M.impl_InsOk, M.insOk, hn, Bool.true_and]
    rw [if_neg (by omega), if_neg (by omega), if_neg (by omega), if_neg (by omega), if_neg (by omega), if_neg (by omega)]
    have : M.isIn i.Op 3 9 = true := by simp [M.isIn]; omega
    simp [M.impl_isField, this]
theorem wp.impl_ProgramOk_1.math (i : D.Ins) (p : List D.Ins) : wp.impl_ProgramOk_1 i p (fun r => r = M.impl_ProgramOk_1 i p) := fun r hr => by rw [hr]; rfl
theorem wp.slices_IndexFunc_impl_Ins_impl_Ins.math (l : List D.Ins) (g : D.Ins → Bool) (D : D.Ins → Prop) (h : M.slices_IndexFunc_impl_Ins_impl_Ins_pre l g D) : wp.slices_IndexFunc_impl_Ins_impl_Ins l g D (fun r => r = M.slices_IndexFunc_impl_Ins_impl_Ins l g) := by
  unfold wp.slices_IndexFunc_impl_Ins_impl_Ins
  obtain ⟨h1, h2⟩ := h
  refine loop_n l.length (fun k => ((k : Int), ())) (fun k => M.slices_IndexFunc_impl_Ins_impl_Ins l g = M.firstIx g (l.drop k) k) rfl (by simp [M.slices_IndexFunc_impl_Ins_impl_Ins]) (fun k hk hF next hn => ?_) fun hF next => ?_
  · rw [firstIx_from g l k hk] at hF
    refine bcase_t (by simp; omega) ⟨by omega, h2 _ (rd_mem hk), fun r hr => bcase_mk (fun e => ?_) fun e => ?_⟩
    · rw [hF, if_pos (by rw [← hr]; exact e)]
    · rw [up64 hk h1]
      exact hn (by rw [hF, if_neg (by rw [← hr, e]; simp)])
  · refine bcase_f (by simp) ?_
    rw [hF]; simp [M.firstIx]
theorem wp.slices_ContainsFunc_impl_Ins_impl_Ins.math (l : List D.Ins) (g : D.Ins → Bool) (D : D.Ins → Prop) (h : M.slices_ContainsFunc_impl_Ins_impl_Ins_pre l g D) : wp.slices_ContainsFunc_impl_Ins_impl_Ins l g D (fun r => r = M.slices_ContainsFunc_impl_Ins_impl_Ins l g) :=
  ⟨h, fun r hr => by rw [hr]; exact firstIx_nonneg g l 0⟩
theorem wp.impl_ProgramOk.math (p : List D.Ins) (h : M.impl_ProgramOk_pre p) : wp.impl_ProgramOk p (fun r => r = M.impl_ProgramOk p) := by
  refine bcase_mk (fun e => ⟨⟨h, fun _ _ => trivial⟩, fun r hr => ?_⟩) fun e => ?_
  · have h32 : p.length ≤ 32 := by simp at e; omega
    rw [hr]
    simp only [M.slices_ContainsFunc_impl_Ins_impl_Ins, M.impl_ProgramOk, M.programOk, M.impl_ProgramOk_1, ← List.all_eq_not_any_not, h32, decide_true, Bool.true_and]
  · have h32 : ¬ p.length ≤ 32 := by simp at e; omega
    simp [M.impl_ProgramOk, M.programOk, h32]
theorem wp.impl_IsQuiet_1.math (i : D.Ins) : wp.impl_IsQuiet_1 i (fun r => r = M.impl_IsQuiet_1 i) := fun r hr => by rw [hr]; rfl
theorem wp.impl_IsQuiet.math (p : List D.Ins) (h : M.impl_IsQuiet_pre p) : wp.impl_IsQuiet p (fun r => r = M.impl_IsQuiet p) := by
  refine ⟨h, fun r hr => bcase_mk (fun e => ⟨⟨h, fun _ _ => trivial⟩, fun r2 hr2 => ?_⟩) fun e => ?_⟩
  · have h1 : M.programOk p = true := hr.symm.trans e
    rw [hr2]
    simp only [M.slices_ContainsFunc_impl_Ins_impl_Ins, M.impl_IsQuiet, M.isQuiet, M.impl_IsQuiet_1, ← List.all_eq_not_any_not, h1, Bool.true_and]
  · have h1 : M.programOk p = false := hr.symm.trans e
    simp [M.impl_IsQuiet, M.isQuiet, h1]
theorem wp.impl_areRegs.math (l : List Int) : wp.impl_areRegs l (fun r => r = M.impl_areRegs l) := by
  refine bcase_mk (fun e => ?_) fun e => ?_
  · have hl : l.length = 4 := by simp at e; omega
    refine ⟨by show l.length ≤ 9223372036854775807; omega, fun r hr => ?_⟩
    rw [hr]; simp [M.impl_areRegs, M.areRegs, M.impl_AreWords, hl]
  · have hl : ¬ l.length = 4 := by simp at e; omega
    simp [M.impl_areRegs, M.areRegs, hl]
theorem wp.impl_isLaneOf.math (p : List D.Ins) (l : D.Lane) (h : M.impl_isLaneOf_pre p l) : wp.impl_isLaneOf p l (fun r => r = M.impl_isLaneOf p l) := by
  refine fun r1 h1 => bcase_mk (fun e1 r2 h2 => bcase_mk (fun e2 r3 h3 => ?_) fun e2 => ?_) fun e1 => ?_
  · have h1' : M.isIn l.Thread 0 23 = true := h1.symm.trans e1
    have h2' : M.isIn l.Pc 0 p.length = true := h2.symm.trans e2
    simp [M.impl_isLaneOf, M.laneOf, h1', h2', h3, M.impl_areRegs]
  · have h2' : M.isIn l.Pc 0 p.length = false := h2.symm.trans e2
    simp [M.impl_isLaneOf, M.laneOf, h2']
  · have h1' : M.isIn l.Thread 0 23 = false := h1.symm.trans e1
    simp [M.impl_isLaneOf, M.laneOf, h1']
theorem wp.impl_LaneOk.math (p : List D.Ins) (l : D.Lane) (h : M.impl_LaneOk_pre p l) : wp.impl_LaneOk p l (fun r => r = M.impl_LaneOk p l) := by
  refine ⟨h, fun r1 h1 => bcase_mk (fun e1 => ⟨trivial, fun r2 h2 => ?_⟩) fun e1 => ?_⟩
  · have h1' : M.programOk p = true := h1.symm.trans e1
    simp [M.impl_LaneOk, M.laneOk, h1', h2, M.impl_isLaneOf]
  · have h1' : M.programOk p = false := h1.symm.trans e1
    simp [M.impl_LaneOk, M.laneOk, h1']
theorem wp.spec_SubWords.math (a b : Int) : wp.spec_SubWords a b (fun r => r = M.spec_SubWords a b) := by
  intro r1 h1
  refine bcase_mk (fun e1 => ?_) fun e1 r2 h2 => bcase_mk (fun e2 => ?_) fun e2 r3 h3 => ?_
  · have : M.isWord a = false := nt e1 h1
    simp [M.spec_SubWords, M.subW, this]
  · have : M.isWord b = false := nt e2 h2
    simp [M.spec_SubWords, M.subW, this]
  · have ha : M.isWord a = true := nf e1 h1
    have hb : M.isWord b = true := nf e2 h2
    have := isWord_iff.1 ha
    have := isWord_iff.1 hb
    rw [h3, w64 (by omega) (by omega)]
    simp [M.spec_SubWords, M.subW, M.spec_WrapWord, ha, hb]
theorem mul_bound {a b : Int} (ha : 0 ≤ a ∧ a ≤ 65535) (hb : 0 ≤ b ∧ b ≤ 65535) : 0 ≤ a * b ∧ a * b ≤ 4294836225 :=
  ⟨Int.mul_nonneg ha.1 hb.1, by have := Int.mul_le_mul ha.2 hb.2 hb.1 (by omega : (0 : Int) ≤ 65535); omega⟩
theorem wp.spec_MulWords.math (a b : Int) : wp.spec_MulWords a b (fun r => r = M.spec_MulWords a b) := by
  intro r1 h1
  refine bcase_mk (fun e1 => ?_) fun e1 r2 h2 => bcase_mk (fun e2 => ?_) fun e2 r3 h3 => ?_
  · have : M.isWord a = false := nt e1 h1
    simp [M.spec_MulWords, M.mulW, this]
  · have : M.isWord b = false := nt e2 h2
    simp [M.spec_MulWords, M.mulW, this]
  · have ha : M.isWord a = true := nf e1 h1
    have hb : M.isWord b = true := nf e2 h2
    have := mul_bound (isWord_iff.1 ha) (isWord_iff.1 hb)
    rw [h3, w64 (by omega) (by omega)]
    simp [M.spec_MulWords, M.mulW, M.spec_WrapWord, ha, hb]
theorem wp.spec_LessWords.math (a b : Int) : wp.spec_LessWords a b (fun r => r = M.spec_LessWords a b) := by
  intro r1 h1
  refine bcase_mk (fun e1 r2 h2 => bcase_mk (fun e2 => bcase_mk (fun e3 => ?_) fun e3 => ?_) fun e2 => ?_) fun e1 => ?_
  · have ha : M.isWord a = true := h1.symm.trans e1
    have hb : M.isWord b = true := h2.symm.trans e2
    simp at e3; simp [M.spec_LessWords, M.lessW, ha, hb, e3]
  · simp at e3; simp [M.spec_LessWords, M.lessW]; omega
  · have hb : M.isWord b = false := h2.symm.trans e2
    simp [M.spec_LessWords, M.lessW, hb]
  · have ha : M.isWord a = false := h1.symm.trans e1
    simp [M.spec_LessWords, M.lessW, ha]
theorem wp.impl_LessWords.math (a b : Int) : wp.impl_LessWords a b (fun r => r = M.impl_LessWords a b) := wp.spec_LessWords.math a b
theorem wp.impl_SubWords.math (a b : Int) : wp.impl_SubWords a b (fun r => r = M.impl_SubWords a b) := by
  intro r hr
  rw [hr]
  simp only [M.impl_wrapped, M.impl_SubWords, M.subW]
  by_cases h : (M.isWord a && M.isWord b) = true
  · rw [if_pos h, if_pos h]
    simp only [Bool.and_eq_true, isWord_iff] at h
    rw [w64 (by omega) (by omega)]
  · rw [if_neg h, if_neg h]
theorem wp.impl_MulWords.math (a b : Int) : wp.impl_MulWords a b (fun r => r = M.impl_MulWords a b) := by
  intro r hr
  rw [hr]
  simp only [M.impl_wrapped, M.impl_MulWords, M.mulW]
  by_cases h : (M.isWord a && M.isWord b) = true
  · rw [if_pos h, if_pos h]
    simp only [Bool.and_eq_true, isWord_iff] at h
    have := mul_bound h.1 h.2
    rw [w64 (by omega) (by omega)]
  · rw [if_neg h, if_neg h]
theorem isReg_iff {x : Int} : M.isReg x = true ↔ 0 ≤ x ∧ x ≤ 3 := by simp [M.isReg, M.isIn]
theorem fits_regs {i : D.Ins} {r : List Int} (h : M.Fits i r) : r.length = 4 ∧ (1 ≤ i.Op ∧ i.Op ≤ 10 → 0 ≤ i.A ∧ i.A ≤ 3) ∧ (2 ≤ i.Op ∧ i.Op ≤ 7 ∨ i.Op = 9 → 0 ≤ i.B ∧ i.B ≤ 3) ∧ (3 ≤ i.Op ∧ i.Op ≤ 7 ∨ i.Op = 9 → 0 ≤ i.C ∧ i.C ≤ 3) := by
  obtain ⟨hl, n, hok⟩ := h
  simp only [M.insOk, Bool.and_eq_true] at hok
  have hok := hok.2
  split at hok
  · exact ⟨hl, by omega, by omega, by omega⟩
  split at hok
  · simp only [Bool.and_eq_true, isReg_iff] at hok
    exact ⟨hl, fun _ => hok.1, by omega, by omega⟩
  split at hok
  · simp only [Bool.and_eq_true, isReg_iff] at hok
    exact ⟨hl, fun _ => hok.1, fun _ => hok.2.1, by omega⟩
  split at hok
  · simp only [Bool.and_eq_true, isReg_iff] at hok
    exact ⟨hl, fun _ => hok.1, by omega, by omega⟩
  split at hok
  · simp only [Bool.and_eq_true, isReg_iff] at hok
    exact ⟨hl, fun _ => hok.1, by omega, by omega⟩
  split at hok
  · exact ⟨hl, by omega, by omega, by omega⟩
  · simp only [Bool.and_eq_true, isReg_iff] at hok
    exact ⟨hl, fun _ => hok.2.1, fun _ => hok.2.2.1, fun _ => hok.2.2.2⟩
theorem rd_reg {r : List Int} {x : Int} (hl : r.length = 4) (h : 0 ≤ x ∧ x ≤ 3) : 0 ≤ x ∧ x < ((r.length : Nat) : Int) := by omega
theorem wp.spec_l10Apply.math (i : D.Ins) (t : Int) (r : List Int) (h : M.spec_l10Apply_pre i t r) : wp.spec_l10Apply i t r (fun x => x = M.spec_l10Apply i t r) := by
  obtain ⟨hl, hA, hB, hC⟩ := fits_regs h
  simp only [wp.spec_l10Apply, List.nil_append, List.length_nil, forall_eq]
  refine ⟨by omega, ?_⟩
  refine bcase_mk (fun e => ?_) fun n1 => bcase_mk (fun e => ?_) fun n2 => bcase_mk (fun e => ?_) fun n3 => bcase_mk (fun e => ?_) fun n4 => bcase_mk (fun e => ?_) fun n5 => bcase_mk (fun e => ?_) fun n6 => bcase_mk (fun e => ?_) fun n7 => bcase_mk (fun e => ?_) fun n8 => bcase_mk (fun e => ?_) fun n9 => ?_
  · have hk : i.Op = 1 := by simpa using e
    exact ⟨rd_reg hl (hA (by omega)), by simp [M.spec_l10Apply, M.apply, hk]⟩
  · have hk : i.Op = 2 := by simpa using e
    exact ⟨rd_reg hl (hB (by omega)), rd_reg hl (hA (by omega)), by simp [M.spec_l10Apply, M.apply, hk]⟩
  · have hk : i.Op = 3 := by simpa using e
    exact ⟨rd_reg hl (hB (by omega)), rd_reg hl (hC (by omega)), rd_reg hl (hA (by omega)), by simp [M.spec_l10Apply, M.apply, hk, M.spec_AddWords, M.impl_AddWords]⟩
  · have hk : i.Op = 4 := by simpa using e
    exact ⟨rd_reg hl (hB (by omega)), rd_reg hl (hC (by omega)), rd_reg hl (hA (by omega)), by simp [M.spec_l10Apply, M.apply, hk, M.spec_SubWords, M.impl_SubWords]⟩
  · have hk : i.Op = 5 := by simpa using e
    exact ⟨rd_reg hl (hB (by omega)), rd_reg hl (hC (by omega)), rd_reg hl (hA (by omega)), by simp [M.spec_l10Apply, M.apply, hk, M.spec_MulWords, M.impl_MulWords]⟩
  · have hk : i.Op = 6 := by simpa using e
    exact ⟨rd_reg hl (hB (by omega)), rd_reg hl (hC (by omega)), rd_reg hl (hA (by omega)), by simp [M.spec_l10Apply, M.apply, hk]⟩
  · have hk : i.Op = 7 := by simpa using e
    exact ⟨rd_reg hl (hB (by omega)), rd_reg hl (hC (by omega)), rd_reg hl (hA (by omega)), by simp [M.spec_l10Apply, M.apply, hk, M.spec_LessWords, M.impl_LessWords]⟩
  · have hk : i.Op = 8 := by simpa using e
    exact ⟨rd_reg hl (hA (by omega)), by simp [M.spec_l10Apply, M.apply, hk]⟩
  · have hk : i.Op = 9 := by simpa using e
    refine ⟨rd_reg hl (hC (by omega)), bcase_mk (fun e2 => ⟨rd_reg hl (hB (by omega)), rd_reg hl (hA (by omega)), ?_⟩) fun e2 => ?_⟩
    · have h2 : ¬ rd r i.C = 0 := by simpa using e2
      simp [M.spec_l10Apply, M.apply, hk, h2]
    · have h2 : rd r i.C = 0 := by simpa using e2
      simp [M.spec_l10Apply, M.apply, hk, h2]
  · simp at n1 n2 n3 n4 n5 n6 n7 n8 n9
    simp [M.spec_l10Apply, M.apply, n1, n2, n3, n4, n5, n6, n7, n8, n9]
theorem wp.impl_apply.math (i : D.Ins) (t : Int) (r : List Int) (h : M.impl_apply_pre i t r) : wp.impl_apply i t r (fun x => x = M.impl_apply i t r) := by
  obtain ⟨hl, hA, hB, hC⟩ := fits_regs h
  simp only [wp.impl_apply, forall_eq]
  refine bcase_mk (fun e => ?_) fun n1 => bcase_mk (fun e => ?_) fun n2 => bcase_mk (fun e => ?_) fun n3 => bcase_mk (fun e => ?_) fun n4 => bcase_mk (fun e => ?_) fun n5 => bcase_mk (fun e => ?_) fun n6 => bcase_mk (fun e => ?_) fun n7 => bcase_mk (fun e => ?_) fun n8 => bcase_mk (fun e => ?_) fun n9 => ?_
  · have hk : i.Op = 1 := by simpa using e
    exact ⟨rd_reg hl (hA (by omega)), by simp [M.impl_apply, M.apply, hk]⟩
  · have hk : i.Op = 2 := by simpa using e
    exact ⟨rd_reg hl (hB (by omega)), rd_reg hl (hA (by omega)), by simp [M.impl_apply, M.apply, hk]⟩
  · have hk : i.Op = 3 := by simpa using e
    exact ⟨rd_reg hl (hB (by omega)), rd_reg hl (hC (by omega)), rd_reg hl (hA (by omega)), by simp [M.impl_apply, M.apply, hk, M.spec_AddWords, M.impl_AddWords]⟩
  · have hk : i.Op = 4 := by simpa using e
    exact ⟨rd_reg hl (hB (by omega)), rd_reg hl (hC (by omega)), rd_reg hl (hA (by omega)), by simp [M.impl_apply, M.apply, hk, M.spec_SubWords, M.impl_SubWords]⟩
  · have hk : i.Op = 5 := by simpa using e
    exact ⟨rd_reg hl (hB (by omega)), rd_reg hl (hC (by omega)), rd_reg hl (hA (by omega)), by simp [M.impl_apply, M.apply, hk, M.spec_MulWords, M.impl_MulWords]⟩
  · have hk : i.Op = 6 := by simpa using e
    exact ⟨rd_reg hl (hB (by omega)), rd_reg hl (hC (by omega)), rd_reg hl (hA (by omega)), by simp [M.impl_apply, M.apply, hk]⟩
  · have hk : i.Op = 7 := by simpa using e
    exact ⟨rd_reg hl (hB (by omega)), rd_reg hl (hC (by omega)), rd_reg hl (hA (by omega)), by simp [M.impl_apply, M.apply, hk, M.spec_LessWords, M.impl_LessWords]⟩
  · have hk : i.Op = 8 := by simpa using e
    exact ⟨rd_reg hl (hA (by omega)), by simp [M.impl_apply, M.apply, hk]⟩
  · have hk : i.Op = 9 := by simpa using e
    refine ⟨rd_reg hl (hC (by omega)), bcase_mk (fun e2 => ⟨rd_reg hl (hB (by omega)), rd_reg hl (hA (by omega)), ?_⟩) fun e2 => ?_⟩
    · have h2 : ¬ rd r i.C = 0 := by simpa using e2
      simp [M.impl_apply, M.apply, hk, h2]
    · have h2 : rd r i.C = 0 := by simpa using e2
      simp [M.impl_apply, M.apply, hk, h2]
  · simp at n1 n2 n3 n4 n5 n6 n7 n8 n9
    simp [M.impl_apply, M.apply, n1, n2, n3, n4, n5, n6, n7, n8, n9]
theorem wp.spec_l10Next.math (p : List D.Ins) (pc : Int) (r : List Int) (h : M.spec_l10Next_pre p pc r) : wp.spec_l10Next p pc r (fun x => x = M.spec_l10Next p pc r) := by
  obtain ⟨hp, h0, h1, hf⟩ := h
  obtain ⟨hl, hA, hB, hC⟩ := fits_regs hf
  unfold M.Long at hp
  have hw : IntKind.wrap .i64 (pc + 1) = pc + 1 := w64 (by omega) (by omega)
  simp only [wp.spec_l10Next, hw]
  refine ⟨⟨h0, h1⟩, bcase_mk (fun e => ?_) fun n1 => bcase_mk (fun e => ⟨⟨h0, h1⟩, ?_⟩) fun n2 => bcase_mk (fun e => ⟨⟨h0, h1⟩, ?_, bcase_mk (fun e2 => ⟨⟨h0, h1⟩, ?_⟩) fun e2 => ?_⟩) fun n3 => ?_⟩
  · simp at e; simp [M.spec_l10Next, M.next, e]
  · simp at e; simp [M.spec_l10Next, M.next, e]
  · have hk : (rd p pc).Op = 10 := by simpa using e
    exact rd_reg hl (hA (by omega))
  · simp at e e2; simp [M.spec_l10Next, M.next, e, e2]
  · simp at e e2; simp [M.spec_l10Next, M.next, e, e2]
  · simp at n1 n2 n3; simp [M.spec_l10Next, M.next, n1, n2, n3]
theorem wp.spec_l10Step.math (p : List D.Ins) (l : D.Lane) (h : M.spec_l10Step_pre p l) : wp.spec_l10Step p l (fun x => x = M.spec_l10Step p l) := by
  obtain ⟨hp, h0, h1, hf⟩ := h
  exact ⟨⟨h0, h1⟩, ⟨hp, h0, h1, hf⟩, fun r1 e1 => ⟨hf, fun r2 e2 => by rw [e1, e2]; rfl⟩⟩
theorem wp.impl_Lane_pass.math (l : D.Lane) (p : List D.Ins) (h : M.impl_Lane_pass_pre l p) : wp.impl_Lane_pass l p (fun x => x = M.impl_Lane_pass l p) := by
  obtain ⟨hp, hat⟩ := h
  refine bcase_mk (fun e => ?_) fun e => ?_
  · have : l.Pc = p.length := by simpa using e
    simp [M.impl_Lane_pass, this]; exact (by rw [← this])
  · have hne : ¬ l.Pc = p.length := by simpa using e
    obtain ⟨_, h0, h1, hf⟩ := hat.resolve_left hne
    obtain ⟨hl, hA, hB, hC⟩ := fits_regs hf
    unfold M.Long at hp
    have hw : IntKind.wrap .i64 (l.Pc + 1) = l.Pc + 1 := w64 (by omega) (by omega)
    refine ⟨⟨h0, h1⟩, fun r hr => bcase_mk (fun e1 => ?_) fun e1 => ⟨⟨h0, h1⟩, ?_⟩⟩
    · have : M.isLocal (rd p l.Pc) = false := nt e1 hr
      simp [M.impl_Lane_pass, hne, this]
    have hloc : M.isLocal (rd p l.Pc) = true := nf e1 hr
    have hM : M.impl_Lane_pass l p = (true, M.step p l) := by simp only [M.impl_Lane_pass, hne, if_false, hloc, if_true]
    have ha : ∀ k, 10 ≤ k → (rd p l.Pc).Op = k → M.apply (rd p l.Pc) l.Thread l.Regs = l.Regs := by
      intro k hk e
      unfold M.apply
      rw [if_neg (by omega), if_neg (by omega), if_neg (by omega), if_neg (by omega), if_neg (by omega), if_neg (by omega), if_neg (by omega), if_neg (by omega), if_neg (by omega)]
    rw [hM]
    simp only [JoinP, hw]
    refine bcase_mk (fun e2 => ?_) fun n1 => bcase_mk (fun e2 => ?_) fun n2 => bcase_mk (fun e2 => ⟨?_, bcase_mk (fun e3 => ?_) fun e3 => ⟨hf, fun r2 hr2 => ?_⟩⟩) fun n3 => ⟨hf, fun r2 hr2 => ?_⟩
    · have e2 : (rd p l.Pc).Op = 12 := by simpa using e2
      simp [M.step, M.next, e2, ha 12 (by omega) e2]
    · have e2 : (rd p l.Pc).Op = 11 := by simpa using e2
      simp [bcase, M.step, M.next, e2, ha 11 (by omega) e2]
    · have e2 : (rd p l.Pc).Op = 10 := by simpa using e2
      exact rd_reg hl (hA (by omega))
    · have e2 : (rd p l.Pc).Op = 10 := by simpa using e2
      have e3 : rd l.Regs (rd p l.Pc).A = 0 := by simpa using e3
      simp [M.step, M.next, e2, e3, ha 10 (by omega) e2]
    · have e2 : (rd p l.Pc).Op = 10 := by simpa using e2
      have e3 : ¬ rd l.Regs (rd p l.Pc).A = 0 := by simpa using e3
      simp [M.step, M.next, e2, e3, hr2, M.impl_apply]
    · have n1 : ¬ (rd p l.Pc).Op = 12 := by simpa using n1
      have n2 : ¬ (rd p l.Pc).Op = 11 := by simpa using n2
      have n3 : ¬ (rd p l.Pc).Op = 10 := by simpa using n3
      simp [M.step, M.next, n1, n2, n3, hr2, M.impl_apply]
/-- what a running lane keeps -/
def Inv (p : List D.Ins) (l : D.Lane) : Prop := 0 ≤ l.Pc ∧ l.Pc ≤ p.length ∧ l.Regs.length = 4
theorem rd_of {α : Type} [Inhabited α] {xs : List α} {i : Int} (h0 : 0 ≤ i) (h1 : i < ((xs.length : Nat) : Int)) : rd xs i ∈ xs := by
  obtain ⟨k, rfl⟩ := Int.eq_ofNat_of_zero_le h0
  exact rd_mem (by omega)
theorem fits_at {p : List D.Ins} (hp : M.programOk p = true) {l : D.Lane} (hi : Inv p l) (hlt : l.Pc < p.length) : M.At p l.Pc l.Regs := by
  obtain ⟨h0, h1, h2⟩ := hi
  simp only [M.programOk, Bool.and_eq_true, decide_eq_true_eq, List.all_eq_true] at hp
  exact ⟨by unfold M.Long; omega, h0, hlt, h2, _, hp.2 _ (rd_of h0 hlt)⟩
theorem apply_len (i : D.Ins) (t : Int) (r : List Int) : (M.apply i t r).length = r.length := by
  unfold M.apply
  (repeat' split) <;> simp
theorem next_in {p : List D.Ins} {l : D.Lane} (hp : M.programOk p = true) (hi : Inv p l) (hlt : l.Pc < p.length) : 0 ≤ M.next p l.Pc l.Regs ∧ M.next p l.Pc l.Regs ≤ p.length := by
  obtain ⟨h0, h1, h2⟩ := hi
  simp only [M.programOk, Bool.and_eq_true, decide_eq_true_eq, List.all_eq_true] at hp
  have hok := hp.2 _ (rd_of h0 hlt)
  simp only [M.insOk, Bool.and_eq_true] at hok
  have hok := hok.2
  unfold M.next
  split
  · omega
  split
  · rename_i h12 h11
    rw [if_neg (by omega), if_neg (by omega), if_neg (by omega), if_neg (by omega), if_neg (by omega), if_pos h11] at hok
    simp only [Bool.and_eq_true, M.isIn, decide_eq_true_eq] at hok
    exact hok.2.1
  split
  · rename_i h12 h11 h10
    rw [if_neg (by omega), if_neg (by omega), if_neg (by omega), if_neg (by omega), if_pos h10] at hok
    simp only [Bool.and_eq_true, M.isIn, decide_eq_true_eq] at hok
    split
    · exact hok.2.1
    · omega
  · omega
theorem inv_step {p : List D.Ins} {l : D.Lane} (hp : M.programOk p = true) (hi : Inv p l) (hlt : l.Pc < p.length) : Inv p (M.step p l) := by
  have h := next_in hp hi hlt
  exact ⟨h.1, h.2, by simp only [M.step, apply_len]; exact hi.2.2⟩
theorem laneOk_inv {p : List D.Ins} {l : D.Lane} (h : M.laneOk p l = true) : M.programOk p = true ∧ Inv p l := by
  simp only [M.laneOk, M.laneOf, M.areRegs, M.isIn, Bool.and_eq_true, decide_eq_true_eq, beq_iff_eq] at h
  exact ⟨h.1, h.2.2.1.1, h.2.2.1.2, h.2.2.2.1⟩
theorem quiet_local {p : List D.Ins} (h : M.isQuiet p = true) {i : Int} (h0 : 0 ≤ i) (h1 : i < ((p.length : Nat) : Int)) : M.isLocal (rd p i) = true := by
  simp only [M.isQuiet, Bool.and_eq_true, List.all_eq_true] at h
  exact h.2 _ (rd_of h0 h1)
theorem run_loop {p : List D.Ins} {l0 : D.Lane} {steps : Int} (hp : M.programOk p = true) (hi : Inv p l0) (hs : 0 ≤ steps) {Q : D.Lane × Int → Prop} (hQ : Q (M.runN p steps.toNat l0 0))
    {B : (Int × Int × Int × List Int × Unit) → ((Int × Int × Int × List Int × Unit) → Prop) → Prop}
    (hb : ∀ (n : Int) (l : D.Lane) (next : (Int × Int × Int × List Int × Unit) → Prop), 0 ≤ n → Inv p l → n < steps → l.Pc < p.length → next (n + 1, (M.step p l).Thread, (M.step p l).Pc, (M.step p l).Regs, ()) → B (n, l.Thread, l.Pc, l.Regs, ()) next)
    (he1 : ∀ (n : Int) (l : D.Lane) (next : (Int × Int × Int × List Int × Unit) → Prop), 0 ≤ n → Inv p l → n < steps → l.Pc = p.length → Q (l, n) → B (n, l.Thread, l.Pc, l.Regs, ()) next)
    (he2 : ∀ (l : D.Lane) (next : (Int × Int × Int × List Int × Unit) → Prop), Inv p l → Q (l, steps) → B (steps, l.Thread, l.Pc, l.Regs, ()) next) :
    LoopP B (0, l0.Thread, l0.Pc, l0.Regs, ()) := by
  refine ⟨fun m z => ∃ (n : Int) (l : D.Lane), z = (n, l.Thread, l.Pc, l.Regs, ()) ∧ (m : Int) = steps - n ∧ 0 ≤ n ∧ n ≤ steps ∧ Inv p l ∧ Q (M.runN p m l n), ⟨steps.toNat, 0, l0, rfl, by omega, by omega, hs, hi, hQ⟩, ?_⟩
  rintro m z ⟨n, l, rfl, hm, h0, h1, hI, hq⟩
  cases m with
  | zero =>
    have : n = steps := by omega
    subst this
    exact he2 l _ hI hq
  | succ k =>
    by_cases hlt : l.Pc < p.length
    · refine hb n l _ h0 hI (by omega) hlt ⟨k, by omega, n + 1, M.step p l, rfl, by omega, by omega, by omega, inv_step hp hI hlt, ?_⟩
      rw [M.runN, if_pos hlt] at hq; exact hq
    · have : l.Pc = p.length := by have := hI.2.1; omega
      rw [M.runN, if_neg hlt] at hq
      exact he1 n l _ h0 hI (by omega) this hq
theorem wp.spec_RunLane.math (p : List D.Ins) (l : D.Lane) (steps : Int) (h : M.spec_RunLane_pre p l steps) : wp.spec_RunLane p l steps (fun x => x = M.spec_RunLane p l steps) := by
  obtain ⟨hp, hr⟩ := h
  refine ⟨hr, fun r1 h1 => ⟨hp, fun r2 h2 => bcase_mk (fun e2 => ?_) fun e2 => ⟨hp, fun r3 h3 => bcase_mk (fun e3 => ?_) fun e3 r4 h4 => bcase_mk (fun e4 => ?_) fun e4 => ?_⟩⟩⟩
  all_goals have h1' : r1 = l := h1
  all_goals subst h1'
  · have : M.isQuiet p = false := nt e2 h2
    simp [M.spec_RunLane, M.runLane, this]
  · have : M.laneOk p r1 = false := nt e3 h3
    simp [M.spec_RunLane, M.runLane, this]
  · have : M.isIn steps 0 1000 = false := nt e4 h4
    simp [M.spec_RunLane, M.runLane, this]
  · have q1 : M.isQuiet p = true := nf e2 h2
    have q2 : M.laneOk p r1 = true := nf e3 h3
    have q3 : M.isIn steps 0 1000 = true := nf e4 h4
    have hst : 0 ≤ steps ∧ steps ≤ 1000 := by simpa [M.isIn] using q3
    obtain ⟨hok, hI⟩ := laneOk_inv q2
    have hM : M.spec_RunLane p r1 steps = M.runN p steps.toNat r1 0 := by simp [M.spec_RunLane, M.runLane, q1, q2, q3]
    rw [hM]
    refine run_loop hok hI hst.1 (Q := fun x => x = M.runN p steps.toNat r1 0) rfl (fun n l next h0 hI hn hlt hnx => ?_) (fun n l next h0 hI hn hpc hq => ?_) fun l next hI hq => ?_
    · refine bcase_t (by simpa using hn) (bcase_t (by simpa using hlt) ⟨fits_at hok hI hlt, fun r hr => ?_⟩)
      rw [hr, w64 (by omega) (by omega)]; exact hnx
    · exact bcase_t (by simpa using hn) (bcase_f (by simp; omega) hq)
    · exact bcase_f (by simp) hq
theorem wp.impl_RunLane.math (p : List D.Ins) (l : D.Lane) (steps : Int) (h : M.impl_RunLane_pre p l steps) : wp.impl_RunLane p l steps (fun x => x = M.impl_RunLane p l steps) := by
  obtain ⟨hp, hr⟩ := h
  refine ⟨hr, fun r1 h1 => ⟨hp, fun r2 h2 => bcase_mk (fun e2 => ?_) fun e2 => ⟨hp, fun r3 h3 => bcase_mk (fun e3 => ?_) fun e3 r4 h4 => bcase_mk (fun e4 => ?_) fun e4 => ?_⟩⟩⟩
  all_goals have h1' : r1 = l := h1
  all_goals subst h1'
  · have : M.isQuiet p = false := nt e2 h2
    simp [M.impl_RunLane, M.runLane, this]
  · have : M.laneOk p r1 = false := nt e3 h3
    simp [M.impl_RunLane, M.runLane, this]
  · have : M.isIn steps 0 1000 = false := nt e4 h4
    simp [M.impl_RunLane, M.runLane, this]
  · have q1 : M.isQuiet p = true := nf e2 h2
    have q2 : M.laneOk p r1 = true := nf e3 h3
    have q3 : M.isIn steps 0 1000 = true := nf e4 h4
    have hst : 0 ≤ steps ∧ steps ≤ 1000 := by simpa [M.isIn] using q3
    obtain ⟨hok, hI⟩ := laneOk_inv q2
    have hM : M.impl_RunLane p r1 steps = M.runN p steps.toNat r1 0 := by simp [M.impl_RunLane, M.runLane, q1, q2, q3]
    rw [hM]
    refine run_loop hok hI hst.1 (Q := fun x => x = M.runN p steps.toNat r1 0) rfl (fun n l next h0 hI hn hlt hnx => ?_) (fun n l next h0 hI hn hpc hq => ?_) fun l next hI hq => ?_
    · refine bcase_t (by simpa using hn) ⟨⟨hp, .inr (fits_at hok hI hlt)⟩, fun r hr => ?_⟩
      have : r = (true, M.step p l) := by
        rw [hr]
        show M.impl_Lane_pass l p = _
        simp only [M.impl_Lane_pass]
        rw [if_neg (by omega), if_pos (quiet_local q1 hI.1 hlt)]
      rw [this]
      refine bcase_t rfl ?_
      rw [w64 (by omega) (by omega)]; exact hnx
    · refine bcase_t (by simpa using hn) ⟨⟨hp, .inl hpc⟩, fun r hr => ?_⟩
      have : r = (false, l) := by
        rw [hr]
        show M.impl_Lane_pass l p = _
        simp only [M.impl_Lane_pass]
        rw [if_pos hpc]
      rw [this]
      exact bcase_f rfl hq
    · exact bcase_f (by simp) hq
theorem laneNew_len (t : Int) : (M.laneNew t).Regs.length ≤ 4 := by unfold M.laneNew; split <;> simp
theorem wp.spec_StepsAlone.math (p : List D.Ins) (t : Int) (h : M.spec_StepsAlone_pre p t) : wp.spec_StepsAlone p t (fun x => x = M.spec_StepsAlone p t) := by
  intro r1 h1
  have h1' : r1 = M.laneNew t := h1
  subst h1'
  have := laneNew_len t
  refine ⟨⟨h, by omega⟩, fun r2 h2 => ?_⟩
  have h2' : r2 = M.runLane p (M.laneNew t) 1000 := h2
  subst h2'
  refine bcase_mk (fun e => ?_) fun e1 => bcase_mk (fun e => ?_) fun e2 => ?_
  · simp at e; simp [M.spec_StepsAlone, M.stepsAlone, e]
  · have e1 : ¬ (M.runLane p (M.laneNew t) 1000).2 < 0 := by simpa using e1
    simp at e; simp only [M.spec_StepsAlone, M.stepsAlone, if_neg e1, if_pos e]
  · have e1 : ¬ (M.runLane p (M.laneNew t) 1000).2 < 0 := by simpa using e1
    have e2 : ¬ (M.runLane p (M.laneNew t) 1000).1.Pc < p.length := by simpa using e2
    simp only [M.spec_StepsAlone, M.stepsAlone, if_neg e1, if_neg e2]
theorem wp.impl_alone.math (p : List D.Ins) (t : Int) (h : M.impl_alone_pre p t) : wp.impl_alone p t (fun x => x = M.impl_alone p t) := by
  intro r0 h0
  refine bcase_mk (fun e => ?_) fun e r1 h1 => ?_
  · have : M.isIn t 0 23 = false := nt e h0
    simp [M.impl_alone, this]
  have ht : M.isIn t 0 23 = true := nf e h0
  have h1' : r1 = M.laneNew t := h1
  subst h1'
  have := laneNew_len t
  refine ⟨⟨h, by omega⟩, fun r2 h2 => ?_⟩
  have h2' : r2 = M.runLane p (M.laneNew t) 1000 := h2
  subst h2'
  refine bcase_mk (fun e => ?_) fun e1 => bcase_mk (fun e => ?_) fun e2 => ?_
  · simp at e; simp [M.impl_alone, ht, e]
  · have e1 : ¬ (M.runLane p (M.laneNew t) 1000).2 < 0 := by simpa using e1
    have e : (M.runLane p (M.laneNew t) 1000).1.Pc ≠ p.length := by simpa using e
    simp only [M.impl_alone, ht, if_true, if_neg e1, if_pos e]
  · have e1 : ¬ (M.runLane p (M.laneNew t) 1000).2 < 0 := by simpa using e1
    have e2 : ¬ (M.runLane p (M.laneNew t) 1000).1.Pc ≠ p.length := by simpa using e2
    simp only [M.impl_alone, ht, if_true, if_neg e1, if_neg e2]
theorem runN_inv {p : List D.Ins} (hp : M.programOk p = true) : ∀ (k : Nat) (l : D.Lane) (n : Int), Inv p l → Inv p (M.runN p k l n).1 ∧ (0 ≤ n → 0 ≤ (M.runN p k l n).2)
  | 0, l, n, hi => ⟨hi, fun h => h⟩
  | k + 1, l, n, hi => by
    rw [M.runN]
    split
    · rename_i hlt
      have := runN_inv hp k _ (n + 1) (inv_step hp hi hlt)
      exact ⟨this.1, fun h => this.2 (by omega)⟩
    · exact ⟨hi, fun h => h⟩
theorem runLane_pc {p : List D.Ins} {l : D.Lane} {s : Int} (h : ¬ (M.runLane p l s).2 < 0) : M.isQuiet p = true ∧ M.laneOk p l = true ∧ Inv p (M.runLane p l s).1 := by
  by_cases hc : (M.isQuiet p && (M.laneOk p l && M.isIn s 0 1000)) = true
  · unfold M.runLane at *
    rw [if_pos hc] at *
    simp only [Bool.and_eq_true] at hc
    have := laneOk_inv hc.2.1
    exact ⟨hc.1, hc.2.1, (runN_inv this.1 _ _ _ this.2).1⟩
  · unfold M.runLane at h
    rw [if_neg hc] at h
    exact absurd (show (-1 : Int) < 0 by decide) h
theorem wp.impl_StepsAlone.math (p : List D.Ins) (t : Int) (h : M.impl_StepsAlone_pre p t) : wp.impl_StepsAlone p t (fun x => x = M.impl_StepsAlone p t) := by
  refine ⟨h, fun r hr => ?_⟩
  subst hr
  by_cases ht : M.isIn t 0 23 = true
  · by_cases e1 : (M.runLane p (M.laneNew t) 1000).2 < 0
    · have hA : M.impl_alone p t = (⟨0, 0, []⟩, 0, false) := by simp [M.impl_alone, ht, e1]
      rw [hA]
      exact bcase_t rfl (by simp [M.impl_StepsAlone, M.stepsAlone, e1])
    · have hpc := (runLane_pc e1).2.2.2.1
      by_cases e2 : (M.runLane p (M.laneNew t) 1000).1.Pc = p.length
      · have hA : M.impl_alone p t = ((M.runLane p (M.laneNew t) 1000).1, (M.runLane p (M.laneNew t) 1000).2, true) := by simp [M.impl_alone, ht, e1, e2]
        rw [hA]
        refine bcase_f rfl ?_
        simp only [M.impl_StepsAlone, M.stepsAlone]
        rw [if_neg e1, if_neg (by omega)]
      · have hA : M.impl_alone p t = (⟨0, 0, []⟩, 0, false) := by simp [M.impl_alone, ht, e1, e2]
        rw [hA]
        refine bcase_t rfl ?_
        simp only [M.impl_StepsAlone, M.stepsAlone]
        rw [if_neg e1, if_pos (by omega)]
  · have ht' : M.isIn t 0 23 = false := by simpa using ht
    have hA : M.impl_alone p t = (⟨0, 0, []⟩, 0, false) := by simp [M.impl_alone, ht']
    rw [hA]
    refine bcase_t rfl ?_
    have hn : M.laneNew t = ⟨0, 0, []⟩ := by simp [M.laneNew, ht']
    have e1 : (M.runLane p (M.laneNew t) 1000).2 < 0 := by
      refine Decidable.byContradiction fun hh => ?_
      have := (runLane_pc hh).2.1
      rw [hn] at this
      simp [M.laneOk, M.laneOf, M.areRegs] at this
    simp only [M.impl_StepsAlone, M.stepsAlone]
    rw [if_pos e1]
theorem wp.laws_FnExactStepsAlone.math (p : List D.Ins) (t : Int) (h : M.laws_FnExactStepsAlone_pre p t) : wp.laws_FnExactStepsAlone p t (fun x => x = M.laws_FnExactStepsAlone p t) := by
  unfold wp.laws_FnExactStepsAlone
  refine ⟨⟨by omega, by omega, h⟩, fun r hr => ?_⟩
  refine bcase_mk (fun _ => rfl) fun e => ?_
  have hl : p.length ≤ 1048576 := by
    rw [hr] at e
    simp only [M.laws_szInsS] at e
    split at e
    · simp at e
    · omega
  have hp : M.Long p := by unfold M.Long; omega
  simp only [M.laws_toInsS, forall_eq, M.spec_StepsAlone, M.impl_StepsAlone, M.laws_eqInsS, beq_self_eq_true, bne_self_eq_false, Bool.not_true, bcase]
  exact ⟨by unfold M.laws_toInsS_pre; omega, hp, by unfold M.laws_toInsS_pre; omega, hp, by unfold M.laws_toInsS_pre; omega, hp, rfl⟩
end Go.V
