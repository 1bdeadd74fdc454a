import Derived.Test.YtdjkglkcohknbaaGreatKCsMath1
set_option linter.unusedVariables false
namespace Go.V
def wp.spec_l01Once (s0 : D.Cur) (x1 : Int) (Q : (Bool × D.Cur) → Prop) : Prop :=
  (M.spec_l01Below_pre s0 x1 ∧ ∀ r21, r21 = M.spec_l01Below s0 x1 → Q ((r21.1 == 0), (⟨s0.b, r21.2.i, r21.2.h⟩ : D.Cur)))
def wp.spec_l05Body (s0 : D.Cur) (xs1 : List D.Ins) (x2 : Int) (Q : ((List D.Ins) × D.Cur) → Prop) : Prop :=
  (M.spec_l01Below_pre s0 4 ∧ ∀ r21, r21 = M.spec_l01Below s0 4 → LoopP (σ := (List D.Ins) × Int × Int × Int × Unit) (fun (p210 : (List D.Ins) × Int × Int × Int × Unit) next51 => match p210 with | (xs42, i45, i46, i47, _) => bcase (decide (i45 > 0)) (bcase (decide (((xs42.length : Nat) : Int) < 20)) ((M.spec_l01Below_pre (⟨s0.b, i46, i47⟩ : D.Cur) 5 ∧ ∀ r53, r53 = M.spec_l01Below (⟨s0.b, i46, i47⟩ : D.Cur) 5 → bcase (r53.1 == 0) (bcase (x2 == 0) (next51 (xs42, (IntKind.wrap .i64 (i45 - 1)), r53.2.i, r53.2.h, ())) ((M.spec_l01Below_pre (⟨s0.b, r53.2.i, r53.2.h⟩ : D.Cur) 4 ∧ ∀ r62, r62 = M.spec_l01Below (⟨s0.b, r53.2.i, r53.2.h⟩ : D.Cur) 4 → ((xs42.length + ([(⟨10, r62.1, 0, 0⟩ : D.Ins)] : List D.Ins).length ≤ 17179869184) ∧ (M.spec_l05Body_pre (⟨s0.b, r62.2.i, r62.2.h⟩ : D.Cur) (xs42 ++ ([(⟨10, r62.1, 0, 0⟩ : D.Ins)] : List D.Ins)) (IntKind.wrap .i64 (x2 - 1)) ∧ ∀ r76, r76 = M.spec_l05Body (⟨s0.b, r62.2.i, r62.2.h⟩ : D.Cur) (xs42 ++ ([(⟨10, r62.1, 0, 0⟩ : D.Ins)] : List D.Ins)) (IntKind.wrap .i64 (x2 - 1)) → (M.spec_l01Once_pre (⟨s0.b, r76.2.i, r76.2.h⟩ : D.Cur) 2 ∧ ∀ r84, r84 = M.spec_l01Once (⟨s0.b, r76.2.i, r76.2.h⟩ : D.Cur) 2 → bcase r84.1 (((0 ≤ ((xs42.length : Nat) : Int) ∧ ((xs42.length : Nat) : Int) < ((r76.1.length : Nat) : Int)) ∧ next51 ((List.set r76.1 (((xs42.length : Nat) : Int).toNat) (⟨(rd r76.1 ((xs42.length : Nat) : Int)).Op, (rd r76.1 ((xs42.length : Nat) : Int)).A, ((r76.1.length : Nat) : Int), (rd r76.1 ((xs42.length : Nat) : Int)).C⟩ : D.Ins)), (IntKind.wrap .i64 (i45 - 1)), r84.2.i, r84.2.h, ()))) (((r76.1.length + ([(⟨11, 0, 0, 0⟩ : D.Ins)] : List D.Ins).length ≤ 17179869184) ∧ ((0 ≤ ((xs42.length : Nat) : Int) ∧ ((xs42.length : Nat) : Int) < (((r76.1 ++ ([(⟨11, 0, 0, 0⟩ : D.Ins)] : List D.Ins)).length : Nat) : Int)) ∧ (M.spec_l05Body_pre (⟨s0.b, r84.2.i, r84.2.h⟩ : D.Cur) (List.set (r76.1 ++ ([(⟨11, 0, 0, 0⟩ : D.Ins)] : List D.Ins)) (((xs42.length : Nat) : Int).toNat) (⟨(rd (r76.1 ++ ([(⟨11, 0, 0, 0⟩ : D.Ins)] : List D.Ins)) ((xs42.length : Nat) : Int)).Op, (rd (r76.1 ++ ([(⟨11, 0, 0, 0⟩ : D.Ins)] : List D.Ins)) ((xs42.length : Nat) : Int)).A, ((((r76.1 ++ ([(⟨11, 0, 0, 0⟩ : D.Ins)] : List D.Ins))).length : Nat) : Int), (rd (r76.1 ++ ([(⟨11, 0, 0, 0⟩ : D.Ins)] : List D.Ins)) ((xs42.length : Nat) : Int)).C⟩ : D.Ins)) (IntKind.wrap .i64 (x2 - 1)) ∧ ∀ r117, r117 = M.spec_l05Body (⟨s0.b, r84.2.i, r84.2.h⟩ : D.Cur) (List.set (r76.1 ++ ([(⟨11, 0, 0, 0⟩ : D.Ins)] : List D.Ins)) (((xs42.length : Nat) : Int).toNat) (⟨(rd (r76.1 ++ ([(⟨11, 0, 0, 0⟩ : D.Ins)] : List D.Ins)) ((xs42.length : Nat) : Int)).Op, (rd (r76.1 ++ ([(⟨11, 0, 0, 0⟩ : D.Ins)] : List D.Ins)) ((xs42.length : Nat) : Int)).A, ((((r76.1 ++ ([(⟨11, 0, 0, 0⟩ : D.Ins)] : List D.Ins))).length : Nat) : Int), (rd (r76.1 ++ ([(⟨11, 0, 0, 0⟩ : D.Ins)] : List D.Ins)) ((xs42.length : Nat) : Int)).C⟩ : D.Ins)) (IntKind.wrap .i64 (x2 - 1)) → ((0 ≤ ((r76.1.length : Nat) : Int) ∧ ((r76.1.length : Nat) : Int) < ((r117.1.length : Nat) : Int)) ∧ next51 ((List.set r117.1 (((r76.1.length : Nat) : Int).toNat) (⟨(rd r117.1 ((r76.1.length : Nat) : Int)).Op, (rd r117.1 ((r76.1.length : Nat) : Int)).A, ((r117.1.length : Nat) : Int), (rd r117.1 ((r76.1.length : Nat) : Int)).C⟩ : D.Ins)), (IntKind.wrap .i64 (i45 - 1)), r117.2.i, r117.2.h, ())))))))))))) (bcase (r53.1 == 1) (bcase (x2 == 0) (next51 (xs42, (IntKind.wrap .i64 (i45 - 1)), r53.2.i, r53.2.h, ())) (bcase (decide (((xs42.length : Nat) : Int) > 14)) (next51 (xs42, (IntKind.wrap .i64 (i45 - 1)), r53.2.i, r53.2.h, ())) (((xs42.length + ([(⟨8, 3, 0, 0⟩ : D.Ins)] : List D.Ins).length ≤ 17179869184) ∧ (((xs42 ++ ([(⟨8, 3, 0, 0⟩ : D.Ins)] : List D.Ins)).length + ([(⟨10, 3, 0, 0⟩ : D.Ins)] : List D.Ins).length ≤ 17179869184) ∧ ((((xs42 ++ ([(⟨8, 3, 0, 0⟩ : D.Ins)] : List D.Ins)) ++ ([(⟨10, 3, 0, 0⟩ : D.Ins)] : List D.Ins)).length + ([(⟨3, 0, 0, 1⟩ : D.Ins), (⟨1, 2, 1, 0⟩ : D.Ins), (⟨4, 3, 3, 2⟩ : D.Ins)] : List D.Ins).length ≤ 17179869184) ∧ (((((xs42 ++ ([(⟨8, 3, 0, 0⟩ : D.Ins)] : List D.Ins)) ++ ([(⟨10, 3, 0, 0⟩ : D.Ins)] : List D.Ins)) ++ ([(⟨3, 0, 0, 1⟩ : D.Ins), (⟨1, 2, 1, 0⟩ : D.Ins), (⟨4, 3, 3, 2⟩ : D.Ins)] : List D.Ins)).length + ([(⟨11, 0, ((((xs42 ++ ([(⟨8, 3, 0, 0⟩ : D.Ins)] : List D.Ins))).length : Nat) : Int), 0⟩ : D.Ins)] : List D.Ins).length ≤ 17179869184) ∧ ((0 ≤ ((((xs42 ++ ([(⟨8, 3, 0, 0⟩ : D.Ins)] : List D.Ins))).length : Nat) : Int) ∧ ((((xs42 ++ ([(⟨8, 3, 0, 0⟩ : D.Ins)] : List D.Ins))).length : Nat) : Int) < ((((((xs42 ++ ([(⟨8, 3, 0, 0⟩ : D.Ins)] : List D.Ins)) ++ ([(⟨10, 3, 0, 0⟩ : D.Ins)] : List D.Ins)) ++ ([(⟨3, 0, 0, 1⟩ : D.Ins), (⟨1, 2, 1, 0⟩ : D.Ins), (⟨4, 3, 3, 2⟩ : D.Ins)] : List D.Ins)) ++ ([(⟨11, 0, ((((xs42 ++ ([(⟨8, 3, 0, 0⟩ : D.Ins)] : List D.Ins))).length : Nat) : Int), 0⟩ : D.Ins)] : List D.Ins)).length : Nat) : Int)) ∧ next51 ((List.set ((((xs42 ++ ([(⟨8, 3, 0, 0⟩ : D.Ins)] : List D.Ins)) ++ ([(⟨10, 3, 0, 0⟩ : D.Ins)] : List D.Ins)) ++ ([(⟨3, 0, 0, 1⟩ : D.Ins), (⟨1, 2, 1, 0⟩ : D.Ins), (⟨4, 3, 3, 2⟩ : D.Ins)] : List D.Ins)) ++ ([(⟨11, 0, ((((xs42 ++ ([(⟨8, 3, 0, 0⟩ : D.Ins)] : List D.Ins))).length : Nat) : Int), 0⟩ : D.Ins)] : List D.Ins)) (((((xs42 ++ ([(⟨8, 3, 0, 0⟩ : D.Ins)] : List D.Ins))).length : Nat) : Int).toNat) (⟨(rd ((((xs42 ++ ([(⟨8, 3, 0, 0⟩ : D.Ins)] : List D.Ins)) ++ ([(⟨10, 3, 0, 0⟩ : D.Ins)] : List D.Ins)) ++ ([(⟨3, 0, 0, 1⟩ : D.Ins), (⟨1, 2, 1, 0⟩ : D.Ins), (⟨4, 3, 3, 2⟩ : D.Ins)] : List D.Ins)) ++ ([(⟨11, 0, ((((xs42 ++ ([(⟨8, 3, 0, 0⟩ : D.Ins)] : List D.Ins))).length : Nat) : Int), 0⟩ : D.Ins)] : List D.Ins)) ((((xs42 ++ ([(⟨8, 3, 0, 0⟩ : D.Ins)] : List D.Ins))).length : Nat) : Int)).Op, (rd ((((xs42 ++ ([(⟨8, 3, 0, 0⟩ : D.Ins)] : List D.Ins)) ++ ([(⟨10, 3, 0, 0⟩ : D.Ins)] : List D.Ins)) ++ ([(⟨3, 0, 0, 1⟩ : D.Ins), (⟨1, 2, 1, 0⟩ : D.Ins), (⟨4, 3, 3, 2⟩ : D.Ins)] : List D.Ins)) ++ ([(⟨11, 0, ((((xs42 ++ ([(⟨8, 3, 0, 0⟩ : D.Ins)] : List D.Ins))).length : Nat) : Int), 0⟩ : D.Ins)] : List D.Ins)) ((((xs42 ++ ([(⟨8, 3, 0, 0⟩ : D.Ins)] : List D.Ins))).length : Nat) : Int)).A, (((((((xs42 ++ ([(⟨8, 3, 0, 0⟩ : D.Ins)] : List D.Ins)) ++ ([(⟨10, 3, 0, 0⟩ : D.Ins)] : List D.Ins)) ++ ([(⟨3, 0, 0, 1⟩ : D.Ins), (⟨1, 2, 1, 0⟩ : D.Ins), (⟨4, 3, 3, 2⟩ : D.Ins)] : List D.Ins)) ++ ([(⟨11, 0, ((((xs42 ++ ([(⟨8, 3, 0, 0⟩ : D.Ins)] : List D.Ins))).length : Nat) : Int), 0⟩ : D.Ins)] : List D.Ins))).length : Nat) : Int), (rd ((((xs42 ++ ([(⟨8, 3, 0, 0⟩ : D.Ins)] : List D.Ins)) ++ ([(⟨10, 3, 0, 0⟩ : D.Ins)] : List D.Ins)) ++ ([(⟨3, 0, 0, 1⟩ : D.Ins), (⟨1, 2, 1, 0⟩ : D.Ins), (⟨4, 3, 3, 2⟩ : D.Ins)] : List D.Ins)) ++ ([(⟨11, 0, ((((xs42 ++ ([(⟨8, 3, 0, 0⟩ : D.Ins)] : List D.Ins))).length : Nat) : Int), 0⟩ : D.Ins)] : List D.Ins)) ((((xs42 ++ ([(⟨8, 3, 0, 0⟩ : D.Ins)] : List D.Ins))).length : Nat) : Int)).C⟩ : D.Ins)), (IntKind.wrap .i64 (i45 - 1)), r53.2.i, r53.2.h, ()))))))))) ((M.spec_l04Plain_pre (⟨s0.b, r53.2.i, r53.2.h⟩ : D.Cur) ∧ ∀ r189, r189 = M.spec_l04Plain (⟨s0.b, r53.2.i, r53.2.h⟩ : D.Cur) → ((xs42.length + ([r189.1] : List D.Ins).length ≤ 17179869184) ∧ next51 ((xs42 ++ ([r189.1] : List D.Ins)), (IntKind.wrap .i64 (i45 - 1)), r189.2.i, r189.2.h, ()))))))) (Q (xs42, (⟨s0.b, i46, i47⟩ : D.Cur)))) (Q (xs42, (⟨s0.b, i46, i47⟩ : D.Cur)))) (xs1, r21.1, r21.2.i, r21.2.h, ()))
def wp.spec_l05Quiet (s0 : D.Cur) (Q : ((List D.Ins) × D.Cur) → Prop) : Prop :=
  JoinP (σ := (List D.Ins) × Int × Int × Unit) (fun J29 => (M.spec_l01Once_pre s0 4 ∧ ∀ r32, r32 = M.spec_l01Once s0 4 → bcase (!r32.1) ((M.spec_l01Below_pre (⟨s0.b, r32.2.i, r32.2.h⟩ : D.Cur) 2 ∧ ∀ r38, r38 = M.spec_l01Below (⟨s0.b, r32.2.i, r32.2.h⟩ : D.Cur) 2 → ((([] : List D.Ins).length + ([(⟨8, r38.1, 0, 0⟩ : D.Ins)] : List D.Ins).length ≤ 17179869184) ∧ J29 ((([] : List D.Ins) ++ ([(⟨8, r38.1, 0, 0⟩ : D.Ins)] : List D.Ins)), r38.2.i, r38.2.h, ())))) (J29 (([] : List D.Ins), r32.2.i, r32.2.h, ())))) (fun (p91 : (List D.Ins) × Int × Int × Unit) => match p91 with | (xs24, i27, i28, _) => (M.spec_l05Body_pre (⟨s0.b, i27, i28⟩ : D.Cur) xs24 2 ∧ ∀ r53, r53 = M.spec_l05Body (⟨s0.b, i27, i28⟩ : D.Cur) xs24 2 → JoinP (σ := Bool × Int × Int × Unit) (fun J64 => (M.spec_l01Once_pre (⟨s0.b, r53.2.i, r53.2.h⟩ : D.Cur) 6 ∧ ∀ r67, r67 = M.spec_l01Once (⟨s0.b, r53.2.i, r53.2.h⟩ : D.Cur) 6 → bcase r67.1 (J64 ((decide (((r53.1.length : Nat) : Int) > 1)), r67.2.i, r67.2.h, ())) (J64 (false, r67.2.i, r67.2.h, ())))) (fun (p89 : Bool × Int × Int × Unit) => match p89 with | (b61, i62, i63, _) => bcase b61 ((M.spec_l01Below_pre (⟨s0.b, i62, i63⟩ : D.Cur) ((r53.1.length : Nat) : Int) ∧ ∀ r74, r74 = M.spec_l01Below (⟨s0.b, i62, i63⟩ : D.Cur) ((r53.1.length : Nat) : Int) → ((0 ≤ r74.1 ∧ r74.1 < ((r53.1.length : Nat) : Int)) ∧ Q ((List.set r53.1 (r74.1.toNat) (⟨12, 0, 0, 0⟩ : D.Ins)), (⟨s0.b, r74.2.i, r74.2.h⟩ : D.Cur))))) (Q (r53.1, (⟨s0.b, i62, i63⟩ : D.Cur))))))
end Go.V
set_option linter.unusedVariables false
set_option linter.unusedSimpArgs false
set_option maxRecDepth 20000
namespace Go.V
def plainI (i : D.Ins) : Bool := M.isIn i.Op 1 9 && M.insOk i 32
inductive Seg : Nat → List D.Ins → Prop
  | nil (b : Nat) : Seg b []
  | cat {b : Nat} {s t : List D.Ins} : Seg b s → Seg (b + s.length) t → Seg b (s ++ t)
  | one {b : Nat} {i : D.Ins} : plainI i = true → Seg b [i]
  | thn {b : Nat} {r : Int} {s : List D.Ins} : 0 ≤ r → r ≤ 3 → Seg (b + 1) s → Seg b (⟨10, r, ((b + 1 + s.length : Nat) : Int), 0⟩ :: s)
  | els {b : Nat} {r : Int} {s t : List D.Ins} : 0 ≤ r → r ≤ 3 → Seg (b + 1) s → Seg (b + 2 + s.length) t → Seg b (⟨10, r, ((b + 2 + s.length : Nat) : Int), 0⟩ :: (s ++ ⟨11, 0, ((b + 2 + s.length + t.length : Nat) : Int), 0⟩ :: t))
  | loop {b : Nat} : b ≤ 14 → Seg b [⟨8, 3, 0, 0⟩, ⟨10, 3, ((b + 6 : Nat) : Int), 0⟩, ⟨3, 0, 0, 1⟩, ⟨1, 2, 1, 0⟩, ⟨4, 3, 3, 2⟩, ⟨11, 0, ((b + 1 : Nat) : Int), 0⟩]
theorem plainI_ok {i : D.Ins} (h : plainI i = true) {n : Int} (hn : 0 ≤ n ∧ n ≤ 32) : M.insOk i n = true ∧ M.isLocal i = true := by
  unfold plainI at h
  rw [Bool.and_eq_true] at h
  obtain ⟨h1, h2⟩ := h
  have h1' := h1
  simp only [M.isIn, Bool.and_eq_true, decide_eq_true_eq] at h1'
  refine ⟨?_, by simp only [M.isLocal, M.isIn, Bool.and_eq_true, decide_eq_true_eq]; omega⟩
  have e : M.isIn n 0 32 = true := by simp only [M.isIn, Bool.and_eq_true, decide_eq_true_eq]; omega
  have e32 : M.isIn 32 0 32 = true := by decide
  unfold M.insOk at h2 ⊢
  rw [e, Bool.true_and]
  rw [e32, Bool.true_and] at h2
  rw [if_neg (by omega : ¬ i.Op = 10), if_neg (by omega : ¬ i.Op = 11)] at h2 ⊢
  exact h2
theorem seg_ok {b : Nat} {s : List D.Ins} (h : Seg b s) : ∀ n : Nat, b + s.length ≤ n → n ≤ 32 → ∀ i ∈ s, M.insOk i (n : Int) = true ∧ M.isLocal i = true := by
  have br : ∀ (n : Nat) (r : Int) (t : Nat), 0 ≤ r → r ≤ 3 → t ≤ n → n ≤ 32 → M.insOk ⟨10, r, ((t : Nat) : Int), 0⟩ (n : Int) = true ∧ M.isLocal ⟨10, r, ((t : Nat) : Int), 0⟩ = true := fun n r t h0 h1 h2 h3 => by
    refine ⟨?_, rfl⟩
    simp only [M.insOk, M.isReg, M.isIn, Bool.and_eq_true, decide_eq_true_eq]
    simp
    omega
  have jm : ∀ (n t : Nat), t ≤ n → n ≤ 32 → M.insOk ⟨11, 0, ((t : Nat) : Int), 0⟩ (n : Int) = true ∧ M.isLocal ⟨11, 0, ((t : Nat) : Int), 0⟩ = true := fun n t h2 h3 => by
    refine ⟨?_, rfl⟩
    simp only [M.insOk, M.isReg, M.isIn, Bool.and_eq_true, decide_eq_true_eq]
    simp
    omega
  have pl : ∀ (n : Nat) (i : D.Ins), plainI i = true → n ≤ 32 → M.insOk i (n : Int) = true ∧ M.isLocal i = true := fun n i hi hn => plainI_ok hi ⟨by omega, by omega⟩
  induction h with
  | nil b => intro n _ _ i hi; simp at hi
  | cat _ _ ih1 ih2 =>
    intro n hn h32 i hi
    rw [List.length_append] at hn
    rcases List.mem_append.1 hi with hi | hi
    · exact ih1 n (by omega) h32 i hi
    · exact ih2 n (by omega) h32 i hi
  | one hp => intro n hn h32 i hi; rw [List.mem_singleton] at hi; subst hi; exact pl n _ hp h32
  | thn h0 h3 _ ih =>
    intro n hn h32 i hi
    rw [List.length_cons] at hn
    rcases List.mem_cons.1 hi with hi | hi
    · subst hi; exact br n _ _ h0 h3 (by omega) h32
    · exact ih n (by omega) h32 i hi
  | els h0 h3 _ _ ih1 ih2 =>
    intro n hn h32 i hi
    rw [List.length_cons, List.length_append, List.length_cons] at hn
    rcases List.mem_cons.1 hi with hi | hi
    · subst hi; exact br n _ _ h0 h3 (by omega) h32
    rcases List.mem_append.1 hi with hi | hi
    · exact ih1 n (by omega) h32 i hi
    rcases List.mem_cons.1 hi with hi | hi
    · subst hi; exact jm n _ (by omega) h32
    · exact ih2 n (by omega) h32 i hi
  | loop hb =>
    intro n hn h32 i hi
    simp only [List.length_cons, List.length_nil] at hn
    simp only [List.mem_cons, List.not_mem_nil, or_false] at hi
    rcases hi with hi | hi | hi | hi | hi | hi <;> subst hi
    · exact pl n _ rfl h32
    · exact br n _ _ (by omega) (by omega) (by omega) h32
    · exact pl n _ rfl h32
    · exact pl n _ rfl h32
    · exact pl n _ rfl h32
    · exact jm n _ (by omega) h32
theorem plain_plainI (c : D.Cur) : plainI (M.spec_l04Plain c).1 = true := by
  unfold plainI
  rw [(plain_good c (n := 32) ⟨by omega, by omega⟩).1, Bool.and_true]
  have h := below_in c (n := 9) (by omega)
  have e : IntKind.wrap .i64 (1 + (M.spec_l01Below c 9).1) = 1 + (M.spec_l01Below c 9).1 := w64 (by omega) (by omega)
  have : (M.spec_l04Plain c).1.Op = 1 + (M.spec_l01Below c 9).1 := by
    unfold M.spec_l04Plain
    simp only
    rw [e]
    split
    · rfl
    split
    · rfl
    split <;> rfl
  rw [this]
  simp only [M.isIn, Bool.and_eq_true, decide_eq_true_eq]
  omega
theorem once_b (c : D.Cur) (n : Int) : (M.once c n).2.b = c.b := below_b c n
theorem once_ok {c : D.Cur} (h : M.CurOk c) (n : Int) : M.CurOk (M.once c n).2 := below_ok h n
theorem set_at {p s : List D.Ins} {x y : D.Ins} : (p ++ x :: s).set p.length y = p ++ y :: s := by
  rw [List.set_append_right _ _ (Nat.le_refl _), Nat.sub_self]; rfl
theorem setB_at {p s : List D.Ins} {x : D.Ins} {k : Nat} (hk : p.length = k) (v : Int) : M.setB (p ++ x :: s) k v = p ++ ⟨x.Op, x.A, v, x.C⟩ :: s := by
  subst hk
  unfold M.setB
  rw [rd_app rfl, set_at]
def Grows (L : Nat) (rec : D.Cur → List D.Ins → List D.Ins × D.Cur) : Prop :=
  ∀ (c : D.Cur) (p : List D.Ins), M.CurOk c → M.CurOk (rec c p).2 ∧ (rec c p).2.b = c.b ∧ ∃ s, (rec c p).1 = p ++ s ∧ Seg p.length s ∧ p.length + s.length ≤ max p.length L
theorem countLoop_seg (p : List D.Ins) : M.countLoop p = p ++ [⟨8, 3, 0, 0⟩, ⟨10, 3, ((p.length + 6 : Nat) : Int), 0⟩, ⟨3, 0, 0, 1⟩, ⟨1, 2, 1, 0⟩, ⟨4, 3, 3, 2⟩, ⟨11, 0, ((p.length + 1 : Nat) : Int), 0⟩] := by
  have e : M.loopAll p = (p ++ [⟨8, 3, 0, 0⟩]) ++ (⟨10, 3, 0, 0⟩ : D.Ins) :: [⟨3, 0, 0, 1⟩, ⟨1, 2, 1, 0⟩, ⟨4, 3, 3, 2⟩, ⟨11, 0, ((p.length + 1 : Nat) : Int), 0⟩] := by
    unfold M.loopAll M.loopHead; simp
  have l1 : (M.loopHead p).length = (p ++ [(⟨8, 3, 0, 0⟩ : D.Ins)]).length := rfl
  have l2 : (M.loopAll p).length = p.length + 6 := by rw [e]; simp
  unfold M.countLoop
  rw [l2, e, setB_at l1.symm]
  simp
theorem ifIn_grows {L : Nat} {rec : D.Cur → List D.Ins → List D.Ins × D.Cur} (hr : Grows L rec) (hL : 20 ≤ L) {c : D.Cur} (hc : M.CurOk c) {p : List D.Ins} (hp : p.length < 20) :
    M.CurOk (M.ifIn rec c p).2 ∧ (M.ifIn rec c p).2.b = c.b ∧ ∃ s, (M.ifIn rec c p).1 = p ++ s ∧ Seg p.length s ∧ p.length + s.length ≤ L + 1 := by
  have hreg := below_in c (n := 4) (by omega)
  have c1 := below_ok hc 4
  have b1 := below_b c 4
  obtain ⟨c2, b2, s1, e1, g1, n1⟩ := hr (M.spec_l01Below c 4).2 (p ++ [⟨10, (M.spec_l01Below c 4).1, 0, 0⟩]) c1
  have hb1 : M.branchIn rec c p = rec (M.spec_l01Below c 4).2 (p ++ [⟨10, (M.spec_l01Below c 4).1, 0, 0⟩]) := rfl
  rw [← hb1] at c2 b2 e1
  rw [List.length_append, List.length_singleton] at g1 n1
  have e1' : (M.branchIn rec c p).1 = p ++ ⟨10, (M.spec_l01Below c 4).1, 0, 0⟩ :: s1 := by rw [e1]; simp
  have l1 : (M.branchIn rec c p).1.length = p.length + 1 + s1.length := by rw [e1']; simp; omega
  have c3 := once_ok c2 2
  have b3 := once_b (M.branchIn rec c p).2 2
  unfold M.ifIn
  split
  · refine ⟨c3, by rw [b3, b2, b1], _, ?_, Seg.thn (r := (M.spec_l01Below c 4).1) (by omega) (by omega) g1, ?_⟩
    · show M.setB _ _ _ = _
      rw [l1, e1', setB_at rfl]
    · rw [List.length_cons]; omega
  · have e2 : M.setB ((M.branchIn rec c p).1 ++ [⟨11, 0, 0, 0⟩]) p.length ((((M.branchIn rec c p).1 ++ [(⟨11, 0, 0, 0⟩ : D.Ins)]).length : Nat) : Int) = p ++ ⟨10, (M.spec_l01Below c 4).1, ((p.length + 2 + s1.length : Nat) : Int), 0⟩ :: (s1 ++ [⟨11, 0, 0, 0⟩]) := by
      rw [List.length_append, List.length_singleton, l1, e1', List.append_assoc, List.cons_append, setB_at rfl]
      congr 4
      omega
    obtain ⟨c4, b4, s2, e3, g2, n2⟩ := hr (M.once (M.branchIn rec c p).2 2).2 (p ++ ⟨10, (M.spec_l01Below c 4).1, ((p.length + 2 + s1.length : Nat) : Int), 0⟩ :: (s1 ++ [⟨11, 0, 0, 0⟩])) c3
    have hb2 : M.elseIn rec (M.once (M.branchIn rec c p).2 2).2 p (M.branchIn rec c p).1 = rec (M.once (M.branchIn rec c p).2 2).2 (p ++ ⟨10, (M.spec_l01Below c 4).1, ((p.length + 2 + s1.length : Nat) : Int), 0⟩ :: (s1 ++ [⟨11, 0, 0, 0⟩])) := by
      unfold M.elseIn; rw [e2]
    rw [← hb2] at c4 b4 e3
    have lq : (p ++ ⟨10, (M.spec_l01Below c 4).1, ((p.length + 2 + s1.length : Nat) : Int), 0⟩ :: (s1 ++ [(⟨11, 0, 0, 0⟩ : D.Ins)])).length = p.length + 2 + s1.length := by simp; omega
    rw [lq] at g2 n2
    have e3' : (M.elseIn rec (M.once (M.branchIn rec c p).2 2).2 p (M.branchIn rec c p).1).1 = (p ++ ⟨10, (M.spec_l01Below c 4).1, ((p.length + 2 + s1.length : Nat) : Int), 0⟩ :: s1) ++ ⟨11, 0, 0, 0⟩ :: s2 := by rw [e3]; simp
    have l3 : (M.elseIn rec (M.once (M.branchIn rec c p).2 2).2 p (M.branchIn rec c p).1).1.length = p.length + 2 + s1.length + s2.length := by rw [e3']; simp; omega
    refine ⟨c4, by rw [b4, b3, b2, b1], _, ?_, Seg.els (r := (M.spec_l01Below c 4).1) (by omega) (by omega) g1 g2, ?_⟩
    · show M.setB _ _ _ = _
      rw [l3, l1, e3', setB_at (by simp; omega)]
      simp
    · rw [List.length_cons, List.length_append, List.length_cons]; omega
theorem one_grows {L : Nat} {rec : D.Cur → List D.Ins → List D.Ins × D.Cur} (hr : Grows L rec) (hL : 20 ≤ L) (deep : Bool) {c : D.Cur} (hc : M.CurOk c) {p : List D.Ins} (hp : p.length < 20) :
    M.CurOk (M.bodyOne rec deep c p).2 ∧ (M.bodyOne rec deep c p).2.b = c.b ∧ ∃ s, (M.bodyOne rec deep c p).1 = p ++ s ∧ Seg p.length s ∧ p.length + s.length ≤ if deep then L + 1 else 20 := by
  have c1 := below_ok hc 5
  have b1 := below_b c 5
  obtain ⟨B, hB, hB1, hB2⟩ : ∃ B, (if deep then L + 1 else 20) = B ∧ 20 ≤ B ∧ (deep = true → B = L + 1) := ⟨_, rfl, by split <;> omega, fun h => if_pos h⟩
  rw [hB]
  have same : M.CurOk (M.spec_l01Below c 5).2 ∧ (M.spec_l01Below c 5).2.b = c.b ∧ ∃ s, p = p ++ s ∧ Seg p.length s ∧ p.length + s.length ≤ B :=
    ⟨c1, b1, [], by simp, Seg.nil _, by simp only [List.length_nil]; omega⟩
  unfold M.bodyOne
  split
  · split
    · rename_i hd
      obtain ⟨g1, g2, s, g3, g4, g5⟩ := ifIn_grows hr hL c1 hp
      exact ⟨g1, by rw [g2, b1], s, g3, g4, by rw [hB2 hd]; exact g5⟩
    · exact same
  split
  · split
    · rename_i hd
      refine ⟨c1, b1, _, countLoop_seg p, Seg.loop (by omega), ?_⟩
      have := hB2 hd.1
      simp only [List.length_cons, List.length_nil]
      omega
    · exact same
  · refine ⟨plain_ok c1, by rw [plain_b, b1], _, rfl, Seg.one (plain_plainI _), ?_⟩
    simp only [List.length_cons, List.length_nil]
    omega
theorem bodyN_grows {L : Nat} {rec : D.Cur → List D.Ins → List D.Ins × D.Cur} (hr : Grows L rec) (hL : 20 ≤ L) (deep : Bool) : ∀ n, Grows (if deep then L + 1 else 20) (M.bodyN rec deep n)
  | 0, c, p, hc => ⟨hc, rfl, [], by simp [M.bodyN], Seg.nil _, by simp only [List.length_nil]; omega⟩
  | n + 1, c, p, hc => by
    rw [M.bodyN]
    split
    · rename_i hp
      obtain ⟨g1, g2, s, g3, g4, g5⟩ := one_grows hr hL deep hc (p := p) (by omega)
      obtain ⟨k1, k2, t, k3, k4, k5⟩ := bodyN_grows hr hL deep n (M.bodyOne rec deep c p).2 (M.bodyOne rec deep c p).1 g1
      rw [g3, List.length_append] at k4 k5
      refine ⟨k1, by rw [k2, g2], s ++ t, by rw [k3, g3, List.append_assoc], Seg.cat g4 k4, ?_⟩
      rw [List.length_append]
      have : p.length ≤ if deep = true then L + 1 else 20 := by split <;> omega
      omega
    · exact ⟨hc, rfl, [], by simp, Seg.nil _, by simp only [List.length_nil]; omega⟩
theorem grows_mono {L K : Nat} {rec : D.Cur → List D.Ins → List D.Ins × D.Cur} (h : Grows L rec) (hk : L ≤ K) : Grows K rec := fun c p hc => by
  obtain ⟨g1, g2, s, g3, g4, g5⟩ := h c p hc
  exact ⟨g1, g2, s, g3, g4, by omega⟩
theorem grows_id : Grows 20 (fun c p => (p, c)) := fun c p hc => ⟨hc, rfl, [], by simp, Seg.nil _, by simp only [List.length_nil]; omega⟩
theorem body_grows : ∀ d, Grows (20 + d) (M.body d)
  | 0, c, p, hc => by
    obtain ⟨g1, g2, r⟩ := bodyN_grows grows_id (Nat.le_refl _) false (M.spec_l01Below c 4).1.toNat (M.spec_l01Below c 4).2 p (below_ok hc 4)
    exact ⟨g1, g2.trans (below_b c 4), r⟩
  | d + 1, c, p, hc => by
    obtain ⟨g1, g2, r⟩ := bodyN_grows (body_grows d) (by omega) true (M.spec_l01Below c 4).1.toNat (M.spec_l01Below c 4).2 p (below_ok hc 4)
    exact ⟨g1, g2.trans (below_b c 4), r⟩
end Go.V
set_option linter.unusedVariables false
set_option linter.unusedVariables false
set_option linter.unusedSimpArgs false
set_option maxRecDepth 20000
set_option linter.unusedVariables false
set_option linter.unusedSimpArgs false
set_option maxRecDepth 20000
namespace Go.V
theorem wp.spec_l01Once.math (c : D.Cur) (n : Int) (h : M.spec_l01Once_pre c n) : wp.spec_l01Once c n (fun r => r = M.spec_l01Once c n) := by
  refine ⟨h, fun r hr => ?_⟩
  rw [hr, cur_eta (below_b c n)]; rfl
theorem spec_l05Body.dec {c : D.Cur} {p : List D.Ins} {x : Int} (h : M.spec_l05Body_pre c p x) (e : (x == 0) = false) : (IntKind.wrap .i64 (x - 1)).toNat < x.toNat := by
  obtain ⟨_, _, h3, h4⟩ := h
  have e : x ≠ 0 := by simpa using e
  rw [w64 (by omega) (by omega)]; omega
def itB (rec : D.Cur → List D.Ins → List D.Ins × D.Cur) (deep : Bool) : Nat → D.Cur → List D.Ins → List D.Ins × D.Cur
  | 0, c, p => (p, c)
  | k + 1, c, p => M.bodyOne rec deep (itB rec deep k c p).2 (itB rec deep k c p).1
def recOf : Nat → D.Cur → List D.Ins → List D.Ins × D.Cur
  | 0 => fun c p => (p, c)
  | d + 1 => M.body d
def deepOf : Nat → Bool
  | 0 => false
  | _ + 1 => true
theorem body_eq (d : Nat) (c : D.Cur) (p : List D.Ins) : M.body d c p = M.bodyN (recOf d) (deepOf d) (M.spec_l01Below c 4).1.toNat (M.spec_l01Below c 4).2 p := by cases d <;> rfl
theorem recOf_grows : ∀ d, Grows (20 + d) (recOf d)
  | 0 => grows_id
  | d + 1 => grows_mono (body_grows d) (by omega)
theorem wp.spec_l05Body.math (c : D.Cur) (p : List D.Ins) (x : Int) (h : M.spec_l05Body_pre c p x) : wp.spec_l05Body c p x (fun r => r = M.spec_l05Body c p x) := by
  obtain ⟨h1, h2, h3, h4⟩ := h
  obtain ⟨d, rfl⟩ := Int.eq_ofNat_of_zero_le h3
  unfold wp.spec_l05Body
  refine ⟨h1, fun r0 g0 => ?_⟩
  subst g0
  have hb := below_in c (n := 4) (by omega)
  have hc0 := below_ok h1 4
  have hb0 := below_b c 4
  have eM : M.spec_l05Body c p (d : Int) = M.bodyN (recOf d) (deepOf d) (M.spec_l01Below c 4).1.toNat (M.spec_l01Below c 4).2 p := by
    unfold M.spec_l05Body
    rw [Int.toNat_natCast, body_eq]
  rw [eM]
  obtain ⟨n, hn⟩ := Int.eq_ofNat_of_zero_le hb.1
  generalize (M.spec_l01Below c 4).2 = c0 at *
  rw [hn] at hb ⊢
  rw [Int.toNat_natCast]
  refine loop_n n (fun k => ((itB (recOf d) (deepOf d) k c0 p).1, ((n : Int) - (k : Int)), (itB (recOf d) (deepOf d) k c0 p).2.i, (itB (recOf d) (deepOf d) k c0 p).2.h, ()))
    (fun k => M.CurOk (itB (recOf d) (deepOf d) k c0 p).2 ∧ (itB (recOf d) (deepOf d) k c0 p).2.b = c.b ∧ (k ≤ n → M.bodyN (recOf d) (deepOf d) n c0 p = M.bodyN (recOf d) (deepOf d) (n - k) (itB (recOf d) (deepOf d) k c0 p).2 (itB (recOf d) (deepOf d) k c0 p).1))
    (by simp [itB]) ⟨hc0, hb0, fun _ => rfl⟩ (fun k hk hF next hnx => ?_) fun hF next => ?_
  · obtain ⟨f1, f2, f3⟩ := hF
    have f3 := f3 (by omega)
    have it : itB (recOf d) (deepOf d) (k + 1) c0 p = M.bodyOne (recOf d) (deepOf d) (itB (recOf d) (deepOf d) k c0 p).2 (itB (recOf d) (deepOf d) k c0 p).1 := rfl
    rw [it] at hnx
    generalize itB (recOf d) (deepOf d) k c0 p = y at *
    obtain ⟨q, e⟩ := y
    dsimp only at *
    refine bcase_t (by simp; omega) (bcase_mk (fun g => ?_) fun g => ?_)
    · have g : ((q.length : Nat) : Int) < 20 := by simpa using g
      obtain ⟨k1, k2, s, k3, k4, k5⟩ := one_grows (recOf_grows d) (by omega) (deepOf d) f1 (p := q) (by omega)
      have ew : IntKind.wrap .i64 ((n : Int) - (k : Int) - 1) = (n : Int) - ((k + 1 : Nat) : Int) := by rw [w64 (by omega) (by omega)]; omega
      have fin : ∀ P c', M.bodyOne (recOf d) (deepOf d) e q = (P, c') → next (P, IntKind.wrap .i64 ((n : Int) - (k : Int) - 1), c'.i, c'.h, ()) := fun P c' hE => by
        rw [ew]
        have := hnx ⟨k1, k2.trans f2, fun _ => ?_⟩
        · rw [hE] at this; exact this
        · rw [f3, show n - k = (n - (k + 1)) + 1 by omega, M.bodyN, if_pos g]
      rw [cur_eta f2]
      refine ⟨f1, fun r5 g5 => ?_⟩
      subst g5
      have c5 := below_ok f1 5
      have b5 : (M.spec_l01Below e 5).2.b = c.b := (below_b e 5).trans f2
      rw [cur_eta b5]
      have hb5 := below_in e (n := 5) (by omega)
      refine bcase_mk (fun e0 => ?_) fun e0 => bcase_mk (fun e1 => ?_) fun e1 => ?_
      · have e0 : (M.spec_l01Below e 5).1 = 0 := by simpa using e0
        cases d with
        | zero =>
          refine bcase_t rfl (fin _ _ ?_)
          unfold M.bodyOne
          rw [if_pos e0]; rfl
        | succ d =>
          refine bcase_f (by simp; omega) ?_
          have hM : M.bodyOne (recOf (d + 1)) (deepOf (d + 1)) e q = M.ifIn (M.body d) (M.spec_l01Below e 5).2 q := by
            unfold M.bodyOne
            rw [if_pos e0]; rfl
          rw [hM] at fin
          generalize (M.spec_l01Below e 5).2 = e5 at *
          refine ⟨c5, fun r6 g6 => ?_⟩
          subst g6
          have c6 := below_ok c5 4
          have b6 : (M.spec_l01Below e5 4).2.b = c.b := (below_b e5 4).trans b5
          have ed : IntKind.wrap .i64 (((d + 1 : Nat) : Int) - 1) = (d : Int) := by rw [w64 (by omega) (by omega)]; omega
          have hbody : ∀ c p, M.spec_l05Body c p (d : Int) = M.body d c p := fun c p => by unfold M.spec_l05Body; rw [Int.toNat_natCast]
          simp only [cur_eta b6, ed, hbody]
          obtain ⟨i1, i2, s1, i3, i4, i5⟩ := body_grows d (M.spec_l01Below e5 4).2 (q ++ [⟨10, (M.spec_l01Below e5 4).1, 0, 0⟩]) c6
          rw [List.length_append, List.length_singleton] at i5
          refine ⟨by simp; omega, ⟨c6, by simp; omega, by omega, by omega⟩, fun r7 g7 => ?_⟩
          have hbr : M.branchIn (M.body d) e5 q = M.body d (M.spec_l01Below e5 4).2 (q ++ [⟨10, (M.spec_l01Below e5 4).1, 0, 0⟩]) := rfl
          rw [← g7] at hbr i1 i2 i3
          have hE : M.ifIn (M.body d) e5 q = if (M.once r7.2 2).1 then (M.setB r7.1 q.length ((r7.1.length : Nat) : Int), (M.once r7.2 2).2)
              else (M.setB (M.elseIn (M.body d) (M.once r7.2 2).2 q r7.1).1 r7.1.length (((M.elseIn (M.body d) (M.once r7.2 2).2 q r7.1).1.length : Nat) : Int), (M.elseIn (M.body d) (M.once r7.2 2).2 q r7.1).2) := by
            unfold M.ifIn; rw [hbr]
          rw [hE] at fin
          have b7 : r7.2.b = c.b := i2.trans b6
          have l7 : r7.1.length = q.length + 1 + s1.length := by rw [i3]; simp; omega
          rw [cur_eta b7]
          refine ⟨i1, fun r8 g8 => ?_⟩
          have g8 : r8 = M.once r7.2 2 := g8
          rw [← g8] at fin
          have c8 : M.CurOk r8.2 := by rw [g8]; exact once_ok i1 2
          have b8 : r8.2.b = c.b := by rw [g8]; exact (once_b _ _).trans b7
          refine bcase_mk (fun t => ⟨by omega, ?_⟩) fun t => ⟨by simp; omega, by simp; omega, ?_⟩
          · refine fin _ _ ?_
            rw [if_pos t, Int.toNat_natCast]; rfl
          · rw [if_neg (by rw [t]; simp)] at fin
            simp only [cur_eta b8]
            have hel : M.elseIn (M.body d) r8.2 q r7.1 = M.body d r8.2 (List.set (r7.1 ++ [(⟨11, 0, 0, 0⟩ : D.Ins)]) (((q.length : Nat) : Int).toNat) (⟨(rd (r7.1 ++ [(⟨11, 0, 0, 0⟩ : D.Ins)]) ((q.length : Nat) : Int)).Op, (rd (r7.1 ++ [(⟨11, 0, 0, 0⟩ : D.Ins)]) ((q.length : Nat) : Int)).A, (((r7.1 ++ [(⟨11, 0, 0, 0⟩ : D.Ins)]).length : Nat) : Int), (rd (r7.1 ++ [(⟨11, 0, 0, 0⟩ : D.Ins)]) ((q.length : Nat) : Int)).C⟩ : D.Ins)) := by
              rw [Int.toNat_natCast]; rfl
            obtain ⟨j1, j2, s2, j3, j4, j5⟩ := body_grows d r8.2 (List.set (r7.1 ++ [(⟨11, 0, 0, 0⟩ : D.Ins)]) (((q.length : Nat) : Int).toNat) (⟨(rd (r7.1 ++ [(⟨11, 0, 0, 0⟩ : D.Ins)]) ((q.length : Nat) : Int)).Op, (rd (r7.1 ++ [(⟨11, 0, 0, 0⟩ : D.Ins)]) ((q.length : Nat) : Int)).A, (((r7.1 ++ [(⟨11, 0, 0, 0⟩ : D.Ins)]).length : Nat) : Int), (rd (r7.1 ++ [(⟨11, 0, 0, 0⟩ : D.Ins)]) ((q.length : Nat) : Int)).C⟩ : D.Ins)) c8
            refine ⟨⟨c8, by simp; omega, by omega, by omega⟩, fun r9 g9 => ?_⟩
            rw [← hel] at g9 j3
            rw [← g9] at fin j3
            refine ⟨?_, ?_⟩
            · have : r9.1.length = r7.1.length + 1 + s2.length := by rw [j3, List.length_append, List.length_set, List.length_append]; rfl
              omega
            · refine fin _ _ ?_
              rw [Int.toNat_natCast]; rfl
      · have e0 : ¬ (M.spec_l01Below e 5).1 = 0 := by simpa using e0
        have e1 : (M.spec_l01Below e 5).1 = 1 := by simpa using e1
        have hM : M.bodyOne (recOf d) (deepOf d) e q = if deepOf d ∧ ¬ ((q.length : Nat) : Int) > 14 then (M.countLoop q, (M.spec_l01Below e 5).2) else (q, (M.spec_l01Below e 5).2) := by
          unfold M.bodyOne
          rw [if_neg e0, if_pos e1]
        rw [hM] at fin
        cases d with
        | zero =>
          refine bcase_t rfl (fin _ _ ?_)
          rw [if_neg (by simp [deepOf])]
        | succ d =>
          refine bcase_f (by simp; omega) (bcase_mk (fun g14 => fin _ _ ?_) fun g14 => ?_)
          · have g14 : ((q.length : Nat) : Int) > 14 := by simpa using g14
            rw [if_neg (by simp only [not_and, Int.not_lt]; omega)]
          · have g14 : ¬ ((q.length : Nat) : Int) > 14 := by simpa using g14
            refine ⟨by simp; omega, by simp; omega, by simp; omega, by simp; omega, by simp; omega, fin _ _ ?_⟩
            rw [if_pos ⟨rfl, g14⟩, Int.toNat_natCast]; rfl
      · have e0 : ¬ (M.spec_l01Below e 5).1 = 0 := by simpa using e0
        have e1 : ¬ (M.spec_l01Below e 5).1 = 1 := by simpa using e1
        refine ⟨c5, fun r6 g6 => ⟨by simp; omega, fin _ _ ?_⟩⟩
        unfold M.bodyOne
        rw [if_neg e0, if_neg e1, g6]
    · have g : ¬ ((q.length : Nat) : Int) < 20 := by simpa using g
      rw [f3, show n - k = (n - (k + 1)) + 1 by omega, M.bodyN, if_neg g, cur_eta f2]
  · obtain ⟨f1, f2, f3⟩ := hF
    refine bcase_f (by simp) ?_
    rw [f3 (Nat.le_refl _), Nat.sub_self, cur_eta f2]; rfl
theorem startQ_good {c : D.Cur} (h : M.CurOk c) : M.CurOk (M.startQ c).2 ∧ (M.startQ c).2.b = c.b ∧ (M.startQ c).1.length ≤ 1 ∧ Seg 0 (M.startQ c).1 := by
  have h1 := once_ok h 4
  have b1 := once_b c 4
  have hr := below_in (M.once c 4).2 (n := 2) (by omega)
  unfold M.startQ
  split
  · exact ⟨h1, b1, by simp, Seg.nil _⟩
  · refine ⟨below_ok h1 _, (below_b _ _).trans b1, by simp, Seg.one ?_⟩
    simp only [plainI, M.insOk, M.isReg, M.isIn, Bool.and_eq_true, decide_eq_true_eq]
    simp
    omega
theorem bodyQ_good {c : D.Cur} (h : M.CurOk c) : M.CurOk (M.bodyQ c).2 ∧ (M.bodyQ c).2.b = c.b ∧ Seg 0 (M.bodyQ c).1 ∧ (M.bodyQ c).1.length ≤ 22 := by
  obtain ⟨h1, h2, h3, h4⟩ := startQ_good h
  obtain ⟨g1, g2, s, g3, g4, g5⟩ := body_grows 2 (M.startQ c).2 (M.startQ c).1 h1
  have e : M.bodyQ c = M.body 2 (M.startQ c).2 (M.startQ c).1 := rfl
  rw [← e] at g1 g2 g3
  refine ⟨g1, g2.trans h2, ?_, ?_⟩
  · rw [g3]
    exact Seg.cat h4 (by rw [Nat.zero_add]; exact g4)
  · rw [g3, List.length_append]; omega
theorem quiet_draw {c : D.Cur} (h : M.CurOk c) : M.CurOk (M.spec_l05Quiet c).2 ∧ (M.spec_l05Quiet c).2.b = c.b ∧ ∃ s, Seg 0 s ∧ s.length ≤ 22 ∧ ((M.spec_l05Quiet c).1 = s ∨ ∃ k, k < s.length ∧ (M.spec_l05Quiet c).1 = s.set k ⟨12, 0, 0, 0⟩) := by
  obtain ⟨h1, h2, h3, h4⟩ := bodyQ_good h
  have c1 := once_ok h1 6
  have b1 := once_b (M.bodyQ c).2 6
  unfold M.spec_l05Quiet
  split
  · rename_i hc
    simp only [Bool.and_eq_true, decide_eq_true_eq] at hc
    have hr := below_in (M.once (M.bodyQ c).2 6).2 (n := (((M.bodyQ c).1.length : Nat) : Int)) (by omega)
    exact ⟨below_ok c1 _, (below_b _ _).trans (b1.trans h2), _, h3, h4, .inr ⟨_, by omega, rfl⟩⟩
  · exact ⟨c1, b1.trans h2, _, h3, h4, .inl rfl⟩
theorem seg_quiet {s p : List D.Ins} (h : Seg 0 s) (hl : s.length ≤ 32) (hp : p = s ∨ ∃ k, k < s.length ∧ p = s.set k ⟨12, 0, 0, 0⟩) : M.isQuiet p = true ∧ p.length = s.length := by
  have hlen : p.length = s.length := by rcases hp with rfl | ⟨k, hk, rfl⟩ <;> simp
  have hall : ∀ i ∈ p, M.insOk i (p.length : Int) = true ∧ M.isLocal i = true := by
    intro i hi
    rw [hlen]
    have hs := seg_ok h s.length (by omega) hl
    rcases hp with rfl | ⟨k, hk, rfl⟩
    · exact hs i hi
    · rcases List.mem_or_eq_of_mem_set hi with hi | hi
      · exact hs i hi
      · subst hi
        refine ⟨?_, rfl⟩
        simp only [M.insOk, M.isReg, M.isIn, Bool.and_eq_true, decide_eq_true_eq]
        simp
        omega
  refine ⟨?_, hlen⟩
  unfold M.isQuiet M.programOk
  rw [Bool.and_eq_true, Bool.and_eq_true, List.all_eq_true, List.all_eq_true, decide_eq_true_eq]
  exact ⟨⟨by omega, fun i hi => (hall i hi).1⟩, fun i hi => (hall i hi).2⟩
theorem quiet_good {c : D.Cur} (h : M.CurOk c) : M.isQuiet (M.spec_l05Quiet c).1 = true ∧ (M.spec_l05Quiet c).1.length ≤ 22 := by
  obtain ⟨h1, h2, s, h3, h4, h5⟩ := quiet_draw h
  obtain ⟨g1, g2⟩ := seg_quiet h3 (by omega) h5
  exact ⟨g1, by omega⟩
theorem wp.spec_l05Quiet.math (c : D.Cur) (h : M.spec_l05Quiet_pre c) : wp.spec_l05Quiet c (fun r => r = M.spec_l05Quiet c) := by
  obtain ⟨s1, s2, s3, s4⟩ := startQ_good h
  obtain ⟨q1, q2, q3, q4⟩ := bodyQ_good h
  refine joinP_of ((M.startQ c).1, (M.startQ c).2.i, (M.startQ c).2.h, ()) ?_ fun J hJ => ⟨h, fun r hr => ?_⟩
  · dsimp only
    rw [cur_eta s2]
    refine ⟨⟨s1, by omega, by omega, by omega⟩, fun r hr => ?_⟩
    have hr : r = M.bodyQ c := hr
    subst hr
    have c1 := once_ok q1 6
    have b1 := (once_b (M.bodyQ c).2 6).trans q2
    refine joinP_of (((M.once (M.bodyQ c).2 6).1 && decide ((((M.bodyQ c).1.length : Nat) : Int) > 1)), (M.once (M.bodyQ c).2 6).2.i, (M.once (M.bodyQ c).2 6).2.h, ()) ?_ fun J hJ => ?_
    · dsimp only
      rw [cur_eta b1]
      refine bcase_mk (fun e => ⟨c1, fun r hr => ?_⟩) fun e => ?_
      · subst hr
        have e' := e
        simp only [Bool.and_eq_true, decide_eq_true_eq] at e'
        have hr := below_in (M.once (M.bodyQ c).2 6).2 (n := (((M.bodyQ c).1.length : Nat) : Int)) (by omega)
        refine ⟨hr, ?_⟩
        rw [cur_eta ((below_b _ _).trans b1)]
        unfold M.spec_l05Quiet
        rw [if_pos e]
      · unfold M.spec_l05Quiet
        rw [if_neg (by rw [e]; simp)]
    · rw [cur_eta q2]
      refine ⟨q1, fun r hr => ?_⟩
      have hr : r = M.once (M.bodyQ c).2 6 := hr
      subst hr
      refine bcase_mk (fun e => ?_) fun e => ?_
      · rw [e, Bool.true_and] at hJ; exact hJ
      · rw [e, Bool.false_and] at hJ; exact hJ
  · have hr : r = M.once c 4 := hr
    subst hr
    have b1 := once_b c 4
    unfold M.startQ at hJ
    refine bcase_mk (fun e => ?_) fun e => ?_
    · have e : (M.once c 4).1 = false := by simpa using e
      rw [if_neg (by rw [e]; simp)] at hJ
      rw [cur_eta b1]
      exact ⟨once_ok h 4, fun r hr => by subst hr; exact ⟨by simp, hJ⟩⟩
    · have e : (M.once c 4).1 = true := by simpa using e
      rw [if_pos e] at hJ
      exact hJ
theorem runW_stop (p : List D.Ins) (k : Nat) (x : D.Warp) (n : Int) (h : M.spec_l13Local p x = false) : M.runW p k x n = (x, n) := by
  cases k with
  | zero => rfl
  | succ k => simp only [M.runW]; rw [if_neg (by rw [h]; simp)]
end Go.V
set_option linter.unusedVariables false
set_option linter.unusedSimpArgs false
set_option maxRecDepth 20000
namespace Go.V
theorem has_check : ((List.range 256).all fun m => (List.range 8).all fun i => M.hasLane ((m : Nat) : Int) ((i : Nat) : Int) == m.testBit i) = true := by kernel_rfl
theorem has_bit {m i : Nat} (hm : m < 256) (hi : i < 8) : M.hasLane (m : Int) (i : Int) = m.testBit i := by
  have := List.all_eq_true.1 (List.all_eq_true.1 has_check m (List.mem_range.2 hm)) i (List.mem_range.2 hi)
  exact eq_of_beq this
theorem some_check : ((List.range 256).all fun m => m == 0 || (List.range 8).any fun i => M.hasLane ((m : Nat) : Int) ((i : Nat) : Int)) = true := by kernel_rfl
theorem mask_some {m : Int} (h : M.isMask m = true) (h0 : m ≠ 0) : ∃ i : Nat, i < 8 ∧ M.hasLane m (i : Int) = true := by
  obtain ⟨k, rfl, hk⟩ := isMask_nat h
  have := List.all_eq_true.1 some_check k (List.mem_range.2 hk)
  rw [Bool.or_eq_true, List.any_eq_true] at this
  rcases this with h1 | ⟨i, hi, h1⟩
  · have := eq_of_beq h1; omega
  · exact ⟨i, List.mem_range.1 hi, h1⟩
theorem mask_full {i : Nat} (hi : i < 8) : M.hasLane 255 (i : Int) = true := by
  have := has_bit (m := 255) (i := i) (by omega) hi
  rw [show ((255 : Nat) : Int) = 255 from rfl] at this
  rw [this, show 255 = 2 ^ 8 - 1 from rfl, Nat.testBit_two_pow_sub_one]
  simpa using hi
theorem mask_zero (i : Nat) (hi : i < 8) : M.hasLane 0 (i : Int) = false := by
  have := has_bit (m := 0) (i := i) (by omega) hi
  rw [show ((0 : Nat) : Int) = 0 from rfl] at this
  rw [this]; simp
theorem mask_ext {a b : Int} (ha : M.isMask a = true) (hb : M.isMask b = true) (h : ∀ i : Nat, i < 8 → M.hasLane a (i : Int) = M.hasLane b (i : Int)) : a = b := by
  obtain ⟨m, rfl, hm⟩ := isMask_nat ha
  obtain ⟨n, rfl, hn⟩ := isMask_nat hb
  have : m = n := by
    apply Nat.eq_of_testBit_eq
    intro i
    by_cases hi : i < 8
    · rw [← has_bit hm hi, ← has_bit hn hi, h i hi]
    · have h256 : 256 ≤ 2 ^ i := Nat.pow_le_pow_right (n := 2) (by decide) (show 8 ≤ i by omega)
      rw [Nat.testBit_lt_two_pow (Nat.lt_of_lt_of_le hm h256), Nat.testBit_lt_two_pow (Nat.lt_of_lt_of_le hn h256)]
  rw [this]
theorem bitAt_nat {k : Nat} (hk : k < 8) : M.bitAt (k : Int) = ((2 ^ k : Nat) : Int) := eq_of_beq (List.all_eq_true.1 bit_check k (List.mem_range.2 hk))
theorem zero_fold_has {x : D.Warp} {reg : Int} {i : Nat} (hi : i < 8) : ∀ (l : List Int), (∀ k ∈ l, 0 ≤ k ∧ k ≤ 7) → ∀ z : Nat, z < 256 →
    ∃ z' : Nat, l.foldl (M.zeroStep x reg) (z : Int) = (z' : Int) ∧ z' < 256 ∧ (z'.testBit i = true ↔ z.testBit i = true ∨ ((i : Int) ∈ l ∧ rd x.Regs ((i : Int) * 4 + reg) = 0))
  | [], _, z, hz => ⟨z, rfl, hz, by simp⟩
  | k :: l, hl, z, hz => by
    obtain ⟨h0, h7⟩ := hl k List.mem_cons_self
    obtain ⟨n, rfl⟩ := Int.eq_ofNat_of_zero_le h0
    simp only [List.foldl_cons]
    have hp : 2 ^ n < 256 := Nat.lt_of_lt_of_le (Nat.pow_lt_pow_right (by omega) (show n < 8 by omega)) (Nat.le_refl _)
    by_cases e : rd x.Regs ((n : Int) * 4 + reg) = 0
    · have hst : M.zeroStep x reg (z : Int) (n : Int) = ((z ||| 2 ^ n : Nat) : Int) := by
        unfold M.zeroStep
        rw [if_pos e, bitAt_nat (by omega), bitOr_nat hz hp]
      rw [hst]
      obtain ⟨z', g1, g2, g3⟩ := zero_fold_has hi l (fun k hk => hl k (List.mem_cons_of_mem _ hk)) _ (Nat.or_lt_two_pow (n := 8) hz hp)
      refine ⟨z', g1, g2, g3.trans ?_⟩
      rw [Nat.testBit_or, Bool.or_eq_true, Nat.testBit_two_pow, decide_eq_true_eq, List.mem_cons]
      constructor
      · rintro ((h | rfl) | ⟨h, h'⟩)
        · exact .inl h
        · exact .inr ⟨.inl rfl, e⟩
        · exact .inr ⟨.inr h, h'⟩
      · rintro (h | ⟨h | h, h'⟩)
        · exact .inl (.inl h)
        · exact .inl (.inr (by omega))
        · exact .inr ⟨h, h'⟩
    · have hst : M.zeroStep x reg (z : Int) (n : Int) = (z : Int) := by unfold M.zeroStep; rw [if_neg e]
      rw [hst]
      obtain ⟨z', g1, g2, g3⟩ := zero_fold_has hi l (fun k hk => hl k (List.mem_cons_of_mem _ hk)) z hz
      refine ⟨z', g1, g2, g3.trans ?_⟩
      rw [List.mem_cons]
      constructor
      · rintro (h | ⟨h, h'⟩)
        · exact .inl h
        · exact .inr ⟨.inr h, h'⟩
      · rintro (h | ⟨h | h, h'⟩)
        · exact .inl h
        · exact absurd (h ▸ h') e
        · exact .inr ⟨h, h'⟩
theorem lanesOf_mem {m : Int} {i : Nat} (hi : i < 8) : (i : Int) ∈ M.lanesOf m ↔ M.hasLane m (i : Int) = true := by
  unfold M.lanesOf
  rw [List.mem_filter]
  refine ⟨fun h => h.2, fun h => ⟨?_, h⟩⟩
  have : i = 0 ∨ i = 1 ∨ i = 2 ∨ i = 3 ∨ i = 4 ∨ i = 5 ∨ i = 6 ∨ i = 7 := by omega
  rcases this with rfl | rfl | rfl | rfl | rfl | rfl | rfl | rfl <;> decide
theorem zero_has {x : D.Warp} {reg : Int} {i : Nat} (hi : i < 8) : M.hasLane (M.zeroMask x reg) (i : Int) = true ↔ M.hasLane (M.activeMask x) (i : Int) = true ∧ rd x.Regs ((i : Int) * 4 + reg) = 0 := by
  obtain ⟨z', g1, g2, g3⟩ := zero_fold_has (x := x) (reg := reg) hi (M.lanesOf (M.activeMask x)) (fun k hk => lanes_in hk) 0 (by omega)
  unfold M.zeroMask
  rw [show (0 : Int) = ((0 : Nat) : Int) from rfl, g1, has_bit g2 hi, g3, lanesOf_mem hi]
  simp
theorem minus_has {x : D.Warp} {reg : Int} (h : M.isMask (M.activeMask x) = true) {i : Nat} (hi : i < 8) :
    M.hasLane (bitNot .i64 (M.activeMask x) (M.zeroMask x reg)) (i : Int) = true ↔ M.hasLane (M.activeMask x) (i : Int) = true ∧ ¬ M.hasLane (M.zeroMask x reg) (i : Int) = true := by
  obtain ⟨m, z, hm, hz, h1, h2, hs⟩ := zeroMask_sub (reg := reg) h
  rw [hm, hz, bitNot_nat h1 h2 hs]
  have hc := List.all_eq_true.1 (List.all_eq_true.1 sub_check m (List.mem_range.2 h1)) z (List.mem_range.2 h2)
  simp only [hs, BEq.rfl, Bool.not_true, Bool.false_or, beq_iff_eq] at hc
  have hc' : m - z = m &&& (2 ^ 64 - (z + 1)) := by rw [← hc, Nat.sub_sub, Nat.add_comm]
  rw [has_bit (by omega) hi, has_bit h1 hi, has_bit h2 hi, hc', Nat.testBit_and, Nat.testBit_two_pow_sub_succ (by omega)]
  simp
  intro _ _
  omega
theorem countTo_le {a m : Int} : ∀ k : Nat, k ≤ 8 → (∀ i : Nat, i < k → M.hasLane a (i : Int) = true → M.hasLane m (i : Int) = true) → M.countTo a k ≤ M.countTo m k
  | 0, _, _ => by simp [M.countTo]
  | k + 1, hk, h => by
    have ih := countTo_le k (by omega) fun i hi => h i (by omega)
    simp only [M.countTo]
    split
    · rename_i e
      rw [if_pos (h k (by omega) e)]; omega
    · split <;> omega
theorem countTo_lt {a m : Int} {j : Nat} (hm : M.hasLane m (j : Int) = true) (ha : ¬ M.hasLane a (j : Int) = true) : ∀ k : Nat, k ≤ 8 → j < k → (∀ i : Nat, i < k → M.hasLane a (i : Int) = true → M.hasLane m (i : Int) = true) → M.countTo a k < M.countTo m k
  | 0, _, hj, _ => by omega
  | k + 1, hk, hj, h => by
    simp only [M.countTo]
    by_cases e : j = k
    · subst e
      rw [if_neg ha, if_pos hm]
      have := countTo_le (a := a) (m := m) j (by omega) fun i hi => h i (by omega)
      omega
    · have ih := countTo_lt hm ha k (by omega) (by omega) fun i hi => h i (by omega)
      split
      · rename_i e
        rw [if_pos (h k (by omega) e)]; omega
      · split <;> omega
theorem count_one {m : Int} {i : Nat} (hi : i < 8) (h : M.hasLane m (i : Int) = true) : 1 ≤ M.countTo m 8 := by
  have h0 : M.countTo 0 8 = 0 := by decide
  have := countTo_lt (a := 0) (m := m) h (by rw [mask_zero i hi]; simp) 8 (Nat.le_refl _) hi fun j hj h' => by rw [mask_zero j hj] at h'; cases h'
  omega
def PD (p : List D.Ins) (x r : Int) : Prop := ¬ Rch p r [x] ((p.length : Nat) : Int)
theorem rch_ne {p : List D.Ins} {r x y : Int} (h : Rch p r [x] y) : x ≠ r := by
  induction h with
  | base hs hne => rwa [List.mem_singleton.1 hs] at hne
  | step _ _ _ ih => exact ih
theorem PD.next {p : List D.Ins} {x r y : Int} (h : PD p x r) (hx : x ≠ r) (hy : y ∈ M.nextOf p x) : PD p y r := fun hr => by
  have hne := rch_ne hr
  exact h (rch_via (b := x) (.step (.base (List.mem_singleton.2 rfl) hx) hy hne) hr)
theorem PD.exit {p : List D.Ins} {r : Int} (h : PD p ((p.length : Nat) : Int) r) : r = ((p.length : Nat) : Int) := by
  by_cases e : ((p.length : Nat) : Int) = r
  · exact e.symm
  · exact absurd (.base (List.mem_singleton.2 rfl) e) h
theorem PD.refl {p : List D.Ins} (x : Int) : PD p x x := fun h => rch_ne h rfl
theorem PD.last {p : List D.Ins} (x : Int) : PD p x ((p.length : Nat) : Int) := fun h => by
  have : ∀ y, Rch p ((p.length : Nat) : Int) [x] y → y ≠ ((p.length : Nat) : Int) := fun y hy => by
    cases hy with
    | base _ hne => exact hne
    | step _ _ hne => exact hne
  exact this _ h rfl
def Alone (p : List D.Ins) : Nat → D.Lane → List Int → Prop
  | 0, l, R => l.Pc = ((p.length : Nat) : Int) ∧ l.Regs = R
  | k + 1, l, R => l.Pc < ((p.length : Nat) : Int) ∧ Alone p k (M.step p l) R
theorem Alone.at_end {p : List D.Ins} {k : Nat} {l : D.Lane} {R : List Int} (h : Alone p k l R) (e : l.Pc = ((p.length : Nat) : Int)) : k = 0 ∧ l.Regs = R := by
  cases k with
  | zero => exact ⟨rfl, h.2⟩
  | succ k => have := h.1; omega
theorem Alone.go {p : List D.Ins} {k : Nat} {l : D.Lane} {R : List Int} (h : Alone p k l R) (e : l.Pc ≠ ((p.length : Nat) : Int)) : ∃ j, k = j + 1 ∧ Alone p j (M.step p l) R := by
  cases k with
  | zero => exact absurd h.1 e
  | succ k => exact ⟨k, rfl, h.2⟩
theorem alone_run {p : List D.Ins} : ∀ (k N : Nat) (l : D.Lane) (n : Int) (R : List Int), Alone p k l R → k ≤ N → (M.runN p N l n).2 = n + (k : Int) ∧ (M.runN p N l n).1.Pc = ((p.length : Nat) : Int) ∧ (M.runN p N l n).1.Regs = R
  | 0, N, l, n, R, h, hk => by
    have e : M.runN p N l n = (l, n) := runN_end p N l n (by have := h.1; omega)
    rw [e]; exact ⟨by simp, h.1, h.2⟩
  | k + 1, N + 1, l, n, R, h, hk => by
    rw [M.runN, if_pos h.1]
    obtain ⟨g1, g2, g3⟩ := alone_run k N _ (n + 1) R h.2 (by omega)
    exact ⟨by rw [g1]; push_cast; omega, g2, g3⟩
theorem alone_reach {p : List D.Ins} (hp : M.programOk p = true) : ∀ (k : Nat) (l : D.Lane) (R : List Int), Alone p k l R → 0 ≤ l.Pc → Rch p (-1) [l.Pc] ((p.length : Nat) : Int)
  | 0, l, R, h, h0 => by rw [h.1]; exact .base (List.mem_singleton.2 rfl) (by omega)
  | k + 1, l, R, h, h0 => by
    have hn : (M.step p l).Pc ∈ M.nextOf p l.Pc := by
      show M.next p l.Pc l.Regs ∈ _
      unfold M.next M.nextOf
      rw [if_neg (by have := h.1; omega)]
      split
      · simp
      split
      · simp
      split
      · split <;> (rw [putTwo_mem]; simp)
      · simp
    have hin : M.nodeIn p (M.step p l).Pc := (next_ok ⟨hp, h0, by have := h.1; omega⟩).1 _ hn
    exact rch_via (b := l.Pc) (.step (.base (List.mem_singleton.2 rfl) (by omega)) hn (by have := hin.1; omega)) (alone_reach hp k _ R h.2 hin.1)
end Go.V
set_option linter.unusedVariables false
set_option linter.unusedSimpArgs false
set_option maxRecDepth 20000
namespace Go.V
def loc (n : Int) : List D.Frame → Nat → Int
  | [], _ => n
  | f :: r, i => if M.hasLane f.Mask (i : Int) = true then f.Pc else loc n r i
structure Under (A P : D.Frame) : Prop where
  stop : A.Stop = P.Pc
  sub : ∀ i : Nat, i < 8 → M.hasLane A.Mask (i : Int) = true → M.hasLane P.Mask (i : Int) = true
  less : M.countTo A.Mask 8 < M.countTo P.Mask 8
inductive Stk (n : Int) : List D.Frame → Prop
  | base {f : D.Frame} : f.Mask = 255 → f.Stop = n → Stk n [f]
  | one {A P : D.Frame} {r : List D.Frame} : Stk n (P :: r) → Under A P → Stk n (A :: P :: r)
  | two {B A P : D.Frame} {r : List D.Frame} : Stk n (P :: r) → Under A P → Under B P → (∀ i : Nat, i < 8 → M.hasLane A.Mask (i : Int) = true → ¬ M.hasLane B.Mask (i : Int) = true) → Stk n (B :: A :: P :: r)
theorem Stk.pop {n : Int} {f : D.Frame} {r : List D.Frame} (h : Stk n (f :: r)) (e : f.Pc = f.Stop) : (r = [] ∨ Stk n r) ∧ ∀ i : Nat, i < 8 → loc n r i = loc n (f :: r) i := by
  cases h with
  | base h1 h2 =>
    refine ⟨.inl rfl, fun i hi => ?_⟩
    simp only [loc]
    rw [h1, mask_full hi, if_pos rfl, e, h2]
  | one h1 h2 =>
    refine ⟨.inr h1, fun i hi => ?_⟩
    simp only [loc]
    by_cases g : M.hasLane f.Mask (i : Int) = true
    · rw [if_pos g, if_pos (h2.sub i hi g), e, h2.stop]
    · rw [if_neg g]
  | two h1 h2 h3 h4 =>
    refine ⟨.inr (.one h1 h2), fun i hi => ?_⟩
    simp only [loc]
    by_cases g : M.hasLane f.Mask (i : Int) = true
    · rw [if_pos g, if_neg (fun g' => h4 i hi g' g), if_pos (h3.sub i hi g), e, h3.stop]
    · rw [if_neg g]
theorem Stk.set {n : Int} {f : D.Frame} {r : List D.Frame} (h : Stk n (f :: r)) (pc : Int) : Stk n (⟨pc, f.Stop, f.Mask⟩ :: r) := by
  cases h with
  | base h1 h2 => exact .base h1 h2
  | one h1 h2 => exact .one h1 ⟨h2.stop, h2.sub, h2.less⟩
  | two h1 h2 h3 h4 => exact .two h1 h2 ⟨h3.stop, h3.sub, h3.less⟩ h4
theorem Stk.long {n : Int} {fs : List D.Frame} (h : Stk n fs) : ∀ f r, fs = f :: r → ((fs.length : Nat) : Int) ≤ 17 - 2 * M.countTo f.Mask 8 := by
  induction h with
  | base h1 h2 =>
    rintro f r e
    cases e
    have : M.countTo 255 8 = 8 := by decide
    rw [h1, this]; simp
  | one h1 h2 ih =>
    rintro f r e
    cases e
    have := ih _ _ rfl
    have := h2.less
    simp only [List.length_cons] at *
    omega
  | two h1 h2 h3 h4 ih =>
    rintro f r e
    cases e
    have := ih _ _ rfl
    have := h3.less
    simp only [List.length_cons] at *
    omega
def dropR (n : Int) : List D.Frame → List D.Frame
  | [] => []
  | f :: r => if f.Pc ≠ f.Stop ∧ f.Pc ≠ n then f :: r else dropR n r
theorem dropN_rev (fs : List D.Frame) (n : Int) : ∀ k, k ≤ fs.length → (M.dropN fs n k).reverse = dropR n (fs.take k).reverse
  | 0, _ => by simp [M.dropN, dropR]
  | k + 1, hk => by
    have ih := dropN_rev fs n k (by omega)
    rw [M.dropN, List.take_add_one, List.getElem?_eq_getElem (by omega : k < fs.length), Option.toList_some, List.reverse_append, List.reverse_singleton, List.singleton_append, dropR, rd_nat (by omega)]
    split
    · rw [List.reverse_append, List.reverse_singleton, List.singleton_append]
    · exact ih
theorem dropF_rev (fs : List D.Frame) (n : Int) : (M.dropF fs n).reverse = dropR n fs.reverse := by
  have := dropN_rev fs n fs.length (Nat.le_refl _)
  rw [List.take_length] at this
  exact this
theorem dropR_sub (n : Int) : ∀ fs : List D.Frame, ∀ f ∈ dropR n fs, f ∈ fs
  | [], f, h => h
  | g :: r, f, h => by
    rw [dropR] at h
    split at h
    · exact h
    · exact List.mem_cons_of_mem _ (dropR_sub n r f h)
theorem dropR_good {p : List D.Ins} : ∀ fs : List D.Frame, (fs = [] ∨ Stk p.length fs) → (∀ f ∈ fs, PD p f.Pc f.Stop) →
    (dropR p.length fs = [] ∨ Stk p.length (dropR p.length fs)) ∧ ∀ i : Nat, i < 8 → loc p.length (dropR p.length fs) i = loc p.length fs i
  | [], _, _ => ⟨.inl rfl, fun _ _ => rfl⟩
  | f :: r, h, hpd => by
    have h := h.resolve_left (by simp)
    rw [dropR]
    split
    · exact ⟨.inr h, fun _ _ => rfl⟩
    · rename_i e
      have hf := hpd f List.mem_cons_self
      have e' : f.Pc = f.Stop := by
        by_cases h1 : f.Pc = f.Stop
        · exact h1
        · have : f.Pc = ((p.length : Nat) : Int) := by
            by_cases h2 : f.Pc = ((p.length : Nat) : Int)
            · exact h2
            · exact absurd ⟨h1, h2⟩ e
          rw [this] at hf ⊢
          exact hf.exit.symm
      obtain ⟨g1, g2⟩ := h.pop e'
      obtain ⟨k1, k2⟩ := dropR_good r g1 fun g hg => hpd g (List.mem_cons_of_mem _ hg)
      exact ⟨k1, fun i hi => (k2 i hi).trans (g2 i hi)⟩
structure LInv (p : List D.Ins) (x : D.Warp) (rem : Nat → Nat) (R : Nat → List Int) : Prop where
  stk : x.Frames = [] ∨ Stk p.length x.Frames.reverse
  pd : ∀ f ∈ x.Frames, PD p f.Pc f.Stop
  lane : ∀ i : Nat, i < 8 → Alone p (rem i) ⟨x.Number * 8 + (i : Int), loc p.length x.Frames.reverse i, M.laneCut x.Regs i⟩ (R i)
theorem LInv.drop {p : List D.Ins} {x : D.Warp} {rem : Nat → Nat} {R : Nat → List Int} (h : LInv p x rem R) : LInv p (M.dropW x p.length) rem R := by
  have hs : x.Frames.reverse = [] ∨ Stk p.length x.Frames.reverse := h.stk.imp (fun e => by rw [e]; rfl) id
  obtain ⟨k1, k2⟩ := dropR_good x.Frames.reverse hs fun f hf => h.pd f (List.mem_reverse.1 hf)
  rw [← dropF_rev] at k1 k2
  refine ⟨k1.imp (fun e => List.reverse_eq_nil_iff.1 e) id, fun f hf => h.pd f ?_, fun i hi => ?_⟩
  · have : f ∈ dropR p.length x.Frames.reverse := by rw [← dropF_rev]; exact List.mem_reverse.2 hf
    exact List.mem_reverse.1 (dropR_sub _ _ f this)
  · have := h.lane i hi
    rw [← k2 i hi] at this
    exact this
theorem cut_put_same {r x : List Int} {l : Nat} (h : r.length = 32) (hl : l < 8) (hx : x.length = 4) : M.laneCut (M.putLane r l x) l = x := by
  apply List.ext_getElem?
  intro i
  rw [laneCut_get]
  by_cases hi : i < 4
  · rw [if_pos hi, putLane_get h hl hx, if_pos (by omega)]
    congr 1; omega
  · rw [if_neg hi, List.getElem?_eq_none (by omega)]
theorem applyTo_lane {i : D.Ins} {num m : Int} {r : List Int} (h : r.length = 32) : ∀ k, k ≤ 8 → ∀ j : Nat, j < k → M.laneCut (M.applyTo i num m r k) j = if M.hasLane m (j : Int) = true then M.apply i (num * 8 + (j : Int)) (M.laneCut r j) else M.laneCut r j
  | 0, _, j, hj => by omega
  | k + 1, hk, j, hj => by
    have hl := applyTo_len (i := i) (num := num) (m := m) h k (by omega)
    have ha : (M.apply i (num * 8 + (k : Int)) (M.laneCut r k)).length = 4 := by rw [apply_len, laneCut_len h (by omega)]
    simp only [M.applyTo]
    by_cases e : j = k
    · subst e
      by_cases g : M.hasLane m (j : Int) = true
      · rw [if_pos g, if_pos g, cut_put_same hl (by omega) ha]
      · rw [if_neg g, if_neg g, applyTo_cut h j (by omega) j (Nat.le_refl _)]
    · have ih := applyTo_lane (i := i) (num := num) (m := m) h k (by omega) j (by omega)
      split
      · rw [cut_put_other hl (by omega) ha e, ih]
      · exact ih
theorem applyAll_lane {i : D.Ins} {num m : Int} {r : List Int} (h : r.length = 32) {j : Nat} (hj : j < 8) : M.laneCut (M.applyAll i num m r) j = if M.hasLane m (j : Int) = true then M.apply i (num * 8 + (j : Int)) (M.laneCut r j) else M.laneCut r j :=
  applyTo_lane h 8 (Nat.le_refl _) j hj
theorem rd_lane {r : List Int} (h : r.length = 32) {j : Nat} (hj : j < 8) {a : Int} (ha : M.isReg a = true) : rd (M.laneCut r j) a = rd r ((j : Int) * 4 + a) := by
  rw [isReg_iff] at ha
  unfold M.laneCut
  rw [rd_cut ha.1 (by omega) (by omega), show ((j * 4 : Nat) : Int) = (j : Int) * 4 by push_cast; rfl]
theorem setTop_app (bs : List D.Frame) (f : D.Frame) (pc : Int) : M.setTop (bs ++ [f]) pc = bs ++ [⟨pc, f.Stop, f.Mask⟩] := by
  have hl : M.lastF (bs ++ [f]) = f := by
    unfold M.lastF
    rw [List.length_append, List.length_singleton, show (((bs.length + 1 : Nat) : Int) - 1) = ((bs.length : Nat) : Int) by omega, rd_nat (by simp), List.getElem_append_right (Nat.le_refl _)]
    simp
  unfold M.setTop
  rw [hl, List.length_append, List.length_singleton, Nat.add_sub_cancel, List.set_append_right _ _ (Nat.le_refl _), Nat.sub_self]; rfl
theorem lastF_app (bs : List D.Frame) (f : D.Frame) : M.lastF (bs ++ [f]) = f := by
  unfold M.lastF
  rw [List.length_append, List.length_singleton, show (((bs.length + 1 : Nat) : Int) - 1) = ((bs.length : Nat) : Int) by omega, rd_nat (by simp), List.getElem_append_right (Nat.le_refl _)]
  simp
theorem app_last {fs : List D.Frame} (h : fs ≠ []) : ∃ bs, fs = bs ++ [M.lastF fs] := by
  refine ⟨fs.dropLast, ?_⟩
  have e := (List.dropLast_concat_getLast h).symm
  have : M.lastF fs = fs.getLast h := by
    have h2 : M.lastF fs = M.lastF (fs.dropLast ++ [fs.getLast h]) := by rw [← e]
    rw [h2, lastF_app]
  rw [this]; exact e
theorem top_ends {p : List D.Ins} {x : D.Warp} (h : M.Runs p x) : (M.lastF x.Frames).Pc ≠ (M.lastF x.Frames).Stop ∧ (M.lastF x.Frames).Mask ≠ 0 := by
  obtain ⟨hp, hw, hx⟩ := h
  simp only [M.warpOf, M.areFrames, Bool.and_eq_true, Bool.or_eq_true] at hw
  obtain ⟨h1, h2, h3, h4, h5⟩ := hw
  have h5 := h5.resolve_left (by simpa using hx)
  have hf := List.all_eq_true.1 h4 _ (mem_lastF hx)
  simp only [M.endsOk, M.frameOk, Bool.and_eq_true, decide_eq_true_eq, beq_iff_eq, bne_iff_ne] at h5 hf
  exact ⟨h5.2.1, hf.2.2.2⟩
theorem turn_next {p : List D.Ins} {x : D.Warp} (h : M.Runs p x) : M.turnPc p x ∈ M.nextOf p (M.topPc x) := by
  obtain ⟨t1, t2, t3, t4, t5, t6, t7, t8, t9⟩ := runs_top h
  unfold M.turnPc M.nextOf
  rw [if_neg (show ¬ M.topPc x = ((p.length : Nat) : Int) by omega), show rd p (M.topPc x) = M.topIns p x from rfl]
  by_cases h12 : (M.topIns p x).Op = 12
  · rw [if_pos h12, if_pos h12]; simp
  rw [if_neg h12, if_neg h12]
  by_cases h11 : (M.topIns p x).Op = 11
  · rw [if_pos h11, if_pos h11]; simp
  rw [if_neg h11, if_neg h11]
  by_cases h10 : (M.topIns p x).Op = 10
  · rw [if_pos h10]
    split <;> (rw [putTwo_mem]; simp)
  · rw [if_neg h10, if_neg (fun h => h10 h.1)]; simp
theorem firstS_prop {p : List D.Ins} {all : List Int} : ∀ l : List Int, M.firstS p all l ≠ -1 → all.all (M.afterB p (M.firstS p all l)) = true
  | [], h => absurd rfl h
  | y :: l, h => by
    rw [M.firstS] at h ⊢
    split at h
    · rename_i e; rw [if_pos e]; exact e
    · rename_i e; rw [if_neg e]; exact firstS_prop l h
theorem next_turn {p : List D.Ins} {x : D.Warp} (h : M.Runs p x) (hs : M.splits p x = false) {i : Nat} (hi : i < 8) (ha : M.hasLane (M.lastF x.Frames).Mask (i : Int) = true) : M.next p (M.topPc x) (M.laneCut x.Regs i) = M.turnPc p x := by
  obtain ⟨t1, t2, t3, t4, t5, t6, t7, t8, t9⟩ := runs_top h
  obtain ⟨f1, f2, f3, f4, f5, f6⟩ := runs_frames h
  have hact := activeMask_top h.2.2
  have e : rd p (M.topPc x) = M.topIns p x := rfl
  unfold M.next M.turnPc
  rw [e]
  split
  · rfl
  split
  · rfl
  by_cases h10 : (M.topIns p x).Op = 10
  · rw [if_pos h10]
    have hreg := zero_reg t7 h10
    rw [rd_lane t4 hi hreg]
    have hz := zero_has (x := x) (reg := (M.topIns p x).A) hi
    rw [hact] at hz
    obtain ⟨m1, m2, m3⟩ := mask_part (x := x) (reg := (M.topIns p x).A) (by rw [hact]; exact f5)
    by_cases hB : (M.topIns p x).B = M.topPc x + 1
    · rw [hB]; simp
    · simp only [M.splits, h10, Bool.and_eq_false_iff, bne_eq_false_iff_eq, beq_self_eq_true, Bool.true_and] at hs
      have hs := hs.resolve_left (by simpa using hB)
      by_cases g : rd x.Regs ((i : Int) * 4 + (M.topIns p x).A) = 0
      · rw [if_pos g]
        have hzi := hz.2 ⟨ha, g⟩
        rcases hs with hs | hs
        · rw [hs, mask_zero i hi] at hzi; cases hzi
        · rw [if_pos ⟨h10, hs⟩]
      · rw [if_neg g]
        rcases hs with hs | hs
        · have hne : M.zeroMask x (M.topIns p x).A ≠ (M.lastF x.Frames).Mask := by
            rw [hs]; exact (top_ends h).2.symm
          rw [if_neg (fun h => hne h.2)]
        · rw [← hs] at ha
          exact absurd (hz.1 ha).2 g
  · rw [if_neg h10, if_neg (fun h => h10 h.1)]
theorem LInv.step {p : List D.Ins} {x : D.Warp} {rem : Nat → Nat} {R : Nat → List Int} (h : LInv p x rem R) (hq : M.isQuiet p = true) (hF : M.Fine p x) (hx : x.Frames ≠ []) :
    M.spec_l13Local p x = true ∧ ∃ rem' : Nat → Nat, LInv p (M.stepW p x) rem' R ∧ ∀ i : Nat, i < 8 → rem i = rem' i + if M.hasLane (M.activeMask x) (i : Int) = true then 1 else 0 := by
  have hr : M.Runs p x := ⟨hF.1, hF.2, hx⟩
  obtain ⟨t1, t2, t3, t4, t5, t6, t7, t8, t9⟩ := runs_top hr
  obtain ⟨f1, f2, f3, f4, f5, f6⟩ := runs_frames hr
  obtain ⟨e1, e2⟩ := top_ends hr
  have hact := activeMask_top hx
  obtain ⟨bs, hbs⟩ := app_last hx
  have hrev : x.Frames.reverse = M.lastF x.Frames :: bs.reverse := by
    conv => lhs; rw [hbs]
    rw [List.reverse_append, List.reverse_singleton, List.singleton_append]
  have hstk := h.stk.resolve_left hx
  rw [hrev] at hstk
  have hpdf := h.pd _ (mem_lastF hx)
  have hpdb : ∀ f ∈ bs, PD p f.Pc f.Stop := fun f hf => h.pd f (by rw [hbs]; exact List.mem_append_left _ hf)
  have hlen : x.Frames.length ≤ 15 := by
    have h1 := hstk.long _ _ rfl
    have h2 : (M.lastF x.Frames :: bs.reverse).length = x.Frames.length := by rw [← hrev, List.length_reverse]
    obtain ⟨i, hi, hh⟩ := mask_some f5 e2
    have := count_one hi hh
    rw [h2] at h1
    omega
  have hlocal : M.isLocal (M.topIns p x) = true := quiet_local hq t5 t6
  have hl : M.spec_l13Local p x = true := by
    unfold M.spec_l13Local
    rw [hlocal]
    have : x.Frames.isEmpty = false := by simpa using hx
    rw [this, decide_eq_true (by omega : x.Frames.length ≤ 22)]
    simp
  refine ⟨hl, ?_⟩
  have hloc : ∀ i : Nat, loc p.length x.Frames.reverse i = if M.hasLane (M.lastF x.Frames).Mask (i : Int) = true then M.topPc x else loc p.length bs.reverse i := fun i => by rw [hrev]; rfl
  -- lanes: those active go one step
  have hgo : ∀ i : Nat, i < 8 → M.hasLane (M.lastF x.Frames).Mask (i : Int) = true → ∃ j, rem i = j + 1 ∧ Alone p j ⟨x.Number * 8 + (i : Int), M.next p (M.topPc x) (M.laneCut x.Regs i), M.apply (M.topIns p x) (x.Number * 8 + (i : Int)) (M.laneCut x.Regs i)⟩ (R i) := fun i hi ha => by
    have hL := h.lane i hi
    rw [hloc i, if_pos ha] at hL
    exact hL.go (by show M.topPc x ≠ _; omega)
  let rem' : Nat → Nat := fun i => if M.hasLane (M.lastF x.Frames).Mask (i : Int) = true then rem i - 1 else rem i
  have hrem : ∀ i : Nat, i < 8 → rem i = rem' i + if M.hasLane (M.activeMask x) (i : Int) = true then 1 else 0 := fun i hi => by
    rw [hact]
    show rem i = (if _ then _ else _) + _
    by_cases ha : M.hasLane (M.lastF x.Frames).Mask (i : Int) = true
    · obtain ⟨j, hj, _⟩ := hgo i hi ha
      rw [if_pos ha, if_pos ha]; omega
    · rw [if_neg ha, if_neg ha]; rfl
  refine ⟨rem', ?_, hrem⟩
  unfold M.stepW
  by_cases hs : M.splits p x = true
  · rw [if_pos hs]
    obtain ⟨⟨h10, hB⟩, hz0, hzm⟩ := splits_iff hs
    have hbr := split_branch hr ⟨h10, hB⟩
    obtain ⟨m1, m2, m3⟩ := mask_part (x := x) (reg := (M.topIns p x).A) (by rw [hact]; exact f5)
    have hz := fun (i : Nat) (hi : i < 8) => zero_has (x := x) (reg := (M.topIns p x).A) hi
    have hm := fun (i : Nat) (hi : i < 8) => minus_has (x := x) (reg := (M.topIns p x).A) (by rw [hact]; exact f5) hi
    rw [hact] at m2 m3 hz hm
    have hreg := zero_reg t7 h10
    have hN : M.Node p (M.topPc x) := ⟨hF.1, by omega, by omega⟩
    have hnx : M.nextOf p (M.topPc x) = M.putTwo (M.topPc x + 1) (M.topIns p x).B := by
      unfold M.nextOf
      rw [if_neg (by omega), show rd p (M.topPc x) = M.topIns p x from rfl, if_neg (by omega), if_neg (by omega), if_pos h10]
    have hn1 : M.topPc x + 1 ∈ M.nextOf p (M.topPc x) := by rw [hnx, putTwo_mem]; simp
    have hn2 : (M.topIns p x).B ∈ M.nextOf p (M.topPc x) := by rw [hnx, putTwo_mem]; simp
    have hin1 := (next_ok hN).1 _ hn1
    have hin2 := (next_ok hN).1 _ hn2
    have hnext : ∀ i : Nat, i < 8 → M.next p (M.topPc x) (M.laneCut x.Regs i) = if rd x.Regs ((i : Int) * 4 + (M.topIns p x).A) = 0 then (M.topIns p x).B else M.topPc x + 1 := fun i hi => by
      unfold M.next
      rw [show rd p (M.topPc x) = M.topIns p x from rfl, if_neg (by omega), if_neg (by omega), if_pos h10, rd_lane t4 hi hreg]
    have happ : ∀ i : Nat, M.apply (M.topIns p x) (x.Number * 8 + (i : Int)) (M.laneCut x.Regs i) = M.laneCut x.Regs i := fun i => by
      unfold M.apply
      rw [if_neg (by omega), if_neg (by omega), if_neg (by omega), if_neg (by omega), if_neg (by omega), if_neg (by omega), if_neg (by omega), if_neg (by omega), if_neg (by omega)]
    -- a lane on each side
    obtain ⟨iz, hiz, hzi⟩ := mask_some m1 hz0
    obtain ⟨im, him, hmi⟩ : ∃ i : Nat, i < 8 ∧ M.hasLane (bitNot .i64 (M.lastF x.Frames).Mask (M.zeroMask x (M.topIns p x).A)) (i : Int) = true := by
      have : ∃ i : Nat, i < 8 ∧ M.hasLane (M.lastF x.Frames).Mask (i : Int) = true ∧ ¬ M.hasLane (M.zeroMask x (M.topIns p x).A) (i : Int) = true := by
        apply Classical.byContradiction
        intro hno
        apply hzm
        refine mask_ext m1 f5 fun i hi => ?_
        by_cases g : M.hasLane (M.lastF x.Frames).Mask (i : Int) = true
        · have : M.hasLane (M.zeroMask x (M.topIns p x).A) (i : Int) = true := by
            apply Classical.byContradiction
            intro g'
            exact hno ⟨i, hi, g, g'⟩
          rw [g, this]
        · have : ¬ M.hasLane (M.zeroMask x (M.topIns p x).A) (i : Int) = true := fun g' => g ((hz i hi).1 g').1
          rw [Bool.not_eq_true] at g this
          rw [g, this]
      obtain ⟨i, hi, g⟩ := this
      exact ⟨i, hi, (hm i hi).2 g⟩
    have hmz := (hm im him).1 hmi
    have hzz := (hz iz hiz).1 hzi
    have hmnz : ¬ rd x.Regs ((im : Int) * 4 + (M.topIns p x).A) = 0 := fun g => hmz.2 ((hz im him).2 ⟨hmz.1, g⟩)
    -- both successors reach the exit
    have hn : M.nodeIn p ((p.length : Nat) : Int) := ⟨by omega, by omega⟩
    have ex1 : M.exitB p (M.topPc x + 1) = true := by
      obtain ⟨j, _, hj⟩ := hgo im him hmz.1
      rw [hnext im him, if_neg hmnz] at hj
      exact (reached_iff hF.1 (fun x hx => by obtain rfl := List.mem_singleton.1 hx; exact hin1) hn).2 (alone_reach hF.1 j _ _ hj hin1.1)
    have ex2 : M.exitB p (M.topIns p x).B = true := by
      obtain ⟨j, _, hj⟩ := hgo iz hiz hzz.1
      rw [hnext iz hiz, if_pos hzz.2] at hj
      exact (reached_iff hF.1 (fun x hx => by obtain rfl := List.mem_singleton.1 hx; exact hin2) hn).2 (alone_reach hF.1 j _ _ hj hin2.1)
    have hjoin : M.joinB p (M.topPc x) = M.firstAfter p (M.topPc x) := by
      unfold M.joinB
      rw [if_pos (by rw [ex1, show rd p (M.topPc x) = M.topIns p x from rfl, ex2]; rfl)]
    have exb : M.exitB p (M.topPc x) = true := by
      refine (reached_iff hF.1 (fun x hx => by obtain rfl := List.mem_singleton.1 hx; exact hN.2) hn).2 ?_
      have hx1 := (reached_iff hF.1 (fun x hx => by obtain rfl := List.mem_singleton.1 hx; exact hin1) hn).1 ex1
      exact rch_via (b := M.topPc x) (y := -1) (.step (.base (List.mem_singleton.2 rfl) (by omega)) hn1 (by have := hin1.1; omega)) hx1
    have hfi := first_in hN (by omega) exb
    obtain ⟨fN, fne, _, fA⟩ := afters_nodes hfi
    have hmem : ∀ r, M.nodeIn p r → r ≠ M.topPc x → PD p (M.topPc x) r → r ∈ M.others (M.aftersOf p (M.topPc x)) (M.topPc x) := by
      intro r hr hrb ha
      unfold M.others M.aftersOf
      rw [if_pos (by simp only [Bool.and_eq_true]; exact ⟨isNode_iff.2 hN, exb⟩)]
      refine List.mem_filter.2 ⟨mem_idx.2 ⟨r.toNat, by unfold M.nodeIn at hr; omega, by unfold M.nodeIn at hr; omega, (afterB_iff hN).2 ha⟩, by simpa using hrb⟩
    have hfall : (M.others (M.aftersOf p (M.topPc x)) (M.topPc x)).all (M.afterB p (M.firstAfter p (M.topPc x))) = true := firstS_prop _ (by
      have := fN.2.1
      show M.firstAfter p (M.topPc x) ≠ -1
      omega)
    have hpdj : PD p (M.topPc x) (M.joinB p (M.topPc x)) := by rw [hjoin]; exact (afterB_iff hN).1 fA
    have hjne : M.topPc x ≠ M.joinB p (M.topPc x) := by
      rw [hjoin]
      have := (List.mem_filter.1 hfi).2
      intro e
      rw [← e] at this
      simp at this
    have hstop : M.nodeIn p (M.lastF x.Frames).Stop := by
      have := List.all_eq_true.1 f1 _ (mem_lastF hx)
      simp only [M.frameOk, M.isIn, Bool.and_eq_true, decide_eq_true_eq] at this
      exact this.2.1
    have hpds : PD p (M.joinB p (M.topPc x)) (M.lastF x.Frames).Stop := by
      have := List.all_eq_true.1 hfall _ (hmem _ hstop (Ne.symm e1) hpdf)
      rw [hjoin]
      exact (afterB_iff fN).1 this
    apply LInv.drop
    let P : D.Frame := ⟨M.joinB p (M.topPc x), (M.lastF x.Frames).Stop, (M.lastF x.Frames).Mask⟩
    let A : D.Frame := ⟨M.topPc x + 1, M.joinB p (M.topPc x), bitNot .i64 (M.lastF x.Frames).Mask (M.zeroMask x (M.topIns p x).A)⟩
    let B : D.Frame := ⟨(M.topIns p x).B, M.joinB p (M.topPc x), M.zeroMask x (M.topIns p x).A⟩
    have hfr : (M.separated p x).Frames = bs ++ [P] ++ [A, B] := by
      show M.setTop x.Frames _ ++ _ = _
      congr 1
      conv => lhs; rw [hbs]
      exact setTop_app bs _ _
    have hrev' : (M.separated p x).Frames.reverse = B :: A :: P :: bs.reverse := by
      rw [hfr]; simp
    have hnum : (M.separated p x).Number = x.Number := rfl
    have hregs : (M.separated p x).Regs = x.Regs := rfl
    refine ⟨.inr ?_, fun f hf => ?_, fun i hi => ?_⟩
    · rw [hrev']
      refine .two (hstk.set _) ⟨rfl, fun i hi g => ((hm i hi).1 g).1, ?_⟩ ⟨rfl, fun i hi g => ((hz i hi).1 g).1, ?_⟩ fun i hi g => ((hm i hi).1 g).2
      · exact countTo_lt hzz.1 (fun g => ((hm iz hiz).1 g).2 hzi) 8 (Nat.le_refl _) hiz fun i hi g => ((hm i hi).1 g).1
      · exact countTo_lt hmz.1 hmz.2 8 (Nat.le_refl _) him fun i hi g => ((hz i hi).1 g).1
    · rw [hfr] at hf
      rcases List.mem_append.1 hf with hf | hf
      · rcases List.mem_append.1 hf with hf | hf
        · exact hpdb f hf
        · obtain rfl := List.mem_singleton.1 hf
          exact hpds
      · simp only [List.mem_cons, List.not_mem_nil, or_false] at hf
        rcases hf with rfl | rfl
        · exact hpdj.next hjne hn1
        · exact hpdj.next hjne hn2
    · rw [hrev', hnum, hregs]
      show Alone p (if _ then _ else _) ⟨_, (if M.hasLane (M.zeroMask x (M.topIns p x).A) (i : Int) = true then (M.topIns p x).B else if M.hasLane (bitNot .i64 (M.lastF x.Frames).Mask (M.zeroMask x (M.topIns p x).A)) (i : Int) = true then M.topPc x + 1 else if M.hasLane (M.lastF x.Frames).Mask (i : Int) = true then M.joinB p (M.topPc x) else loc p.length bs.reverse i), _⟩ _
      by_cases ha : M.hasLane (M.lastF x.Frames).Mask (i : Int) = true
      · obtain ⟨j, hj, hA⟩ := hgo i hi ha
        rw [hnext i hi, happ i] at hA
        rw [if_pos ha, hj, Nat.add_sub_cancel]
        by_cases g : rd x.Regs ((i : Int) * 4 + (M.topIns p x).A) = 0
        · rw [if_pos ((hz i hi).2 ⟨ha, g⟩)]
          rw [if_pos g] at hA
          exact hA
        · have hnz : ¬ M.hasLane (M.zeroMask x (M.topIns p x).A) (i : Int) = true := fun g' => g ((hz i hi).1 g').2
          rw [if_neg hnz, if_pos ((hm i hi).2 ⟨ha, hnz⟩)]
          rw [if_neg g] at hA
          exact hA
      · rw [if_neg ha, if_neg (fun g => ha ((hz i hi).1 g).1), if_neg (fun g => ha ((hm i hi).1 g).1), if_neg ha]
        have := h.lane i hi
        rw [hloc i, if_neg ha] at this
        exact this
  · rw [if_neg hs]
    have hs : M.splits p x = false := by simpa using hs
    apply LInv.drop
    have hfr : (M.advance p x).Frames = bs ++ [⟨M.turnPc p x, (M.lastF x.Frames).Stop, (M.lastF x.Frames).Mask⟩] := by
      show M.setTop x.Frames (M.turnPc p x) = _
      conv => lhs; rw [hbs]
      exact setTop_app bs _ _
    have hrev' : (M.advance p x).Frames.reverse = ⟨M.turnPc p x, (M.lastF x.Frames).Stop, (M.lastF x.Frames).Mask⟩ :: bs.reverse := by
      rw [hfr, List.reverse_append, List.reverse_singleton, List.singleton_append]
    refine ⟨.inr ?_, fun f hf => ?_, fun i hi => ?_⟩
    · rw [hrev']; exact hstk.set _
    · rw [hfr] at hf
      rcases List.mem_append.1 hf with hf | hf
      · exact hpdb f hf
      · obtain rfl := List.mem_singleton.1 hf
        exact hpdf.next e1 (turn_next hr)
    · rw [hrev']
      have hnum : (M.advance p x).Number = x.Number := rfl
      have hregs : (M.advance p x).Regs = M.applyAll (M.topIns p x) x.Number (M.lastF x.Frames).Mask x.Regs := rfl
      rw [hnum, hregs, applyAll_lane t4 hi]
      show Alone p (if _ then _ else _) ⟨_, (if _ then _ else _), _⟩ _
      by_cases ha : M.hasLane (M.lastF x.Frames).Mask (i : Int) = true
      · obtain ⟨j, hj, hA⟩ := hgo i hi ha
        rw [if_pos ha, if_pos ha, if_pos ha, hj, Nat.add_sub_cancel, ← next_turn hr hs hi ha]
        exact hA
      · rw [if_neg ha, if_neg ha, if_neg ha]
        have := h.lane i hi
        rw [hloc i, if_neg ha] at this
        exact this
end Go.V
set_option linter.unusedVariables false
set_option linter.unusedSimpArgs false
set_option maxRecDepth 20000
namespace Go.V
def Walk (p : List D.Ins) : Nat → D.Lane → D.Lane → Prop
  | 0, l, m => l = m
  | k + 1, l, m => l.Pc < ((p.length : Nat) : Int) ∧ Walk p k (M.step p l) m
theorem Walk.trans {p : List D.Ins} : ∀ {a b : Nat} {l m n : D.Lane}, Walk p a l m → Walk p b m n → Walk p (a + b) l n
  | 0, b, l, m, n, h, k => by rw [Nat.zero_add]; have h : l = m := h; rw [h]; exact k
  | a + 1, b, l, m, n, h, k => by rw [show a + 1 + b = (a + b) + 1 by omega]; exact ⟨h.1, Walk.trans h.2 k⟩
theorem Walk.ok {p : List D.Ins} : ∀ {a : Nat} {l m : D.Lane}, Walk p a l m → M.laneOk p l = true → M.laneOk p m = true
  | 0, l, m, h, hl => by have h : l = m := h; rw [← h]; exact hl
  | a + 1, l, m, h, hl => Walk.ok h.2 (laneOk_step hl h.1)
theorem Walk.alone {p : List D.Ins} : ∀ {a : Nat} {l m : D.Lane}, Walk p a l m → m.Pc = ((p.length : Nat) : Int) → Alone p a l m.Regs
  | 0, l, m, h, hm => by have h : l = m := h; rw [h]; exact ⟨hm, rfl⟩
  | a + 1, l, m, h, hm => ⟨h.1, Walk.alone h.2 hm⟩
def Agrees (p : List D.Ins) (b : Nat) (s : List D.Ins) : Prop := b + s.length ≤ p.length ∧ ∀ j : Nat, j < s.length → rd p ((b + j : Nat) : Int) = rd s (j : Int) ∨ rd p ((b + j : Nat) : Int) = ⟨12, 0, 0, 0⟩
theorem rd_left {α : Type} [Inhabited α] {s t : List α} {j : Nat} (hj : j < s.length) : rd (s ++ t) (j : Int) = rd s (j : Int) := by
  rw [rd_nat (by rw [List.length_append]; omega), List.getElem_append_left hj, rd_nat hj]
theorem rd_right {α : Type} [Inhabited α] {s t : List α} {j : Nat} (hj : j < t.length) : rd (s ++ t) ((s.length + j : Nat) : Int) = rd t (j : Int) := by
  rw [rd_nat (by rw [List.length_append]; omega), List.getElem_append_right (by omega), rd_nat hj]
  simp
theorem Agrees.left {p : List D.Ins} {b : Nat} {s t : List D.Ins} (h : Agrees p b (s ++ t)) : Agrees p b s := by
  refine ⟨by have := h.1; rw [List.length_append] at this; omega, fun j hj => ?_⟩
  have := h.2 j (by rw [List.length_append]; omega)
  rwa [rd_left hj] at this
theorem Agrees.right {p : List D.Ins} {b : Nat} {s t : List D.Ins} (h : Agrees p b (s ++ t)) : Agrees p (b + s.length) t := by
  refine ⟨by have := h.1; rw [List.length_append] at this; omega, fun j hj => ?_⟩
  have := h.2 (s.length + j) (by rw [List.length_append]; omega)
  rwa [rd_right hj, ← Nat.add_assoc] at this
theorem Agrees.head {p : List D.Ins} {b : Nat} {i : D.Ins} {s : List D.Ins} (h : Agrees p b (i :: s)) : rd p (b : Int) = i ∨ rd p (b : Int) = ⟨12, 0, 0, 0⟩ := h.2 0 (by simp)
theorem Agrees.tail {p : List D.Ins} {b : Nat} {i : D.Ins} {s : List D.Ins} (h : Agrees p b (i :: s)) : Agrees p (b + 1) s := by
  refine ⟨by have := h.1; rw [List.length_cons] at this; omega, fun j hj => ?_⟩
  have := h.2 (j + 1) (by rw [List.length_cons]; omega)
  rw [show b + (j + 1) = b + 1 + j by omega] at this
  have e : rd (i :: s) ((j + 1 : Nat) : Int) = rd s (j : Int) := by rw [rd_nat (by simp; omega), rd_nat hj]; rfl
  rwa [e] at this
def W (x : Nat) : Nat := 20 * min x 20 + (x - 20)
theorem W_step (x y : Nat) (h : x < y) : W x + (y - x) ≤ W y := by unfold W; omega
theorem W_loop {b : Nat} (h : b ≤ 14) : W b + 120 = W (b + 6) := by unfold W; omega
def Comes (p : List D.Ins) (l : D.Lane) (e c : Nat) : Prop := ∃ k m, k ≤ c ∧ Walk p k l m ∧ (m.Pc = (e : Int) ∨ m.Pc = ((p.length : Nat) : Int))
theorem Comes.mono {p : List D.Ins} {l : D.Lane} {e c d : Nat} (h : Comes p l e c) (hd : c ≤ d) : Comes p l e d := by
  obtain ⟨k, m, h1, h2, h3⟩ := h
  exact ⟨k, m, by omega, h2, h3⟩
theorem Comes.here {p : List D.Ins} {l : D.Lane} {e : Nat} (h : l.Pc = (e : Int)) (c : Nat) : Comes p l e c := ⟨0, l, by omega, rfl, .inl h⟩
theorem Comes.step {p : List D.Ins} {l : D.Lane} {e c : Nat} (h : l.Pc < ((p.length : Nat) : Int)) (hc : Comes p (M.step p l) e c) : Comes p l e (c + 1) := by
  obtain ⟨k, m, h1, h2, h3⟩ := hc
  exact ⟨k + 1, m, by omega, ⟨h, h2⟩, h3⟩
theorem Comes.then {p : List D.Ins} {l : D.Lane} {e f c d : Nat} (hl : M.laneOk p l = true) (h : Comes p l e c) (k : ∀ m, M.laneOk p m = true → m.Pc = (e : Int) → Comes p m f d) : Comes p l f (c + d) := by
  obtain ⟨k1, m, h1, h2, h3⟩ := h
  rcases h3 with h3 | h3
  · obtain ⟨k2, n, g1, g2, g3⟩ := k m (h2.ok hl) h3
    exact ⟨k1 + k2, n, by omega, h2.trans g2, g3⟩
  · exact ⟨k1, m, by omega, h2, .inr h3⟩
theorem halts {p : List D.Ins} {l : D.Lane} {b e : Nat} (hb : b < p.length) (h : l.Pc = (b : Int)) (hi : rd p (b : Int) = ⟨12, 0, 0, 0⟩) (c : Nat) : Comes p l e (c + 1) := by
  refine ⟨1, M.step p l, by omega, ⟨by omega, rfl⟩, .inr ?_⟩
  show M.next p l.Pc l.Regs = _
  unfold M.next
  rw [h, hi, if_pos rfl]
theorem goes_on {p : List D.Ins} {l : D.Lane} {b : Nat} {i : D.Ins} (h : l.Pc = (b : Int)) (hi : rd p (b : Int) = i) (h12 : i.Op ≠ 12) (h11 : i.Op ≠ 11) (h10 : i.Op ≠ 10) : (M.step p l).Pc = ((b + 1 : Nat) : Int) ∧ (M.step p l).Regs = M.apply i l.Thread l.Regs ∧ (M.step p l).Thread = l.Thread := by
  refine ⟨?_, ?_, rfl⟩
  · show M.next p l.Pc l.Regs = _
    unfold M.next
    rw [h, hi, if_neg h12, if_neg h11, if_neg h10]; push_cast; rfl
  · show M.apply (rd p l.Pc) l.Thread l.Regs = _
    rw [h, hi]
theorem rd_set4 {r : List Int} (h : r.length = 4) {a b : Nat} (ha : a < 4) (hb : b < 4) (v : Int) : rd (r.set a v) (b : Int) = if a = b then v else rd r (b : Int) := by
  rw [rd_nat (by rw [List.length_set]; omega), List.getElem_set]
  split
  · rfl
  · rw [rd_nat (by omega)]
theorem loop_ends {p : List D.Ins} {b : Nat} (hb : b + 6 ≤ p.length)
    (a1 : rd p ((b + 1 : Nat) : Int) = ⟨10, 3, ((b + 6 : Nat) : Int), 0⟩ ∨ rd p ((b + 1 : Nat) : Int) = ⟨12, 0, 0, 0⟩) (a2 : rd p ((b + 2 : Nat) : Int) = ⟨3, 0, 0, 1⟩ ∨ rd p ((b + 2 : Nat) : Int) = ⟨12, 0, 0, 0⟩)
    (a3 : rd p ((b + 3 : Nat) : Int) = ⟨1, 2, 1, 0⟩ ∨ rd p ((b + 3 : Nat) : Int) = ⟨12, 0, 0, 0⟩) (a4 : rd p ((b + 4 : Nat) : Int) = ⟨4, 3, 3, 2⟩ ∨ rd p ((b + 4 : Nat) : Int) = ⟨12, 0, 0, 0⟩) (a5 : rd p ((b + 5 : Nat) : Int) = ⟨11, 0, ((b + 1 : Nat) : Int), 0⟩ ∨ rd p ((b + 5 : Nat) : Int) = ⟨12, 0, 0, 0⟩) :
    ∀ (t : Nat) (l : D.Lane), t ≤ 23 → l.Pc = ((b + 1 : Nat) : Int) → l.Regs.length = 4 → rd l.Regs 3 = (t : Int) → Comes p l (b + 6) (5 * t + 1)
  | t, l, ht, hpc, hlen, h3 => by
    by_cases q1 : rd p ((b + 1 : Nat) : Int) = ⟨12, 0, 0, 0⟩
    · exact halts (by omega) hpc q1 _
    have a1' := a1.resolve_right q1
    have hnext : (M.step p l).Pc = if rd l.Regs 3 = 0 then ((b + 6 : Nat) : Int) else ((b + 2 : Nat) : Int) := by
      show M.next p l.Pc l.Regs = _
      unfold M.next
      rw [hpc, a1', if_neg (show ¬ (10 : Int) = 12 by decide), if_neg (show ¬ (10 : Int) = 11 by decide), if_pos rfl]
      split <;> (push_cast; omega)
    have hreg : (M.step p l).Regs = l.Regs := by
      show M.apply (rd p l.Pc) l.Thread l.Regs = _
      rw [hpc, a1']; rfl
    cases t with
    | zero =>
      rw [if_pos (show rd l.Regs 3 = 0 from h3)] at hnext
      exact Comes.step (by omega) (Comes.here hnext 0)
    | succ t =>
      rw [if_neg (by rw [h3]; omega)] at hnext
      rw [show 5 * (t + 1) + 1 = (5 * t + 1 + 1 + 1 + 1 + 1) + 1 by omega]
      refine Comes.step (by omega) ?_
      generalize M.step p l = l1 at *
      have hl1 : l1.Regs.length = 4 := by rw [hreg]; exact hlen
      have h31 : rd l1.Regs 3 = ((t + 1 : Nat) : Int) := by rw [hreg]; exact h3
      by_cases q2 : rd p ((b + 2 : Nat) : Int) = ⟨12, 0, 0, 0⟩
      · exact halts (by omega) hnext q2 _
      have a2' := a2.resolve_right q2
      obtain ⟨p2, r2, _⟩ := goes_on hnext a2' (by decide) (by decide) (by decide)
      refine Comes.step (by omega) ?_
      generalize M.step p l1 = l2 at *
      have e2 : l2.Regs = l1.Regs.set 0 (M.addW (rd l1.Regs 0) (rd l1.Regs 1)) := r2
      have hl2 : l2.Regs.length = 4 := by rw [e2, List.length_set]; exact hl1
      have h32 : rd l2.Regs 3 = ((t + 1 : Nat) : Int) := by
        rw [e2]
        have := rd_set4 hl1 (a := 0) (b := 3) (by omega) (by omega) (M.addW (rd l1.Regs 0) (rd l1.Regs 1))
        rw [if_neg (by omega)] at this
        exact this.trans h31
      by_cases q3 : rd p ((b + 3 : Nat) : Int) = ⟨12, 0, 0, 0⟩
      · exact halts (by omega) p2 q3 _
      have a3' := a3.resolve_right q3
      obtain ⟨p3, r3, _⟩ := goes_on p2 a3' (by decide) (by decide) (by decide)
      refine Comes.step (by omega) ?_
      generalize M.step p l2 = l3 at *
      have e3 : l3.Regs = l2.Regs.set 2 1 := r3
      have hl3 : l3.Regs.length = 4 := by rw [e3, List.length_set]; exact hl2
      have h33 : rd l3.Regs 3 = ((t + 1 : Nat) : Int) := by
        rw [e3]
        have := rd_set4 hl2 (a := 2) (b := 3) (by omega) (by omega) 1
        rw [if_neg (by omega)] at this
        exact this.trans h32
      have h23 : rd l3.Regs 2 = 1 := by
        rw [e3]
        have := rd_set4 hl2 (a := 2) (b := 2) (by omega) (by omega) 1
        rw [if_pos rfl] at this
        exact this
      by_cases q4 : rd p ((b + 4 : Nat) : Int) = ⟨12, 0, 0, 0⟩
      · exact halts (by omega) p3 q4 _
      have a4' := a4.resolve_right q4
      obtain ⟨p4, r4, _⟩ := goes_on p3 a4' (by decide) (by decide) (by decide)
      refine Comes.step (by omega) ?_
      generalize M.step p l3 = l4 at *
      have e4 : l4.Regs = l3.Regs.set 3 (M.subW (rd l3.Regs 3) (rd l3.Regs 2)) := r4
      have hl4 : l4.Regs.length = 4 := by rw [e4, List.length_set]; exact hl3
      have h34 : rd l4.Regs 3 = (t : Int) := by
        rw [e4]
        have := rd_set4 hl3 (a := 3) (b := 3) (by omega) (by omega) (M.subW (rd l3.Regs 3) (rd l3.Regs 2))
        rw [if_pos rfl] at this
        refine this.trans ?_
        rw [h33, h23]
        have w1 : M.isWord ((t + 1 : Nat) : Int) = true := by simp only [M.isWord, M.isIn, Bool.and_eq_true, decide_eq_true_eq]; omega
        have w2 : M.isWord 1 = true := by decide
        unfold M.subW
        rw [w1, w2, Bool.true_and, if_pos rfl]
        omega
      by_cases q5 : rd p ((b + 5 : Nat) : Int) = ⟨12, 0, 0, 0⟩
      · exact halts (by omega) p4 q5 _
      have a5' := a5.resolve_right q5
      have p5 : (M.step p l4).Pc = ((b + 1 : Nat) : Int) := by
        show M.next p l4.Pc l4.Regs = _
        unfold M.next
        rw [show l4.Pc = ((b + 5 : Nat) : Int) from p4, a5', if_neg (show ¬ (11 : Int) = 12 by decide), if_pos rfl]
      have r5 : (M.step p l4).Regs = l4.Regs := by
        show M.apply (rd p l4.Pc) l4.Thread l4.Regs = _
        rw [show l4.Pc = ((b + 5 : Nat) : Int) from p4, a5']; rfl
      refine Comes.step (by omega) ?_
      exact loop_ends hb (.inl a1') (.inl a2') (.inl a3') (.inl a4') (.inl a5') t _ (by omega) p5 (by rw [r5]; exact hl4) (by rw [r5]; exact h34)
theorem seg_runs {p : List D.Ins} {b : Nat} {s : List D.Ins} (h : Seg b s) : Agrees p b s → ∀ l : D.Lane, M.laneOk p l = true → l.Pc = (b : Int) → Comes p l (b + s.length) (W (b + s.length) - W b) := by
  induction h with
  | nil b => exact fun _ l _ hpc => Comes.here hpc _
  | @cat b s t _ _ ih1 ih2 =>
    intro ha l hl hpc
    rw [List.length_append, ← Nat.add_assoc]
    have w1 := W_step b (b + s.length)
    have w2 := W_step (b + s.length) (b + s.length + t.length)
    have := Comes.then hl (ih1 ha.left l hl hpc) fun m hm hmp => ih2 ha.right m hm hmp
    refine this.mono ?_
    by_cases c1 : s.length = 0
    · simp only [c1, Nat.add_zero, Nat.sub_self, Nat.zero_add] at *; omega
    by_cases c2 : t.length = 0
    · simp only [c2, Nat.add_zero, Nat.sub_self] at *; omega
    have := w1 (by omega)
    have := w2 (by omega)
    omega
  | @one b i hp =>
    intro ha l hl hpc
    have hlt := ha.1
    simp only [List.length_cons, List.length_nil, Nat.zero_add] at hlt ⊢
    have w1 := W_step b (b + 1) (by omega)
    refine Comes.mono (c := 0 + 1) ?_ (by omega)
    rcases ha.head with hi | hi
    · simp only [plainI, M.isIn, Bool.and_eq_true, decide_eq_true_eq] at hp
      obtain ⟨g1, _⟩ := goes_on hpc hi (by omega) (by omega) (by omega)
      exact Comes.step (by omega) (Comes.here g1 0)
    · exact halts (by omega) hpc hi _
  | @thn b r s h0 h3 _ ih =>
    intro ha l hl hpc
    have hlt := ha.1
    rw [List.length_cons] at hlt ⊢
    have w1 := W_step b (b + 1) (by omega)
    have w2 : W (b + 1) ≤ W (b + (s.length + 1)) := by
      by_cases c : s.length = 0
      · rw [c]; simp
      · have := W_step (b + 1) (b + (s.length + 1)) (by omega); omega
    refine Comes.mono (c := (W (b + (s.length + 1)) - W (b + 1)) + 1) ?_ (by omega)
    rcases ha.head with hi | hi
    · refine Comes.step (by omega) ?_
      have hnext : (M.step p l).Pc = if rd l.Regs r = 0 then ((b + 1 + s.length : Nat) : Int) else ((b + 1 : Nat) : Int) := by
        show M.next p l.Pc l.Regs = _
        unfold M.next
        rw [hpc, hi, if_neg (show ¬ (10 : Int) = 12 by decide), if_neg (show ¬ (10 : Int) = 11 by decide), if_pos rfl]
        split <;> (push_cast; omega)
      have hok := laneOk_step hl (by omega : l.Pc < ((p.length : Nat) : Int))
      split at hnext
      · exact Comes.here (by rw [hnext]; congr 1; omega) _
      · have := ih ha.tail _ hok hnext
        rwa [show b + 1 + s.length = b + (s.length + 1) by omega] at this
    · exact halts (by omega) hpc hi _
  | @els b r s t h0 h3 _ _ ih1 ih2 =>
    intro ha l hl hpc
    have hlt := ha.1
    rw [List.length_cons, List.length_append, List.length_cons] at hlt ⊢
    have hend : b + (s.length + (t.length + 1) + 1) = b + 2 + s.length + t.length := by omega
    rw [hend] at hlt ⊢
    have w1 := W_step b (b + 1) (by omega)
    have w2 : W (b + 1) ≤ W (b + 1 + s.length) := by
      by_cases c : s.length = 0
      · rw [c]; simp
      · have := W_step (b + 1) (b + 1 + s.length) (by omega); omega
    have w3 := W_step (b + 1 + s.length) (b + 2 + s.length) (by omega)
    have w4 : W (b + 2 + s.length) ≤ W (b + 2 + s.length + t.length) := by
      by_cases c : t.length = 0
      · rw [c]; simp
      · have := W_step (b + 2 + s.length) (b + 2 + s.length + t.length) (by omega); omega
    refine Comes.mono (c := (W (b + 2 + s.length + t.length) - W (b + 1)) + 1) ?_ (by omega)
    rcases ha.head with hi | hi
    · refine Comes.step (by omega) ?_
      have hnext : (M.step p l).Pc = if rd l.Regs r = 0 then ((b + 2 + s.length : Nat) : Int) else ((b + 1 : Nat) : Int) := by
        show M.next p l.Pc l.Regs = _
        unfold M.next
        rw [hpc, hi, if_neg (show ¬ (10 : Int) = 12 by decide), if_neg (show ¬ (10 : Int) = 11 by decide), if_pos rfl]
        split <;> (push_cast; omega)
      have hok := laneOk_step hl (by omega : l.Pc < ((p.length : Nat) : Int))
      have hat := ha.tail
      have har := hat.right
      split at hnext
      · have h2 := har.tail
        rw [show b + 1 + s.length + 1 = b + 2 + s.length by omega] at h2
        exact (ih2 h2 _ hok hnext).mono (by omega)
      · refine Comes.mono (c := (W (b + 1 + s.length) - W (b + 1)) + 1) (Comes.then hok (ih1 hat.left _ hok hnext) fun m hm hmp => ?_) (by omega)
        rcases har.head with hj | hj
        · refine Comes.step (by omega) (Comes.here ?_ 0)
          show M.next p m.Pc m.Regs = _
          unfold M.next
          rw [hmp, hj, if_neg (show ¬ (11 : Int) = 12 by decide), if_pos rfl]
        · exact halts (by omega) hmp hj 0
    · exact halts (by omega) hpc hi _
  | @loop b hb =>
    intro ha l hl hpc
    have hlt := ha.1
    simp only [List.length_cons, List.length_nil, Nat.zero_add] at hlt ⊢
    rw [show b + (1 + 1 + 1 + 1 + 1 + 1) = b + 6 by omega] at hlt ⊢
    have w1 := W_loop hb
    refine Comes.mono (c := 116 + 1) ?_ (by omega)
    have g : ∀ j : Nat, j < 6 → _ := ha.2
    rcases ha.head with hi | hi
    · refine Comes.step (by omega) ?_
      obtain ⟨g1, g2, _⟩ := goes_on hpc hi (by decide) (by decide) (by decide)
      have hok := laneOk_step hl (by omega : l.Pc < ((p.length : Nat) : Int))
      have hI := (laneOk_inv hl).2
      have ht : 0 ≤ l.Thread ∧ l.Thread ≤ 23 := by
        simp only [M.laneOk, M.laneOf, M.isIn, Bool.and_eq_true, decide_eq_true_eq] at hl
        exact hl.2.1
      have e : (M.step p l).Regs = l.Regs.set 3 l.Thread := g2
      have h3 : rd (M.step p l).Regs 3 = ((l.Thread.toNat : Nat) : Int) := by
        rw [e]
        have := rd_set4 hI.2.2 (a := 3) (b := 3) (by omega) (by omega) l.Thread
        rw [if_pos rfl] at this
        refine this.trans ?_
        omega
      refine Comes.mono (loop_ends hlt (g 1 (by omega)) (g 2 (by omega)) (g 3 (by omega)) (g 4 (by omega)) (g 5 (by omega)) l.Thread.toNat _ (by omega) g1 (by rw [e, List.length_set]; exact hI.2.2) h3) (by omega)
    · exact halts (by omega) hpc hi _
theorem quiet_agrees {s p : List D.Ins} (hp : p = s ∨ ∃ k, k < s.length ∧ p = s.set k ⟨12, 0, 0, 0⟩) : Agrees p 0 s := by
  have hlen : p.length = s.length := by rcases hp with rfl | ⟨k, hk, rfl⟩ <;> simp
  refine ⟨by omega, fun j hj => ?_⟩
  rw [Nat.zero_add]
  rcases hp with rfl | ⟨k, hk, rfl⟩
  · exact .inl rfl
  · rw [rd_nat (by rw [List.length_set]; exact hj), List.getElem_set]
    split
    · exact .inr rfl
    · exact .inl (rd_nat hj).symm
theorem seg_alone {s p : List D.Ins} (h : Seg 0 s) (hl : s.length ≤ 22) (hp : p = s ∨ ∃ k, k < s.length ∧ p = s.set k ⟨12, 0, 0, 0⟩) {t : Int} (ht : 0 ≤ t ∧ t ≤ 23) : ∃ (k : Nat) (R : List Int), k ≤ 402 ∧ Alone p k (M.laneNew t) R := by
  obtain ⟨hq, hlen⟩ := seg_quiet h (by omega) hp
  have hl0 : M.laneNew t = ⟨t, 0, [0, 0, 0, 0]⟩ := by
    unfold M.laneNew
    rw [if_pos (by simp only [M.isIn, Bool.and_eq_true, decide_eq_true_eq]; omega)]
  have hok : M.laneOk p (M.laneNew t) = true := by
    rw [hl0]
    unfold M.laneOk M.laneOf M.areRegs
    rw [quiet_prog hq]
    simp only [M.isIn, Bool.and_eq_true, decide_eq_true_eq]
    refine ⟨trivial, ht, ⟨by omega, by omega⟩, rfl, rfl⟩
  obtain ⟨k, m, h1, h2, h3⟩ := seg_runs h (quiet_agrees hp) (M.laneNew t) hok (by rw [hl0]; rfl)
  rw [Nat.zero_add] at h1 h3
  have hW : W s.length ≤ 402 := by unfold W; omega
  exact ⟨k, m.Regs, by omega, h2.alone (by rcases h3 with h3 | h3; (· rw [h3, hlen]); exact h3)⟩
end Go.V
set_option linter.unusedVariables false
set_option linter.unusedSimpArgs false
set_option maxRecDepth 20000
namespace Go.V
def sumTo (f : Nat → Nat) : Nat → Nat
  | 0 => 0
  | k + 1 => sumTo f k + f k
theorem sum_count {f g : Nat → Nat} {m : Int} : ∀ k : Nat, k ≤ 8 → (∀ i : Nat, i < k → f i = g i + if M.hasLane m (i : Int) = true then 1 else 0) → ((sumTo f k : Nat) : Int) = ((sumTo g k : Nat) : Int) + M.countTo m k
  | 0, _, _ => by simp [sumTo, M.countTo]
  | k + 1, hk, h => by
    have ih := sum_count k (by omega) fun i hi => h i (by omega)
    have hk := h k (by omega)
    simp only [sumTo, M.countTo]
    split at hk
    · rename_i e; rw [if_pos e]; omega
    · rename_i e; rw [if_neg e]; omega
def csum (p : List D.Ins) (x : D.Warp) : Nat → Int
  | 0 => 0
  | k + 1 => csum p x k + M.countTo (M.activeMask (M.wAt p x k)) 8
theorem trace {p : List D.Ins} {x : D.Warp} {rem : Nat → Nat} {R : Nat → List Int} (h : LInv p x rem R) (hq : M.isQuiet p = true) (hF : M.Fine p x) :
    ∀ j : Nat, (∀ k, k < j → (M.wAt p x k).Frames ≠ []) → ∃ rem' : Nat → Nat, LInv p (M.wAt p x j) rem' R ∧ M.Fine p (M.wAt p x j) ∧ (∀ i : Nat, i < 8 → rem' i ≤ rem i ∧ rem i ≤ rem' i + j) ∧
      csum p x j + ((sumTo rem' 8 : Nat) : Int) = ((sumTo rem 8 : Nat) : Int) ∧ (j : Int) ≤ csum p x j ∧ ∀ k, k < j → M.spec_l13Local p (M.wAt p x k) = true
  | 0, _ => ⟨rem, h, hF, fun i _ => ⟨Nat.le_refl _, by omega⟩, by simp [csum], by simp [csum], fun k hk => by omega⟩
  | j + 1, hj => by
    obtain ⟨rem', g1, g2, g3, g4, g5, g6⟩ := trace h hq hF j fun k hk => hj k (by omega)
    have hne := hj j (by omega)
    obtain ⟨l1, rem2, l2, l3⟩ := g1.step hq g2 hne
    have hc := sum_count 8 (Nat.le_refl _) l3
    have hr : M.Runs p (M.wAt p x j) := ⟨g2.1, g2.2, hne⟩
    obtain ⟨i, hi, ha⟩ := mask_some (runs_frames hr).2.2.2.2.1 (top_ends hr).2
    have h1 := count_one hi ha
    rw [← activeMask_top hne] at h1
    refine ⟨rem2, l2, stepW_fine (goes_of g2 l1), fun i hi => ?_, ?_, ?_, fun k hk => ?_⟩
    · have := g3 i hi
      have := l3 i hi
      split at this <;> omega
    · rw [csum]; omega
    · rw [csum]; push_cast; omega
    · by_cases e : k = j
      · rw [e]; exact l1
      · exact g6 k (by omega)
theorem least {P : Nat → Prop} : ∀ n : Nat, P n → ∃ m, m ≤ n ∧ P m ∧ ∀ k, k < m → ¬ P k
  | n, h => by
    by_cases e : ∃ k, k < n ∧ P k
    · obtain ⟨k, hk, hp⟩ := e
      obtain ⟨m, h1, h2, h3⟩ := least k hp
      exact ⟨m, by omega, h2, h3⟩
    · exact ⟨n, Nat.le_refl _, h, fun k hk hp => e ⟨k, hk, hp⟩⟩
theorem run_ends {p : List D.Ins} {x : D.Warp} {rem : Nat → Nat} {R : Nat → List Int} (h : LInv p x rem R) (hq : M.isQuiet p = true) (hF : M.Fine p x) :
    ∃ m : Nat, (m : Int) ≤ ((sumTo rem 8 : Nat) : Int) ∧ (M.wAt p x m).Frames = [] ∧ ∀ k, k < m → (M.wAt p x k).Frames ≠ [] := by
  have : ∃ m, m ≤ sumTo rem 8 + 1 ∧ (M.wAt p x m).Frames = [] := by
    apply Classical.byContradiction
    intro hno
    have hall : ∀ k, k < sumTo rem 8 + 1 → (M.wAt p x k).Frames ≠ [] := fun k hk e => hno ⟨k, by omega, e⟩
    obtain ⟨rem', g1, g2, g3, g4, g5, g6⟩ := trace h hq hF _ hall
    omega
  obtain ⟨m, _, hm⟩ := this
  obtain ⟨m', h1, h2, h3⟩ := least (P := fun k => (M.wAt p x k).Frames = []) m hm
  obtain ⟨rem', g1, g2, g3, g4, g5, g6⟩ := trace h hq hF m' h3
  exact ⟨m', by omega, h2, h3⟩
theorem runW_to {p : List D.Ins} : ∀ (m n : Nat) (x : D.Warp) (c : Int), m ≤ n → (∀ k, k < m → M.spec_l13Local p (M.wAt p x k) = true) → M.spec_l13Local p (M.wAt p x m) = false → M.runW p n x c = (M.wAt p x m, c + (m : Int))
  | 0, n, x, c, _, _, h => by rw [runW_stop p n x c h]; simp [M.wAt]
  | m + 1, 0, x, c, hm, _, _ => by omega
  | m + 1, n + 1, x, c, hm, hl, h => by
    have h0 : M.spec_l13Local p x = true := hl 0 (by omega)
    simp only [M.runW]
    rw [if_pos h0, runW_to m n (M.stepW p x) (c + 1) (by omega) (fun k hk => by rw [wAt_shift]; exact hl (k + 1) (by omega)) (by rw [wAt_shift]; exact h), wAt_shift]
    congr 1
    push_cast; omega
theorem cuts_all (r : List Int) : ∀ k : Nat, (List.range k).flatMap (M.laneCut r) = r.take (k * 4)
  | 0 => by simp
  | k + 1 => by
    rw [List.range_succ, List.flatMap_append, cuts_all r k, List.flatMap_singleton]
    unfold M.laneCut
    have : r.take (k * 4) = (r.take (k * 4 + 4)).take (k * 4) := by rw [List.take_take, Nat.min_eq_left (by omega)]
    rw [this, List.take_append_drop, show (k + 1) * 4 = k * 4 + 4 by omega]
theorem flat_same {α β : Type} {f g : α → List β} : ∀ l : List α, (∀ x ∈ l, f x = g x) → l.flatMap f = l.flatMap g
  | [], _ => rfl
  | x :: l, h => by
    rw [List.flatMap_cons, List.flatMap_cons, h x List.mem_cons_self, flat_same l fun y hy => h y (List.mem_cons_of_mem _ hy)]
theorem new_cut {i : Nat} (hi : i < 8) : M.laneCut (List.replicate 32 (0 : Int)) i = [0, 0, 0, 0] := by
  have : i = 0 ∨ i = 1 ∨ i = 2 ∨ i = 3 ∨ i = 4 ∨ i = 5 ∨ i = 6 ∨ i = 7 := by omega
  rcases this with rfl | rfl | rfl | rfl | rfl | rfl | rfl | rfl <;> rfl
theorem new_inv {p : List D.Ins} {w : Int} (hw : 0 ≤ w ∧ w ≤ 2) {st : Nat → Nat} {R : Nat → List Int} (h : ∀ i : Nat, i < 8 → Alone p (st i) (M.laneNew (w * 8 + (i : Int))) (R i)) : LInv p (M.newWarp p w) st R := by
  have hF : (M.newWarp p w).Frames = if p.length > 0 then [⟨0, p.length, 255⟩] else [] := rfl
  have hR : (M.newWarp p w).Regs = List.replicate 32 0 := rfl
  have hN : (M.newWarp p w).Number = w := rfl
  refine ⟨?_, ?_, fun i hi => ?_⟩
  · rw [hF]
    split
    · exact .inr (.base rfl rfl)
    · exact .inl rfl
  · rw [hF]
    intro f hf
    split at hf
    · obtain rfl := List.mem_singleton.1 hf
      exact PD.last _
    · cases hf
  · have := h i hi
    have hl0 : M.laneNew (w * 8 + (i : Int)) = ⟨w * 8 + (i : Int), 0, [0, 0, 0, 0]⟩ := by
      unfold M.laneNew
      rw [if_pos (by simp only [M.isIn, Bool.and_eq_true, decide_eq_true_eq]; omega)]
    rw [hl0] at this
    rw [hN, hR, hF, new_cut hi]
    split
    · show Alone p _ ⟨_, (if M.hasLane 255 (i : Int) = true then 0 else _), _⟩ _
      rw [if_pos (mask_full hi)]; exact this
    · rename_i e
      show Alone p _ ⟨_, ((p.length : Nat) : Int), _⟩ _
      rw [show ((p.length : Nat) : Int) = 0 by omega]; exact this
structure Ends8 (p : List D.Ins) (w : Int) (st : Nat → Nat) (R : Nat → List Int) : Prop where
  quiet : M.isQuiet p = true
  num : 0 ≤ w ∧ w ≤ 2
  each : ∀ i : Nat, i < 8 → st i ≤ 1000 ∧ Alone p (st i) (M.laneNew (w * 8 + (i : Int))) (R i)
theorem new_ok_lane {p : List D.Ins} (hq : M.isQuiet p = true) {t : Int} (ht : 0 ≤ t ∧ t ≤ 23) : M.laneOk p (M.laneNew t) = true := by
  have hl0 : M.laneNew t = ⟨t, 0, [0, 0, 0, 0]⟩ := by
    unfold M.laneNew
    rw [if_pos (by simp only [M.isIn, Bool.and_eq_true, decide_eq_true_eq]; omega)]
  rw [hl0]
  unfold M.laneOk M.laneOf M.areRegs
  rw [quiet_prog hq]
  simp only [M.isIn, Bool.and_eq_true, decide_eq_true_eq]
  exact ⟨trivial, ht, ⟨by omega, by omega⟩, rfl, rfl⟩
theorem alone_steps {p : List D.Ins} (hq : M.isQuiet p = true) {t : Int} (ht : 0 ≤ t ∧ t ≤ 23) {k : Nat} {R : List Int} (hk : k ≤ 1000) (h : Alone p k (M.laneNew t) R) :
    M.stepsAlone p t = (k : Int) ∧ (M.runAlone p t).2 = true ∧ (M.runAlone p t).1.Regs = R := by
  have hok := new_ok_lane hq ht
  have e : M.runLane p (M.laneNew t) 1000 = M.runN p 1000 (M.laneNew t) 0 := by
    unfold M.runLane
    rw [if_pos (by rw [hq, hok]; rfl)]; rfl
  obtain ⟨g1, g2, g3⟩ := alone_run k 1000 _ 0 R h hk
  unfold M.stepsAlone M.runAlone
  rw [e, g1, g2, if_neg (by omega), if_neg (by omega), if_neg (by omega), if_neg (by omega)]
  exact ⟨by omega, rfl, g3⟩
theorem Ends8.lane {p : List D.Ins} {w : Int} {st : Nat → Nat} {R : Nat → List Int} (h : Ends8 p w st R) {i : Nat} (hi : i < 8) : M.stepsAlone p (w * 8 + (i : Int)) = (st i : Int) ∧ (M.runAlone p (w * 8 + (i : Int))).2 = true ∧ (M.runAlone p (w * 8 + (i : Int))).1.Regs = R i :=
  alone_steps h.quiet (by have := h.num; omega) (h.each i hi).1 (h.each i hi).2
theorem Ends8.fine {p : List D.Ins} {w : Int} {st : Nat → Nat} {R : Nat → List Int} (h : Ends8 p w st R) : M.Fine p (M.newWarp p w) :=
  newWarp_fine (quiet_prog h.quiet) (by have := h.num; simp only [M.isIn, Bool.and_eq_true, decide_eq_true_eq]; exact this)
theorem Ends8.inv {p : List D.Ins} {w : Int} {st : Nat → Nat} {R : Nat → List Int} (h : Ends8 p w st R) : LInv p (M.newWarp p w) st R := new_inv h.num fun i hi => (h.each i hi).2
theorem sumTo_le {st : Nat → Nat} : ∀ k : Nat, (∀ i, i < k → st i ≤ 1000) → sumTo st k ≤ 1000 * k
  | 0, _ => by simp [sumTo]
  | k + 1, h => by
    have := sumTo_le k fun i hi => h i (by omega)
    have := h k (by omega)
    rw [sumTo]; omega
theorem Ends8.result {p : List D.Ins} {w : Int} {st : Nat → Nat} {R : Nat → List Int} (h : Ends8 p w st R) : ∃ m : Nat, (m : Int) ≤ ((sumTo st 8 : Nat) : Int) ∧ (∀ i : Nat, i < 8 → st i ≤ m) ∧
    M.warpResult p w = (M.wAt p (M.newWarp p w) m, (m : Int), true) ∧ (M.wAt p (M.newWarp p w) m).Frames = [] ∧ (∀ k, k < m → (M.wAt p (M.newWarp p w) k).Frames ≠ []) ∧
    (M.wAt p (M.newWarp p w) m).Regs = M.endList p (w * 8) 8 ∧ csum p (M.newWarp p w) m = ((sumTo st 8 : Nat) : Int) := by
  obtain ⟨m, h1, h2, h3⟩ := run_ends h.inv h.quiet h.fine
  obtain ⟨rem', g1, g2, g3, g4, g5, g6⟩ := trace h.inv h.quiet h.fine m h3
  have hend : ∀ i : Nat, i < 8 → rem' i = 0 ∧ M.laneCut (M.wAt p (M.newWarp p w) m).Regs i = R i := fun i hi => by
    have := g1.lane i hi
    rw [h2] at this
    exact this.at_end rfl
  have hz : sumTo rem' 8 = 0 := by
    have : ∀ k, k ≤ 8 → sumTo rem' k = 0 := by
      intro k hk
      induction k with
      | zero => rfl
      | succ k ih => rw [sumTo, ih (by omega), (hend k (by omega)).1]
    exact this 8 (Nat.le_refl _)
  have hs := sumTo_le 8 fun i hi => (h.each i hi).1
  have hlen : (M.wAt p (M.newWarp p w) m).Regs.length = 32 := (fine_small g2).2
  refine ⟨m, h1, fun i hi => ?_, ?_, h2, h3, ?_, by rw [hz] at g4; omega⟩
  · have := g3 i hi
    have := (hend i hi).1
    omega
  · have hrun : M.runW p 8000 (M.newWarp p w) 0 = (M.wAt p (M.newWarp p w) m, 0 + (m : Int)) := runW_to m 8000 _ 0 (by omega) g6 (by simp [M.spec_l13Local, h2])
    unfold M.warpResult
    rw [hrun, if_pos (by rw [h.quiet]; have := h.num; simp only [M.isIn, Bool.true_and, Bool.and_eq_true, decide_eq_true_eq]; exact this), if_pos (by rw [h2]; rfl)]
    simp
  · have e1 : (M.wAt p (M.newWarp p w) m).Regs = (List.range 8).flatMap (M.laneCut (M.wAt p (M.newWarp p w) m).Regs) := by
      rw [cuts_all, List.take_of_length_le (by omega)]
    rw [e1]
    unfold M.endList
    refine flat_same _ fun i hi => ?_
    have hi := List.mem_range.1 hi
    rw [(hend i hi).2, (h.lane hi).2.2]
end Go.V
set_option linter.unusedVariables false
set_option linter.unusedSimpArgs false
set_option maxRecDepth 20000
namespace Go.V
theorem quiet_ends8 {c : D.Cur} (hc : M.CurOk c) {w : Int} (hw : 0 ≤ w ∧ w ≤ 2) : ∃ st R, Ends8 (M.spec_l05Quiet c).1 w st R := by
  obtain ⟨h1, h2, s, h3, h4, h5⟩ := quiet_draw hc
  have hq := (quiet_good hc).1
  have key : ∀ i : Nat, ∃ y : Nat × List Int, i < 8 → y.1 ≤ 402 ∧ Alone (M.spec_l05Quiet c).1 y.1 (M.laneNew (w * 8 + (i : Int))) y.2 := fun i => by
    by_cases hi : i < 8
    · obtain ⟨k, R, g1, g2⟩ := seg_alone h3 h4 h5 (t := w * 8 + (i : Int)) (by omega)
      exact ⟨(k, R), fun _ => ⟨g1, g2⟩⟩
    · exact ⟨(0, []), fun h => absurd h hi⟩
  refine ⟨fun i => (Classical.choose (key i)).1, fun i => (Classical.choose (key i)).2, hq, hw, fun i hi => ?_⟩
  have := Classical.choose_spec (key i) hi
  exact ⟨by have := this.1; omega, this.2⟩
theorem Ends8.stepsList {p : List D.Ins} {w : Int} {st : Nat → Nat} {R : Nat → List Int} (h : Ends8 p w st R) : M.stepsList p w = (List.range 8).map fun i : Nat => (st i : Int) := by
  unfold M.stepsList
  apply List.map_congr_left
  intro i hi
  exact (h.lane (List.mem_range.1 hi)).1
theorem Ends8.stepsOf {p : List D.Ins} {w : Int} {st : Nat → Nat} {R : Nat → List Int} (h : Ends8 p w st R) : M.stepsOf p w = ((List.range 8).map fun i : Nat => (st i : Int), true) := by
  have hw : M.isIn w 0 2 = true := by have := h.num; simp only [M.isIn, Bool.and_eq_true, decide_eq_true_eq]; exact this
  unfold M.stepsOf
  rw [h.stepsList, hw, if_pos]
  rw [Bool.true_and, List.all_eq_true]
  intro x hx
  obtain ⟨i, _, rfl⟩ := List.mem_map.1 hx
  simp
theorem Ends8.sum {p : List D.Ins} {w : Int} {st : Nat → Nat} {R : Nat → List Int} (h : Ends8 p w st R) : M.sumAlone p w = ((sumTo st 8 : Nat) : Int) := by
  unfold M.sumAlone
  rw [h.stepsOf, if_pos rfl]
  have : ∀ k : Nat, ((List.range k).map fun i : Nat => (st i : Int)).foldl (· + ·) 0 = ((sumTo st k : Nat) : Int) := by
    intro k
    induction k with
    | zero => rfl
    | succ k ih => rw [List.range_succ, List.map_append, List.foldl_append, ih]; simp [sumTo]
  exact this 8
theorem most_le {b : Int} : ∀ (l : List Int) (m : Int), m ≤ b → (∀ x ∈ l, x ≤ b) → M.most l m ≤ b
  | [], m, hm, _ => hm
  | x :: l, m, hm, h => by
    show M.most l (if x > m then x else m) ≤ b
    refine most_le l _ ?_ fun y hy => h y (List.mem_cons_of_mem _ hy)
    split
    · exact h x List.mem_cons_self
    · exact hm
theorem Ends8.most {p : List D.Ins} {w : Int} {st : Nat → Nat} {R : Nat → List Int} (h : Ends8 p w st R) {m : Nat} (hm : ∀ i : Nat, i < 8 → st i ≤ m) : M.mostAlone p w ≤ (m : Int) := by
  unfold M.mostAlone
  rw [h.stepsOf, if_pos rfl]
  refine most_le _ _ (by omega) fun x hx => ?_
  obtain ⟨i, hi, rfl⟩ := List.mem_map.1 hx
  have := hm i (List.mem_range.1 hi)
  omega
theorem Ends8.endRegs {p : List D.Ins} {w : Int} {st : Nat → Nat} {R : Nat → List Int} (h : Ends8 p w st R) : M.endRegs p (w * 8) 8 = (M.endList p (w * 8) 8, true) := by
  unfold M.endRegs
  rw [if_pos]
  · rfl
  · rw [Bool.and_eq_true, Bool.and_eq_true]
    refine ⟨rfl, by have := h.num; simp only [M.isIn, Bool.and_eq_true, decide_eq_true_eq]; omega, ?_⟩
    unfold M.endOk
    rw [List.all_eq_true]
    intro i hi
    exact (h.lane (List.mem_range.1 hi)).2.1
theorem Ends8.costs {p : List D.Ins} {w : Int} {st : Nat → Nat} {R : Nat → List Int} (h : Ends8 p w st R) {m : Nat} (hm : ∀ k, k < m → (M.wAt p (M.newWarp p w) k).Frames ≠ []) : ∀ j : Nat, j ≤ m →
    (M.costTo p (M.newWarp p w) j).Steps = (j : Int) ∧ (M.costTo p (M.newWarp p w) j).Active = csum p (M.newWarp p w) j ∧ csum p (M.newWarp p w) j ≤ 8 * (j : Int) ∧ 0 ≤ (M.costTo p (M.newWarp p w) j).Splits ∧
    ((M.costTo p (M.newWarp p w) j).Splits = 0 → csum p (M.newWarp p w) j = 8 * (j : Int) ∧ ((M.wAt p (M.newWarp p w) j).Frames = [] ∨ ∃ f, (M.wAt p (M.newWarp p w) j).Frames = [f] ∧ f.Mask = 255))
  | 0, _ => by
    refine ⟨rfl, rfl, by simp [csum], by simp [M.costTo], fun _ => ⟨by simp [csum], ?_⟩⟩
    have hF : (M.wAt p (M.newWarp p w) 0).Frames = if p.length > 0 then [⟨0, p.length, 255⟩] else [] := rfl
    rw [hF]
    split
    · exact .inr ⟨_, rfl, rfl⟩
    · exact .inl rfl
  | j + 1, hj => by
    obtain ⟨i1, i2, i3, i4, i5⟩ := h.costs hm j (by omega)
    have hne := hm j (by omega)
    obtain ⟨rem', g1, g2, g3, g4, g5, g6⟩ := trace h.inv h.quiet h.fine j fun k hk => hm k (by omega)
    have hr : M.Runs p (M.wAt p (M.newWarp p w) j) := ⟨g2.1, g2.2, hne⟩
    have hc : M.countLanes (M.activeMask (M.wAt p (M.newWarp p w) j)) = M.countTo (M.activeMask (M.wAt p (M.newWarp p w) j)) 8 := by
      unfold M.countLanes
      rw [if_pos (active_mask hr)]
    have hle := (count_in (M.activeMask (M.wAt p (M.newWarp p w) j)) 8).2
    have e1 : (M.costTo p (M.newWarp p w) (j + 1)).Steps = (M.costTo p (M.newWarp p w) j).Steps + 1 := rfl
    have e2 : (M.costTo p (M.newWarp p w) (j + 1)).Active = (M.costTo p (M.newWarp p w) j).Active + M.countLanes (M.activeMask (M.wAt p (M.newWarp p w) j)) := rfl
    have e3 : (M.costTo p (M.newWarp p w) (j + 1)).Splits = if M.splits p (M.wAt p (M.newWarp p w) j) = true then (M.costTo p (M.newWarp p w) j).Splits + 1 else (M.costTo p (M.newWarp p w) j).Splits := rfl
    have e4 : csum p (M.newWarp p w) (j + 1) = csum p (M.newWarp p w) j + M.countTo (M.activeMask (M.wAt p (M.newWarp p w) j)) 8 := rfl
    refine ⟨by rw [e1, i1]; push_cast; omega, by rw [e2, e4, i2, hc], by rw [e4]; push_cast; omega, ?_, fun h0 => ?_⟩
    · rw [e3]; split <;> omega
    · rw [e3] at h0
      split at h0
      · omega
      · rename_i hs
        obtain ⟨k1, k2⟩ := i5 h0
        obtain ⟨f, k3, k4⟩ := k2.resolve_left hne
        have hact : M.activeMask (M.wAt p (M.newWarp p w) j) = 255 := by
          rw [activeMask_top hne, k3, show M.lastF [f] = f from rfl, k4]
        have h8 : M.countTo 255 8 = 8 := by decide
        refine ⟨by rw [e4, hact, h8, k1]; push_cast; omega, ?_⟩
        have e5 : (M.wAt p (M.newWarp p w) (j + 1)).Frames = M.dropF (M.setTop [f] (M.turnPc p (M.wAt p (M.newWarp p w) j))) p.length := by
          show (M.stepW p _).Frames = _
          unfold M.stepW
          rw [if_neg hs]
          show M.dropF (M.setTop (M.wAt p (M.newWarp p w) j).Frames _) _ = _
          rw [k3]
        have e6 : M.setTop [f] (M.turnPc p (M.wAt p (M.newWarp p w) j)) = [⟨M.turnPc p (M.wAt p (M.newWarp p w) j), f.Stop, f.Mask⟩] := setTop_app [] f _
        rw [e5, e6]
        have e7 : ∀ F : D.Frame, M.dropF [F] p.length = [] ∨ M.dropF [F] p.length = [F] := fun F => by
          have : M.dropF [F] p.length = if (rd [F] ((0 : Nat) : Int)).Pc ≠ (rd [F] ((0 : Nat) : Int)).Stop ∧ (rd [F] ((0 : Nat) : Int)).Pc ≠ ((p.length : Nat) : Int) then [F].take 1 else [] := rfl
          rw [this]
          split
          · exact .inr rfl
          · exact .inl rfl
        rcases e7 ⟨M.turnPc p (M.wAt p (M.newWarp p w) j), f.Stop, f.Mask⟩ with e8 | e8
        · exact .inl e8
        · exact .inr ⟨_, e8, k4⟩
end Go.V
set_option linter.unusedVariables false
namespace Go.V
def wp.spec_DrawQuiet (xs0 : List Int) (Q : (List D.Ins) → Prop) : Prop :=
  (M.spec_l01New_pre xs0 ∧ ∀ r21, r21 = M.spec_l01New xs0 → (M.spec_l05Quiet_pre (⟨xs0, r21.i, r21.h⟩ : D.Cur) ∧ ∀ r27, r27 = M.spec_l05Quiet (⟨xs0, r21.i, r21.h⟩ : D.Cur) → Q r27.1))
end Go.V
set_option linter.unusedVariables false
set_option linter.unusedSimpArgs false
set_option maxRecDepth 20000
namespace Go.V
theorem wp.spec_DrawQuiet.math (b : List Int) (h : M.spec_DrawQuiet_pre b) : wp.spec_DrawQuiet b (fun r => r = M.spec_DrawQuiet b) := by
  have hn := new_ok h
  refine ⟨h, fun r hr => ?_⟩
  have e : (⟨b, r.i, r.h⟩ : D.Cur) = M.spec_l01New b := by subst hr; rfl
  rw [e]
  refine ⟨hn, fun r2 hr2 => ?_⟩
  subst hr2; rfl
theorem place_in {b : List Int} (h : M.Long b) {k n : Int} (h0 : 0 ≤ k) (hk : k < 12) (hn : 0 < n) : 0 ≤ Int.tmod (rd (M.spec_DrawPlaces b) k) n ∧ Int.tmod (rd (M.spec_DrawPlaces b) k) n < n := by
  have hpl : (M.spec_DrawPlaces b).length = 12 := places_len 12 _
  have := places_good 12 (M.spec_l01New b) _ (rd_of (xs := M.spec_DrawPlaces b) (i := k) h0 (by omega))
  exact tmod_in this.1 hn
theorem quiet_len (b : List Int) (h : M.Long b) : (M.spec_DrawQuiet b).length ≤ 22 ∧ M.isQuiet (M.spec_DrawQuiet b) = true := by
  have := quiet_good (new_ok h)
  exact ⟨this.2, this.1⟩
theorem drawn_ends (b : List Int) (h : M.Long b) {w : Int} (hw : 0 ≤ w ∧ w ≤ 2) : ∃ st R, Ends8 (M.spec_DrawQuiet b) w st R := quiet_ends8 (new_ok h) hw
end Go.V
set_option linter.unusedVariables false
namespace Go.V
def wp.impl_AddCosts (s0 : D.Cost) (s1 : D.Cost) (Q : D.Cost → Prop) : Prop :=
  Q (⟨(IntKind.wrap .i64 (s0.Steps + s1.Steps)), (IntKind.wrap .i64 (s0.Active + s1.Active)), (IntKind.wrap .i64 (s0.Splits + s1.Splits))⟩ : D.Cost)
def wp.impl_IdleLanes (s0 : D.Cost) (Q : Int → Prop) : Prop :=
  (∀ r23, r23 = M.impl_within s0.Steps 0 8000 → bcase (!r23) (Q (-1)) ((∀ r28, r28 = M.impl_within s0.Active 0 (IntKind.wrap .i64 (8 * s0.Steps)) → bcase (!r28) (Q (-1)) (Q (IntKind.wrap .i64 ((IntKind.wrap .i64 (8 * s0.Steps)) - s0.Active))))))
def wp.impl_Efficiency (s0 : D.Cost) (Q : Int → Prop) : Prop :=
  (M.impl_IdleLanes_pre s0 ∧ ∀ r23, r23 = M.impl_IdleLanes s0 → bcase (decide (r23 < 0)) (Q (-1)) (bcase (s0.Steps == 0) (Q 1000) (((((IntKind.wrap .i64 (8 * s0.Steps)) : Int) ≠ 0) ∧ Q (IntKind.wrap .i64 (Int.tdiv (IntKind.wrap .i64 (1000 * s0.Active)) (IntKind.wrap .i64 (8 * s0.Steps))))))))
def wp.laws_FnCosts (xs0 : List Int) (Q : Bool → Prop) : Prop :=
  (∀ r21, r21 = M.laws_big xs0 → bcase r21 (Q true) ((M.spec_DrawQuiet_pre xs0 ∧ ∀ r26, r26 = M.spec_DrawQuiet xs0 → (M.spec_DrawPlaces_pre xs0 ∧ ∀ r33, r33 = M.spec_DrawPlaces xs0 → ((0 ≤ (0 : Int) ∧ (0 : Int) < ((r33.length : Nat) : Int)) ∧ (M.impl_CostOf_pre r26 (Int.tmod (rd r33 0) 3) ∧ ∀ r46, r46 = M.impl_CostOf r26 (Int.tmod (rd r33 0) 3) → (∀ r55, r55 = M.impl_AddCosts r46.1 r46.1 → (M.impl_Efficiency_pre r46.1 ∧ ∀ r64, r64 = M.impl_Efficiency r46.1 → bcase r46.2 ((M.impl_SumAlone_pre r26 (Int.tmod (rd r33 0) 3) ∧ ∀ r75, r75 = M.impl_SumAlone r26 (Int.tmod (rd r33 0) 3) → bcase (r46.1.Active == r75) ((M.impl_IdleLanes_pre r46.1 ∧ ∀ r80, r80 = M.impl_IdleLanes r46.1 → bcase (r80 == (IntKind.wrap .i64 ((IntKind.wrap .i64 (8 * r46.1.Steps)) - r46.1.Active))) (bcase (decide (r64 ≥ 125)) (bcase (decide (r64 ≤ 1000)) (bcase (r55.Active == (IntKind.wrap .i64 (2 * r46.1.Active))) (bcase (decide (r46.1.Splits > 0)) (Q true) (Q (r64 == 1000))) (Q false)) (Q false)) (Q false)) (Q false))) (Q false))) (Q false)))))))))
end Go.V
set_option linter.unusedVariables false
set_option linter.unusedSimpArgs false
set_option maxRecDepth 20000
namespace Go.V
theorem wp.impl_AddCosts.math (a b : D.Cost) : wp.impl_AddCosts a b (fun r => r = M.impl_AddCosts a b) := rfl
theorem wp.impl_IdleLanes.math (c : D.Cost) (h : M.impl_IdleLanes_pre c) : wp.impl_IdleLanes c (fun r => r = M.impl_IdleLanes c) := by
  obtain ⟨h1, h2, h3, h4⟩ := h
  intro r hr
  have hr : r = M.isIn c.Steps 0 8000 := hr
  rw [w64 (x := 8 * c.Steps) (by omega) (by omega)]
  refine bcase_mk (fun e => ?_) fun e r2 hr2 => bcase_mk (fun e2 => ?_) fun e2 => ?_
  · have : M.isIn c.Steps 0 8000 = false := by rw [← hr]; simpa using e
    unfold M.impl_IdleLanes
    rw [this]; rfl
  · have : M.isIn c.Active 0 (8 * c.Steps) = false := by rw [← show r2 = M.isIn c.Active 0 (8 * c.Steps) from hr2]; simpa using e2
    unfold M.impl_IdleLanes
    rw [this, Bool.and_false]; rfl
  · have q1 : M.isIn c.Steps 0 8000 = true := by rw [← hr]; simpa using e
    have q2 : M.isIn c.Active 0 (8 * c.Steps) = true := by rw [← show r2 = M.isIn c.Active 0 (8 * c.Steps) from hr2]; simpa using e2
    rw [w64 (by omega) (by omega)]
    unfold M.impl_IdleLanes
    rw [q1, q2, if_pos (show (true && true) = true from rfl)]
theorem wp.impl_Efficiency.math (c : D.Cost) (h : M.impl_Efficiency_pre c) : wp.impl_Efficiency c (fun r => r = M.impl_Efficiency c) := by
  obtain ⟨h1, h2, h3, h4⟩ := h
  refine ⟨⟨h1, h2, h3, h4⟩, fun r hr => ?_⟩
  subst hr
  rw [w64 (x := 8 * c.Steps) (by omega) (by omega), w64 (x := 1000 * c.Active) (by omega) (by omega)]
  unfold M.impl_Efficiency
  refine bcase_mk (fun e => ?_) fun e => bcase_mk (fun e2 => ?_) fun e2 => ⟨?_, ?_⟩
  · rw [if_pos (by simpa using e)]
  · rw [if_neg (by simpa using e), if_pos (by simpa using e2)]
  · have : c.Steps ≠ 0 := by simpa using e2
    omega
  · have hs : c.Steps ≠ 0 := by simpa using e2
    rw [if_neg (by simpa using e), if_neg hs]
    have a1 : 0 ≤ Int.tdiv (1000 * c.Active) (8 * c.Steps) := Int.tdiv_nonneg (by omega) (by omega)
    have a2 : Int.tdiv (1000 * c.Active) (8 * c.Steps) ≤ 1000 * c.Active := Int.tdiv_le_self _ (by omega)
    exact w64 (by omega) (by omega)
theorem wp.laws_FnCosts.math (b : List Int) (h : M.laws_FnCosts_pre b) : wp.laws_FnCosts b (fun r => r = M.laws_FnCosts b) := by
  intro r0 _
  refine bcase_mk (fun _ => rfl) fun _ => ⟨h, fun r1 g1 => ⟨h, fun r2 g2 => ?_⟩⟩
  subst g1
  subst g2
  have hpl : (M.spec_DrawPlaces b).length = 12 := places_len 12 _
  have hw := place_in h (k := 0) (n := 3) (by omega) (by omega) (by omega)
  obtain ⟨hl, hq⟩ := quiet_len b h
  obtain ⟨st, R, hE⟩ := drawn_ends b h (w := Int.tmod (rd (M.spec_DrawPlaces b) 0) 3) (by omega)
  generalize Int.tmod (rd (M.spec_DrawPlaces b) 0) 3 = w at *
  generalize M.spec_DrawQuiet b = p at *
  have hlong : M.Long p := by unfold M.Long; omega
  obtain ⟨m, h1, h2, h3, h4, h5, h6, h7⟩ := hE.result
  obtain ⟨rem', g1, g2, g3, g4, g5, g6⟩ := trace hE.inv hE.quiet hE.fine m h5
  obtain ⟨c1, c2, c3, c4, c5⟩ := hE.costs h5 m (Nat.le_refl _)
  have hs8 := sumTo_le 8 fun i hi => (hE.each i hi).1
  have hcost : M.costOf p w = (M.costTo p (M.newWarp p w) m, true) := by
    unfold M.costOf
    rw [h3, if_pos rfl]
    show (M.costTo p (M.newWarp p w) ((m : Int)).toNat, true) = _
    rw [Int.toNat_natCast]
  generalize hC : M.costTo p (M.newWarp p w) m = C at *
  have hA : C.Active = ((sumTo st 8 : Nat) : Int) := c2.trans h7
  have hA8 : C.Active ≤ 8 * (m : Int) := by rw [c2]; exact c3
  have hAm : (m : Int) ≤ C.Active := by omega
  have hidle : M.impl_IdleLanes C = 8 * C.Steps - C.Active := by
    unfold M.impl_IdleLanes
    rw [if_pos (by simp only [M.isIn, Bool.and_eq_true, decide_eq_true_eq]; omega)]
  have heff : M.impl_Efficiency C = if C.Steps = 0 then 1000 else Int.tdiv (1000 * C.Active) (8 * C.Steps) := by
    unfold M.impl_Efficiency
    rw [hidle, if_neg (by omega)]
  have he : 125 ≤ M.impl_Efficiency C ∧ M.impl_Efficiency C ≤ 1000 ∧ (C.Active = 8 * (m : Int) → M.impl_Efficiency C = 1000) := by
    rw [heff]
    split
    · omega
    · rename_i hm0
      rw [Int.tdiv_eq_ediv_of_nonneg (by omega)]
      refine ⟨?_, ?_, fun e => ?_⟩
      · rw [Int.le_ediv_iff_mul_le (by omega)]; omega
      · have : 1000 * C.Active / (8 * C.Steps) < 1001 := by
          rw [Int.ediv_lt_iff_lt_mul (by omega)]; omega
        omega
      · rw [e, c1, show 1000 * (8 * (m : Int)) = 1000 * (8 * (m : Int)) from rfl, Int.mul_ediv_cancel _ (by omega)]
  refine ⟨⟨by omega, by omega⟩, hlong, fun r hr => ?_⟩
  have hr : r = (C, true) := hr.trans hcost
  subst hr
  intro d hd
  refine ⟨⟨by show 0 ≤ C.Steps; omega, by show C.Steps ≤ 8000; omega, by show 0 ≤ C.Active; omega, by show C.Active ≤ 64000; omega⟩, fun e hE2 => ?_⟩
  refine bcase_t rfl ⟨hlong, fun s hs => ?_⟩
  have hs : s = M.sumAlone p w := hs
  rw [hE.sum] at hs
  refine bcase_t (by rw [hs, hA]; simp) ⟨⟨by show 0 ≤ C.Steps; omega, by show C.Steps ≤ 8000; omega, by show 0 ≤ C.Active; omega, by show C.Active ≤ 64000; omega⟩, fun i hi => ?_⟩
  have hd2 : d.Active = 2 * C.Active := by
    rw [hd]
    show IntKind.wrap .i64 (C.Active + C.Active) = _
    rw [w64 (by omega) (by omega)]; omega
  have e1 : IntKind.wrap .i64 (8 * C.Steps) = 8 * C.Steps := w64 (by omega) (by omega)
  have e2 : IntKind.wrap .i64 (8 * C.Steps - C.Active) = 8 * C.Steps - C.Active := w64 (by omega) (by omega)
  have e3 : IntKind.wrap .i64 (2 * C.Active) = 2 * C.Active := w64 (by omega) (by omega)
  have hee : e = M.impl_Efficiency C := hE2
  have hii : i = 8 * C.Steps - C.Active := hi.trans hidle
  refine bcase_t (by rw [hii, e1, e2]; simp) (bcase_t (by rw [decide_eq_true_eq, hee]; exact he.1) (bcase_t (by rw [decide_eq_true_eq, hee]; exact he.2.1) (bcase_t (by rw [hd2, e3]; simp) (bcase_mk (fun _ => rfl) fun hsp => ?_))))
  have hsp : ¬ C.Splits > 0 := by simpa using hsp
  have := (c5 (by omega)).1
  show (e == 1000) = true
  rw [hee, he.2.2 (by rw [c2]; exact this)]; rfl
end Go.V
