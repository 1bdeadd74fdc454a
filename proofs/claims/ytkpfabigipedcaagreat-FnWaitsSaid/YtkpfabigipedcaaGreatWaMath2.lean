import Derived.Test.YtkpfabigipedcaaGreatWaMath1
set_option linter.unusedVariables false
set_option linter.unusedSimpArgs false
set_option maxRecDepth 20000
namespace Go.V
open IntKind (wrap)
def plainI (i : D.Ins) : Bool := M.isIn i.Op 1 9 && M.insOk i 32
inductive Seg : Nat → List D.Ins → Prop
 | nil (b : Nat) : Seg b []
 | cat {b : Nat} {s t : List D.Ins} : Seg b s → Seg (b + s.length) t → Seg b (s ++ t)
 | one {b : Nat} {i : D.Ins} : plainI i = true → Seg b [i]
 | thn {b : Nat} {r : Int} {s : List D.Ins} : 0 ≤ r → r ≤ 3 → Seg (b + 1) s → Seg b (⟨10, r, ((b + 1 + s.length : Nat) : Int), 0⟩ :: s)
 | els {b : Nat} {r : Int} {s t : List D.Ins} : 0 ≤ r → r ≤ 3 → Seg (b + 1) s → Seg (b + 2 + s.length) t → Seg b (⟨10, r, ((b + 2 + s.length : Nat) : Int), 0⟩ :: (s ++ ⟨11, 0, ((b + 2 + s.length + t.length : Nat) : Int), 0⟩ :: t))
 | loop {b : Nat} : b ≤ 14 → Seg b [⟨8, 3, 0, 0⟩, ⟨10, 3, ((b + 6 : Nat) : Int), 0⟩, ⟨3, 0, 0, 1⟩, ⟨1, 2, 1, 0⟩, ⟨4, 3, 3, 2⟩, ⟨11, 0, ((b + 1 : Nat) : Int), 0⟩]
theorem plainI_ok {i : D.Ins} (h : plainI i = true) {n : Int} (hn : 0 ≤ n ∧ n ≤ 32) : M.insOk i n = true ∧ M.isLocal i = true := by
 unfold plainI at h
 rw [Bool.and_eq_true] at h
 obtain ⟨h1, h2⟩ := h
 have h1' := h1
 simp only [M.isIn, Bool.and_eq_true, decide_eq_true_eq] at h1'
 refine ⟨?_, by simp only [M.isLocal, M.isIn, Bool.and_eq_true, decide_eq_true_eq]; omega⟩
 have e : M.isIn n 0 32 = true := by simp only [M.isIn, Bool.and_eq_true, decide_eq_true_eq]; omega
 have e32 : M.isIn 32 0 32 = true := by decide
 unfold M.insOk at h2 ⊢
 rw [e, Bool.true_and]
 rw [e32, Bool.true_and] at h2
 rw [if_neg (by omega : ¬ i.Op = 10), if_neg (by omega : ¬ i.Op = 11)] at h2 ⊢
 exact h2
theorem seg_ok {b : Nat} {s : List D.Ins} (h : Seg b s) : ∀ n : Nat, b + s.length ≤ n → n ≤ 32 → ∀ i ∈ s, M.insOk i (n : Int) = true ∧ M.isLocal i = true := by
 have br : ∀ (n : Nat) (r : Int) (t : Nat), 0 ≤ r → r ≤ 3 → t ≤ n → n ≤ 32 → M.insOk ⟨10, r, ((t : Nat) : Int), 0⟩ (n : Int) = true ∧ M.isLocal ⟨10, r, ((t : Nat) : Int), 0⟩ = true := fun n r t h0 h1 h2 h3 => by
  refine ⟨?_, rfl⟩
  simp only [M.insOk, M.isReg, M.isIn, Bool.and_eq_true, decide_eq_true_eq]
  simp
  omega
 have jm : ∀ (n t : Nat), t ≤ n → n ≤ 32 → M.insOk ⟨11, 0, ((t : Nat) : Int), 0⟩ (n : Int) = true ∧ M.isLocal ⟨11, 0, ((t : Nat) : Int), 0⟩ = true := fun n t h2 h3 => by
  refine ⟨?_, rfl⟩
  simp only [M.insOk, M.isReg, M.isIn, Bool.and_eq_true, decide_eq_true_eq]
  simp
  omega
 have pl : ∀ (n : Nat) (i : D.Ins), plainI i = true → n ≤ 32 → M.insOk i (n : Int) = true ∧ M.isLocal i = true := fun n i hi hn => plainI_ok hi ⟨by omega, by omega⟩
 induction h with
 | nil b => intro n _ _ i hi; simp at hi
 | cat _ _ ih1 ih2 =>
  intro n hn h32 i hi
  rw [List.length_append] at hn
  rcases List.mem_append.1 hi with hi | hi
  ·exact ih1 n (by omega) h32 i hi
  ·exact ih2 n (by omega) h32 i hi
 | one hp => intro n hn h32 i hi; rw [List.mem_singleton] at hi; subst hi; exact pl n _ hp h32
 | thn h0 h3 _ ih =>
  intro n hn h32 i hi
  rw [List.length_cons] at hn
  rcases List.mem_cons.1 hi with hi | hi
  ·subst hi; exact br n _ _ h0 h3 (by omega) h32
  ·exact ih n (by omega) h32 i hi
 | els h0 h3 _ _ ih1 ih2 =>
  intro n hn h32 i hi
  rw [List.length_cons, List.length_append, List.length_cons] at hn
  rcases List.mem_cons.1 hi with hi | hi
  ·subst hi; exact br n _ _ h0 h3 (by omega) h32
  rcases List.mem_append.1 hi with hi | hi
  ·exact ih1 n (by omega) h32 i hi
  rcases List.mem_cons.1 hi with hi | hi
  ·subst hi; exact jm n _ (by omega) h32
  ·exact ih2 n (by omega) h32 i hi
 | loop hb =>
  intro n hn h32 i hi
  simp only [List.length_cons, List.length_nil] at hn
  simp only [List.mem_cons, List.not_mem_nil, or_false] at hi
  rcases hi with hi | hi | hi | hi | hi | hi <;> subst hi
  ·exact pl n _ rfl h32
  ·exact br n _ _ (by omega) (by omega) (by omega) h32
  ·exact pl n _ rfl h32
  ·exact pl n _ rfl h32
  ·exact pl n _ rfl h32
  ·exact jm n _ (by omega) h32
theorem plain_plainI (c : D.Cur) : plainI (M.spec_l04Plain c).1 = true := by
 unfold plainI
 rw [(plain_good c (n := 32) ⟨by omega, by omega⟩).1, Bool.and_true]
 have h := below_in c (n := 9) (by omega)
 have e : wrap .i64 (1 + (M.spec_l01Below c 9).1) = 1 + (M.spec_l01Below c 9).1 := w64 (by omega) (by omega)
 have : (M.spec_l04Plain c).1.Op = 1 + (M.spec_l01Below c 9).1 := by
  unfold M.spec_l04Plain
  simp only
  rw [e]
  split
  ·rfl
  split
  ·rfl
  split <;> rfl
 rw [this]
 simp only [M.isIn, Bool.and_eq_true, decide_eq_true_eq]
 omega
theorem once_b (c : D.Cur) (n : Int) : (M.once c n).2.b = c.b := below_b c n
theorem once_ok {c : D.Cur} (h : M.CurOk c) (n : Int) : M.CurOk (M.once c n).2 := below_ok h n
theorem set_at {p s : List D.Ins} {x y : D.Ins} : (p ++ x :: s).set p.length y = p ++ y :: s := by
 rw [List.set_append_right _ _ (Nat.le_refl _), Nat.sub_self]; rfl
theorem setB_at {p s : List D.Ins} {x : D.Ins} {k : Nat} (hk : p.length = k) (v : Int) : M.setB (p ++ x :: s) k v = p ++ ⟨x.Op, x.A, v, x.C⟩ :: s := by
 subst hk
 unfold M.setB
 rw [rd_app rfl, set_at]
def Grows (L : Nat) (rec : D.Cur → List D.Ins → List D.Ins × D.Cur) : Prop :=
 ∀ (c : D.Cur) (p : List D.Ins), M.CurOk c → M.CurOk (rec c p).2 ∧ (rec c p).2.b = c.b ∧ ∃ s, (rec c p).1 = p ++ s ∧ Seg p.length s ∧ p.length + s.length ≤ max p.length L
theorem countLoop_seg (p : List D.Ins) : M.countLoop p = p ++ [⟨8, 3, 0, 0⟩, ⟨10, 3, ((p.length + 6 : Nat) : Int), 0⟩, ⟨3, 0, 0, 1⟩, ⟨1, 2, 1, 0⟩, ⟨4, 3, 3, 2⟩, ⟨11, 0, ((p.length + 1 : Nat) : Int), 0⟩] := by
 have e : M.loopAll p = (p ++ [⟨8, 3, 0, 0⟩]) ++ (⟨10, 3, 0, 0⟩ : D.Ins) :: [⟨3, 0, 0, 1⟩, ⟨1, 2, 1, 0⟩, ⟨4, 3, 3, 2⟩, ⟨11, 0, ((p.length + 1 : Nat) : Int), 0⟩] := by
  unfold M.loopAll M.loopHead; simp
 have l1 : (M.loopHead p).length = (p ++ [(⟨8, 3, 0, 0⟩ : D.Ins)]).length := rfl
 have l2 : (M.loopAll p).length = p.length + 6 := by rw [e]; simp
 unfold M.countLoop
 rw [l2, e, setB_at l1.symm]
 simp
theorem ifIn_grows {L : Nat} {rec : D.Cur → List D.Ins → List D.Ins × D.Cur} (hr : Grows L rec) (hL : 20 ≤ L) {c : D.Cur} (hc : M.CurOk c) {p : List D.Ins} (hp : p.length < 20) :
    M.CurOk (M.ifIn rec c p).2 ∧ (M.ifIn rec c p).2.b = c.b ∧ ∃ s, (M.ifIn rec c p).1 = p ++ s ∧ Seg p.length s ∧ p.length + s.length ≤ L + 1 := by
 have hreg := below_in c (n := 4) (by omega)
 have c1 := below_ok hc 4
 have b1 := below_b c 4
 obtain ⟨c2, b2, s1, e1, g1, n1⟩ := hr (M.spec_l01Below c 4).2 (p ++ [⟨10, (M.spec_l01Below c 4).1, 0, 0⟩]) c1
 have hb1 : M.branchIn rec c p = rec (M.spec_l01Below c 4).2 (p ++ [⟨10, (M.spec_l01Below c 4).1, 0, 0⟩]) := rfl
 rw [← hb1] at c2 b2 e1
 rw [List.length_append, List.length_singleton] at g1 n1
 have e1' : (M.branchIn rec c p).1 = p ++ ⟨10, (M.spec_l01Below c 4).1, 0, 0⟩ :: s1 := by rw [e1]; simp
 have l1 : (M.branchIn rec c p).1.length = p.length + 1 + s1.length := by rw [e1']; simp; omega
 have c3 := once_ok c2 2
 have b3 := once_b (M.branchIn rec c p).2 2
 unfold M.ifIn
 split
 ·refine ⟨c3, by rw [b3, b2, b1], _, ?_, Seg.thn (r := (M.spec_l01Below c 4).1) (by omega) (by omega) g1, ?_⟩
  ·show M.setB _ _ _ = _
   rw [l1, e1', setB_at rfl]
  ·rw [List.length_cons]; omega
 ·have e2 : M.setB ((M.branchIn rec c p).1 ++ [⟨11, 0, 0, 0⟩]) p.length (((M.branchIn rec c p).1 ++ [(⟨11, 0, 0, 0⟩ : D.Ins)]).length : Int) = p ++ ⟨10, (M.spec_l01Below c 4).1, ((p.length + 2 + s1.length : Nat) : Int), 0⟩ :: (s1 ++ [⟨11, 0, 0, 0⟩]) := by
    rw [List.length_append, List.length_singleton, l1, e1', List.append_assoc, List.cons_append, setB_at rfl]
    congr 4
    omega
  obtain ⟨c4, b4, s2, e3, g2, n2⟩ := hr (M.once (M.branchIn rec c p).2 2).2 (p ++ ⟨10, (M.spec_l01Below c 4).1, ((p.length + 2 + s1.length : Nat) : Int), 0⟩ :: (s1 ++ [⟨11, 0, 0, 0⟩])) c3
  have hb2 : M.elseIn rec (M.once (M.branchIn rec c p).2 2).2 p (M.branchIn rec c p).1 = rec (M.once (M.branchIn rec c p).2 2).2 (p ++ ⟨10, (M.spec_l01Below c 4).1, ((p.length + 2 + s1.length : Nat) : Int), 0⟩ :: (s1 ++ [⟨11, 0, 0, 0⟩])) := by
   unfold M.elseIn; rw [e2]
  rw [← hb2] at c4 b4 e3
  have lq : (p ++ ⟨10, (M.spec_l01Below c 4).1, ((p.length + 2 + s1.length : Nat) : Int), 0⟩ :: (s1 ++ [(⟨11, 0, 0, 0⟩ : D.Ins)])).length = p.length + 2 + s1.length := by simp; omega
  rw [lq] at g2 n2
  have e3' : (M.elseIn rec (M.once (M.branchIn rec c p).2 2).2 p (M.branchIn rec c p).1).1 = (p ++ ⟨10, (M.spec_l01Below c 4).1, ((p.length + 2 + s1.length : Nat) : Int), 0⟩ :: s1) ++ ⟨11, 0, 0, 0⟩ :: s2 := by rw [e3]; simp
  have l3 : (M.elseIn rec (M.once (M.branchIn rec c p).2 2).2 p (M.branchIn rec c p).1).1.length = p.length + 2 + s1.length + s2.length := by rw [e3']; simp; omega
  refine ⟨c4, by rw [b4, b3, b2, b1], _, ?_, Seg.els (r := (M.spec_l01Below c 4).1) (by omega) (by omega) g1 g2, ?_⟩
  ·show M.setB _ _ _ = _
   rw [l3, l1, e3', setB_at (by simp; omega)]
   simp
  ·rw [List.length_cons, List.length_append, List.length_cons]; omega
theorem one_grows {L : Nat} {rec : D.Cur → List D.Ins → List D.Ins × D.Cur} (hr : Grows L rec) (hL : 20 ≤ L) (deep : Bool) {c : D.Cur} (hc : M.CurOk c) {p : List D.Ins} (hp : p.length < 20) :
    M.CurOk (M.bodyOne rec deep c p).2 ∧ (M.bodyOne rec deep c p).2.b = c.b ∧ ∃ s, (M.bodyOne rec deep c p).1 = p ++ s ∧ Seg p.length s ∧ p.length + s.length ≤ if deep then L + 1 else 20 := by
 have c1 := below_ok hc 5
 have b1 := below_b c 5
 obtain ⟨B, hB, hB1, hB2⟩ : ∃ B, (if deep then L + 1 else 20) = B ∧ 20 ≤ B ∧ (deep = true → B = L + 1) := ⟨_, rfl, by split <;> omega, fun h => if_pos h⟩
 rw [hB]
 have same : M.CurOk (M.spec_l01Below c 5).2 ∧ (M.spec_l01Below c 5).2.b = c.b ∧ ∃ s, p = p ++ s ∧ Seg p.length s ∧ p.length + s.length ≤ B :=
  ⟨c1, b1, [], by simp, Seg.nil _, by simp only [List.length_nil]; omega⟩
 unfold M.bodyOne
 split
 ·split
  ·rename_i hd
   obtain ⟨g1, g2, s, g3, g4, g5⟩ := ifIn_grows hr hL c1 hp
   exact ⟨g1, by rw [g2, b1], s, g3, g4, by rw [hB2 hd]; exact g5⟩
  ·exact same
 split
 ·split
  ·rename_i hd
   refine ⟨c1, b1, _, countLoop_seg p, Seg.loop (by omega), ?_⟩
   have := hB2 hd.1
   simp only [List.length_cons, List.length_nil]
   omega
  ·exact same
 ·refine ⟨plain_ok c1, by rw [plain_b, b1], _, rfl, Seg.one (plain_plainI _), ?_⟩
  simp only [List.length_cons, List.length_nil]
  omega
theorem bodyN_grows {L : Nat} {rec : D.Cur → List D.Ins → List D.Ins × D.Cur} (hr : Grows L rec) (hL : 20 ≤ L) (deep : Bool) : ∀ n, Grows (if deep then L + 1 else 20) (M.bodyN rec deep n)
 | 0, c, p, hc => ⟨hc, rfl, [], by simp [M.bodyN], Seg.nil _, by simp only [List.length_nil]; omega⟩
 | n + 1, c, p, hc => by
  rw [M.bodyN]
  split
  ·rename_i hp
   obtain ⟨g1, g2, s, g3, g4, g5⟩ := one_grows hr hL deep hc (p := p) (by omega)
   obtain ⟨k1, k2, t, k3, k4, k5⟩ := bodyN_grows hr hL deep n (M.bodyOne rec deep c p).2 (M.bodyOne rec deep c p).1 g1
   rw [g3, List.length_append] at k4 k5
   refine ⟨k1, by rw [k2, g2], s ++ t, by rw [k3, g3, List.append_assoc], Seg.cat g4 k4, ?_⟩
   rw [List.length_append]
   have : p.length ≤ if deep = true then L + 1 else 20 := by split <;> omega
   omega
  ·exact ⟨hc, rfl, [], by simp, Seg.nil _, by simp only [List.length_nil]; omega⟩
theorem grows_mono {L K : Nat} {rec : D.Cur → List D.Ins → List D.Ins × D.Cur} (h : Grows L rec) (hk : L ≤ K) : Grows K rec := fun c p hc => by
 obtain ⟨g1, g2, s, g3, g4, g5⟩ := h c p hc
 exact ⟨g1, g2, s, g3, g4, by omega⟩
theorem grows_id : Grows 20 (fun c p => (p, c)) := fun c p hc => ⟨hc, rfl, [], by simp, Seg.nil _, by simp only [List.length_nil]; omega⟩
theorem body_grows : ∀ d, Grows (20 + d) (M.body d)
 | 0, c, p, hc => by
  obtain ⟨g1, g2, r⟩ := bodyN_grows grows_id (Nat.le_refl _) false (M.spec_l01Below c 4).1.toNat (M.spec_l01Below c 4).2 p (below_ok hc 4)
  exact ⟨g1, g2.trans (below_b c 4), r⟩
 | d + 1, c, p, hc => by
  obtain ⟨g1, g2, r⟩ := bodyN_grows (body_grows d) (by omega) true (M.spec_l01Below c 4).1.toNat (M.spec_l01Below c 4).2 p (below_ok hc 4)
  exact ⟨g1, g2.trans (below_b c 4), r⟩
end Go.V
namespace Go.V
open IntKind (wrap)
theorem fine_small {p : List D.Ins} {x : D.Warp} (h : M.Fine p x) : x.Frames.length ≤ 24 ∧ x.Regs.length = 32 := by
 have hw := h.2
 simp only [M.warpOf, M.areFrames, Bool.and_eq_true, Bool.or_eq_true, beq_iff_eq] at hw
 obtain ⟨h1, h2, h3, h4, h5⟩ := hw
 refine ⟨?_, h2⟩
 rcases h5 with h5 | h5
 ·have : x.Frames = [] := by simpa using h5
  rw [this]; simp
 ·simp only [M.endsOk, Bool.and_eq_true, decide_eq_true_eq] at h5
  exact h5.1
end Go.V
namespace Go.V
open IntKind (wrap)
theorem wAt_shift (p : List D.Ins) (x : D.Warp) : ∀ k, M.wAt p (M.stepW p x) k = M.wAt p x (k + 1)
 | 0 => rfl
 | k + 1 => by
  show M.stepW p (M.wAt p (M.stepW p x) k) = M.stepW p (M.wAt p x (k + 1))
  rw [wAt_shift p x k]
end Go.V
namespace Go.V
open IntKind (wrap)
theorem wp.spec_l01Once.math (c : D.Cur) (n : Int) (h : M.spec_l01Once_pre c n) : wp.spec_l01Once c n (fun r => r = M.spec_l01Once c n) := by
 refine ⟨h, fun r hr => ?_⟩
 rw [hr, cur_eta (below_b c n)]; rfl
theorem spec_l05Body.dec {c : D.Cur} {p : List D.Ins} {x : Int} (h : M.spec_l05Body_pre c p x) (e : (x == 0) = false) : (wrap .i64 (x - 1)).toNat < x.toNat := by
 obtain ⟨_, _, h3, h4⟩ := h
 have e : x ≠ 0 := by simpa using e
 rw [w64 (by omega) (by omega)]; omega
def itB (rec : D.Cur → List D.Ins → List D.Ins × D.Cur) (deep : Bool) : Nat → D.Cur → List D.Ins → List D.Ins × D.Cur
 | 0, c, p => (p, c)
 | k + 1, c, p => M.bodyOne rec deep (itB rec deep k c p).2 (itB rec deep k c p).1
def recOf : Nat → D.Cur → List D.Ins → List D.Ins × D.Cur
 | 0 => fun c p => (p, c)
 | d + 1 => M.body d
def deepOf : Nat → Bool
 | 0 => false
 | _ + 1 => true
theorem body_eq (d : Nat) (c : D.Cur) (p : List D.Ins) : M.body d c p = M.bodyN (recOf d) (deepOf d) (M.spec_l01Below c 4).1.toNat (M.spec_l01Below c 4).2 p := by cases d <;> rfl
theorem recOf_grows : ∀ d, Grows (20 + d) (recOf d)
 | 0 => grows_id
 | d + 1 => grows_mono (body_grows d) (by omega)
theorem wp.spec_l05Body.math (c : D.Cur) (p : List D.Ins) (x : Int) (h : M.spec_l05Body_pre c p x) : wp.spec_l05Body c p x (fun r => r = M.spec_l05Body c p x) := by
 obtain ⟨h1, h2, h3, h4⟩ := h
 obtain ⟨d, rfl⟩ := Int.eq_ofNat_of_zero_le h3
 unfold wp.spec_l05Body
 refine ⟨h1, fun r0 g0 => ?_⟩
 subst g0
 have hb := below_in c (n := 4) (by omega)
 have hc0 := below_ok h1 4
 have hb0 := below_b c 4
 have eM : M.spec_l05Body c p (d : Int) = M.bodyN (recOf d) (deepOf d) (M.spec_l01Below c 4).1.toNat (M.spec_l01Below c 4).2 p := by
  unfold M.spec_l05Body
  rw [Int.toNat_natCast, body_eq]
 rw [eM]
 obtain ⟨n, hn⟩ := Int.eq_ofNat_of_zero_le hb.1
 generalize (M.spec_l01Below c 4).2 = c0 at *
 rw [hn] at hb ⊢
 rw [Int.toNat_natCast]
 refine loop_n n (fun k => ((itB (recOf d) (deepOf d) k c0 p).1, ((n : Int) - (k : Int)), (itB (recOf d) (deepOf d) k c0 p).2.i, (itB (recOf d) (deepOf d) k c0 p).2.h, ()))
  (fun k => M.CurOk (itB (recOf d) (deepOf d) k c0 p).2 ∧ (itB (recOf d) (deepOf d) k c0 p).2.b = c.b ∧ (k ≤ n → M.bodyN (recOf d) (deepOf d) n c0 p = M.bodyN (recOf d) (deepOf d) (n - k) (itB (recOf d) (deepOf d) k c0 p).2 (itB (recOf d) (deepOf d) k c0 p).1))
  (by simp [itB]) ⟨hc0, hb0, fun _ => rfl⟩ (fun k hk hF next hnx => ?_) fun hF next => ?_
 ·obtain ⟨f1, f2, f3⟩ := hF
  have f3 := f3 (by omega)
  have it : itB (recOf d) (deepOf d) (k + 1) c0 p = M.bodyOne (recOf d) (deepOf d) (itB (recOf d) (deepOf d) k c0 p).2 (itB (recOf d) (deepOf d) k c0 p).1 := rfl
  rw [it] at hnx
  generalize itB (recOf d) (deepOf d) k c0 p = y at *
  obtain ⟨q, e⟩ := y
  dsimp only at *
  refine bcase_t (by simp; omega) (bcase_mk (fun g => ?_) fun g => ?_)
  ·have g : (q.length : Int) < 20 := by simpa using g
   obtain ⟨k1, k2, s, k3, k4, k5⟩ := one_grows (recOf_grows d) (by omega) (deepOf d) f1 (p := q) (by omega)
   have ew : wrap .i64 ((n : Int) - (k : Int) - 1) = (n : Int) - ((k + 1 : Nat) : Int) := by rw [w64 (by omega) (by omega)]; omega
   have fin : ∀ P c', M.bodyOne (recOf d) (deepOf d) e q = (P, c') → next (P, wrap .i64 ((n : Int) - (k : Int) - 1), c'.i, c'.h, ()) := fun P c' hE => by
    rw [ew]
    have := hnx ⟨k1, k2.trans f2, fun _ => ?_⟩
    ·rw [hE] at this; exact this
    ·rw [f3, show n - k = (n - (k + 1)) + 1 by omega, M.bodyN, if_pos g]
   rw [cur_eta f2]
   refine ⟨f1, fun r5 g5 => ?_⟩
   subst g5
   have c5 := below_ok f1 5
   have b5 : (M.spec_l01Below e 5).2.b = c.b := (below_b e 5).trans f2
   rw [cur_eta b5]
   have hb5 := below_in e (n := 5) (by omega)
   refine bcase_mk (fun e0 => ?_) fun e0 => bcase_mk (fun e1 => ?_) fun e1 => ?_
   ·have e0 : (M.spec_l01Below e 5).1 = 0 := by simpa using e0
    cases d with
    | zero =>
     refine bcase_t rfl (fin _ _ ?_)
     unfold M.bodyOne
     rw [if_pos e0]; rfl
    | succ d =>
     refine bcase_f (by simp; omega) ?_
     have hM : M.bodyOne (recOf (d + 1)) (deepOf (d + 1)) e q = M.ifIn (M.body d) (M.spec_l01Below e 5).2 q := by
      unfold M.bodyOne
      rw [if_pos e0]; rfl
     rw [hM] at fin
     generalize (M.spec_l01Below e 5).2 = e5 at *
     refine ⟨c5, fun r6 g6 => ?_⟩
     subst g6
     have c6 := below_ok c5 4
     have b6 : (M.spec_l01Below e5 4).2.b = c.b := (below_b e5 4).trans b5
     have ed : wrap .i64 (((d + 1 : Nat) : Int) - 1) = (d : Int) := by rw [w64 (by omega) (by omega)]; omega
     have hbody : ∀ c p, M.spec_l05Body c p (d : Int) = M.body d c p := fun c p => by unfold M.spec_l05Body; rw [Int.toNat_natCast]
     simp only [cur_eta b6, ed, hbody]
     obtain ⟨i1, i2, s1, i3, i4, i5⟩ := body_grows d (M.spec_l01Below e5 4).2 (q ++ [⟨10, (M.spec_l01Below e5 4).1, 0, 0⟩]) c6
     rw [List.length_append, List.length_singleton] at i5
     refine ⟨by simp; omega, ⟨c6, by simp; omega, by omega, by omega⟩, fun r7 g7 => ?_⟩
     have hbr : M.branchIn (M.body d) e5 q = M.body d (M.spec_l01Below e5 4).2 (q ++ [⟨10, (M.spec_l01Below e5 4).1, 0, 0⟩]) := rfl
     rw [← g7] at hbr i1 i2 i3
     have hE : M.ifIn (M.body d) e5 q = if (M.once r7.2 2).1 then (M.setB r7.1 q.length (r7.1.length : Int), (M.once r7.2 2).2)
         else (M.setB (M.elseIn (M.body d) (M.once r7.2 2).2 q r7.1).1 r7.1.length ((M.elseIn (M.body d) (M.once r7.2 2).2 q r7.1).1.length : Int), (M.elseIn (M.body d) (M.once r7.2 2).2 q r7.1).2) := by
      unfold M.ifIn; rw [hbr]
     rw [hE] at fin
     have b7 : r7.2.b = c.b := i2.trans b6
     have l7 : r7.1.length = q.length + 1 + s1.length := by rw [i3]; simp; omega
     rw [cur_eta b7]
     refine ⟨i1, fun r8 g8 => ?_⟩
     have g8 : r8 = M.once r7.2 2 := g8
     rw [← g8] at fin
     have c8 : M.CurOk r8.2 := by rw [g8]; exact once_ok i1 2
     have b8 : r8.2.b = c.b := by rw [g8]; exact (once_b _ _).trans b7
     refine bcase_mk (fun t => ⟨by omega, ?_⟩) fun t => ⟨by simp; omega, by simp; omega, ?_⟩
     ·refine fin _ _ ?_
      rw [if_pos t, Int.toNat_natCast]; rfl
     ·rw [if_neg (by rw [t]; simp)] at fin
      simp only [cur_eta b8]
      have hel : M.elseIn (M.body d) r8.2 q r7.1 = M.body d r8.2 (List.set (r7.1 ++ [(⟨11, 0, 0, 0⟩ : D.Ins)]) ((q.length : Int).toNat) (⟨(rd (r7.1 ++ [(⟨11, 0, 0, 0⟩ : D.Ins)]) (q.length : Int)).Op, (rd (r7.1 ++ [(⟨11, 0, 0, 0⟩ : D.Ins)]) (q.length : Int)).A, ((r7.1 ++ [(⟨11, 0, 0, 0⟩ : D.Ins)]).length : Int), (rd (r7.1 ++ [(⟨11, 0, 0, 0⟩ : D.Ins)]) (q.length : Int)).C⟩ : D.Ins)) := by
       rw [Int.toNat_natCast]; rfl
      obtain ⟨j1, j2, s2, j3, j4, j5⟩ := body_grows d r8.2 (List.set (r7.1 ++ [(⟨11, 0, 0, 0⟩ : D.Ins)]) ((q.length : Int).toNat) (⟨(rd (r7.1 ++ [(⟨11, 0, 0, 0⟩ : D.Ins)]) (q.length : Int)).Op, (rd (r7.1 ++ [(⟨11, 0, 0, 0⟩ : D.Ins)]) (q.length : Int)).A, ((r7.1 ++ [(⟨11, 0, 0, 0⟩ : D.Ins)]).length : Int), (rd (r7.1 ++ [(⟨11, 0, 0, 0⟩ : D.Ins)]) (q.length : Int)).C⟩ : D.Ins)) c8
      refine ⟨⟨c8, by simp; omega, by omega, by omega⟩, fun r9 g9 => ?_⟩
      rw [← hel] at g9 j3
      rw [← g9] at fin j3
      refine ⟨?_, ?_⟩
      ·have : r9.1.length = r7.1.length + 1 + s2.length := by rw [j3, List.length_append, List.length_set, List.length_append]; rfl
       omega
      ·refine fin _ _ ?_
       rw [Int.toNat_natCast]; rfl
   ·have e0 : ¬ (M.spec_l01Below e 5).1 = 0 := by simpa using e0
    have e1 : (M.spec_l01Below e 5).1 = 1 := by simpa using e1
    have hM : M.bodyOne (recOf d) (deepOf d) e q = if deepOf d ∧ ¬ (q.length : Int) > 14 then (M.countLoop q, (M.spec_l01Below e 5).2) else (q, (M.spec_l01Below e 5).2) := by
     unfold M.bodyOne
     rw [if_neg e0, if_pos e1]
    rw [hM] at fin
    cases d with
    | zero =>
     refine bcase_t rfl (fin _ _ ?_)
     rw [if_neg (by simp [deepOf])]
    | succ d =>
     refine bcase_f (by simp; omega) (bcase_mk (fun g14 => fin _ _ ?_) fun g14 => ?_)
     ·have g14 : (q.length : Int) > 14 := by simpa using g14
      rw [if_neg (by simp only [not_and, Int.not_lt]; omega)]
     ·have g14 : ¬ (q.length : Int) > 14 := by simpa using g14
      refine ⟨by simp; omega, by simp; omega, by simp; omega, by simp; omega, by simp; omega, fin _ _ ?_⟩
      rw [if_pos ⟨rfl, g14⟩, Int.toNat_natCast]; rfl
   ·have e0 : ¬ (M.spec_l01Below e 5).1 = 0 := by simpa using e0
    have e1 : ¬ (M.spec_l01Below e 5).1 = 1 := by simpa using e1
    refine ⟨c5, fun r6 g6 => ⟨by simp; omega, fin _ _ ?_⟩⟩
    unfold M.bodyOne
    rw [if_neg e0, if_neg e1, g6]
  ·have g : ¬ (q.length : Int) < 20 := by simpa using g
   rw [f3, show n - k = (n - (k + 1)) + 1 by omega, M.bodyN, if_neg g, cur_eta f2]
 ·obtain ⟨f1, f2, f3⟩ := hF
  refine bcase_f (by simp) ?_
  rw [f3 (Nat.le_refl _), Nat.sub_self, cur_eta f2]; rfl
theorem runW_stop (p : List D.Ins) (k : Nat) (x : D.Warp) (n : Int) (h : M.spec_l13Local p x = false) : M.runW p k x n = (x, n) := by
 cases k with
 | zero => rfl
 | succ k => simp only [M.runW]; rw [if_neg (by rw [h]; simp)]
end Go.V
namespace Go.V
open IntKind (wrap)
def memI (i : D.Ins) : Bool := M.isIn i.Op 13 16 && M.insOk i 32
inductive MSeg : Nat → List D.Ins → Prop
 | nil (b : Nat) : MSeg b []
 | cat {b : Nat} {s t : List D.Ins} : MSeg b s → MSeg (b + s.length) t → MSeg b (s ++ t)
 | seg {b : Nat} {s : List D.Ins} : Seg b s → MSeg b s
 | mem {b : Nat} {i : D.Ins} : memI i = true → MSeg b [i]
theorem memI_ok {i : D.Ins} (h : memI i = true) {n : Int} (hn : 0 ≤ n ∧ n ≤ 32) : M.insOk i n = true := by
 unfold memI at h
 rw [Bool.and_eq_true] at h
 obtain ⟨h1, h2⟩ := h
 simp only [M.isIn, Bool.and_eq_true, decide_eq_true_eq] at h1
 have e : M.isIn n 0 32 = true := by simp only [M.isIn, Bool.and_eq_true, decide_eq_true_eq]; omega
 have e32 : M.isIn 32 0 32 = true := by decide
 unfold M.insOk at h2 ⊢
 rw [e, Bool.true_and]
 rw [e32, Bool.true_and] at h2
 rw [if_neg (by omega : ¬ i.Op = 10), if_neg (by omega : ¬ i.Op = 11)] at h2 ⊢
 exact h2
theorem mseg_ok {b : Nat} {s : List D.Ins} (h : MSeg b s) : ∀ n : Nat, b + s.length ≤ n → n ≤ 32 → ∀ i ∈ s, M.insOk i (n : Int) = true := by
 induction h with
 | nil b => intro n _ _ i hi; simp at hi
 | cat _ _ ih1 ih2 =>
  intro n hn h32 i hi
  rw [List.length_append] at hn
  rcases List.mem_append.1 hi with hi | hi
  ·exact ih1 n (by omega) h32 i hi
  ·exact ih2 n (by omega) h32 i hi
 | seg hs => intro n hn h32 i hi; exact (seg_ok hs n hn h32 i hi).1
 | mem hm => intro n hn h32 i hi; rw [List.mem_singleton] at hi; subst hi; exact memI_ok hm ⟨by omega, by omega⟩
theorem pick_mem (c : D.Cur) {l : List Int} (h : l ≠ []) : (M.spec_l01PickInt c l).1 ∈ l := by
 have hpos : (0 : Int) < (l.length : Int) := by have := List.length_pos_iff.2 h; omega
 have := below_in c hpos
 exact rd_of this.1 this.2
theorem mem_mem (c : D.Cur) : memI (M.spec_l04Memory c).1 = true := by
 have h1 := pick_mem c (l := [13, 14, 15]) (by simp)
 have h2 := below_in (M.spec_l01PickInt c [13, 14, 15]).2 (n := 4) (by omega)
 have h3 := below_in (M.spec_l01Below (M.spec_l01PickInt c [13, 14, 15]).2 4).2 (n := 4) (by omega)
 unfold M.spec_l04Memory
 simp only [List.mem_cons, List.not_mem_nil, or_false] at h1
 simp only [memI, M.insOk, M.isReg, M.isIn, Bool.and_eq_true, decide_eq_true_eq]
 rcases h1 with h1 | h1 | h1 <;> (rw [h1]; simp; omega)
theorem set_plain {a x : Int} (ha : 0 ≤ a ∧ a ≤ 3) (hx : 0 ≤ x ∧ x ≤ 65535) : plainI ⟨1, a, x, 0⟩ = true := by
 simp only [plainI, M.insOk, M.isReg, M.isWord, M.isIn, Bool.and_eq_true, decide_eq_true_eq]
 simp
 omega
theorem mem_ok2 {op a x : Int} (ho : op = 13 ∨ op = 14 ∨ op = 15) (ha : 0 ≤ a ∧ a ≤ 3) (hx : 0 ≤ x ∧ x ≤ 3) : memI ⟨op, a, x, 0⟩ = true := by
 simp only [memI, M.insOk, M.isReg, M.isIn, Bool.and_eq_true, decide_eq_true_eq]
 rcases ho with rfl | rfl | rfl <;> (simp; omega)
theorem progOne_grows {c : D.Cur} (hc : M.CurOk c) {p : List D.Ins} (hp : p.length ≤ 28) : M.CurOk (M.progOne c p).2 ∧ (M.progOne c p).2.b = c.b ∧ ∃ s, (M.progOne c p).1 = p ++ s ∧ MSeg p.length s ∧ p.length + s.length ≤ 32 := by
 have c1 := below_ok hc 7
 have b1 := below_b c 7
 unfold M.progOne
 generalize (M.spec_l01Below c 7).2 = d at *
 split
 ·exact ⟨c1, b1, _, rfl, .mem rfl, by simp; omega⟩
 split
 ·have hr := below_in d (n := 4) (by omega)
  exact ⟨below_ok c1 4, (below_b d 4).trans b1, _, rfl, .cat (.seg (.one rfl)) (.mem (mem_ok2 (by omega) (by omega) (by omega))) (s := [⟨8, 0, 0, 0⟩]), by simp [M.progStore]; omega⟩
 split
 ·have h1 := pick_mem d (l := [1, 8, 31]) (by simp)
  simp only [List.mem_cons, List.not_mem_nil, or_false] at h1
  refine ⟨pick_ok c1 _, (pick_b d _).trans b1, _, rfl, ?_, by simp [M.progLoad]; omega⟩
  refine .cat (s := [⟨1, 1, (M.spec_l01PickInt d [1, 8, 31]).1, 0⟩]) (.seg (.one (set_plain (by omega) (by omega)))) ?_
  refine .cat (s := [⟨8, 0, 0, 0⟩]) (.seg (.one rfl)) (.cat (s := [⟨3, 0, 0, 1⟩]) (.seg (.one rfl)) (.mem rfl))
 split
 ·have h1 := below_in d (n := 8) (by omega)
  have h2 := below_in (M.spec_l01Below d 8).2 (n := 4) (by omega)
  refine ⟨below_ok (below_ok c1 8) 4, (below_b _ 4).trans ((below_b d 8).trans b1), _, rfl, ?_, by simp [M.progBump]; omega⟩
  exact .cat (s := [⟨1, 1, 24 + (M.spec_l01Below d 8).1, 0⟩]) (.seg (.one (set_plain (by omega) (by omega)))) (.mem (mem_ok2 (by omega) (by omega) (by omega)))
 split
 ·split
  ·obtain ⟨g1, g2, s, g3, g4, g5⟩ := body_grows 1 d p c1
   exact ⟨g1, g2.trans b1, s, g3, .seg g4, by omega⟩
  ·exact ⟨c1, b1, [], by simp, .nil _, by simp; omega⟩
 split
 ·refine ⟨below_ok (below_ok (pick_ok c1 _) 4) 4, (below_b _ 4).trans ((below_b _ 4).trans ((pick_b d _).trans b1)), _, rfl, .mem (mem_mem d), by simp; omega⟩
 ·exact ⟨plain_ok c1, (plain_b d).trans b1, _, rfl, .seg (.one (plain_plainI d)), by simp; omega⟩
theorem progN_grows : ∀ (n : Nat) (c : D.Cur) (p : List D.Ins), M.CurOk c → p.length ≤ 32 → M.CurOk (M.progN n c p).2 ∧ (M.progN n c p).2.b = c.b ∧ ∃ s, (M.progN n c p).1 = p ++ s ∧ MSeg p.length s ∧ p.length + s.length ≤ 32
 | 0, c, p, hc, hp => ⟨hc, rfl, [], by simp [M.progN], .nil _, by simpa using hp⟩
 | n + 1, c, p, hc, hp => by
  rw [M.progN]
  split
  ·rename_i h
   obtain ⟨g1, g2, s, g3, g4, g5⟩ := progOne_grows hc (p := p) (by omega)
   obtain ⟨k1, k2, t, k3, k4, k5⟩ := progN_grows n (M.progOne c p).2 (M.progOne c p).1 g1 (by rw [g3, List.length_append]; exact g5)
   rw [g3, List.length_append] at k4 k5
   exact ⟨k1, k2.trans g2, s ++ t, by rw [k3, g3, List.append_assoc], .cat g4 k4, by rw [List.length_append]; omega⟩
  ·exact ⟨hc, rfl, [], by simp, .nil _, by simpa using hp⟩
theorem prog_draw {c : D.Cur} (h : M.CurOk c) : M.CurOk (M.spec_l29Program c).2 ∧ (M.spec_l29Program c).2.b = c.b ∧ MSeg 0 (M.spec_l29Program c).1 ∧ (M.spec_l29Program c).1.length ≤ 32 ∧ 1 ≤ (M.spec_l29Program c).1.length := by
 obtain ⟨g1, g2, s, g3, g4, g5⟩ := progN_grows (1 + (M.spec_l01Below c 5).1).toNat (M.spec_l01Below c 5).2 [⟨8, 0, 0, 0⟩] (below_ok h 5) (by simp)
 refine ⟨g1, g2.trans (below_b c 5), ?_, ?_, ?_⟩
 ·show MSeg 0 (M.progN _ _ _).1
  rw [g3]
  exact .cat (.seg (.one rfl)) g4
 ·show (M.progN _ _ _).1.length ≤ 32
  rw [g3, List.length_append]; exact g5
 ·show 1 ≤ (M.progN _ _ _).1.length
  rw [g3, List.length_append]; simp
theorem prog_good {c : D.Cur} (h : M.CurOk c) : M.programOk (M.spec_l29Program c).1 = true := by
 obtain ⟨_, _, g3, g4, _⟩ := prog_draw h
 unfold M.programOk
 rw [Bool.and_eq_true, List.all_eq_true, decide_eq_true_eq]
 exact ⟨g4, mseg_ok g3 _ (by omega) g4⟩
end Go.V
namespace Go.V
open IntKind (wrap)
theorem has_check : ((List.range 256).all fun m => (List.range 8).all fun i => M.hasLane ((m : Nat) : Int) ((i : Nat) : Int) == m.testBit i) = true := by kernel_rfl
theorem has_bit {m i : Nat} (hm : m < 256) (hi : i < 8) : M.hasLane (m : Int) (i : Int) = m.testBit i := by
 have := List.all_eq_true.1 (List.all_eq_true.1 has_check m (List.mem_range.2 hm)) i (List.mem_range.2 hi)
 exact eq_of_beq this
theorem some_check : ((List.range 256).all fun m => m == 0 || (List.range 8).any fun i => M.hasLane ((m : Nat) : Int) ((i : Nat) : Int)) = true := by kernel_rfl
theorem mask_some {m : Int} (h : M.isMask m = true) (h0 : m ≠ 0) : ∃ i : Nat, i < 8 ∧ M.hasLane m (i : Int) = true := by
 obtain ⟨k, rfl, hk⟩ := isMask_nat h
 have := List.all_eq_true.1 some_check k (List.mem_range.2 hk)
 rw [Bool.or_eq_true, List.any_eq_true] at this
 rcases this with h1 | ⟨i, hi, h1⟩
 ·have := eq_of_beq h1; omega
 ·exact ⟨i, List.mem_range.1 hi, h1⟩
theorem mask_full {i : Nat} (hi : i < 8) : M.hasLane 255 (i : Int) = true := by
 have := has_bit (m := 255) (i := i) (by omega) hi
 rw [show ((255 : Nat) : Int) = 255 from rfl] at this
 rw [this, show 255 = 2 ^ 8 - 1 from rfl, Nat.testBit_two_pow_sub_one]
 simpa using hi
theorem mask_zero (i : Nat) (hi : i < 8) : M.hasLane 0 (i : Int) = false := by
 have := has_bit (m := 0) (i := i) (by omega) hi
 rw [show ((0 : Nat) : Int) = 0 from rfl] at this
 rw [this]; simp
theorem mask_ext {a b : Int} (ha : M.isMask a = true) (hb : M.isMask b = true) (h : ∀ i : Nat, i < 8 → M.hasLane a (i : Int) = M.hasLane b (i : Int)) : a = b := by
 obtain ⟨m, rfl, hm⟩ := isMask_nat ha
 obtain ⟨n, rfl, hn⟩ := isMask_nat hb
 have : m = n := by
  apply Nat.eq_of_testBit_eq
  intro i
  by_cases hi : i < 8
  ·rw [← has_bit hm hi, ← has_bit hn hi, h i hi]
  ·have h256 : 256 ≤ 2 ^ i := Nat.pow_le_pow_right (n := 2) (by decide) (show 8 ≤ i by omega)
   rw [Nat.testBit_lt_two_pow (Nat.lt_of_lt_of_le hm h256), Nat.testBit_lt_two_pow (Nat.lt_of_lt_of_le hn h256)]
 rw [this]
theorem bitAt_nat {k : Nat} (hk : k < 8) : M.bitAt (k : Int) = ((2 ^ k : Nat) : Int) := eq_of_beq (List.all_eq_true.1 bit_check k (List.mem_range.2 hk))
theorem zero_fold_has {x : D.Warp} {reg : Int} {i : Nat} (hi : i < 8) : ∀ (l : List Int), (∀ k ∈ l, 0 ≤ k ∧ k ≤ 7) → ∀ z : Nat, z < 256 →
    ∃ z' : Nat, l.foldl (M.zeroStep x reg) (z : Int) = (z' : Int) ∧ z' < 256 ∧ (z'.testBit i = true ↔ z.testBit i = true ∨ ((i : Int) ∈ l ∧ rd x.Regs ((i : Int) * 4 + reg) = 0))
 | [], _, z, hz => ⟨z, rfl, hz, by simp⟩
 | k :: l, hl, z, hz => by
  obtain ⟨h0, h7⟩ := hl k List.mem_cons_self
  obtain ⟨n, rfl⟩ := Int.eq_ofNat_of_zero_le h0
  simp only [List.foldl_cons]
  have hp : 2 ^ n < 256 := Nat.lt_of_lt_of_le (Nat.pow_lt_pow_right (by omega) (show n < 8 by omega)) (Nat.le_refl _)
  by_cases e : rd x.Regs ((n : Int) * 4 + reg) = 0
  ·have hst : M.zeroStep x reg (z : Int) (n : Int) = ((z ||| 2 ^ n : Nat) : Int) := by
     unfold M.zeroStep
     rw [if_pos e, bitAt_nat (by omega), bitOr_nat hz hp]
   rw [hst]
   obtain ⟨z', g1, g2, g3⟩ := zero_fold_has hi l (fun k hk => hl k (List.mem_cons_of_mem _ hk)) _ (Nat.or_lt_two_pow (n := 8) hz hp)
   refine ⟨z', g1, g2, g3.trans ?_⟩
   rw [Nat.testBit_or, Bool.or_eq_true, Nat.testBit_two_pow, decide_eq_true_eq, List.mem_cons]
   constructor
   ·rintro ((h | rfl) | ⟨h, h'⟩)
    ·exact .inl h
    ·exact .inr ⟨.inl rfl, e⟩
    ·exact .inr ⟨.inr h, h'⟩
   ·rintro (h | ⟨h | h, h'⟩)
    ·exact .inl (.inl h)
    ·exact .inl (.inr (by omega))
    ·exact .inr ⟨h, h'⟩
  ·have hst : M.zeroStep x reg (z : Int) (n : Int) = (z : Int) := by unfold M.zeroStep; rw [if_neg e]
   rw [hst]
   obtain ⟨z', g1, g2, g3⟩ := zero_fold_has hi l (fun k hk => hl k (List.mem_cons_of_mem _ hk)) z hz
   refine ⟨z', g1, g2, g3.trans ?_⟩
   rw [List.mem_cons]
   constructor
   ·rintro (h | ⟨h, h'⟩)
    ·exact .inl h
    ·exact .inr ⟨.inr h, h'⟩
   ·rintro (h | ⟨h | h, h'⟩)
    ·exact .inl h
    ·exact absurd (h ▸ h') e
    ·exact .inr ⟨h, h'⟩
theorem lanesOf_mem {m : Int} {i : Nat} (hi : i < 8) : (i : Int) ∈ M.lanesOf m ↔ M.hasLane m (i : Int) = true := by
 unfold M.lanesOf
 rw [List.mem_filter]
 refine ⟨fun h => h.2, fun h => ⟨?_, h⟩⟩
 have : i = 0 ∨ i = 1 ∨ i = 2 ∨ i = 3 ∨ i = 4 ∨ i = 5 ∨ i = 6 ∨ i = 7 := by omega
 rcases this with rfl | rfl | rfl | rfl | rfl | rfl | rfl | rfl <;> decide
theorem zero_has {x : D.Warp} {reg : Int} {i : Nat} (hi : i < 8) : M.hasLane (M.zeroMask x reg) (i : Int) = true ↔ M.hasLane (M.activeMask x) (i : Int) = true ∧ rd x.Regs ((i : Int) * 4 + reg) = 0 := by
 obtain ⟨z', g1, g2, g3⟩ := zero_fold_has (x := x) (reg := reg) hi (M.lanesOf (M.activeMask x)) (fun k hk => lanes_in hk) 0 (by omega)
 unfold M.zeroMask
 rw [show (0 : Int) = ((0 : Nat) : Int) from rfl, g1, has_bit g2 hi, g3, lanesOf_mem hi]
 simp
theorem minus_has {x : D.Warp} {reg : Int} (h : M.isMask (M.activeMask x) = true) {i : Nat} (hi : i < 8) :
    M.hasLane (bitNot .i64 (M.activeMask x) (M.zeroMask x reg)) (i : Int) = true ↔ M.hasLane (M.activeMask x) (i : Int) = true ∧ ¬ M.hasLane (M.zeroMask x reg) (i : Int) = true := by
 obtain ⟨m, z, hm, hz, h1, h2, hs⟩ := zeroMask_sub (reg := reg) h
 rw [hm, hz, bitNot_nat h1 h2 hs]
 have hc := List.all_eq_true.1 (List.all_eq_true.1 sub_check m (List.mem_range.2 h1)) z (List.mem_range.2 h2)
 simp only [hs, BEq.rfl, Bool.not_true, Bool.false_or, beq_iff_eq] at hc
 have hc' : m - z = m &&& (2 ^ 64 - (z + 1)) := by rw [← hc, Nat.sub_sub, Nat.add_comm]
 rw [has_bit (by omega) hi, has_bit h1 hi, has_bit h2 hi, hc', Nat.testBit_and, Nat.testBit_two_pow_sub_succ (by omega)]
 simp
 intro _ _
 omega
theorem countTo_le {a m : Int} : ∀ k : Nat, k ≤ 8 → (∀ i : Nat, i < k → M.hasLane a (i : Int) = true → M.hasLane m (i : Int) = true) → M.countTo a k ≤ M.countTo m k
 | 0, _, _ => by simp [M.countTo]
 | k + 1, hk, h => by
  have ih := countTo_le k (by omega) fun i hi => h i (by omega)
  simp only [M.countTo]
  split
  ·rename_i e
   rw [if_pos (h k (by omega) e)]; omega
  ·split <;> omega
theorem countTo_lt {a m : Int} {j : Nat} (hm : M.hasLane m (j : Int) = true) (ha : ¬ M.hasLane a (j : Int) = true) : ∀ k : Nat, k ≤ 8 → j < k → (∀ i : Nat, i < k → M.hasLane a (i : Int) = true → M.hasLane m (i : Int) = true) → M.countTo a k < M.countTo m k
 | 0, _, hj, _ => by omega
 | k + 1, hk, hj, h => by
  simp only [M.countTo]
  by_cases e : j = k
  ·subst e
   rw [if_neg ha, if_pos hm]
   have := countTo_le (a := a) (m := m) j (by omega) fun i hi => h i (by omega)
   omega
  ·have ih := countTo_lt hm ha k (by omega) (by omega) fun i hi => h i (by omega)
   split
   ·rename_i e
    rw [if_pos (h k (by omega) e)]; omega
   ·split <;> omega
theorem count_one {m : Int} {i : Nat} (hi : i < 8) (h : M.hasLane m (i : Int) = true) : 1 ≤ M.countTo m 8 := by
 have h0 : M.countTo 0 8 = 0 := by decide
 have := countTo_lt (a := 0) (m := m) h (by rw [mask_zero i hi]; simp) 8 (Nat.le_refl _) hi fun j hj h' => by rw [mask_zero j hj] at h'; cases h'
 omega
def PD (p : List D.Ins) (x r : Int) : Prop := ¬ Rch p r [x] (p.length : Int)
theorem rch_ne {p : List D.Ins} {r x y : Int} (h : Rch p r [x] y) : x ≠ r := by
 induction h with
 | base hs hne => rwa [List.mem_singleton.1 hs] at hne
 | step _ _ _ ih => exact ih
theorem PD.next {p : List D.Ins} {x r y : Int} (h : PD p x r) (hx : x ≠ r) (hy : y ∈ M.nextOf p x) : PD p y r := fun hr => by
 have hne := rch_ne hr
 exact h (rch_via (b := x) (.step (.base (List.mem_singleton.2 rfl) hx) hy hne) hr)
theorem PD.exit {p : List D.Ins} {r : Int} (h : PD p (p.length : Int) r) : r = (p.length : Int) := by
 by_cases e : (p.length : Int) = r
 ·exact e.symm
 ·exact absurd (.base (List.mem_singleton.2 rfl) e) h
theorem PD.refl {p : List D.Ins} (x : Int) : PD p x x := fun h => rch_ne h rfl
theorem PD.last {p : List D.Ins} (x : Int) : PD p x (p.length : Int) := fun h => by
 have : ∀ y, Rch p (p.length : Int) [x] y → y ≠ (p.length : Int) := fun y hy => by
  cases hy with
  | base _ hne => exact hne
  | step _ _ hne => exact hne
 exact this _ h rfl
def Alone (p : List D.Ins) : Nat → D.Lane → List Int → Prop
 | 0, l, R => l.Pc = (p.length : Int) ∧ l.Regs = R
 | k + 1, l, R => l.Pc < (p.length : Int) ∧ Alone p k (M.step p l) R
theorem Alone.at_end {p : List D.Ins} {k : Nat} {l : D.Lane} {R : List Int} (h : Alone p k l R) (e : l.Pc = (p.length : Int)) : k = 0 ∧ l.Regs = R := by
 cases k with
 | zero => exact ⟨rfl, h.2⟩
 | succ k => have := h.1; omega
theorem Alone.go {p : List D.Ins} {k : Nat} {l : D.Lane} {R : List Int} (h : Alone p k l R) (e : l.Pc ≠ (p.length : Int)) : ∃ j, k = j + 1 ∧ Alone p j (M.step p l) R := by
 cases k with
 | zero => exact absurd h.1 e
 | succ k => exact ⟨k, rfl, h.2⟩
theorem alone_run {p : List D.Ins} : ∀ (k N : Nat) (l : D.Lane) (n : Int) (R : List Int), Alone p k l R → k ≤ N → (M.runN p N l n).2 = n + (k : Int) ∧ (M.runN p N l n).1.Pc = (p.length : Int) ∧ (M.runN p N l n).1.Regs = R
 | 0, N, l, n, R, h, hk => by
  have e : M.runN p N l n = (l, n) := runN_end p N l n (by have := h.1; omega)
  rw [e]; exact ⟨by simp, h.1, h.2⟩
 | k + 1, N + 1, l, n, R, h, hk => by
  rw [M.runN, if_pos h.1]
  obtain ⟨g1, g2, g3⟩ := alone_run k N _ (n + 1) R h.2 (by omega)
  exact ⟨by rw [g1]; push_cast; omega, g2, g3⟩
theorem alone_reach {p : List D.Ins} (hp : M.programOk p = true) : ∀ (k : Nat) (l : D.Lane) (R : List Int), Alone p k l R → 0 ≤ l.Pc → Rch p (-1) [l.Pc] (p.length : Int)
 | 0, l, R, h, h0 => by rw [h.1]; exact .base (List.mem_singleton.2 rfl) (by omega)
 | k + 1, l, R, h, h0 => by
  have hn : (M.step p l).Pc ∈ M.nextOf p l.Pc := by
   show M.next p l.Pc l.Regs ∈ _
   unfold M.next M.nextOf
   rw [if_neg (by have := h.1; omega)]
   split
   ·simp
   split
   ·simp
   split
   ·split <;> (rw [putTwo_mem]; simp)
   ·simp
  have hin : M.nodeIn p (M.step p l).Pc := (next_ok ⟨hp, h0, by have := h.1; omega⟩).1 _ hn
  exact rch_via (b := l.Pc) (.step (.base (List.mem_singleton.2 rfl) (by omega)) hn (by have := hin.1; omega)) (alone_reach hp k _ R h.2 hin.1)
end Go.V
namespace Go.V
open IntKind (wrap)
def loc (n : Int) : List D.Frame → Nat → Int
 | [], _ => n
 | f :: r, i => if M.hasLane f.Mask (i : Int) = true then f.Pc else loc n r i
structure Under (A P : D.Frame) : Prop where
 stop : A.Stop = P.Pc
 sub : ∀ i : Nat, i < 8 → M.hasLane A.Mask (i : Int) = true → M.hasLane P.Mask (i : Int) = true
 less : M.countTo A.Mask 8 < M.countTo P.Mask 8
inductive Stk (n : Int) : List D.Frame → Prop
 | base {f : D.Frame} : f.Mask = 255 → f.Stop = n → Stk n [f]
 | one {A P : D.Frame} {r : List D.Frame} : Stk n (P :: r) → Under A P → Stk n (A :: P :: r)
 | two {B A P : D.Frame} {r : List D.Frame} : Stk n (P :: r) → Under A P → Under B P → (∀ i : Nat, i < 8 → M.hasLane A.Mask (i : Int) = true → ¬ M.hasLane B.Mask (i : Int) = true) → Stk n (B :: A :: P :: r)
theorem Stk.pop {n : Int} {f : D.Frame} {r : List D.Frame} (h : Stk n (f :: r)) (e : f.Pc = f.Stop) : (r = [] ∨ Stk n r) ∧ ∀ i : Nat, i < 8 → loc n r i = loc n (f :: r) i := by
 cases h with
 | base h1 h2 =>
  refine ⟨.inl rfl, fun i hi => ?_⟩
  simp only [loc]
  rw [h1, mask_full hi, if_pos rfl, e, h2]
 | one h1 h2 =>
  refine ⟨.inr h1, fun i hi => ?_⟩
  simp only [loc]
  by_cases g : M.hasLane f.Mask (i : Int) = true
  ·rw [if_pos g, if_pos (h2.sub i hi g), e, h2.stop]
  ·rw [if_neg g]
 | two h1 h2 h3 h4 =>
  refine ⟨.inr (.one h1 h2), fun i hi => ?_⟩
  simp only [loc]
  by_cases g : M.hasLane f.Mask (i : Int) = true
  ·rw [if_pos g, if_neg (fun g' => h4 i hi g' g), if_pos (h3.sub i hi g), e, h3.stop]
  ·rw [if_neg g]
theorem Stk.set {n : Int} {f : D.Frame} {r : List D.Frame} (h : Stk n (f :: r)) (pc : Int) : Stk n (⟨pc, f.Stop, f.Mask⟩ :: r) := by
 cases h with
 | base h1 h2 => exact .base h1 h2
 | one h1 h2 => exact .one h1 ⟨h2.stop, h2.sub, h2.less⟩
 | two h1 h2 h3 h4 => exact .two h1 h2 ⟨h3.stop, h3.sub, h3.less⟩ h4
theorem Stk.long {n : Int} {fs : List D.Frame} (h : Stk n fs) : ∀ f r, fs = f :: r → (fs.length : Int) ≤ 17 - 2 * M.countTo f.Mask 8 := by
 induction h with
 | base h1 h2 =>
  rintro f r e
  cases e
  have : M.countTo 255 8 = 8 := by decide
  rw [h1, this]; simp
 | one h1 h2 ih =>
  rintro f r e
  cases e
  have := ih _ _ rfl
  have := h2.less
  simp only [List.length_cons] at *
  omega
 | two h1 h2 h3 h4 ih =>
  rintro f r e
  cases e
  have := ih _ _ rfl
  have := h3.less
  simp only [List.length_cons] at *
  omega
def dropR (n : Int) : List D.Frame → List D.Frame
 | [] => []
 | f :: r => if f.Pc ≠ f.Stop ∧ f.Pc ≠ n then f :: r else dropR n r
theorem dropN_rev (fs : List D.Frame) (n : Int) : ∀ k, k ≤ fs.length → (M.dropN fs n k).reverse = dropR n (fs.take k).reverse
 | 0, _ => by simp [M.dropN, dropR]
 | k + 1, hk => by
  have ih := dropN_rev fs n k (by omega)
  rw [M.dropN, List.take_add_one, List.getElem?_eq_getElem (by omega : k < fs.length), Option.toList_some, List.reverse_append, List.reverse_singleton, List.singleton_append, dropR, rd_nat (by omega)]
  split
  ·rw [List.reverse_append, List.reverse_singleton, List.singleton_append]
  ·exact ih
theorem dropF_rev (fs : List D.Frame) (n : Int) : (M.dropF fs n).reverse = dropR n fs.reverse := by
 have := dropN_rev fs n fs.length (Nat.le_refl _)
 rw [List.take_length] at this
 exact this
theorem dropR_sub (n : Int) : ∀ fs : List D.Frame, ∀ f ∈ dropR n fs, f ∈ fs
 | [], f, h => h
 | g :: r, f, h => by
  rw [dropR] at h
  split at h
  ·exact h
  ·exact List.mem_cons_of_mem _ (dropR_sub n r f h)
theorem dropR_good {p : List D.Ins} : ∀ fs : List D.Frame, (fs = [] ∨ Stk p.length fs) → (∀ f ∈ fs, PD p f.Pc f.Stop) →
    (dropR p.length fs = [] ∨ Stk p.length (dropR p.length fs)) ∧ ∀ i : Nat, i < 8 → loc p.length (dropR p.length fs) i = loc p.length fs i
 | [], _, _ => ⟨.inl rfl, fun _ _ => rfl⟩
 | f :: r, h, hpd => by
  have h := h.resolve_left (by simp)
  rw [dropR]
  split
  ·exact ⟨.inr h, fun _ _ => rfl⟩
  ·rename_i e
   have hf := hpd f List.mem_cons_self
   have e' : f.Pc = f.Stop := by
    by_cases h1 : f.Pc = f.Stop
    ·exact h1
    ·have : f.Pc = (p.length : Int) := by
       by_cases h2 : f.Pc = (p.length : Int)
       ·exact h2
       ·exact absurd ⟨h1, h2⟩ e
     rw [this] at hf ⊢
     exact hf.exit.symm
   obtain ⟨g1, g2⟩ := h.pop e'
   obtain ⟨k1, k2⟩ := dropR_good r g1 fun g hg => hpd g (List.mem_cons_of_mem _ hg)
   exact ⟨k1, fun i hi => (k2 i hi).trans (g2 i hi)⟩
structure LInv (p : List D.Ins) (x : D.Warp) (rem : Nat → Nat) (R : Nat → List Int) : Prop where
 stk : x.Frames = [] ∨ Stk p.length x.Frames.reverse
 pd : ∀ f ∈ x.Frames, PD p f.Pc f.Stop
 lane : ∀ i : Nat, i < 8 → Alone p (rem i) ⟨x.Number * 8 + (i : Int), loc p.length x.Frames.reverse i, M.laneCut x.Regs i⟩ (R i)
theorem LInv.drop {p : List D.Ins} {x : D.Warp} {rem : Nat → Nat} {R : Nat → List Int} (h : LInv p x rem R) : LInv p (M.dropW x p.length) rem R := by
 have hs : x.Frames.reverse = [] ∨ Stk p.length x.Frames.reverse := h.stk.imp (fun e => by rw [e]; rfl) id
 obtain ⟨k1, k2⟩ := dropR_good x.Frames.reverse hs fun f hf => h.pd f (List.mem_reverse.1 hf)
 rw [← dropF_rev] at k1 k2
 refine ⟨k1.imp (fun e => List.reverse_eq_nil_iff.1 e) id, fun f hf => h.pd f ?_, fun i hi => ?_⟩
 ·have : f ∈ dropR p.length x.Frames.reverse := by rw [← dropF_rev]; exact List.mem_reverse.2 hf
  exact List.mem_reverse.1 (dropR_sub _ _ f this)
 ·have := h.lane i hi
  rw [← k2 i hi] at this
  exact this
theorem cut_put_same {r x : List Int} {l : Nat} (h : r.length = 32) (hl : l < 8) (hx : x.length = 4) : M.laneCut (M.putLane r l x) l = x := by
 apply List.ext_getElem?
 intro i
 rw [laneCut_get]
 by_cases hi : i < 4
 ·rw [if_pos hi, putLane_get h hl hx, if_pos (by omega)]
  congr 1; omega
 ·rw [if_neg hi, List.getElem?_eq_none (by omega)]
theorem applyTo_lane {i : D.Ins} {num m : Int} {r : List Int} (h : r.length = 32) : ∀ k, k ≤ 8 → ∀ j : Nat, j < k → M.laneCut (M.applyTo i num m r k) j = if M.hasLane m (j : Int) = true then M.apply i (num * 8 + (j : Int)) (M.laneCut r j) else M.laneCut r j
 | 0, _, j, hj => by omega
 | k + 1, hk, j, hj => by
  have hl := applyTo_len (i := i) (num := num) (m := m) h k (by omega)
  have ha : (M.apply i (num * 8 + (k : Int)) (M.laneCut r k)).length = 4 := by rw [apply_len, laneCut_len h (by omega)]
  simp only [M.applyTo]
  by_cases e : j = k
  ·subst e
   by_cases g : M.hasLane m (j : Int) = true
   ·rw [if_pos g, if_pos g, cut_put_same hl (by omega) ha]
   ·rw [if_neg g, if_neg g, applyTo_cut h j (by omega) j (Nat.le_refl _)]
  ·have ih := applyTo_lane (i := i) (num := num) (m := m) h k (by omega) j (by omega)
   split
   ·rw [cut_put_other hl (by omega) ha e, ih]
   ·exact ih
theorem applyAll_lane {i : D.Ins} {num m : Int} {r : List Int} (h : r.length = 32) {j : Nat} (hj : j < 8) : M.laneCut (M.applyAll i num m r) j = if M.hasLane m (j : Int) = true then M.apply i (num * 8 + (j : Int)) (M.laneCut r j) else M.laneCut r j :=
 applyTo_lane h 8 (Nat.le_refl _) j hj
theorem rd_lane {r : List Int} (h : r.length = 32) {j : Nat} (hj : j < 8) {a : Int} (ha : M.isReg a = true) : rd (M.laneCut r j) a = rd r ((j : Int) * 4 + a) := by
 rw [isReg_iff] at ha
 unfold M.laneCut
 rw [rd_cut ha.1 (by omega) (by omega), show ((j * 4 : Nat) : Int) = (j : Int) * 4 by push_cast; rfl]
theorem setTop_app (bs : List D.Frame) (f : D.Frame) (pc : Int) : M.setTop (bs ++ [f]) pc = bs ++ [⟨pc, f.Stop, f.Mask⟩] := by
 have hl : M.lastF (bs ++ [f]) = f := by
  unfold M.lastF
  rw [List.length_append, List.length_singleton, show (((bs.length + 1 : Nat) : Int) - 1) = (bs.length : Int) by omega, rd_nat (by simp), List.getElem_append_right (Nat.le_refl _)]
  simp
 unfold M.setTop
 rw [hl, List.length_append, List.length_singleton, Nat.add_sub_cancel, List.set_append_right _ _ (Nat.le_refl _), Nat.sub_self]; rfl
theorem lastF_app (bs : List D.Frame) (f : D.Frame) : M.lastF (bs ++ [f]) = f := by
 unfold M.lastF
 rw [List.length_append, List.length_singleton, show (((bs.length + 1 : Nat) : Int) - 1) = (bs.length : Int) by omega, rd_nat (by simp), List.getElem_append_right (Nat.le_refl _)]
 simp
theorem app_last {fs : List D.Frame} (h : fs ≠ []) : ∃ bs, fs = bs ++ [M.lastF fs] := by
 refine ⟨fs.dropLast, ?_⟩
 have e := (List.dropLast_concat_getLast h).symm
 have : M.lastF fs = fs.getLast h := by
  have h2 : M.lastF fs = M.lastF (fs.dropLast ++ [fs.getLast h]) := by rw [← e]
  rw [h2, lastF_app]
 rw [this]; exact e
theorem top_ends {p : List D.Ins} {x : D.Warp} (h : M.Runs p x) : (M.lastF x.Frames).Pc ≠ (M.lastF x.Frames).Stop ∧ (M.lastF x.Frames).Mask ≠ 0 := by
 obtain ⟨hp, hw, hx⟩ := h
 simp only [M.warpOf, M.areFrames, Bool.and_eq_true, Bool.or_eq_true] at hw
 obtain ⟨h1, h2, h3, h4, h5⟩ := hw
 have h5 := h5.resolve_left (by simpa using hx)
 have hf := List.all_eq_true.1 h4 _ (mem_lastF hx)
 simp only [M.endsOk, M.frameOk, Bool.and_eq_true, decide_eq_true_eq, beq_iff_eq, bne_iff_ne] at h5 hf
 exact ⟨h5.2.1, hf.2.2.2⟩
theorem turn_next {p : List D.Ins} {x : D.Warp} (h : M.Runs p x) : M.turnPc p x ∈ M.nextOf p (M.topPc x) := by
 obtain ⟨t1, t2, t3, t4, t5, t6, t7, t8, t9⟩ := runs_top h
 unfold M.turnPc M.nextOf
 rw [if_neg (show ¬ M.topPc x = (p.length : Int) by omega), show rd p (M.topPc x) = M.topIns p x from rfl]
 by_cases h12 : (M.topIns p x).Op = 12
 ·rw [if_pos h12, if_pos h12]; simp
 rw [if_neg h12, if_neg h12]
 by_cases h11 : (M.topIns p x).Op = 11
 ·rw [if_pos h11, if_pos h11]; simp
 rw [if_neg h11, if_neg h11]
 by_cases h10 : (M.topIns p x).Op = 10
 ·rw [if_pos h10]
  split <;> (rw [putTwo_mem]; simp)
 ·rw [if_neg h10, if_neg (fun h => h10 h.1)]; simp
theorem firstS_prop {p : List D.Ins} {all : List Int} : ∀ l : List Int, M.firstS p all l ≠ -1 → all.all (M.afterB p (M.firstS p all l)) = true
 | [], h => absurd rfl h
 | y :: l, h => by
  rw [M.firstS] at h ⊢
  split at h
  ·rename_i e; rw [if_pos e]; exact e
  ·rename_i e; rw [if_neg e]; exact firstS_prop l h
theorem next_turn {p : List D.Ins} {x : D.Warp} (h : M.Runs p x) (hs : M.splits p x = false) {i : Nat} (hi : i < 8) (ha : M.hasLane (M.lastF x.Frames).Mask (i : Int) = true) : M.next p (M.topPc x) (M.laneCut x.Regs i) = M.turnPc p x := by
 obtain ⟨t1, t2, t3, t4, t5, t6, t7, t8, t9⟩ := runs_top h
 obtain ⟨f1, f2, f3, f4, f5, f6⟩ := runs_frames h
 have hact := activeMask_top h.2.2
 have e : rd p (M.topPc x) = M.topIns p x := rfl
 unfold M.next M.turnPc
 rw [e]
 split
 ·rfl
 split
 ·rfl
 by_cases h10 : (M.topIns p x).Op = 10
 ·rw [if_pos h10]
  have hreg := zero_reg t7 h10
  rw [rd_lane t4 hi hreg]
  have hz := zero_has (x := x) (reg := (M.topIns p x).A) hi
  rw [hact] at hz
  obtain ⟨m1, m2, m3⟩ := mask_part (x := x) (reg := (M.topIns p x).A) (by rw [hact]; exact f5)
  by_cases hB : (M.topIns p x).B = M.topPc x + 1
  ·rw [hB]; simp
  ·simp only [M.splits, h10, Bool.and_eq_false_iff, bne_eq_false_iff_eq, beq_self_eq_true, Bool.true_and] at hs
   have hs := hs.resolve_left (by simpa using hB)
   by_cases g : rd x.Regs ((i : Int) * 4 + (M.topIns p x).A) = 0
   ·rw [if_pos g]
    have hzi := hz.2 ⟨ha, g⟩
    rcases hs with hs | hs
    ·rw [hs, mask_zero i hi] at hzi; cases hzi
    ·rw [if_pos ⟨h10, hs⟩]
   ·rw [if_neg g]
    rcases hs with hs | hs
    ·have hne : M.zeroMask x (M.topIns p x).A ≠ (M.lastF x.Frames).Mask := by
       rw [hs]; exact (top_ends h).2.symm
     rw [if_neg (fun h => hne h.2)]
    ·rw [← hs] at ha
     exact absurd (hz.1 ha).2 g
 ·rw [if_neg h10, if_neg (fun h => h10 h.1)]
theorem LInv.step {p : List D.Ins} {x : D.Warp} {rem : Nat → Nat} {R : Nat → List Int} (h : LInv p x rem R) (hq : M.isQuiet p = true) (hF : M.Fine p x) (hx : x.Frames ≠ []) :
    M.spec_l13Local p x = true ∧ ∃ rem' : Nat → Nat, LInv p (M.stepW p x) rem' R ∧ ∀ i : Nat, i < 8 → rem i = rem' i + if M.hasLane (M.activeMask x) (i : Int) = true then 1 else 0 := by
 have hr : M.Runs p x := ⟨hF.1, hF.2, hx⟩
 obtain ⟨t1, t2, t3, t4, t5, t6, t7, t8, t9⟩ := runs_top hr
 obtain ⟨f1, f2, f3, f4, f5, f6⟩ := runs_frames hr
 obtain ⟨e1, e2⟩ := top_ends hr
 have hact := activeMask_top hx
 obtain ⟨bs, hbs⟩ := app_last hx
 have hrev : x.Frames.reverse = M.lastF x.Frames :: bs.reverse := by
  conv => lhs; rw [hbs]
  rw [List.reverse_append, List.reverse_singleton, List.singleton_append]
 have hstk := h.stk.resolve_left hx
 rw [hrev] at hstk
 have hpdf := h.pd _ (mem_lastF hx)
 have hpdb : ∀ f ∈ bs, PD p f.Pc f.Stop := fun f hf => h.pd f (by rw [hbs]; exact List.mem_append_left _ hf)
 have hlen : x.Frames.length ≤ 15 := by
  have h1 := hstk.long _ _ rfl
  have h2 : (M.lastF x.Frames :: bs.reverse).length = x.Frames.length := by rw [← hrev, List.length_reverse]
  obtain ⟨i, hi, hh⟩ := mask_some f5 e2
  have := count_one hi hh
  rw [h2] at h1
  omega
 have hlocal : M.isLocal (M.topIns p x) = true := quiet_local hq t5 t6
 have hl : M.spec_l13Local p x = true := by
  unfold M.spec_l13Local
  rw [hlocal]
  have : x.Frames.isEmpty = false := by simpa using hx
  rw [this, decide_eq_true (by omega : x.Frames.length ≤ 22)]
  simp
 refine ⟨hl, ?_⟩
 have hloc : ∀ i : Nat, loc p.length x.Frames.reverse i = if M.hasLane (M.lastF x.Frames).Mask (i : Int) = true then M.topPc x else loc p.length bs.reverse i := fun i => by rw [hrev]; rfl
 -- lanes: those active go one step
 have hgo : ∀ i : Nat, i < 8 → M.hasLane (M.lastF x.Frames).Mask (i : Int) = true → ∃ j, rem i = j + 1 ∧ Alone p j ⟨x.Number * 8 + (i : Int), M.next p (M.topPc x) (M.laneCut x.Regs i), M.apply (M.topIns p x) (x.Number * 8 + (i : Int)) (M.laneCut x.Regs i)⟩ (R i) := fun i hi ha => by
  have hL := h.lane i hi
  rw [hloc i, if_pos ha] at hL
  exact hL.go (by show M.topPc x ≠ _; omega)
 let rem' : Nat → Nat := fun i => if M.hasLane (M.lastF x.Frames).Mask (i : Int) = true then rem i - 1 else rem i
 have hrem : ∀ i : Nat, i < 8 → rem i = rem' i + if M.hasLane (M.activeMask x) (i : Int) = true then 1 else 0 := fun i hi => by
  rw [hact]
  show rem i = (if _ then _ else _) + _
  by_cases ha : M.hasLane (M.lastF x.Frames).Mask (i : Int) = true
  ·obtain ⟨j, hj, _⟩ := hgo i hi ha
   rw [if_pos ha, if_pos ha]; omega
  ·rw [if_neg ha, if_neg ha]; rfl
 refine ⟨rem', ?_, hrem⟩
 unfold M.stepW
 by_cases hs : M.splits p x = true
 ·rw [if_pos hs]
  obtain ⟨⟨h10, hB⟩, hz0, hzm⟩ := splits_iff hs
  have hbr := split_branch hr ⟨h10, hB⟩
  obtain ⟨m1, m2, m3⟩ := mask_part (x := x) (reg := (M.topIns p x).A) (by rw [hact]; exact f5)
  have hz := fun (i : Nat) (hi : i < 8) => zero_has (x := x) (reg := (M.topIns p x).A) hi
  have hm := fun (i : Nat) (hi : i < 8) => minus_has (x := x) (reg := (M.topIns p x).A) (by rw [hact]; exact f5) hi
  rw [hact] at m2 m3 hz hm
  have hreg := zero_reg t7 h10
  have hN : M.Node p (M.topPc x) := ⟨hF.1, by omega, by omega⟩
  have hnx : M.nextOf p (M.topPc x) = M.putTwo (M.topPc x + 1) (M.topIns p x).B := by
   unfold M.nextOf
   rw [if_neg (by omega), show rd p (M.topPc x) = M.topIns p x from rfl, if_neg (by omega), if_neg (by omega), if_pos h10]
  have hn1 : M.topPc x + 1 ∈ M.nextOf p (M.topPc x) := by rw [hnx, putTwo_mem]; simp
  have hn2 : (M.topIns p x).B ∈ M.nextOf p (M.topPc x) := by rw [hnx, putTwo_mem]; simp
  have hin1 := (next_ok hN).1 _ hn1
  have hin2 := (next_ok hN).1 _ hn2
  have hnext : ∀ i : Nat, i < 8 → M.next p (M.topPc x) (M.laneCut x.Regs i) = if rd x.Regs ((i : Int) * 4 + (M.topIns p x).A) = 0 then (M.topIns p x).B else M.topPc x + 1 := fun i hi => by
   unfold M.next
   rw [show rd p (M.topPc x) = M.topIns p x from rfl, if_neg (by omega), if_neg (by omega), if_pos h10, rd_lane t4 hi hreg]
  have happ : ∀ i : Nat, M.apply (M.topIns p x) (x.Number * 8 + (i : Int)) (M.laneCut x.Regs i) = M.laneCut x.Regs i := fun i => by
   unfold M.apply
   rw [if_neg (by omega), if_neg (by omega), if_neg (by omega), if_neg (by omega), if_neg (by omega), if_neg (by omega), if_neg (by omega), if_neg (by omega), if_neg (by omega)]
  -- a lane on each side
  obtain ⟨iz, hiz, hzi⟩ := mask_some m1 hz0
  obtain ⟨im, him, hmi⟩ : ∃ i : Nat, i < 8 ∧ M.hasLane (bitNot .i64 (M.lastF x.Frames).Mask (M.zeroMask x (M.topIns p x).A)) (i : Int) = true := by
   have : ∃ i : Nat, i < 8 ∧ M.hasLane (M.lastF x.Frames).Mask (i : Int) = true ∧ ¬ M.hasLane (M.zeroMask x (M.topIns p x).A) (i : Int) = true := by
    apply Classical.byContradiction
    intro hno
    apply hzm
    refine mask_ext m1 f5 fun i hi => ?_
    by_cases g : M.hasLane (M.lastF x.Frames).Mask (i : Int) = true
    ·have : M.hasLane (M.zeroMask x (M.topIns p x).A) (i : Int) = true := by
       apply Classical.byContradiction
       intro g'
       exact hno ⟨i, hi, g, g'⟩
     rw [g, this]
    ·have : ¬ M.hasLane (M.zeroMask x (M.topIns p x).A) (i : Int) = true := fun g' => g ((hz i hi).1 g').1
     rw [Bool.not_eq_true] at g this
     rw [g, this]
   obtain ⟨i, hi, g⟩ := this
   exact ⟨i, hi, (hm i hi).2 g⟩
  have hmz := (hm im him).1 hmi
  have hzz := (hz iz hiz).1 hzi
  have hmnz : ¬ rd x.Regs ((im : Int) * 4 + (M.topIns p x).A) = 0 := fun g => hmz.2 ((hz im him).2 ⟨hmz.1, g⟩)
  -- both successors reach the exit
  have hn : M.nodeIn p (p.length : Int) := ⟨by omega, by omega⟩
  have ex1 : M.exitB p (M.topPc x + 1) = true := by
   obtain ⟨j, _, hj⟩ := hgo im him hmz.1
   rw [hnext im him, if_neg hmnz] at hj
   exact (reached_iff hF.1 (fun x hx => by obtain rfl := List.mem_singleton.1 hx; exact hin1) hn).2 (alone_reach hF.1 j _ _ hj hin1.1)
  have ex2 : M.exitB p (M.topIns p x).B = true := by
   obtain ⟨j, _, hj⟩ := hgo iz hiz hzz.1
   rw [hnext iz hiz, if_pos hzz.2] at hj
   exact (reached_iff hF.1 (fun x hx => by obtain rfl := List.mem_singleton.1 hx; exact hin2) hn).2 (alone_reach hF.1 j _ _ hj hin2.1)
  have hjoin : M.joinB p (M.topPc x) = M.firstAfter p (M.topPc x) := by
   unfold M.joinB
   rw [if_pos (by rw [ex1, show rd p (M.topPc x) = M.topIns p x from rfl, ex2]; rfl)]
  have exb : M.exitB p (M.topPc x) = true := by
   refine (reached_iff hF.1 (fun x hx => by obtain rfl := List.mem_singleton.1 hx; exact hN.2) hn).2 ?_
   have hx1 := (reached_iff hF.1 (fun x hx => by obtain rfl := List.mem_singleton.1 hx; exact hin1) hn).1 ex1
   exact rch_via (b := M.topPc x) (y := -1) (.step (.base (List.mem_singleton.2 rfl) (by omega)) hn1 (by have := hin1.1; omega)) hx1
  have hfi := first_in hN (by omega) exb
  obtain ⟨fN, fne, _, fA⟩ := afters_nodes hfi
  have hmem : ∀ r, M.nodeIn p r → r ≠ M.topPc x → PD p (M.topPc x) r → r ∈ M.others (M.aftersOf p (M.topPc x)) (M.topPc x) := by
   intro r hr hrb ha
   unfold M.others M.aftersOf
   rw [if_pos (by simp only [Bool.and_eq_true]; exact ⟨isNode_iff.2 hN, exb⟩)]
   refine List.mem_filter.2 ⟨mem_idx.2 ⟨r.toNat, by unfold M.nodeIn at hr; omega, by unfold M.nodeIn at hr; omega, (afterB_iff hN).2 ha⟩, by simpa using hrb⟩
  have hfall : (M.others (M.aftersOf p (M.topPc x)) (M.topPc x)).all (M.afterB p (M.firstAfter p (M.topPc x))) = true := firstS_prop _ (by
   have := fN.2.1
   show M.firstAfter p (M.topPc x) ≠ -1
   omega)
  have hpdj : PD p (M.topPc x) (M.joinB p (M.topPc x)) := by rw [hjoin]; exact (afterB_iff hN).1 fA
  have hjne : M.topPc x ≠ M.joinB p (M.topPc x) := by
   rw [hjoin]
   have := (List.mem_filter.1 hfi).2
   intro e
   rw [← e] at this
   simp at this
  have hstop : M.nodeIn p (M.lastF x.Frames).Stop := by
   have := List.all_eq_true.1 f1 _ (mem_lastF hx)
   simp only [M.frameOk, M.isIn, Bool.and_eq_true, decide_eq_true_eq] at this
   exact this.2.1
  have hpds : PD p (M.joinB p (M.topPc x)) (M.lastF x.Frames).Stop := by
   have := List.all_eq_true.1 hfall _ (hmem _ hstop (Ne.symm e1) hpdf)
   rw [hjoin]
   exact (afterB_iff fN).1 this
  apply LInv.drop
  let P : D.Frame := ⟨M.joinB p (M.topPc x), (M.lastF x.Frames).Stop, (M.lastF x.Frames).Mask⟩
  let A : D.Frame := ⟨M.topPc x + 1, M.joinB p (M.topPc x), bitNot .i64 (M.lastF x.Frames).Mask (M.zeroMask x (M.topIns p x).A)⟩
  let B : D.Frame := ⟨(M.topIns p x).B, M.joinB p (M.topPc x), M.zeroMask x (M.topIns p x).A⟩
  have hfr : (M.separated p x).Frames = bs ++ [P] ++ [A, B] := by
   show M.setTop x.Frames _ ++ _ = _
   congr 1
   conv => lhs; rw [hbs]
   exact setTop_app bs _ _
  have hrev' : (M.separated p x).Frames.reverse = B :: A :: P :: bs.reverse := by
   rw [hfr]; simp
  have hnum : (M.separated p x).Number = x.Number := rfl
  have hregs : (M.separated p x).Regs = x.Regs := rfl
  refine ⟨.inr ?_, fun f hf => ?_, fun i hi => ?_⟩
  ·rw [hrev']
   refine .two (hstk.set _) ⟨rfl, fun i hi g => ((hm i hi).1 g).1, ?_⟩ ⟨rfl, fun i hi g => ((hz i hi).1 g).1, ?_⟩ fun i hi g => ((hm i hi).1 g).2
   ·exact countTo_lt hzz.1 (fun g => ((hm iz hiz).1 g).2 hzi) 8 (Nat.le_refl _) hiz fun i hi g => ((hm i hi).1 g).1
   ·exact countTo_lt hmz.1 hmz.2 8 (Nat.le_refl _) him fun i hi g => ((hz i hi).1 g).1
  ·rw [hfr] at hf
   rcases List.mem_append.1 hf with hf | hf
   ·rcases List.mem_append.1 hf with hf | hf
    ·exact hpdb f hf
    ·obtain rfl := List.mem_singleton.1 hf
     exact hpds
   ·simp only [List.mem_cons, List.not_mem_nil, or_false] at hf
    rcases hf with rfl | rfl
    ·exact hpdj.next hjne hn1
    ·exact hpdj.next hjne hn2
  ·rw [hrev', hnum, hregs]
   show Alone p (if _ then _ else _) ⟨_, (if M.hasLane (M.zeroMask x (M.topIns p x).A) (i : Int) = true then (M.topIns p x).B else if M.hasLane (bitNot .i64 (M.lastF x.Frames).Mask (M.zeroMask x (M.topIns p x).A)) (i : Int) = true then M.topPc x + 1 else if M.hasLane (M.lastF x.Frames).Mask (i : Int) = true then M.joinB p (M.topPc x) else loc p.length bs.reverse i), _⟩ _
   by_cases ha : M.hasLane (M.lastF x.Frames).Mask (i : Int) = true
   ·obtain ⟨j, hj, hA⟩ := hgo i hi ha
    rw [hnext i hi, happ i] at hA
    rw [if_pos ha, hj, Nat.add_sub_cancel]
    by_cases g : rd x.Regs ((i : Int) * 4 + (M.topIns p x).A) = 0
    ·rw [if_pos ((hz i hi).2 ⟨ha, g⟩)]
     rw [if_pos g] at hA
     exact hA
    ·have hnz : ¬ M.hasLane (M.zeroMask x (M.topIns p x).A) (i : Int) = true := fun g' => g ((hz i hi).1 g').2
     rw [if_neg hnz, if_pos ((hm i hi).2 ⟨ha, hnz⟩)]
     rw [if_neg g] at hA
     exact hA
   ·rw [if_neg ha, if_neg (fun g => ha ((hz i hi).1 g).1), if_neg (fun g => ha ((hm i hi).1 g).1), if_neg ha]
    have := h.lane i hi
    rw [hloc i, if_neg ha] at this
    exact this
 ·rw [if_neg hs]
  have hs : M.splits p x = false := by simpa using hs
  apply LInv.drop
  have hfr : (M.advance p x).Frames = bs ++ [⟨M.turnPc p x, (M.lastF x.Frames).Stop, (M.lastF x.Frames).Mask⟩] := by
   show M.setTop x.Frames (M.turnPc p x) = _
   conv => lhs; rw [hbs]
   exact setTop_app bs _ _
  have hrev' : (M.advance p x).Frames.reverse = ⟨M.turnPc p x, (M.lastF x.Frames).Stop, (M.lastF x.Frames).Mask⟩ :: bs.reverse := by
   rw [hfr, List.reverse_append, List.reverse_singleton, List.singleton_append]
  refine ⟨.inr ?_, fun f hf => ?_, fun i hi => ?_⟩
  ·rw [hrev']; exact hstk.set _
  ·rw [hfr] at hf
   rcases List.mem_append.1 hf with hf | hf
   ·exact hpdb f hf
   ·obtain rfl := List.mem_singleton.1 hf
    exact hpdf.next e1 (turn_next hr)
  ·rw [hrev']
   have hnum : (M.advance p x).Number = x.Number := rfl
   have hregs : (M.advance p x).Regs = M.applyAll (M.topIns p x) x.Number (M.lastF x.Frames).Mask x.Regs := rfl
   rw [hnum, hregs, applyAll_lane t4 hi]
   show Alone p (if _ then _ else _) ⟨_, (if _ then _ else _), _⟩ _
   by_cases ha : M.hasLane (M.lastF x.Frames).Mask (i : Int) = true
   ·obtain ⟨j, hj, hA⟩ := hgo i hi ha
    rw [if_pos ha, if_pos ha, if_pos ha, hj, Nat.add_sub_cancel, ← next_turn hr hs hi ha]
    exact hA
   ·rw [if_neg ha, if_neg ha, if_neg ha]
    have := h.lane i hi
    rw [hloc i, if_neg ha] at this
    exact this
end Go.V
namespace Go.V
open IntKind (wrap)
def Walk (p : List D.Ins) : Nat → D.Lane → D.Lane → Prop
 | 0, l, m => l = m
 | k + 1, l, m => l.Pc < (p.length : Int) ∧ Walk p k (M.step p l) m
theorem Walk.trans {p : List D.Ins} : ∀ {a b : Nat} {l m n : D.Lane}, Walk p a l m → Walk p b m n → Walk p (a + b) l n
 | 0, b, l, m, n, h, k => by rw [Nat.zero_add]; have h : l = m := h; rw [h]; exact k
 | a + 1, b, l, m, n, h, k => by rw [show a + 1 + b = (a + b) + 1 by omega]; exact ⟨h.1, Walk.trans h.2 k⟩
theorem Walk.ok {p : List D.Ins} : ∀ {a : Nat} {l m : D.Lane}, Walk p a l m → M.laneOk p l = true → M.laneOk p m = true
 | 0, l, m, h, hl => by have h : l = m := h; rw [← h]; exact hl
 | a + 1, l, m, h, hl => Walk.ok h.2 (laneOk_step hl h.1)
theorem Walk.alone {p : List D.Ins} : ∀ {a : Nat} {l m : D.Lane}, Walk p a l m → m.Pc = (p.length : Int) → Alone p a l m.Regs
 | 0, l, m, h, hm => by have h : l = m := h; rw [h]; exact ⟨hm, rfl⟩
 | a + 1, l, m, h, hm => ⟨h.1, Walk.alone h.2 hm⟩
def Agrees (p : List D.Ins) (b : Nat) (s : List D.Ins) : Prop := b + s.length ≤ p.length ∧ ∀ j : Nat, j < s.length → rd p ((b + j : Nat) : Int) = rd s (j : Int) ∨ rd p ((b + j : Nat) : Int) = ⟨12, 0, 0, 0⟩
theorem rd_left {α : Type} [Inhabited α] {s t : List α} {j : Nat} (hj : j < s.length) : rd (s ++ t) (j : Int) = rd s (j : Int) := by
 rw [rd_nat (by rw [List.length_append]; omega), List.getElem_append_left hj, rd_nat hj]
theorem rd_right {α : Type} [Inhabited α] {s t : List α} {j : Nat} (hj : j < t.length) : rd (s ++ t) ((s.length + j : Nat) : Int) = rd t (j : Int) := by
 rw [rd_nat (by rw [List.length_append]; omega), List.getElem_append_right (by omega), rd_nat hj]
 simp
theorem Agrees.left {p : List D.Ins} {b : Nat} {s t : List D.Ins} (h : Agrees p b (s ++ t)) : Agrees p b s := by
 refine ⟨by have := h.1; rw [List.length_append] at this; omega, fun j hj => ?_⟩
 have := h.2 j (by rw [List.length_append]; omega)
 rwa [rd_left hj] at this
theorem Agrees.right {p : List D.Ins} {b : Nat} {s t : List D.Ins} (h : Agrees p b (s ++ t)) : Agrees p (b + s.length) t := by
 refine ⟨by have := h.1; rw [List.length_append] at this; omega, fun j hj => ?_⟩
 have := h.2 (s.length + j) (by rw [List.length_append]; omega)
 rwa [rd_right hj, ← Nat.add_assoc] at this
theorem Agrees.head {p : List D.Ins} {b : Nat} {i : D.Ins} {s : List D.Ins} (h : Agrees p b (i :: s)) : rd p (b : Int) = i ∨ rd p (b : Int) = ⟨12, 0, 0, 0⟩ := h.2 0 (by simp)
theorem Agrees.tail {p : List D.Ins} {b : Nat} {i : D.Ins} {s : List D.Ins} (h : Agrees p b (i :: s)) : Agrees p (b + 1) s := by
 refine ⟨by have := h.1; rw [List.length_cons] at this; omega, fun j hj => ?_⟩
 have := h.2 (j + 1) (by rw [List.length_cons]; omega)
 rw [show b + (j + 1) = b + 1 + j by omega] at this
 have e : rd (i :: s) ((j + 1 : Nat) : Int) = rd s (j : Int) := by rw [rd_nat (by simp; omega), rd_nat hj]; rfl
 rwa [e] at this
def Comes (p : List D.Ins) (l : D.Lane) (e c : Nat) : Prop := ∃ k m, k ≤ c ∧ Walk p k l m ∧ (m.Pc = (e : Int) ∨ m.Pc = (p.length : Int))
theorem Comes.mono {p : List D.Ins} {l : D.Lane} {e c d : Nat} (h : Comes p l e c) (hd : c ≤ d) : Comes p l e d := by
 obtain ⟨k, m, h1, h2, h3⟩ := h
 exact ⟨k, m, by omega, h2, h3⟩
theorem Comes.step {p : List D.Ins} {l : D.Lane} {e c : Nat} (h : l.Pc < (p.length : Int)) (hc : Comes p (M.step p l) e c) : Comes p l e (c + 1) := by
 obtain ⟨k, m, h1, h2, h3⟩ := hc
 exact ⟨k + 1, m, by omega, ⟨h, h2⟩, h3⟩
theorem Comes.then {p : List D.Ins} {l : D.Lane} {e f c d : Nat} (hl : M.laneOk p l = true) (h : Comes p l e c) (k : ∀ m, M.laneOk p m = true → m.Pc = (e : Int) → Comes p m f d) : Comes p l f (c + d) := by
 obtain ⟨k1, m, h1, h2, h3⟩ := h
 rcases h3 with h3 | h3
 ·obtain ⟨k2, n, g1, g2, g3⟩ := k m (h2.ok hl) h3
  exact ⟨k1 + k2, n, by omega, h2.trans g2, g3⟩
 ·exact ⟨k1, m, by omega, h2, .inr h3⟩
end Go.V
namespace Go.V
open IntKind (wrap)
def sumTo (f : Nat → Nat) : Nat → Nat
 | 0 => 0
 | k + 1 => sumTo f k + f k
theorem sum_count {f g : Nat → Nat} {m : Int} : ∀ k : Nat, k ≤ 8 → (∀ i : Nat, i < k → f i = g i + if M.hasLane m (i : Int) = true then 1 else 0) → ((sumTo f k : Nat) : Int) = ((sumTo g k : Nat) : Int) + M.countTo m k
 | 0, _, _ => by simp [sumTo, M.countTo]
 | k + 1, hk, h => by
  have ih := sum_count k (by omega) fun i hi => h i (by omega)
  have hk := h k (by omega)
  simp only [sumTo, M.countTo]
  split at hk
  ·rename_i e; rw [if_pos e]; omega
  ·rename_i e; rw [if_neg e]; omega
def csum (p : List D.Ins) (x : D.Warp) : Nat → Int
 | 0 => 0
 | k + 1 => csum p x k + M.countTo (M.activeMask (M.wAt p x k)) 8
theorem trace {p : List D.Ins} {x : D.Warp} {rem : Nat → Nat} {R : Nat → List Int} (h : LInv p x rem R) (hq : M.isQuiet p = true) (hF : M.Fine p x) :
    ∀ j : Nat, (∀ k, k < j → (M.wAt p x k).Frames ≠ []) → ∃ rem' : Nat → Nat, LInv p (M.wAt p x j) rem' R ∧ M.Fine p (M.wAt p x j) ∧ (∀ i : Nat, i < 8 → rem' i ≤ rem i ∧ rem i ≤ rem' i + j) ∧
     csum p x j + ((sumTo rem' 8 : Nat) : Int) = ((sumTo rem 8 : Nat) : Int) ∧ (j : Int) ≤ csum p x j ∧ ∀ k, k < j → M.spec_l13Local p (M.wAt p x k) = true
 | 0, _ => ⟨rem, h, hF, fun i _ => ⟨Nat.le_refl _, by omega⟩, by simp [csum], by simp [csum], fun k hk => by omega⟩
 | j + 1, hj => by
  obtain ⟨rem', g1, g2, g3, g4, g5, g6⟩ := trace h hq hF j fun k hk => hj k (by omega)
  have hne := hj j (by omega)
  obtain ⟨l1, rem2, l2, l3⟩ := g1.step hq g2 hne
  have hc := sum_count 8 (Nat.le_refl _) l3
  have hr : M.Runs p (M.wAt p x j) := ⟨g2.1, g2.2, hne⟩
  obtain ⟨i, hi, ha⟩ := mask_some (runs_frames hr).2.2.2.2.1 (top_ends hr).2
  have h1 := count_one hi ha
  rw [← activeMask_top hne] at h1
  refine ⟨rem2, l2, stepW_fine (goes_of g2 l1), fun i hi => ?_, ?_, ?_, fun k hk => ?_⟩
  ·have := g3 i hi
   have := l3 i hi
   split at this <;> omega
  ·rw [csum]; omega
  ·rw [csum]; push_cast; omega
  ·by_cases e : k = j
   ·rw [e]; exact l1
   ·exact g6 k (by omega)
theorem least {P : Nat → Prop} : ∀ n : Nat, P n → ∃ m, m ≤ n ∧ P m ∧ ∀ k, k < m → ¬ P k
 | n, h => by
  by_cases e : ∃ k, k < n ∧ P k
  ·obtain ⟨k, hk, hp⟩ := e
   obtain ⟨m, h1, h2, h3⟩ := least k hp
   exact ⟨m, by omega, h2, h3⟩
  ·exact ⟨n, Nat.le_refl _, h, fun k hk hp => e ⟨k, hk, hp⟩⟩
theorem run_ends {p : List D.Ins} {x : D.Warp} {rem : Nat → Nat} {R : Nat → List Int} (h : LInv p x rem R) (hq : M.isQuiet p = true) (hF : M.Fine p x) :
    ∃ m : Nat, (m : Int) ≤ ((sumTo rem 8 : Nat) : Int) ∧ (M.wAt p x m).Frames = [] ∧ ∀ k, k < m → (M.wAt p x k).Frames ≠ [] := by
 have : ∃ m, m ≤ sumTo rem 8 + 1 ∧ (M.wAt p x m).Frames = [] := by
  apply Classical.byContradiction
  intro hno
  have hall : ∀ k, k < sumTo rem 8 + 1 → (M.wAt p x k).Frames ≠ [] := fun k hk e => hno ⟨k, by omega, e⟩
  obtain ⟨rem', g1, g2, g3, g4, g5, g6⟩ := trace h hq hF _ hall
  omega
 obtain ⟨m, _, hm⟩ := this
 obtain ⟨m', h1, h2, h3⟩ := least (P := fun k => (M.wAt p x k).Frames = []) m hm
 obtain ⟨rem', g1, g2, g3, g4, g5, g6⟩ := trace h hq hF m' h3
 exact ⟨m', by omega, h2, h3⟩
theorem runW_to {p : List D.Ins} : ∀ (m n : Nat) (x : D.Warp) (c : Int), m ≤ n → (∀ k, k < m → M.spec_l13Local p (M.wAt p x k) = true) → M.spec_l13Local p (M.wAt p x m) = false → M.runW p n x c = (M.wAt p x m, c + (m : Int))
 | 0, n, x, c, _, _, h => by rw [runW_stop p n x c h]; simp [M.wAt]
 | m + 1, 0, x, c, hm, _, _ => by omega
 | m + 1, n + 1, x, c, hm, hl, h => by
  have h0 : M.spec_l13Local p x = true := hl 0 (by omega)
  simp only [M.runW]
  rw [if_pos h0, runW_to m n (M.stepW p x) (c + 1) (by omega) (fun k hk => by rw [wAt_shift]; exact hl (k + 1) (by omega)) (by rw [wAt_shift]; exact h), wAt_shift]
  congr 1
  push_cast; omega
theorem cuts_all (r : List Int) : ∀ k : Nat, (List.range k).flatMap (M.laneCut r) = r.take (k * 4)
 | 0 => by simp
 | k + 1 => by
  rw [List.range_succ, List.flatMap_append, cuts_all r k, List.flatMap_singleton]
  unfold M.laneCut
  have : r.take (k * 4) = (r.take (k * 4 + 4)).take (k * 4) := by rw [List.take_take, Nat.min_eq_left (by omega)]
  rw [this, List.take_append_drop, show (k + 1) * 4 = k * 4 + 4 by omega]
theorem flat_same {α β : Type} {f g : α → List β} : ∀ l : List α, (∀ x ∈ l, f x = g x) → l.flatMap f = l.flatMap g
 | [], _ => rfl
 | x :: l, h => by
  rw [List.flatMap_cons, List.flatMap_cons, h x List.mem_cons_self, flat_same l fun y hy => h y (List.mem_cons_of_mem _ hy)]
theorem new_cut {i : Nat} (hi : i < 8) : M.laneCut (List.replicate 32 (0 : Int)) i = [0, 0, 0, 0] := by
 have : i = 0 ∨ i = 1 ∨ i = 2 ∨ i = 3 ∨ i = 4 ∨ i = 5 ∨ i = 6 ∨ i = 7 := by omega
 rcases this with rfl | rfl | rfl | rfl | rfl | rfl | rfl | rfl <;> rfl
theorem new_inv {p : List D.Ins} {w : Int} (hw : 0 ≤ w ∧ w ≤ 2) {st : Nat → Nat} {R : Nat → List Int} (h : ∀ i : Nat, i < 8 → Alone p (st i) (M.laneNew (w * 8 + (i : Int))) (R i)) : LInv p (M.newWarp p w) st R := by
 have hF : (M.newWarp p w).Frames = if p.length > 0 then [⟨0, p.length, 255⟩] else [] := rfl
 have hR : (M.newWarp p w).Regs = List.replicate 32 0 := rfl
 have hN : (M.newWarp p w).Number = w := rfl
 refine ⟨?_, ?_, fun i hi => ?_⟩
 ·rw [hF]
  split
  ·exact .inr (.base rfl rfl)
  ·exact .inl rfl
 ·rw [hF]
  intro f hf
  split at hf
  ·obtain rfl := List.mem_singleton.1 hf
   exact PD.last _
  ·cases hf
 ·have := h i hi
  have hl0 : M.laneNew (w * 8 + (i : Int)) = ⟨w * 8 + (i : Int), 0, [0, 0, 0, 0]⟩ := by
   unfold M.laneNew
   rw [if_pos (by simp only [M.isIn, Bool.and_eq_true, decide_eq_true_eq]; omega)]
  rw [hl0] at this
  rw [hN, hR, hF, new_cut hi]
  split
  ·show Alone p _ ⟨_, (if M.hasLane 255 (i : Int) = true then 0 else _), _⟩ _
   rw [if_pos (mask_full hi)]; exact this
  ·rename_i e
   show Alone p _ ⟨_, (p.length : Int), _⟩ _
   rw [show (p.length : Int) = 0 by omega]; exact this
structure Ends8 (p : List D.Ins) (w : Int) (st : Nat → Nat) (R : Nat → List Int) : Prop where
 quiet : M.isQuiet p = true
 num : 0 ≤ w ∧ w ≤ 2
 each : ∀ i : Nat, i < 8 → st i ≤ 1000 ∧ Alone p (st i) (M.laneNew (w * 8 + (i : Int))) (R i)
theorem new_ok_lane {p : List D.Ins} (hq : M.isQuiet p = true) {t : Int} (ht : 0 ≤ t ∧ t ≤ 23) : M.laneOk p (M.laneNew t) = true := by
 have hl0 : M.laneNew t = ⟨t, 0, [0, 0, 0, 0]⟩ := by
  unfold M.laneNew
  rw [if_pos (by simp only [M.isIn, Bool.and_eq_true, decide_eq_true_eq]; omega)]
 rw [hl0]
 unfold M.laneOk M.laneOf M.areRegs
 rw [quiet_prog hq]
 simp only [M.isIn, Bool.and_eq_true, decide_eq_true_eq]
 exact ⟨trivial, ht, ⟨by omega, by omega⟩, rfl, rfl⟩
theorem alone_steps {p : List D.Ins} (hq : M.isQuiet p = true) {t : Int} (ht : 0 ≤ t ∧ t ≤ 23) {k : Nat} {R : List Int} (hk : k ≤ 1000) (h : Alone p k (M.laneNew t) R) :
    M.stepsAlone p t = (k : Int) ∧ (M.runAlone p t).2 = true ∧ (M.runAlone p t).1.Regs = R := by
 have hok := new_ok_lane hq ht
 have e : M.runLane p (M.laneNew t) 1000 = M.runN p 1000 (M.laneNew t) 0 := by
  unfold M.runLane
  rw [if_pos (by rw [hq, hok]; rfl)]; rfl
 obtain ⟨g1, g2, g3⟩ := alone_run k 1000 _ 0 R h hk
 unfold M.stepsAlone M.runAlone
 rw [e, g1, g2, if_neg (by omega), if_neg (by omega), if_neg (by omega), if_neg (by omega)]
 exact ⟨by omega, rfl, g3⟩
theorem Ends8.lane {p : List D.Ins} {w : Int} {st : Nat → Nat} {R : Nat → List Int} (h : Ends8 p w st R) {i : Nat} (hi : i < 8) : M.stepsAlone p (w * 8 + (i : Int)) = (st i : Int) ∧ (M.runAlone p (w * 8 + (i : Int))).2 = true ∧ (M.runAlone p (w * 8 + (i : Int))).1.Regs = R i :=
 alone_steps h.quiet (by have := h.num; omega) (h.each i hi).1 (h.each i hi).2
theorem Ends8.fine {p : List D.Ins} {w : Int} {st : Nat → Nat} {R : Nat → List Int} (h : Ends8 p w st R) : M.Fine p (M.newWarp p w) :=
 newWarp_fine (quiet_prog h.quiet) (by have := h.num; simp only [M.isIn, Bool.and_eq_true, decide_eq_true_eq]; exact this)
theorem Ends8.inv {p : List D.Ins} {w : Int} {st : Nat → Nat} {R : Nat → List Int} (h : Ends8 p w st R) : LInv p (M.newWarp p w) st R := new_inv h.num fun i hi => (h.each i hi).2
theorem sumTo_le {st : Nat → Nat} : ∀ k : Nat, (∀ i, i < k → st i ≤ 1000) → sumTo st k ≤ 1000 * k
 | 0, _ => by simp [sumTo]
 | k + 1, h => by
  have := sumTo_le k fun i hi => h i (by omega)
  have := h k (by omega)
  rw [sumTo]; omega
theorem Ends8.result {p : List D.Ins} {w : Int} {st : Nat → Nat} {R : Nat → List Int} (h : Ends8 p w st R) : ∃ m : Nat, (m : Int) ≤ ((sumTo st 8 : Nat) : Int) ∧ (∀ i : Nat, i < 8 → st i ≤ m) ∧
    M.warpResult p w = (M.wAt p (M.newWarp p w) m, (m : Int), true) ∧ (M.wAt p (M.newWarp p w) m).Frames = [] ∧ (∀ k, k < m → (M.wAt p (M.newWarp p w) k).Frames ≠ []) ∧
    (M.wAt p (M.newWarp p w) m).Regs = M.endList p (w * 8) 8 ∧ csum p (M.newWarp p w) m = ((sumTo st 8 : Nat) : Int) := by
 obtain ⟨m, h1, h2, h3⟩ := run_ends h.inv h.quiet h.fine
 obtain ⟨rem', g1, g2, g3, g4, g5, g6⟩ := trace h.inv h.quiet h.fine m h3
 have hend : ∀ i : Nat, i < 8 → rem' i = 0 ∧ M.laneCut (M.wAt p (M.newWarp p w) m).Regs i = R i := fun i hi => by
  have := g1.lane i hi
  rw [h2] at this
  exact this.at_end rfl
 have hz : sumTo rem' 8 = 0 := by
  have : ∀ k, k ≤ 8 → sumTo rem' k = 0 := by
   intro k hk
   induction k with
   | zero => rfl
   | succ k ih => rw [sumTo, ih (by omega), (hend k (by omega)).1]
  exact this 8 (Nat.le_refl _)
 have hs := sumTo_le 8 fun i hi => (h.each i hi).1
 have hlen : (M.wAt p (M.newWarp p w) m).Regs.length = 32 := (fine_small g2).2
 refine ⟨m, h1, fun i hi => ?_, ?_, h2, h3, ?_, by rw [hz] at g4; omega⟩
 ·have := g3 i hi
  have := (hend i hi).1
  omega
 ·have hrun : M.runW p 8000 (M.newWarp p w) 0 = (M.wAt p (M.newWarp p w) m, 0 + (m : Int)) := runW_to m 8000 _ 0 (by omega) g6 (by simp [M.spec_l13Local, h2])
  unfold M.warpResult
  rw [hrun, if_pos (by rw [h.quiet]; have := h.num; simp only [M.isIn, Bool.true_and, Bool.and_eq_true, decide_eq_true_eq]; exact this), if_pos (by rw [h2]; rfl)]
  simp
 ·have e1 : (M.wAt p (M.newWarp p w) m).Regs = (List.range 8).flatMap (M.laneCut (M.wAt p (M.newWarp p w) m).Regs) := by
    rw [cuts_all, List.take_of_length_le (by omega)]
  rw [e1]
  unfold M.endList
  refine flat_same _ fun i hi => ?_
  have hi := List.mem_range.1 hi
  rw [(hend i hi).2, (h.lane hi).2.2]
end Go.V
namespace Go.V
open IntKind (wrap)
theorem Ends8.stepsList {p : List D.Ins} {w : Int} {st : Nat → Nat} {R : Nat → List Int} (h : Ends8 p w st R) : M.stepsList p w = (List.range 8).map fun i : Nat => (st i : Int) := by
 unfold M.stepsList
 apply List.map_congr_left
 intro i hi
 exact (h.lane (List.mem_range.1 hi)).1
theorem Ends8.stepsOf {p : List D.Ins} {w : Int} {st : Nat → Nat} {R : Nat → List Int} (h : Ends8 p w st R) : M.stepsOf p w = ((List.range 8).map fun i : Nat => (st i : Int), true) := by
 have hw : M.isIn w 0 2 = true := by have := h.num; simp only [M.isIn, Bool.and_eq_true, decide_eq_true_eq]; exact this
 unfold M.stepsOf
 rw [h.stepsList, hw, if_pos]
 rw [Bool.true_and, List.all_eq_true]
 intro x hx
 obtain ⟨i, _, rfl⟩ := List.mem_map.1 hx
 simp
theorem most_le {b : Int} : ∀ (l : List Int) (m : Int), m ≤ b → (∀ x ∈ l, x ≤ b) → M.most l m ≤ b
 | [], m, hm, _ => hm
 | x :: l, m, hm, h => by
  show M.most l (if x > m then x else m) ≤ b
  refine most_le l _ ?_ fun y hy => h y (List.mem_cons_of_mem _ hy)
  split
  ·exact h x List.mem_cons_self
  ·exact hm
theorem Ends8.most {p : List D.Ins} {w : Int} {st : Nat → Nat} {R : Nat → List Int} (h : Ends8 p w st R) {m : Nat} (hm : ∀ i : Nat, i < 8 → st i ≤ m) : M.mostAlone p w ≤ (m : Int) := by
 unfold M.mostAlone
 rw [h.stepsOf, if_pos rfl]
 refine most_le _ _ (by omega) fun x hx => ?_
 obtain ⟨i, hi, rfl⟩ := List.mem_map.1 hx
 have := hm i (List.mem_range.1 hi)
 omega
theorem Ends8.endRegs {p : List D.Ins} {w : Int} {st : Nat → Nat} {R : Nat → List Int} (h : Ends8 p w st R) : M.endRegs p (w * 8) 8 = (M.endList p (w * 8) 8, true) := by
 unfold M.endRegs
 rw [if_pos]
 ·rfl
 ·rw [Bool.and_eq_true, Bool.and_eq_true]
  refine ⟨rfl, by have := h.num; simp only [M.isIn, Bool.and_eq_true, decide_eq_true_eq]; omega, ?_⟩
  unfold M.endOk
  rw [List.all_eq_true]
  intro i hi
  exact (h.lane (List.mem_range.1 hi)).2.1
end Go.V
namespace Go.V
open IntKind (wrap)
def wp.spec_l04Memory (s0 : D.Cur) (Q : (D.Ins × D.Cur) → Prop) : Prop :=
 (M.spec_l01PickInt_pre s0 ([13, 14, 15] : List Int) ∧ ∀ r26, r26 = M.spec_l01PickInt s0 ([13, 14, 15] : List Int) → (M.spec_l01Below_pre (⟨s0.b, r26.2.i, r26.2.h⟩ : D.Cur) 4 ∧ ∀ r32, r32 = M.spec_l01Below (⟨s0.b, r26.2.i, r26.2.h⟩ : D.Cur) 4 → (M.spec_l01Below_pre (⟨s0.b, r32.2.i, r32.2.h⟩ : D.Cur) 4 ∧ ∀ r38, r38 = M.spec_l01Below (⟨s0.b, r32.2.i, r32.2.h⟩ : D.Cur) 4 → Q ((⟨r26.1, r32.1, r38.1, 0⟩ : D.Ins), (⟨s0.b, r38.2.i, r38.2.h⟩ : D.Cur)))))
def wp.spec_l29Program (s0 : D.Cur) (Q : ((List D.Ins) × D.Cur) → Prop) : Prop :=
 (M.spec_l01Below_pre s0 5 ∧ ∀ r24, r24 = M.spec_l01Below s0 5 → LoopP (σ := (List D.Ins) × Int × Int × Int × Unit) (fun (p198 : (List D.Ins) × Int × Int × Int × Unit) next62 => match p198 with | (xs53, i56, i57, i58, _) => bcase (decide (i56 > 0)) (bcase (decide ((wrap .i64 ((xs53.length : Int) + 4)) ≤ 32)) ((M.spec_l01Below_pre (⟨s0.b, i57, i58⟩ : D.Cur) 7 ∧ ∀ r64, r64 = M.spec_l01Below (⟨s0.b, i57, i58⟩ : D.Cur) 7 → bcase (r64.1 == 0) (((xs53.length + ([(⟨16, 0, 0, 0⟩ : D.Ins)] : List D.Ins).length ≤ 17179869184) ∧ next62 ((xs53 ++ ([(⟨16, 0, 0, 0⟩ : D.Ins)] : List D.Ins)), (wrap .i64 (i56 - 1)), r64.2.i, r64.2.h, ()))) (bcase (r64.1 == 1) ((M.spec_l01Below_pre (⟨s0.b, r64.2.i, r64.2.h⟩ : D.Cur) 4 ∧ ∀ r81, r81 = M.spec_l01Below (⟨s0.b, r64.2.i, r64.2.h⟩ : D.Cur) 4 → ((xs53.length + ([(⟨8, 0, 0, 0⟩ : D.Ins), (⟨14, 0, r81.1, 0⟩ : D.Ins)] : List D.Ins).length ≤ 17179869184) ∧ next62 ((xs53 ++ ([(⟨8, 0, 0, 0⟩ : D.Ins), (⟨14, 0, r81.1, 0⟩ : D.Ins)] : List D.Ins)), (wrap .i64 (i56 - 1)), r81.2.i, r81.2.h, ())))) (bcase (r64.1 == 2) ((M.spec_l01PickInt_pre (⟨s0.b, r64.2.i, r64.2.h⟩ : D.Cur) ([1, 8, 31] : List Int) ∧ ∀ r101, r101 = M.spec_l01PickInt (⟨s0.b, r64.2.i, r64.2.h⟩ : D.Cur) ([1, 8, 31] : List Int) → ((xs53.length + ([(⟨1, 1, r101.1, 0⟩ : D.Ins), (⟨8, 0, 0, 0⟩ : D.Ins), (⟨3, 0, 0, 1⟩ : D.Ins), (⟨13, 2, 0, 0⟩ : D.Ins)] : List D.Ins).length ≤ 17179869184) ∧ next62 ((xs53 ++ ([(⟨1, 1, r101.1, 0⟩ : D.Ins), (⟨8, 0, 0, 0⟩ : D.Ins), (⟨3, 0, 0, 1⟩ : D.Ins), (⟨13, 2, 0, 0⟩ : D.Ins)] : List D.Ins)), (wrap .i64 (i56 - 1)), r101.2.i, r101.2.h, ())))) (bcase (r64.1 == 3) ((M.spec_l01Below_pre (⟨s0.b, r64.2.i, r64.2.h⟩ : D.Cur) 8 ∧ ∀ r118, r118 = M.spec_l01Below (⟨s0.b, r64.2.i, r64.2.h⟩ : D.Cur) 8 → (M.spec_l01Below_pre (⟨s0.b, r118.2.i, r118.2.h⟩ : D.Cur) 4 ∧ ∀ r124, r124 = M.spec_l01Below (⟨s0.b, r118.2.i, r118.2.h⟩ : D.Cur) 4 → ((xs53.length + ([(⟨1, 1, (wrap .i64 (24 + r118.1)), 0⟩ : D.Ins), (⟨15, 1, r124.1, 0⟩ : D.Ins)] : List D.Ins).length ≤ 17179869184) ∧ next62 ((xs53 ++ ([(⟨1, 1, (wrap .i64 (24 + r118.1)), 0⟩ : D.Ins), (⟨15, 1, r124.1, 0⟩ : D.Ins)] : List D.Ins)), (wrap .i64 (i56 - 1)), r124.2.i, r124.2.h, ()))))) (bcase (r64.1 == 4) (bcase (decide ((xs53.length : Int) < 12)) ((M.spec_l05Body_pre (⟨s0.b, r64.2.i, r64.2.h⟩ : D.Cur) xs53 1 ∧ ∀ r141, r141 = M.spec_l05Body (⟨s0.b, r64.2.i, r64.2.h⟩ : D.Cur) xs53 1 → next62 (r141.1, (wrap .i64 (i56 - 1)), r141.2.i, r141.2.h, ()))) (next62 (xs53, (wrap .i64 (i56 - 1)), r64.2.i, r64.2.h, ()))) (bcase (r64.1 == 5) ((M.spec_l04Memory_pre (⟨s0.b, r64.2.i, r64.2.h⟩ : D.Cur) ∧ ∀ r156, r156 = M.spec_l04Memory (⟨s0.b, r64.2.i, r64.2.h⟩ : D.Cur) → ((xs53.length + ([r156.1] : List D.Ins).length ≤ 17179869184) ∧ next62 ((xs53 ++ ([r156.1] : List D.Ins)), (wrap .i64 (i56 - 1)), r156.2.i, r156.2.h, ())))) ((M.spec_l04Plain_pre (⟨s0.b, r64.2.i, r64.2.h⟩ : D.Cur) ∧ ∀ r173, r173 = M.spec_l04Plain (⟨s0.b, r64.2.i, r64.2.h⟩ : D.Cur) → ((xs53.length + ([r173.1] : List D.Ins).length ≤ 17179869184) ∧ next62 ((xs53 ++ ([r173.1] : List D.Ins)), (wrap .i64 (i56 - 1)), r173.2.i, r173.2.h, ()))))))))))) (Q (xs53, (⟨s0.b, i57, i58⟩ : D.Cur)))) (Q (xs53, (⟨s0.b, i57, i58⟩ : D.Cur)))) (([(⟨8, 0, 0, 0⟩ : D.Ins)] : List D.Ins), (wrap .i64 (1 + r24.1)), r24.2.i, r24.2.h, ()))
end Go.V
namespace Go.V
open IntKind (wrap)
theorem wp.spec_l04Memory.math (c : D.Cur) (h : M.spec_l04Memory_pre c) : wp.spec_l04Memory c (fun r => r = M.spec_l04Memory c) := by
 have h : M.CurOk c := h
 refine ⟨⟨h, by simp, by simp⟩, fun r hr => ?_⟩
 subst hr
 have c1 := pick_ok h [13, 14, 15]
 have b1 := pick_b c [13, 14, 15]
 rw [cur_eta b1]
 refine ⟨c1, fun r hr => ?_⟩
 subst hr
 have b2 := (below_b (M.spec_l01PickInt c [13, 14, 15]).2 4).trans b1
 rw [cur_eta b2]
 refine ⟨below_ok c1 4, fun r hr => ?_⟩
 subst hr
 rw [cur_eta ((below_b _ 4).trans b2)]; rfl
def itP : Nat → D.Cur → List D.Ins → List D.Ins × D.Cur
 | 0, c, p => (p, c)
 | k + 1, c, p => M.progOne (itP k c p).2 (itP k c p).1
theorem wp.spec_l29Program.math (c : D.Cur) (h : M.spec_l29Program_pre c) : wp.spec_l29Program c (fun r => r = M.spec_l29Program c) := by
 have h : M.CurOk c := h
 unfold wp.spec_l29Program
 refine ⟨h, fun r0 g0 => ?_⟩
 subst g0
 have hb := below_in c (n := 5) (by omega)
 have hc0 := below_ok h 5
 have hb0 := below_b c 5
 rw [w64 (x := 1 + (M.spec_l01Below c 5).1) (by omega) (by omega)]
 show LoopP _ _
 have eM : M.spec_l29Program c = M.progN (1 + (M.spec_l01Below c 5).1).toNat (M.spec_l01Below c 5).2 [⟨8, 0, 0, 0⟩] := rfl
 rw [eM]
 obtain ⟨n, hn⟩ := Int.eq_ofNat_of_zero_le (show 0 ≤ 1 + (M.spec_l01Below c 5).1 by omega)
 have hnb : n ≤ 5 := by omega
 generalize (M.spec_l01Below c 5).2 = c0 at *
 rw [hn, Int.toNat_natCast]
 refine loop_n n (fun k => ((itP k c0 [⟨8, 0, 0, 0⟩]).1, ((n : Int) - (k : Int)), (itP k c0 [⟨8, 0, 0, 0⟩]).2.i, (itP k c0 [⟨8, 0, 0, 0⟩]).2.h, ()))
  (fun k => M.CurOk (itP k c0 [⟨8, 0, 0, 0⟩]).2 ∧ (itP k c0 [⟨8, 0, 0, 0⟩]).2.b = c.b ∧ (itP k c0 [⟨8, 0, 0, 0⟩]).1.length ≤ 32 ∧ (k ≤ n → M.progN n c0 [⟨8, 0, 0, 0⟩] = M.progN (n - k) (itP k c0 [⟨8, 0, 0, 0⟩]).2 (itP k c0 [⟨8, 0, 0, 0⟩]).1))
  (by simp [itP]) ⟨hc0, hb0, by simp [itP], fun _ => rfl⟩ (fun k hk hF next hnx => ?_) fun hF next => ?_
 ·obtain ⟨f1, f2, fl, f3⟩ := hF
  have f3 := f3 (by omega)
  have it : itP (k + 1) c0 [⟨8, 0, 0, 0⟩] = M.progOne (itP k c0 [⟨8, 0, 0, 0⟩]).2 (itP k c0 [⟨8, 0, 0, 0⟩]).1 := rfl
  rw [it] at hnx
  generalize itP k c0 [⟨8, 0, 0, 0⟩] = y at *
  obtain ⟨q, e⟩ := y
  dsimp only at *
  rw [w64 (x := (q.length : Int) + 4) (by omega) (by omega)]
  refine bcase_t (by simp; omega) (bcase_mk (fun g => ?_) fun g => ?_)
  ·have g : (q.length : Int) + 4 ≤ 32 := by simpa using g
   obtain ⟨k1, k2, s, k3, k4, k5⟩ := progOne_grows f1 (p := q) (by omega)
   have ew : wrap .i64 ((n : Int) - (k : Int) - 1) = (n : Int) - ((k + 1 : Nat) : Int) := by rw [w64 (by omega) (by omega)]; omega
   have fin : ∀ P c', M.progOne e q = (P, c') → next (P, wrap .i64 ((n : Int) - (k : Int) - 1), c'.i, c'.h, ()) := fun P c' hE => by
    rw [ew]
    have := hnx ⟨k1, k2.trans f2, by rw [k3, List.length_append]; exact k5, fun _ => ?_⟩
    ·rw [hE] at this; exact this
    ·rw [f3, show n - k = (n - (k + 1)) + 1 by omega, M.progN, if_pos g]
   rw [cur_eta f2]
   refine ⟨f1, fun r5 g5 => ?_⟩
   subst g5
   have c5 := below_ok f1 7
   have b5 : (M.spec_l01Below e 7).2.b = c.b := (below_b e 7).trans f2
   simp only [cur_eta b5]
   have hb5 := below_in e (n := 7) (by omega)
   have fin2 := fin
   unfold M.progOne at fin2
   generalize (M.spec_l01Below e 7).1 = d at *
   generalize (M.spec_l01Below e 7).2 = e5 at *
   refine bcase_mk (fun d0 => ?_) fun d0 => bcase_mk (fun d1 => ?_) fun d1 => bcase_mk (fun d2 => ?_) fun d2 => bcase_mk (fun d3 => ?_) fun d3 => bcase_mk (fun d4 => ?_) fun d4 => bcase_mk (fun d5 => ?_) fun d5 => ?_
   ·have d0 : d = 0 := by simpa using d0
    exact ⟨by simp; omega, fin2 _ _ (by rw [if_pos d0])⟩
   ·have d0 : ¬ d = 0 := by simpa using d0
    have d1 : d = 1 := by simpa using d1
    refine ⟨c5, fun r hr => ?_⟩
    subst hr
    exact ⟨by simp; omega, fin2 _ _ (by rw [if_neg d0, if_pos d1]; rfl)⟩
   ·have d0 : ¬ d = 0 := by simpa using d0
    have d1 : ¬ d = 1 := by simpa using d1
    have d2 : d = 2 := by simpa using d2
    refine ⟨⟨c5, by simp, by simp⟩, fun r hr => ?_⟩
    subst hr
    exact ⟨by simp; omega, fin2 _ _ (by rw [if_neg d0, if_neg d1, if_pos d2]; rfl)⟩
   ·have d0 : ¬ d = 0 := by simpa using d0
    have d1 : ¬ d = 1 := by simpa using d1
    have d2 : ¬ d = 2 := by simpa using d2
    have d3 : d = 3 := by simpa using d3
    refine ⟨c5, fun r hr => ?_⟩
    subst hr
    have h8 := below_in e5 (n := 8) (by omega)
    rw [cur_eta ((below_b e5 8).trans b5), w64 (x := 24 + (M.spec_l01Below e5 8).1) (by omega) (by omega)]
    refine ⟨below_ok c5 8, fun r hr => ?_⟩
    subst hr
    exact ⟨by simp; omega, fin2 _ _ (by rw [if_neg d0, if_neg d1, if_neg d2, if_pos d3]; rfl)⟩
   ·have d0 : ¬ d = 0 := by simpa using d0
    have d1 : ¬ d = 1 := by simpa using d1
    have d2 : ¬ d = 2 := by simpa using d2
    have d3 : ¬ d = 3 := by simpa using d3
    have d4 : d = 4 := by simpa using d4
    rw [if_neg d0, if_neg d1, if_neg d2, if_neg d3, if_pos d4] at fin2
    refine bcase_mk (fun l12 => ⟨⟨c5, by simp at l12; omega, by omega, by omega⟩, fun r hr => ?_⟩) fun l12 => ?_
    ·have l12 : (q.length : Int) < 12 := by simpa using l12
     rw [if_pos l12] at fin2
     exact fin2 _ _ (by rw [hr]; rfl)
    ·have l12 : ¬ (q.length : Int) < 12 := by simpa using l12
     rw [if_neg l12] at fin2
     exact fin2 _ _ rfl
   ·have d0 : ¬ d = 0 := by simpa using d0
    have d1 : ¬ d = 1 := by simpa using d1
    have d2 : ¬ d = 2 := by simpa using d2
    have d3 : ¬ d = 3 := by simpa using d3
    have d4 : ¬ d = 4 := by simpa using d4
    have d5 : d = 5 := by simpa using d5
    refine ⟨c5, fun r hr => ?_⟩
    subst hr
    exact ⟨by simp; omega, fin2 _ _ (by rw [if_neg d0, if_neg d1, if_neg d2, if_neg d3, if_neg d4, if_pos d5])⟩
   ·have d0 : ¬ d = 0 := by simpa using d0
    have d1 : ¬ d = 1 := by simpa using d1
    have d2 : ¬ d = 2 := by simpa using d2
    have d3 : ¬ d = 3 := by simpa using d3
    have d4 : ¬ d = 4 := by simpa using d4
    have d5 : ¬ d = 5 := by simpa using d5
    refine ⟨c5, fun r hr => ?_⟩
    subst hr
    exact ⟨by simp; omega, fin2 _ _ (by rw [if_neg d0, if_neg d1, if_neg d2, if_neg d3, if_neg d4, if_neg d5])⟩
  ·have g : ¬ (q.length : Int) + 4 ≤ 32 := by simpa using g
   rw [f3, show n - k = (n - (k + 1)) + 1 by omega, M.progN, if_neg g, cur_eta f2]
 ·obtain ⟨f1, f2, fl, f3⟩ := hF
  refine bcase_f (by simp) ?_
  rw [f3 (Nat.le_refl _), Nat.sub_self, cur_eta f2]; rfl
theorem newBlock_ok {p : List D.Ins} (hp : M.programOk p = true) {c : Int} (hc : 1 ≤ c ∧ c ≤ 3) : M.blockOk (M.newBlock p c) = true ∧ ((M.newBlock p c).Warps.length : Int) = c := by
 have hlen : ((M.newBlock p c).Warps.length : Int) = c := by simp [M.newBlock]; omega
 have hz : M.impl_isMemory (List.replicate 32 0) = true := by rfl
 have hat : ∀ k : Nat, k ≤ 2 → M.warpAt p k (M.newWarp p (k : Int)) = true := fun k hk => by
  unfold M.warpAt
  rw [(newWarp_fine hp (w := (k : Int)) (by simp only [M.isIn, Bool.and_eq_true, decide_eq_true_eq]; omega)).2]
  simp [M.newWarp]
 have h0 := hat 0 (by omega)
 have h1 := hat 1 (by omega)
 have h2 := hat 2 (by omega)
 refine ⟨?_, hlen⟩
 have : c = 1 ∨ c = 2 ∨ c = 3 := by omega
 unfold M.blockOk
 have e1 : (M.newBlock p c).Code = p := rfl
 have e2 : (M.newBlock p c).Memory = List.replicate 32 0 := rfl
 have e3 : (M.newBlock p c).Waiting = 0 := rfl
 have e4 : (M.newBlock p c).Phase = 0 := rfl
 rw [e1, e2, e3, e4, hp, hz]
 rcases this with rfl | rfl | rfl
 ·have e5 : (M.newBlock p 1).Warps = [M.newWarp p ((0 : Nat) : Int)] := rfl
  rw [e5]
  have : M.warpsOk p 0 [M.newWarp p ((0 : Nat) : Int)] = true := by simp only [M.warpsOk, h0]; rfl
  rw [this]; rfl
 ·have e5 : (M.newBlock p 2).Warps = [M.newWarp p ((0 : Nat) : Int), M.newWarp p ((1 : Nat) : Int)] := rfl
  rw [e5]
  have : M.warpsOk p 0 [M.newWarp p ((0 : Nat) : Int), M.newWarp p ((1 : Nat) : Int)] = true := by simp only [M.warpsOk, h0, h1, Nat.zero_add]; rfl
  rw [this]; rfl
 ·have e5 : (M.newBlock p 3).Warps = [M.newWarp p ((0 : Nat) : Int), M.newWarp p ((1 : Nat) : Int), M.newWarp p ((2 : Nat) : Int)] := rfl
  rw [e5]
  have : M.warpsOk p 0 [M.newWarp p ((0 : Nat) : Int), M.newWarp p ((1 : Nat) : Int), M.newWarp p ((2 : Nat) : Int)] = true := by simp only [M.warpsOk, h0, h1, h2, Nat.zero_add]; rfl
  rw [this]; rfl
end Go.V
namespace Go.V
open IntKind (wrap)
def MemFit (i : D.Ins) : Prop := 0 ≤ i.A ∧ i.A ≤ 3 ∧ 0 ≤ i.B ∧ i.B ≤ 3
structure MemOk (s : List Int × List Int) : Prop where
 l1 : s.1.length = 32
 w1 : s.1.all M.isWord = true
 l2 : s.2.length = 32
 w2 : s.2.all M.isWord = true
theorem all_set {α : Type} {p : α → Bool} {l : List α} {k : Nat} {y : α} (h : l.all p = true) (hy : p y = true) : (l.set k y).all p = true := by
 rw [List.all_eq_true] at *
 intro x hx
 rcases List.mem_or_eq_of_mem_set hx with h1 | h1
 ·exact h _ h1
 ·rw [h1]; exact hy
theorem all_rdI {p : Int → Bool} {l : List Int} (h : l.all p = true) {z : Int} (h0 : 0 ≤ z) (h1 : z < (l.length : Int)) : p (rd l z) = true := List.all_eq_true.1 h _ (rd_of h0 h1)
theorem word_in {x : Int} (h : M.isWord x = true) : 0 ≤ x ∧ x ≤ 65535 := by
 simpa only [M.isWord, M.isIn, Bool.and_eq_true, decide_eq_true_eq] using h
theorem slot_in {x : Int} (h : M.isWord x = true) : 0 ≤ Int.tmod x 32 ∧ Int.tmod x 32 < 32 := tmod_in2 (word_in h).1 (by omega)
theorem memStep_ok {i : D.Ins} {s : List Int × List Int} {k : Int} (hi : MemFit i) (hs : MemOk s) (h0 : 0 ≤ k) (hk : k ≤ 7) : MemOk (M.memStep i s k) := by
 obtain ⟨a0, a1, b0, b1⟩ := hi
 obtain ⟨l1, w1, l2, w2⟩ := hs
 have wA := all_rdI w1 (z := k * 4 + i.A) (by omega) (by omega)
 have wB := all_rdI w1 (z := k * 4 + i.B) (by omega) (by omega)
 have pB := slot_in wB
 unfold M.memStep
 split
 ·exact ⟨by simpa using l1, all_set w1 (all_rdI w2 pB.1 (by omega)), l2, w2⟩
 ·split
  ·exact ⟨l1, w1, by simpa using l2, all_set w2 wB⟩
  ·split
   ·exact ⟨l1, w1, by simpa using l2, all_set w2 (addW_word _ _)⟩
   ·exact ⟨l1, w1, l2, w2⟩
theorem memTo_ok {i : D.Ins} {m : Int} {s : List Int × List Int} (hi : MemFit i) (hs : MemOk s) : ∀ k : Nat, k ≤ 8 → MemOk (M.memTo i m s k)
 | 0, _ => hs
 | k + 1, hk => by
  unfold M.memTo
  split
  ·exact memStep_ok hi (memTo_ok hi hs k (by omega)) (by omega) (by omega)
  ·exact memTo_ok hi hs k (by omega)
theorem far_ins {i : D.Ins} {n : Int} (h : M.insOk i n = true) (hl : M.isLocal i = false) : MemFit i ∧ (i.Op = 13 ∨ i.Op = 14 ∨ i.Op = 15 ∨ i.Op = 16) := by
 have hl' : ¬ (0 ≤ i.Op ∧ i.Op ≤ 12) := by
  intro hc
  rw [show M.isLocal i = true by simp only [M.isLocal, M.isIn, Bool.and_eq_true, decide_eq_true_eq]; exact hc] at hl
  cases hl
 unfold M.insOk at h
 rw [Bool.and_eq_true] at h
 have h := h.2
 unfold MemFit
 split at h
 ·rename_i e
  simp only [Bool.and_eq_true, beq_iff_eq] at h
  refine ⟨by omega, by omega⟩
 ·split at h
  ·omega
  ·split at h
   ·rename_i e
    simp only [M.isReg, M.isIn, Bool.and_eq_true, beq_iff_eq, decide_eq_true_eq] at h
    refine ⟨by omega, by omega⟩
   ·split at h
    ·omega
    ·split at h
     ·omega
     ·split at h
      ·omega
      ·simp only [M.isIn, Bool.and_eq_true, decide_eq_true_eq] at h
       omega
theorem memory_ok {b : D.Block} (h : M.blockOk b = true) : b.Memory.length = 32 ∧ b.Memory.all M.isWord = true := by
 simp only [M.blockOk, M.impl_isMemory, Bool.and_eq_true, beq_iff_eq] at h
 exact h.2.2.1
theorem live_mem {b : D.Block} {w : Int} (h : M.Live b w) : MemOk ((rd b.Warps w).Regs, b.Memory) := by
 have hr := has_runs h.1 h.2
 exact ⟨(runs_top hr).2.2.2.1, (runs_frames hr).2.2.2.2.2, (memory_ok (has_warp h.1).2.2.2.2.2).1, (memory_ok (has_warp h.1).2.2.2.2.2).2⟩
theorem live_far {b : D.Block} {w : Int} (h : M.Live b w) (hl : M.isLocal (M.nextI b w) = false) : MemFit (M.nextI b w) ∧ ((M.nextI b w).Op = 13 ∨ (M.nextI b w).Op = 14 ∨ (M.nextI b w).Op = 15 ∨ (M.nextI b w).Op = 16) :=
 far_ins (runs_top (has_runs h.1 h.2)).2.2.2.2.2.2.1 hl
theorem bitAnd_1 (x : Int) : bitAnd .i64 x 1 = x % 2 := by
 unfold bitAnd
 have e1 : (BitVec.ofInt (IntKind.bits .i64) x &&& BitVec.ofInt (IntKind.bits .i64) 1).toNat = (x % 2).toNat := by
  show (BitVec.ofInt 64 x &&& BitVec.ofInt 64 1).toNat = _
  rw [BitVec.toNat_and, BitVec.toNat_ofInt, show (BitVec.ofInt 64 1).toNat = 2 ^ 1 - 1 from rfl, Nat.and_two_pow_sub_one_eq_mod]
  rw [show ((2 ^ 64 : Nat) : Int) = 18446744073709551616 from rfl]
  omega
 rw [e1, w64 (by omega) (by omega)]
 omega
theorem zero_waits (b : D.Block) (k : Int) : (bitAnd .i64 (Int.fdiv b.Waiting (2 ^ (min (k.toNat) (IntKind.bits .i64)))) 1 == 0) = !M.waits b k := by
 unfold M.waits
 rw [bitAnd_1, Bool.eq_iff_iff]
 simp only [beq_iff_eq, Bool.not_eq_true', beq_eq_false_iff_ne, ne_eq]
 omega
theorem or_check : ((List.range 8).all fun a => (List.range 4).all fun n => (List.range 3).all fun k => !(decide (1 ≤ n) && (decide (k < n) && decide (a < 2 ^ n))) || (decide (0 ≤ bitOr .i64 ((a : Nat) : Int) (M.bitAt ((k : Nat) : Int))) && decide (bitOr .i64 ((a : Nat) : Int) (M.bitAt ((k : Nat) : Int)) < 2 ^ n))) = true := by kernel_rfl
theorem full_check : ((List.range 4).all fun n => (List.range 3).all fun k => !decide (k < n) || (Int.fdiv (((2 ^ n - 1 : Nat)) : Int) (2 ^ (min (((k : Nat) : Int).toNat) (IntKind.bits .i64))) % 2 == 1)) = true := by kernel_rfl
theorem waitTop_check : ((List.range 4).all fun n => n == 0 || (M.waitTop n == (2 : Int) ^ n - 2)) = true := by kernel_rfl
theorem waitTop_eq {n : Nat} (h1 : 1 ≤ n) (h3 : n ≤ 3) : M.waitTop n = (2 : Int) ^ n - 2 := by
 have := List.all_eq_true.1 waitTop_check n (List.mem_range.2 (by omega))
 simp only [Bool.or_eq_true, beq_iff_eq] at this
 exact this.resolve_left (by omega)
theorem or_in {a : Int} {n k : Nat} (h1 : 1 ≤ n) (h3 : n ≤ 3) (hk : k < n) (h0 : 0 ≤ a) (ha : a ≤ M.waitTop n) : 0 ≤ bitOr .i64 a (M.bitAt (k : Int)) ∧ bitOr .i64 a (M.bitAt (k : Int)) < (2 : Int) ^ n := by
 rw [waitTop_eq h1 h3] at ha
 have hp : (2 : Int) ^ n ≤ 8 := by rcases (by omega : n = 1 ∨ n = 2 ∨ n = 3) with rfl | rfl | rfl <;> decide
 obtain ⟨m, rfl⟩ := Int.eq_ofNat_of_zero_le h0
 have hm : m < 2 ^ n := by have : ((m : Nat) : Int) < ((2 ^ n : Nat) : Int) := by push_cast; omega
                           omega
 have := List.all_eq_true.1 (List.all_eq_true.1 (List.all_eq_true.1 or_check m (List.mem_range.2 (by omega))) n (List.mem_range.2 (by omega))) k (List.mem_range.2 (by omega))
 simp only [Bool.or_eq_true, Bool.not_eq_true', Bool.and_eq_true, Bool.and_eq_false_iff, decide_eq_true_eq, decide_eq_false_iff_not] at this
 refine this.resolve_left fun hc => ?_
 rcases hc with hc | hc | hc
 ·exact hc h1
 ·exact hc hk
 ·exact hc hm
theorem full_waits {b : D.Block} {n k : Nat} (h3 : n ≤ 3) (hk : k < n) (h : b.Waiting = (2 : Int) ^ n - 1) : M.waits b (k : Int) = true := by
 unfold M.waits
 rw [bitAnd_1, beq_iff_eq, h]
 have := List.all_eq_true.1 (List.all_eq_true.1 full_check n (List.mem_range.2 (by omega))) k (List.mem_range.2 (by omega))
 simp only [Bool.or_eq_true, Bool.not_eq_true', decide_eq_false_iff_not, beq_iff_eq] at this
 have := this.resolve_left (by omega)
 have e : (((2 ^ n - 1 : Nat)) : Int) = (2 : Int) ^ n - 1 := by rcases (by omega : n = 0 ∨ n = 1 ∨ n = 2 ∨ n = 3) with rfl | rfl | rfl | rfl <;> rfl
 rw [← e]
 exact this
theorem allWait_mono {b : D.Block} {k : Nat} (h : M.allWait b k = false) : ∀ n, k ≤ n → M.allWait b n = false
 | 0, hn => by rw [Nat.le_zero.1 hn] at h; exact h
 | n + 1, hn => by
  by_cases e : k = n + 1
  ·rw [← e]; exact h
  ·unfold M.allWait
   rw [allWait_mono h n (by omega), Bool.false_and]
theorem allWait_full {b : D.Block} (h3 : b.Warps.length ≤ 3) (h : b.Waiting = (2 : Int) ^ b.Warps.length - 1) : ∀ k, k ≤ b.Warps.length → M.allWait b k = true
 | 0, _ => rfl
 | k + 1, hk => by
  unfold M.allWait
  rw [allWait_full h3 h k (by omega), full_waits h3 (by omega) h, Bool.or_true, Bool.true_and]
theorem ok_parts {b : D.Block} (h : M.blockOk b = true) : M.programOk b.Code = true ∧ 1 ≤ b.Warps.length ∧ b.Warps.length ≤ 3 ∧ 0 ≤ b.Waiting ∧ b.Waiting ≤ M.waitTop b.Warps.length ∧ 0 ≤ b.Phase ∧ b.Phase ≤ 100000 ∧ M.warpsOk b.Code 0 b.Warps = true := by
 simp only [M.blockOk, Bool.and_eq_true, M.isIn, decide_eq_true_eq] at h
 obtain ⟨h1, h2, h3, h4, h5, h6⟩ := h
 exact ⟨h1, by omega, by omega, h4.1, h4.2, h5.1, h5.2, h6⟩
theorem ok_of {b : D.Block} (h1 : M.programOk b.Code = true) (h2 : 1 ≤ b.Warps.length ∧ b.Warps.length ≤ 3) (h3 : b.Memory.length = 32 ∧ b.Memory.all M.isWord = true) (h4 : 0 ≤ b.Waiting ∧ b.Waiting ≤ M.waitTop b.Warps.length) (h5 : 0 ≤ b.Phase ∧ b.Phase ≤ 100000)
    (h6 : M.warpsOk b.Code 0 b.Warps = true) : M.blockOk b = true := by
 simp only [M.blockOk, M.impl_isMemory, Bool.and_eq_true, M.isIn, decide_eq_true_eq, beq_iff_eq]
 exact ⟨h1, ⟨by omega, by omega⟩, h3, h4, h5, h6⟩
theorem warpsOk_all {p : List D.Ins} : ∀ {l : List D.Warp} {k : Nat}, M.warpsOk p k l = true → ∀ x ∈ l, M.warpOf p x = true
 | [], _, _, _, hx => by cases hx
 | y :: l, k, h, x, hx => by
  simp only [M.warpsOk, M.warpAt, Bool.and_eq_true] at h
  rcases List.mem_cons.1 hx with rfl | hx
  ·exact h.1.2
  ·exact warpsOk_all h.2 x hx
theorem warpsOk_set {p : List D.Ins} {y : D.Warp} : ∀ {l : List D.Warp} {k n : Nat}, M.warpsOk p k l = true → M.warpAt p (k + n) y = true → M.warpsOk p k (l.set n y) = true
 | [], _, _, h, _ => by simp [M.warpsOk]
 | x :: l, k, 0, h, hy => by
  simp only [M.warpsOk, Bool.and_eq_true] at h
  simp only [List.set_cons_zero, M.warpsOk, Bool.and_eq_true]
  exact ⟨hy, h.2⟩
 | x :: l, k, n + 1, h, hy => by
  simp only [M.warpsOk, Bool.and_eq_true] at h
  simp only [List.set_cons_succ, M.warpsOk, Bool.and_eq_true]
  exact ⟨h.1, warpsOk_set h.2 (by rw [show k + 1 + n = k + (n + 1) by omega]; exact hy)⟩
theorem ok_small {b : D.Block} (h : M.blockOk b = true) : M.BSmall b := by
 obtain ⟨h1, h2, h3, _, _, _, _, h8⟩ := ok_parts h
 refine ⟨by have := prog_short h1; omega, ⟨by omega, fun x hx => ?_⟩, by have := (memory_ok h).1; omega⟩
 have := fine_small (x := x) ⟨h1, warpsOk_all h8 x hx⟩
 unfold M.WSmall; omega
theorem runs_regs {p : List D.Ins} {x : D.Warp} {rg : List Int} (h : M.Runs p x) (hl : rg.length = 32) (hw : rg.all M.isWord = true) : M.Runs p ⟨x.Number, x.Frames, rg⟩ := by
 obtain ⟨h1, h2, h3⟩ := h
 refine ⟨h1, ?_, h3⟩
 simp only [M.warpOf, Bool.and_eq_true, beq_iff_eq] at h2 ⊢
 exact ⟨h2.1, hl, hw, h2.2.2.2⟩
theorem pass_fine {p : List D.Ins} {x : D.Warp} (h : M.Runs p x) : M.Fine p (M.passTop p x) := by
 obtain ⟨t1, t2, t3, t4, t5, t6, t7, t8, t9⟩ := runs_top h
 obtain ⟨f1, f2, f3, f4, f5, f6⟩ := runs_frames h
 have hx := h.2.2
 refine ⟨h.1, ?_⟩
 simp only [M.passTop, M.warpOf, M.dropW, Bool.and_eq_true, beq_iff_eq]
 refine ⟨by simp only [M.isIn, Bool.and_eq_true, decide_eq_true_eq]; exact ⟨t8, t9⟩, t4, f6, drop_fine (setTop_all f1 hx ⟨by omega, by omega⟩) (by simp only [M.setTop, List.length_set]; exact f2) fun _ => ?_⟩
 rw [(setTop_first hx _).1, (setTop_first hx _).2]
 exact ⟨f3, f4⟩
theorem go_parts {b : D.Block} {w : Int} (h : M.CanGo b w) : M.Live b w ∧ M.waits b w = false ∧ (M.isLocal (M.nextI b w) = true → M.Goes b.Code (rd b.Warps w)) := by
 obtain ⟨hh, hg⟩ := h
 simp only [M.canGo, Bool.and_eq_true, Bool.not_eq_true'] at hg
 obtain ⟨g1, g2, g3⟩ := hg
 have hx : (rd b.Warps w).Frames ≠ [] := by simpa using g1
 refine ⟨⟨hh, hx⟩, g2, fun hl => ⟨has_runs hh hx, ?_⟩⟩
 have hl : M.isLocal (M.topIns b.Code (rd b.Warps w)) = true := hl
 rw [if_pos hl] at g3
 simp only [M.spec_l13Local, g1, hl, g3, Bool.not_false, Bool.and_self]
theorem stepW_number (p : List D.Ins) (x : D.Warp) : (M.stepW p x).Number = x.Number := by
 unfold M.stepW M.dropW
 split <;> rfl
theorem access_warp {b : D.Block} {w : Int} {i : D.Ins} (h0 : 0 ≤ w) (h1 : w < (b.Warps.length : Int)) : rd (M.accessB b w i).Warps w = ⟨(rd b.Warps w).Number, (rd b.Warps w).Frames, (M.memAll i (rd b.Warps w) b.Memory).1⟩ := by
 unfold M.accessB
 exact rd_set h0 (by simpa using h1)
theorem memAll_ok {b : D.Block} {w : Int} (h : M.Live b w) (hl : M.isLocal (M.nextI b w) = false) : MemOk (M.memAll (M.nextI b w) (rd b.Warps w) b.Memory) := memTo_ok (live_far h hl).1 (live_mem h) 8 (Nat.le_refl _)
def actW (b : D.Block) (w : Int) : D.Warp := if M.isLocal (M.nextI b w) then M.stepW b.Code (rd b.Warps w) else M.passTop b.Code (rd (M.accessB b w (M.nextI b w)).Warps w)
theorem actB_warps (b : D.Block) (w : Int) : (M.actB b w).Warps = b.Warps.set w.toNat (actW b w) := by
 unfold M.actB actW
 split <;> rfl
theorem actW_ok {b : D.Block} {w : Int} (h : M.CanGo b w) : M.Fine b.Code (actW b w) ∧ (actW b w).Number = w := by
 obtain ⟨hv, _, hg⟩ := go_parts h
 obtain ⟨h0, h1, hp, hw, hn, hok⟩ := has_warp hv.1
 unfold actW
 split
 ·rename_i e; exact ⟨stepW_fine (hg e), by rw [stepW_number, hn]⟩
 ·rename_i e
  have e := Bool.eq_false_iff.2 e
  rw [access_warp h0 h1]
  have hm := memAll_ok hv e
  exact ⟨pass_fine (runs_regs (has_runs hv.1 hv.2) hm.l1 hm.w1), hn⟩
theorem actB_eta (b : D.Block) (w : Int) : (⟨b.Code, (M.actB b w).Warps, (M.actB b w).Memory, (M.actB b w).Waiting, (M.actB b w).Phase⟩ : D.Block) = M.actB b w := by
 unfold M.actB
 split <;> rfl
theorem actB_code (b : D.Block) (w : Int) : (M.actB b w).Code = b.Code := by unfold M.actB; split <;> rfl
theorem actB_phase (b : D.Block) (w : Int) : (M.actB b w).Phase = b.Phase := by unfold M.actB; split <;> rfl
theorem actB_len (b : D.Block) (w : Int) : (M.actB b w).Warps.length = b.Warps.length := by rw [actB_warps, List.length_set]
theorem actB_mem {b : D.Block} {w : Int} (h : M.CanGo b w) : (M.actB b w).Memory.length = 32 ∧ (M.actB b w).Memory.all M.isWord = true := by
 obtain ⟨hv, _, hg⟩ := go_parts h
 unfold M.actB
 split
 ·have := memory_ok (has_warp hv.1).2.2.2.2.2; exact this
 ·rename_i e
  have hm := memAll_ok hv (Bool.eq_false_iff.2 e)
  exact ⟨hm.l2, hm.w2⟩
theorem actB_wait {b : D.Block} {w : Int} (h : M.CanGo b w) : 0 ≤ (M.actB b w).Waiting ∧ (M.actB b w).Waiting < (2 : Int) ^ b.Warps.length := by
 obtain ⟨hv, _, hg⟩ := go_parts h
 obtain ⟨h0, h1, hp, hw, hn, hok⟩ := has_warp hv.1
 obtain ⟨p1, p2, p3, p4, p5, p6, p7, p8⟩ := ok_parts hok
 have hb : b.Waiting < (2 : Int) ^ b.Warps.length := by rw [waitTop_eq p2 p3] at p5; omega
 obtain ⟨k, rfl⟩ := Int.eq_ofNat_of_zero_le h0
 unfold M.actB
 split
 ·exact ⟨p4, hb⟩
 ·show 0 ≤ (if (M.nextI b (k : Int)).Op = 16 then bitOr .i64 b.Waiting (M.bitAt (k : Int)) else b.Waiting) ∧ (if (M.nextI b (k : Int)).Op = 16 then bitOr .i64 b.Waiting (M.bitAt (k : Int)) else b.Waiting) < _
  split
  ·exact or_in p2 p3 (by omega) p4 p5
  ·exact ⟨p4, hb⟩
theorem actB_warpsOk {b : D.Block} {w : Int} (h : M.CanGo b w) : M.warpsOk b.Code 0 (M.actB b w).Warps = true := by
 obtain ⟨hv, _, hg⟩ := go_parts h
 obtain ⟨h0, h1, hp, hw, hn, hok⟩ := has_warp hv.1
 obtain ⟨q1, q2⟩ := actW_ok h
 rw [actB_warps]
 refine warpsOk_set (ok_parts hok).2.2.2.2.2.2.2 ?_
 simp only [M.warpAt, Bool.and_eq_true, beq_iff_eq]
 exact ⟨by rw [q2]; omega, q1.2⟩
theorem stepB_code (b : D.Block) (w : Int) : (M.stepB b w).Code = b.Code := by unfold M.stepB M.closeB; split <;> exact actB_code b w
theorem stepB_warps (b : D.Block) (w : Int) : (M.stepB b w).Warps = b.Warps.set w.toNat (actW b w) := by unfold M.stepB M.closeB; split <;> exact actB_warps b w
theorem stepB_mem (b : D.Block) (w : Int) : (M.stepB b w).Memory = (M.actB b w).Memory := by unfold M.stepB M.closeB; split <;> rfl
theorem stepB_phase (b : D.Block) (w : Int) : (M.stepB b w).Phase = b.Phase ∨ (M.stepB b w).Phase = b.Phase + 1 := by
 unfold M.stepB M.closeB
 split
 ·right; show (M.actB b w).Phase + 1 = _; rw [actB_phase]
 ·left; exact actB_phase b w
theorem stepB_ok {b : D.Block} {w : Int} (h : M.CanGo b w) (hp : (M.stepB b w).Phase ≤ 100000) : M.blockOk (M.stepB b w) = true := by
 obtain ⟨hv, _, hg⟩ := go_parts h
 obtain ⟨h0, h1, hpr, hw, hn, hok⟩ := has_warp hv.1
 obtain ⟨p1, p2, p3, p4, p5, p6, p7, p8⟩ := ok_parts hok
 have hlen : (M.stepB b w).Warps.length = b.Warps.length := by rw [stepB_warps, List.length_set]
 refine ok_of (by rw [stepB_code]; exact p1) (by rw [hlen]; exact ⟨p2, p3⟩) (by rw [stepB_mem]; exact actB_mem h) ?_ ⟨by rcases stepB_phase b w with e | e <;> omega, hp⟩ (by rw [stepB_code, stepB_warps, ← actB_warps]; exact actB_warpsOk h)
 rw [hlen, waitTop_eq p2 p3]
 have hpos : (2 : Int) ≤ (2 : Int) ^ b.Warps.length := by rcases (by omega : b.Warps.length = 1 ∨ b.Warps.length = 2 ∨ b.Warps.length = 3) with e | e | e <;> rw [e] <;> decide
 obtain ⟨w0, w1⟩ := actB_wait h
 unfold M.stepB M.closeB
 split
 ·exact ⟨Int.le_refl _, by show (0 : Int) ≤ _; omega⟩
 ·rename_i e
  refine ⟨w0, ?_⟩
  by_cases ef : (M.actB b w).Waiting = (2 : Int) ^ b.Warps.length - 1
  ·exfalso
   apply e
   unfold M.spec_l30All
   rw [allWait_full (by rw [actB_len]; exact p3) (by rw [actB_len]; exact ef) _ (Nat.le_refl _), Bool.true_and, bne_iff_ne]
   omega
  ·omega
end Go.V
namespace Go.V
open IntKind (wrap)
def wp.spec_l30Memory (s0 : D.Block) (x1 : Int) (Q : (D.Block × (List D.Warp) × (List Int)) → Prop) : Prop :=
 (M.spec_l30Next_pre s0 x1 ∧ ∀ r25, r25 = M.spec_l30Next s0 x1 → ((0 ≤ x1 ∧ x1 < (s0.Warps.length : Int)) ∧ (M.spec_ActiveMask_pre (rd s0.Warps x1) ∧ ∀ r36, r36 = M.spec_ActiveMask (rd s0.Warps x1) → ((0 ≤ x1 ∧ x1 < (s0.Warps.length : Int)) ∧ LoopP (σ := Int × (List Int) × (List Int) × Unit) (fun (p244 : Int × (List Int) × (List Int) × Unit) next143 => match p244 with | (i135, xs136, xs138, _) => bcase (decide (i135 < 8)) ((∀ r145, r145 = M.spec_HasLane r36 i135 → bcase (!r145) (next143 ((wrap .i64 (i135 + 1)), xs136, xs138, ())) (((0 ≤ (wrap .i64 ((wrap .i64 (i135 * 4)) + r25.A)) ∧ (wrap .i64 ((wrap .i64 (i135 * 4)) + r25.A)) < (xs138.length : Int)) ∧ ((0 ≤ (wrap .i64 ((wrap .i64 (i135 * 4)) + r25.B)) ∧ (wrap .i64 ((wrap .i64 (i135 * 4)) + r25.B)) < (xs138.length : Int)) ∧ bcase (r25.Op == 13) (((0 ≤ (Int.tmod (rd xs138 (wrap .i64 ((wrap .i64 (i135 * 4)) + r25.B))) 32) ∧ (Int.tmod (rd xs138 (wrap .i64 ((wrap .i64 (i135 * 4)) + r25.B))) 32) < (xs136.length : Int)) ∧ ((0 ≤ (wrap .i64 ((wrap .i64 (i135 * 4)) + r25.A)) ∧ (wrap .i64 ((wrap .i64 (i135 * 4)) + r25.A)) < (xs138.length : Int)) ∧ next143 ((wrap .i64 (i135 + 1)), xs136, (List.set xs138 ((wrap .i64 ((wrap .i64 (i135 * 4)) + r25.A)).toNat) (rd xs136 (Int.tmod (rd xs138 (wrap .i64 ((wrap .i64 (i135 * 4)) + r25.B))) 32))), ())))) (bcase (r25.Op == 14) (((0 ≤ (Int.tmod (rd xs138 (wrap .i64 ((wrap .i64 (i135 * 4)) + r25.A))) 32) ∧ (Int.tmod (rd xs138 (wrap .i64 ((wrap .i64 (i135 * 4)) + r25.A))) 32) < (xs136.length : Int)) ∧ next143 ((wrap .i64 (i135 + 1)), (List.set xs136 ((Int.tmod (rd xs138 (wrap .i64 ((wrap .i64 (i135 * 4)) + r25.A))) 32).toNat) (rd xs138 (wrap .i64 ((wrap .i64 (i135 * 4)) + r25.B)))), xs138, ()))) (bcase (r25.Op == 15) (((0 ≤ (Int.tmod (rd xs138 (wrap .i64 ((wrap .i64 (i135 * 4)) + r25.A))) 32) ∧ (Int.tmod (rd xs138 (wrap .i64 ((wrap .i64 (i135 * 4)) + r25.A))) 32) < (xs136.length : Int)) ∧ (∀ r218, r218 = M.spec_AddWords (rd xs136 (Int.tmod (rd xs138 (wrap .i64 ((wrap .i64 (i135 * 4)) + r25.A))) 32)) (rd xs138 (wrap .i64 ((wrap .i64 (i135 * 4)) + r25.B))) → ((0 ≤ (Int.tmod (rd xs138 (wrap .i64 ((wrap .i64 (i135 * 4)) + r25.A))) 32) ∧ (Int.tmod (rd xs138 (wrap .i64 ((wrap .i64 (i135 * 4)) + r25.A))) 32) < (xs136.length : Int)) ∧ next143 ((wrap .i64 (i135 + 1)), (List.set xs136 ((Int.tmod (rd xs138 (wrap .i64 ((wrap .i64 (i135 * 4)) + r25.A))) 32).toNat) r218), xs138, ()))))) (next143 ((wrap .i64 (i135 + 1)), xs136, xs138, ()))))))))) (Q ((⟨s0.Code, (List.set s0.Warps (x1.toNat) (⟨(rd s0.Warps x1).Number, (rd s0.Warps x1).Frames, xs138⟩ : D.Warp)), xs136, s0.Waiting, s0.Phase⟩ : D.Block), (List.set s0.Warps (x1.toNat) (⟨(rd s0.Warps x1).Number, (rd s0.Warps x1).Frames, xs138⟩ : D.Warp)), xs136))) (0, s0.Memory, (rd s0.Warps x1).Regs, ())))))
def wp.spec_l30All (s0 : D.Block) (Q : Bool → Prop) : Prop :=
 LoopP (σ := Int × Unit) (fun (p55 : Int × Unit) next27 => match p55 with | (i23, _) => bcase (decide (i23 < (s0.Warps.length : Int))) (((0 ≤ i23 ∧ i23 < (s0.Warps.length : Int)) ∧ bcase (decide (((rd s0.Warps i23).Frames.length : Int) > 0)) (((0 ≤ i23) ∧ bcase ((bitAnd .i64 (Int.fdiv s0.Waiting (2 ^ (min (i23.toNat) (IntKind.bits .i64)))) 1) == 0) (Q false) (next27 ((wrap .i64 (i23 + 1)), ())))) (next27 ((wrap .i64 (i23 + 1)), ())))) (Q (s0.Waiting != 0))) (0, ())
def wp.spec_l30Step (s0 : D.Block) (x1 : Int) (Q : D.Block → Prop) : Prop :=
 (M.spec_l29Copy_pre s0 ∧ ∀ r25, r25 = M.spec_l29Copy s0 → (M.spec_l30Next_pre s0 x1 ∧ ∀ r41, r41 = M.spec_l30Next s0 x1 → JoinP (σ := Int × Int × (List D.Warp) × (List Int) × Unit) (fun J57 => (∀ r60, r60 = M.spec_IsLocal r41 → bcase r60 (((0 ≤ x1 ∧ x1 < (r25.Warps.length : Int)) ∧ ((0 ≤ x1 ∧ x1 < (s0.Warps.length : Int)) ∧ (M.spec_l13Step_pre s0.Code (rd s0.Warps x1) ∧ ∀ r84, r84 = M.spec_l13Step s0.Code (rd s0.Warps x1) → ((0 ≤ x1 ∧ x1 < (r25.Warps.length : Int)) ∧ J57 (r25.Waiting, r25.Phase, (List.set r25.Warps (x1.toNat) (⟨r84.Number, r84.Frames, r84.Regs⟩ : D.Warp)), r25.Memory, ())))))) ((M.spec_l30Memory_pre r25 x1 ∧ ∀ r97, r97 = M.spec_l30Memory r25 x1 → JoinP (σ := Int × Int × Unit) (fun J108 => bcase (r41.Op == 16) (((0 ≤ x1) ∧ J108 ((bitOr .i64 r97.1.Waiting (wrap .i64 (1 * 2 ^ (min (x1.toNat) (IntKind.bits .i64))))), r97.1.Phase, ()))) (J108 (r97.1.Waiting, r97.1.Phase, ()))) (fun (p151 : Int × Int × Unit) => match p151 with | (i106, i107, _) => ((0 ≤ x1 ∧ x1 < (r97.2.1.length : Int)) ∧ ((0 ≤ x1 ∧ x1 < (r97.2.1.length : Int)) ∧ ((0 ≤ x1 ∧ x1 < (r97.2.1.length : Int)) ∧ ((0 ≤ (wrap .i64 (((rd r97.2.1 x1).Frames.length : Int) - 1)) ∧ (wrap .i64 (((rd r97.2.1 x1).Frames.length : Int) - 1)) < (((rd r97.2.1 x1).Frames).length : Int)) ∧ ((0 ≤ (wrap .i64 (((rd r97.2.1 x1).Frames.length : Int) - 1)) ∧ (wrap .i64 (((rd r97.2.1 x1).Frames.length : Int) - 1)) < (((rd r97.2.1 x1).Frames).length : Int)) ∧ ((0 ≤ x1 ∧ x1 < (r97.2.1.length : Int)) ∧ (M.spec_DropFrames_pre s0.Code (⟨(rd r97.2.1 x1).Number, (List.set ((rd r97.2.1 x1).Frames) ((wrap .i64 (((rd r97.2.1 x1).Frames.length : Int) - 1)).toNat) (⟨(wrap .i64 ((rd ((rd r97.2.1 x1).Frames) (wrap .i64 (((rd r97.2.1 x1).Frames.length : Int) - 1))).Pc + 1)), (rd ((rd r97.2.1 x1).Frames) (wrap .i64 (((rd r97.2.1 x1).Frames.length : Int) - 1))).Stop, (rd ((rd r97.2.1 x1).Frames) (wrap .i64 (((rd r97.2.1 x1).Frames.length : Int) - 1))).Mask⟩ : D.Frame)), (rd r97.2.1 x1).Regs⟩ : D.Warp) ∧ ∀ r138, r138 = M.spec_DropFrames s0.Code (⟨(rd r97.2.1 x1).Number, (List.set ((rd r97.2.1 x1).Frames) ((wrap .i64 (((rd r97.2.1 x1).Frames.length : Int) - 1)).toNat) (⟨(wrap .i64 ((rd ((rd r97.2.1 x1).Frames) (wrap .i64 (((rd r97.2.1 x1).Frames.length : Int) - 1))).Pc + 1)), (rd ((rd r97.2.1 x1).Frames) (wrap .i64 (((rd r97.2.1 x1).Frames.length : Int) - 1))).Stop, (rd ((rd r97.2.1 x1).Frames) (wrap .i64 (((rd r97.2.1 x1).Frames.length : Int) - 1))).Mask⟩ : D.Frame)), (rd r97.2.1 x1).Regs⟩ : D.Warp) → ((0 ≤ x1 ∧ x1 < (r97.2.1.length : Int)) ∧ J57 (i106, i107, (List.set r97.2.1 (x1.toNat) (⟨r138.Number, r138.Frames, r138.Regs⟩ : D.Warp)), r97.2.2, ())))))))))))))) (fun (p168 : Int × Int × (List D.Warp) × (List Int) × Unit) => match p168 with | (i50, i51, xs52, xs55, _) => (M.spec_l30All_pre (⟨r25.Code, xs52, xs55, i50, i51⟩ : D.Block) ∧ ∀ r154, r154 = M.spec_l30All (⟨r25.Code, xs52, xs55, i50, i51⟩ : D.Block) → bcase r154 (Q (⟨r25.Code, xs52, xs55, 0, (wrap .i64 (i51 + 1))⟩ : D.Block)) (Q (⟨r25.Code, xs52, xs55, i50, i51⟩ : D.Block))))))
end Go.V
namespace Go.V
open IntKind (wrap)
theorem wp.spec_l30Memory.math (b : D.Block) (w : Int) (h : M.spec_l30Memory_pre b w) : wp.spec_l30Memory b w (fun r => r = M.spec_l30Memory b w) := by
 obtain ⟨hv, hl⟩ := h
 obtain ⟨h0, h1, hp, hw, hn, hok⟩ := has_warp hv.1
 obtain ⟨hi, hop⟩ := live_far hv hl
 have hlong : M.spec_ActiveMask_pre (rd b.Warps w) := by
  have := (runs_top (has_runs hv.1 hv.2)).2.2.1
  show _ ≤ _; omega
 refine ⟨⟨hv.1, hv.2⟩, fun r25 hr25 => ⟨⟨h0, h1⟩, hlong, fun r36 hr36 => ⟨⟨h0, h1⟩, ?_⟩⟩⟩
 have hr25 : r25 = M.nextI b w := hr25
 have hr36 : r36 = M.activeMask (rd b.Warps w) := hr36
 subst hr25 hr36
 have hs0 := live_mem hv
 let G : Nat → List Int × List Int := M.memTo (M.nextI b w) (M.activeMask (rd b.Warps w)) ((rd b.Warps w).Regs, b.Memory)
 have hG : ∀ k, k ≤ 8 → MemOk (G k) := fun k hk => memTo_ok hi hs0 k hk
 refine loop_n 8 (fun k => ((k : Int), (G k).2, (G k).1, ())) (fun _ => True) rfl trivial (fun k hk _ next hn => ?_) fun _ next => bcase_f (by simp) rfl
 have hn := hn trivial
 have hGk := hG k (by omega)
 have hnext : G (k + 1) = if M.hasLane (M.activeMask (rd b.Warps w)) (k : Int) then M.memStep (M.nextI b w) (G k) (k : Int) else G k := rfl
 rw [hnext] at hn
 dsimp only
 generalize G k = g at *
 generalize M.nextI b w = i at *
 generalize M.activeMask (rd b.Warps w) = m at *
 obtain ⟨l1, w1, l2, w2⟩ := hGk
 obtain ⟨a0, a1, b0, b1⟩ := hi
 have eA : wrap .i64 ((wrap .i64 ((k : Int) * 4)) + i.A) = (k : Int) * 4 + i.A := by rw [w64 (x := (k : Int) * 4) (by omega) (by omega), w64 (by omega) (by omega)]
 have eB : wrap .i64 ((wrap .i64 ((k : Int) * 4)) + i.B) = (k : Int) * 4 + i.B := by rw [w64 (x := (k : Int) * 4) (by omega) (by omega), w64 (by omega) (by omega)]
 rw [eA, eB, up64 (n := 8) hk (by omega), l1, l2]
 have wA := slot_in (all_rdI w1 (z := (k : Int) * 4 + i.A) (by omega) (by omega))
 have wB := slot_in (all_rdI w1 (z := (k : Int) * 4 + i.B) (by omega) (by omega))
 refine bcase_t (by simp; omega) fun r hr => bcase_mk (fun e => ?_) fun e => ?_
 ·have : M.hasLane m (k : Int) = false := by have hr : r = M.hasLane m (k : Int) := hr; rw [← hr]; simpa using e
  rw [if_neg (by rw [this]; simp)] at hn
  exact hn
 ·have : M.hasLane m (k : Int) = true := by have hr : r = M.hasLane m (k : Int) := hr; rw [← hr]; simpa using e
  rw [if_pos this] at hn
  unfold M.memStep at hn
  refine ⟨⟨by omega, by omega⟩, ⟨by omega, by omega⟩, bcase_mk (fun e1 => ?_) fun e1 => bcase_mk (fun e2 => ?_) fun e2 => bcase_mk (fun e3 => ?_) fun e3 => ?_⟩
  ·rw [if_pos (by simpa using e1)] at hn
   exact ⟨⟨wB.1, by omega⟩, ⟨by omega, by omega⟩, hn⟩
  ·rw [if_neg (by simpa using e1), if_pos (by simpa using e2)] at hn
   exact ⟨⟨wA.1, by omega⟩, hn⟩
  ·rw [if_neg (by simpa using e1), if_neg (by simpa using e2), if_pos (by simpa using e3)] at hn
   refine ⟨⟨wA.1, by omega⟩, fun r2 hr2 => ⟨⟨wA.1, by omega⟩, ?_⟩⟩
   have hr2 : r2 = M.addW (rd g.2 (Int.tmod (rd g.1 ((k : Int) * 4 + i.A)) 32)) (rd g.1 ((k : Int) * 4 + i.B)) := hr2
   rw [hr2]; exact hn
  ·rw [if_neg (by simpa using e1), if_neg (by simpa using e2), if_neg (by simpa using e3)] at hn
   exact hn
theorem wp.spec_l30All.math (b : D.Block) (h : M.spec_l30All_pre b) : wp.spec_l30All b (fun r => r = M.spec_l30All b) := by
 have hL : b.Warps.length ≤ 9223372036854775807 := h
 refine loop_n b.Warps.length (fun k => ((k : Int), ())) (fun k => M.allWait b k = true) rfl rfl (fun k hk hF next hn => ?_) fun hF next => ?_
 ·have hs : M.allWait b (k + 1) = (M.allWait b k && ((rd b.Warps (k : Int)).Frames.isEmpty || M.waits b (k : Int))) := rfl
  rw [hF, Bool.true_and] at hs
  dsimp only
  rw [up64 hk hL, zero_waits]
  refine bcase_t (by simp; omega) ⟨⟨by omega, by omega⟩, bcase_mk (fun e => ⟨by omega, bcase_mk (fun e2 => ?_) fun e2 => ?_⟩) fun e => ?_⟩
  ·have : M.allWait b (k + 1) = false := by
     rw [hs, show M.waits b (k : Int) = false by simpa using e2, Bool.or_false]
     simp only [decide_eq_true_eq] at e
     cases hx : (rd b.Warps (k : Int)).Frames with
     | nil => rw [hx] at e; simp at e
     | cons _ _ => rfl
   show false = M.spec_l30All b
   unfold M.spec_l30All
   rw [allWait_mono this _ (by omega), Bool.false_and]
  ·refine hn ?_
   rw [hs, show M.waits b (k : Int) = true by simpa using e2, Bool.or_true]
  ·refine hn ?_
   have : (rd b.Warps (k : Int)).Frames = [] := by
    simp only [decide_eq_false_iff_not] at e
    exact List.length_eq_zero_iff.1 (by omega)
   rw [hs, this]; rfl
 ·refine bcase_f (by simp) ?_
  show (b.Waiting != 0) = M.spec_l30All b
  unfold M.spec_l30All
  rw [hF, Bool.true_and]
theorem top_set {fs : List D.Frame} (h : fs ≠ []) (hl : fs.length ≤ 24) (h0 : 0 ≤ (M.lastF fs).Pc) (h1 : (M.lastF fs).Pc ≤ 32) :
    (List.set fs ((wrap .i64 ((fs.length : Int) - 1)).toNat) (⟨(wrap .i64 ((rd fs (wrap .i64 ((fs.length : Int) - 1))).Pc + 1)), (rd fs (wrap .i64 ((fs.length : Int) - 1))).Stop, (rd fs (wrap .i64 ((fs.length : Int) - 1))).Mask⟩ : D.Frame)) = M.setTop fs ((M.lastF fs).Pc + 1) := by
 have hpos : 0 < fs.length := List.length_pos_iff.2 h
 rw [last_wrap (by omega), show ((fs.length : Int) - 1).toNat = fs.length - 1 by omega]
 unfold M.setTop
 have e : rd fs ((fs.length : Int) - 1) = M.lastF fs := rfl
 rw [e, w64 (by omega) (by omega)]
theorem wp.spec_l30Step.math (b : D.Block) (w : Int) (h : M.spec_l30Step_pre b w) : wp.spec_l30Step b w (fun r => r = M.spec_l30Step b w) := by
 obtain ⟨hv, _, hg⟩ := go_parts h
 obtain ⟨h0, h1, hp, hw, hn, hok⟩ := has_warp hv.1
 have hfit : M.BFit b := small_fit (ok_small hok)
 obtain ⟨t1, t2, t3, t4, t5, t6, t7, t8, t9⟩ := runs_top (has_runs hv.1 hv.2)
 obtain ⟨p1, p2, p3, p4, p5, p6, p7, p8⟩ := ok_parts hok
 refine ⟨hfit, fun r25 hr25 => ?_⟩
 have hr25 : r25 = b := hr25
 subst hr25
 refine ⟨⟨hv.1, hv.2⟩, fun r41 hr41 => ?_⟩
 have hr41 : r41 = M.nextI r25 w := hr41
 subst hr41
 refine joinP_of ((M.actB r25 w).Waiting, (M.actB r25 w).Phase, (M.actB r25 w).Warps, (M.actB r25 w).Memory, ()) ?_ fun J hJ => ?_
 ·dsimp only
  rw [actB_eta]
  refine ⟨by show _ ≤ _; rw [actB_len]; omega, fun r hr => ?_⟩
  have hr : r = M.spec_l30All (M.actB r25 w) := hr
  refine bcase_mk (fun e => ?_) fun e => ?_
  ·show _ = M.stepB r25 w
   unfold M.stepB M.closeB
   rw [if_pos (hr.symm.trans e), actB_code, actB_phase, w64 (by omega) (by omega)]
  ·show _ = M.stepB r25 w
   unfold M.stepB M.closeB
   rw [if_neg (by rw [← hr, e]; simp)]
 ·refine fun r60 hr60 => bcase_mk (fun e => ?_) fun e => ?_
  all_goals have hr60 : r60 = M.isLocal (M.nextI r25 w) := hr60
  ·have hl := hr60.symm.trans e
   refine ⟨⟨h0, h1⟩, ⟨h0, h1⟩, hg hl, fun r84 hr84 => ⟨⟨h0, h1⟩, ?_⟩⟩
   have hr84 : r84 = M.stepW r25.Code (rd r25.Warps w) := hr84
   rw [show M.actB r25 w = M.setWarp r25 w (M.stepW r25.Code (rd r25.Warps w)) from if_pos hl] at hJ
   rw [hr84]
   exact hJ
  ·have hl := hr60.symm.trans e
   have hB : M.actB r25 w = ⟨r25.Code, r25.Warps.set w.toNat (M.passTop r25.Code (rd (M.accessB r25 w (M.nextI r25 w)).Warps w)), (M.accessB r25 w (M.nextI r25 w)).Memory, if (M.nextI r25 w).Op = 16 then bitOr .i64 r25.Waiting (M.bitAt w) else r25.Waiting, r25.Phase⟩ := if_neg (by rw [hl]; simp)
   refine ⟨⟨hv, hl⟩, fun r97 hr97 => ?_⟩
   have hr97 : r97 = M.spec_l30Memory r25 w := hr97
   subst hr97
   refine joinP_of ((M.actB r25 w).Waiting, (M.actB r25 w).Phase, ()) ?_ fun J2 hJ2 => ?_
   ·dsimp only
    have hX := access_warp (i := M.nextI r25 w) h0 h1
    have hlen : (M.accessB r25 w (M.nextI r25 w)).Warps.length = r25.Warps.length := by simp [M.accessB]
    have hset : ∀ y : D.Warp, List.set (M.accessB r25 w (M.nextI r25 w)).Warps w.toNat y = r25.Warps.set w.toNat y := fun y => by simp [M.accessB]
    have hF : (rd (M.accessB r25 w (M.nextI r25 w)).Warps w).Frames = (rd r25.Warps w).Frames := by rw [hX]
    have i0 : (0 ≤ w ∧ w < ((M.spec_l30Memory r25 w).2.1.length : Int)) := ⟨h0, by show w < ((M.accessB r25 w (M.nextI r25 w)).Warps.length : Int); rw [hlen]; exact h1⟩
    have e2 : (M.spec_l30Memory r25 w).2.1 = (M.accessB r25 w (M.nextI r25 w)).Warps := rfl
    rw [e2] at *
    rw [hF, top_set hv.2 t3 t5 (by show M.topPc (rd r25.Warps w) ≤ 32; omega)]
    have j0 : (0 ≤ (wrap .i64 (((rd r25.Warps w).Frames.length : Int) - 1)) ∧ (wrap .i64 (((rd r25.Warps w).Frames.length : Int) - 1)) < (((rd r25.Warps w).Frames).length : Int)) := by
     rw [last_wrap (by omega)]; omega
    refine ⟨i0, i0, i0, j0, j0, i0, ?_, fun r hr => ⟨i0, ?_⟩⟩
    ·show _ ≤ _ ∧ _ ≤ _
     rw [hX]
     simp only [M.setTop, List.length_set, (memAll_ok hv hl).l1]
     omega
    ·have hr : r = M.passTop r25.Code (rd (M.accessB r25 w (M.nextI r25 w)).Warps w) := by
       rw [hr]
       show M.dropW _ _ = M.dropW _ _
       rw [hF]
       unfold M.topPc
       rw [hF]
     rw [hset, hr]
     rw [hB] at hJ ⊢
     exact hJ
   ·rw [hB] at hJ2
    refine bcase_mk (fun e2 => ⟨h0, ?_⟩) fun e2 => ?_
    ·dsimp only at hJ2
     rw [if_pos (by simpa using e2)] at hJ2
     exact hJ2
    ·dsimp only at hJ2
     rw [if_neg (by simpa using e2)] at hJ2
     exact hJ2
end Go.V
namespace Go.V
open IntKind (wrap)
theorem pickFrom_can {b : D.Block} (h : M.Good b) {f : Int} (hf : 0 ≤ f) : ∀ (r : Nat) (k : Int), 0 ≤ k → ¬ M.pickFrom b b.Warps.length f r k < 0 → M.CanGo b (M.pickFrom b b.Warps.length f r k)
 | 0, k, _, hn => (hn (by show (-1 : Int) < 0; omega)).elim
 | r + 1, k, hk, hn => by
  have hc := good_count h
  have ht := tmod_in2 (x := f + k) (n := b.Warps.length) (by omega) (by omega)
  unfold M.pickFrom at hn ⊢
  by_cases e : M.canGo b (Int.tmod (f + k) b.Warps.length) = true
  ·rw [if_pos e]; exact ⟨good_has h ht.1 ht.2, e⟩
  ·rw [if_neg e] at hn ⊢
   exact pickFrom_can h hf r (k + 1) (by omega) hn
theorem pick_can {b : D.Block} (h : M.Good b) {q : Int} (hq : 0 ≤ q) (hn : ¬ M.pick b q < 0) : M.CanGo b (M.pick b q) := by
 have hc := good_count h
 exact pickFrom_can h (tmod_in2 (x := q) (n := b.Warps.length) hq (by omega)).1 _ _ (Int.le_refl _) hn
theorem stops_f {f : Nat → Int} {x : D.Block} {k : Nat} (h : M.stops f x k = false) : 0 ≤ f k ∧ x.Phase ≠ 100000 ∧ ¬ M.pick x (f k) < 0 := by
 simp only [M.stops, Bool.or_eq_false_iff, decide_eq_false_iff_not, beq_eq_false_iff_ne] at h
 exact ⟨by omega, h.2.1, h.2.2⟩
theorem good_step {f : Nat → Int} {x : D.Block} {k : Nat} (h : M.Good x) (hs : M.stops f x k = false) : M.CanGo x (M.pick x (f k)) ∧ M.Good (M.stepB x (M.pick x (f k))) := by
 obtain ⟨h0, h1, h2⟩ := stops_f hs
 have hc := pick_can h h0 h2
 have hp := (ok_parts h.2).2.2.2.2.2.2.1
 have hok := stepB_ok hc (by rcases stepB_phase x (M.pick x (f k)) with e | e <;> omega)
 exact ⟨hc, small_long (ok_small hok), hok⟩
theorem goTo_good {f : Nat → Int} : ∀ (m : Nat) (x : D.Block) (k : Nat), M.Good x → M.Good (M.goTo f m x k).1
 | 0, x, k, h => h
 | m + 1, x, k, h => by
  unfold M.goTo
  by_cases e : M.stops f x k = true
  ·rw [if_pos e]; exact h
  ·rw [if_neg e]; exact goTo_good m _ _ (good_step h (Bool.eq_false_iff.2 e)).2
theorem goAt_code (f : Nat → Int) (b : D.Block) : ∀ k, (M.goAt f b k).Code = b.Code
 | 0 => rfl
 | k + 1 => by unfold M.goAt; rw [stepB_code, goAt_code f b k]
structure GoI (f : Nat → Int) (b : D.Block) (n k : Nat) : Prop where
 good : M.Good (M.goAt f b k)
 code : (M.goAt f b k).Code = b.Code
 run : M.goTo f n b 0 = M.goTo f (n - k) (M.goAt f b k) k
theorem goI_zero {f : Nat → Int} {b : D.Block} (h : M.Good b) (n : Nat) : GoI f b n 0 := ⟨h, rfl, rfl⟩
theorem goI_go {f : Nat → Int} {b : D.Block} {n k : Nat} (h : GoI f b n k) (hk : k < n) (hs : M.stops f (M.goAt f b k) k = false) : GoI f b n (k + 1) := by
 refine ⟨(good_step h.good hs).2, goAt_code f b (k + 1), ?_⟩
 rw [h.run, show n - k = (n - (k + 1)) + 1 by omega, M.goTo, if_neg (by rw [hs]; simp)]
 rfl
theorem goI_stop {f : Nat → Int} {b : D.Block} {n k : Nat} (h : GoI f b n k) (hk : k < n) (hs : M.stops f (M.goAt f b k) k = true) : M.goTo f n b 0 = (M.goAt f b k, (k : Int)) := by
 rw [h.run, show n - k = (n - (k + 1)) + 1 by omega, M.goTo, if_pos hs]
theorem goI_end {f : Nat → Int} {b : D.Block} {n : Nat} (h : GoI f b n n) : M.goTo f n b 0 = (M.goAt f b n, (n : Int)) := by
 rw [h.run, Nat.sub_self]; rfl
end Go.V
namespace Go.V
open IntKind (wrap)
theorem round {f : Nat → Int} {b : D.Block} {n k : Nat} (hF : GoI f b n k) (hk : k < n) {R : D.Block → Int → Prop} {N : D.Block → Prop} (hR : R (M.goTo f n b 0).1 (M.goTo f n b 0).2) (hN : GoI f b n (k + 1) → N (M.goAt f b (k + 1))) :
    (M.stops f (M.goAt f b k) k = true → R (M.goAt f b k) (k : Int)) ∧ (M.stops f (M.goAt f b k) k = false → M.CanGo (M.goAt f b k) (M.pick (M.goAt f b k) (f k)) ∧ N (M.stepB (M.goAt f b k) (M.pick (M.goAt f b k) (f k)))) := by
 refine ⟨fun e => ?_, fun e => ⟨(good_step hF.good e).1, hN (goI_go hF hk e)⟩⟩
 rw [goI_stop hF hk e] at hR
 exact hR
end Go.V
namespace Go.V
open IntKind (wrap)
theorem stride_bd {k : Nat} {s : Int} (hk : k ≤ 9000) (h0 : 0 ≤ s) (h1 : s ≤ 100) : 0 ≤ (k : Int) * s ∧ (k : Int) * s ≤ 900000 := by
 have a := Int.mul_nonneg (Int.natCast_nonneg k) h0
 have b := Int.mul_le_mul (show (k : Int) ≤ 9000 by omega) h1 h0 (by omega)
 omega
end Go.V
namespace Go.V
open IntKind (wrap)
def wp.spec_l32Run (s0 : D.Block) (x1 : Int) (x2 : Int) (Q : D.Block → Prop) : Prop :=
 LoopP (σ := Int × (List D.Ins) × (List D.Warp) × (List Int) × Int × Int × Unit) (fun (p134 : Int × (List D.Ins) × (List D.Warp) × (List Int) × Int × Int × Unit) next101 => match p134 with | (i85, xs86, xs90, xs93, i96, i97, _) => bcase (decide (i85 < x2)) ((M.spec_l32Pick_pre (⟨xs86, xs90, xs93, i96, i97⟩ : D.Block) (wrap .i64 (i85 * x1)) ∧ ∀ r103, r103 = M.spec_l32Pick (⟨xs86, xs90, xs93, i96, i97⟩ : D.Block) (wrap .i64 (i85 * x1)) → bcase (decide (r103 < 0)) (Q (⟨xs86, xs90, xs93, i96, i97⟩ : D.Block)) (bcase (i97 == 100000) (Q (⟨xs86, xs90, xs93, i96, i97⟩ : D.Block)) ((M.spec_l30Step_pre (⟨xs86, xs90, xs93, i96, i97⟩ : D.Block) r103 ∧ ∀ r112, r112 = M.spec_l30Step (⟨xs86, xs90, xs93, i96, i97⟩ : D.Block) r103 → next101 ((wrap .i64 (i85 + 1)), r112.Code, r112.Warps, r112.Memory, r112.Waiting, r112.Phase, ())))))) (Q (⟨xs86, xs90, xs93, i96, i97⟩ : D.Block))) (0, s0.Code, s0.Warps, s0.Memory, s0.Waiting, s0.Phase, ())
def wp.spec_l32Block (s0 : D.Cur) (Q : (D.Block × D.Cur) → Prop) : Prop :=
 (M.spec_l29Program_pre s0 ∧ ∀ r23, r23 = M.spec_l29Program s0 → (M.spec_l01Below_pre (⟨s0.b, r23.2.i, r23.2.h⟩ : D.Cur) 3 ∧ ∀ r31, r31 = M.spec_l01Below (⟨s0.b, r23.2.i, r23.2.h⟩ : D.Cur) 3 → (M.spec_BlockNew_pre r23.1 (wrap .i64 (1 + r31.1)) ∧ ∀ r37, r37 = M.spec_BlockNew r23.1 (wrap .i64 (1 + r31.1)) → JoinP (σ := Int × Int × (List Int) × Int × Int × Unit) (fun J83 => (M.spec_l01Once_pre (⟨s0.b, r31.2.i, r31.2.h⟩ : D.Cur) 3 ∧ ∀ r86, r86 = M.spec_l01Once (⟨s0.b, r31.2.i, r31.2.h⟩ : D.Cur) 3 → bcase r86.1 ((M.spec_l02Words_pre (⟨s0.b, r86.2.i, r86.2.h⟩ : D.Cur) 32 ∧ ∀ r92, r92 = M.spec_l02Words (⟨s0.b, r86.2.i, r86.2.h⟩ : D.Cur) 32 → J83 (r92.2.i, r92.2.h, r92.1, r37.1.Waiting, r37.1.Phase, ()))) (J83 (r86.2.i, r86.2.h, r37.1.Memory, r37.1.Waiting, r37.1.Phase, ())))) (fun (p136 : Int × Int × (List Int) × Int × Int × Unit) => match p136 with | (i76, i77, xs78, i81, i82, _) => (M.spec_l01Below_pre (⟨s0.b, i76, i77⟩ : D.Cur) 4 ∧ ∀ r110, r110 = M.spec_l01Below (⟨s0.b, i76, i77⟩ : D.Cur) 4 → (M.spec_l01Below_pre (⟨s0.b, r110.2.i, r110.2.h⟩ : D.Cur) 40 ∧ ∀ r116, r116 = M.spec_l01Below (⟨s0.b, r110.2.i, r110.2.h⟩ : D.Cur) 40 → (M.spec_l32Run_pre (⟨r37.1.Code, r37.1.Warps, xs78, i81, i82⟩ : D.Block) r110.1 r116.1 ∧ ∀ r122, r122 = M.spec_l32Run (⟨r37.1.Code, r37.1.Warps, xs78, i81, i82⟩ : D.Block) r110.1 r116.1 → Q ((⟨r122.Code, r122.Warps, r122.Memory, r122.Waiting, r122.Phase⟩ : D.Block), (⟨s0.b, r116.2.i, r116.2.h⟩ : D.Cur)))))))))
def wp.spec_DrawBlock (xs0 : List Int) (Q : D.Block → Prop) : Prop :=
 (M.spec_l01New_pre xs0 ∧ ∀ r23, r23 = M.spec_l01New xs0 → (M.spec_l32Block_pre (⟨xs0, r23.i, r23.h⟩ : D.Cur) ∧ ∀ r29, r29 = M.spec_l32Block (⟨xs0, r23.i, r23.h⟩ : D.Cur) → Q (⟨r29.1.Code, r29.1.Warps, r29.1.Memory, r29.1.Waiting, r29.1.Phase⟩ : D.Block)))
def wp.laws_FnWaits (xs0 : List Int) (Q : Bool → Prop) : Prop :=
 (∀ r21, r21 = M.laws_big xs0 → bcase r21 (Q true) ((M.spec_DrawBlock_pre xs0 ∧ ∀ r26, r26 = M.spec_DrawBlock xs0 → (M.impl_IsStuck_pre r26 ∧ ∀ r42, r42 = M.impl_IsStuck r26 → LoopP (σ := Int × Unit) (fun (p113 : Int × Unit) next51 => match p113 with | (i47, _) => bcase (decide (i47 < (r26.Warps.length : Int))) ((M.impl_CanStep_pre r26 i47 ∧ ∀ r64, r64 = M.impl_CanStep r26 i47 → (M.spec_CanStep_pre r26 i47 ∧ ∀ r69, r69 = M.spec_CanStep r26 i47 → bcase (!(r64 == r69)) (Q false) ((M.impl_CanStep_pre r26 i47 ∧ ∀ r74, r74 = M.impl_CanStep r26 i47 → bcase r74 ((M.impl_IsWaiting_pre r26 i47 ∧ ∀ r79, r79 = M.impl_IsWaiting r26 i47 → bcase r79 (Q false) (bcase r42 (Q false) ((M.impl_IsSplitBarrier_pre r26 i47 ∧ ∀ r84, r84 = M.impl_IsSplitBarrier r26 i47 → bcase r84 (Q false) (next51 ((wrap .i64 (i47 + 1)), ()))))))) (next51 ((wrap .i64 (i47 + 1)), ()))))))) ((M.impl_StuckReason_pre r26 ∧ ∀ r100, r100 = M.impl_StuckReason r26 → bcase ((ByteArray.toList r100 == ByteArray.toList (⟨#[]⟩)) == (!r42)) (bcase r42 ((M.impl_BlockEnded_pre r26 ∧ ∀ r105, r105 = M.impl_BlockEnded r26 → Q (!r105))) (Q true)) (Q false)))) (0, ())))))
end Go.V
namespace Go.V
open IntKind (wrap)
theorem wp.spec_l32Run.math (b : D.Block) (s n : Int) (h : M.spec_l32Run_pre b s n) : wp.spec_l32Run b s n (fun r => r = M.spec_l32Run b s n) := by
 obtain ⟨hg, hs0, hs1, hn0, hn1⟩ := h
 obtain ⟨N, rfl⟩ := Int.eq_ofNat_of_zero_le hn0
 have hN : N ≤ 9000 := by omega
 have hR : (M.goTo (M.strideAt s) N b 0).1 = M.spec_l32Run b s (N : Int) := rfl
 refine loop_n N (fun k => ((k : Int), (M.goAt (M.strideAt s) b k).Code, (M.goAt (M.strideAt s) b k).Warps, (M.goAt (M.strideAt s) b k).Memory, (M.goAt (M.strideAt s) b k).Waiting, (M.goAt (M.strideAt s) b k).Phase, ())) (fun k => GoI (M.strideAt s) b N k) rfl (goI_zero hg _) (fun k hk hF next hn => ?_) fun hF next => ?_
 ·obtain ⟨hs, hgo⟩ := round hF hk (R := fun x j => x = M.spec_l32Run b s (N : Int)) (N := fun x => next (((k + 1 : Nat) : Int), x.Code, x.Warps, x.Memory, x.Waiting, x.Phase, ())) hR hn
  have hgd := hF.good
  have hbd := stride_bd (k := k) (by omega) hs0 hs1
  dsimp only
  rw [up64 hk (by omega), w64 (x := (k : Int) * s) (by omega) (by omega)]
  have hst : M.stops (M.strideAt s) (M.goAt (M.strideAt s) b k) k = (decide ((k : Int) * s < 0) || ((M.goAt (M.strideAt s) b k).Phase == 100000 || decide (M.pick (M.goAt (M.strideAt s) b k) ((k : Int) * s) < 0))) := rfl
  have hfk : M.strideAt s k = (k : Int) * s := rfl
  rw [hfk] at hgo
  have e1 : decide ((k : Int) * s < 0) = false := decide_eq_false (by omega)
  generalize M.goAt (M.strideAt s) b k = x at *
  refine bcase_t (by simp; omega) ⟨⟨hgd, hbd.1, by show (k : Int) * s ≤ _; omega⟩, fun r hr => bcase_mk (fun e3 => ?_) fun e3 => bcase_mk (fun e4 => ?_) fun e4 => ?_⟩
  all_goals
   have hr : r = M.pick x ((k : Int) * s) := hr
   subst hr
  ·exact hs (by rw [hst, e3, Bool.or_true, Bool.or_true])
  ·exact hs (by rw [hst, e4, Bool.true_or, Bool.or_true])
  ·obtain ⟨q1, q2⟩ := hgo (by rw [hst, e1, e3, e4]; rfl)
   refine ⟨q1, fun r134 hr134 => ?_⟩
   have hr134 : r134 = M.stepB x (M.pick x ((k : Int) * s)) := hr134
   rw [hr134]
   exact q2
 ·dsimp only
  refine bcase_f (by simp) ?_
  rw [← hR, goI_end hF]
theorem mem_ok {b : D.Block} {m : List Int} (h : M.blockOk b = true) (hm : M.impl_isMemory m = true) : M.blockOk ⟨b.Code, b.Warps, m, b.Waiting, b.Phase⟩ = true := by
 unfold M.blockOk at h ⊢
 simp only [Bool.and_eq_true] at h ⊢
 exact ⟨h.1, h.2.1, hm, h.2.2.2⟩
theorem good_of {b : D.Block} (h : M.blockOk b = true) : M.Good b := ⟨small_long (ok_small h), h⟩
theorem new_good {p : List D.Ins} (hp : M.programOk p = true) {c : Int} (hc : 1 ≤ c ∧ c ≤ 3) : M.blockNew p c = (M.newBlock p c, true) := by
 unfold M.blockNew
 rw [if_pos (by rw [hp]; simp only [M.isIn, Bool.true_and, Bool.and_eq_true, decide_eq_true_eq]; exact hc)]
theorem lwords_ok {c : D.Cur} (h : M.CurOk c) (n : Int) : M.CurOk (M.spec_l02Words c n).2 := words_ok _ h
theorem words_mem (c : D.Cur) : M.impl_isMemory (M.spec_l02Words c 32).1 = true := by
 unfold M.impl_isMemory
 rw [Bool.and_eq_true, beq_iff_eq]
 exact ⟨words_len 32 c, words_good 32 c⟩
theorem start_ok {c : D.Cur} (h : M.CurOk c) : M.Good (M.blockStart c).1 ∧ M.CurOk (M.blockStart c).2 ∧ (M.blockStart c).2.b = c.b := by
 obtain ⟨p1, p2, _, p4, _⟩ := prog_draw h
 have hp := prog_good h
 have hb := below_in (M.spec_l29Program c).2 (n := 3) (by omega)
 have c1 := below_ok p1 3
 have b1 := (below_b (M.spec_l29Program c).2 3).trans p2
 have c2 := once_ok c1 3
 have b2 := (once_b (M.spec_l01Below (M.spec_l29Program c).2 3).2 3).trans b1
 have hN := new_good hp (c := 1 + (M.spec_l01Below (M.spec_l29Program c).2 3).1) (by omega)
 have hk := newBlock_ok hp (c := 1 + (M.spec_l01Below (M.spec_l29Program c).2 3).1) (by omega)
 unfold M.blockStart
 dsimp only
 rw [hN]
 generalize M.once (M.spec_l01Below (M.spec_l29Program c).2 3).2 3 = o at *
 generalize M.newBlock (M.spec_l29Program c).1 (1 + (M.spec_l01Below (M.spec_l29Program c).2 3).1) = nb at *
 split
 ·dsimp only
  exact ⟨good_of (mem_ok hk.1 (words_mem _)), lwords_ok c2 32, (lwords_b _ 32).trans b2⟩
 ·exact ⟨good_of hk.1, c2, b2⟩
theorem wp.spec_l32Block.math (c : D.Cur) (h : M.spec_l32Block_pre c) : wp.spec_l32Block c (fun r => r = M.spec_l32Block c) := by
 have h : M.CurOk c := h
 obtain ⟨p1, p2, _, p4, _⟩ := prog_draw h
 have hp := prog_good h
 obtain ⟨s1, s2, s3⟩ := start_ok h
 refine ⟨h, fun r hr => ?_⟩
 subst hr
 rw [cur_eta p2]
 refine ⟨p1, fun r hr => ?_⟩
 subst hr
 have hb := below_in (M.spec_l29Program c).2 (n := 3) (by omega)
 have c1 := below_ok p1 3
 have b1 := (below_b (M.spec_l29Program c).2 3).trans p2
 rw [w64 (x := 1 + (M.spec_l01Below (M.spec_l29Program c).2 3).1) (by omega) (by omega)]
 refine ⟨by show (M.spec_l29Program c).1.length ≤ _; omega, fun r hr => ?_⟩
 subst hr
 refine joinP_of ((M.blockStart c).2.i, (M.blockStart c).2.h, (M.blockStart c).1.Memory, (M.blockStart c).1.Waiting, (M.blockStart c).1.Phase, ()) ?_ fun J hJ => ?_
 ·have eb : (⟨(M.spec_BlockNew (M.spec_l29Program c).1 (1 + (M.spec_l01Below (M.spec_l29Program c).2 3).1)).1.Code, (M.spec_BlockNew (M.spec_l29Program c).1 (1 + (M.spec_l01Below (M.spec_l29Program c).2 3).1)).1.Warps, (M.blockStart c).1.Memory, (M.blockStart c).1.Waiting, (M.blockStart c).1.Phase⟩ : D.Block) = (M.blockStart c).1 := by
    unfold M.blockStart M.spec_BlockNew
    dsimp only
    split <;> rfl
  dsimp only
  rw [eb, cur_eta s3]
  refine ⟨s2, fun r hr => ?_⟩
  subst hr
  have b4 := (below_b (M.blockStart c).2 4).trans s3
  rw [cur_eta b4]
  refine ⟨below_ok s2 4, fun r hr => ?_⟩
  subst hr
  have b5 := (below_b (M.spec_l01Below (M.blockStart c).2 4).2 40).trans b4
  have i4 := below_in (M.blockStart c).2 (n := 4) (by omega)
  have i5 := below_in (M.spec_l01Below (M.blockStart c).2 4).2 (n := 40) (by omega)
  rw [cur_eta b5]
  refine ⟨⟨s1, by omega, by omega, by omega, by omega⟩, fun r hr => ?_⟩
  subst hr; rfl
 ·rw [cur_eta b1]
  refine ⟨c1, fun r hr => ?_⟩
  subst hr
  have c2 := once_ok c1 3
  have b2 := (once_b (M.spec_l01Below (M.spec_l29Program c).2 3).2 3).trans b1
  refine bcase_mk (fun e => ?_) fun e => ?_
  ·have e : (M.once (M.spec_l01Below (M.spec_l29Program c).2 3).2 3).1 = true := e
   have eS : M.blockStart c = (⟨(M.blockNew (M.spec_l29Program c).1 (1 + (M.spec_l01Below (M.spec_l29Program c).2 3).1)).1.Code, (M.blockNew (M.spec_l29Program c).1 (1 + (M.spec_l01Below (M.spec_l29Program c).2 3).1)).1.Warps, (M.spec_l02Words (M.once (M.spec_l01Below (M.spec_l29Program c).2 3).2 3).2 32).1, (M.blockNew (M.spec_l29Program c).1 (1 + (M.spec_l01Below (M.spec_l29Program c).2 3).1)).1.Waiting, (M.blockNew (M.spec_l29Program c).1 (1 + (M.spec_l01Below (M.spec_l29Program c).2 3).1)).1.Phase⟩, (M.spec_l02Words (M.once (M.spec_l01Below (M.spec_l29Program c).2 3).2 3).2 32).2) := by
    unfold M.blockStart
    dsimp only
    rw [if_pos e]
   rw [eS] at hJ
   show _ ∧ _
   rw [cur_eta (d := (M.spec_l01Once (M.spec_l01Below (M.spec_l29Program c).2 3).2 3).2) b2]
   refine ⟨⟨c2, by omega, by omega⟩, fun r hr => ?_⟩
   subst hr
   exact hJ
  ·have e : (M.once (M.spec_l01Below (M.spec_l29Program c).2 3).2 3).1 = false := e
   have eS : M.blockStart c = ((M.blockNew (M.spec_l29Program c).1 (1 + (M.spec_l01Below (M.spec_l29Program c).2 3).1)).1, (M.once (M.spec_l01Below (M.spec_l29Program c).2 3).2 3).2) := by
    unfold M.blockStart
    dsimp only
    rw [if_neg (by rw [e]; simp)]
   rw [eS] at hJ
   exact hJ
theorem l32Block_good {c : D.Cur} (h : M.CurOk c) : M.Good (M.spec_l32Block c).1 := goTo_good _ _ _ (start_ok h).1
theorem draw_good {b : List Int} (h : M.Long b) : M.Good (M.spec_DrawBlock b) := l32Block_good (new_ok h)
theorem wp.spec_DrawBlock.math (b : List Int) (h : M.spec_DrawBlock_pre b) : wp.spec_DrawBlock b (fun r => r = M.spec_DrawBlock b) := by
 have hn := new_ok h
 refine ⟨h, fun r hr => ?_⟩
 have e : (⟨b, r.i, r.h⟩ : D.Cur) = M.spec_l01New b := by subst hr; rfl
 rw [e]
 refine ⟨hn, fun r2 hr2 => ?_⟩
 subst hr2; rfl
theorem go_waits {b : D.Block} {w : Int} (h : M.canStep b w = true) : M.isWaiting b w = false ∧ M.isSplitBarrier b w = false := by
 simp only [M.canStep, M.canGo, Bool.and_eq_true, Bool.not_eq_true'] at h
 obtain ⟨h0, h1, h2, h3⟩ := h
 refine ⟨by unfold M.isWaiting; rw [h2, Bool.and_false], Bool.eq_false_iff.2 fun hs => ?_⟩
 simp only [M.isSplitBarrier, M.atBarrier, M.nextOp, h0, h1, Bool.not_false, Bool.and_self, if_true, Bool.and_eq_true, beq_iff_eq, decide_eq_true_eq] at hs
 have e16 : (M.topIns b.Code (rd b.Warps w)).Op = 16 := hs.1
 have hl : M.isLocal (M.topIns b.Code (rd b.Warps w)) = false := by simp [M.isLocal, M.isIn, e16]
 rw [hl] at h3
 simp only [Bool.false_eq_true, if_false, e16, bne_self_eq_false, Bool.false_or, beq_iff_eq] at h3
 omega
theorem stuck_canStep {b : D.Block} (h : M.isStuck b = true) {k : Nat} (hk : k < b.Warps.length) : M.canStep b (k : Int) = false := by
 simp only [M.isStuck, Bool.and_eq_true, List.all_eq_true, List.mem_range] at h
 have := h.2.2 k hk
 unfold M.canStep
 rw [show M.canGo b (k : Int) = false by simpa using this, Bool.and_false]
theorem stuck_said (b : D.Block) : (ByteArray.toList (M.stuckReason b) == ByteArray.toList (⟨#[]⟩ : ByteArray)) = !M.isStuck b := by
 unfold M.stuckReason
 split
 ·rename_i e
  rw [e]
  split <;> decide +kernel
 ·rename_i e
  rw [Bool.eq_false_iff.2 e]; simp
theorem wp.laws_FnWaits.math (b : List Int) (h : M.laws_FnWaits_pre b) : wp.laws_FnWaits b (fun r => r = M.laws_FnWaits b) := by
 intro r0 _
 refine bcase_mk (fun _ => rfl) fun _ => ⟨h, fun x gx => ?_⟩
 have hg : M.Good x := by rw [gx]; exact draw_good h
 clear gx
 have hl := hg.1
 have hc := good_count hg
 refine ⟨hl, fun st gst => ?_⟩
 have gst : st = M.isStuck x := gst
 refine loop_n x.Warps.length (fun k => ((k : Int), ())) (fun _ => True) rfl trivial (fun k hk _ next hn => ?_) fun _ next => ?_
 ·have hn := hn trivial
  dsimp only
  rw [up64 hk (by omega)]
  refine bcase_t (by simp; omega) ⟨hl, fun r hr => ⟨hl, fun r2 hr2 => bcase_f (by rw [hr, hr2]; simp [M.impl_CanStep, M.spec_CanStep]) ⟨hl, fun r3 hr3 => bcase_mk (fun e => ?_) fun e => hn⟩⟩⟩
  have e : M.canStep x (k : Int) = true := hr3.symm.trans e
  obtain ⟨g1, g2⟩ := go_waits e
  refine ⟨hl, fun r4 hr4 => bcase_f (hr4.trans g1) (bcase_f ?_ ⟨hl, fun r5 hr5 => bcase_f (hr5.trans g2) hn⟩)⟩
  rw [gst]
  refine Bool.eq_false_iff.2 fun hs => ?_
  rw [stuck_canStep hs hk] at e; cases e
 ·refine bcase_f (by simp) ⟨hl, fun r hr => bcase_t ?_ (bcase_mk (fun e => ⟨hl, fun r2 hr2 => ?_⟩) fun e => rfl)⟩
  ·rw [hr, gst]
   show ((ByteArray.toList (M.stuckReason x) == _) == _) = true
   rw [stuck_said, beq_self_eq_true]
  ·show (!r2) = true
   have e := gst.symm.trans e
   simp only [M.isStuck, Bool.and_eq_true, Bool.not_eq_true'] at e
   rw [hr2]
   simp only [M.impl_BlockEnded, M.blockEnded, e.2.1, Bool.and_false, Bool.not_false]
end Go.V
