import Derived.Test.YtkpfabigipedcaaGreatBaMath1
set_option linter.unusedVariables false
set_option linter.unusedSimpArgs false
set_option maxRecDepth 20000
namespace Go.V
open IntKind (wrap)
def qgF (i : D.Ins) : Bool := M.isIn i.Op 1 9 && M.qcM i 32
inductive Seg : Nat → List D.Ins → Prop
 | nil (b : Nat) : Seg b []
 | cat {b : Nat} {s t : List D.Ins} : Seg b s → Seg (b + s.length) t → Seg b (s ++ t)
 | one {b : Nat} {i : D.Ins} : qgF i = true → Seg b [i]
 | thn {b : Nat} {r : Int} {s : List D.Ins} : 0 ≤ r → r ≤ 3 → Seg (b + 1) s → Seg b (⟨10, r, ((b + 1 + s.length : Nat) : Int), 0⟩ :: s)
 | els {b : Nat} {r : Int} {s t : List D.Ins} : 0 ≤ r → r ≤ 3 → Seg (b + 1) s → Seg (b + 2 + s.length) t → Seg b (⟨10, r, ((b + 2 + s.length : Nat) : Int), 0⟩ :: (s ++ ⟨11, 0, ((b + 2 + s.length + t.length : Nat) : Int), 0⟩ :: t))
 | loop {b : Nat} : b ≤ 14 → Seg b [⟨8, 3, 0, 0⟩, ⟨10, 3, ((b + 6 : Nat) : Int), 0⟩, ⟨3, 0, 0, 1⟩, ⟨1, 2, 1, 0⟩, ⟨4, 3, 3, 2⟩, ⟨11, 0, ((b + 1 : Nat) : Int), 0⟩]
theorem qkf {i : D.Ins} (h : qgF i = true) {n : Int} (hn : 0 ≤ n ∧ n ≤ 32) : M.qcM i n = true ∧ M.qbu i = true := by
 unfold qgF at h
 rw [Bool.and_eq_true] at h
 obtain ⟨h1, h2⟩ := h
 have h1' := h1
 simp only [M.isIn, Bool.and_eq_true, decide_eq_true_eq] at h1'
 refine ⟨?_, by simp only [M.qbu, M.isIn, Bool.and_eq_true, decide_eq_true_eq]; omega⟩
 have e : M.isIn n 0 32 = true := by simp only [M.isIn, Bool.and_eq_true, decide_eq_true_eq]; omega
 have e32 : M.isIn 32 0 32 = true := by decide
 unfold M.qcM at h2 ⊢
 rw [e, Bool.true_and]
 rw [e32, Bool.true_and] at h2
 rw [if_neg (by omega : ¬ i.Op = 10), if_neg (by omega : ¬ i.Op = 11)] at h2 ⊢
 exact h2
theorem qnU {b : Nat} {s : List D.Ins} (h : Seg b s) : ∀ n : Nat, b + s.length ≤ n → n ≤ 32 → ∀ i ∈ s, M.qcM i (n : Int) = true ∧ M.qbu i = true := by
 have br : ∀ (n : Nat) (r : Int) (t : Nat), 0 ≤ r → r ≤ 3 → t ≤ n → n ≤ 32 → M.qcM ⟨10, r, ((t : Nat) : Int), 0⟩ (n : Int) = true ∧ M.qbu ⟨10, r, ((t : Nat) : Int), 0⟩ = true := fun n r t h0 h1 h2 h3 => by
  refine ⟨?_, rfl⟩
  simp only [M.qcM, M.qfr, M.isIn, Bool.and_eq_true, decide_eq_true_eq]
  simp
  omega
 have jm : ∀ (n t : Nat), t ≤ n → n ≤ 32 → M.qcM ⟨11, 0, ((t : Nat) : Int), 0⟩ (n : Int) = true ∧ M.qbu ⟨11, 0, ((t : Nat) : Int), 0⟩ = true := fun n t h2 h3 => by
  refine ⟨?_, rfl⟩
  simp only [M.qcM, M.qfr, M.isIn, Bool.and_eq_true, decide_eq_true_eq]
  simp
  omega
 have pl : ∀ (n : Nat) (i : D.Ins), qgF i = true → n ≤ 32 → M.qcM i (n : Int) = true ∧ M.qbu i = true := fun n i hi hn => qkf hi ⟨by omega, by omega⟩
 induction h with
 | nil b => intro n _ _ i hi; simp at hi
 | cat _ _ ih1 ih2 =>
  intro n hn h32 i hi
  rw [List.length_append] at hn
  rcases List.mem_append.1 hi with hi | hi
  ·exact ih1 n (by omega) h32 i hi
  ·exact ih2 n (by omega) h32 i hi
 | one hp => intro n hn h32 i hi; rw [List.mem_singleton] at hi; subst hi; exact pl n _ hp h32
 | thn h0 h3 _ ih =>
  intro n hn h32 i hi
  rw [List.length_cons] at hn
  rcases List.mem_cons.1 hi with hi | hi
  ·subst hi; exact br n _ _ h0 h3 (by omega) h32
  ·exact ih n (by omega) h32 i hi
 | els h0 h3 _ _ ih1 ih2 =>
  intro n hn h32 i hi
  rw [List.length_cons, List.length_append, List.length_cons] at hn
  rcases List.mem_cons.1 hi with hi | hi
  ·subst hi; exact br n _ _ h0 h3 (by omega) h32
  rcases List.mem_append.1 hi with hi | hi
  ·exact ih1 n (by omega) h32 i hi
  rcases List.mem_cons.1 hi with hi | hi
  ·subst hi; exact jm n _ (by omega) h32
  ·exact ih2 n (by omega) h32 i hi
 | loop hb =>
  intro n hn h32 i hi
  simp only [List.length_cons, List.length_nil] at hn
  simp only [List.mem_cons, List.not_mem_nil, or_false] at hi
  rcases hi with hi | hi | hi | hi | hi | hi <;> subst hi
  ·exact pl n _ rfl h32
  ·exact br n _ _ (by omega) (by omega) (by omega) h32
  ·exact pl n _ rfl h32
  ·exact pl n _ rfl h32
  ·exact pl n _ rfl h32
  ·exact jm n _ (by omega) h32
theorem qhD (c : D.Cur) : qgF (M.qaq c).1 = true := by
 unfold qgF
 rw [(qld c (n := 32) ⟨by omega, by omega⟩).1, Bool.and_true]
 have h := qd5 c (n := 9) (by omega)
 have e : wrap .i64 (1 + (M.qa0 c 9).1) = 1 + (M.qa0 c 9).1 := w64 (by omega) (by omega)
 have : (M.qaq c).1.Op = 1 + (M.qa0 c 9).1 := by
  unfold M.qaq
  simp only
  rw [e]
  split
  ·rfl
  split
  ·rfl
  split <;> rfl
 rw [this]
 simp only [M.isIn, Bool.and_eq_true, decide_eq_true_eq]
 omega
theorem qn3 (c : D.Cur) (n : Int) : (M.once c n).2.b = c.b := qcq c n
theorem qm8 {c : D.Cur} (h : M.qdv c) (n : Int) : M.qdv (M.once c n).2 := qbP h n
theorem qnP {p s : List D.Ins} {x y : D.Ins} : (p ++ x :: s).set p.length y = p ++ y :: s := by
 rw [List.set_append_right _ _ (Nat.le_refl _), Nat.sub_self]; rfl
theorem qjl {p s : List D.Ins} {x : D.Ins} {k : Nat} (hk : p.length = k) (v : Int) : M.setB (p ++ x :: s) k v = p ++ ⟨x.Op, x.A, v, x.C⟩ :: s := by
 subst hk
 unfold M.setB
 rw [qnL rfl, qnP]
def qjA (L : Nat) (rec : D.Cur → List D.Ins → List D.Ins × D.Cur) : Prop :=
 ∀ (c : D.Cur) (p : List D.Ins), M.qdv c → M.qdv (rec c p).2 ∧ (rec c p).2.b = c.b ∧ ∃ s, (rec c p).1 = p ++ s ∧ Seg p.length s ∧ p.length + s.length ≤ max p.length L
theorem qjq (p : List D.Ins) : M.qgX p = p ++ [⟨8, 3, 0, 0⟩, ⟨10, 3, ((p.length + 6 : Nat) : Int), 0⟩, ⟨3, 0, 0, 1⟩, ⟨1, 2, 1, 0⟩, ⟨4, 3, 3, 2⟩, ⟨11, 0, ((p.length + 1 : Nat) : Int), 0⟩] := by
 have e : M.qis p = (p ++ [⟨8, 3, 0, 0⟩]) ++ (⟨10, 3, 0, 0⟩ : D.Ins) :: [⟨3, 0, 0, 1⟩, ⟨1, 2, 1, 0⟩, ⟨4, 3, 3, 2⟩, ⟨11, 0, ((p.length + 1 : Nat) : Int), 0⟩] := by
  unfold M.qis M.qh1; simp
 have l1 : (M.qh1 p).length = (p ++ [(⟨8, 3, 0, 0⟩ : D.Ins)]).length := rfl
 have l2 : (M.qis p).length = p.length + 6 := by rw [e]; simp
 unfold M.qgX
 rw [l2, e, qjl l1.symm]
 simp
theorem qlf {L : Nat} {rec : D.Cur → List D.Ins → List D.Ins × D.Cur} (hr : qjA L rec) (hL : 20 ≤ L) {c : D.Cur} (hc : M.qdv c) {p : List D.Ins} (hp : p.length < 20) :
    M.qdv (M.ifIn rec c p).2 ∧ (M.ifIn rec c p).2.b = c.b ∧ ∃ s, (M.ifIn rec c p).1 = p ++ s ∧ Seg p.length s ∧ p.length + s.length ≤ L + 1 := by
 have hreg := qd5 c (n := 4) (by omega)
 have c1 := qbP hc 4
 have b1 := qcq c 4
 obtain ⟨c2, b2, s1, e1, g1, n1⟩ := hr (M.qa0 c 4).2 (p ++ [⟨10, (M.qa0 c 4).1, 0, 0⟩]) c1
 have hb1 : M.qck rec c p = rec (M.qa0 c 4).2 (p ++ [⟨10, (M.qa0 c 4).1, 0, 0⟩]) := rfl
 rw [← hb1] at c2 b2 e1
 rw [List.length_append, List.length_singleton] at g1 n1
 have e1' : (M.qck rec c p).1 = p ++ ⟨10, (M.qa0 c 4).1, 0, 0⟩ :: s1 := by rw [e1]; simp
 have l1 : (M.qck rec c p).1.length = p.length + 1 + s1.length := by rw [e1']; simp; omega
 have c3 := qm8 c2 2
 have b3 := qn3 (M.qck rec c p).2 2
 unfold M.ifIn
 split
 ·refine ⟨c3, by rw [b3, b2, b1], _, ?_, Seg.thn (r := (M.qa0 c 4).1) (by omega) (by omega) g1, ?_⟩
  ·show M.setB _ _ _ = _
   rw [l1, e1', qjl rfl]
  ·rw [List.length_cons]; omega
 ·have e2 : M.setB ((M.qck rec c p).1 ++ [⟨11, 0, 0, 0⟩]) p.length (((M.qck rec c p).1 ++ [(⟨11, 0, 0, 0⟩ : D.Ins)]).length : Int) = p ++ ⟨10, (M.qa0 c 4).1, ((p.length + 2 + s1.length : Nat) : Int), 0⟩ :: (s1 ++ [⟨11, 0, 0, 0⟩]) := by
    rw [List.length_append, List.length_singleton, l1, e1', List.append_assoc, List.cons_append, qjl rfl]
    congr 4
    omega
  obtain ⟨c4, b4, s2, e3, g2, n2⟩ := hr (M.once (M.qck rec c p).2 2).2 (p ++ ⟨10, (M.qa0 c 4).1, ((p.length + 2 + s1.length : Nat) : Int), 0⟩ :: (s1 ++ [⟨11, 0, 0, 0⟩])) c3
  have hb2 : M.qgg rec (M.once (M.qck rec c p).2 2).2 p (M.qck rec c p).1 = rec (M.once (M.qck rec c p).2 2).2 (p ++ ⟨10, (M.qa0 c 4).1, ((p.length + 2 + s1.length : Nat) : Int), 0⟩ :: (s1 ++ [⟨11, 0, 0, 0⟩])) := by
   unfold M.qgg; rw [e2]
  rw [← hb2] at c4 b4 e3
  have lq : (p ++ ⟨10, (M.qa0 c 4).1, ((p.length + 2 + s1.length : Nat) : Int), 0⟩ :: (s1 ++ [(⟨11, 0, 0, 0⟩ : D.Ins)])).length = p.length + 2 + s1.length := by simp; omega
  rw [lq] at g2 n2
  have e3' : (M.qgg rec (M.once (M.qck rec c p).2 2).2 p (M.qck rec c p).1).1 = (p ++ ⟨10, (M.qa0 c 4).1, ((p.length + 2 + s1.length : Nat) : Int), 0⟩ :: s1) ++ ⟨11, 0, 0, 0⟩ :: s2 := by rw [e3]; simp
  have l3 : (M.qgg rec (M.once (M.qck rec c p).2 2).2 p (M.qck rec c p).1).1.length = p.length + 2 + s1.length + s2.length := by rw [e3']; simp; omega
  refine ⟨c4, by rw [b4, b3, b2, b1], _, ?_, Seg.els (r := (M.qa0 c 4).1) (by omega) (by omega) g1 g2, ?_⟩
  ·show M.setB _ _ _ = _
   rw [l3, l1, e3', qjl (by simp; omega)]
   simp
  ·rw [List.length_cons, List.length_append, List.length_cons]; omega
theorem qkd {L : Nat} {rec : D.Cur → List D.Ins → List D.Ins × D.Cur} (hr : qjA L rec) (hL : 20 ≤ L) (deep : Bool) {c : D.Cur} (hc : M.qdv c) {p : List D.Ins} (hp : p.length < 20) :
    M.qdv (M.qdQ rec deep c p).2 ∧ (M.qdQ rec deep c p).2.b = c.b ∧ ∃ s, (M.qdQ rec deep c p).1 = p ++ s ∧ Seg p.length s ∧ p.length + s.length ≤ if deep then L + 1 else 20 := by
 have c1 := qbP hc 5
 have b1 := qcq c 5
 obtain ⟨B, hB, hB1, hB2⟩ : ∃ B, (if deep then L + 1 else 20) = B ∧ 20 ≤ B ∧ (deep = true → B = L + 1) := ⟨_, rfl, by split <;> omega, fun h => if_pos h⟩
 rw [hB]
 have same : M.qdv (M.qa0 c 5).2 ∧ (M.qa0 c 5).2.b = c.b ∧ ∃ s, p = p ++ s ∧ Seg p.length s ∧ p.length + s.length ≤ B :=
  ⟨c1, b1, [], by simp, Seg.nil _, by simp only [List.length_nil]; omega⟩
 unfold M.qdQ
 split
 ·split
  ·rename_i hd
   obtain ⟨g1, g2, s, g3, g4, g5⟩ := qlf hr hL c1 hp
   exact ⟨g1, by rw [g2, b1], s, g3, g4, by rw [hB2 hd]; exact g5⟩
  ·exact same
 split
 ·split
  ·rename_i hd
   refine ⟨c1, b1, _, qjq p, Seg.loop (by omega), ?_⟩
   have := hB2 hd.1
   simp only [List.length_cons, List.length_nil]
   omega
  ·exact same
 ·refine ⟨qkV c1, by rw [qmb, b1], _, rfl, Seg.one (qhD _), ?_⟩
  simp only [List.length_cons, List.length_nil]
  omega
theorem qgJ {L : Nat} {rec : D.Cur → List D.Ins → List D.Ins × D.Cur} (hr : qjA L rec) (hL : 20 ≤ L) (deep : Bool) : ∀ n, qjA (if deep then L + 1 else 20) (M.qhU rec deep n)
 | 0, c, p, hc => ⟨hc, rfl, [], by simp [M.qhU], Seg.nil _, by simp only [List.length_nil]; omega⟩
 | n + 1, c, p, hc => by
  rw [M.qhU]
  split
  ·rename_i hp
   obtain ⟨g1, g2, s, g3, g4, g5⟩ := qkd hr hL deep hc (p := p) (by omega)
   obtain ⟨k1, k2, t, k3, k4, k5⟩ := qgJ hr hL deep n (M.qdQ rec deep c p).2 (M.qdQ rec deep c p).1 g1
   rw [g3, List.length_append] at k4 k5
   refine ⟨k1, by rw [k2, g2], s ++ t, by rw [k3, g3, List.append_assoc], Seg.cat g4 k4, ?_⟩
   rw [List.length_append]
   have : p.length ≤ if deep = true then L + 1 else 20 := by split <;> omega
   omega
  ·exact ⟨hc, rfl, [], by simp, Seg.nil _, by simp only [List.length_nil]; omega⟩
theorem qlh {L K : Nat} {rec : D.Cur → List D.Ins → List D.Ins × D.Cur} (h : qjA L rec) (hk : L ≤ K) : qjA K rec := fun c p hc => by
 obtain ⟨g1, g2, s, g3, g4, g5⟩ := h c p hc
 exact ⟨g1, g2, s, g3, g4, by omega⟩
theorem ql3 : qjA 20 (fun c p => (p, c)) := fun c p hc => ⟨hc, rfl, [], by simp, Seg.nil _, by simp only [List.length_nil]; omega⟩
theorem qfP : ∀ d, qjA (20 + d) (M.body d)
 | 0, c, p, hc => by
  obtain ⟨g1, g2, r⟩ := qgJ ql3 (Nat.le_refl _) false (M.qa0 c 4).1.toNat (M.qa0 c 4).2 p (qbP hc 4)
  exact ⟨g1, g2.trans (qcq c 4), r⟩
 | d + 1, c, p, hc => by
  obtain ⟨g1, g2, r⟩ := qgJ (qfP d) (by omega) true (M.qa0 c 4).1.toNat (M.qa0 c 4).2 p (qbP hc 4)
  exact ⟨g1, g2.trans (qcq c 4), r⟩
end Go.V
namespace Go.V
open IntKind (wrap)
theorem qlu {p : List D.Ins} {x : D.Warp} (h : M.Fine p x) : x.Frames.length ≤ 24 ∧ x.Regs.length = 32 := by
 have hw := h.2
 simp only [M.qeM, M.qcW, Bool.and_eq_true, Bool.or_eq_true, beq_iff_eq] at hw
 obtain ⟨h1, h2, h3, h4, h5⟩ := hw
 refine ⟨?_, h2⟩
 rcases h5 with h5 | h5
 ·have : x.Frames = [] := by simpa using h5
  rw [this]; simp
 ·simp only [M.qgE, Bool.and_eq_true, decide_eq_true_eq] at h5
  exact h5.1
end Go.V
namespace Go.V
open IntKind (wrap)
theorem wp.qcF.math (c : D.Cur) (n : Int) (h : M.qff c n) : wp.qcF c n (fun r => r = M.qcF c n) := by
 refine ⟨h, fun r hr => ?_⟩
 rw [hr, qcL (qcq c n)]; rfl
theorem qaJ.dec {c : D.Cur} {p : List D.Ins} {x : Int} (h : M.qcS c p x) (e : (x == 0) = false) : (wrap .i64 (x - 1)).toNat < x.toNat := by
 obtain ⟨_, _, h3, h4⟩ := h
 have e : x ≠ 0 := by simpa using e
 rw [w64 (by omega) (by omega)]; omega
def itB (rec : D.Cur → List D.Ins → List D.Ins × D.Cur) (deep : Bool) : Nat → D.Cur → List D.Ins → List D.Ins × D.Cur
 | 0, c, p => (p, c)
 | k + 1, c, p => M.qdQ rec deep (itB rec deep k c p).2 (itB rec deep k c p).1
def qfM : Nat → D.Cur → List D.Ins → List D.Ins × D.Cur
 | 0 => fun c p => (p, c)
 | d + 1 => M.body d
def qe6 : Nat → Bool
 | 0 => false
 | _ + 1 => true
theorem qnG (d : Nat) (c : D.Cur) (p : List D.Ins) : M.body d c p = M.qhU (qfM d) (qe6 d) (M.qa0 c 4).1.toNat (M.qa0 c 4).2 p := by cases d <;> rfl
theorem qkv : ∀ d, qjA (20 + d) (qfM d)
 | 0 => ql3
 | d + 1 => qlh (qfP d) (by omega)
theorem wp.qaJ.math (c : D.Cur) (p : List D.Ins) (x : Int) (h : M.qcS c p x) : wp.qaJ c p x (fun r => r = M.qaJ c p x) := by
 obtain ⟨h1, h2, h3, h4⟩ := h
 obtain ⟨d, rfl⟩ := Int.eq_ofNat_of_zero_le h3
 unfold wp.qaJ
 refine ⟨h1, fun r0 g0 => ?_⟩
 subst g0
 have hb := qd5 c (n := 4) (by omega)
 have hc0 := qbP h1 4
 have hb0 := qcq c 4
 have eM : M.qaJ c p (d : Int) = M.qhU (qfM d) (qe6 d) (M.qa0 c 4).1.toNat (M.qa0 c 4).2 p := by
  unfold M.qaJ
  rw [Int.toNat_natCast, qnG]
 rw [eM]
 obtain ⟨n, hn⟩ := Int.eq_ofNat_of_zero_le hb.1
 generalize (M.qa0 c 4).2 = c0 at *
 rw [hn] at hb ⊢
 rw [Int.toNat_natCast]
 refine qdl n (fun k => ((itB (qfM d) (qe6 d) k c0 p).1, ((n : Int) - (k : Int)), (itB (qfM d) (qe6 d) k c0 p).2.i, (itB (qfM d) (qe6 d) k c0 p).2.h, ()))
  (fun k => M.qdv (itB (qfM d) (qe6 d) k c0 p).2 ∧ (itB (qfM d) (qe6 d) k c0 p).2.b = c.b ∧ (k ≤ n → M.qhU (qfM d) (qe6 d) n c0 p = M.qhU (qfM d) (qe6 d) (n - k) (itB (qfM d) (qe6 d) k c0 p).2 (itB (qfM d) (qe6 d) k c0 p).1))
  (by simp [itB]) ⟨hc0, hb0, fun _ => rfl⟩ (fun k hk hF next hnx => ?_) fun hF next => ?_
 ·obtain ⟨f1, f2, f3⟩ := hF
  have f3 := f3 (by omega)
  have it : itB (qfM d) (qe6 d) (k + 1) c0 p = M.qdQ (qfM d) (qe6 d) (itB (qfM d) (qe6 d) k c0 p).2 (itB (qfM d) (qe6 d) k c0 p).1 := rfl
  rw [it] at hnx
  generalize itB (qfM d) (qe6 d) k c0 p = y at *
  obtain ⟨q, e⟩ := y
  dsimp only at *
  refine qb1 (by simp; omega) (qa3 (fun g => ?_) fun g => ?_)
  ·have g : (q.length : Int) < 20 := by simpa using g
   obtain ⟨k1, k2, s, k3, k4, k5⟩ := qkd (qkv d) (by omega) (qe6 d) f1 (p := q) (by omega)
   have ew : wrap .i64 ((n : Int) - (k : Int) - 1) = (n : Int) - ((k + 1 : Nat) : Int) := by rw [w64 (by omega) (by omega)]; omega
   have fin : ∀ P c', M.qdQ (qfM d) (qe6 d) e q = (P, c') → next (P, wrap .i64 ((n : Int) - (k : Int) - 1), c'.i, c'.h, ()) := fun P c' hE => by
    rw [ew]
    have := hnx ⟨k1, k2.trans f2, fun _ => ?_⟩
    ·rw [hE] at this; exact this
    ·rw [f3, show n - k = (n - (k + 1)) + 1 by omega, M.qhU, if_pos g]
   rw [qcL f2]
   refine ⟨f1, fun r5 g5 => ?_⟩
   subst g5
   have c5 := qbP f1 5
   have b5 : (M.qa0 e 5).2.b = c.b := (qcq e 5).trans f2
   rw [qcL b5]
   have hb5 := qd5 e (n := 5) (by omega)
   refine qa3 (fun e0 => ?_) fun e0 => qa3 (fun e1 => ?_) fun e1 => ?_
   ·have e0 : (M.qa0 e 5).1 = 0 := by simpa using e0
    cases d with
    | zero =>
     refine qb1 rfl (fin _ _ ?_)
     unfold M.qdQ
     rw [if_pos e0]; rfl
    | succ d =>
     refine qb8 (by simp; omega) ?_
     have hM : M.qdQ (qfM (d + 1)) (qe6 (d + 1)) e q = M.ifIn (M.body d) (M.qa0 e 5).2 q := by
      unfold M.qdQ
      rw [if_pos e0]; rfl
     rw [hM] at fin
     generalize (M.qa0 e 5).2 = e5 at *
     refine ⟨c5, fun r6 g6 => ?_⟩
     subst g6
     have c6 := qbP c5 4
     have b6 : (M.qa0 e5 4).2.b = c.b := (qcq e5 4).trans b5
     have ed : wrap .i64 (((d + 1 : Nat) : Int) - 1) = (d : Int) := by rw [w64 (by omega) (by omega)]; omega
     have hbody : ∀ c p, M.qaJ c p (d : Int) = M.body d c p := fun c p => by unfold M.qaJ; rw [Int.toNat_natCast]
     simp only [qcL b6, ed, hbody]
     obtain ⟨i1, i2, s1, i3, i4, i5⟩ := qfP d (M.qa0 e5 4).2 (q ++ [⟨10, (M.qa0 e5 4).1, 0, 0⟩]) c6
     rw [List.length_append, List.length_singleton] at i5
     refine ⟨by simp; omega, ⟨c6, by simp; omega, by omega, by omega⟩, fun r7 g7 => ?_⟩
     have hbr : M.qck (M.body d) e5 q = M.body d (M.qa0 e5 4).2 (q ++ [⟨10, (M.qa0 e5 4).1, 0, 0⟩]) := rfl
     rw [← g7] at hbr i1 i2 i3
     have hE : M.ifIn (M.body d) e5 q = if (M.once r7.2 2).1 then (M.setB r7.1 q.length (r7.1.length : Int), (M.once r7.2 2).2)
         else (M.setB (M.qgg (M.body d) (M.once r7.2 2).2 q r7.1).1 r7.1.length ((M.qgg (M.body d) (M.once r7.2 2).2 q r7.1).1.length : Int), (M.qgg (M.body d) (M.once r7.2 2).2 q r7.1).2) := by
      unfold M.ifIn; rw [hbr]
     rw [hE] at fin
     have b7 : r7.2.b = c.b := i2.trans b6
     have l7 : r7.1.length = q.length + 1 + s1.length := by rw [i3]; simp; omega
     rw [qcL b7]
     refine ⟨i1, fun r8 g8 => ?_⟩
     have g8 : r8 = M.once r7.2 2 := g8
     rw [← g8] at fin
     have c8 : M.qdv r8.2 := by rw [g8]; exact qm8 i1 2
     have b8 : r8.2.b = c.b := by rw [g8]; exact (qn3 _ _).trans b7
     refine qa3 (fun t => ⟨by omega, ?_⟩) fun t => ⟨by simp; omega, by simp; omega, ?_⟩
     ·refine fin _ _ ?_
      rw [if_pos t, Int.toNat_natCast]; rfl
     ·rw [if_neg (by rw [t]; simp)] at fin
      simp only [qcL b8]
      have hel : M.qgg (M.body d) r8.2 q r7.1 = M.body d r8.2 (List.set (r7.1 ++ [(⟨11, 0, 0, 0⟩ : D.Ins)]) ((q.length : Int).toNat) (⟨(rd (r7.1 ++ [(⟨11, 0, 0, 0⟩ : D.Ins)]) (q.length : Int)).Op, (rd (r7.1 ++ [(⟨11, 0, 0, 0⟩ : D.Ins)]) (q.length : Int)).A, ((r7.1 ++ [(⟨11, 0, 0, 0⟩ : D.Ins)]).length : Int), (rd (r7.1 ++ [(⟨11, 0, 0, 0⟩ : D.Ins)]) (q.length : Int)).C⟩ : D.Ins)) := by
       rw [Int.toNat_natCast]; rfl
      obtain ⟨j1, j2, s2, j3, j4, j5⟩ := qfP d r8.2 (List.set (r7.1 ++ [(⟨11, 0, 0, 0⟩ : D.Ins)]) ((q.length : Int).toNat) (⟨(rd (r7.1 ++ [(⟨11, 0, 0, 0⟩ : D.Ins)]) (q.length : Int)).Op, (rd (r7.1 ++ [(⟨11, 0, 0, 0⟩ : D.Ins)]) (q.length : Int)).A, ((r7.1 ++ [(⟨11, 0, 0, 0⟩ : D.Ins)]).length : Int), (rd (r7.1 ++ [(⟨11, 0, 0, 0⟩ : D.Ins)]) (q.length : Int)).C⟩ : D.Ins)) c8
      refine ⟨⟨c8, by simp; omega, by omega, by omega⟩, fun r9 g9 => ?_⟩
      rw [← hel] at g9 j3
      rw [← g9] at fin j3
      refine ⟨?_, ?_⟩
      ·have : r9.1.length = r7.1.length + 1 + s2.length := by rw [j3, List.length_append, List.length_set, List.length_append]; rfl
       omega
      ·refine fin _ _ ?_
       rw [Int.toNat_natCast]; rfl
   ·have e0 : ¬ (M.qa0 e 5).1 = 0 := by simpa using e0
    have e1 : (M.qa0 e 5).1 = 1 := by simpa using e1
    have hM : M.qdQ (qfM d) (qe6 d) e q = if qe6 d ∧ ¬ (q.length : Int) > 14 then (M.qgX q, (M.qa0 e 5).2) else (q, (M.qa0 e 5).2) := by
     unfold M.qdQ
     rw [if_neg e0, if_pos e1]
    rw [hM] at fin
    cases d with
    | zero =>
     refine qb1 rfl (fin _ _ ?_)
     rw [if_neg (by simp [qe6])]
    | succ d =>
     refine qb8 (by simp; omega) (qa3 (fun g14 => fin _ _ ?_) fun g14 => ?_)
     ·have g14 : (q.length : Int) > 14 := by simpa using g14
      rw [if_neg (by simp only [not_and, Int.not_lt]; omega)]
     ·have g14 : ¬ (q.length : Int) > 14 := by simpa using g14
      refine ⟨by simp; omega, by simp; omega, by simp; omega, by simp; omega, by simp; omega, fin _ _ ?_⟩
      rw [if_pos ⟨rfl, g14⟩, Int.toNat_natCast]; rfl
   ·have e0 : ¬ (M.qa0 e 5).1 = 0 := by simpa using e0
    have e1 : ¬ (M.qa0 e 5).1 = 1 := by simpa using e1
    refine ⟨c5, fun r6 g6 => ⟨by simp; omega, fin _ _ ?_⟩⟩
    unfold M.qdQ
    rw [if_neg e0, if_neg e1, g6]
  ·have g : ¬ (q.length : Int) < 20 := by simpa using g
   rw [f3, show n - k = (n - (k + 1)) + 1 by omega, M.qhU, if_neg g, qcL f2]
 ·obtain ⟨f1, f2, f3⟩ := hF
  refine qb8 (by simp) ?_
  rw [f3 (Nat.le_refl _), Nat.sub_self, qcL f2]; rfl
end Go.V
namespace Go.V
open IntKind (wrap)
def memI (i : D.Ins) : Bool := M.isIn i.Op 13 16 && M.qcM i 32
inductive MSeg : Nat → List D.Ins → Prop
 | nil (b : Nat) : MSeg b []
 | cat {b : Nat} {s t : List D.Ins} : MSeg b s → MSeg (b + s.length) t → MSeg b (s ++ t)
 | seg {b : Nat} {s : List D.Ins} : Seg b s → MSeg b s
 | mem {b : Nat} {i : D.Ins} : memI i = true → MSeg b [i]
theorem qnk {i : D.Ins} (h : memI i = true) {n : Int} (hn : 0 ≤ n ∧ n ≤ 32) : M.qcM i n = true := by
 unfold memI at h
 rw [Bool.and_eq_true] at h
 obtain ⟨h1, h2⟩ := h
 simp only [M.isIn, Bool.and_eq_true, decide_eq_true_eq] at h1
 have e : M.isIn n 0 32 = true := by simp only [M.isIn, Bool.and_eq_true, decide_eq_true_eq]; omega
 have e32 : M.isIn 32 0 32 = true := by decide
 unfold M.qcM at h2 ⊢
 rw [e, Bool.true_and]
 rw [e32, Bool.true_and] at h2
 rw [if_neg (by omega : ¬ i.Op = 10), if_neg (by omega : ¬ i.Op = 11)] at h2 ⊢
 exact h2
theorem qnf {b : Nat} {s : List D.Ins} (h : MSeg b s) : ∀ n : Nat, b + s.length ≤ n → n ≤ 32 → ∀ i ∈ s, M.qcM i (n : Int) = true := by
 induction h with
 | nil b => intro n _ _ i hi; simp at hi
 | cat _ _ ih1 ih2 =>
  intro n hn h32 i hi
  rw [List.length_append] at hn
  rcases List.mem_append.1 hi with hi | hi
  ·exact ih1 n (by omega) h32 i hi
  ·exact ih2 n (by omega) h32 i hi
 | seg hs => intro n hn h32 i hi; exact (qnU hs n hn h32 i hi).1
 | mem hm => intro n hn h32 i hi; rw [List.mem_singleton] at hi; subst hi; exact qnk hm ⟨by omega, by omega⟩
theorem ql7 (c : D.Cur) {l : List Int} (h : l ≠ []) : (M.qap c l).1 ∈ l := by
 have hpos : (0 : Int) < (l.length : Int) := by have := List.length_pos_iff.2 h; omega
 have := qd5 c hpos
 exact qib this.1 this.2
theorem qnc (c : D.Cur) : memI (M.qbs c).1 = true := by
 have h1 := ql7 c (l := [13, 14, 15]) (by simp)
 have h2 := qd5 (M.qap c [13, 14, 15]).2 (n := 4) (by omega)
 have h3 := qd5 (M.qa0 (M.qap c [13, 14, 15]).2 4).2 (n := 4) (by omega)
 unfold M.qbs
 simp only [List.mem_cons, List.not_mem_nil, or_false] at h1
 simp only [memI, M.qcM, M.qfr, M.isIn, Bool.and_eq_true, decide_eq_true_eq]
 rcases h1 with h1 | h1 | h1 <;> (rw [h1]; simp; omega)
theorem qk8 {a x : Int} (ha : 0 ≤ a ∧ a ≤ 3) (hx : 0 ≤ x ∧ x ≤ 65535) : qgF ⟨1, a, x, 0⟩ = true := by
 simp only [qgF, M.qcM, M.qfr, M.isWord, M.isIn, Bool.and_eq_true, decide_eq_true_eq]
 simp
 omega
theorem qlU {op a x : Int} (ho : op = 13 ∨ op = 14 ∨ op = 15) (ha : 0 ≤ a ∧ a ≤ 3) (hx : 0 ≤ x ∧ x ≤ 3) : memI ⟨op, a, x, 0⟩ = true := by
 simp only [memI, M.qcM, M.qfr, M.isIn, Bool.and_eq_true, decide_eq_true_eq]
 rcases ho with rfl | rfl | rfl <;> (simp; omega)
theorem qh0 {c : D.Cur} (hc : M.qdv c) {p : List D.Ins} (hp : p.length ≤ 28) : M.qdv (M.qfi c p).2 ∧ (M.qfi c p).2.b = c.b ∧ ∃ s, (M.qfi c p).1 = p ++ s ∧ MSeg p.length s ∧ p.length + s.length ≤ 32 := by
 have c1 := qbP hc 7
 have b1 := qcq c 7
 unfold M.qfi
 generalize (M.qa0 c 7).2 = d at *
 split
 ·exact ⟨c1, b1, _, rfl, .mem rfl, by simp; omega⟩
 split
 ·have hr := qd5 d (n := 4) (by omega)
  exact ⟨qbP c1 4, (qcq d 4).trans b1, _, rfl, .cat (.seg (.one rfl)) (.mem (qlU (by omega) (by omega) (by omega))) (s := [⟨8, 0, 0, 0⟩]), by simp [M.qix]; omega⟩
 split
 ·have h1 := ql7 d (l := [1, 8, 31]) (by simp)
  simp only [List.mem_cons, List.not_mem_nil, or_false] at h1
  refine ⟨qkL c1 _, (qlI d _).trans b1, _, rfl, ?_, by simp [M.qjy]; omega⟩
  refine .cat (s := [⟨1, 1, (M.qap d [1, 8, 31]).1, 0⟩]) (.seg (.one (qk8 (by omega) (by omega)))) ?_
  refine .cat (s := [⟨8, 0, 0, 0⟩]) (.seg (.one rfl)) (.cat (s := [⟨3, 0, 0, 1⟩]) (.seg (.one rfl)) (.mem rfl))
 split
 ·have h1 := qd5 d (n := 8) (by omega)
  have h2 := qd5 (M.qa0 d 8).2 (n := 4) (by omega)
  refine ⟨qbP (qbP c1 8) 4, (qcq _ 4).trans ((qcq d 8).trans b1), _, rfl, ?_, by simp [M.qjm]; omega⟩
  exact .cat (s := [⟨1, 1, 24 + (M.qa0 d 8).1, 0⟩]) (.seg (.one (qk8 (by omega) (by omega)))) (.mem (qlU (by omega) (by omega) (by omega)))
 split
 ·split
  ·obtain ⟨g1, g2, s, g3, g4, g5⟩ := qfP 1 d p c1
   exact ⟨g1, g2.trans b1, s, g3, .seg g4, by omega⟩
  ·exact ⟨c1, b1, [], by simp, .nil _, by simp; omega⟩
 split
 ·refine ⟨qbP (qbP (qkL c1 _) 4) 4, (qcq _ 4).trans ((qcq _ 4).trans ((qlI d _).trans b1)), _, rfl, .mem (qnc d), by simp; omega⟩
 ·exact ⟨qkV c1, (qmb d).trans b1, _, rfl, .seg (.one (qhD d)), by simp; omega⟩
theorem qiJ : ∀ (n : Nat) (c : D.Cur) (p : List D.Ins), M.qdv c → p.length ≤ 32 → M.qdv (M.qgR n c p).2 ∧ (M.qgR n c p).2.b = c.b ∧ ∃ s, (M.qgR n c p).1 = p ++ s ∧ MSeg p.length s ∧ p.length + s.length ≤ 32
 | 0, c, p, hc, hp => ⟨hc, rfl, [], by simp [M.qgR], .nil _, by simpa using hp⟩
 | n + 1, c, p, hc, hp => by
  rw [M.qgR]
  split
  ·rename_i h
   obtain ⟨g1, g2, s, g3, g4, g5⟩ := qh0 hc (p := p) (by omega)
   obtain ⟨k1, k2, t, k3, k4, k5⟩ := qiJ n (M.qfi c p).2 (M.qfi c p).1 g1 (by rw [g3, List.length_append]; exact g5)
   rw [g3, List.length_append] at k4 k5
   exact ⟨k1, k2.trans g2, s ++ t, by rw [k3, g3, List.append_assoc], .cat g4 k4, by rw [List.length_append]; omega⟩
  ·exact ⟨hc, rfl, [], by simp, .nil _, by simpa using hp⟩
theorem qkn {c : D.Cur} (h : M.qdv c) : M.qdv (M.qaC c).2 ∧ (M.qaC c).2.b = c.b ∧ MSeg 0 (M.qaC c).1 ∧ (M.qaC c).1.length ≤ 32 ∧ 1 ≤ (M.qaC c).1.length := by
 obtain ⟨g1, g2, s, g3, g4, g5⟩ := qiJ (1 + (M.qa0 c 5).1).toNat (M.qa0 c 5).2 [⟨8, 0, 0, 0⟩] (qbP h 5) (by simp)
 refine ⟨g1, g2.trans (qcq c 5), ?_, ?_, ?_⟩
 ·show MSeg 0 (M.qgR _ _ _).1
  rw [g3]
  exact .cat (.seg (.one rfl)) g4
 ·show (M.qgR _ _ _).1.length ≤ 32
  rw [g3, List.length_append]; exact g5
 ·show 1 ≤ (M.qgR _ _ _).1.length
  rw [g3, List.length_append]; simp
theorem qlJ {c : D.Cur} (h : M.qdv c) : M.qat (M.qaC c).1 = true := by
 obtain ⟨_, _, g3, g4, _⟩ := qkn h
 unfold M.qat
 rw [Bool.and_eq_true, List.all_eq_true, decide_eq_true_eq]
 exact ⟨g4, qnf g3 _ (by omega) g4⟩
end Go.V
namespace Go.V
open IntKind (wrap)
theorem qlD : ((List.range 256).all fun m => (List.range 8).all fun i => M.qaB ((m : Nat) : Int) ((i : Nat) : Int) == m.testBit i) = true := by kernel_rfl
theorem qgb {m i : Nat} (hm : m < 256) (hi : i < 8) : M.qaB (m : Int) (i : Int) = m.testBit i := by
 have := List.all_eq_true.1 (List.all_eq_true.1 qlD m (List.mem_range.2 hm)) i (List.mem_range.2 hi)
 exact eq_of_beq this
theorem qlA : ((List.range 256).all fun m => m == 0 || (List.range 8).any fun i => M.qaB ((m : Nat) : Int) ((i : Nat) : Int)) = true := by kernel_rfl
theorem qiu {m : Int} (h : M.qeL m = true) (h0 : m ≠ 0) : ∃ i : Nat, i < 8 ∧ M.qaB m (i : Int) = true := by
 obtain ⟨k, rfl, hk⟩ := qgw h
 have := List.all_eq_true.1 qlA k (List.mem_range.2 hk)
 rw [Bool.or_eq_true, List.any_eq_true] at this
 rcases this with h1 | ⟨i, hi, h1⟩
 ·have := eq_of_beq h1; omega
 ·exact ⟨i, List.mem_range.1 hi, h1⟩
theorem qgk {i : Nat} (hi : i < 8) : M.qaB 255 (i : Int) = true := by
 have := qgb (m := 255) (i := i) (by omega) hi
 rw [show ((255 : Nat) : Int) = 255 from rfl] at this
 rw [this, show 255 = 2 ^ 8 - 1 from rfl, Nat.testBit_two_pow_sub_one]
 simpa using hi
theorem qiD (i : Nat) (hi : i < 8) : M.qaB 0 (i : Int) = false := by
 have := qgb (m := 0) (i := i) (by omega) hi
 rw [show ((0 : Nat) : Int) = 0 from rfl] at this
 rw [this]; simp
theorem qmP {a b : Int} (ha : M.qeL a = true) (hb : M.qeL b = true) (h : ∀ i : Nat, i < 8 → M.qaB a (i : Int) = M.qaB b (i : Int)) : a = b := by
 obtain ⟨m, rfl, hm⟩ := qgw ha
 obtain ⟨n, rfl, hn⟩ := qgw hb
 have : m = n := by
  apply Nat.eq_of_testBit_eq
  intro i
  by_cases hi : i < 8
  ·rw [← qgb hm hi, ← qgb hn hi, h i hi]
  ·have h256 : 256 ≤ 2 ^ i := Nat.pow_le_pow_right (n := 2) (by decide) (show 8 ≤ i by omega)
   rw [Nat.testBit_lt_two_pow (Nat.lt_of_lt_of_le hm h256), Nat.testBit_lt_two_pow (Nat.lt_of_lt_of_le hn h256)]
 rw [this]
theorem qlR {k : Nat} (hk : k < 8) : M.qi8 (k : Int) = ((2 ^ k : Nat) : Int) := eq_of_beq (List.all_eq_true.1 qjT k (List.mem_range.2 hk))
theorem qg1 {x : D.Warp} {reg : Int} {i : Nat} (hi : i < 8) : ∀ (l : List Int), (∀ k ∈ l, 0 ≤ k ∧ k ≤ 7) → ∀ z : Nat, z < 256 →
    ∃ z' : Nat, l.foldl (M.qdA x reg) (z : Int) = (z' : Int) ∧ z' < 256 ∧ (z'.testBit i = true ↔ z.testBit i = true ∨ ((i : Int) ∈ l ∧ rd x.Regs ((i : Int) * 4 + reg) = 0))
 | [], _, z, hz => ⟨z, rfl, hz, by simp⟩
 | k :: l, hl, z, hz => by
  obtain ⟨h0, h7⟩ := hl k List.mem_cons_self
  obtain ⟨n, rfl⟩ := Int.eq_ofNat_of_zero_le h0
  simp only [List.foldl_cons]
  have hp : 2 ^ n < 256 := Nat.lt_of_lt_of_le (Nat.pow_lt_pow_right (by omega) (show n < 8 by omega)) (Nat.le_refl _)
  by_cases e : rd x.Regs ((n : Int) * 4 + reg) = 0
  ·have hst : M.qdA x reg (z : Int) (n : Int) = ((z ||| 2 ^ n : Nat) : Int) := by
     unfold M.qdA
     rw [if_pos e, qlR (by omega), qk5 hz hp]
   rw [hst]
   obtain ⟨z', g1, g2, g3⟩ := qg1 hi l (fun k hk => hl k (List.mem_cons_of_mem _ hk)) _ (Nat.or_lt_two_pow (n := 8) hz hp)
   refine ⟨z', g1, g2, g3.trans ?_⟩
   rw [Nat.testBit_or, Bool.or_eq_true, Nat.testBit_two_pow, decide_eq_true_eq, List.mem_cons]
   constructor
   ·rintro ((h | rfl) | ⟨h, h'⟩)
    ·exact .inl h
    ·exact .inr ⟨.inl rfl, e⟩
    ·exact .inr ⟨.inr h, h'⟩
   ·rintro (h | ⟨h | h, h'⟩)
    ·exact .inl (.inl h)
    ·exact .inl (.inr (by omega))
    ·exact .inr ⟨h, h'⟩
  ·have hst : M.qdA x reg (z : Int) (n : Int) = (z : Int) := by unfold M.qdA; rw [if_neg e]
   rw [hst]
   obtain ⟨z', g1, g2, g3⟩ := qg1 hi l (fun k hk => hl k (List.mem_cons_of_mem _ hk)) z hz
   refine ⟨z', g1, g2, g3.trans ?_⟩
   rw [List.mem_cons]
   constructor
   ·rintro (h | ⟨h, h'⟩)
    ·exact .inl h
    ·exact .inr ⟨.inr h, h'⟩
   ·rintro (h | ⟨h | h, h'⟩)
    ·exact .inl h
    ·exact absurd (h ▸ h') e
    ·exact .inr ⟨h, h'⟩
theorem qkN {m : Int} {i : Nat} (hi : i < 8) : (i : Int) ∈ M.qdX m ↔ M.qaB m (i : Int) = true := by
 unfold M.qdX
 rw [List.mem_filter]
 refine ⟨fun h => h.2, fun h => ⟨?_, h⟩⟩
 have : i = 0 ∨ i = 1 ∨ i = 2 ∨ i = 3 ∨ i = 4 ∨ i = 5 ∨ i = 6 ∨ i = 7 := by omega
 rcases this with rfl | rfl | rfl | rfl | rfl | rfl | rfl | rfl <;> decide
theorem qkQ {x : D.Warp} {reg : Int} {i : Nat} (hi : i < 8) : M.qaB (M.qbE x reg) (i : Int) = true ↔ M.qaB (M.qbb x) (i : Int) = true ∧ rd x.Regs ((i : Int) * 4 + reg) = 0 := by
 obtain ⟨z', g1, g2, g3⟩ := qg1 (x := x) (reg := reg) hi (M.qdX (M.qbb x)) (fun k hk => qhc hk) 0 (by omega)
 unfold M.qbE
 rw [show (0 : Int) = ((0 : Nat) : Int) from rfl, g1, qgb g2 hi, g3, qkN hi]
 simp
theorem qmg {x : D.Warp} {reg : Int} (h : M.qeL (M.qbb x) = true) {i : Nat} (hi : i < 8) :
    M.qaB (qdK .i64 (M.qbb x) (M.qbE x reg)) (i : Int) = true ↔ M.qaB (M.qbb x) (i : Int) = true ∧ ¬ M.qaB (M.qbE x reg) (i : Int) = true := by
 obtain ⟨m, z, hm, hz, h1, h2, hs⟩ := qhC (reg := reg) h
 rw [hm, hz, qjd h1 h2 hs]
 have hc := List.all_eq_true.1 (List.all_eq_true.1 qjM m (List.mem_range.2 h1)) z (List.mem_range.2 h2)
 simp only [hs, BEq.rfl, Bool.not_true, Bool.false_or, beq_iff_eq] at hc
 have hc' : m - z = m &&& (2 ^ 64 - (z + 1)) := by rw [← hc, Nat.sub_sub, Nat.add_comm]
 rw [qgb (by omega) hi, qgb h1 hi, qgb h2 hi, hc', Nat.testBit_and, Nat.testBit_two_pow_sub_succ (by omega)]
 simp
 intro _ _
 omega
theorem qj1 {a m : Int} : ∀ k : Nat, k ≤ 8 → (∀ i : Nat, i < k → M.qaB a (i : Int) = true → M.qaB m (i : Int) = true) → M.qer a k ≤ M.qer m k
 | 0, _, _ => by simp [M.qer]
 | k + 1, hk, h => by
  have ih := qj1 k (by omega) fun i hi => h i (by omega)
  simp only [M.qer]
  split
  ·rename_i e
   rw [if_pos (h k (by omega) e)]; omega
  ·split <;> omega
theorem qgz {a m : Int} {j : Nat} (hm : M.qaB m (j : Int) = true) (ha : ¬ M.qaB a (j : Int) = true) : ∀ k : Nat, k ≤ 8 → j < k → (∀ i : Nat, i < k → M.qaB a (i : Int) = true → M.qaB m (i : Int) = true) → M.qer a k < M.qer m k
 | 0, _, hj, _ => by omega
 | k + 1, hk, hj, h => by
  simp only [M.qer]
  by_cases e : j = k
  ·subst e
   rw [if_neg ha, if_pos hm]
   have := qj1 (a := a) (m := m) j (by omega) fun i hi => h i (by omega)
   omega
  ·have ih := qgz hm ha k (by omega) (by omega) fun i hi => h i (by omega)
   split
   ·rename_i e
    rw [if_pos (h k (by omega) e)]; omega
   ·split <;> omega
theorem count_one {m : Int} {i : Nat} (hi : i < 8) (h : M.qaB m (i : Int) = true) : 1 ≤ M.qer m 8 := by
 have h0 : M.qer 0 8 = 0 := by decide
 have := qgz (a := 0) (m := m) h (by rw [qiD i hi]; simp) 8 (Nat.le_refl _) hi fun j hj h' => by rw [qiD j hj] at h'; cases h'
 omega
def PD (p : List D.Ins) (x r : Int) : Prop := ¬ Rch p r [x] (p.length : Int)
theorem qo0 {p : List D.Ins} {r x y : Int} (h : Rch p r [x] y) : x ≠ r := by
 induction h with
 | base hs hne => rwa [List.mem_singleton.1 hs] at hne
 | step _ _ _ ih => exact ih
theorem PD.next {p : List D.Ins} {x r y : Int} (h : PD p x r) (hx : x ≠ r) (hy : y ∈ M.qbq p x) : PD p y r := fun hr => by
 have hne := qo0 hr
 exact h (qhu (b := x) (.step (.base (List.mem_singleton.2 rfl) hx) hy hne) hr)
theorem PD.exit {p : List D.Ins} {r : Int} (h : PD p (p.length : Int) r) : r = (p.length : Int) := by
 by_cases e : (p.length : Int) = r
 ·exact e.symm
 ·exact absurd (.base (List.mem_singleton.2 rfl) e) h
theorem PD.last {p : List D.Ins} (x : Int) : PD p x (p.length : Int) := fun h => by
 have : ∀ y, Rch p (p.length : Int) [x] y → y ≠ (p.length : Int) := fun y hy => by
  cases hy with
  | base _ hne => exact hne
  | step _ _ hne => exact hne
 exact this _ h rfl
end Go.V
namespace Go.V
open IntKind (wrap)
def loc (n : Int) : List D.Frame → Nat → Int
 | [], _ => n
 | f :: r, i => if M.qaB f.Mask (i : Int) = true then f.Pc else loc n r i
structure Under (A P : D.Frame) : Prop where
 stop : A.Stop = P.Pc
 sub : ∀ i : Nat, i < 8 → M.qaB A.Mask (i : Int) = true → M.qaB P.Mask (i : Int) = true
 less : M.qer A.Mask 8 < M.qer P.Mask 8
inductive Stk (n : Int) : List D.Frame → Prop
 | base {f : D.Frame} : f.Mask = 255 → f.Stop = n → Stk n [f]
 | one {A P : D.Frame} {r : List D.Frame} : Stk n (P :: r) → Under A P → Stk n (A :: P :: r)
 | two {B A P : D.Frame} {r : List D.Frame} : Stk n (P :: r) → Under A P → Under B P → (∀ i : Nat, i < 8 → M.qaB A.Mask (i : Int) = true → ¬ M.qaB B.Mask (i : Int) = true) → Stk n (B :: A :: P :: r)
theorem Stk.pop {n : Int} {f : D.Frame} {r : List D.Frame} (h : Stk n (f :: r)) (e : f.Pc = f.Stop) : (r = [] ∨ Stk n r) ∧ ∀ i : Nat, i < 8 → loc n r i = loc n (f :: r) i := by
 cases h with
 | base h1 h2 =>
  refine ⟨.inl rfl, fun i hi => ?_⟩
  simp only [loc]
  rw [h1, qgk hi, if_pos rfl, e, h2]
 | one h1 h2 =>
  refine ⟨.inr h1, fun i hi => ?_⟩
  simp only [loc]
  by_cases g : M.qaB f.Mask (i : Int) = true
  ·rw [if_pos g, if_pos (h2.sub i hi g), e, h2.stop]
  ·rw [if_neg g]
 | two h1 h2 h3 h4 =>
  refine ⟨.inr (.one h1 h2), fun i hi => ?_⟩
  simp only [loc]
  by_cases g : M.qaB f.Mask (i : Int) = true
  ·rw [if_pos g, if_neg (fun g' => h4 i hi g' g), if_pos (h3.sub i hi g), e, h3.stop]
  ·rw [if_neg g]
theorem Stk.set {n : Int} {f : D.Frame} {r : List D.Frame} (h : Stk n (f :: r)) (pc : Int) : Stk n (⟨pc, f.Stop, f.Mask⟩ :: r) := by
 cases h with
 | base h1 h2 => exact .base h1 h2
 | one h1 h2 => exact .one h1 ⟨h2.stop, h2.sub, h2.less⟩
 | two h1 h2 h3 h4 => exact .two h1 h2 ⟨h3.stop, h3.sub, h3.less⟩ h4
theorem Stk.long {n : Int} {fs : List D.Frame} (h : Stk n fs) : ∀ f r, fs = f :: r → (fs.length : Int) ≤ 17 - 2 * M.qer f.Mask 8 := by
 induction h with
 | base h1 h2 =>
  rintro f r e
  cases e
  have : M.qer 255 8 = 8 := by decide
  rw [h1, this]; simp
 | one h1 h2 ih =>
  rintro f r e
  cases e
  have := ih _ _ rfl
  have := h2.less
  simp only [List.length_cons] at *
  omega
 | two h1 h2 h3 h4 ih =>
  rintro f r e
  cases e
  have := ih _ _ rfl
  have := h3.less
  simp only [List.length_cons] at *
  omega
def qhT (n : Int) : List D.Frame → List D.Frame
 | [] => []
 | f :: r => if f.Pc ≠ f.Stop ∧ f.Pc ≠ n then f :: r else qhT n r
theorem qka (fs : List D.Frame) (n : Int) : ∀ k, k ≤ fs.length → (M.qhx fs n k).reverse = qhT n (fs.take k).reverse
 | 0, _ => by simp [M.qhx, qhT]
 | k + 1, hk => by
  have ih := qka fs n k (by omega)
  rw [M.qhx, List.take_add_one, List.getElem?_eq_getElem (by omega : k < fs.length), Option.toList_some, List.reverse_append, List.reverse_singleton, List.singleton_append, qhT, qcJ (by omega)]
  split
  ·rw [List.reverse_append, List.reverse_singleton, List.singleton_append]
  ·exact ih
theorem qjJ (fs : List D.Frame) (n : Int) : (M.qlj fs n).reverse = qhT n fs.reverse := by
 have := qka fs n fs.length (Nat.le_refl _)
 rw [List.take_length] at this
 exact this
theorem qk4 (n : Int) : ∀ fs : List D.Frame, ∀ f ∈ qhT n fs, f ∈ fs
 | [], f, h => h
 | g :: r, f, h => by
  rw [qhT] at h
  split at h
  ·exact h
  ·exact List.mem_cons_of_mem _ (qk4 n r f h)
theorem qjb {p : List D.Ins} : ∀ fs : List D.Frame, (fs = [] ∨ Stk p.length fs) → (∀ f ∈ fs, PD p f.Pc f.Stop) →
    (qhT p.length fs = [] ∨ Stk p.length (qhT p.length fs)) ∧ ∀ i : Nat, i < 8 → loc p.length (qhT p.length fs) i = loc p.length fs i
 | [], _, _ => ⟨.inl rfl, fun _ _ => rfl⟩
 | f :: r, h, hpd => by
  have h := h.resolve_left (by simp)
  rw [qhT]
  split
  ·exact ⟨.inr h, fun _ _ => rfl⟩
  ·rename_i e
   have hf := hpd f List.mem_cons_self
   have e' : f.Pc = f.Stop := by
    by_cases h1 : f.Pc = f.Stop
    ·exact h1
    ·have : f.Pc = (p.length : Int) := by
       by_cases h2 : f.Pc = (p.length : Int)
       ·exact h2
       ·exact absurd ⟨h1, h2⟩ e
     rw [this] at hf ⊢
     exact hf.exit.symm
   obtain ⟨g1, g2⟩ := h.pop e'
   obtain ⟨k1, k2⟩ := qjb r g1 fun g hg => hpd g (List.mem_cons_of_mem _ hg)
   exact ⟨k1, fun i hi => (k2 i hi).trans (g2 i hi)⟩
theorem qk9 {r x : List Int} {l : Nat} (h : r.length = 32) (hl : l < 8) (hx : x.length = 4) : M.qcc (M.qf9 r l x) l = x := by
 apply List.ext_getElem?
 intro i
 rw [qfV]
 by_cases hi : i < 4
 ·rw [if_pos hi, qgL h hl hx, if_pos (by omega)]
  congr 1; omega
 ·rw [if_neg hi, List.getElem?_eq_none (by omega)]
theorem qhQ {i : D.Ins} {num m : Int} {r : List Int} (h : r.length = 32) : ∀ k, k ≤ 8 → ∀ j : Nat, j < k → M.qcc (M.qek i num m r k) j = if M.qaB m (j : Int) = true then M.apply i (num * 8 + (j : Int)) (M.qcc r j) else M.qcc r j
 | 0, _, j, hj => by omega
 | k + 1, hk, j, hj => by
  have hl := qg5 (i := i) (num := num) (m := m) h k (by omega)
  have ha : (M.apply i (num * 8 + (k : Int)) (M.qcc r k)).length = 4 := by rw [qgo, qdW h (by omega)]
  simp only [M.qek]
  by_cases e : j = k
  ·subst e
   by_cases g : M.qaB m (j : Int) = true
   ·rw [if_pos g, if_pos g, qk9 hl (by omega) ha]
   ·rw [if_neg g, if_neg g, qgS h j (by omega) j (Nat.le_refl _)]
  ·have ih := qhQ (i := i) (num := num) (m := m) h k (by omega) j (by omega)
   split
   ·rw [qh8 hl (by omega) ha e, ih]
   ·exact ih
theorem qjw {i : D.Ins} {num m : Int} {r : List Int} (h : r.length = 32) {j : Nat} (hj : j < 8) : M.qcc (M.qfm i num m r) j = if M.qaB m (j : Int) = true then M.apply i (num * 8 + (j : Int)) (M.qcc r j) else M.qcc r j :=
 qhQ h 8 (Nat.le_refl _) j hj
theorem qmk {r : List Int} (h : r.length = 32) {j : Nat} (hj : j < 8) {a : Int} (ha : M.qfr a = true) : rd (M.qcc r j) a = rd r ((j : Int) * 4 + a) := by
 rw [qew] at ha
 unfold M.qcc
 rw [qkS ha.1 (by omega) (by omega), show ((j * 4 : Nat) : Int) = (j : Int) * 4 by push_cast; rfl]
theorem qhj (bs : List D.Frame) (f : D.Frame) (pc : Int) : M.qcP (bs ++ [f]) pc = bs ++ [⟨pc, f.Stop, f.Mask⟩] := by
 have hl : M.qb3 (bs ++ [f]) = f := by
  unfold M.qb3
  rw [List.length_append, List.length_singleton, show (((bs.length + 1 : Nat) : Int) - 1) = (bs.length : Int) by omega, qcJ (by simp), List.getElem_append_right (Nat.le_refl _)]
  simp
 unfold M.qcP
 rw [hl, List.length_append, List.length_singleton, Nat.add_sub_cancel, List.set_append_right _ _ (Nat.le_refl _), Nat.sub_self]; rfl
theorem qlT (bs : List D.Frame) (f : D.Frame) : M.qb3 (bs ++ [f]) = f := by
 unfold M.qb3
 rw [List.length_append, List.length_singleton, show (((bs.length + 1 : Nat) : Int) - 1) = (bs.length : Int) by omega, qcJ (by simp), List.getElem_append_right (Nat.le_refl _)]
 simp
theorem qjs {fs : List D.Frame} (h : fs ≠ []) : ∃ bs, fs = bs ++ [M.qb3 fs] := by
 refine ⟨fs.dropLast, ?_⟩
 have e := (List.dropLast_concat_getLast h).symm
 have : M.qb3 fs = fs.getLast h := by
  have h2 : M.qb3 fs = M.qb3 (fs.dropLast ++ [fs.getLast h]) := by rw [← e]
  rw [h2, qlT]
 rw [this]; exact e
theorem qh2 {p : List D.Ins} {x : D.Warp} (h : M.Runs p x) : (M.qb3 x.Frames).Pc ≠ (M.qb3 x.Frames).Stop ∧ (M.qb3 x.Frames).Mask ≠ 0 := by
 obtain ⟨hp, hw, hx⟩ := h
 simp only [M.qeM, M.qcW, Bool.and_eq_true, Bool.or_eq_true] at hw
 obtain ⟨h1, h2, h3, h4, h5⟩ := hw
 have h5 := h5.resolve_left (by simpa using hx)
 have hf := List.all_eq_true.1 h4 _ (qfs hx)
 simp only [M.qgE, M.qd1, Bool.and_eq_true, decide_eq_true_eq, beq_iff_eq, bne_iff_ne] at h5 hf
 exact ⟨h5.2.1, hf.2.2.2⟩
theorem qkq {p : List D.Ins} {x : D.Warp} (h : M.Runs p x) : M.qf6 p x ∈ M.qbq p (M.qbw x) := by
 obtain ⟨t1, t2, t3, t4, t5, t6, t7, t8, t9⟩ := qdg h
 unfold M.qf6 M.qbq
 rw [if_neg (show ¬ M.qbw x = (p.length : Int) by omega), show rd p (M.qbw x) = M.qar p x from rfl]
 by_cases h12 : (M.qar p x).Op = 12
 ·rw [if_pos h12, if_pos h12]; simp
 rw [if_neg h12, if_neg h12]
 by_cases h11 : (M.qar p x).Op = 11
 ·rw [if_pos h11, if_pos h11]; simp
 rw [if_neg h11, if_neg h11]
 by_cases h10 : (M.qar p x).Op = 10
 ·rw [if_pos h10]
  split <;> (rw [qeX]; simp)
 ·rw [if_neg h10, if_neg (fun h => h10 h.1)]; simp
theorem qim {p : List D.Ins} {all : List Int} : ∀ l : List Int, M.qgu p all l ≠ -1 → all.all (M.qdP p (M.qgu p all l)) = true
 | [], h => absurd rfl h
 | y :: l, h => by
  rw [M.qgu] at h ⊢
  split at h
  ·rename_i e; rw [if_pos e]; exact e
  ·rename_i e; rw [if_neg e]; exact qim l h
theorem qmi {p : List D.Ins} {x : D.Warp} (h : M.Runs p x) (hs : M.splits p x = false) {i : Nat} (hi : i < 8) (ha : M.qaB (M.qb3 x.Frames).Mask (i : Int) = true) : M.next p (M.qbw x) (M.qcc x.Regs i) = M.qf6 p x := by
 obtain ⟨t1, t2, t3, t4, t5, t6, t7, t8, t9⟩ := qdg h
 obtain ⟨f1, f2, f3, f4, f5, f6⟩ := qf0 h
 have hact := qec h.2.2
 have e : rd p (M.qbw x) = M.qar p x := rfl
 unfold M.next M.qf6
 rw [e]
 split
 ·rfl
 split
 ·rfl
 by_cases h10 : (M.qar p x).Op = 10
 ·rw [if_pos h10]
  have hreg := qgZ t7 h10
  rw [qmk t4 hi hreg]
  have hz := qkQ (x := x) (reg := (M.qar p x).A) hi
  rw [hact] at hz
  obtain ⟨m1, m2, m3⟩ := qiB (x := x) (reg := (M.qar p x).A) (by rw [hact]; exact f5)
  by_cases hB : (M.qar p x).B = M.qbw x + 1
  ·rw [hB]; simp
  ·simp only [M.splits, h10, Bool.and_eq_false_iff, bne_eq_false_iff_eq, beq_self_eq_true, Bool.true_and] at hs
   have hs := hs.resolve_left (by simpa using hB)
   by_cases g : rd x.Regs ((i : Int) * 4 + (M.qar p x).A) = 0
   ·rw [if_pos g]
    have hzi := hz.2 ⟨ha, g⟩
    rcases hs with hs | hs
    ·rw [hs, qiD i hi] at hzi; cases hzi
    ·rw [if_pos ⟨h10, hs⟩]
   ·rw [if_neg g]
    rcases hs with hs | hs
    ·have hne : M.qbE x (M.qar p x).A ≠ (M.qb3 x.Frames).Mask := by
       rw [hs]; exact (qh2 h).2.symm
     rw [if_neg (fun h => hne h.2)]
    ·rw [← hs] at ha
     exact absurd (hz.1 ha).2 g
 ·rw [if_neg h10, if_neg (fun h => h10 h.1)]
end Go.V
namespace Go.V
open IntKind (wrap)
theorem qni {α : Type} [Inhabited α] {s t : List α} {j : Nat} (hj : j < s.length) : rd (s ++ t) (j : Int) = rd s (j : Int) := by
 rw [qcJ (by rw [List.length_append]; omega), List.getElem_append_left hj, qcJ hj]
theorem qmu {α : Type} [Inhabited α] {s t : List α} {j : Nat} (hj : j < t.length) : rd (s ++ t) ((s.length + j : Nat) : Int) = rd t (j : Int) := by
 rw [qcJ (by rw [List.length_append]; omega), List.getElem_append_right (by omega), qcJ hj]
 simp
theorem qi3 {p : List D.Ins} {l : D.Lane} {b : Nat} {i : D.Ins} (h : l.Pc = (b : Int)) (hi : rd p (b : Int) = i) (h12 : i.Op ≠ 12) (h11 : i.Op ≠ 11) (h10 : i.Op ≠ 10) : (M.step p l).Pc = ((b + 1 : Nat) : Int) ∧ (M.step p l).Regs = M.apply i l.Thread l.Regs ∧ (M.step p l).Thread = l.Thread := by
 refine ⟨?_, ?_, rfl⟩
 ·show M.next p l.Pc l.Regs = _
  unfold M.next
  rw [h, hi, if_neg h12, if_neg h11, if_neg h10]; push_cast; rfl
 ·show M.apply (rd p l.Pc) l.Thread l.Regs = _
  rw [h, hi]
theorem qiH {r : List Int} (h : r.length = 4) {a b : Nat} (ha : a < 4) (hb : b < 4) (v : Int) : rd (r.set a v) (b : Int) = if a = b then v else rd r (b : Int) := by
 rw [qcJ (by rw [List.length_set]; omega), List.getElem_set]
 split
 ·rfl
 ·rw [qcJ (by omega)]
end Go.V
namespace Go.V
open IntKind (wrap)
def sumTo (f : Nat → Nat) : Nat → Nat
 | 0 => 0
 | k + 1 => sumTo f k + f k
theorem qnb {i : Nat} (hi : i < 8) : M.qcc (List.replicate 32 (0 : Int)) i = [0, 0, 0, 0] := by
 have : i = 0 ∨ i = 1 ∨ i = 2 ∨ i = 3 ∨ i = 4 ∨ i = 5 ∨ i = 6 ∨ i = 7 := by omega
 rcases this with rfl | rfl | rfl | rfl | rfl | rfl | rfl | rfl <;> rfl
end Go.V
namespace Go.V
open IntKind (wrap)
theorem ql6 {b : List Int} (h : M.Long b) {k n : Int} (h0 : 0 ≤ k) (hk : k < 12) (hn : 0 < n) : 0 ≤ Int.tmod (rd (M.qb2 b) k) n ∧ Int.tmod (rd (M.qb2 b) k) n < n := by
 have hpl : (M.qb2 b).length = 12 := qgx 12 _
 have := qiA 12 (M.qaM b) _ (qib (xs := M.qb2 b) (i := k) h0 (by omega))
 exact qku this.1 hn
end Go.V
namespace Go.V
open IntKind (wrap)
def wp.qbs (a : D.Cur) (Q : (D.Ins × D.Cur) → Prop) : Prop :=
 (M.qdE a ([13, 14, 15] : List Int) ∧ ∀ c, c = M.qap a ([13, 14, 15] : List Int) → (M.qau (⟨a.b, c.2.i, c.2.h⟩ : D.Cur) 4 ∧ ∀ d, d = M.qa0 (⟨a.b, c.2.i, c.2.h⟩ : D.Cur) 4 → (M.qau (⟨a.b, d.2.i, d.2.h⟩ : D.Cur) 4 ∧ ∀ e, e = M.qa0 (⟨a.b, d.2.i, d.2.h⟩ : D.Cur) 4 → Q ((⟨c.1, d.1, e.1, 0⟩ : D.Ins), (⟨a.b, e.2.i, e.2.h⟩ : D.Cur)))))
def wp.qaC (c : D.Cur) (Q : ((List D.Ins) × D.Cur) → Prop) : Prop :=
 (M.qau c 5 ∧ ∀ o, o = M.qa0 c 5 → qdd (σ := (List D.Ins) × Int × Int × Int × Unit) (fun (s : (List D.Ins) × Int × Int × Int × Unit) f => match s with | (d, e, p, q, _) => qa1 (decide (e > 0)) (qa1 (decide ((wrap .i64 ((d.length : Int) + 4)) ≤ 32)) ((M.qau (⟨c.b, p, q⟩ : D.Cur) 7 ∧ ∀ a, a = M.qa0 (⟨c.b, p, q⟩ : D.Cur) 7 → qa1 (a.1 == 0) (((d.length + ([(⟨16, 0, 0, 0⟩ : D.Ins)] : List D.Ins).length ≤ 17179869184) ∧ f ((d ++ ([(⟨16, 0, 0, 0⟩ : D.Ins)] : List D.Ins)), (wrap .i64 (e - 1)), a.2.i, a.2.h, ()))) (qa1 (a.1 == 1) ((M.qau (⟨c.b, a.2.i, a.2.h⟩ : D.Cur) 4 ∧ ∀ j, j = M.qa0 (⟨c.b, a.2.i, a.2.h⟩ : D.Cur) 4 → ((d.length + ([(⟨8, 0, 0, 0⟩ : D.Ins), (⟨14, 0, j.1, 0⟩ : D.Ins)] : List D.Ins).length ≤ 17179869184) ∧ f ((d ++ ([(⟨8, 0, 0, 0⟩ : D.Ins), (⟨14, 0, j.1, 0⟩ : D.Ins)] : List D.Ins)), (wrap .i64 (e - 1)), j.2.i, j.2.h, ())))) (qa1 (a.1 == 2) ((M.qdE (⟨c.b, a.2.i, a.2.h⟩ : D.Cur) ([1, 8, 31] : List Int) ∧ ∀ k, k = M.qap (⟨c.b, a.2.i, a.2.h⟩ : D.Cur) ([1, 8, 31] : List Int) → ((d.length + ([(⟨1, 1, k.1, 0⟩ : D.Ins), (⟨8, 0, 0, 0⟩ : D.Ins), (⟨3, 0, 0, 1⟩ : D.Ins), (⟨13, 2, 0, 0⟩ : D.Ins)] : List D.Ins).length ≤ 17179869184) ∧ f ((d ++ ([(⟨1, 1, k.1, 0⟩ : D.Ins), (⟨8, 0, 0, 0⟩ : D.Ins), (⟨3, 0, 0, 1⟩ : D.Ins), (⟨13, 2, 0, 0⟩ : D.Ins)] : List D.Ins)), (wrap .i64 (e - 1)), k.2.i, k.2.h, ())))) (qa1 (a.1 == 3) ((M.qau (⟨c.b, a.2.i, a.2.h⟩ : D.Cur) 8 ∧ ∀ g, g = M.qa0 (⟨c.b, a.2.i, a.2.h⟩ : D.Cur) 8 → (M.qau (⟨c.b, g.2.i, g.2.h⟩ : D.Cur) 4 ∧ ∀ l, l = M.qa0 (⟨c.b, g.2.i, g.2.h⟩ : D.Cur) 4 → ((d.length + ([(⟨1, 1, (wrap .i64 (24 + g.1)), 0⟩ : D.Ins), (⟨15, 1, l.1, 0⟩ : D.Ins)] : List D.Ins).length ≤ 17179869184) ∧ f ((d ++ ([(⟨1, 1, (wrap .i64 (24 + g.1)), 0⟩ : D.Ins), (⟨15, 1, l.1, 0⟩ : D.Ins)] : List D.Ins)), (wrap .i64 (e - 1)), l.2.i, l.2.h, ()))))) (qa1 (a.1 == 4) (qa1 (decide ((d.length : Int) < 12)) ((M.qcS (⟨c.b, a.2.i, a.2.h⟩ : D.Cur) d 1 ∧ ∀ r, r = M.qaJ (⟨c.b, a.2.i, a.2.h⟩ : D.Cur) d 1 → f (r.1, (wrap .i64 (e - 1)), r.2.i, r.2.h, ()))) (f (d, (wrap .i64 (e - 1)), a.2.i, a.2.h, ()))) (qa1 (a.1 == 5) ((M.qex (⟨c.b, a.2.i, a.2.h⟩ : D.Cur) ∧ ∀ m, m = M.qbs (⟨c.b, a.2.i, a.2.h⟩ : D.Cur) → ((d.length + ([m.1] : List D.Ins).length ≤ 17179869184) ∧ f ((d ++ ([m.1] : List D.Ins)), (wrap .i64 (e - 1)), m.2.i, m.2.h, ())))) ((M.qe1 (⟨c.b, a.2.i, a.2.h⟩ : D.Cur) ∧ ∀ n, n = M.qaq (⟨c.b, a.2.i, a.2.h⟩ : D.Cur) → ((d.length + ([n.1] : List D.Ins).length ≤ 17179869184) ∧ f ((d ++ ([n.1] : List D.Ins)), (wrap .i64 (e - 1)), n.2.i, n.2.h, ()))))))))))) (Q (d, (⟨c.b, p, q⟩ : D.Cur)))) (Q (d, (⟨c.b, p, q⟩ : D.Cur)))) (([(⟨8, 0, 0, 0⟩ : D.Ins)] : List D.Ins), (wrap .i64 (1 + o.1)), o.2.i, o.2.h, ()))
def wp.qbH (b : List Int) (Q : (List D.Ins) → Prop) : Prop :=
 (M.qez b ∧ ∀ a, a = M.qaM b → (M.qen (⟨b, a.i, a.h⟩ : D.Cur) ∧ ∀ c, c = M.qaC (⟨b, a.i, a.h⟩ : D.Cur) → Q c.1))
end Go.V
namespace Go.V
open IntKind (wrap)
theorem wp.qbs.math (c : D.Cur) (h : M.qex c) : wp.qbs c (fun r => r = M.qbs c) := by
 have h : M.qdv c := h
 refine ⟨⟨h, by simp, by simp⟩, fun r hr => ?_⟩
 subst hr
 have c1 := qkL h [13, 14, 15]
 have b1 := qlI c [13, 14, 15]
 rw [qcL b1]
 refine ⟨c1, fun r hr => ?_⟩
 subst hr
 have b2 := (qcq (M.qap c [13, 14, 15]).2 4).trans b1
 rw [qcL b2]
 refine ⟨qbP c1 4, fun r hr => ?_⟩
 subst hr
 rw [qcL ((qcq _ 4).trans b2)]; rfl
def itP : Nat → D.Cur → List D.Ins → List D.Ins × D.Cur
 | 0, c, p => (p, c)
 | k + 1, c, p => M.qfi (itP k c p).2 (itP k c p).1
theorem wp.qaC.math (c : D.Cur) (h : M.qen c) : wp.qaC c (fun r => r = M.qaC c) := by
 have h : M.qdv c := h
 unfold wp.qaC
 refine ⟨h, fun r0 g0 => ?_⟩
 subst g0
 have hb := qd5 c (n := 5) (by omega)
 have hc0 := qbP h 5
 have hb0 := qcq c 5
 rw [w64 (x := 1 + (M.qa0 c 5).1) (by omega) (by omega)]
 show qdd _ _
 have eM : M.qaC c = M.qgR (1 + (M.qa0 c 5).1).toNat (M.qa0 c 5).2 [⟨8, 0, 0, 0⟩] := rfl
 rw [eM]
 obtain ⟨n, hn⟩ := Int.eq_ofNat_of_zero_le (show 0 ≤ 1 + (M.qa0 c 5).1 by omega)
 have hnb : n ≤ 5 := by omega
 generalize (M.qa0 c 5).2 = c0 at *
 rw [hn, Int.toNat_natCast]
 refine qdl n (fun k => ((itP k c0 [⟨8, 0, 0, 0⟩]).1, ((n : Int) - (k : Int)), (itP k c0 [⟨8, 0, 0, 0⟩]).2.i, (itP k c0 [⟨8, 0, 0, 0⟩]).2.h, ()))
  (fun k => M.qdv (itP k c0 [⟨8, 0, 0, 0⟩]).2 ∧ (itP k c0 [⟨8, 0, 0, 0⟩]).2.b = c.b ∧ (itP k c0 [⟨8, 0, 0, 0⟩]).1.length ≤ 32 ∧ (k ≤ n → M.qgR n c0 [⟨8, 0, 0, 0⟩] = M.qgR (n - k) (itP k c0 [⟨8, 0, 0, 0⟩]).2 (itP k c0 [⟨8, 0, 0, 0⟩]).1))
  (by simp [itP]) ⟨hc0, hb0, by simp [itP], fun _ => rfl⟩ (fun k hk hF next hnx => ?_) fun hF next => ?_
 ·obtain ⟨f1, f2, fl, f3⟩ := hF
  have f3 := f3 (by omega)
  have it : itP (k + 1) c0 [⟨8, 0, 0, 0⟩] = M.qfi (itP k c0 [⟨8, 0, 0, 0⟩]).2 (itP k c0 [⟨8, 0, 0, 0⟩]).1 := rfl
  rw [it] at hnx
  generalize itP k c0 [⟨8, 0, 0, 0⟩] = y at *
  obtain ⟨q, e⟩ := y
  dsimp only at *
  rw [w64 (x := (q.length : Int) + 4) (by omega) (by omega)]
  refine qb1 (by simp; omega) (qa3 (fun g => ?_) fun g => ?_)
  ·have g : (q.length : Int) + 4 ≤ 32 := by simpa using g
   obtain ⟨k1, k2, s, k3, k4, k5⟩ := qh0 f1 (p := q) (by omega)
   have ew : wrap .i64 ((n : Int) - (k : Int) - 1) = (n : Int) - ((k + 1 : Nat) : Int) := by rw [w64 (by omega) (by omega)]; omega
   have fin : ∀ P c', M.qfi e q = (P, c') → next (P, wrap .i64 ((n : Int) - (k : Int) - 1), c'.i, c'.h, ()) := fun P c' hE => by
    rw [ew]
    have := hnx ⟨k1, k2.trans f2, by rw [k3, List.length_append]; exact k5, fun _ => ?_⟩
    ·rw [hE] at this; exact this
    ·rw [f3, show n - k = (n - (k + 1)) + 1 by omega, M.qgR, if_pos g]
   rw [qcL f2]
   refine ⟨f1, fun r5 g5 => ?_⟩
   subst g5
   have c5 := qbP f1 7
   have b5 : (M.qa0 e 7).2.b = c.b := (qcq e 7).trans f2
   simp only [qcL b5]
   have hb5 := qd5 e (n := 7) (by omega)
   have fin2 := fin
   unfold M.qfi at fin2
   generalize (M.qa0 e 7).1 = d at *
   generalize (M.qa0 e 7).2 = e5 at *
   refine qa3 (fun d0 => ?_) fun d0 => qa3 (fun d1 => ?_) fun d1 => qa3 (fun d2 => ?_) fun d2 => qa3 (fun d3 => ?_) fun d3 => qa3 (fun d4 => ?_) fun d4 => qa3 (fun d5 => ?_) fun d5 => ?_
   ·have d0 : d = 0 := by simpa using d0
    exact ⟨by simp; omega, fin2 _ _ (by rw [if_pos d0])⟩
   ·have d0 : ¬ d = 0 := by simpa using d0
    have d1 : d = 1 := by simpa using d1
    refine ⟨c5, fun r hr => ?_⟩
    subst hr
    exact ⟨by simp; omega, fin2 _ _ (by rw [if_neg d0, if_pos d1]; rfl)⟩
   ·have d0 : ¬ d = 0 := by simpa using d0
    have d1 : ¬ d = 1 := by simpa using d1
    have d2 : d = 2 := by simpa using d2
    refine ⟨⟨c5, by simp, by simp⟩, fun r hr => ?_⟩
    subst hr
    exact ⟨by simp; omega, fin2 _ _ (by rw [if_neg d0, if_neg d1, if_pos d2]; rfl)⟩
   ·have d0 : ¬ d = 0 := by simpa using d0
    have d1 : ¬ d = 1 := by simpa using d1
    have d2 : ¬ d = 2 := by simpa using d2
    have d3 : d = 3 := by simpa using d3
    refine ⟨c5, fun r hr => ?_⟩
    subst hr
    have h8 := qd5 e5 (n := 8) (by omega)
    rw [qcL ((qcq e5 8).trans b5), w64 (x := 24 + (M.qa0 e5 8).1) (by omega) (by omega)]
    refine ⟨qbP c5 8, fun r hr => ?_⟩
    subst hr
    exact ⟨by simp; omega, fin2 _ _ (by rw [if_neg d0, if_neg d1, if_neg d2, if_pos d3]; rfl)⟩
   ·have d0 : ¬ d = 0 := by simpa using d0
    have d1 : ¬ d = 1 := by simpa using d1
    have d2 : ¬ d = 2 := by simpa using d2
    have d3 : ¬ d = 3 := by simpa using d3
    have d4 : d = 4 := by simpa using d4
    rw [if_neg d0, if_neg d1, if_neg d2, if_neg d3, if_pos d4] at fin2
    refine qa3 (fun l12 => ⟨⟨c5, by simp at l12; omega, by omega, by omega⟩, fun r hr => ?_⟩) fun l12 => ?_
    ·have l12 : (q.length : Int) < 12 := by simpa using l12
     rw [if_pos l12] at fin2
     exact fin2 _ _ (by rw [hr]; rfl)
    ·have l12 : ¬ (q.length : Int) < 12 := by simpa using l12
     rw [if_neg l12] at fin2
     exact fin2 _ _ rfl
   ·have d0 : ¬ d = 0 := by simpa using d0
    have d1 : ¬ d = 1 := by simpa using d1
    have d2 : ¬ d = 2 := by simpa using d2
    have d3 : ¬ d = 3 := by simpa using d3
    have d4 : ¬ d = 4 := by simpa using d4
    have d5 : d = 5 := by simpa using d5
    refine ⟨c5, fun r hr => ?_⟩
    subst hr
    exact ⟨by simp; omega, fin2 _ _ (by rw [if_neg d0, if_neg d1, if_neg d2, if_neg d3, if_neg d4, if_pos d5])⟩
   ·have d0 : ¬ d = 0 := by simpa using d0
    have d1 : ¬ d = 1 := by simpa using d1
    have d2 : ¬ d = 2 := by simpa using d2
    have d3 : ¬ d = 3 := by simpa using d3
    have d4 : ¬ d = 4 := by simpa using d4
    have d5 : ¬ d = 5 := by simpa using d5
    refine ⟨c5, fun r hr => ?_⟩
    subst hr
    exact ⟨by simp; omega, fin2 _ _ (by rw [if_neg d0, if_neg d1, if_neg d2, if_neg d3, if_neg d4, if_neg d5])⟩
  ·have g : ¬ (q.length : Int) + 4 ≤ 32 := by simpa using g
   rw [f3, show n - k = (n - (k + 1)) + 1 by omega, M.qgR, if_neg g, qcL f2]
 ·obtain ⟨f1, f2, fl, f3⟩ := hF
  refine qb8 (by simp) ?_
  rw [f3 (Nat.le_refl _), Nat.sub_self, qcL f2]; rfl
theorem wp.qbH.math (b : List Int) (h : M.qe7 b) : wp.qbH b (fun r => r = M.qbH b) := by
 have hn := qkX h
 refine ⟨h, fun r hr => ?_⟩
 have e : (⟨b, r.i, r.h⟩ : D.Cur) = M.qaM b := by subst hr; rfl
 rw [e]
 refine ⟨hn, fun r2 hr2 => ?_⟩
 subst hr2; rfl
theorem qiI {p : List D.Ins} (hp : M.qat p = true) {c : Int} (hc : 1 ≤ c ∧ c ≤ 3) : M.qcH (M.qbt p c) = true ∧ ((M.qbt p c).Warps.length : Int) = c := by
 have hlen : ((M.qbt p c).Warps.length : Int) = c := by simp [M.qbt]; omega
 have hz : M.qbo (List.replicate 32 0) = true := by rfl
 have hat : ∀ k : Nat, k ≤ 2 → M.qfD p k (M.qct p (k : Int)) = true := fun k hk => by
  unfold M.qfD
  rw [(qk1 hp (w := (k : Int)) (by simp only [M.isIn, Bool.and_eq_true, decide_eq_true_eq]; omega)).2]
  simp [M.qct]
 have h0 := hat 0 (by omega)
 have h1 := hat 1 (by omega)
 have h2 := hat 2 (by omega)
 refine ⟨?_, hlen⟩
 have : c = 1 ∨ c = 2 ∨ c = 3 := by omega
 unfold M.qcH
 have e1 : (M.qbt p c).Code = p := rfl
 have e2 : (M.qbt p c).Memory = List.replicate 32 0 := rfl
 have e3 : (M.qbt p c).Waiting = 0 := rfl
 have e4 : (M.qbt p c).Phase = 0 := rfl
 rw [e1, e2, e3, e4, hp, hz]
 rcases this with rfl | rfl | rfl
 ·have e5 : (M.qbt p 1).Warps = [M.qct p ((0 : Nat) : Int)] := rfl
  rw [e5]
  have : M.qcA p 0 [M.qct p ((0 : Nat) : Int)] = true := by simp only [M.qcA, h0]; rfl
  rw [this]; rfl
 ·have e5 : (M.qbt p 2).Warps = [M.qct p ((0 : Nat) : Int), M.qct p ((1 : Nat) : Int)] := rfl
  rw [e5]
  have : M.qcA p 0 [M.qct p ((0 : Nat) : Int), M.qct p ((1 : Nat) : Int)] = true := by simp only [M.qcA, h0, h1, Nat.zero_add]; rfl
  rw [this]; rfl
 ·have e5 : (M.qbt p 3).Warps = [M.qct p ((0 : Nat) : Int), M.qct p ((1 : Nat) : Int), M.qct p ((2 : Nat) : Int)] := rfl
  rw [e5]
  have : M.qcA p 0 [M.qct p ((0 : Nat) : Int), M.qct p ((1 : Nat) : Int), M.qct p ((2 : Nat) : Int)] = true := by simp only [M.qcA, h0, h1, h2, Nat.zero_add]; rfl
  rw [this]; rfl
end Go.V
namespace Go.V
open IntKind (wrap)
def qiR (i : D.Ins) : Prop := 0 ≤ i.A ∧ i.A ≤ 3 ∧ 0 ≤ i.B ∧ i.B ≤ 3
structure qjp (s : List Int × List Int) : Prop where
 l1 : s.1.length = 32
 w1 : s.1.all M.isWord = true
 l2 : s.2.length = 32
 w2 : s.2.all M.isWord = true
theorem qkx {α : Type} {p : α → Bool} {l : List α} {k : Nat} {y : α} (h : l.all p = true) (hy : p y = true) : (l.set k y).all p = true := by
 rw [List.all_eq_true] at *
 intro x hx
 rcases List.mem_or_eq_of_mem_set hx with h1 | h1
 ·exact h _ h1
 ·rw [h1]; exact hy
theorem qi4 {p : Int → Bool} {l : List Int} (h : l.all p = true) {z : Int} (h0 : 0 ≤ z) (h1 : z < (l.length : Int)) : p (rd l z) = true := List.all_eq_true.1 h _ (qib h0 h1)
theorem qne {x : Int} (h : M.isWord x = true) : 0 ≤ x ∧ x ≤ 65535 := by
 simpa only [M.isWord, M.isIn, Bool.and_eq_true, decide_eq_true_eq] using h
theorem qkH {x : Int} (h : M.isWord x = true) : 0 ≤ Int.tmod x 32 ∧ Int.tmod x 32 < 32 := qfT (qne h).1 (by omega)
theorem qjc {i : D.Ins} {s : List Int × List Int} {k : Int} (hi : qiR i) (hs : qjp s) (h0 : 0 ≤ k) (hk : k ≤ 7) : qjp (M.qeT i s k) := by
 obtain ⟨a0, a1, b0, b1⟩ := hi
 obtain ⟨l1, w1, l2, w2⟩ := hs
 have wA := qi4 w1 (z := k * 4 + i.A) (by omega) (by omega)
 have wB := qi4 w1 (z := k * 4 + i.B) (by omega) (by omega)
 have pB := qkH wB
 unfold M.qeT
 split
 ·exact ⟨by simpa using l1, qkx w1 (qi4 w2 pB.1 (by omega)), l2, w2⟩
 ·split
  ·exact ⟨l1, w1, by simpa using l2, qkx w2 wB⟩
  ·split
   ·exact ⟨l1, w1, by simpa using l2, qkx w2 (qki _ _)⟩
   ·exact ⟨l1, w1, l2, w2⟩
theorem qjk {i : D.Ins} {m : Int} {s : List Int × List Int} (hi : qiR i) (hs : qjp s) : ∀ k : Nat, k ≤ 8 → qjp (M.qjK i m s k)
 | 0, _ => hs
 | k + 1, hk => by
  unfold M.qjK
  split
  ·exact qjc hi (qjk hi hs k (by omega)) (by omega) (by omega)
  ·exact qjk hi hs k (by omega)
theorem qlN {i : D.Ins} {m : Int} {s : List Int × List Int} : M.qjK i m s 8 = (M.qdX m).foldl (M.qeT i) s := by
 have key : ∀ k : Nat, (List.range k).foldl (fun acc (j : Nat) => if M.qaB m (j : Int) = true then M.qeT i acc (j : Int) else acc) s = M.qjK i m s k := by
  intro k
  induction k with
  | zero => rfl
  | succ k ih =>
   rw [List.range_succ, List.foldl_append, ih]
   simp only [List.foldl_cons, List.foldl_nil, M.qjK]
 rw [← key 8]
 unfold M.qdX
 rw [List.foldl_filter]
 rfl
theorem qlQ {i : D.Ins} (hi : qiR i) : ∀ (l : List Int) (s : List Int × List Int), qjp s → (∀ k ∈ l, 0 ≤ k ∧ k ≤ 7) → qjp (l.foldl (M.qeT i) s)
 | [], s, h, _ => h
 | k :: l, s, h, hl => by
  simp only [List.foldl_cons]
  obtain ⟨h0, h7⟩ := hl k List.mem_cons_self
  exact qlQ hi l _ (qjc hi h h0 h7) fun j hj => hl j (List.mem_cons_of_mem _ hj)
theorem qno {i : D.Ins} {n : Int} (h : M.qcM i n = true) (hl : M.qbu i = false) : qiR i ∧ (i.Op = 13 ∨ i.Op = 14 ∨ i.Op = 15 ∨ i.Op = 16) := by
 have hl' : ¬ (0 ≤ i.Op ∧ i.Op ≤ 12) := by
  intro hc
  rw [show M.qbu i = true by simp only [M.qbu, M.isIn, Bool.and_eq_true, decide_eq_true_eq]; exact hc] at hl
  cases hl
 unfold M.qcM at h
 rw [Bool.and_eq_true] at h
 have h := h.2
 unfold qiR
 split at h
 ·rename_i e
  simp only [Bool.and_eq_true, beq_iff_eq] at h
  refine ⟨by omega, by omega⟩
 ·split at h
  ·omega
  ·split at h
   ·rename_i e
    simp only [M.qfr, M.isIn, Bool.and_eq_true, beq_iff_eq, decide_eq_true_eq] at h
    refine ⟨by omega, by omega⟩
   ·split at h
    ·omega
    ·split at h
     ·omega
     ·split at h
      ·omega
      ·simp only [M.isIn, Bool.and_eq_true, decide_eq_true_eq] at h
       omega
theorem qh7 {b : D.Block} (h : M.qcH b = true) : b.Memory.length = 32 ∧ b.Memory.all M.isWord = true := by
 simp only [M.qcH, M.qbo, Bool.and_eq_true, beq_iff_eq] at h
 exact h.2.2.1
theorem qkP {b : D.Block} {w : Int} (h : M.Live b w) : qjp ((rd b.Warps w).Regs, b.Memory) := by
 have hr := qg4 h.1 h.2
 exact ⟨(qdg hr).2.2.2.1, (qf0 hr).2.2.2.2.2, (qh7 (qdq h.1).2.2.2.2.2).1, (qh7 (qdq h.1).2.2.2.2.2).2⟩
theorem qkZ {b : D.Block} {w : Int} (h : M.Live b w) (hl : M.qbu (M.qcZ b w) = false) : qiR (M.qcZ b w) ∧ ((M.qcZ b w).Op = 13 ∨ (M.qcZ b w).Op = 14 ∨ (M.qcZ b w).Op = 15 ∨ (M.qcZ b w).Op = 16) :=
 qno (qdg (qg4 h.1 h.2)).2.2.2.2.2.2.1 hl
theorem ql0 (x : Int) : qds .i64 x 1 = x % 2 := by
 unfold qds
 have e1 : (BitVec.ofInt (IntKind.bits .i64) x &&& BitVec.ofInt (IntKind.bits .i64) 1).toNat = (x % 2).toNat := by
  show (BitVec.ofInt 64 x &&& BitVec.ofInt 64 1).toNat = _
  rw [BitVec.toNat_and, BitVec.toNat_ofInt, show (BitVec.ofInt 64 1).toNat = 2 ^ 1 - 1 from rfl, Nat.and_two_pow_sub_one_eq_mod]
  rw [show ((2 ^ 64 : Nat) : Int) = 18446744073709551616 from rfl]
  omega
 rw [e1, w64 (by omega) (by omega)]
 omega
theorem qmI : ((List.range 8).all fun a => (List.range 4).all fun n => (List.range 3).all fun k => !(decide (1 ≤ n) && (decide (k < n) && decide (a < 2 ^ n))) || (decide (0 ≤ qgD .i64 ((a : Nat) : Int) (M.qi8 ((k : Nat) : Int))) && decide (qgD .i64 ((a : Nat) : Int) (M.qi8 ((k : Nat) : Int)) < 2 ^ n))) = true := by kernel_rfl
theorem qll : ((List.range 4).all fun n => (List.range 3).all fun k => !decide (k < n) || (Int.fdiv (((2 ^ n - 1 : Nat)) : Int) (2 ^ (min (((k : Nat) : Int).toNat) (IntKind.bits .i64))) % 2 == 1)) = true := by kernel_rfl
theorem qjn : ((List.range 4).all fun n => n == 0 || (M.qgd n == (2 : Int) ^ n - 2)) = true := by kernel_rfl
theorem qhw {n : Nat} (h1 : 1 ≤ n) (h3 : n ≤ 3) : M.qgd n = (2 : Int) ^ n - 2 := by
 have := List.all_eq_true.1 qjn n (List.mem_range.2 (by omega))
 simp only [Bool.or_eq_true, beq_iff_eq] at this
 exact this.resolve_left (by omega)
theorem qo7 {a : Int} {n k : Nat} (h1 : 1 ≤ n) (h3 : n ≤ 3) (hk : k < n) (h0 : 0 ≤ a) (ha : a ≤ M.qgd n) : 0 ≤ qgD .i64 a (M.qi8 (k : Int)) ∧ qgD .i64 a (M.qi8 (k : Int)) < (2 : Int) ^ n := by
 rw [qhw h1 h3] at ha
 have hp : (2 : Int) ^ n ≤ 8 := by rcases (by omega : n = 1 ∨ n = 2 ∨ n = 3) with rfl | rfl | rfl <;> decide
 obtain ⟨m, rfl⟩ := Int.eq_ofNat_of_zero_le h0
 have hm : m < 2 ^ n := by have : ((m : Nat) : Int) < ((2 ^ n : Nat) : Int) := by push_cast; omega
                           omega
 have := List.all_eq_true.1 (List.all_eq_true.1 (List.all_eq_true.1 qmI m (List.mem_range.2 (by omega))) n (List.mem_range.2 (by omega))) k (List.mem_range.2 (by omega))
 simp only [Bool.or_eq_true, Bool.not_eq_true', Bool.and_eq_true, Bool.and_eq_false_iff, decide_eq_true_eq, decide_eq_false_iff_not] at this
 refine this.resolve_left fun hc => ?_
 rcases hc with hc | hc | hc
 ·exact hc h1
 ·exact hc hk
 ·exact hc hm
theorem qlk {b : D.Block} {n k : Nat} (h3 : n ≤ 3) (hk : k < n) (h : b.Waiting = (2 : Int) ^ n - 1) : M.waits b (k : Int) = true := by
 unfold M.waits
 rw [ql0, beq_iff_eq, h]
 have := List.all_eq_true.1 (List.all_eq_true.1 qll n (List.mem_range.2 (by omega))) k (List.mem_range.2 (by omega))
 simp only [Bool.or_eq_true, Bool.not_eq_true', decide_eq_false_iff_not, beq_iff_eq] at this
 have := this.resolve_left (by omega)
 have e : (((2 ^ n - 1 : Nat)) : Int) = (2 : Int) ^ n - 1 := by rcases (by omega : n = 0 ∨ n = 1 ∨ n = 2 ∨ n = 3) with rfl | rfl | rfl | rfl <;> rfl
 rw [← e]
 exact this
theorem qhK {b : D.Block} {k : Nat} (h : M.qeq b k = false) : ∀ n, k ≤ n → M.qeq b n = false
 | 0, hn => by rw [Nat.le_zero.1 hn] at h; exact h
 | n + 1, hn => by
  by_cases e : k = n + 1
  ·rw [← e]; exact h
  ·unfold M.qeq
   rw [qhK h n (by omega), Bool.false_and]
theorem qhO {b : D.Block} (h3 : b.Warps.length ≤ 3) (h : b.Waiting = (2 : Int) ^ b.Warps.length - 1) : ∀ k, k ≤ b.Warps.length → M.qeq b k = true
 | 0, _ => rfl
 | k + 1, hk => by
  unfold M.qeq
  rw [qhO h3 h k (by omega), qlk h3 (by omega) h, Bool.or_true, Bool.true_and]
theorem qgB {b : D.Block} (h : M.qcH b = true) : M.qat b.Code = true ∧ 1 ≤ b.Warps.length ∧ b.Warps.length ≤ 3 ∧ 0 ≤ b.Waiting ∧ b.Waiting ≤ M.qgd b.Warps.length ∧ 0 ≤ b.Phase ∧ b.Phase ≤ 100000 ∧ M.qcA b.Code 0 b.Warps = true := by
 simp only [M.qcH, Bool.and_eq_true, M.isIn, decide_eq_true_eq] at h
 obtain ⟨h1, h2, h3, h4, h5, h6⟩ := h
 exact ⟨h1, by omega, by omega, h4.1, h4.2, h5.1, h5.2, h6⟩
theorem qo4 {b : D.Block} (h1 : M.qat b.Code = true) (h2 : 1 ≤ b.Warps.length ∧ b.Warps.length ≤ 3) (h3 : b.Memory.length = 32 ∧ b.Memory.all M.isWord = true) (h4 : 0 ≤ b.Waiting ∧ b.Waiting ≤ M.qgd b.Warps.length) (h5 : 0 ≤ b.Phase ∧ b.Phase ≤ 100000)
    (h6 : M.qcA b.Code 0 b.Warps = true) : M.qcH b = true := by
 simp only [M.qcH, M.qbo, Bool.and_eq_true, M.isIn, decide_eq_true_eq, beq_iff_eq]
 exact ⟨h1, ⟨by omega, by omega⟩, h3, h4, h5, h6⟩
theorem qiz {p : List D.Ins} : ∀ {l : List D.Warp} {k : Nat}, M.qcA p k l = true → ∀ x ∈ l, M.qeM p x = true
 | [], _, _, _, hx => by cases hx
 | y :: l, k, h, x, hx => by
  simp only [M.qcA, M.qfD, Bool.and_eq_true] at h
  rcases List.mem_cons.1 hx with rfl | hx
  ·exact h.1.2
  ·exact qiz h.2 x hx
theorem qiM {p : List D.Ins} {y : D.Warp} : ∀ {l : List D.Warp} {k n : Nat}, M.qcA p k l = true → M.qfD p (k + n) y = true → M.qcA p k (l.set n y) = true
 | [], _, _, h, _ => by simp [M.qcA]
 | x :: l, k, 0, h, hy => by
  simp only [M.qcA, Bool.and_eq_true] at h
  simp only [List.set_cons_zero, M.qcA, Bool.and_eq_true]
  exact ⟨hy, h.2⟩
 | x :: l, k, n + 1, h, hy => by
  simp only [M.qcA, Bool.and_eq_true] at h
  simp only [List.set_cons_succ, M.qcA, Bool.and_eq_true]
  exact ⟨h.1, qiM h.2 (by rw [show k + 1 + n = k + (n + 1) by omega]; exact hy)⟩
theorem qjt {b : D.Block} (h : M.qcH b = true) : M.qlE b := by
 obtain ⟨h1, h2, h3, _, _, _, _, h8⟩ := qgB h
 refine ⟨by have := qj2 h1; omega, ⟨by omega, fun x hx => ?_⟩, by have := (qh7 h).1; omega⟩
 have := qlu (x := x) ⟨h1, qiz h8 x hx⟩
 unfold M.qlb; omega
theorem qlG {p : List D.Ins} {x : D.Warp} {rg : List Int} (h : M.Runs p x) (hl : rg.length = 32) (hw : rg.all M.isWord = true) : M.Runs p ⟨x.Number, x.Frames, rg⟩ := by
 obtain ⟨h1, h2, h3⟩ := h
 refine ⟨h1, ?_, h3⟩
 simp only [M.qeM, Bool.and_eq_true, beq_iff_eq] at h2 ⊢
 exact ⟨h2.1, hl, hw, h2.2.2.2⟩
theorem qlF {p : List D.Ins} {x : D.Warp} (h : M.Runs p x) : M.Fine p (M.qgf p x) := by
 obtain ⟨t1, t2, t3, t4, t5, t6, t7, t8, t9⟩ := qdg h
 obtain ⟨f1, f2, f3, f4, f5, f6⟩ := qf0 h
 have hx := h.2.2
 refine ⟨h.1, ?_⟩
 simp only [M.qgf, M.qeM, M.qgG, Bool.and_eq_true, beq_iff_eq]
 refine ⟨by simp only [M.isIn, Bool.and_eq_true, decide_eq_true_eq]; exact ⟨t8, t9⟩, t4, f6, qjN (qhz f1 hx ⟨by omega, by omega⟩) (by simp only [M.qcP, List.length_set]; exact f2) fun _ => ?_⟩
 rw [(qgn hx _).1, (qgn hx _).2]
 exact ⟨f3, f4⟩
theorem qg6 {b : D.Block} {w : Int} (h : M.qhs b w) : M.Live b w ∧ M.waits b w = false ∧ (M.qbu (M.qcZ b w) = true → M.Goes b.Code (rd b.Warps w)) := by
 obtain ⟨hh, hg⟩ := h
 simp only [M.qf8, Bool.and_eq_true, Bool.not_eq_true'] at hg
 obtain ⟨g1, g2, g3⟩ := hg
 have hx : (rd b.Warps w).Frames ≠ [] := by simpa using g1
 refine ⟨⟨hh, hx⟩, g2, fun hl => ⟨qg4 hh hx, ?_⟩⟩
 have hl : M.qbu (M.qar b.Code (rd b.Warps w)) = true := hl
 rw [if_pos hl] at g3
 simp only [M.qca, g1, hl, g3, Bool.not_false, Bool.and_self]
theorem qke (p : List D.Ins) (x : D.Warp) : (M.stepW p x).Number = x.Number := by
 unfold M.stepW M.qgG
 split <;> rfl
theorem qgT {b : D.Block} {w : Int} {i : D.Ins} (h0 : 0 ≤ w) (h1 : w < (b.Warps.length : Int)) : rd (M.qd2 b w i).Warps w = ⟨(rd b.Warps w).Number, (rd b.Warps w).Frames, (M.qhJ i (rd b.Warps w) b.Memory).1⟩ := by
 unfold M.qd2
 exact qn8 h0 (by simpa using h1)
theorem qii {b : D.Block} {w : Int} (h : M.Live b w) (hl : M.qbu (M.qcZ b w) = false) : qjp (M.qhJ (M.qcZ b w) (rd b.Warps w) b.Memory) := qjk (qkZ h hl).1 (qkP h) 8 (Nat.le_refl _)
def actW (b : D.Block) (w : Int) : D.Warp := if M.qbu (M.qcZ b w) then M.stepW b.Code (rd b.Warps w) else M.qgf b.Code (rd (M.qd2 b w (M.qcZ b w)).Warps w)
theorem qgy (b : D.Block) (w : Int) : (M.actB b w).Warps = b.Warps.set w.toNat (actW b w) := by
 unfold M.actB actW
 split <;> rfl
theorem qnw {b : D.Block} {w : Int} (h : M.qhs b w) : M.Fine b.Code (actW b w) ∧ (actW b w).Number = w := by
 obtain ⟨hv, _, hg⟩ := qg6 h
 obtain ⟨h0, h1, hp, hw, hn, hok⟩ := qdq hv.1
 unfold actW
 split
 ·rename_i e; exact ⟨qlv (hg e), by rw [qke, hn]⟩
 ·rename_i e
  have e := Bool.eq_false_iff.2 e
  rw [qgT h0 h1]
  have hm := qii hv e
  exact ⟨qlF (qlG (qg4 hv.1 hv.2) hm.l1 hm.w1), hn⟩
theorem qmK (b : D.Block) (w : Int) : (⟨b.Code, (M.actB b w).Warps, (M.actB b w).Memory, (M.actB b w).Waiting, (M.actB b w).Phase⟩ : D.Block) = M.actB b w := by
 unfold M.actB
 split <;> rfl
theorem qjQ (b : D.Block) (w : Int) : (M.actB b w).Code = b.Code := by unfold M.actB; split <;> rfl
theorem qhe (b : D.Block) (w : Int) : (M.actB b w).Phase = b.Phase := by unfold M.actB; split <;> rfl
theorem qjD (b : D.Block) (w : Int) : (M.actB b w).Warps.length = b.Warps.length := by rw [qgy, List.length_set]
theorem qmF {b : D.Block} {w : Int} (h : M.qhs b w) : (M.actB b w).Memory.length = 32 ∧ (M.actB b w).Memory.all M.isWord = true := by
 obtain ⟨hv, _, hg⟩ := qg6 h
 unfold M.actB
 split
 ·have := qh7 (qdq hv.1).2.2.2.2.2; exact this
 ·rename_i e
  have hm := qii hv (Bool.eq_false_iff.2 e)
  exact ⟨hm.l2, hm.w2⟩
theorem qmf {b : D.Block} {w : Int} (h : M.qhs b w) : 0 ≤ (M.actB b w).Waiting ∧ (M.actB b w).Waiting < (2 : Int) ^ b.Warps.length := by
 obtain ⟨hv, _, hg⟩ := qg6 h
 obtain ⟨h0, h1, hp, hw, hn, hok⟩ := qdq hv.1
 obtain ⟨p1, p2, p3, p4, p5, p6, p7, p8⟩ := qgB hok
 have hb : b.Waiting < (2 : Int) ^ b.Warps.length := by rw [qhw p2 p3] at p5; omega
 obtain ⟨k, rfl⟩ := Int.eq_ofNat_of_zero_le h0
 unfold M.actB
 split
 ·exact ⟨p4, hb⟩
 ·show 0 ≤ (if (M.qcZ b (k : Int)).Op = 16 then qgD .i64 b.Waiting (M.qi8 (k : Int)) else b.Waiting) ∧ (if (M.qcZ b (k : Int)).Op = 16 then qgD .i64 b.Waiting (M.qi8 (k : Int)) else b.Waiting) < _
  split
  ·exact qo7 p2 p3 (by omega) p4 p5
  ·exact ⟨p4, hb⟩
theorem qjL {b : D.Block} {w : Int} (h : M.qhs b w) : M.qcA b.Code 0 (M.actB b w).Warps = true := by
 obtain ⟨hv, _, hg⟩ := qg6 h
 obtain ⟨h0, h1, hp, hw, hn, hok⟩ := qdq hv.1
 obtain ⟨q1, q2⟩ := qnw h
 rw [qgy]
 refine qiM (qgB hok).2.2.2.2.2.2.2 ?_
 simp only [M.qfD, Bool.and_eq_true, beq_iff_eq]
 exact ⟨by rw [q2]; omega, q1.2⟩
theorem qfn (b : D.Block) (w : Int) : (M.qf5 b w).Code = b.Code := by unfold M.qf5 M.qh3; split <;> exact qjQ b w
theorem qfR (b : D.Block) (w : Int) : (M.qf5 b w).Warps = b.Warps.set w.toNat (actW b w) := by unfold M.qf5 M.qh3; split <;> exact qgy b w
theorem qma (b : D.Block) (w : Int) : (M.qf5 b w).Memory = (M.actB b w).Memory := by unfold M.qf5 M.qh3; split <;> rfl
theorem qg3 (b : D.Block) (w : Int) : (M.qf5 b w).Phase = b.Phase ∨ (M.qf5 b w).Phase = b.Phase + 1 := by
 unfold M.qf5 M.qh3
 split
 ·right; show (M.actB b w).Phase + 1 = _; rw [qhe]
 ·left; exact qhe b w
theorem ql8 {b : D.Block} {w : Int} (h : M.qhs b w) (hp : (M.qf5 b w).Phase ≤ 100000) : M.qcH (M.qf5 b w) = true := by
 obtain ⟨hv, _, hg⟩ := qg6 h
 obtain ⟨h0, h1, hpr, hw, hn, hok⟩ := qdq hv.1
 obtain ⟨p1, p2, p3, p4, p5, p6, p7, p8⟩ := qgB hok
 have hlen : (M.qf5 b w).Warps.length = b.Warps.length := by rw [qfR, List.length_set]
 refine qo4 (by rw [qfn]; exact p1) (by rw [hlen]; exact ⟨p2, p3⟩) (by rw [qma]; exact qmF h) ?_ ⟨by rcases qg3 b w with e | e <;> omega, hp⟩ (by rw [qfn, qfR, ← qgy]; exact qjL h)
 rw [hlen, qhw p2 p3]
 have hpos : (2 : Int) ≤ (2 : Int) ^ b.Warps.length := by rcases (by omega : b.Warps.length = 1 ∨ b.Warps.length = 2 ∨ b.Warps.length = 3) with e | e | e <;> rw [e] <;> decide
 obtain ⟨w0, w1⟩ := qmf h
 unfold M.qf5 M.qh3
 split
 ·exact ⟨Int.le_refl _, by show (0 : Int) ≤ _; omega⟩
 ·rename_i e
  refine ⟨w0, ?_⟩
  by_cases ef : (M.actB b w).Waiting = (2 : Int) ^ b.Warps.length - 1
  ·exfalso
   apply e
   unfold M.qdU
   rw [qhO (by rw [qjD]; exact p3) (by rw [qjD]; exact ef) _ (Nat.le_refl _), Bool.true_and, bne_iff_ne]
   omega
  ·omega
end Go.V
namespace Go.V
open IntKind (wrap)
theorem qnl {fs : List D.Frame} (h : fs ≠ []) (hl : fs.length ≤ 24) (h0 : 0 ≤ (M.qb3 fs).Pc) (h1 : (M.qb3 fs).Pc ≤ 32) :
    (List.set fs ((wrap .i64 ((fs.length : Int) - 1)).toNat) (⟨(wrap .i64 ((rd fs (wrap .i64 ((fs.length : Int) - 1))).Pc + 1)), (rd fs (wrap .i64 ((fs.length : Int) - 1))).Stop, (rd fs (wrap .i64 ((fs.length : Int) - 1))).Mask⟩ : D.Frame)) = M.qcP fs ((M.qb3 fs).Pc + 1) := by
 have hpos : 0 < fs.length := List.length_pos_iff.2 h
 rw [qdH (by omega), show ((fs.length : Int) - 1).toNat = fs.length - 1 by omega]
 unfold M.qcP
 have e : rd fs ((fs.length : Int) - 1) = M.qb3 fs := rfl
 rw [e, w64 (by omega) (by omega)]
end Go.V
namespace Go.V
open IntKind (wrap)
def wp.qby (g : D.Block) (c : Int) (d : D.Ins) (Q : D.Block → Prop) : Prop :=
 ((0 ≤ c ∧ c < (g.Warps.length : Int)) ∧ (M.qcs (rd g.Warps c) ∧ ∀ i, i = M.qb0 (rd g.Warps c) → (∀ b, b = M.qbM i → qdd (σ := Int × (List D.Warp) × (List Int) × Unit) (fun (k : Int × (List D.Warp) × (List Int) × Unit) h => match k with | (a, e, f, _) => qa1 (decide (a < (b.length : Int))) (((0 ≤ a ∧ a < (b.length : Int)) ∧ ((0 ≤ c ∧ c < (e.length : Int)) ∧ (M.qdc (rd e c) (rd b a) ∧ qa1 (d.Op == 13) (((0 ≤ d.B ∧ d.B < ((List.drop ((wrap .i64 ((rd b a) * 4)).toNat) (List.take ((wrap .i64 ((wrap .i64 ((rd b a) + 1)) * 4)).toNat) ((rd e c).Regs))).length : Int)) ∧ ((0 ≤ (Int.tmod (rd (List.drop ((wrap .i64 ((rd b a) * 4)).toNat) (List.take ((wrap .i64 ((wrap .i64 ((rd b a) + 1)) * 4)).toNat) ((rd e c).Regs))) d.B) 32) ∧ (Int.tmod (rd (List.drop ((wrap .i64 ((rd b a) * 4)).toNat) (List.take ((wrap .i64 ((wrap .i64 ((rd b a) + 1)) * 4)).toNat) ((rd e c).Regs))) d.B) 32) < (f.length : Int)) ∧ ((0 ≤ d.A ∧ d.A < ((List.drop ((wrap .i64 ((rd b a) * 4)).toNat) (List.take ((wrap .i64 ((wrap .i64 ((rd b a) + 1)) * 4)).toNat) ((rd e c).Regs))).length : Int)) ∧ h ((wrap .i64 (a + 1)), (List.set e (c.toNat) (⟨(rd e c).Number, (rd e c).Frames, (List.set ((rd e c).Regs) (((wrap .i64 ((rd b a) * 4)).toNat) + (d.A.toNat)) (rd f (Int.tmod (rd (List.drop ((wrap .i64 ((rd b a) * 4)).toNat) (List.take ((wrap .i64 ((wrap .i64 ((rd b a) + 1)) * 4)).toNat) ((rd e c).Regs))) d.B) 32)))⟩ : D.Warp)), f, ()))))) (qa1 (d.Op == 14) (((0 ≤ d.A ∧ d.A < ((List.drop ((wrap .i64 ((rd b a) * 4)).toNat) (List.take ((wrap .i64 ((wrap .i64 ((rd b a) + 1)) * 4)).toNat) ((rd e c).Regs))).length : Int)) ∧ ((0 ≤ d.B ∧ d.B < ((List.drop ((wrap .i64 ((rd b a) * 4)).toNat) (List.take ((wrap .i64 ((wrap .i64 ((rd b a) + 1)) * 4)).toNat) ((rd e c).Regs))).length : Int)) ∧ ((0 ≤ (Int.tmod (rd (List.drop ((wrap .i64 ((rd b a) * 4)).toNat) (List.take ((wrap .i64 ((wrap .i64 ((rd b a) + 1)) * 4)).toNat) ((rd e c).Regs))) d.A) 32) ∧ (Int.tmod (rd (List.drop ((wrap .i64 ((rd b a) * 4)).toNat) (List.take ((wrap .i64 ((wrap .i64 ((rd b a) + 1)) * 4)).toNat) ((rd e c).Regs))) d.A) 32) < (f.length : Int)) ∧ h ((wrap .i64 (a + 1)), e, (List.set f ((Int.tmod (rd (List.drop ((wrap .i64 ((rd b a) * 4)).toNat) (List.take ((wrap .i64 ((wrap .i64 ((rd b a) + 1)) * 4)).toNat) ((rd e c).Regs))) d.A) 32).toNat) (rd (List.drop ((wrap .i64 ((rd b a) * 4)).toNat) (List.take ((wrap .i64 ((wrap .i64 ((rd b a) + 1)) * 4)).toNat) ((rd e c).Regs))) d.B)), ()))))) (qa1 (d.Op == 15) (((0 ≤ d.A ∧ d.A < ((List.drop ((wrap .i64 ((rd b a) * 4)).toNat) (List.take ((wrap .i64 ((wrap .i64 ((rd b a) + 1)) * 4)).toNat) ((rd e c).Regs))).length : Int)) ∧ ((0 ≤ (Int.tmod (rd (List.drop ((wrap .i64 ((rd b a) * 4)).toNat) (List.take ((wrap .i64 ((wrap .i64 ((rd b a) + 1)) * 4)).toNat) ((rd e c).Regs))) d.A) 32) ∧ (Int.tmod (rd (List.drop ((wrap .i64 ((rd b a) * 4)).toNat) (List.take ((wrap .i64 ((wrap .i64 ((rd b a) + 1)) * 4)).toNat) ((rd e c).Regs))) d.A) 32) < (f.length : Int)) ∧ ((0 ≤ d.B ∧ d.B < ((List.drop ((wrap .i64 ((rd b a) * 4)).toNat) (List.take ((wrap .i64 ((wrap .i64 ((rd b a) + 1)) * 4)).toNat) ((rd e c).Regs))).length : Int)) ∧ (∀ j, j = M.qbG (rd f (Int.tmod (rd (List.drop ((wrap .i64 ((rd b a) * 4)).toNat) (List.take ((wrap .i64 ((wrap .i64 ((rd b a) + 1)) * 4)).toNat) ((rd e c).Regs))) d.A) 32)) (rd (List.drop ((wrap .i64 ((rd b a) * 4)).toNat) (List.take ((wrap .i64 ((wrap .i64 ((rd b a) + 1)) * 4)).toNat) ((rd e c).Regs))) d.B) → ((0 ≤ (Int.tmod (rd (List.drop ((wrap .i64 ((rd b a) * 4)).toNat) (List.take ((wrap .i64 ((wrap .i64 ((rd b a) + 1)) * 4)).toNat) ((rd e c).Regs))) d.A) 32) ∧ (Int.tmod (rd (List.drop ((wrap .i64 ((rd b a) * 4)).toNat) (List.take ((wrap .i64 ((wrap .i64 ((rd b a) + 1)) * 4)).toNat) ((rd e c).Regs))) d.A) 32) < (f.length : Int)) ∧ h ((wrap .i64 (a + 1)), e, (List.set f ((Int.tmod (rd (List.drop ((wrap .i64 ((rd b a) * 4)).toNat) (List.take ((wrap .i64 ((wrap .i64 ((rd b a) + 1)) * 4)).toNat) ((rd e c).Regs))) d.A) 32).toNat) j), ()))))))) (h ((wrap .i64 (a + 1)), e, f, ())))))))) (Q (⟨g.Code, e, f, g.Waiting, g.Phase⟩ : D.Block))) (0, g.Warps, g.Memory, ()))))
def wp.qba (c : D.Block) (a : Int) (Q : (Bool × D.Block) → Prop) : Prop :=
 (M.qcI c a ∧ ∀ g, g = M.qan c a → qfQ (σ := (List D.Warp) × Int × Int × (List Int) × Unit) (fun m => (∀ n, n = M.qbU g.1 → qa1 n (((0 ≤ a ∧ a < (c.Warps.length : Int)) ∧ ((0 ≤ a ∧ a < (c.Warps.length : Int)) ∧ (M.qeG (rd c.Warps a) c.Code ∧ ∀ k, k = M.qaZ (rd c.Warps a) c.Code → m ((List.set c.Warps (a.toNat) (⟨k.2.Number, k.2.Frames, k.2.Regs⟩ : D.Warp)), c.Waiting, c.Phase, c.Memory, ()))))) (qfQ (σ := (List D.Warp) × Int × Int × (List Int) × Unit) (fun o => qa1 (g.1.Op == 16) (((0 ≤ a) ∧ o (c.Warps, (qgD .i64 c.Waiting (wrap .i64 (1 * 2 ^ (min (a.toNat) (IntKind.bits .i64))))), c.Phase, c.Memory, ()))) ((M.qdV c a g.1 ∧ ∀ h, h = M.qby c a g.1 → o (h.Warps, h.Waiting, h.Phase, h.Memory, ())))) (fun (r : (List D.Warp) × Int × Int × (List Int) × Unit) => match r with | (b, s, t, u, _) => ((0 ≤ a ∧ a < (b.length : Int)) ∧ ((0 ≤ (wrap .i64 (((rd b a).Frames.length : Int) - 1)) ∧ (wrap .i64 (((rd b a).Frames.length : Int) - 1)) < (((rd b a).Frames).length : Int)) ∧ ((0 ≤ (wrap .i64 (((rd b a).Frames.length : Int) - 1)) ∧ (wrap .i64 (((rd b a).Frames.length : Int) - 1)) < (((rd b a).Frames).length : Int)) ∧ ((0 ≤ a ∧ a < (b.length : Int)) ∧ (M.qdh (⟨(rd b a).Number, (List.set ((rd b a).Frames) ((wrap .i64 (((rd b a).Frames.length : Int) - 1)).toNat) (⟨(wrap .i64 ((rd ((rd b a).Frames) (wrap .i64 (((rd b a).Frames.length : Int) - 1))).Pc + 1)), (rd ((rd b a).Frames) (wrap .i64 (((rd b a).Frames.length : Int) - 1))).Stop, (rd ((rd b a).Frames) (wrap .i64 (((rd b a).Frames.length : Int) - 1))).Mask⟩ : D.Frame)), (rd b a).Regs⟩ : D.Warp) (c.Code.length : Int) ∧ ∀ l, l = M.qbd (⟨(rd b a).Number, (List.set ((rd b a).Frames) ((wrap .i64 (((rd b a).Frames.length : Int) - 1)).toNat) (⟨(wrap .i64 ((rd ((rd b a).Frames) (wrap .i64 (((rd b a).Frames.length : Int) - 1))).Pc + 1)), (rd ((rd b a).Frames) (wrap .i64 (((rd b a).Frames.length : Int) - 1))).Stop, (rd ((rd b a).Frames) (wrap .i64 (((rd b a).Frames.length : Int) - 1))).Mask⟩ : D.Frame)), (rd b a).Regs⟩ : D.Warp) (c.Code.length : Int) → m ((List.set b (a.toNat) (⟨l.Number, l.Frames, (rd b a).Regs⟩ : D.Warp)), s, t, u, ())))))))))) (fun (v : (List D.Warp) × Int × Int × (List Int) × Unit) => match v with | (d, i, f, j, _) => qa1 (i == 0) (Q (true, (⟨c.Code, d, j, i, f⟩ : D.Block))) (qdd (σ := Int × Unit) (fun (w : Int × Unit) p => match w with | (e, _) => qa1 (decide (e < (d.length : Int))) (((0 ≤ e ∧ e < (d.length : Int)) ∧ (M.qdo (⟨c.Code, d, j, i, f⟩ : D.Block) e ∧ ∀ q, q = M.qbi (⟨c.Code, d, j, i, f⟩ : D.Block) e → qa1 (!q) (qa1 (decide (((rd d e).Frames.length : Int) > 0)) (Q (true, (⟨c.Code, d, j, i, f⟩ : D.Block))) (p ((wrap .i64 (e + 1)), ()))) (p ((wrap .i64 (e + 1)), ()))))) (Q ((decide ((wrap .i64 (f + 1)) ≤ 100000)), (⟨c.Code, d, j, 0, (wrap .i64 (f + 1))⟩ : D.Block)))) (0, ()))))
end Go.V
namespace Go.V
open IntKind (wrap)
theorem qjR {ws : List D.Warp} {w : Int} : ws.set w.toNat ⟨(rd ws w).Number, (rd ws w).Frames, (rd ws w).Regs⟩ = ws := qn5 ws w
theorem wp.qby.math (b : D.Block) (w : Int) (i : D.Ins) (h : M.qdV b w i) : wp.qby b w i (fun r => r = M.qby b w i) := by
 obtain ⟨hv, rfl, hl⟩ := h
 obtain ⟨h0, h1, hp, hw, hn, hok⟩ := qdq hv.1
 obtain ⟨hi, hop⟩ := qkZ hv hl
 have hlong : M.qcs (rd b.Warps w) := by
  have := (qdg (qg4 hv.1 hv.2)).2.2.1
  show _ ≤ _; omega
 refine ⟨⟨h0, h1⟩, hlong, fun r25 hr25 r30 hr30 => ?_⟩
 have hr25 : r25 = M.qbb (rd b.Warps w) := hr25
 have hr30 : r30 = M.qdX r25 := hr30
 have hmem : ∀ k ∈ r30, 0 ≤ k ∧ k ≤ 7 := fun k hk => qhc (m := r25) (hr30 ▸ hk)
 have hlen : r30.length ≤ 8 := by rw [hr30]; exact List.length_filter_le _ _
 have hs0 := qkP hv
 have hfin : M.qhJ (M.qcZ b w) (rd b.Warps w) b.Memory = r30.foldl (M.qeT (M.qcZ b w)) ((rd b.Warps w).Regs, b.Memory) := by rw [hr30, hr25]; exact qlN
 let G : Nat → List Int × List Int := fun k => (r30.take k).foldl (M.qeT (M.qcZ b w)) ((rd b.Warps w).Regs, b.Memory)
 have hG : ∀ k, qjp (G k) := fun k => qlQ hi _ _ hs0 fun j hj => hmem j (List.mem_of_mem_take hj)
 refine qdl r30.length (fun k => ((k : Int), b.Warps.set w.toNat ⟨(rd b.Warps w).Number, (rd b.Warps w).Frames, (G k).1⟩, (G k).2, ())) (fun _ => True) (by rw [show (G 0) = ((rd b.Warps w).Regs, b.Memory) from rfl, qjR]; rfl) trivial (fun k hk _ next hn => ?_) fun _ next => ?_
 ·have hn := hn trivial
  have hGk := hG k
  have hnext : G (k + 1) = M.qeT (M.qcZ b w) (G k) (rd r30 (k : Int)) := by
   show (r30.take (k + 1)).foldl _ _ = _
   rw [List.take_add_one, List.getElem?_eq_getElem hk, Option.toList_some, List.foldl_append, ← qcJ hk]
   rfl
  rw [hnext] at hn
  have hm := hmem _ (qg7 hk)
  dsimp only
  generalize G k = g at *
  generalize M.qcZ b w = i at *
  generalize rd r30 (k : Int) = l at *
  obtain ⟨l1, w1, l2, w2⟩ := hGk
  obtain ⟨a0, a1, b0, b1⟩ := hi
  have eX : rd (b.Warps.set w.toNat (⟨(rd b.Warps w).Number, (rd b.Warps w).Frames, g.1⟩ : D.Warp)) w = ⟨(rd b.Warps w).Number, (rd b.Warps w).Frames, g.1⟩ := qn8 h0 (by simpa using h1)
  have c1 : wrap .i64 (l * 4) = l * 4 := w64 (by omega) (by omega)
  have c2 : wrap .i64 ((wrap .i64 (l + 1)) * 4) = l * 4 + 4 := by rw [w64 (x := l + 1) (by omega) (by omega), w64 (by omega) (by omega)]; omega
  have hA : rd ((g.1.take (l * 4 + 4).toNat).drop (l * 4).toNat) i.A = rd g.1 (l * 4 + i.A) := by
   rw [qkS a0 (by omega) (by omega)]; congr 1; omega
  have hB : rd ((g.1.take (l * 4 + 4).toNat).drop (l * 4).toNat) i.B = rd g.1 (l * 4 + i.B) := by
   rw [qkS b0 (by omega) (by omega)]; congr 1; omega
  have hcl : ((g.1.take (l * 4 + 4).toNat).drop (l * 4).toNat).length = 4 := by simp; omega
  have wA := qkH (qi4 w1 (z := l * 4 + i.A) (by omega) (by omega))
  have wB := qkH (qi4 w1 (z := l * 4 + i.B) (by omega) (by omega))
  rw [eX]
  dsimp only
  rw [c1, c2, hA, hB, hcl, l2, up64 hk (by omega), List.length_set, show (l * 4).toNat + i.A.toNat = (l * 4 + i.A).toNat by omega, List.set_set]
  unfold M.qeT at hn
  refine qb1 (by simp; omega) ⟨⟨by omega, by omega⟩, ⟨h0, h1⟩, ⟨l1, hm⟩, qa3 (fun e1 => ?_) fun e1 => qa3 (fun e2 => ?_) fun e2 => qa3 (fun e3 => ?_) fun e3 => ?_⟩
  ·rw [if_pos (by simpa using e1)] at hn
   exact ⟨⟨by omega, by omega⟩, ⟨wB.1, by omega⟩, ⟨by omega, by omega⟩, hn⟩
  ·rw [if_neg (by simpa using e1), if_pos (by simpa using e2)] at hn
   exact ⟨⟨by omega, by omega⟩, ⟨by omega, by omega⟩, ⟨wA.1, by omega⟩, hn⟩
  ·rw [if_neg (by simpa using e1), if_neg (by simpa using e2), if_pos (by simpa using e3)] at hn
   refine ⟨⟨by omega, by omega⟩, ⟨wA.1, by omega⟩, ⟨by omega, by omega⟩, fun r2 hr2 => ⟨⟨wA.1, by omega⟩, ?_⟩⟩
   have hr2 : r2 = M.addW (rd g.2 (Int.tmod (rd g.1 (l * 4 + i.A)) 32)) (rd g.1 (l * 4 + i.B)) := hr2
   rw [hr2]; exact hn
  ·rw [if_neg (by simpa using e1), if_neg (by simpa using e2), if_neg (by simpa using e3)] at hn
   exact hn
 ·refine qb8 (by simp) ?_
  show _ = M.qd2 b w (M.qcZ b w)
  unfold M.qd2
  rw [hfin, show G r30.length = r30.foldl (M.qeT (M.qcZ b w)) ((rd b.Warps w).Regs, b.Memory) by show (r30.take r30.length).foldl _ _ = _; rw [List.take_length]]
theorem wp.qba.math (b : D.Block) (w : Int) (h : M.qeo b w) : wp.qba b w (fun r => r = M.qba b w) := by
 obtain ⟨hv, _, hg⟩ := qg6 h
 obtain ⟨h0, h1, hp, hw, hn, hok⟩ := qdq hv.1
 obtain ⟨t1, t2, t3, t4, t5, t6, t7, t8, t9⟩ := qdg (qg4 hv.1 hv.2)
 obtain ⟨p1, p2, p3, p4, p5, p6, p7, p8⟩ := qgB hok
 refine ⟨hv.1, fun r21 hr21 => ?_⟩
 have hem : (rd b.Warps w).Frames.isEmpty = false := by simpa using hv.2
 have hr21 : r21 = (M.qcZ b w, true) := by
  rw [hr21]
  unfold M.qan
  rw [if_neg (by rw [hem]; simp)]
 subst hr21
 dsimp only
 refine qhd ((M.actB b w).Warps, (M.actB b w).Waiting, (M.actB b w).Phase, (M.actB b w).Memory, ()) ?_ fun J hJ => ?_
 ·dsimp only
  rw [qmK]
  have hph : (M.actB b w).Phase = b.Phase := qhe b w
  have hcode := qjQ b w
  have open_ : M.qdU (M.actB b w) = false → (true, M.actB b w) = M.qba b w := fun e => by
   unfold M.qba M.qf5 M.qh3
   rw [e, if_neg (by simp), hph]
   simp only [Prod.mk.injEq, and_true]
   exact (decide_eq_true p7).symm
  refine qa3 (fun e => ?_) fun e => ?_
  ·refine open_ ?_
   unfold M.qdU
   have : (M.actB b w).Waiting = 0 := by simpa using e
   rw [this, Bool.and_eq_false_iff]; right; rfl
  ·have hL : (M.actB b w).Warps.length ≤ 9223372036854775807 := by rw [qjD]; omega
   refine qdl (M.actB b w).Warps.length (fun k => ((k : Int), ())) (fun k => M.qeq (M.actB b w) k = true) rfl rfl (fun k hk hF next hnx => ?_) fun hF next => ?_
   ·have hs : M.qeq (M.actB b w) (k + 1) = (M.qeq (M.actB b w) k && ((rd (M.actB b w).Warps (k : Int)).Frames.isEmpty || M.waits (M.actB b w) (k : Int))) := rfl
    rw [hF, Bool.true_and] at hs
    dsimp only
    rw [up64 hk hL]
    refine qb1 (by simp; omega) ⟨⟨by omega, by omega⟩, by show (0 : Int) ≤ _; omega, fun r hr => ?_⟩
    have hr : r = M.waits (M.actB b w) (k : Int) := hr
    refine qa3 (fun e2 => qa3 (fun e3 => ?_) fun e3 => ?_) fun e2 => ?_
    ·refine open_ ?_
     have : M.qeq (M.actB b w) (k + 1) = false := by
      rw [hs, show M.waits (M.actB b w) (k : Int) = false by rw [← hr]; simpa using e2, Bool.or_false]
      simp only [decide_eq_true_eq] at e3
      cases hx : (rd (M.actB b w).Warps (k : Int)).Frames with
      | nil => rw [hx] at e3; simp at e3
      | cons _ _ => rfl
     unfold M.qdU
     rw [qhK this _ (by omega), Bool.false_and]
    ·refine hnx ?_
     have : (rd (M.actB b w).Warps (k : Int)).Frames = [] := by
      simp only [decide_eq_false_iff_not] at e3
      exact List.length_eq_zero_iff.1 (by omega)
     rw [hs, this]; rfl
    ·refine hnx ?_
     rw [hs, show M.waits (M.actB b w) (k : Int) = true by rw [← hr]; simpa using e2, Bool.or_true]
   ·refine qb8 (by simp) ?_
    have : M.qdU (M.actB b w) = true := by
     unfold M.qdU
     rw [hF, Bool.true_and]
     simpa using e
    show _ = M.qba b w
    unfold M.qba M.qf5 M.qh3
    rw [if_pos this, hcode, hph, w64 (by omega) (by omega)]
 ·refine fun r41 hr41 => qa3 (fun e => ?_) fun e => ?_
  all_goals have hr41 : r41 = M.qbu (M.qcZ b w) := hr41
  ·have hl := hr41.symm.trans e
   have hgo := hg hl
   refine ⟨⟨h0, h1⟩, ⟨h0, h1⟩, ⟨hp, hw⟩, fun r51 hr51 => ?_⟩
   have hr51 : r51 = (true, M.stepW b.Code (rd b.Warps w)) := by
    rw [hr51]
    unfold M.qaZ
    rw [if_pos hgo.2]
   subst hr51
   rw [show M.actB b w = M.qlV b w (M.stepW b.Code (rd b.Warps w)) from if_pos hl] at hJ
   exact hJ
  ·have hl := hr41.symm.trans e
   have hB : M.actB b w = ⟨b.Code, b.Warps.set w.toNat (M.qgf b.Code (rd (M.qd2 b w (M.qcZ b w)).Warps w)), (M.qd2 b w (M.qcZ b w)).Memory, if (M.qcZ b w).Op = 16 then qgD .i64 b.Waiting (M.qi8 w) else b.Waiting, b.Phase⟩ := if_neg (by rw [hl]; simp)
   have hX := qgT (i := M.qcZ b w) h0 h1
   have hset : ∀ y : D.Warp, List.set (M.qd2 b w (M.qcZ b w)).Warps w.toNat y = b.Warps.set w.toNat y := fun y => by simp [M.qd2]
   have hF : (rd (M.qd2 b w (M.qcZ b w)).Warps w).Frames = (rd b.Warps w).Frames := by rw [hX]
   have hlen : (M.qd2 b w (M.qcZ b w)).Warps.length = b.Warps.length := by simp [M.qd2]
   refine qhd ((M.qd2 b w (M.qcZ b w)).Warps, (M.actB b w).Waiting, b.Phase, (M.qd2 b w (M.qcZ b w)).Memory, ()) ?_ fun J2 hJ2 => ?_
   ·dsimp only
    have i0 : (0 ≤ w ∧ w < ((M.qd2 b w (M.qcZ b w)).Warps.length : Int)) := ⟨h0, by rw [hlen]; exact h1⟩
    rw [hF, qnl hv.2 t3 t5 (by show M.qbw (rd b.Warps w) ≤ 32; omega)]
    have j0 : (0 ≤ (wrap .i64 (((rd b.Warps w).Frames.length : Int) - 1)) ∧ (wrap .i64 (((rd b.Warps w).Frames.length : Int) - 1)) < (((rd b.Warps w).Frames).length : Int)) := by
     rw [qdH (by omega)]; omega
    refine ⟨i0, j0, j0, i0, by show _ ≤ _; simp only [M.qcP, List.length_set]; omega, fun r hr => ?_⟩
    have hr : r = M.qgf b.Code (rd (M.qd2 b w (M.qcZ b w)).Warps w) := by
     rw [hr]
     show M.qgG _ _ = M.qgG _ _
     unfold M.qbw
     rw [hF]
    have hrr : (rd (M.qd2 b w (M.qcZ b w)).Warps w).Regs = r.Regs := by rw [hr]; rfl
    rw [hset, hrr]
    show J (b.Warps.set w.toNat r, _)
    rw [hr]
    rw [hB] at hJ ⊢
    exact hJ
   ·refine qa3 (fun e2 => ⟨h0, ?_⟩) fun e2 => ⟨⟨hv, rfl, hl⟩, fun r hr => ?_⟩
    ·have e2 : (M.qcZ b w).Op = 16 := by simpa using e2
     have hacc : M.qhJ (M.qcZ b w) (rd b.Warps w) b.Memory = ((rd b.Warps w).Regs, b.Memory) := by
      rw [M.qhJ, qlN]
      have st : ∀ (s : List Int × List Int) (k : Int), M.qeT (M.qcZ b w) s k = s := fun s k => by
       unfold M.qeT
       rw [if_neg (by omega), if_neg (by omega), if_neg (by omega)]
      generalize M.qdX (M.qbb (rd b.Warps w)) = l
      induction l with
      | nil => rfl
      | cons k l ih => rw [List.foldl_cons, st, ih]
     have hac : M.qd2 b w (M.qcZ b w) = b := by
      unfold M.qd2
      rw [hacc, qjR]
     rw [hB] at hJ2
     dsimp only at hJ2
     rw [if_pos e2, hac] at hJ2
     exact hJ2
    ·have hr : r = M.qd2 b w (M.qcZ b w) := hr
     subst hr
     rw [hB] at hJ2
     dsimp only at hJ2
     rw [if_neg (by simpa using e2)] at hJ2
     exact hJ2
end Go.V
namespace Go.V
open IntKind (wrap)
theorem qhF {b : D.Block} (h : M.Good b) {f : Int} (hf : 0 ≤ f) : ∀ (r : Nat) (k : Int), 0 ≤ k → ¬ M.qf2 b b.Warps.length f r k < 0 → M.qhs b (M.qf2 b b.Warps.length f r k)
 | 0, k, _, hn => (hn (by show (-1 : Int) < 0; omega)).elim
 | r + 1, k, hk, hn => by
  have hc := qev h
  have ht := qfT (x := f + k) (n := b.Warps.length) (by omega) (by omega)
  unfold M.qf2 at hn ⊢
  by_cases e : M.qf8 b (Int.tmod (f + k) b.Warps.length) = true
  ·rw [if_pos e]; exact ⟨qgY h ht.1 ht.2, e⟩
  ·rw [if_neg e] at hn ⊢
   exact qhF h hf r (k + 1) (by omega) hn
theorem qmZ {b : D.Block} (h : M.Good b) {q : Int} (hq : 0 ≤ q) (hn : ¬ M.pick b q < 0) : M.qhs b (M.pick b q) := by
 have hc := qev h
 exact qhF h (qfT (x := q) (n := b.Warps.length) hq (by omega)).1 _ _ (Int.le_refl _) hn
theorem qnn {f : Nat → Int} {x : D.Block} {k : Nat} (h : M.stops f x k = false) : 0 ≤ f k ∧ x.Phase ≠ 100000 ∧ ¬ M.pick x (f k) < 0 := by
 simp only [M.stops, Bool.or_eq_false_iff, decide_eq_false_iff_not, beq_eq_false_iff_ne] at h
 exact ⟨by omega, h.2.1, h.2.2⟩
theorem good_step {f : Nat → Int} {x : D.Block} {k : Nat} (h : M.Good x) (hs : M.stops f x k = false) : M.qhs x (M.pick x (f k)) ∧ M.Good (M.qf5 x (M.pick x (f k))) := by
 obtain ⟨h0, h1, h2⟩ := qnn hs
 have hc := qmZ h h0 h2
 have hp := (qgB h.2).2.2.2.2.2.2.1
 have hok := ql8 hc (by rcases qg3 x (M.pick x (f k)) with e | e <;> omega)
 exact ⟨hc, qj8 (qjt hok), hok⟩
theorem qjP {f : Nat → Int} : ∀ (m : Nat) (x : D.Block) (k : Nat), M.Good x → M.Good (M.goTo f m x k).1
 | 0, x, k, h => h
 | m + 1, x, k, h => by
  unfold M.goTo
  by_cases e : M.stops f x k = true
  ·rw [if_pos e]; exact h
  ·rw [if_neg e]; exact qjP m _ _ (good_step h (Bool.eq_false_iff.2 e)).2
theorem qi6 {f : Nat → Int} : ∀ (m : Nat) (x : D.Block) (k : Nat), (M.goTo f m x k).1.Code = x.Code
 | 0, x, k => rfl
 | m + 1, x, k => by
  unfold M.goTo
  split
  ·rfl
  ·rw [qi6 m, qfn]
theorem qjO (f : Nat → Int) (b : D.Block) : ∀ k, (M.goAt f b k).Code = b.Code
 | 0 => rfl
 | k + 1 => by unfold M.goAt; rw [qfn, qjO f b k]
structure GoI (f : Nat → Int) (b : D.Block) (n k : Nat) : Prop where
 good : M.Good (M.goAt f b k)
 code : (M.goAt f b k).Code = b.Code
 run : M.goTo f n b 0 = M.goTo f (n - k) (M.goAt f b k) k
theorem qmX {f : Nat → Int} {b : D.Block} (h : M.Good b) (n : Nat) : GoI f b n 0 := ⟨h, rfl, rfl⟩
theorem qnZ {f : Nat → Int} {b : D.Block} {n k : Nat} (h : GoI f b n k) (hk : k < n) (hs : M.stops f (M.goAt f b k) k = false) : GoI f b n (k + 1) := by
 refine ⟨(good_step h.good hs).2, qjO f b (k + 1), ?_⟩
 rw [h.run, show n - k = (n - (k + 1)) + 1 by omega, M.goTo, if_neg (by rw [hs]; simp)]
 rfl
theorem qmQ {f : Nat → Int} {b : D.Block} {n k : Nat} (h : GoI f b n k) (hk : k < n) (hs : M.stops f (M.goAt f b k) k = true) : M.goTo f n b 0 = (M.goAt f b k, (k : Int)) := by
 rw [h.run, show n - k = (n - (k + 1)) + 1 by omega, M.goTo, if_pos hs]
theorem qnJ {f : Nat → Int} {b : D.Block} {n : Nat} (h : GoI f b n n) : M.goTo f n b 0 = (M.goAt f b n, (n : Int)) := by
 rw [h.run, Nat.sub_self]; rfl
theorem qjI {c : List D.Ins} {x : D.Block} (h : x.Code = c) : (⟨c, x.Warps, x.Memory, x.Waiting, x.Phase⟩ : D.Block) = x := by rw [← h]
end Go.V
namespace Go.V
open IntKind (wrap)
theorem round {f : Nat → Int} {b : D.Block} {n k : Nat} (hF : GoI f b n k) (hk : k < n) {R : D.Block → Int → Prop} {N : D.Block → Prop} (hR : R (M.goTo f n b 0).1 (M.goTo f n b 0).2) (hN : GoI f b n (k + 1) → N (M.goAt f b (k + 1))) :
    (M.stops f (M.goAt f b k) k = true → R (M.goAt f b k) (k : Int)) ∧ (M.stops f (M.goAt f b k) k = false → M.qhs (M.goAt f b k) (M.pick (M.goAt f b k) (f k)) ∧ N (M.qf5 (M.goAt f b k) (M.pick (M.goAt f b k) (f k)))) := by
 refine ⟨fun e => ?_, fun e => ⟨(good_step hF.good e).1, hN (qnZ hF hk e)⟩⟩
 rw [qmQ hF hk e] at hR
 exact hR
end Go.V
namespace Go.V
open IntKind (wrap)
def wp.qcp (b : Int) (Q : Bool → Prop) : Prop :=
 (∀ a, a = M.qah b 0 100 → Q a)
def wp.qaR (a : Int) (b : Int) (Q : (Int × Bool) → Prop) : Prop :=
 Q ((wrap .i64 (a * b)), (decide (a < 9000)))
def wp.qbj (a : Int) (Q : Unit → Prop) : Prop :=
 Q ()
def wp.qao (a : D.Block) (j : Int) (Q : (Int × D.Block) → Prop) : Prop :=
 qdd (σ := Int × (List D.Warp) × Int × Int × (List Int) × Unit) (fun (k : Int × (List D.Warp) × Int × Int × (List Int) × Unit) l => match k with | (f, c, d, b, e, _) => (∀ g, g = M.qaR f j → qa1 (!g.2) (Q (f, (⟨a.Code, c, e, d, b⟩ : D.Block))) (qa1 (decide (g.1 < 0)) (Q (f, (⟨a.Code, c, e, d, b⟩ : D.Block))) (qa1 (b == 100000) (Q (f, (⟨a.Code, c, e, d, b⟩ : D.Block))) ((M.qdF (⟨a.Code, c, e, d, b⟩ : D.Block) g.1 ∧ ∀ h, h = M.qb7 (⟨a.Code, c, e, d, b⟩ : D.Block) g.1 → qa1 (decide (h < 0)) (Q (f, (⟨a.Code, c, e, d, b⟩ : D.Block))) ((∀ m, m = M.qbj h → (M.qeo (⟨a.Code, c, e, d, b⟩ : D.Block) h ∧ ∀ i, i = M.qba (⟨a.Code, c, e, d, b⟩ : D.Block) h → l ((wrap .i64 (f + 1)), i.2.Warps, i.2.Waiting, i.2.Phase, i.2.Memory, ())))))))))) (0, a.Warps, a.Waiting, a.Phase, a.Memory, ())
def wp.qaH (b : D.Block) (c : Int) (Q : (Int × D.Block) → Prop) : Prop :=
 (M.qcz b c ∧ ∀ a, a = M.qao b c → Q (a.1, (⟨b.Code, a.2.Warps, a.2.Memory, a.2.Waiting, a.2.Phase⟩ : D.Block)))
def wp.qb5 (c : D.Block) (d : Int) (Q : (D.Block × Int) → Prop) : Prop :=
 (M.qeB c ∧ ∀ a, a = M.qbS c → (M.qda c ∧ ∀ e, e = M.qbr c → qa1 (!e) (Q ((⟨a.Code, a.Warps, a.Memory, a.Waiting, a.Phase⟩ : D.Block), (-1))) ((∀ f, f = M.qcp d → qa1 (!f) (Q ((⟨a.Code, a.Warps, a.Memory, a.Waiting, a.Phase⟩ : D.Block), (-1))) ((M.qdz a d ∧ ∀ b, b = M.qaH a d → Q ((⟨a.Code, b.2.Warps, b.2.Memory, b.2.Waiting, b.2.Phase⟩ : D.Block), b.1)))))))
end Go.V
namespace Go.V
open IntKind (wrap)
theorem wp.qcp.math (s : Int) : wp.qcp s (fun r => r = M.qcp s) := fun r hr => hr
theorem wp.qaR.math (k s : Int) : wp.qaR k s (fun r => r = M.qaR k s) := rfl
theorem wp.qbj.math (k : Int) : wp.qbj k (fun r => r = M.qbj k) := rfl
theorem qml {k : Nat} {s : Int} (hk : k ≤ 9000) (h0 : 0 ≤ s) (h1 : s ≤ 100) : 0 ≤ (k : Int) * s ∧ (k : Int) * s ≤ 900000 := by
 have a := Int.mul_nonneg (Int.natCast_nonneg k) h0
 have b := Int.mul_le_mul (show (k : Int) ≤ 9000 by omega) h1 h0 (by omega)
 omega
theorem qlz (b : D.Block) (s : Int) (h : M.qcz b s) : wp.qao b s (fun r => r = M.qao b s) := by
 obtain ⟨hg, hs0, hs1⟩ := h
 have hR : ((M.goTo (M.qcX s) 9000 b 0).2, (M.goTo (M.qcX s) 9000 b 0).1) = M.qao b s := rfl
 refine qdl 9000 (fun k => ((k : Int), (M.goAt (M.qcX s) b k).Warps, (M.goAt (M.qcX s) b k).Waiting, (M.goAt (M.qcX s) b k).Phase, (M.goAt (M.qcX s) b k).Memory, ())) (fun k => GoI (M.qcX s) b 9000 k) rfl (qmX hg _) (fun k hk hF next hn => ?_) fun hF next => ?_
 ·obtain ⟨hs, hgo⟩ := round hF hk (R := fun x j => (j, x) = M.qao b s) (N := fun x => next (((k + 1 : Nat) : Int), x.Warps, x.Waiting, x.Phase, x.Memory, ())) hR hn
  have hgd := hF.good
  have hcd := hF.code
  have hb := qml (k := k) (by omega) hs0 hs1
  dsimp only
  rw [qjI hcd, up64 (n := 9000) hk (by omega)]
  have hst : M.stops (M.qcX s) (M.goAt (M.qcX s) b k) k = (decide ((k : Int) * s < 0) || ((M.goAt (M.qcX s) b k).Phase == 100000 || decide (M.pick (M.goAt (M.qcX s) b k) ((k : Int) * s) < 0))) := rfl
  have hfk : M.qcX s k = (k : Int) * s := rfl
  rw [hfk] at hgo
  generalize M.goAt (M.qcX s) b k = x at *
  refine fun r66 hr66 => ?_
  have hr66 : r66 = ((k : Int) * s, true) := by
   rw [hr66]; unfold M.qaR; rw [w64 (by omega) (by omega), decide_eq_true (by omega)]
  subst hr66
  refine qb8 rfl (qa3 (fun e1 => ?_) fun e1 => qa3 (fun e2 => ?_) fun e2 => ⟨⟨hgd, by omega, by show (k : Int) * s ≤ _; omega⟩, fun r71 hr71 => ?_⟩)
  ·exact hs (by rw [hst, e1]; rfl)
  ·exact hs (by rw [hst, e2, Bool.true_or, Bool.or_true])
  ·have hr71 : r71 = M.pick x ((k : Int) * s) := hr71
   subst hr71
   refine qa3 (fun e3 => ?_) fun e3 => fun r76 _ => ?_
   ·exact hs (by rw [hst, e3, Bool.or_true, Bool.or_true])
   ·obtain ⟨q1, q2⟩ := hgo (by rw [hst, e1, e2, e3]; rfl)
    refine ⟨q1, fun r81 hr81 => ?_⟩
    have hr81 : r81.2 = M.qf5 x (M.pick x ((k : Int) * s)) := by rw [hr81]; rfl
    rw [hr81]
    exact q2
 ·dsimp only
  rw [qjI hF.code]
  refine fun r66 hr66 => ?_
  have hr66 : r66.2 = false := by
   rw [hr66]; unfold M.qaR; rfl
  rw [hr66]
  refine qb1 rfl ?_
  rw [← hR, qnJ hF]
theorem wp.qao.math (b : D.Block) (s : Int) (h : M.qcz b s) : wp.qao b s (fun r => r = M.qao b s) := qlz b s h
theorem wp.qaH.math (b : D.Block) (s : Int) (h : M.qdz b s) : wp.qaH b s (fun r => r = M.qaH b s) := by
 refine ⟨h, fun r hr => ?_⟩
 have hc : r.2.Code = b.Code := by rw [hr]; exact qi6 _ _ _
 rw [qjI hc, hr]; rfl
theorem wp.qb5.math (b : D.Block) (s : Int) (h : M.qcV b s) : wp.qb5 b s (fun r => r = M.qb5 b s) := by
 have hb := qms h
 refine ⟨h, fun r25 hr25 => ?_⟩
 have hr25 : r25 = b := hr25
 subst hr25
 refine ⟨hb, fun r41 hr41 => qa3 (fun e => ?_) fun e => fun r48 hr48 => qa3 (fun e2 => ?_) fun e2 => ?_⟩
 all_goals have hr41 : r41 = M.qcH r25 := hr41
 ·show (r25, -1) = M.qdD r25 s
  unfold M.qdD
  rw [← hr41, show r41 = false by simpa using e]; rfl
 all_goals have hr48 : r48 = M.isIn s 0 100 := hr48
 ·show (r25, -1) = M.qdD r25 s
  unfold M.qdD
  rw [← hr48, show r48 = false by simpa using e2, Bool.and_false]; rfl
 have hok : M.qcH r25 = true := by rw [← hr41]; simpa using e
 have his : M.isIn s 0 100 = true := by rw [← hr48]; simpa using e2
 have hss : 0 ≤ s ∧ s ≤ 100 := by simpa only [M.isIn, Bool.and_eq_true, decide_eq_true_eq] using his
 refine ⟨⟨⟨hb, hok⟩, hss⟩, fun r52 hr52 => ?_⟩
 have hr52 : r52 = ((M.finish r25 s).2, (M.finish r25 s).1) := hr52
 subst hr52
 show _ = M.qdD r25 s
 unfold M.qdD
 rw [hok, his]
 have hc : (M.finish r25 s).1.Code = r25.Code := qi6 _ _ _
 dsimp only
 rw [qjI hc]
 exact (if_pos rfl).symm
end Go.V
namespace Go.V
open IntKind (wrap)
structure Chk (p : List D.Ins) (b e : Int) : Prop where
 le : b ≤ e
 inn : ∀ x y, b ≤ x → x < e → y ∈ M.qbq p x → b ≤ y ∧ y ≤ e
 up : ∀ x y, b < x → x < e → y ∈ M.qbq p x → b < y
theorem Chk.nil (p : List D.Ins) (b : Int) : Chk p b b := ⟨Int.le_refl _, fun x y h1 h2 => by omega, fun x y h1 h2 => by omega⟩
theorem Chk.cat {p : List D.Ins} {b m e : Int} (h : Chk p b m) (k : Chk p m e) : Chk p b e := by
 have l1 := h.le
 have l2 := k.le
 refine ⟨by omega, fun x y h1 h2 hy => ?_, fun x y h1 h2 hy => ?_⟩
 ·by_cases c : x < m
  ·have := h.inn x y h1 c hy; omega
  ·have := k.inn x y (by omega) h2 hy; omega
 ·by_cases c : x < m
  ·exact h.up x y h1 c hy
  ·by_cases d : b = m
   ·subst d; exact k.up x y h1 h2 hy
   ·have := k.inn x y (by omega) h2 hy; omega
def Fwd (p : List D.Ins) (x : Int) : Prop := ∃ y ∈ M.qbq p x, x < y ∨ ∃ z ∈ M.qbq p y, x < z
def Plain (p : List D.Ins) (b e : Int) : Prop := ∀ x, b ≤ x → x < e → 1 ≤ (rd p x).Op ∧ (rd p x).Op ≤ 11 ∧ Fwd p x
def Lies (p : List D.Ins) (b : Nat) (s : List D.Ins) : Prop := b + s.length ≤ p.length ∧ ∀ j : Nat, j < s.length → rd p ((b + j : Nat) : Int) = rd s (j : Int)
theorem Lies.left {p : List D.Ins} {b : Nat} {s t : List D.Ins} (h : Lies p b (s ++ t)) : Lies p b s := by
 refine ⟨by have := h.1; rw [List.length_append] at this; omega, fun j hj => ?_⟩
 have := h.2 j (by rw [List.length_append]; omega)
 rwa [qni hj] at this
theorem Lies.right {p : List D.Ins} {b : Nat} {s t : List D.Ins} (h : Lies p b (s ++ t)) : Lies p (b + s.length) t := by
 refine ⟨by have := h.1; rw [List.length_append] at this; omega, fun j hj => ?_⟩
 have := h.2 (s.length + j) (by rw [List.length_append]; omega)
 rwa [qmu hj, ← Nat.add_assoc] at this
theorem Lies.head {p : List D.Ins} {b : Nat} {i : D.Ins} {s : List D.Ins} (h : Lies p b (i :: s)) : rd p (b : Int) = i := h.2 0 (by simp)
theorem Lies.tail {p : List D.Ins} {b : Nat} {i : D.Ins} {s : List D.Ins} (h : Lies p b (i :: s)) : Lies p (b + 1) s := by
 refine ⟨by have := h.1; rw [List.length_cons] at this; omega, fun j hj => ?_⟩
 have := h.2 (j + 1) (by rw [List.length_cons]; omega)
 rw [show b + (j + 1) = b + 1 + j by omega] at this
 have e : rd (i :: s) ((j + 1 : Nat) : Int) = rd s (j : Int) := by rw [qcJ (by simp; omega), qcJ hj]; rfl
 rwa [e] at this
theorem Lies.all (p : List D.Ins) : Lies p 0 p := ⟨by omega, fun j _ => by rw [Nat.zero_add]⟩
theorem qfU {p : List D.Ins} {x y : Int} (hx : x < (p.length : Int)) (h10 : (rd p x).Op ≠ 10) (h11 : (rd p x).Op ≠ 11) (h12 : (rd p x).Op ≠ 12) : y ∈ M.qbq p x ↔ y = x + 1 := by
 unfold M.qbq
 rw [if_neg (by omega), if_neg h12, if_neg h11, if_neg h10, List.mem_singleton]
theorem qlL {p : List D.Ins} {x y : Int} (hx : x < (p.length : Int)) (h : (rd p x).Op = 10) : y ∈ M.qbq p x ↔ y = x + 1 ∨ y = (rd p x).B := by
 unfold M.qbq
 rw [if_neg (by omega), if_neg (by omega), if_neg (by omega), if_pos h, qeX]
theorem qn4 {p : List D.Ins} {x y : Int} (hx : x < (p.length : Int)) (h : (rd p x).Op = 11) : y ∈ M.qbq p x ↔ y = (rd p x).B := by
 unfold M.qbq
 rw [if_neg (by omega), if_neg (by omega), if_pos h, List.mem_singleton]
theorem qmr {p : List D.Ins} {b : Nat} {s : List D.Ins} (h : Seg b s) : Lies p b s → ∀ B E : Int, B = (b : Int) → E = (b : Int) + (s.length : Int) → Chk p B E ∧ Plain p B E := by
 induction h with
 | nil b => intro _ B E hB hE; simp at hE; obtain rfl : B = E := by omega
            exact ⟨.nil _ _, fun x h1 h2 => by omega⟩
 | @cat b s t _ _ ih1 ih2 =>
  intro ha B E hB hE
  rw [List.length_append] at hE
  obtain ⟨c1, q1⟩ := ih1 ha.left B (B + s.length) hB (by omega)
  obtain ⟨c2, q2⟩ := ih2 ha.right (B + s.length) E (by omega) (by omega)
  refine ⟨c1.cat c2, fun x h1 h2 => ?_⟩
  by_cases c : x < B + s.length
  ·exact q1 x h1 c
  ·exact q2 x (by omega) h2
 | @one b i hp =>
  intro ha B E hB hE
  have hlt := ha.1
  simp only [List.length_cons, List.length_nil, Nat.zero_add] at hlt hE
  have hi := ha.head
  rw [← hB] at hi
  simp only [qgF, M.isIn, Bool.and_eq_true, decide_eq_true_eq] at hp
  have hx : ∀ y, y ∈ M.qbq p B ↔ y = B + 1 := fun y => qfU (by omega) (by rw [hi]; omega) (by rw [hi]; omega) (by rw [hi]; omega)
  have e : ∀ x, B ≤ x → x < E → x = B := fun x _ _ => by omega
  refine ⟨⟨by omega, fun x y h1 h2 hy => ?_, fun x y h1 h2 => by omega⟩, fun x h1 h2 => ?_⟩
  ·rw [e x h1 h2, hx] at hy; omega
  ·rw [e x h1 h2]; exact ⟨by rw [hi]; omega, by rw [hi]; omega, B + 1, (hx _).2 rfl, .inl (by omega)⟩
 | @thn b r s h0 h3 _ ih =>
  intro ha B E hB hE
  have hlt := ha.1
  rw [List.length_cons] at hlt hE
  have hi := ha.head
  rw [← hB] at hi
  obtain ⟨c1, q1⟩ := ih ha.tail (B + 1) E (by omega) (by omega)
  have hx : ∀ y, y ∈ M.qbq p B ↔ y = B + 1 ∨ y = E := fun y => by
   rw [qlL (by omega) (by rw [hi]), hi]
   show _ ∨ y = ((b + 1 + s.length : Nat) : Int) ↔ _
   rw [show ((b + 1 + s.length : Nat) : Int) = E by omega]
  have e : ∀ x, B ≤ x → x < E → x = B ∨ B + 1 ≤ x := fun x _ _ => by omega
  refine ⟨⟨by omega, fun x y h1 h2 hy => ?_, fun x y h1 h2 hy => ?_⟩, fun x h1 h2 => ?_⟩
  ·rcases e x h1 h2 with rfl | h
   ·rw [hx] at hy; omega
   ·have := c1.inn x y h h2 hy; omega
  ·have := c1.inn x y (by omega) h2 hy; omega
  ·rcases e x h1 h2 with rfl | h
   ·exact ⟨by rw [hi]; exact (by decide : (1 : Int) ≤ 10), by rw [hi]; exact (by decide : (10 : Int) ≤ 11), x + 1, (hx _).2 (.inl rfl), .inl (by omega)⟩
   ·exact q1 x h h2
 | @els b r s t h0 h3 _ _ ih1 ih2 =>
  intro ha B E hB hE
  have hlt := ha.1
  rw [List.length_cons, List.length_append, List.length_cons] at hlt hE
  have hi := ha.head
  rw [← hB] at hi
  have hat := ha.tail
  have har := hat.right
  have hj := har.head
  obtain ⟨m, hm⟩ : ∃ m : Int, m = B + 1 + s.length := ⟨_, rfl⟩
  rw [show ((b + 1 + s.length : Nat) : Int) = m by omega] at hj
  obtain ⟨c1, q1⟩ := ih1 hat.left (B + 1) m (by omega) (by omega)
  have h2' := har.tail
  rw [show b + 1 + s.length + 1 = b + 2 + s.length by omega] at h2'
  obtain ⟨c2, q2⟩ := ih2 h2' (m + 1) E (by omega) (by omega)
  have hx : ∀ y, y ∈ M.qbq p B ↔ y = B + 1 ∨ y = m + 1 := fun y => by
   rw [qlL (by omega) (by rw [hi]), hi]
   show _ ∨ y = ((b + 2 + s.length : Nat) : Int) ↔ _
   rw [show ((b + 2 + s.length : Nat) : Int) = m + 1 by omega]
  have hz : ∀ y, y ∈ M.qbq p m ↔ y = E := fun y => by
   rw [qn4 (by omega) (by rw [hj]), hj]
   show y = ((b + 2 + s.length + t.length : Nat) : Int) ↔ _
   rw [show ((b + 2 + s.length + t.length : Nat) : Int) = E by omega]
  have e : ∀ x, B ≤ x → x < E → x = B ∨ (B + 1 ≤ x ∧ x < m) ∨ x = m ∨ m + 1 ≤ x := fun x _ _ => by omega
  refine ⟨⟨by omega, fun x y h1 h2 hy => ?_, fun x y h1 h2 hy => ?_⟩, fun x h1 h2 => ?_⟩
  ·rcases e x h1 h2 with rfl | h | rfl | h
   ·rw [hx] at hy; omega
   ·have := c1.inn x y h.1 h.2 hy; omega
   ·rw [hz] at hy; omega
   ·have := c2.inn x y h h2 hy; omega
  ·rcases e x (by omega) h2 with rfl | h | rfl | h
   ·omega
   ·have := c1.inn x y h.1 h.2 hy; omega
   ·rw [hz] at hy; omega
   ·have := c2.inn x y h h2 hy; omega
  ·rcases e x h1 h2 with rfl | h | rfl | h
   ·exact ⟨by rw [hi]; exact (by decide : (1 : Int) ≤ 10), by rw [hi]; exact (by decide : (10 : Int) ≤ 11), x + 1, (hx _).2 (.inl rfl), .inl (by omega)⟩
   ·exact q1 x h.1 h.2
   ·exact ⟨by rw [hj]; exact (by decide : (1 : Int) ≤ 11), by rw [hj]; exact (by decide : (11 : Int) ≤ 11), E, (hz _).2 rfl, .inl (by omega)⟩
   ·exact q2 x h h2
 | @loop b hb =>
  intro ha B E hB hE
  have hlt := ha.1
  simp only [List.length_cons, List.length_nil, Nat.zero_add] at hlt hE
  have g : ∀ j : Nat, j < 6 → _ := ha.2
  have r0 := g 0 (by omega); have r1 := g 1 (by omega); have r2 := g 2 (by omega); have r3 := g 3 (by omega); have r4 := g 4 (by omega); have r5 := g 5 (by omega)
  rw [show ((b + 0 : Nat) : Int) = B by omega] at r0
  rw [show ((b + 1 : Nat) : Int) = B + 1 by omega] at r1
  rw [show ((b + 2 : Nat) : Int) = B + 2 by omega] at r2
  rw [show ((b + 3 : Nat) : Int) = B + 3 by omega] at r3
  rw [show ((b + 4 : Nat) : Int) = B + 4 by omega] at r4
  rw [show ((b + 5 : Nat) : Int) = B + 5 by omega] at r5
  have r0 : rd p B = ⟨8, 3, 0, 0⟩ := r0
  have r1 : rd p (B + 1) = ⟨10, 3, ((b + 6 : Nat) : Int), 0⟩ := r1
  have r2 : rd p (B + 2) = ⟨3, 0, 0, 1⟩ := r2
  have r3 : rd p (B + 3) = ⟨1, 2, 1, 0⟩ := r3
  have r4 : rd p (B + 4) = ⟨4, 3, 3, 2⟩ := r4
  have r5 : rd p (B + 5) = ⟨11, 0, ((b + 1 : Nat) : Int), 0⟩ := r5
  have n0 : ∀ y, y ∈ M.qbq p B ↔ y = B + 1 := fun y => qfU (by omega) (by rw [r0]; decide) (by rw [r0]; decide) (by rw [r0]; decide)
  have n1 : ∀ y, y ∈ M.qbq p (B + 1) ↔ y = B + 2 ∨ y = E := fun y => by
   rw [qlL (by omega) (by rw [r1]), r1]
   show y = B + 1 + 1 ∨ y = ((b + 6 : Nat) : Int) ↔ _
   rw [show ((b + 6 : Nat) : Int) = E by omega, show B + 1 + 1 = B + 2 by omega]
  have n2 : ∀ y, y ∈ M.qbq p (B + 2) ↔ y = B + 2 + 1 := fun y => qfU (by omega) (by rw [r2]; decide) (by rw [r2]; decide) (by rw [r2]; decide)
  have n3 : ∀ y, y ∈ M.qbq p (B + 3) ↔ y = B + 3 + 1 := fun y => qfU (by omega) (by rw [r3]; decide) (by rw [r3]; decide) (by rw [r3]; decide)
  have n4 : ∀ y, y ∈ M.qbq p (B + 4) ↔ y = B + 4 + 1 := fun y => qfU (by omega) (by rw [r4]; decide) (by rw [r4]; decide) (by rw [r4]; decide)
  have n5 : ∀ y, y ∈ M.qbq p (B + 5) ↔ y = B + 1 := fun y => by
   rw [qn4 (by omega) (by rw [r5]), r5]
   show y = ((b + 1 : Nat) : Int) ↔ _
   rw [show ((b + 1 : Nat) : Int) = B + 1 by omega]
  have e : ∀ x, B ≤ x → x < E → x = B ∨ x = B + 1 ∨ x = B + 2 ∨ x = B + 3 ∨ x = B + 4 ∨ x = B + 5 := fun x _ _ => by omega
  refine ⟨⟨by omega, fun x y h1 h2 hy => ?_, fun x y h1 h2 hy => ?_⟩, fun x h1 h2 => ?_⟩
  ·rcases e x h1 h2 with h | h | h | h | h | h <;> (rw [h] at hy; first | rw [n0] at hy; omega | rw [n1] at hy; omega | rw [n2] at hy; omega | rw [n3] at hy; omega | rw [n4] at hy; omega | rw [n5] at hy; omega)
  ·rcases e x (by omega) h2 with h | h | h | h | h | h <;> (rw [h] at hy; first | rw [n0] at hy; omega | rw [n1] at hy; omega | rw [n2] at hy; omega | rw [n3] at hy; omega | rw [n4] at hy; omega | rw [n5] at hy; omega)
  ·rcases e x h1 h2 with h | h | h | h | h | h <;> rw [h]
   ·exact ⟨by rw [r0]; exact (by decide : (1 : Int) ≤ 8), by rw [r0]; exact (by decide : (8 : Int) ≤ 11), _, (n0 _).2 rfl, .inl (by omega)⟩
   ·exact ⟨by rw [r1]; exact (by decide : (1 : Int) ≤ 10), by rw [r1]; exact (by decide : (10 : Int) ≤ 11), _, (n1 _).2 (.inl rfl), .inl (by omega)⟩
   ·exact ⟨by rw [r2]; exact (by decide : (1 : Int) ≤ 3), by rw [r2]; exact (by decide : (3 : Int) ≤ 11), _, (n2 _).2 rfl, .inl (by omega)⟩
   ·exact ⟨by rw [r3]; exact (by decide : (1 : Int) ≤ 1), by rw [r3]; exact (by decide : (1 : Int) ≤ 11), _, (n3 _).2 rfl, .inl (by omega)⟩
   ·exact ⟨by rw [r4]; exact (by decide : (1 : Int) ≤ 4), by rw [r4]; exact (by decide : (4 : Int) ≤ 11), _, (n4 _).2 rfl, .inl (by omega)⟩
   ·exact ⟨by rw [r5]; exact (by decide : (1 : Int) ≤ 11), by rw [r5]; exact (by decide : (11 : Int) ≤ 11), _, (n5 _).2 rfl, .inr ⟨E, (n1 _).2 (.inr rfl), by omega⟩⟩
theorem qls {p : List D.Ins} {b : Nat} {s : List D.Ins} (h : MSeg b s) : Lies p b s → ∀ B E : Int, B = (b : Int) → E = (b : Int) + (s.length : Int) →
    Chk p B E ∧ ∀ x, B ≤ x → x < E → Fwd p x ∧ ((13 ≤ (rd p x).Op ∧ (rd p x).Op ≤ 16) ∨ ∃ u v, B ≤ u ∧ u ≤ x ∧ x < v ∧ v ≤ E ∧ Chk p u v ∧ Plain p u v ∧ Chk p v E) := by
 induction h with
 | nil b => intro _ B E hB hE; simp at hE; obtain rfl : B = E := by omega
            exact ⟨.nil _ _, fun x h1 h2 => by omega⟩
 | @cat b s t _ _ ih1 ih2 =>
  intro ha B E hB hE
  rw [List.length_append] at hE
  obtain ⟨c1, q1⟩ := ih1 ha.left B (B + s.length) hB (by omega)
  obtain ⟨c2, q2⟩ := ih2 ha.right (B + s.length) E (by omega) (by omega)
  refine ⟨c1.cat c2, fun x h1 h2 => ?_⟩
  by_cases c : x < B + s.length
  ·obtain ⟨f1, f2⟩ := q1 x h1 c
   refine ⟨f1, f2.imp id ?_⟩
   rintro ⟨u, v, g1, g2, g3, g4, g5, g6, g7⟩
   exact ⟨u, v, g1, g2, g3, by omega, g5, g6, g7.cat c2⟩
  ·obtain ⟨f1, f2⟩ := q2 x (by omega) h2
   refine ⟨f1, f2.imp id ?_⟩
   rintro ⟨u, v, g1, g2, g3, g4, g5, g6, g7⟩
   exact ⟨u, v, by omega, g2, g3, g4, g5, g6, g7⟩
 | @seg b s hs =>
  intro ha B E hB hE
  obtain ⟨c1, q1⟩ := qmr hs ha B E hB hE
  exact ⟨c1, fun x h1 h2 => ⟨(q1 x h1 h2).2.2, .inr ⟨B, E, by omega, h1, h2, by omega, c1, q1, .nil _ _⟩⟩⟩
 | @mem b i hm =>
  intro ha B E hB hE
  have hlt := ha.1
  simp only [List.length_cons, List.length_nil, Nat.zero_add] at hlt hE
  have hi := ha.head
  rw [← hB] at hi
  simp only [memI, M.isIn, Bool.and_eq_true, decide_eq_true_eq] at hm
  have hx : ∀ y, y ∈ M.qbq p B ↔ y = B + 1 := fun y => qfU (by omega) (by rw [hi]; omega) (by rw [hi]; omega) (by rw [hi]; omega)
  have e : ∀ x, B ≤ x → x < E → x = B := fun x _ _ => by omega
  refine ⟨⟨by omega, fun x y h1 h2 hy => ?_, fun x y h1 h2 => by omega⟩, fun x h1 h2 => ?_⟩
  ·rw [e x h1 h2, hx] at hy; omega
  ·rw [e x h1 h2]; exact ⟨⟨B + 1, (hx _).2 rfl, .inl (by omega)⟩, .inl (by rw [hi]; omega)⟩
structure Region (p : List D.Ins) (u v : Int) : Prop where
 lo : 0 ≤ u
 hi : v ≤ (p.length : Int)
 in_ : Chk p u v
 ops : Plain p u v
 rest : Chk p v (p.length : Int)
structure Shaped (p : List D.Ins) : Prop where
 ok : M.qat p = true
 all : Chk p 0 (p.length : Int)
 fwd : ∀ x, 0 ≤ x → x < (p.length : Int) → Fwd p x
 pos : ∀ x, 0 ≤ x → x < (p.length : Int) → (13 ≤ (rd p x).Op ∧ (rd p x).Op ≤ 16) ∨ ∃ u v, Region p u v ∧ u ≤ x ∧ x < v
theorem qit {p : List D.Ins} (h : MSeg 0 p) (hp : M.qat p = true) : Shaped p := by
 obtain ⟨c, q⟩ := qls h (Lies.all p) 0 (p.length : Int) rfl (by omega)
 refine ⟨hp, c, fun x h1 h2 => (q x h1 h2).1, fun x h1 h2 => (q x h1 h2).2.imp id ?_⟩
 rintro ⟨u, v, g1, g2, g3, g4, g5, g6, g7⟩
 exact ⟨u, v, ⟨g1, g4, g5, g6, g7⟩, g2, g3⟩
theorem way {p : List D.Ins} (hF : ∀ x, 0 ≤ x → x < (p.length : Int) → Fwd p x) {lo wo : Int} (h0 : 0 ≤ lo) (hs : ∀ x y, lo ≤ x → x < (p.length : Int) → y ∈ M.qbq p x → lo ≤ y ∧ y ≤ (p.length : Int)) (hw : wo < lo) :
    ∀ (d : Nat) (x : Int), lo ≤ x → x ≤ (p.length : Int) → (p.length : Int) - x ≤ (d : Int) → Rch p wo [x] (p.length : Int)
 | d, x, h1, h2, h3 => by
  by_cases e : x = (p.length : Int)
  ·rw [e]; exact .base (List.mem_singleton.2 rfl) (by omega)
  have hlt : x < (p.length : Int) := by omega
  cases d with
  | zero => omega
  | succ d =>
   obtain ⟨y, hy, hy2⟩ := hF x (by omega) hlt
   have b1 := hs x y h1 hlt hy
   have k1 : Rch p wo [x] y := .step (.base (List.mem_singleton.2 rfl) (by omega)) hy (by omega)
   rcases hy2 with hy2 | ⟨z, hz, hz2⟩
   ·exact qhu k1 (way hF h0 hs hw d y b1.1 b1.2 (by omega))
   ·have hyn : y < (p.length : Int) := by
      by_cases e : y = (p.length : Int)
      ·unfold M.qbq at hz; rw [if_pos e] at hz; simp at hz
      ·omega
    have b2 := hs y z b1.1 hyn hz
    exact qhu (.step k1 hz (by omega)) (way hF h0 hs hw d z b2.1 b2.2 (by omega))
theorem Shaped.way {p : List D.Ins} (h : Shaped p) {a x wo : Int} (h0 : 0 ≤ a) (hc : Chk p a (p.length : Int)) (hx : a ≤ x) (hn : x ≤ (p.length : Int)) (hw : wo < a) : Rch p wo [x] (p.length : Int) :=
 Go.V.way h.fwd h0 hc.inn hw ((p.length : Int) - x).toNat x hx hn (by omega)
theorem Shaped.qnO {p : List D.Ins} (h : Shaped p) {a x : Int} (h0 : 0 ≤ a) (hc : Chk p a (p.length : Int)) (hx : a < x) (hn : x ≤ (p.length : Int)) : Rch p a [x] (p.length : Int) :=
 Go.V.way h.fwd (lo := a + 1) (by omega) (fun x y h1 h2 hy => by have := hc.inn x y (by omega) h2 hy; have := hc.up x y (by omega) h2 hy; omega) (by omega) ((p.length : Int) - x).toNat x (by omega) hn (by omega)
theorem Shaped.exit {p : List D.Ins} (h : Shaped p) {x : Int} (h0 : 0 ≤ x) (hn : x ≤ (p.length : Int)) : M.qeW p x = true :=
 (qdx h.ok (fun y hy => by obtain rfl := List.mem_singleton.1 hy; exact ⟨h0, hn⟩) ⟨by omega, by omega⟩).2 (h.way (a := 0) (by omega) h.all h0 hn (by omega))
theorem Region.all {p : List D.Ins} {u v : Int} (h : Region p u v) : Chk p u (p.length : Int) := h.in_.cat h.rest
theorem Shaped.join {p : List D.Ins} (h : Shaped p) {u v q : Int} (hr : Region p u v) (h1 : u ≤ q) (h2 : q < v) (h10 : (rd p q).Op = 10) : u ≤ M.qde p q ∧ M.qde p q ≤ v ∧ M.qde p q ≠ q ∧ PD p q (M.qde p q) ∧
    ∀ r, M.qcO p r → r ≠ q → PD p q r → PD p (M.qde p q) r := by
 have l0 := hr.lo
 have l1 := hr.hi
 have hN : M.Node p q := ⟨h.ok, by omega, by omega⟩
 have hs : ∀ y, y ∈ M.qbq p q → u ≤ y ∧ y ≤ v := fun y hy => hr.in_.inn q y h1 h2 hy
 have s1 := hs (q + 1) ((qlL (by omega) h10).2 (.inl rfl))
 have s2 := hs (rd p q).B ((qlL (by omega) h10).2 (.inr rfl))
 have hjoin : M.qde p q = M.qfq p q := by
  unfold M.qde
  rw [if_pos (by rw [h.exit (by omega) (by omega), h.exit (by omega) (by omega)]; rfl)]
 have exb := h.exit (x := q) (by omega) (by omega)
 have hfi := qkT hN (by omega) exb
 obtain ⟨fN, _, _, fA⟩ := qeu hfi
 have hmem : ∀ r, M.qcO p r → r ≠ q → PD p q r → r ∈ M.others (M.qc8 p q) q := by
  intro r hr hrb ha
  unfold M.others M.qc8
  rw [if_pos (by simp only [Bool.and_eq_true]; exact ⟨qfp.2 hN, exb⟩)]
  refine List.mem_filter.2 ⟨qfY.2 ⟨r.toNat, by unfold M.qcO at hr; omega, by unfold M.qcO at hr; omega, (qfo hN).2 ha⟩, by simpa using hrb⟩
 have hfall : (M.others (M.qc8 p q) q).all (M.qdP p (M.qfq p q)) = true := qim _ (by
  have := fN.2.1
  show M.qfq p q ≠ -1
  omega)
 have hpd : PD p q (M.qde p q) := by rw [hjoin]; exact (qfo hN).1 fA
 have hne : M.qde p q ≠ q := by
  rw [hjoin]
  have := (List.mem_filter.1 hfi).2
  intro e
  rw [e] at this
  simp at this
 have hlater : ∀ r, M.qcO p r → r ≠ q → PD p q r → PD p (M.qde p q) r := fun r g1 g2 g3 => by
  have := List.all_eq_true.1 hfall _ (hmem r g1 g2 g3)
  rw [hjoin]
  exact (qfo fN).1 this
 have hJn : M.qcO p (M.qde p q) := by rw [hjoin]; exact fN.2
 refine ⟨?_, ?_, hne, hpd, hlater⟩
 ·apply Int.not_lt.1
  intro hlt
  exact hpd (h.way l0 hr.all h1 (by omega) hlt)
 ·apply Int.not_lt.1
  intro hlt
  have hin : ∀ y, Rch p v [q] y → u ≤ y ∧ y < v := by
   intro y hy
   induction hy with
   | base hs' hne' => obtain rfl := List.mem_singleton.1 hs'; exact ⟨h1, h2⟩
   | step hk hs' hne' ih => have := hr.in_.inn _ _ ih.1 ih.2 hs'; omega
  have pv : PD p q v := fun hR => by have := hin _ hR; omega
  have := hlater v ⟨by omega, l1⟩ (by omega) pv
  exact this (h.qnO (by omega) hr.rest hlt hJn.2)
theorem Shaped.inside {p : List D.Ins} (h : Shaped p) {u v q : Int} (hr : Region p u v) (h1 : u ≤ q) (h2 : q < v) (h10 : (rd p q).Op = 10) {y : Int} (hy : Rch p (M.qde p q) (M.qbq p q) y) : u ≤ y ∧ y < v := by
 obtain ⟨j1, j2, j3, j4, _⟩ := h.join hr h1 h2 h10
 have l0 := hr.lo
 have l1 := hr.hi
 have hq : Rch p (M.qde p q) [q] q := .base (List.mem_singleton.2 rfl) (Ne.symm j3)
 have key : ∀ z, Rch p (M.qde p q) [q] z → z ≠ v := fun z hz e => by
  subst e
  have hne : z ≠ M.qde p q := by
   cases hz with
   | base _ hn => exact hn
   | step _ _ hn => exact hn
  exact j4 (qhu hz (h.way (a := z) (by omega) hr.rest (Int.le_refl _) l1 (by omega)))
 have : Rch p (M.qde p q) [q] y ∧ u ≤ y ∧ y < v := by
  induction hy with
  | base hs hne =>
   have k := Rch.step hq hs hne
   have := hr.in_.inn q _ h1 h2 hs
   exact ⟨k, by have := key _ k; omega⟩
  | step hk hs hne ih =>
   have k := Rch.step ih.1 hs hne
   have := hr.in_.inn _ _ ih.2.1 ih.2.2 hs
   exact ⟨k, by have := key _ k; omega⟩
 exact this.2
theorem Shaped.safe {p : List D.Ins} (h : Shaped p) : M.qet p = true := by
 unfold M.qet
 rw [h.ok, Bool.true_and, List.all_eq_true]
 intro q hq
 rw [List.all_eq_true]
 intro y hy
 unfold M.branches at hq
 rw [if_pos h.ok] at hq
 obtain ⟨k, hk, rfl, hb⟩ := qfY.1 hq
 simp only [M.isBr, Bool.and_eq_true, beq_iff_eq] at hb
 unfold M.qee at hy
 split at hy
 ·unfold M.marked at hy
  obtain ⟨j, hj, rfl, hs⟩ := qfY.1 hy
  unfold M.qkC
  rw [Bool.not_eq_true', Bool.and_eq_false_iff, decide_eq_false_iff_not, beq_eq_false_iff_ne]
  rcases h.pos k (by omega) (by omega) with hm | ⟨u, v, hr, h1, h2⟩
  ·omega
  ·by_cases hjn : (j : Int) < (p.length : Int)
   ·right
    have hN : M.Node p (k : Int) := ⟨h.ok, by omega, by omega⟩
    have hR := (qdx h.ok (qfu hN).1 ⟨by omega, by omega⟩).1 hs
    have := h.inside hr h1 h2 hb.1 hR
    have := hr.ops _ this.1 this.2
    omega
   ·exact .inl hjn
 ·simp at hy
end Go.V
namespace Go.V
open IntKind (wrap)
def Ends (p : List D.Ins) : Nat → D.Lane → Prop
 | 0, l => l.Pc = (p.length : Int)
 | c + 1, l => l.Pc = (p.length : Int) ∨ (l.Pc < (p.length : Int) ∧ (M.qbu (rd p l.Pc) = true → Ends p c (M.step p l)) ∧ (M.qbu (rd p l.Pc) = false → ∀ r, M.qgt r = true → Ends p c ⟨l.Thread, l.Pc + 1, r⟩))
theorem Ends.mono {p : List D.Ins} : ∀ {c d : Nat} {l : D.Lane}, Ends p c l → c ≤ d → Ends p d l
 | 0, 0, l, h, _ => h
 | 0, d + 1, l, h, _ => .inl h
 | c + 1, 0, l, h, hd => by omega
 | c + 1, d + 1, l, h, hd => h.imp id fun ⟨h1, h2, h3⟩ => ⟨h1, fun e => (h2 e).mono (by omega), fun e r hr => (h3 e r hr).mono (by omega)⟩
theorem Ends.go {p : List D.Ins} {k : Nat} {l : D.Lane} (h : Ends p k l) (e : l.Pc ≠ (p.length : Int)) (hl : M.qbu (rd p l.Pc) = true) : ∃ j, k = j + 1 ∧ Ends p j (M.step p l) := by
 cases k with
 | zero => exact absurd h e
 | succ k => exact ⟨k, rfl, (h.resolve_left e).2.1 hl⟩
theorem Ends.mem {p : List D.Ins} {k : Nat} {l : D.Lane} (h : Ends p k l) (e : l.Pc ≠ (p.length : Int)) (hl : M.qbu (rd p l.Pc) = false) : ∃ j, k = j + 1 ∧ ∀ r, M.qgt r = true → Ends p j ⟨l.Thread, l.Pc + 1, r⟩ := by
 cases k with
 | zero => exact absurd h e
 | succ k => exact ⟨k, rfl, (h.resolve_left e).2.2 hl⟩
theorem Ends.step {p : List D.Ins} {c : Nat} {l : D.Lane} {x : Int} {i : D.Ins} (hx : l.Pc = x) (hlt : x < (p.length : Int)) (hi : rd p x = i) (hl : M.qbu i = true) (h : Ends p c (M.step p l)) : Ends p (c + 1) l := by
 subst hx hi
 exact .inr ⟨hlt, fun _ => h, fun e => by rw [hl] at e; cases e⟩
def G (a n : Nat) : Nat := a * n / 6
theorem qlt (a x y : Nat) : G a x + G a y ≤ G a (x + y) := by
 unfold G; rw [Nat.mul_add]; omega
theorem qnQ {a : Nat} (h : 6 ≤ a) : 1 ≤ G a 1 := by unfold G; omega
theorem qo6 (a : Nat) : G a 6 = a := by unfold G; omega
theorem qj4 {p : List D.Ins} {b c : Nat} (hb : b + 6 ≤ p.length)
    (a1 : rd p ((b + 1 : Nat) : Int) = ⟨10, 3, ((b + 6 : Nat) : Int), 0⟩) (a2 : rd p ((b + 2 : Nat) : Int) = ⟨3, 0, 0, 1⟩)
    (a3 : rd p ((b + 3 : Nat) : Int) = ⟨1, 2, 1, 0⟩) (a4 : rd p ((b + 4 : Nat) : Int) = ⟨4, 3, 3, 2⟩) (a5 : rd p ((b + 5 : Nat) : Int) = ⟨11, 0, ((b + 1 : Nat) : Int), 0⟩) {th : Int}
    (k : ∀ m, M.qfB p m = true → m.Thread = th → m.Pc = ((b + 6 : Nat) : Int) → Ends p c m) :
    ∀ (t : Nat) (l : D.Lane), t ≤ 23 → l.Pc = ((b + 1 : Nat) : Int) → M.qfB p l = true → l.Thread = th → rd l.Regs 3 = (t : Int) → Ends p (c + (5 * t + 1)) l
 | t, l, ht, hpc, hok, hth, h3 => by
  have hnext : (M.step p l).Pc = if rd l.Regs 3 = 0 then ((b + 6 : Nat) : Int) else ((b + 2 : Nat) : Int) := by
   show M.next p l.Pc l.Regs = _
   unfold M.next
   rw [hpc, a1, if_neg (show ¬ (10 : Int) = 12 by decide), if_neg (show ¬ (10 : Int) = 11 by decide), if_pos rfl]
   split <;> (push_cast; omega)
  have hreg : (M.step p l).Regs = l.Regs := by
   show M.apply (rd p l.Pc) l.Thread l.Regs = _
   rw [hpc, a1]; rfl
  have ok1 := qdi hok (by omega : l.Pc < (p.length : Int))
  have th1 : (M.step p l).Thread = th := hth
  cases t with
  | zero =>
   rw [if_pos (show rd l.Regs 3 = 0 from h3)] at hnext
   exact Ends.step hpc (by omega) a1 rfl (k _ ok1 th1 hnext)
  | succ t =>
   rw [if_neg (by rw [h3]; omega)] at hnext
   rw [show c + (5 * (t + 1) + 1) = (c + (5 * t + 1) + 1 + 1 + 1 + 1) + 1 by omega]
   refine Ends.step hpc (by omega) a1 rfl ?_
   generalize M.step p l = l1 at *
   have hl1 : l1.Regs.length = 4 := (qht ok1).2.2.2
   have h31 : rd l1.Regs 3 = ((t + 1 : Nat) : Int) := by rw [hreg]; exact h3
   obtain ⟨p2, r2, t2⟩ := qi3 hnext a2 (by decide) (by decide) (by decide)
   have ok2 := qdi ok1 (by omega : l1.Pc < (p.length : Int))
   refine Ends.step hnext (by omega) a2 rfl ?_
   generalize M.step p l1 = l2 at *
   have e2 : l2.Regs = l1.Regs.set 0 (M.addW (rd l1.Regs 0) (rd l1.Regs 1)) := r2
   have hl2 : l2.Regs.length = 4 := by rw [e2, List.length_set]; exact hl1
   have h32 : rd l2.Regs 3 = ((t + 1 : Nat) : Int) := by
    rw [e2]
    have := qiH hl1 (a := 0) (b := 3) (by omega) (by omega) (M.addW (rd l1.Regs 0) (rd l1.Regs 1))
    rw [if_neg (by omega)] at this
    exact this.trans h31
   obtain ⟨p3, r3, t3⟩ := qi3 p2 a3 (by decide) (by decide) (by decide)
   have ok3 := qdi ok2 (by omega : l2.Pc < (p.length : Int))
   refine Ends.step p2 (by omega) a3 rfl ?_
   generalize M.step p l2 = l3 at *
   have e3 : l3.Regs = l2.Regs.set 2 1 := r3
   have hl3 : l3.Regs.length = 4 := by rw [e3, List.length_set]; exact hl2
   have h33 : rd l3.Regs 3 = ((t + 1 : Nat) : Int) := by
    rw [e3]
    have := qiH hl2 (a := 2) (b := 3) (by omega) (by omega) 1
    rw [if_neg (by omega)] at this
    exact this.trans h32
   have h23 : rd l3.Regs 2 = 1 := by
    rw [e3]
    have := qiH hl2 (a := 2) (b := 2) (by omega) (by omega) 1
    rw [if_pos rfl] at this
    exact this
   obtain ⟨p4, r4, t4⟩ := qi3 p3 a4 (by decide) (by decide) (by decide)
   have ok4 := qdi ok3 (by omega : l3.Pc < (p.length : Int))
   refine Ends.step p3 (by omega) a4 rfl ?_
   generalize M.step p l3 = l4 at *
   have e4 : l4.Regs = l3.Regs.set 3 (M.subW (rd l3.Regs 3) (rd l3.Regs 2)) := r4
   have h34 : rd l4.Regs 3 = (t : Int) := by
    rw [e4]
    have := qiH hl3 (a := 3) (b := 3) (by omega) (by omega) (M.subW (rd l3.Regs 3) (rd l3.Regs 2))
    rw [if_pos rfl] at this
    refine this.trans ?_
    rw [h33, h23]
    have w1 : M.isWord ((t + 1 : Nat) : Int) = true := by simp only [M.isWord, M.isIn, Bool.and_eq_true, decide_eq_true_eq]; omega
    have w2 : M.isWord 1 = true := by decide
    unfold M.subW
    rw [w1, w2, Bool.true_and, if_pos rfl]
    omega
   have p5 : (M.step p l4).Pc = ((b + 1 : Nat) : Int) := by
    show M.next p l4.Pc l4.Regs = _
    unfold M.next
    rw [show l4.Pc = ((b + 5 : Nat) : Int) from p4, a5, if_neg (show ¬ (11 : Int) = 12 by decide), if_pos rfl]
   have r5 : (M.step p l4).Regs = l4.Regs := by
    show M.apply (rd p l4.Pc) l4.Thread l4.Regs = _
    rw [show l4.Pc = ((b + 5 : Nat) : Int) from p4, a5]; rfl
   have ok5 := qdi ok4 (by rw [show l4.Pc = ((b + 5 : Nat) : Int) from p4]; omega : l4.Pc < (p.length : Int))
   refine Ends.step p4 (by omega) a5 rfl ?_
   exact qj4 hb a1 a2 a3 a4 a5 k t _ (by omega) p5 ok5 (by show l4.Thread = th; rw [t4, t3, t2]; exact th1) (by rw [r5]; exact h34)
theorem qmL {p : List D.Ins} {b : Nat} {s : List D.Ins} (h : Seg b s) {t : Nat} (ht : t ≤ 23) : Lies p b s → ∀ c : Nat, (∀ m, M.qfB p m = true → m.Thread = (t : Int) → m.Pc = ((b + s.length : Nat) : Int) → Ends p c m) →
    ∀ l : D.Lane, M.qfB p l = true → l.Thread = (t : Int) → l.Pc = (b : Int) → Ends p (c + G (5 * t + 6) s.length) l := by
 have one := qnQ (a := 5 * t + 6) (by omega)
 induction h with
 | nil b => exact fun _ c k l hl hth hpc => (k l hl hth (by simpa using hpc)).mono (by omega)
 | @cat b s u _ _ ih1 ih2 =>
  intro ha c k l hl hth hpc
  rw [List.length_append, ← Nat.add_assoc] at k
  have := qlt (5 * t + 6) s.length u.length
  refine Ends.mono (ih1 ha.left (c + G (5 * t + 6) u.length) (fun m g1 g2 g3 => ih2 ha.right c k m g1 g2 g3) l hl hth hpc) ?_
  rw [List.length_append]; omega
 | @one b i hp =>
  intro ha c k l hl hth hpc
  have hlt := ha.1
  simp only [List.length_cons, List.length_nil, Nat.zero_add] at hlt k ⊢
  have hi := ha.head
  have hloc := (qkf hp (n := 0) (by omega)).2
  simp only [qgF, M.isIn, Bool.and_eq_true, decide_eq_true_eq] at hp
  obtain ⟨g1, _, g3⟩ := qi3 hpc hi (by omega) (by omega) (by omega)
  exact (Ends.step hpc (by omega) hi hloc (k _ (qdi hl (by omega)) (g3.trans hth) g1)).mono (by omega)
 | @thn b r s h0 h3 _ ih =>
  intro ha c k l hl hth hpc
  have hlt := ha.1
  rw [List.length_cons] at hlt k ⊢
  have hi := ha.head
  have hnext : (M.step p l).Pc = if rd l.Regs r = 0 then ((b + 1 + s.length : Nat) : Int) else ((b + 1 : Nat) : Int) := by
   show M.next p l.Pc l.Regs = _
   unfold M.next
   rw [hpc, hi, if_neg (show ¬ (10 : Int) = 12 by decide), if_neg (show ¬ (10 : Int) = 11 by decide), if_pos rfl]
   split <;> (push_cast; omega)
  have hok := qdi hl (by omega : l.Pc < (p.length : Int))
  have hadd := qlt (5 * t + 6) s.length 1
  refine Ends.mono (c := c + G (5 * t + 6) s.length + 1) (Ends.step hpc (by omega) hi rfl ?_) (by omega)
  rw [show b + (s.length + 1) = b + 1 + s.length by omega] at k
  split at hnext
  ·exact (k _ hok hth hnext).mono (by omega)
  ·exact ih ha.tail c k _ hok hth hnext
 | @els b r s u h0 h3 _ _ ih1 ih2 =>
  intro ha c k l hl hth hpc
  have hlt := ha.1
  rw [List.length_cons, List.length_append, List.length_cons] at hlt k ⊢
  rw [show b + (s.length + (u.length + 1) + 1) = b + 2 + s.length + u.length by omega] at k
  have hi := ha.head
  have hat := ha.tail
  have har := hat.right
  have hj := har.head
  have h2 := har.tail
  rw [show b + 1 + s.length + 1 = b + 2 + s.length by omega] at h2
  have hnext : (M.step p l).Pc = if rd l.Regs r = 0 then ((b + 2 + s.length : Nat) : Int) else ((b + 1 : Nat) : Int) := by
   show M.next p l.Pc l.Regs = _
   unfold M.next
   rw [hpc, hi, if_neg (show ¬ (10 : Int) = 12 by decide), if_neg (show ¬ (10 : Int) = 11 by decide), if_pos rfl]
   split <;> (push_cast; omega)
  have hok := qdi hl (by omega : l.Pc < (p.length : Int))
  have g1 := qlt (5 * t + 6) s.length (u.length + 1 + 1)
  have g2 := qlt (5 * t + 6) (u.length + 1) 1
  have g3 := qlt (5 * t + 6) u.length 1
  rw [show s.length + (u.length + 1) + 1 = s.length + (u.length + 1 + 1) by omega]
  refine Ends.mono (c := c + 1 + G (5 * t + 6) s.length + G (5 * t + 6) u.length + 1) (Ends.step hpc (by omega) hi rfl ?_) (by omega)
  split at hnext
  ·exact (ih2 h2 c k _ hok hth hnext).mono (by omega)
  ·refine Ends.mono (c := c + 1 + G (5 * t + 6) s.length) (ih1 hat.left (c + 1) (fun m m1 m2 m3 => ?_) _ hok hth hnext) (by omega)
   refine Ends.step m3 (by omega) hj rfl (k _ (qdi m1 (by omega)) m2 ?_)
   show M.next p m.Pc m.Regs = _
   unfold M.next
   rw [m3, hj, if_neg (show ¬ (11 : Int) = 12 by decide), if_pos rfl]
 | @loop b hb =>
  intro ha c k l hl hth hpc
  have hlt := ha.1
  simp only [List.length_cons, List.length_nil, Nat.zero_add] at hlt k ⊢
  have g : ∀ j : Nat, j < 6 → _ := ha.2
  have hi := ha.head
  obtain ⟨g1, g2, g3⟩ := qi3 hpc hi (by decide) (by decide) (by decide)
  have hok := qdi hl (by omega : l.Pc < (p.length : Int))
  have hI := (qht hl).2
  have e : (M.step p l).Regs = l.Regs.set 3 l.Thread := g2
  have h3 : rd (M.step p l).Regs 3 = (t : Int) := by
   rw [e]
   have := qiH hI.2.2 (a := 3) (b := 3) (by omega) (by omega) l.Thread
   rw [if_pos rfl] at this
   exact this.trans hth
  have h6 : G (5 * t + 6) (1 + 1 + 1 + 1 + 1 + 1) = 5 * t + 6 := qo6 _
  rw [h6]
  exact Ends.mono (Ends.step hpc (by omega) hi rfl (qj4 hlt (g 1 (by omega)) (g 2 (by omega)) (g 3 (by omega)) (g 4 (by omega)) (g 5 (by omega)) (th := (t : Int)) k t _ ht g1 hok hth h3)) (by omega)
theorem qmq {p : List D.Ins} {b : Nat} {s : List D.Ins} (h : MSeg b s) {t : Nat} (ht : t ≤ 23) : Lies p b s → ∀ c : Nat, (∀ m, M.qfB p m = true → m.Thread = (t : Int) → m.Pc = ((b + s.length : Nat) : Int) → Ends p c m) →
    ∀ l : D.Lane, M.qfB p l = true → l.Thread = (t : Int) → l.Pc = (b : Int) → Ends p (c + G (5 * t + 6) s.length) l := by
 have one := qnQ (a := 5 * t + 6) (by omega)
 induction h with
 | nil b => exact fun _ c k l hl hth hpc => (k l hl hth (by simpa using hpc)).mono (by omega)
 | @cat b s u _ _ ih1 ih2 =>
  intro ha c k l hl hth hpc
  rw [List.length_append, ← Nat.add_assoc] at k
  have := qlt (5 * t + 6) s.length u.length
  refine Ends.mono (ih1 ha.left (c + G (5 * t + 6) u.length) (fun m g1 g2 g3 => ih2 ha.right c k m g1 g2 g3) l hl hth hpc) ?_
  rw [List.length_append]; omega
 | @seg b s hs => exact qmL hs ht
 | @mem b i hm =>
  intro ha c k l hl hth hpc
  have hlt := ha.1
  simp only [List.length_cons, List.length_nil, Nat.zero_add] at hlt k ⊢
  have hi := ha.head
  simp only [memI, M.isIn, Bool.and_eq_true, decide_eq_true_eq] at hm
  have hloc : M.qbu i = false := by
   cases e : M.qbu i with
   | false => rfl
   | true => simp only [M.qbu, M.isIn, Bool.and_eq_true, decide_eq_true_eq] at e; omega
  refine Ends.mono (c := c + 1) (.inr ⟨by omega, fun e => ?_, fun _ r hr => k ⟨l.Thread, l.Pc + 1, r⟩ ?_ hth (by show l.Pc + 1 = _; rw [hpc]; push_cast; rfl)⟩) (by omega)
  ·rw [hpc, hi, hloc] at e; cases e
  ·simp only [M.qfB, M.qkm, M.isIn, Bool.and_eq_true, decide_eq_true_eq] at hl ⊢
   exact ⟨hl.1, hl.2.1, ⟨by omega, by omega⟩, hr⟩
theorem qmU {p : List D.Ins} (h : MSeg 0 p) (hp : M.qat p = true) {t : Nat} (ht : t ≤ 23) : Ends p (G (5 * t + 6) p.length) (M.qhA (t : Int)) := by
 have hl0 : M.qhA (t : Int) = ⟨(t : Int), 0, [0, 0, 0, 0]⟩ := by
  unfold M.qhA
  rw [if_pos (by simp only [M.isIn, Bool.and_eq_true, decide_eq_true_eq]; omega)]
 have hok : M.qfB p (M.qhA (t : Int)) = true := by
  rw [hl0]
  unfold M.qfB M.qkm M.qgt
  rw [hp]
  simp only [M.isIn, Bool.and_eq_true, decide_eq_true_eq]
  exact ⟨trivial, ⟨by omega, by omega⟩, ⟨by omega, by omega⟩, rfl, rfl⟩
 have := qmq h ht (Lies.all p) 0 (fun m _ _ hm => by rw [Nat.zero_add] at hm; exact hm) _ hok (by rw [hl0]) (by rw [hl0]; rfl)
 rwa [Nat.zero_add] at this
end Go.V
namespace Go.V
open IntKind (wrap)
structure WInv (p : List D.Ins) (x : D.Warp) (rem : Nat → Nat) : Prop where
 stk : x.Frames = [] ∨ Stk p.length x.Frames.reverse
 pd : ∀ f ∈ x.Frames, PD p f.Pc f.Stop
 lane : ∀ i : Nat, i < 8 → Ends p (rem i) ⟨x.Number * 8 + (i : Int), loc p.length x.Frames.reverse i, M.qcc x.Regs i⟩
 inn : x.Frames.length ≤ 1 ∨ ∃ u v, Region p u v ∧ ∀ f ∈ x.Frames.tail, u ≤ f.Pc ∧ f.Pc ≤ v ∧ u ≤ f.Stop ∧ f.Stop ≤ v
theorem qj0 {α : Type} {l : List α} (h : l.length ≤ 1) : l.tail = [] := by
 cases l with
 | nil => rfl
 | cons a l => rw [List.length_cons] at h; rw [List.tail_cons]; exact List.length_eq_zero_iff.1 (by omega)
theorem qiW (fs : List D.Frame) (n : Int) : ∀ k, ∃ j, M.qhx fs n k = fs.take j
 | 0 => ⟨0, rfl⟩
 | k + 1 => by
  rw [M.qhx]
  split
  ·exact ⟨k + 1, rfl⟩
  ·exact qiW fs n k
theorem qlW {α : Type} {f : α} : ∀ {l : List α} {j : Nat}, f ∈ (l.take j).tail → f ∈ l.tail
 | [], j, h => by simp at h
 | a :: l, 0, h => by simp at h
 | a :: l, j + 1, h => by rw [List.take_succ_cons, List.tail_cons] at h; exact List.mem_of_mem_take h
theorem WInv.drop {p : List D.Ins} {x : D.Warp} {rem : Nat → Nat} (h : WInv p x rem) : WInv p (M.qgG x p.length) rem := by
 have hs : x.Frames.reverse = [] ∨ Stk p.length x.Frames.reverse := h.stk.imp (fun e => by rw [e]; rfl) id
 obtain ⟨k1, k2⟩ := qjb x.Frames.reverse hs fun f hf => h.pd f (List.mem_reverse.1 hf)
 rw [← qjJ] at k1 k2
 obtain ⟨j, hj⟩ := qiW x.Frames p.length x.Frames.length
 have hj : (M.qgG x p.length).Frames = x.Frames.take j := hj
 refine ⟨k1.imp (fun e => List.reverse_eq_nil_iff.1 e) id, fun f hf => h.pd f ?_, fun i hi => ?_, h.inn.imp (fun e => ?_) fun ⟨u, v, g1, g2⟩ => ⟨u, v, g1, fun f hf => g2 f ?_⟩⟩
 ·have : f ∈ qhT p.length x.Frames.reverse := by rw [← qjJ]; exact List.mem_reverse.2 hf
  exact List.mem_reverse.1 (qk4 _ _ f this)
 ·have := h.lane i hi
  rw [← k2 i hi] at this
  exact this
 ·rw [hj, List.length_take]; omega
 ·rw [hj] at hf; exact qlW hf
theorem WInv.qlP {p : List D.Ins} {x : D.Warp} {rem : Nat → Nat} (h : WInv p x rem) (hS : Shaped p) (hr : M.Runs p x) (hl : 1 < x.Frames.length) {u v : Int} (g1 : Region p u v) (g2 : ∀ f ∈ x.Frames.tail, u ≤ f.Pc ∧ f.Pc ≤ v ∧ u ≤ f.Stop ∧ f.Stop ≤ v) : u ≤ M.qbw x ∧ M.qbw x < v := by
 obtain ⟨e1, e2⟩ := qh2 hr
 obtain ⟨bs, hbs⟩ := qjs hr.2.2
 have hm : M.qb3 x.Frames ∈ x.Frames.tail := by
  cases bs with
  | nil => rw [hbs] at hl; simp at hl
  | cons f0 bs =>
   have e : x.Frames.tail = bs ++ [M.qb3 x.Frames] := by
    conv => lhs; rw [hbs]
    rfl
   rw [e]
   exact List.mem_append_right _ (List.mem_singleton.2 rfl)
 have hb := g2 _ hm
 have hpd := h.pd _ (qfs hr.2.2)
 have l1 := g1.hi
 have l0 := g1.lo
 have l2 := g1.in_.le
 refine ⟨hb.1, ?_⟩
 show (M.qb3 x.Frames).Pc < v
 by_cases e : (M.qb3 x.Frames).Pc = v
 ·exact absurd (hS.way (a := v) (by omega) g1.rest (by omega) (by omega) (by omega)) hpd
 ·omega
theorem WInv.step {p : List D.Ins} {x : D.Warp} {rem : Nat → Nat} (hS : Shaped p) (h : WInv p x rem) (hF : M.Fine p x) (hx : x.Frames ≠ []) (hlocal : M.qbu (M.qar p x) = true) :
    M.qca p x = true ∧ ∃ rem' : Nat → Nat, WInv p (M.stepW p x) rem' ∧ ∀ i : Nat, i < 8 → rem i = rem' i + if M.qaB (M.qbb x) (i : Int) = true then 1 else 0 := by
 have hr : M.Runs p x := ⟨hF.1, hF.2, hx⟩
 obtain ⟨t1, t2, t3, t4, t5, t6, t7, t8, t9⟩ := qdg hr
 obtain ⟨f1, f2, f3, f4, f5, f6⟩ := qf0 hr
 obtain ⟨e1, e2⟩ := qh2 hr
 have hact := qec hx
 obtain ⟨bs, hbs⟩ := qjs hx
 have hrev : x.Frames.reverse = M.qb3 x.Frames :: bs.reverse := by
  conv => lhs; rw [hbs]
  rw [List.reverse_append, List.reverse_singleton, List.singleton_append]
 have hstk := h.stk.resolve_left hx
 rw [hrev] at hstk
 have hpdf := h.pd _ (qfs hx)
 have hpdb : ∀ f ∈ bs, PD p f.Pc f.Stop := fun f hf => h.pd f (by rw [hbs]; exact List.mem_append_left _ hf)
 have hlen : x.Frames.length ≤ 15 := by
  have h1 := hstk.long _ _ rfl
  have h2 : (M.qb3 x.Frames :: bs.reverse).length = x.Frames.length := by rw [← hrev, List.length_reverse]
  obtain ⟨i, hi, hh⟩ := qiu f5 e2
  have := count_one hi hh
  rw [h2] at h1
  omega
 have hl : M.qca p x = true := by
  unfold M.qca
  rw [hlocal]
  have : x.Frames.isEmpty = false := by simpa using hx
  rw [this, decide_eq_true (by omega : x.Frames.length ≤ 22)]
  simp
 refine ⟨hl, ?_⟩
 have hloc : ∀ i : Nat, loc p.length x.Frames.reverse i = if M.qaB (M.qb3 x.Frames).Mask (i : Int) = true then M.qbw x else loc p.length bs.reverse i := fun i => by rw [hrev]; rfl
 -- lanes: those active go one step
 have hgo : ∀ i : Nat, i < 8 → M.qaB (M.qb3 x.Frames).Mask (i : Int) = true → ∃ j, rem i = j + 1 ∧ Ends p j ⟨x.Number * 8 + (i : Int), M.next p (M.qbw x) (M.qcc x.Regs i), M.apply (M.qar p x) (x.Number * 8 + (i : Int)) (M.qcc x.Regs i)⟩ := fun i hi ha => by
  have hL := h.lane i hi
  rw [hloc i, if_pos ha] at hL
  exact hL.go (by show M.qbw x ≠ _; omega) hlocal
 let rem' : Nat → Nat := fun i => if M.qaB (M.qb3 x.Frames).Mask (i : Int) = true then rem i - 1 else rem i
 have hrem : ∀ i : Nat, i < 8 → rem i = rem' i + if M.qaB (M.qbb x) (i : Int) = true then 1 else 0 := fun i hi => by
  rw [hact]
  show rem i = (if _ then _ else _) + _
  by_cases ha : M.qaB (M.qb3 x.Frames).Mask (i : Int) = true
  ·obtain ⟨j, hj, _⟩ := hgo i hi ha
   rw [if_pos ha, if_pos ha]; omega
  ·rw [if_neg ha, if_neg ha]; rfl
 refine ⟨rem', ?_, hrem⟩
 unfold M.stepW
 by_cases hs : M.splits p x = true
 ·rw [if_pos hs]
  obtain ⟨⟨h10, hB⟩, hz0, hzm⟩ := qhf hs
  have hbr := qgi hr ⟨h10, hB⟩
  obtain ⟨m1, m2, m3⟩ := qiB (x := x) (reg := (M.qar p x).A) (by rw [hact]; exact f5)
  have hz := fun (i : Nat) (hi : i < 8) => qkQ (x := x) (reg := (M.qar p x).A) hi
  have hm := fun (i : Nat) (hi : i < 8) => qmg (x := x) (reg := (M.qar p x).A) (by rw [hact]; exact f5) hi
  rw [hact] at m2 m3 hz hm
  have hreg := qgZ t7 h10
  have hN : M.Node p (M.qbw x) := ⟨hF.1, by omega, by omega⟩
  have hnx : M.qbq p (M.qbw x) = M.qgv (M.qbw x + 1) (M.qar p x).B := by
   unfold M.qbq
   rw [if_neg (by omega), show rd p (M.qbw x) = M.qar p x from rfl, if_neg (by omega), if_neg (by omega), if_pos h10]
  have hn1 : M.qbw x + 1 ∈ M.qbq p (M.qbw x) := by rw [hnx, qeX]; simp
  have hn2 : (M.qar p x).B ∈ M.qbq p (M.qbw x) := by rw [hnx, qeX]; simp
  have hin1 := (qfu hN).1 _ hn1
  have hin2 := (qfu hN).1 _ hn2
  have hnext : ∀ i : Nat, i < 8 → M.next p (M.qbw x) (M.qcc x.Regs i) = if rd x.Regs ((i : Int) * 4 + (M.qar p x).A) = 0 then (M.qar p x).B else M.qbw x + 1 := fun i hi => by
   unfold M.next
   rw [show rd p (M.qbw x) = M.qar p x from rfl, if_neg (by omega), if_neg (by omega), if_pos h10, qmk t4 hi hreg]
  have happ : ∀ i : Nat, M.apply (M.qar p x) (x.Number * 8 + (i : Int)) (M.qcc x.Regs i) = M.qcc x.Regs i := fun i => by
   unfold M.apply
   rw [if_neg (by omega), if_neg (by omega), if_neg (by omega), if_neg (by omega), if_neg (by omega), if_neg (by omega), if_neg (by omega), if_neg (by omega), if_neg (by omega)]
  -- a lane on each side
  obtain ⟨iz, hiz, hzi⟩ := qiu m1 hz0
  obtain ⟨im, him, hmi⟩ : ∃ i : Nat, i < 8 ∧ M.qaB (qdK .i64 (M.qb3 x.Frames).Mask (M.qbE x (M.qar p x).A)) (i : Int) = true := by
   have : ∃ i : Nat, i < 8 ∧ M.qaB (M.qb3 x.Frames).Mask (i : Int) = true ∧ ¬ M.qaB (M.qbE x (M.qar p x).A) (i : Int) = true := by
    apply Classical.byContradiction
    intro hno
    apply hzm
    refine qmP m1 f5 fun i hi => ?_
    by_cases g : M.qaB (M.qb3 x.Frames).Mask (i : Int) = true
    ·have : M.qaB (M.qbE x (M.qar p x).A) (i : Int) = true := by
       apply Classical.byContradiction
       intro g'
       exact hno ⟨i, hi, g, g'⟩
     rw [g, this]
    ·have : ¬ M.qaB (M.qbE x (M.qar p x).A) (i : Int) = true := fun g' => g ((hz i hi).1 g').1
     rw [Bool.not_eq_true] at g this
     rw [g, this]
   obtain ⟨i, hi, g⟩ := this
   exact ⟨i, hi, (hm i hi).2 g⟩
  have hmz := (hm im him).1 hmi
  have hzz := (hz iz hiz).1 hzi
  have hmnz : ¬ rd x.Regs ((im : Int) * 4 + (M.qar p x).A) = 0 := fun g => hmz.2 ((hz im him).2 ⟨hmz.1, g⟩)
  -- both successors reach the exit
  obtain ⟨u, v, hreg_, hu, hv, hold⟩ : ∃ u v, Region p u v ∧ u ≤ M.qbw x ∧ M.qbw x < v ∧ ∀ f ∈ x.Frames.tail, u ≤ f.Pc ∧ f.Pc ≤ v ∧ u ≤ f.Stop ∧ f.Stop ≤ v := by
   rcases h.inn with hl1 | ⟨u, v, g1, g2⟩
   ·rcases hS.pos (M.qbw x) (by omega) (by omega) with hm | ⟨u, v, g1, g2, g3⟩
    ·rw [show rd p (M.qbw x) = M.qar p x from rfl] at hm; omega
    ·exact ⟨u, v, g1, g2, g3, fun f hf => by rw [qj0 hl1] at hf; cases hf⟩
   ·by_cases hl1 : x.Frames.length ≤ 1
    ·rcases hS.pos (M.qbw x) (by omega) (by omega) with hm | ⟨u, v, g1, g2, g3⟩
     ·rw [show rd p (M.qbw x) = M.qar p x from rfl] at hm; omega
     ·exact ⟨u, v, g1, g2, g3, fun f hf => by rw [qj0 hl1] at hf; cases hf⟩
    ·have := h.qlP hS hr (by omega) g1 g2
     exact ⟨u, v, g1, this.1, this.2, g2⟩
  obtain ⟨j1, j2, j3, hpdj, hlater⟩ := hS.join hreg_ hu hv (by rw [show rd p (M.qbw x) = M.qar p x from rfl]; exact h10)
  have hjne : M.qbw x ≠ M.qde p (M.qbw x) := Ne.symm j3
  have hin1' := hreg_.in_.inn _ _ hu hv hn1
  have hin2' := hreg_.in_.inn _ _ hu hv hn2
  have hstop : M.qcO p (M.qb3 x.Frames).Stop := by
   have := List.all_eq_true.1 f1 _ (qfs hx)
   simp only [M.qd1, M.isIn, Bool.and_eq_true, decide_eq_true_eq] at this
   exact this.2.1
  have hpds : PD p (M.qde p (M.qbw x)) (M.qb3 x.Frames).Stop := hlater _ hstop (Ne.symm e1) hpdf
  apply WInv.drop
  let P : D.Frame := ⟨M.qde p (M.qbw x), (M.qb3 x.Frames).Stop, (M.qb3 x.Frames).Mask⟩
  let A : D.Frame := ⟨M.qbw x + 1, M.qde p (M.qbw x), qdK .i64 (M.qb3 x.Frames).Mask (M.qbE x (M.qar p x).A)⟩
  let B : D.Frame := ⟨(M.qar p x).B, M.qde p (M.qbw x), M.qbE x (M.qar p x).A⟩
  have hfr : (M.separated p x).Frames = bs ++ [P] ++ [A, B] := by
   show M.qcP x.Frames _ ++ _ = _
   congr 1
   conv => lhs; rw [hbs]
   exact qhj bs _ _
  have hrev' : (M.separated p x).Frames.reverse = B :: A :: P :: bs.reverse := by
   rw [hfr]; simp
  have hnum : (M.separated p x).Number = x.Number := rfl
  have hregs : (M.separated p x).Regs = x.Regs := rfl
  refine ⟨.inr ?_, fun f hf => ?_, fun i hi => ?_, .inr ⟨u, v, hreg_, fun f hf => ?_⟩⟩
  ·rw [hrev']
   refine .two (hstk.set _) ⟨rfl, fun i hi g => ((hm i hi).1 g).1, ?_⟩ ⟨rfl, fun i hi g => ((hz i hi).1 g).1, ?_⟩ fun i hi g => ((hm i hi).1 g).2
   ·exact qgz hzz.1 (fun g => ((hm iz hiz).1 g).2 hzi) 8 (Nat.le_refl _) hiz fun i hi g => ((hm i hi).1 g).1
   ·exact qgz hmz.1 hmz.2 8 (Nat.le_refl _) him fun i hi g => ((hz i hi).1 g).1
  ·rw [hfr] at hf
   rcases List.mem_append.1 hf with hf | hf
   ·rcases List.mem_append.1 hf with hf | hf
    ·exact hpdb f hf
    ·obtain rfl := List.mem_singleton.1 hf
     exact hpds
   ·simp only [List.mem_cons, List.not_mem_nil, or_false] at hf
    rcases hf with rfl | rfl
    ·exact hpdj.next hjne hn1
    ·exact hpdj.next hjne hn2
  ·rw [hrev', hnum, hregs]
   show Ends p (if _ then _ else _) ⟨_, (if M.qaB (M.qbE x (M.qar p x).A) (i : Int) = true then (M.qar p x).B else if M.qaB (qdK .i64 (M.qb3 x.Frames).Mask (M.qbE x (M.qar p x).A)) (i : Int) = true then M.qbw x + 1 else if M.qaB (M.qb3 x.Frames).Mask (i : Int) = true then M.qde p (M.qbw x) else loc p.length bs.reverse i), _⟩
   by_cases ha : M.qaB (M.qb3 x.Frames).Mask (i : Int) = true
   ·obtain ⟨j, hj, hA⟩ := hgo i hi ha
    rw [hnext i hi, happ i] at hA
    rw [if_pos ha, hj, Nat.add_sub_cancel]
    by_cases g : rd x.Regs ((i : Int) * 4 + (M.qar p x).A) = 0
    ·rw [if_pos ((hz i hi).2 ⟨ha, g⟩)]
     rw [if_pos g] at hA
     exact hA
    ·have hnz : ¬ M.qaB (M.qbE x (M.qar p x).A) (i : Int) = true := fun g' => g ((hz i hi).1 g').2
     rw [if_neg hnz, if_pos ((hm i hi).2 ⟨ha, hnz⟩)]
     rw [if_neg g] at hA
     exact hA
   ·rw [if_neg ha, if_neg (fun g => ha ((hz i hi).1 g).1), if_neg (fun g => ha ((hm i hi).1 g).1), if_neg ha]
    have := h.lane i hi
    rw [hloc i, if_neg ha] at this
    exact this
  ·rw [hfr, List.append_assoc] at hf
   have hn3 : u ≤ P.Pc ∧ P.Pc ≤ v := ⟨j1, j2⟩
   have hA : u ≤ A.Pc ∧ A.Pc ≤ v ∧ u ≤ A.Stop ∧ A.Stop ≤ v := ⟨hin1'.1, hin1'.2, j1, j2⟩
   have hB' : u ≤ B.Pc ∧ B.Pc ≤ v ∧ u ≤ B.Stop ∧ B.Stop ≤ v := ⟨hin2'.1, hin2'.2, j1, j2⟩
   cases bs with
   | nil =>
    simp only [List.nil_append, List.singleton_append, List.tail_cons, List.mem_cons, List.not_mem_nil, or_false] at hf
    rcases hf with rfl | rfl
    ·exact hA
    ·exact hB'
   | cons f0 bs =>
    have ht : ∀ f ∈ bs ++ [M.qb3 x.Frames], u ≤ f.Pc ∧ f.Pc ≤ v ∧ u ≤ f.Stop ∧ f.Stop ≤ v := fun f hf => hold f (by rw [hbs]; exact hf)
    simp only [List.cons_append, List.tail_cons, List.mem_append, List.mem_cons, List.not_mem_nil, or_false, false_or] at hf
    rcases hf with hf | rfl | rfl | rfl
    ·exact ht f (List.mem_append_left _ hf)
    ·have := ht (M.qb3 x.Frames) (List.mem_append_right _ (List.mem_singleton.2 rfl))
     exact ⟨hn3.1, hn3.2, this.2.2.1, this.2.2.2⟩
    ·exact hA
    ·exact hB'
 ·rw [if_neg hs]
  have hs : M.splits p x = false := by simpa using hs
  apply WInv.drop
  have hfr : (M.advance p x).Frames = bs ++ [⟨M.qf6 p x, (M.qb3 x.Frames).Stop, (M.qb3 x.Frames).Mask⟩] := by
   show M.qcP x.Frames (M.qf6 p x) = _
   conv => lhs; rw [hbs]
   exact qhj bs _ _
  have hrev' : (M.advance p x).Frames.reverse = ⟨M.qf6 p x, (M.qb3 x.Frames).Stop, (M.qb3 x.Frames).Mask⟩ :: bs.reverse := by
   rw [hfr, List.reverse_append, List.reverse_singleton, List.singleton_append]
  refine ⟨.inr ?_, fun f hf => ?_, fun i hi => ?_, ?_⟩
  ·rw [hrev']; exact hstk.set _
  ·rw [hfr] at hf
   rcases List.mem_append.1 hf with hf | hf
   ·exact hpdb f hf
   ·obtain rfl := List.mem_singleton.1 hf
    exact hpdf.next e1 (qkq hr)
  ·rw [hrev']
   have hnum : (M.advance p x).Number = x.Number := rfl
   have hregs : (M.advance p x).Regs = M.qfm (M.qar p x) x.Number (M.qb3 x.Frames).Mask x.Regs := rfl
   rw [hnum, hregs, qjw t4 hi]
   show Ends p (if _ then _ else _) ⟨_, (if _ then _ else _), _⟩
   by_cases ha : M.qaB (M.qb3 x.Frames).Mask (i : Int) = true
   ·obtain ⟨j, hj, hA⟩ := hgo i hi ha
    rw [if_pos ha, if_pos ha, if_pos ha, hj, Nat.add_sub_cancel, ← qmi hr hs hi ha]
    exact hA
   ·rw [if_neg ha, if_neg ha, if_neg ha]
    have := h.lane i hi
    rw [hloc i, if_neg ha] at this
    exact this
  ·have hlen' : (M.advance p x).Frames.length = x.Frames.length := by rw [hfr, List.length_append, List.length_singleton]; conv => rhs; rw [hbs]; rw [List.length_append, List.length_singleton]
   rcases h.inn with hl1 | ⟨u, v, g1, g2⟩
   ·exact .inl (by rw [hlen']; exact hl1)
   by_cases hl1 : x.Frames.length ≤ 1
   ·exact .inl (by rw [hlen']; exact hl1)
   right
   have hti := h.qlP hS hr (by omega) g1 g2
   refine ⟨u, v, g1, fun f hf => ?_⟩
   rw [hfr] at hf
   cases bs with
   | nil => rw [hbs] at hl1; simp at hl1
   | cons f0 bs =>
    have ht : ∀ f ∈ bs ++ [M.qb3 x.Frames], u ≤ f.Pc ∧ f.Pc ≤ v ∧ u ≤ f.Stop ∧ f.Stop ≤ v := fun f hf => g2 f (by rw [hbs]; exact hf)
    simp only [List.cons_append, List.tail_cons, List.mem_append, List.mem_singleton] at hf
    rcases hf with hf | rfl
    ·exact ht f (List.mem_append_left _ hf)
    ·have h1 := ht (M.qb3 x.Frames) (List.mem_append_right _ (List.mem_singleton.2 rfl))
     have h2 := g1.in_.inn _ _ hti.1 hti.2 (qkq hr)
     exact ⟨h2.1, h2.2, h1.2.2.1, h1.2.2.2⟩
theorem qmW {rg : List Int} (h : rg.length = 32) (hw : rg.all M.isWord = true) {i : Nat} (hi : i < 8) : M.qgt (M.qcc rg i) = true := by
 unfold M.qgt
 rw [Bool.and_eq_true, beq_iff_eq, List.all_eq_true]
 refine ⟨qdW h hi, fun y hy => ?_⟩
 unfold M.qcc at hy
 exact List.all_eq_true.1 hw y (List.mem_of_mem_take (List.mem_of_mem_drop hy))
theorem WInv.pass {p : List D.Ins} {x : D.Warp} {rem : Nat → Nat} (hS : Shaped p) (h : WInv p x rem) (hF : M.Fine p x) (hx : x.Frames ≠ []) (hl : M.qbu (M.qar p x) = false) :
    x.Frames.length = 1 ∧ ∀ rg : List Int, rg.length = 32 → rg.all M.isWord = true → ∃ rem' : Nat → Nat, WInv p (M.qgf p ⟨x.Number, x.Frames, rg⟩) rem' ∧ ∀ i : Nat, i < 8 → rem i = rem' i + 1 := by
 have hr : M.Runs p x := ⟨hF.1, hF.2, hx⟩
 obtain ⟨t1, t2, t3, t4, t5, t6, t7, t8, t9⟩ := qdg hr
 obtain ⟨e1, e2⟩ := qh2 hr
 have hone : x.Frames.length ≤ 1 := by
  rcases h.inn with g | ⟨u, v, g1, g2⟩
  ·exact g
  ·apply Nat.not_lt.1
   intro hlt
   have hti := h.qlP hS hr hlt g1 g2
   have := g1.ops _ hti.1 hti.2
   rw [show rd p (M.qbw x) = M.qar p x from rfl] at this
   simp only [M.qbu, M.isIn, Bool.and_eq_false_iff, decide_eq_false_iff_not] at hl
   omega
 obtain ⟨bs, hbs⟩ := qjs hx
 have hbs0 : bs = [] := by
  have := hone
  rw [hbs, List.length_append, List.length_singleton] at this
  exact List.length_eq_zero_iff.1 (by omega)
 subst hbs0
 rw [List.nil_append] at hbs
 have hstk := h.stk.resolve_left hx
 rw [hbs] at hstk
 have hm : (M.qb3 x.Frames).Mask = 255 ∧ (M.qb3 x.Frames).Stop = (p.length : Int) := by
  cases hstk with
  | base h1 h2 => exact ⟨h1, h2⟩
 refine ⟨by rw [hbs]; rfl, fun rg h1 h2 => ⟨fun i => rem i - 1, ?_, ?_⟩⟩
 ·unfold M.qgf
  apply WInv.drop
  have hfr : M.qcP x.Frames (M.qbw x + 1) = [⟨M.qbw x + 1, (M.qb3 x.Frames).Stop, (M.qb3 x.Frames).Mask⟩] := by
   conv => lhs; rw [hbs]
   exact qhj [] _ _
  have hnx : M.qbw x + 1 ∈ M.qbq p (M.qbw x) := by
   have e : rd p (M.qbw x) = M.qar p x := rfl
   simp only [M.qbu, M.isIn, Bool.and_eq_false_iff, decide_eq_false_iff_not] at hl
   exact (qfU (by omega) (by rw [e]; omega) (by rw [e]; omega) (by rw [e]; omega)).2 rfl
  refine ⟨.inr ?_, fun f hf => ?_, fun i hi => ?_, .inl ?_⟩
  ·show Stk _ (M.qcP x.Frames (M.qbw x + 1)).reverse
   rw [hfr]
   exact .base hm.1 hm.2
  ·have hf : f ∈ M.qcP x.Frames (M.qbw x + 1) := hf
   rw [hfr] at hf
   obtain rfl := List.mem_singleton.1 hf
   exact (h.pd _ (qfs hx)).next e1 hnx
  ·show Ends p _ ⟨_, loc _ (M.qcP x.Frames (M.qbw x + 1)).reverse i, M.qcc rg i⟩
   rw [hfr]
   have hL := h.lane i hi
   have hl0 : loc p.length x.Frames.reverse i = M.qbw x := by
    rw [hbs]
    show (if M.qaB (M.qb3 x.Frames).Mask (i : Int) = true then (M.qb3 x.Frames).Pc else _) = _
    rw [hm.1, qgk hi, if_pos rfl]; rfl
   rw [hl0] at hL
   obtain ⟨j, hj, hE⟩ := hL.mem (by show M.qbw x ≠ _; omega) hl
   have hl1 : loc p.length [(⟨M.qbw x + 1, (M.qb3 x.Frames).Stop, (M.qb3 x.Frames).Mask⟩ : D.Frame)].reverse i = M.qbw x + 1 := by
    show (if M.qaB (M.qb3 x.Frames).Mask (i : Int) = true then M.qbw x + 1 else _) = _
    rw [hm.1, qgk hi, if_pos rfl]
   rw [hl1]
   show Ends p (rem i - 1) _
   rw [hj, Nat.add_sub_cancel]
   exact hE _ (qmW h1 h2 hi)
  ·show (M.qcP x.Frames (M.qbw x + 1)).length ≤ 1
   rw [hfr]; exact Nat.le_refl _
 ·intro i hi
  have hL := h.lane i hi
  have hl0 : loc p.length x.Frames.reverse i = M.qbw x := by
   rw [hbs]
   show (if M.qaB (M.qb3 x.Frames).Mask (i : Int) = true then (M.qb3 x.Frames).Pc else _) = _
   rw [hm.1, qgk hi, if_pos rfl]; rfl
  rw [hl0] at hL
  obtain ⟨j, hj, _⟩ := hL.mem (by show M.qbw x ≠ _; omega) hl
  show rem i = rem i - 1 + 1
  omega
end Go.V
namespace Go.V
open IntKind (wrap)
theorem qkK {b : D.Block} (h : M.qcH b = true) : M.Good b := ⟨qj8 (qjt h), h⟩
theorem qlS {p : List D.Ins} (hp : M.qat p = true) {c : Int} (hc : 1 ≤ c ∧ c ≤ 3) : M.qgA p c = (M.qbt p c, true) := by
 unfold M.qgA
 rw [if_pos (by rw [hp]; simp only [M.isIn, Bool.true_and, Bool.and_eq_true, decide_eq_true_eq]; exact hc)]
end Go.V
namespace Go.V
open IntKind (wrap)
theorem qmw {b : D.Block} {w : Int} (h : b.Waiting = 0) : M.waits b w = false := by
 unfold M.waits
 rw [h, ql0, Int.zero_fdiv]; rfl
end Go.V
namespace Go.V
open IntKind (wrap)
theorem qhI {b : D.Block} {n f : Int} (hn : 0 < n) (hf : 0 ≤ f) : ∀ (r : Nat) (k : Int), 0 ≤ k → M.qf2 b n f r k < 0 → ∀ j : Int, k ≤ j → j < k + (r : Int) → M.qf8 b (Int.tmod (f + j) n) = false
 | 0, k, _, _, j, h1, h2 => by omega
 | r + 1, k, hk, h, j, h1, h2 => by
  unfold M.qf2 at h
  by_cases e : M.qf8 b (Int.tmod (f + k) n) = true
  ·rw [if_pos e] at h
   have := (qfT (x := f + k) (n := n) (by omega) hn).1
   omega
  ·rw [if_neg e] at h
   by_cases ej : j = k
   ·rw [ej]; exact Bool.eq_false_iff.2 e
   ·exact qhI hn hf r (k + 1) (by omega) h j (by omega) (by omega)
theorem qm1 {b : D.Block} (h : M.Good b) {q : Int} (hq : 0 ≤ q) (hn : M.pick b q < 0) (w : Nat) (hw : w < b.Warps.length) : M.qf8 b (w : Int) = false := by
 have hc := qev h
 have hf := qfT (x := q) (n := b.Warps.length) hq (by omega)
 unfold M.pick at hn
 generalize Int.tmod q b.Warps.length = f at *
 have key := fun j h1 h2 => qhI (b := b) (n := b.Warps.length) (f := f) (by omega) hf.1 b.Warps.length 0 (Int.le_refl _) hn j h1 h2
 by_cases e : f ≤ (w : Int)
 ·have := key ((w : Int) - f) (by omega) (by omega)
  rw [show f + ((w : Int) - f) = (w : Int) by omega, Int.tmod_eq_of_lt (by omega) (by omega)] at this
  exact this
 ·have := key ((w : Int) - f + b.Warps.length) (by omega) (by omega)
  rw [show f + ((w : Int) - f + b.Warps.length) = (w : Int) + b.Warps.length by omega, Int.tmod_eq_emod_of_nonneg (by omega), Int.add_emod_right, Int.emod_eq_of_lt (by omega) (by omega)] at this
  exact this
theorem qmp {f : Nat → Int} : ∀ (m : Nat) (x : D.Block) (k : Nat), (k : Int) ≤ (M.goTo f m x k).2 ∧ (M.goTo f m x k).2 ≤ (k : Int) + (m : Int)
 | 0, x, k => ⟨Int.le_refl _, by show (k : Int) ≤ _; omega⟩
 | m + 1, x, k => by
  unfold M.goTo
  split
  ·exact ⟨Int.le_refl _, by show (k : Int) ≤ _; omega⟩
  ·have := qmp (f := f) m (M.qf5 x (M.pick x (f k))) (k + 1)
   omega
end Go.V
namespace Go.V
open IntKind (wrap)
theorem qhX {f g : Nat → Nat} : ∀ k : Nat, (∀ i, i < k → g i ≤ f i) → sumTo g k ≤ sumTo f k
 | 0, _ => Nat.le_refl _
 | k + 1, h => by have := qhX k fun i hi => h i (by omega); have := h k (by omega); simp only [sumTo]; omega
theorem qhW {f g : Nat → Nat} {j : Nat} (hj : g j < f j) : ∀ k : Nat, j < k → (∀ i, i < k → g i ≤ f i) → sumTo g k + 1 ≤ sumTo f k
 | 0, h, _ => by omega
 | k + 1, h, hg => by
  simp only [sumTo]
  by_cases e : j = k
  ·subst e
   have := qhX j fun i hi => hg i (by omega)
   omega
  ·have := qhW hj k (by omega) fun i hi => hg i (by omega)
   have := hg k (by omega)
   omega
structure BInv (b : D.Block) (T : Nat) : Prop where
 good : M.Good b
 shaped : Shaped b.Code
 each : ∃ st : Nat → Nat, (∀ w : Nat, w < b.Warps.length → ∃ rem : Nat → Nat, WInv b.Code (rd b.Warps (w : Int)) rem ∧ sumTo rem 8 ≤ st w) ∧ sumTo st b.Warps.length = T
 closed : b.Waiting = 0 ∨ M.qeq b b.Warps.length = false
theorem qnE {b : D.Block} (h : M.Good b) {w : Nat} (hw : w < b.Warps.length) : M.Fine b.Code (rd b.Warps (w : Int)) :=
 let g := qdq (qgY h (w := (w : Int)) (by omega) (by omega))
 ⟨g.2.2.1, g.2.2.2.1⟩
theorem qmV {b : D.Block} {w : Nat} (hS : Shaped b.Code) (hw : w < b.Warps.length) (h : M.qhs b (w : Int)) {rem : Nat → Nat} (hI : WInv b.Code (rd b.Warps (w : Int)) rem) : ∃ rem', WInv b.Code (actW b (w : Int)) rem' ∧ sumTo rem' 8 + 1 ≤ sumTo rem 8 := by
 obtain ⟨hL, _, _⟩ := qg6 h
 have hF := qdq hL.1
 have hF : M.Fine b.Code (rd b.Warps (w : Int)) := ⟨hF.2.2.1, hF.2.2.2.1⟩
 have hx := hL.2
 unfold actW
 cases hl : M.qbu (M.qcZ b (w : Int)) with
 | true =>
  rw [if_pos rfl]
  obtain ⟨_, rem', g1, g2⟩ := hI.step hS hF hx hl
  have hr : M.Runs b.Code (rd b.Warps (w : Int)) := ⟨hF.1, hF.2, hx⟩
  obtain ⟨f1, f2, f3, f4, f5, f6⟩ := qf0 hr
  obtain ⟨j, hj, hh⟩ := qiu f5 (qh2 hr).2
  rw [qec hx] at g2
  refine ⟨rem', g1, qhW (j := j) ?_ 8 hj fun i hi => by have := g2 i hi; omega⟩
  have := g2 j hj
  rw [if_pos hh] at this
  omega
 | false =>
  rw [if_neg (by simp)]
  rw [qgT (by omega) (by omega)]
  have hm := qii hL hl
  obtain ⟨_, g⟩ := hI.pass hS hF hx hl
  obtain ⟨rem', g1, g2⟩ := g (M.qhJ (M.qcZ b (w : Int)) (rd b.Warps (w : Int)) b.Memory).1 hm.l1 hm.w1
  exact ⟨rem', g1, qhW (j := 0) (by have := g2 0 (by omega); omega) 8 (by omega) fun i hi => by have := g2 i hi; omega⟩
theorem BInv.step {b : D.Block} {T : Nat} (h : BInv b T) {w : Int} (hc : M.qhs b w) (hp : b.Phase < 100000) : ∃ T', T' < T ∧ BInv (M.qf5 b w) T' := by
 have hw := qdq hc.1
 obtain ⟨k, rfl⟩ : ∃ k : Nat, w = (k : Int) := ⟨w.toNat, by omega⟩
 have hk : k < b.Warps.length := by omega
 obtain ⟨st, hst, hT⟩ := h.each
 obtain ⟨rem, i1, i2⟩ := hst k hk
 obtain ⟨rem', j1, j2⟩ := qmV h.shaped hk hc i1
 have hlen : (M.qf5 b (k : Int)).Warps.length = b.Warps.length := by rw [qfR, List.length_set]
 let st' : Nat → Nat := fun v => if v = k then st v - 1 else st v
 have hle : ∀ i, i < b.Warps.length → st' i ≤ st i := fun i _ => by
  show (if i = k then st i - 1 else st i) ≤ st i
  split <;> omega
 have hlt : st' k < st k := by
  show (if k = k then st k - 1 else st k) < st k
  rw [if_pos rfl]; omega
 refine ⟨sumTo st' b.Warps.length, ?_, ?_, ?_, ⟨st', ?_, by rw [hlen]⟩, ?_⟩
 ·have := qhW hlt b.Warps.length hk hle; omega
 ·exact qkK (ql8 hc (by rcases qg3 b (k : Int) with e | e <;> omega))
 ·rw [qfn]; exact h.shaped
 ·intro v hv
  rw [hlen] at hv
  rw [qfn, qfR, Int.toNat_natCast]
  by_cases e : v = k
  ·subst e
   refine ⟨rem', ?_, ?_⟩
   ·rw [qcJ (by rw [List.length_set]; exact hv), List.getElem_set_self]; exact j1
   ·show _ ≤ (if v = v then st v - 1 else st v)
    rw [if_pos rfl]; omega
  ·obtain ⟨r2, q1, q2⟩ := hst v hv
   refine ⟨r2, ?_, ?_⟩
   ·rw [qcJ (by rw [List.length_set]; exact hv), List.getElem_set_ne (by omega), ← qcJ hv]; exact q1
   ·show _ ≤ (if v = k then st v - 1 else st v)
    rw [if_neg e]; exact q2
 ·unfold M.qf5 M.qh3
  split
  ·exact .inl rfl
  ·rename_i e
   simp only [M.qdU, Bool.and_eq_true, not_and, bne_iff_ne] at e
   by_cases e2 : M.qeq (M.actB b (k : Int)) (M.actB b (k : Int)).Warps.length = true
   ·exact .inl (by have := e e2; omega)
   ·exact .inr (by simpa using e2)
theorem qil {b : D.Block} : ∀ n : Nat, (∀ w : Nat, w < n → (rd b.Warps (w : Int)).Frames = [] ∨ M.waits b (w : Int) = true) → M.qeq b n = true
 | 0, _ => rfl
 | n + 1, h => by
  rw [M.qeq, qil n fun w hw => h w (by omega), Bool.true_and, Bool.or_eq_true]
  exact (h n (by omega)).imp (fun e => by rw [e]; rfl) id
theorem BInv.none {b : D.Block} {T : Nat} (h : BInv b T) (hn : ∀ w : Nat, w < b.Warps.length → M.qf8 b (w : Int) = false) : M.ended b = true := by
 obtain ⟨st, hst, hT⟩ := h.each
 have key : ∀ w : Nat, w < b.Warps.length → (rd b.Warps (w : Int)).Frames = [] ∨ M.waits b (w : Int) = true := fun w hw => by
  by_cases hx : (rd b.Warps (w : Int)).Frames = []
  ·exact .inl hx
  right
  obtain ⟨rem, i1, i2⟩ := hst w hw
  have hF := qnE h.good hw
  have hc := hn w hw
  cases hwt : M.waits b (w : Int) with
  | true => rfl
  | false =>
   exfalso
   have he : (rd b.Warps (w : Int)).Frames.isEmpty = false := by simpa using hx
   cases hl : M.qbu (M.qar b.Code (rd b.Warps (w : Int))) with
   | true =>
    obtain ⟨g, _⟩ := i1.step h.shaped hF hx hl
    simp only [M.qca, he, hl, Bool.not_false, Bool.true_and] at g
    simp only [M.qf8, he, hwt, hl, Bool.not_false, Bool.true_and, if_pos, g] at hc
    cases hc
   | false =>
    obtain ⟨g, _⟩ := i1.pass h.shaped hF hx hl
    simp only [M.qf8, he, hwt, hl, Bool.not_false, Bool.true_and, g] at hc
    simp at hc
 have hz : b.Waiting = 0 := by
  rcases h.closed with hz | hz
  ·exact hz
  ·rw [qil _ key] at hz; cases hz
 unfold M.ended
 rw [List.all_eq_true]
 intro x hx
 obtain ⟨i, hi, rfl⟩ := List.getElem_of_mem hx
 have := (key i hi).resolve_right (by rw [qmw hz]; simp)
 rw [qcJ hi] at this
 rw [this]; rfl
theorem BInv.ends {s : Int} (hs : 0 ≤ s) : ∀ (m : Nat) (b : D.Block) (k T : Nat), BInv b T → T ≤ m → b.Phase + (T : Int) < 100000 → M.ended (M.goTo (M.qcX s) m b k).1 = true
 | 0, b, k, T, h, hm, hp => by
  refine h.none fun w hw => ?_
  cases e : M.qf8 b (w : Int) with
  | false => rfl
  | true =>
   obtain ⟨T', h1, _⟩ := h.step (w := (w : Int)) ⟨qgY h.good (by omega) (by omega), e⟩ (by omega)
   omega
 | m + 1, b, k, T, h, hm, hp => by
  have hf : 0 ≤ M.qcX s k := Int.mul_nonneg (by omega) hs
  unfold M.goTo
  cases e : M.stops (M.qcX s) b k with
  | true =>
   rw [if_pos rfl]
   simp only [M.stops, Bool.or_eq_true, decide_eq_true_eq, beq_iff_eq] at e
   have hpk : M.pick b (M.qcX s k) < 0 := by omega
   exact h.none fun w hw => qm1 h.good hf hpk w hw
  | false =>
   rw [if_neg (by simp)]
   have hg := good_step h.good e
   obtain ⟨T', h1, h2⟩ := h.step hg.1 (by omega)
   refine BInv.ends hs m _ (k + 1) T' h2 (by omega) ?_
   rcases qg3 b (M.pick b (M.qcX s k)) with e2 | e2 <;> omega
theorem qn0 {p : List D.Ins} (h : MSeg 0 p) (hp : M.qat p = true) {w : Nat} (hw : w ≤ 2) : WInv p (M.qct p (w : Int)) fun i => G (5 * (w * 8 + i) + 6) p.length := by
 have hF : (M.qct p (w : Int)).Frames = if p.length > 0 then [⟨0, p.length, 255⟩] else [] := rfl
 have hR : (M.qct p (w : Int)).Regs = List.replicate 32 0 := rfl
 have hN : (M.qct p (w : Int)).Number = (w : Int) := rfl
 refine ⟨?_, ?_, fun i hi => ?_, .inl (by rw [hF]; split <;> simp)⟩
 ·rw [hF]
  split
  ·exact .inr (.base rfl rfl)
  ·exact .inl rfl
 ·rw [hF]
  intro f hf
  split at hf
  ·obtain rfl := List.mem_singleton.1 hf
   exact PD.last _
  ·cases hf
 ·have := qmU h hp (t := w * 8 + i) (by omega)
  have hl0 : M.qhA ((w * 8 + i : Nat) : Int) = ⟨(w : Int) * 8 + (i : Int), 0, [0, 0, 0, 0]⟩ := by
   unfold M.qhA
   rw [if_pos (by simp only [M.isIn, Bool.and_eq_true, decide_eq_true_eq]; omega)]
   push_cast; rfl
  rw [hl0] at this
  rw [hN, hR, hF, qnb hi]
  split
  ·show Ends p _ ⟨_, (if M.qaB 255 (i : Int) = true then 0 else _), _⟩
   rw [if_pos (qgk hi)]; exact this
  ·rename_i e
   show Ends p _ ⟨_, (p.length : Int), _⟩
   rw [show (p.length : Int) = 0 by omega]; exact this
theorem qnY (a : Nat) {x y : Nat} (h : x ≤ y) : G a x ≤ G a y := Nat.div_le_div_right (Nat.mul_le_mul_left a h)
theorem ql1 {f : Nat → Nat} : ∀ {m n : Nat}, m ≤ n → sumTo f m ≤ sumTo f n
 | m, 0, h => by obtain rfl : m = 0 := by omega
                 exact Nat.le_refl _
 | m, n + 1, h => by
  by_cases e : m = n + 1
  ·subst e; exact Nat.le_refl _
  ·have := ql1 (f := f) (m := m) (n := n) (by omega)
   simp only [sumTo]; omega
theorem qkt : sumTo (fun w => sumTo (fun i => G (5 * (w * 8 + i) + 6) 32) 8) 3 ≤ 9000 := by decide
theorem qmz {p : List D.Ins} (h : MSeg 0 p) (hp : M.qat p = true) (hl : p.length ≤ 32) {c : Int} (hc : 1 ≤ c ∧ c ≤ 3) : ∃ T, T ≤ 9000 ∧ BInv (M.qbt p c) T := by
 have hW : (M.qbt p c).Warps = (List.range c.toNat).map fun k : Nat => M.qct p (k : Int) := rfl
 have hlen : (M.qbt p c).Warps.length = c.toNat := by rw [hW, List.length_map, List.length_range]
 refine ⟨_, ?_, qkK (qiI hp hc).1, qit h hp, ⟨fun w => sumTo (fun i => G (5 * (w * 8 + i) + 6) p.length) 8, fun w hw => ⟨_, ?_, Nat.le_refl _⟩, rfl⟩, .inl rfl⟩
 ·rw [hlen]
  refine Nat.le_trans (ql1 (n := 3) (by omega)) (Nat.le_trans (qhX 3 fun w _ => qhX 8 fun i _ => ?_) qkt)
  exact qnY _ hl
 ·rw [hlen] at hw
  have : rd (M.qbt p c).Warps (w : Int) = M.qct p (w : Int) := by
   rw [qcJ (by rw [hlen]; exact hw)]
   simp only [hW, List.getElem_map, List.getElem_range]
  rw [this]
  exact qn0 h hp (by omega)
theorem qm6 {p : List D.Ins} (h : MSeg 0 p) (hp : M.qat p = true) (hl : p.length ≤ 32) {c : Int} (hc : 1 ≤ c ∧ c ≤ 3) {s : Int} (hs : 0 ≤ s) : M.ended (M.finish (M.qbt p c) s).1 = true := by
 obtain ⟨T, h1, h2⟩ := qmz h hp hl hc
 exact BInv.ends hs 9000 _ 0 T h2 h1 (by show (0 : Int) + (T : Int) < 100000; omega)
end Go.V
namespace Go.V
open IntKind (wrap)
def wp.qcf (e : List Int) (Q : Bool → Prop) : Prop :=
 (∀ l, l = M.qeh e → qa1 l (Q true) ((M.qe7 e ∧ ∀ f, f = M.qbH e → (M.qei e ∧ ∀ a, a = M.qb2 e → ((0 ≤ (0 : Int) ∧ (0 : Int) < (a.length : Int)) ∧ (M.qe0 f (wrap .i64 (1 + (Int.tmod (rd a 0) 3))) ∧ ∀ d, d = M.qbR f (wrap .i64 (1 + (Int.tmod (rd a 0) 3))) → qfQ (σ := (List D.Ins) × (List D.Warp) × (List Int) × Int × Int × Int × Unit) (fun m => ((0 ≤ (1 : Int) ∧ (1 : Int) < (a.length : Int)) ∧ (((M.qcV d.1 (Int.tmod (rd a 1) 5) ∧ ∀ b, b = M.qb5 d.1 (Int.tmod (rd a 1) 5) → m (b.1.Code, b.1.Warps, b.1.Memory, b.1.Waiting, b.1.Phase, b.2, ()))) ∧ ((M.qcV d.1 (Int.tmod (rd a 1) 5) ∧ ∀ c, c = M.qb5 d.1 (Int.tmod (rd a 1) 5) → m (c.1.Code, c.1.Warps, c.1.Memory, c.1.Waiting, c.1.Phase, c.2, ()))) ∧ True))) (fun (q : (List D.Ins) × (List D.Warp) × (List Int) × Int × Int × Int × Unit) => match q with | (g, h, i, j, k, r, _) => qa1 d.2 ((M.qdf f ∧ ∀ n, n = M.qbg f → qa1 n (qa1 (decide (r ≥ 0)) ((M.qem (⟨g, h, i, j, k⟩ : D.Block) ∧ ∀ o, o = M.qbC (⟨g, h, i, j, k⟩ : D.Block) → qa1 o ((M.qe8 (⟨g, h, i, j, k⟩ : D.Block) ∧ ∀ p, p = M.qb6 (⟨g, h, i, j, k⟩ : D.Block) → Q (ByteArray.toList p == ByteArray.toList (⟨#[]⟩)))) (Q false))) (Q false)) (Q false))) (Q false))))))))
end Go.V
namespace Go.V
open IntKind (wrap)
theorem wp.qcf.math (b : List Int) (h : M.qel b) : wp.qcf b (fun r => r = M.qcf b) := by
 intro r0 _
 have hpl : (M.qb2 b).length = 12 := qgx 12 _
 refine qa3 (fun _ => rfl) fun _ => ⟨h, fun p gp => ⟨h, fun pl gpl => ?_⟩⟩
 obtain ⟨_, _, d3, d4, d5⟩ := qkn (qkX h)
 have dok := qlJ (qkX h)
 have gp : p = (M.qaC (M.qaM b)).1 := gp
 rw [← gp] at d3 d4 d5 dok
 have w0 := ql6 h (k := 0) (n := 3) (by omega) (by omega) (by omega)
 have w1 := ql6 h (k := 1) (n := 5) (by omega) (by omega) (by omega)
 rw [← gpl] at w0 w1 hpl
 clear gp gpl
 refine ⟨⟨by omega, by omega⟩, by unfold M.qe0 M.Long; omega, fun nb gnb => ?_⟩
 rw [w64 (by omega) (by omega)] at gnb
 generalize hc : 1 + Int.tmod (rd pl 0) 3 = c at *
 have hc : 1 ≤ c ∧ c ≤ 3 := by omega
 generalize Int.tmod (rd pl 1) 5 = s at *
 have gnb : nb = (M.qbt p c, true) := Eq.trans gnb (qlS dok hc)
 have hok := (qiI dok hc).1
 have hg := qkK hok
 have hfin : M.qdD (M.qbt p c) s = M.finish (M.qbt p c) s := by
  unfold M.qdD
  rw [if_pos (by rw [hok]; simp only [M.isIn, Bool.true_and, Bool.and_eq_true, decide_eq_true_eq]; omega)]
 have hend := qm6 d3 dok d4 hc (s := s) w1.1
 have hn : 0 ≤ (M.finish (M.qbt p c) s).2 := (qmp 9000 (M.qbt p c) 0).1
 have hg2 : M.Good (M.finish (M.qbt p c) s).1 := qjP 9000 _ 0 hg
 have hfit : M.BFit (M.qbt p c) := qmj (qjt hok)
 have hsafe := (qit d3 dok).safe
 subst gnb
 have go : ∀ J : (List D.Ins) × (List D.Warp) × (List Int) × Int × Int × Int × Unit → Prop,
     J ((M.finish (M.qbt p c) s).1.Code, (M.finish (M.qbt p c) s).1.Warps, (M.finish (M.qbt p c) s).1.Memory, (M.finish (M.qbt p c) s).1.Waiting, (M.finish (M.qbt p c) s).1.Phase, (M.finish (M.qbt p c) s).2, ()) →
     M.qcV (M.qbt p c) s ∧ ∀ r : D.Block × Int, r = M.qb5 (M.qbt p c) s → J (r.1.Code, r.1.Warps, r.1.Memory, r.1.Waiting, r.1.Phase, r.2, ()) :=
  fun J hJ => ⟨hfit, fun r hr => by
   have hr : r = M.finish (M.qbt p c) s := Eq.trans hr hfin
   rw [hr]; exact hJ⟩
 generalize M.finish (M.qbt p c) s = y at *
 refine qhd (y.1.Code, y.1.Warps, y.1.Memory, y.1.Waiting, y.1.Phase, y.2, ()) ?_ fun J hJ => ⟨⟨by omega, by omega⟩, go J hJ, go J hJ, trivial⟩
 show qa1 true _ _
 refine qb1 rfl ⟨by unfold M.qdf M.qeC; omega, fun r hr => qb1 (hr.trans hsafe) (qb1 (by simpa using hn) ⟨hg2.1, fun e he => qb1 ?_ ⟨hg2.1, fun t ht => ?_⟩⟩)⟩
 ·have he : e = M.qfL y.1 := he
  rw [he]; unfold M.qfL
  rw [hg2.2, hend]; rfl
 ·have ht : t = M.qeR y.1 := ht
  rw [ht]
  have : M.qfz y.1 = false := by unfold M.qfz; rw [hend]; simp
  unfold M.qeR
  rw [this, if_neg (by simp)]
  show (ByteArray.toList _ == ByteArray.toList _) = true
  exact beq_self_eq_true _
end Go.V
