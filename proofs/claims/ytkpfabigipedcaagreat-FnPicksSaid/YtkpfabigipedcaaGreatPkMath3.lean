import Derived.Test.YtkpfabigipedcaaGreatPkMath2
set_option linter.unusedVariables false
set_option linter.unusedSimpArgs false
set_option maxRecDepth 20000
namespace Go.V
open IntKind (wrap)
def qft : Nat → D.Cur → List Int × D.Cur
 | 0, c => ([], c)
 | k + 1, c => ((qft k c).1 ++ [M.qkE (qft k c).2], M.qkx (qft k c).2)
theorem qka : ∀ (k : Nat) (c : D.Cur), (qft k c).1.length = k
 | 0, c => rfl
 | k + 1, c => by simp [qft, qka k c]
theorem wp.qcI.math (c : D.Cur) (h : M.qfV c) : wp.qcI c (fun r => r = M.qcI c) := by
 have h : M.qdz c := h
 obtain ⟨N, hN⟩ : ∃ N : Nat, N = 30 := ⟨_, rfl⟩
 have hR : M.qhg N 0 c [] = M.qcI c := by rw [hN]; rfl
 refine qd9 N (fun k => ((qft k c).1, (k : Int), (qft k c).2.i, (qft k c).2.h, ())) (fun k => M.qdz (qft k c).2 ∧ (qft k c).2.b = c.b ∧ M.qhg N 0 c [] = M.qhg (N - k) k (qft k c).2 (qft k c).1) rfl ⟨h, rfl, rfl⟩ (fun k hk hF next hn => ?_) fun hF next => ?_
 ·obtain ⟨f1, f2, f3⟩ := hF
  have hlen := qka k c
  have it : qft (k + 1) c = ((qft k c).1 ++ [M.qkE (qft k c).2], M.qkx (qft k c).2) := rfl
  rw [it] at hn
  generalize qft k c = y at *
  obtain ⟨l, d⟩ := y
  dsimp only at *
  rw [qbX f2]
  refine ⟨f1, fun r hr => ?_⟩
  subst hr
  have b1 := (qbW d 30).trans f2
  have c1 := qbj f1 30
  rw [qbX b1]
  rw [show N - k = (N - (k + 1)) + 1 by omega, M.qhg] at f3
  refine qa3 (fun e => ⟨c1, fun r hr => ⟨by simp; omega, ?_⟩⟩) fun e => ?_
  ·subst hr
   rw [if_pos (by simpa using e)] at f3
   rw [up64 (n := N) hk (by omega)]
   exact hn ⟨qbj c1 4, (qbW _ 4).trans b1, f3⟩
  ·rw [if_neg (by simpa using e)] at f3
   rw [← hR, f3]
 ·obtain ⟨f1, f2, f3⟩ := hF
  have hb := qcZ (qft N c).2 (n := 30) (by omega)
  dsimp only
  rw [qbX f2]
  refine ⟨f1, fun r hr => ?_⟩
  subst hr
  have b1 := (qbW (qft N c).2 30).trans f2
  rw [qbX b1]
  refine qaC (by simp; omega) ?_
  rw [← hR, f3, Nat.sub_self]; rfl
theorem wp.qcb.math (b : List Int) (h : M.qfx b) : wp.qcb b (fun r => r = M.qcb b) := by
 have hn := qm6 h
 refine ⟨h, fun r hr => ?_⟩
 have e : (⟨b, r.i, r.h⟩ : D.Cur) = M.qaK b := by subst hr; rfl
 rw [e]
 refine ⟨hn, fun r2 hr2 => ?_⟩
 subst hr2; rfl
theorem qme : ∀ (m k : Nat) (c : D.Cur) (l : List Int), l.length ≤ k → (∀ y ∈ l, 0 ≤ y ∧ y < 4) → (M.qhg m k c l).1.length ≤ k + m ∧ ∀ y ∈ (M.qhg m k c l).1, 0 ≤ y ∧ y < 4
 | 0, k, c, l, hl, h => ⟨by show l.length ≤ _; omega, h⟩
 | m + 1, k, c, l, hl, h => by
  unfold M.qhg
  split
  ·have hb := qcZ (M.qa0 c 30).2 (n := 4) (by omega)
   obtain ⟨q1, q2⟩ := qme m (k + 1) (M.qkx c) (l ++ [M.qkE c]) (by simp; omega) fun y hy => by
    rcases List.mem_append.1 hy with hy | hy
    ·exact h y hy
    ·have := List.mem_singleton.1 hy
     rw [this]; exact hb
   exact ⟨by omega, q2⟩
  ·exact ⟨by show l.length ≤ _; omega, h⟩
theorem ql8 (b : List Int) : (M.qcb b).length ≤ 30 ∧ ∀ y ∈ M.qcb b, 0 ≤ y ∧ y < 4 := by
 obtain ⟨N, hN⟩ : ∃ N : Nat, N = 30 := ⟨_, rfl⟩
 have := qme N 0 (M.qaK b) [] (by simp) (fun y hy => by cases hy)
 rw [hN] at this
 exact ⟨by have := this.1; simp only [Nat.zero_add] at this; exact this, this.2⟩
theorem qiM {b : D.Block} {n f : Int} (hn : 0 < n) (hf : 0 ≤ f) : ∀ (r : Nat) (k : Int), 0 ≤ k → M.qf5 b n f r k < 0 → ∀ j : Int, k ≤ j → j < k + (r : Int) → M.qfq b (Int.tmod (f + j) n) = false
 | 0, k, _, _, j, h1, h2 => by omega
 | r + 1, k, hk, h, j, h1, h2 => by
  unfold M.qf5 at h
  by_cases e : M.qfq b (Int.tmod (f + k) n) = true
  ·rw [if_pos e] at h
   have := (qgz (x := f + k) (n := n) (by omega) hn).1
   omega
  ·rw [if_neg e] at h
   by_cases ej : j = k
   ·rw [ej]; exact Bool.eq_false_iff.2 e
   ·exact qiM hn hf r (k + 1) (by omega) h j (by omega) (by omega)
theorem qkZ {b : D.Block} (h : M.Good b) {q : Int} (hq : 0 ≤ q) (hn : M.pick b q < 0) (w : Nat) (hw : w < b.Warps.length) : M.qfq b (w : Int) = false := by
 have hc := qeR h
 have hf := qgz (x := q) (n := b.Warps.length) hq (by omega)
 unfold M.pick at hn
 generalize Int.tmod q b.Warps.length = f at *
 have key := fun j h1 h2 => qiM (b := b) (n := b.Warps.length) (f := f) (by omega) hf.1 b.Warps.length 0 (Int.le_refl _) hn j h1 h2
 by_cases e : f ≤ (w : Int)
 ·have := key ((w : Int) - f) (by omega) (by omega)
  rw [show f + ((w : Int) - f) = (w : Int) by omega, Int.tmod_eq_of_lt (by omega) (by omega)] at this
  exact this
 ·have := key ((w : Int) - f + b.Warps.length) (by omega) (by omega)
  rw [show f + ((w : Int) - f + b.Warps.length) = (w : Int) + b.Warps.length by omega, Int.tmod_eq_emod_of_nonneg (by omega), Int.add_emod_right, Int.emod_eq_of_lt (by omega) (by omega)] at this
  exact this
theorem ql0 {b : D.Block} {n f : Int} (hn : 0 < n) (hf : 0 ≤ f) (h : ∀ w : Int, 0 ≤ w → w < n → M.qfq b w = false) : ∀ (r : Nat) (k : Int), 0 ≤ k → M.qf5 b n f r k = -1
 | 0, k, _ => rfl
 | r + 1, k, hk => by
  have ht := qgz (x := f + k) (n := n) (by omega) hn
  unfold M.qf5
  rw [if_neg (by rw [h _ ht.1 ht.2]; simp)]
  exact ql0 hn hf h r (k + 1) (by omega)
theorem qmL {b : D.Block} (h : M.Good b) (hn : ∀ w : Nat, w < b.Warps.length → M.qfq b (w : Int) = false) {q : Int} (hq : 0 ≤ q) : M.pick b q = -1 := by
 have hc := qeR h
 have hf := qgz (x := q) (n := b.Warps.length) hq (by omega)
 unfold M.pick
 refine ql0 (by omega) hf.1 (fun w h0 h1 => ?_) _ _ (Int.le_refl _)
 obtain ⟨k, rfl⟩ := Int.eq_ofNat_of_zero_le h0
 exact hn k (by omega)
theorem qj4 {f : Nat → Int} : ∀ (m : Nat) (x : D.Block) (k : Nat), (k : Int) ≤ (M.goTo f m x k).2 ∧ (M.goTo f m x k).2 ≤ (k : Int) + (m : Int)
 | 0, x, k => ⟨Int.le_refl _, by show (k : Int) ≤ _; omega⟩
 | m + 1, x, k => by
  unfold M.goTo
  split
  ·exact ⟨Int.le_refl _, by show (k : Int) ≤ _; omega⟩
  ·have := qj4 (f := f) m (M.qf1 x (M.pick x (f k))) (k + 1)
   omega
theorem qiH {f g : Nat → Int} (j : Nat) : ∀ (m : Nat) (x : D.Block) (k : Nat), (∀ i, k ≤ i → i < k + m → g i = f (i + j)) → M.goTo g m x k = ((M.goTo f m x (k + j)).1, (M.goTo f m x (k + j)).2 - (j : Int))
 | 0, x, k, _ => by simp [M.goTo]
 | m + 1, x, k, h => by
  have h0 := h k (Nat.le_refl _) (by omega)
  have ih := qiH j m (M.qf1 x (M.pick x (f (k + j)))) (k + 1) fun i h1 h2 => h i (by omega) (by omega)
  have es : M.stops g x k = M.stops f x (k + j) := by unfold M.stops; rw [h0]
  unfold M.goTo
  rw [es, h0]
  split
  ·simp
  ·rw [ih, show k + 1 + j = k + j + 1 by omega]
theorem qnz {f : Nat → Int} {x : D.Block} (h : M.Good x) {i j : Nat} (h1 : 0 ≤ f i) (h2 : 0 ≤ f j) (hs : M.stops f x i = true) : M.stops f x j = true := by
 unfold M.stops at hs ⊢
 rw [decide_eq_false (by omega : ¬ f i < 0), Bool.false_or, Bool.or_eq_true] at hs
 rcases hs with hs | hs
 ·rw [hs, Bool.true_or, Bool.or_true]
 ·have hn : M.pick x (f i) < 0 := by simpa using hs
  rw [qmL h (qkZ h h1 hn) h2]
  simp
theorem qkb {f : Nat → Int} : ∀ (a c : Nat) (x : D.Block) (k : Nat), M.Good x → (∀ i, k ≤ i → i < k + a + c → 0 ≤ f i) →
    (M.goTo f (a + c) x k).1 = (M.goTo f c (M.goTo f a x k).1 (k + a)).1 ∧ (M.goTo f (a + c) x k).2 = (M.goTo f a x k).2 + ((M.goTo f c (M.goTo f a x k).1 (k + a)).2 - ((k + a : Nat) : Int))
 | 0, c, x, k, hg, _ => by
  rw [Nat.zero_add, Nat.add_zero]
  show _ ∧ (M.goTo f c x k).2 = (k : Int) + ((M.goTo f c x k).2 - (k : Int))
  exact ⟨rfl, by omega⟩
 | a + 1, c, x, k, hg, hf => by
  rw [show a + 1 + c = (a + c) + 1 by omega]
  by_cases e : M.stops f x k = true
  ·have e1 : ∀ m, M.goTo f (m + 1) x k = (x, (k : Int)) := fun m => by unfold M.goTo; rw [if_pos e]
   rw [e1, e1]
   dsimp only
   cases c with
   | zero => exact ⟨rfl, by show (k : Int) = _ + (((k + (a + 1) : Nat) : Int) - _); omega⟩
   | succ c =>
    have e2 : M.stops f x (k + (a + 1)) = true := qnz hg (hf k (by omega) (by omega)) (hf _ (by omega) (by omega)) e
    have e3 : M.goTo f (c + 1) x (k + (a + 1)) = (x, ((k + (a + 1) : Nat) : Int)) := by
     rw [M.goTo, if_pos e2]
    rw [e3]
    exact ⟨rfl, by dsimp only; omega⟩
  ·have e1 : ∀ m, M.goTo f (m + 1) x k = M.goTo f m (M.qf1 x (M.pick x (f k))) (k + 1) := fun m => by rw [M.goTo, if_neg e]
   rw [e1, e1]
   have ih := qkb (f := f) a c (M.qf1 x (M.pick x (f k))) (k + 1) (good_step hg (Bool.eq_false_iff.2 e)).2 fun i h1 h2 => hf i (by omega) (by omega)
   rw [show k + (a + 1) = k + 1 + a by omega]
   exact ih
theorem qij {b : D.Block} {l : List Int} (h : M.Good b) (hl : l.length ≤ 400) : M.qb1 b l = M.goTo (fun k => rd l (k : Int)) l.length b 0 := by
 unfold M.qb1
 rw [h.2, decide_eq_true hl]; rfl
theorem run_parts {b : D.Block} {l : List Int} (h : M.Good b) (hl : l.length ≤ 400) (hp : ∀ y ∈ l, 0 ≤ y) {k : Nat} (hk : k ≤ l.length) :
    M.Good (M.qb1 b (l.take k)).1 ∧ 0 ≤ (M.qb1 b l).2 ∧ 0 ≤ (M.qb1 b (l.take k)).2 ∧ 0 ≤ (M.qb1 (M.qb1 b (l.take k)).1 (l.drop k)).2 ∧ (M.qb1 b (l.take k)).2 + (M.qb1 (M.qb1 b (l.take k)).1 (l.drop k)).2 = (M.qb1 b l).2 ∧ (M.qb1 (M.qb1 b (l.take k)).1 (l.drop k)).1 = (M.qb1 b l).1 := by
 have hlt : (l.take k).length = k := by rw [List.length_take]; omega
 have hld : (l.drop k).length = l.length - k := List.length_drop
 have e1 := qij h (l := l.take k) (by omega)
 have g1 : M.Good (M.qb1 b (l.take k)).1 := by rw [e1]; exact qic _ _ _ h
 have e2 := qij g1 (l := l.drop k) (by omega)
 have e0 := qij h hl
 rw [hlt] at e1
 rw [hld] at e2
 have s1 : M.goTo (fun i => rd (l.take k) (i : Int)) k b 0 = M.goTo (fun i => rd l (i : Int)) k b 0 := by
  have := qiH (f := fun i => rd l (i : Int)) (g := fun i => rd (l.take k) (i : Int)) 0 k b 0 fun i h1 h2 => by
   simp only [Nat.add_zero]
   rw [qdU (by omega), qdU (by omega), List.getElem_take]
  rw [this]; simp
 rw [s1] at e1
 have s2 : M.goTo (fun i => rd (l.drop k) (i : Int)) (l.length - k) (M.qb1 b (l.take k)).1 0 = ((M.goTo (fun i => rd l (i : Int)) (l.length - k) (M.qb1 b (l.take k)).1 (0 + k)).1, (M.goTo (fun i => rd l (i : Int)) (l.length - k) (M.qb1 b (l.take k)).1 (0 + k)).2 - (k : Int)) :=
  qiH (f := fun i => rd l (i : Int)) (g := fun i => rd (l.drop k) (i : Int)) k _ _ 0 fun i h1 h2 => by
   rw [qdU (xs := l.drop k) (k := i) (by omega), qdU (xs := l) (k := i + k) (by omega), List.getElem_drop]
   congr 1; omega
 rw [s2] at e2
 have sp := qkb (f := fun i => rd l (i : Int)) k (l.length - k) b 0 h fun i h1 h2 => hp _ (qgg (by omega))
 rw [show k + (l.length - k) = l.length by omega] at sp
 have b0 := qj4 (f := fun i => rd l (i : Int)) l.length b 0
 have b1 := qj4 (f := fun i => rd l (i : Int)) k b 0
 have b2 := qj4 (f := fun i => rd l (i : Int)) (l.length - k) (M.qb1 b (l.take k)).1 (0 + k)
 refine ⟨g1, ?_, ?_, ?_, ?_, ?_⟩
 ·rw [e0]; omega
 ·rw [e1]; omega
 ·rw [e2]; dsimp only; omega
 ·rw [e2, e0, sp.2]; dsimp only; rw [e1]; simp
 ·rw [e2, e0, sp.1]; dsimp only; rw [e1]
theorem qlb {b : D.Block} (h : M.Good b) {q : Int} (hq : 0 ≤ q) : (M.qgc b q ≥ 0 → M.qiE b (M.qgc b q) = true) ∧ (M.qgc b q < 0 → M.qgF b = false → M.qi3 b = true) := by
 have e : M.qgc b q = M.pick b q := by unfold M.qgc; rw [h.2, decide_eq_true hq]; rfl
 rw [e]
 refine ⟨fun h0 => ?_, fun h0 h1 => ?_⟩
 ·obtain ⟨h1, h2⟩ := qma h hq (by omega)
  unfold M.qiE; rw [h1.2, h2]; rfl
 ·have := qkZ h hq h0
  unfold M.qgF at h1
  rw [h.2, Bool.true_and] at h1
  simp only [M.qi3, h.2, h1, Bool.true_and, Bool.not_false, List.all_eq_true, List.mem_range, Bool.not_eq_true']
  exact this
theorem wp.qdG.math (b : List Int) (h : M.qgj b) : wp.qdG b (fun r => r = M.qdG b) := by
 intro r0 _
 have hpl : (M.qb7 b).length = 12 := qhG 12 _
 have hpg : ∀ x ∈ M.qb7 b, 0 ≤ x ∧ x < 10000 := qi2 12 _
 obtain ⟨hl1, hl2⟩ := ql8 b
 refine qa3 (fun _ => rfl) fun _ => ⟨h, fun x gx => ⟨h, fun l gl => ⟨h, fun pl gpl => ?_⟩⟩⟩
 rw [← gl] at hl1 hl2
 have hg : M.Good x := by rw [gx]; exact qnm h
 have hk := qnA h (k := 0) (n := (l.length : Int) + 1) (by omega) (by omega) (by omega)
 rw [← gpl] at hk hpl hpg
 clear gx gpl gl
 have hlx := hg.1
 have hfit : M.BFit x := qi5 (qhH hg.2)
 have hmax : ∀ m : List Int, m.length ≤ 30 → (∀ y ∈ m, 0 ≤ y ∧ y < 4) → M.MaxL m := fun m h1 h2 => ⟨by unfold M.Long; omega, fun y hy => by have := h2 y hy; omega⟩
 have h1 := hpg _ (qjR (xs := pl) (i := 1) (by omega) (by omega))
 rw [w64 (x := (l.length : Int) + 1) (by omega) (by omega)]
 refine ⟨⟨by omega, by omega⟩, by omega, ⟨by omega, by omega⟩, ⟨hlx, by omega⟩, fun w gw => ⟨⟨hfit, hmax l hl1 hl2⟩, fun r gr => ?_⟩⟩
 generalize Int.tmod (rd pl 0) ((l.length : Int) + 1) = k' at *
 obtain ⟨k, rfl⟩ := Int.eq_ofNat_of_zero_le hk.1
 have hkl : k ≤ l.length := by omega
 obtain ⟨p1, p2, p3, p4, p5, p6⟩ := run_parts hg (by omega) (fun y hy => (hl2 y hy).1) hkl
 rw [Int.toNat_natCast]
 have gr : r = M.qb1 x l := gr
 have ht : M.MaxL (l.take k) := hmax _ (by rw [List.length_take]; omega) fun y hy => hl2 y (List.mem_of_mem_take hy)
 have hd : M.MaxL (l.drop k) := hmax _ (by rw [List.length_drop]; omega) fun y hy => hl2 y (List.mem_of_mem_drop hy)
 have hb : (M.qb1 x l).2 ≤ 400 := by
  rw [qij hg (by omega)]
  have := (qj4 (f := fun k => rd l (k : Int)) l.length x 0).2
  omega
 refine qfF ((M.qb1 x (l.take k)).1.Code, (M.qb1 x (l.take k)).1.Warps, (M.qb1 x (l.take k)).1.Memory, (M.qb1 x (l.take k)).1.Waiting, (M.qb1 x (l.take k)).1.Phase, (M.qb1 x (l.take k)).2, ()) ?_ fun J hJ => ?_
 ·dsimp only
  generalize M.qb1 x (l.take k) = y at *
  refine qfF ((M.qb1 y.1 (l.drop k)).1.Code, (M.qb1 y.1 (l.drop k)).1.Warps, (M.qb1 y.1 (l.drop k)).1.Memory, (M.qb1 y.1 (l.drop k)).1.Waiting, (M.qb1 y.1 (l.drop k)).1.Phase, (M.qb1 y.1 (l.drop k)).2, ()) ?_ fun J hJ => ?_
  ·dsimp only
   refine qfF () ?_ fun J hJ => ?_
   ·rw [gr]
    refine qaE (by simp; omega) (qaE (by simp; omega) (qaE (by simp; omega) (qaE ?_ ⟨?_, fun r hr => ?_⟩)))
    ·rw [w64 (by omega) (by omega), p5]; simp
    ·rw [← p6]
     exact (qic _ _ _ p1 |> fun g => (show M.Good (M.qb1 y.1 (l.drop k)).1 by rw [qij p1 (by rw [List.length_drop]; omega)]; exact g)).1
    ·have hr : r = ((M.qb1 x l).1 == (M.qb1 y.1 (l.drop k)).1) := hr
     show r = true
     rw [hr, p6]; simp
   ·obtain ⟨q1, q2⟩ := qlb hg (q := rd pl 1) h1.1
    have gw : w = M.qgc x (rd pl 1) := gw
    rw [← gw] at q1 q2
    refine qa3 (fun e => ⟨hlx, fun r hr => qaC ?_ (qaC (by simp at e ⊢; omega) hJ)⟩) fun e => qa3 (fun e2 => ⟨hlx, fun r hr => qa3 (fun e3 => ⟨hlx, fun r2 hr2 => qaC ?_ hJ⟩) fun e3 => hJ⟩) fun e2 => hJ
    ·have hr : r = M.qiE x w := hr
     rw [hr, q1 (by simpa using e)]; rfl
    ·have hr : r = M.qgF x := hr
     have hr2 : r2 = M.qi3 x := hr2
     rw [hr2, q2 (by simpa using e2) (by rw [← hr]; simpa using e3)]; rfl
  ·exact ⟨⟨by omega, by omega⟩, ⟨⟨qi5 (qhH p1.2), hd⟩, fun r hr => by rw [show r = M.qb1 y.1 (l.drop k) from hr]; exact hJ⟩, ⟨⟨qi5 (qhH p1.2), hd⟩, fun r hr => by rw [show r = M.qb1 y.1 (l.drop k) from hr]; exact hJ⟩, trivial⟩
 ·exact ⟨⟨by omega, by omega⟩, ⟨⟨hfit, ht⟩, fun r hr => by rw [show r = M.qb1 x (l.take k) from hr]; exact hJ⟩, ⟨⟨hfit, ht⟩, fun r hr => by rw [show r = M.qb1 x (l.take k) from hr]; exact hJ⟩, trivial⟩
end Go.V
