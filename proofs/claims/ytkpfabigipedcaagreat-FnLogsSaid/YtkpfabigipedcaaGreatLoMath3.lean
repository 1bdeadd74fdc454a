import Derived.Test.YtkpfabigipedcaaGreatLoMath2
set_option linter.unusedVariables false
set_option linter.unusedSimpArgs false
set_option maxRecDepth 20000
namespace Go.V
open IntKind (wrap)
theorem wp.cmp_Compare_int.math (x y : Int) (h : M.qfu x y) : wp.cmp_Compare_int x y (fun r => r = M.cmp_Compare_int x y) := by
 intro r1 h1 r2 h2
 have h1 : r1 = false := h1
 have h2 : r2 = false := h2
 subst h1 h2
 refine qaA rfl (qaA rfl (qa2 (fun e => ?_) fun e => qa2 (fun e2 => ?_) fun e2 => ?_))
 ·show _ = M.qgS x y
  unfold M.qgS; rw [if_pos (by simpa using e)]
 ·show _ = M.qgS x y
  unfold M.qgS; rw [if_neg (by simpa using e), if_pos (by simpa using e2)]
 ·show _ = M.qgS x y
  unfold M.qgS; rw [if_neg (by simpa using e), if_neg (by simpa using e2)]
theorem wp.qaF.math (a b : D.Access) (h : M.qdK a b) : wp.qaF a b (fun r => r = M.qaF a b) := ⟨trivial, fun r hr => hr⟩
theorem qlt {A : (Unit → Prop) → Prop} {B : Prop} (h : A fun _ => B) : qf9 (σ := Unit) A (fun p => match p with | (_) => B) := h
theorem qkW {α : Type} {g : α → α → Int} {x : α} : ∀ {b a : List α}, (∀ y ∈ b, g x y < 0) → M.insG g x (b ++ a) = b ++ M.insG g x a
 | [], a, _ => rfl
 | y :: b, a, h => by
  rw [List.cons_append, M.insG, if_pos (h y (by simp)), qkW fun z hz => h z (by simp [hz])]; rfl
theorem qn4 {α : Type} {g : α → α → Int} {x : α} {a : List α} (h : ∀ y r, a = y :: r → ¬ g x y < 0) : M.insG g x a = x :: a := by
 cases a with
 | nil => rfl
 | cons y r => rw [M.insG, if_neg (h y r rfl)]
theorem qoc {α : Type} {g : α → α → Int} {x : α} : ∀ r : List α, (M.insG g x r).length = r.length + 1
 | [] => rfl
 | y :: r => by
  unfold M.insG
  split
  ·simp [qoc r]
  ·simp
theorem qm8 {α : Type} {g : α → α → Int} {x z : α} : ∀ r : List α, z ∈ M.insG g x r ↔ z = x ∨ z ∈ r
 | [] => by simp [M.insG]
 | y :: r => by
  unfold M.insG
  split
  ·simp only [List.mem_cons, qm8 r]
   constructor <;> rintro (h | h | h) <;> simp [h]
  ·simp
def back {α : Type} (g : α → α → Int) (l : List α) : List α := l.foldl (fun r x => M.insG g x r) []
theorem qo6 {α : Type} (g : α → α → Int) (l : List α) (x : α) : back g (l ++ [x]) = M.insG g x (back g l) := by simp [back]
theorem qo5 {α : Type} (g : α → α → Int) : ∀ (l r : List α), (l.foldl (fun r x => M.insG g x r) r).length = l.length + r.length
 | [], r => by simp
 | x :: l, r => by simp only [List.foldl_cons]; rw [qo5 g l, qoc]; simp; omega
theorem qmy {α : Type} (g : α → α → Int) (l : List α) : (back g l).length = l.length := by simp [back, qo5]
theorem qmV {α : Type} {g : α → α → Int} {z : α} : ∀ (l r : List α), z ∈ l.foldl (fun r x => M.insG g x r) r ↔ z ∈ l ∨ z ∈ r
 | [], r => by simp
 | x :: l, r => by
  simp only [List.foldl_cons, qmV l, qm8, List.mem_cons]
  constructor
  ·rintro (h | h | h) <;> simp [h]
  ·rintro ((h | h) | h) <;> simp [h]
theorem back_mem {α : Type} {g : α → α → Int} {l : List α} {z : α} : z ∈ back g l ↔ z ∈ l := by simp [back, qmV]
theorem qoH {α : Type} (g : α → α → Int) (l : List α) : (M.qi6 g l).length = l.length := by
 show (back g l).reverse.length = _
 rw [List.length_reverse, qmy]
theorem qox {α : Type} {g : α → α → Int} {l : List α} {z : α} : z ∈ M.qi6 g l ↔ z ∈ l := by
 show z ∈ (back g l).reverse ↔ _
 rw [List.mem_reverse, back_mem]
theorem qpv {α : Type} {A B : List α} {x y : α} : ((A ++ y :: x :: B).set (A.length + 1) y).set A.length x = A ++ x :: y :: B := by
 rw [List.set_append_right _ _ (by omega), show A.length + 1 - A.length = 1 by omega, List.set_append_right _ _ (Nat.le_refl _), Nat.sub_self]; rfl
theorem qp9 {α : Type} [Inhabited α] {A B : List α} {x : α} {k : Nat} (h : k = A.length) : rd (A ++ x :: B) (k : Int) = x := by
 subst h
 rw [qcV (by simp)]; simp
theorem wp.qa9.math (l : List D.Access) (a b : Int) (g : D.Access → D.Access → Int) (Dm : D.Access → D.Access → Prop) (h : M.qcu l a b g Dm) : wp.qa9 l a b g Dm (fun r => r = M.qa9 l a b g) := by
 obtain ⟨rfl, rfl, hl, hD⟩ := h
 have w1 : wrap .i64 ((0 : Int) + 1) = 1 := by decide +kernel
 unfold wp.qa9
 rw [w1]
 -- the outer loop; n elements are sorted
 refine ⟨fun m z => ∃ n : Nat, 1 ≤ n ∧ n ≤ max 1 l.length ∧ m = max 1 l.length - n ∧ z = ((n : Int), (back g (l.take n)).reverse ++ l.drop n, ()), ⟨_, 1, Nat.le_refl _, by omega, rfl, ?_⟩, ?_⟩
 ·cases l with
  | nil => rfl
  | cons x l => rfl
 rintro m _ ⟨n, hn1, hn, rfl, rfl⟩
 dsimp only
 refine qa2 (fun e => ?_) fun e => ?_
 ·have hn : n < l.length := by simp at e; omega
  have hx : l.drop n = rd l (n : Int) :: l.drop (n + 1) := by rw [qcV hn]; exact List.drop_eq_getElem_cons hn
  have ht : l.take (n + 1) = l.take n ++ [rd l (n : Int)] := by rw [qcV hn]; simp
  have hxm : rd l (n : Int) ∈ l := by rw [qcV hn]; exact List.getElem_mem hn
  have hbl : (back g (l.take n)).length = n := by rw [qmy, List.length_take]; omega
  have hbm : ∀ y ∈ back g (l.take n), y ∈ l := fun y hy => List.mem_of_mem_take (back_mem.1 hy)
  have hrest : (l.drop (n + 1)).length = l.length - (n + 1) := List.length_drop
  have goal : ∀ (z : List D.Access), z = (back g (l.take (n + 1))).reverse ++ l.drop (n + 1) → ∃ m', m' < max 1 l.length - n ∧ ∃ n' : Nat, 1 ≤ n' ∧ n' ≤ max 1 l.length ∧ m' = max 1 l.length - n' ∧ ((wrap .i64 ((n : Int) + 1), z, ()) : Int × List D.Access × Unit) = ((n' : Int), (back g (l.take n')).reverse ++ l.drop n', ()) :=
   fun z hz => ⟨_, by omega, n + 1, by omega, by omega, rfl, by rw [up64 hn (by omega), hz]⟩
  rw [hx]
  rw [ht, qo6] at goal
  generalize rd l (n : Int) = x at *
  generalize back g (l.take n) = R at *
  generalize l.drop (n + 1) = rest at *
  refine ⟨fun m z => ∃ (P B : List D.Access), m = P.length ∧ R = B ++ P ∧ (∀ y ∈ B, g x y < 0) ∧ z = ((P.length : Int), P.reverse ++ x :: (B.reverse ++ rest), ()), ⟨_, R, [], rfl, rfl, (fun y hy => by cases hy), by simp [hbl]⟩, ?_⟩
  rintro m _ ⟨P, B, rfl, rfl, hB, rfl⟩
  dsimp only
  have hlen : (P.reverse ++ x :: (B.reverse ++ rest)).length = l.length := by
   simp only [List.length_append, List.length_reverse, List.length_cons] at hbl ⊢
   omega
  have hPl : P.length < l.length := by simp only [List.length_append] at hbl; omega
  cases P with
  | nil =>
   refine qlt ?_
   have gz := goal (x :: (B.reverse ++ rest)) (by
    rw [qkW hB, qn4 (fun y r hy => by cases hy)]; simp)
   exact qaA rfl ⟨gz, gz, trivial⟩
  | cons y P =>
   have ej : ((y :: P).length : Int) = ((P.length + 1 : Nat) : Int) := by simp
   have w2 : wrap .i64 (((P.length + 1 : Nat) : Int) - 1) = (P.length : Int) := by
    rw [w64 (by omega) (by simp at hPl; omega)]; omega
   have eL : (y :: P).reverse ++ x :: (B.reverse ++ rest) = P.reverse ++ y :: x :: (B.reverse ++ rest) := by simp
   have r1 : rd (P.reverse ++ y :: x :: (B.reverse ++ rest)) ((P.length + 1 : Nat) : Int) = x := by
    have := qp9 (A := P.reverse ++ [y]) (B := B.reverse ++ rest) (x := x) (k := P.length + 1) (by simp)
    simpa using this
   have r0 : rd (P.reverse ++ y :: x :: (B.reverse ++ rest)) (P.length : Int) = y := qp9 (by simp)
   rw [eL] at hlen ⊢
   rw [ej, w2, r1, r0]
   have ix1 : 0 ≤ ((P.length + 1 : Nat) : Int) ∧ ((P.length + 1 : Nat) : Int) < ((P.reverse ++ y :: x :: (B.reverse ++ rest)).length : Int) := by rw [hlen]; simp at hPl; omega
   have ix0 : 0 ≤ (P.length : Int) ∧ (P.length : Int) < ((P.reverse ++ y :: x :: (B.reverse ++ rest)).length : Int) := by rw [hlen]; simp at hPl; omega
   have hy : y ∈ l := hbm y (by simp)
   have hd : Dm x y := hD _ hxm _ hy
   refine qlt (qaH (by simp) ⟨ix1, ix0, ?_⟩)
   have one : Dm x y ∧ ∀ r, r = g x y → qa1 (decide (r < 0)) ((0 ≤ (P.length : Int) ∧ (P.length : Int) < ((P.reverse ++ y :: x :: (B.reverse ++ rest)).length : Int)) ∧ ((0 ≤ ((P.length + 1 : Nat) : Int) ∧ ((P.length + 1 : Nat) : Int) < ((P.reverse ++ y :: x :: (B.reverse ++ rest)).length : Int)) ∧
       ((((0 ≤ ((P.length + 1 : Nat) : Int) ∧ ((P.length + 1 : Nat) : Int) < ((P.reverse ++ y :: x :: (B.reverse ++ rest)).length : Int)) ∧ ((0 ≤ (P.length : Int) ∧ (P.length : Int) < ((List.set (P.reverse ++ y :: x :: (B.reverse ++ rest)) (((P.length + 1 : Nat) : Int).toNat) y).length : Int)) ∧
        ∃ m', m' < (y :: P).length ∧ ∃ (P' B' : List D.Access), m' = P'.length ∧ B ++ y :: P = B' ++ P' ∧ (∀ y ∈ B', g x y < 0) ∧ (((P.length : Int), List.set (List.set (P.reverse ++ y :: x :: (B.reverse ++ rest)) (((P.length + 1 : Nat) : Int).toNat) y) ((P.length : Int).toNat) x, ()) : Int × List D.Access × Unit) = ((P'.length : Int), P'.reverse ++ x :: (B'.reverse ++ rest), ()))) ∧
        ((0 ≤ ((P.length + 1 : Nat) : Int) ∧ ((P.length + 1 : Nat) : Int) < ((P.reverse ++ y :: x :: (B.reverse ++ rest)).length : Int)) ∧ ((0 ≤ (P.length : Int) ∧ (P.length : Int) < ((List.set (P.reverse ++ y :: x :: (B.reverse ++ rest)) (((P.length + 1 : Nat) : Int).toNat) y).length : Int)) ∧
        ∃ m', m' < (y :: P).length ∧ ∃ (P' B' : List D.Access), m' = P'.length ∧ B ++ y :: P = B' ++ P' ∧ (∀ y ∈ B', g x y < 0) ∧ (((P.length : Int), List.set (List.set (P.reverse ++ y :: x :: (B.reverse ++ rest)) (((P.length + 1 : Nat) : Int).toNat) y) ((P.length : Int).toNat) x, ()) : Int × List D.Access × Unit) = ((P'.length : Int), P'.reverse ++ x :: (B'.reverse ++ rest), ()))) ∧ True))))
       (∃ m', m' < max 1 l.length - n ∧ ∃ n' : Nat, 1 ≤ n' ∧ n' ≤ max 1 l.length ∧ m' = max 1 l.length - n' ∧ ((wrap .i64 ((n : Int) + 1), P.reverse ++ y :: x :: (B.reverse ++ rest), ()) : Int × List D.Access × Unit) = ((n' : Int), (back g (l.take n')).reverse ++ l.drop n', ())) := by
    refine ⟨hd, fun r hr => qa2 (fun e3 => ?_) fun e3 => ?_⟩
    ·have hgy : g x y < 0 := by rw [← hr]; simpa using e3
     have fin : ∃ m', m' < (y :: P).length ∧ ∃ (P' B' : List D.Access), m' = P'.length ∧ B ++ y :: P = B' ++ P' ∧ (∀ y ∈ B', g x y < 0) ∧ (((P.length : Int), List.set (List.set (P.reverse ++ y :: x :: (B.reverse ++ rest)) (((P.length + 1 : Nat) : Int).toNat) y) ((P.length : Int).toNat) x, ()) : Int × List D.Access × Unit) = ((P'.length : Int), P'.reverse ++ x :: (B'.reverse ++ rest), ()) := by
      refine ⟨P.length, by simp, P, B ++ [y], rfl, by simp, fun z hz => ?_, ?_⟩
      ·rcases List.mem_append.1 hz with hz | hz
       ·exact hB z hz
       ·rw [List.mem_singleton.1 hz]; exact hgy
      ·rw [Int.toNat_natCast, Int.toNat_natCast]
       have := qpv (A := P.reverse) (B := B.reverse ++ rest) (x := x) (y := y)
       rw [List.length_reverse] at this
       rw [this]; simp
     have ix2 : 0 ≤ (P.length : Int) ∧ (P.length : Int) < ((List.set (P.reverse ++ y :: x :: (B.reverse ++ rest)) (((P.length + 1 : Nat) : Int).toNat) y).length : Int) := by rw [List.length_set]; exact ix0
     exact ⟨ix0, ix1, ⟨ix1, ix2, fin⟩, ⟨ix1, ix2, fin⟩, trivial⟩
    ·have hgy : ¬ g x y < 0 := by rw [← hr]; simpa using e3
     refine goal _ ?_
     rw [qkW hB, qn4 (fun y' r' hy' => by cases hy'; exact hgy)]
     simp
   exact ⟨one, one, trivial⟩
 ·have hn : l.length ≤ n := by simp at e; omega
  rw [List.drop_of_length_le hn, List.take_of_length_le hn, List.append_nil]; rfl
theorem wp.qaj.math (l : List D.Access) (a b c : Int) (g : D.Access → D.Access → Int) (Dm : D.Access → D.Access → Prop) (h : M.qdc l a b c g Dm) : wp.qaj l a b c g Dm (fun r => r = M.qaj l a b c g) := by
 obtain ⟨rfl, rfl, hl, hD⟩ := h
 refine qcS 0 (fun _ => (0, (l.length : Int), c, true, true, ())) (fun _ => True) rfl trivial (fun k hk _ _ _ => absurd hk (by omega)) fun _ next => ?_
 exact qaH (by rw [w64 (by omega) (by omega)]; simp; omega) ⟨⟨rfl, rfl, hl, hD⟩, fun r hr => hr⟩
theorem wp.qa7.math (l : List D.Access) (g : D.Access → D.Access → Int) (Dm : D.Access → D.Access → Prop) (h : M.qbz l g Dm) : wp.qa7 l g Dm (fun r => r = M.qa7 l g) := by
 obtain ⟨hl, hD⟩ := h
 have e : IntKind.wrap .u64 (l.length : Int) = (l.length : Int) := by
  have : l.length = 0 ∨ l.length = 1 ∨ l.length = 2 ∨ l.length = 3 ∨ l.length = 4 ∨ l.length = 5 ∨ l.length = 6 ∨ l.length = 7 ∨ l.length = 8 ∨ l.length = 9 ∨ l.length = 10 ∨ l.length = 11 ∨ l.length = 12 := by omega
  rcases this with e | e | e | e | e | e | e | e | e | e | e | e | e <;> rw [e] <;> decide +kernel
 rw [show wp.qa7 l g Dm (fun r => r = M.qa7 l g) = wp.qa7 l g Dm (fun r => r = M.qi6 g l) from rfl]
 unfold wp.qa7
 rw [e]
 exact ⟨⟨by omega, by omega⟩, fun r _ => ⟨⟨rfl, rfl, hl, hD⟩, fun r2 hr2 => hr2⟩⟩
end Go.V
namespace Go.V
open IntKind (wrap)
section
variable {α : Type} [DecidableEq α]
theorem ql5 (a y : α) : ∀ (p : List α) (x : α), M.sqz x ((p ++ [a]) ++ [y]) = if y = a then M.sqz x (p ++ [a]) else M.sqz x (p ++ [a]) ++ [y]
 | [], x => by
  simp only [List.nil_append, List.cons_append, M.sqz]
  by_cases h : a = x
  ·subst h; by_cases h2 : y = a <;> simp [h2]
  ·by_cases h2 : y = a <;> simp [h, h2]
 | b :: p, x => by
  simp only [List.cons_append, M.sqz]
  split
  ·exact ql5 a y p x
  ·have := ql5 a y p b
   rw [this]
   split <;> simp
theorem qlq (p : List α) (a y : α) : M.qei ((p ++ [a]) ++ [y]) = if y = a then M.qei (p ++ [a]) else M.qei (p ++ [a]) ++ [y] := by
 cases p with
 | nil =>
  simp only [List.nil_append, List.cons_append, M.qei, M.sqz]
  split <;> simp
 | cons x p =>
  simp only [List.cons_append, M.qei]
  have := ql5 a y p x
  rw [this]
  split <;> simp
theorem qkD [Inhabited α] {l : List α} {k : Nat} (h1 : 1 ≤ k) (h : k < l.length) : M.qei (l.take (k + 1)) = if rd l (k : Int) = rd l ((k - 1 : Nat) : Int) then M.qei (l.take k) else M.qei (l.take k) ++ [rd l (k : Int)] := by
 have e1 : l.take (k + 1) = l.take k ++ [rd l (k : Int)] := by rw [qcV h]; simp
 have e0 : l.take k = l.take (k - 1) ++ [rd l ((k - 1 : Nat) : Int)] := by
  have : l.take (k - 1 + 1) = l.take (k - 1) ++ [rd l ((k - 1 : Nat) : Int)] := by rw [qcV (by omega)]; simp
  rwa [show k - 1 + 1 = k by omega] at this
 rw [e1, e0, qlq]
theorem qij {l : List α} (h : l.length < 2) : M.qei l = l := by
 match l, h with
 | [], _ => rfl
 | [x], _ => rfl
end
end Go.V
namespace Go.V
open IntKind (wrap)
def wp.qb0 (c : D.Block) (a : Int) (Q : (List D.Access) → Prop) : Prop :=
 (M.qdG c a ∧ ∀ d, d = M.qaC c a → ((0 ≤ a ∧ a < (c.Warps.length : Int)) ∧ (M.qcU (rd c.Warps a) ∧ ∀ j, j = M.qbg (rd c.Warps a) → (∀ e, e = M.qc8 j → qcX (σ := (List D.Access) × Int × Unit) (fun (n : (List D.Access) × Int × Unit) k => match n with | (f, b, _) => qa1 (decide (b < (e.length : Int))) (((0 ≤ b ∧ b < (e.length : Int)) ∧ ((0 ≤ a ∧ a < (c.Warps.length : Int)) ∧ (M.qdS (rd c.Warps a) (rd e b) ∧ qa1 (d.1.Op == 13) (((0 ≤ d.1.B ∧ d.1.B < ((List.drop ((wrap .i64 ((rd e b) * 4)).toNat) (List.take ((wrap .i64 ((wrap .i64 ((rd e b) + 1)) * 4)).toNat) ((rd c.Warps a).Regs))).length : Int)) ∧ ((f.length + ([(⟨c.Phase, a, (Int.tmod (rd (List.drop ((wrap .i64 ((rd e b) * 4)).toNat) (List.take ((wrap .i64 ((wrap .i64 ((rd e b) + 1)) * 4)).toNat) ((rd c.Warps a).Regs))) d.1.B) 32), d.1.Op⟩ : D.Access)] : List D.Access).length ≤ 17179869184) ∧ k ((f ++ ([(⟨c.Phase, a, (Int.tmod (rd (List.drop ((wrap .i64 ((rd e b) * 4)).toNat) (List.take ((wrap .i64 ((wrap .i64 ((rd e b) + 1)) * 4)).toNat) ((rd c.Warps a).Regs))) d.1.B) 32), d.1.Op⟩ : D.Access)] : List D.Access)), (wrap .i64 (b + 1)), ())))) (qf9 (σ := Bool × Unit) (fun l => qa1 (d.1.Op == 14) (l (true, ())) (l ((d.1.Op == 15), ()))) (fun (o : Bool × Unit) => match o with | (p, _) => qa1 p (((0 ≤ d.1.A ∧ d.1.A < ((List.drop ((wrap .i64 ((rd e b) * 4)).toNat) (List.take ((wrap .i64 ((wrap .i64 ((rd e b) + 1)) * 4)).toNat) ((rd c.Warps a).Regs))).length : Int)) ∧ ((f.length + ([(⟨c.Phase, a, (Int.tmod (rd (List.drop ((wrap .i64 ((rd e b) * 4)).toNat) (List.take ((wrap .i64 ((wrap .i64 ((rd e b) + 1)) * 4)).toNat) ((rd c.Warps a).Regs))) d.1.A) 32), d.1.Op⟩ : D.Access)] : List D.Access).length ≤ 17179869184) ∧ k ((f ++ ([(⟨c.Phase, a, (Int.tmod (rd (List.drop ((wrap .i64 ((rd e b) * 4)).toNat) (List.take ((wrap .i64 ((wrap .i64 ((rd e b) + 1)) * 4)).toNat) ((rd c.Warps a).Regs))) d.1.A) 32), d.1.Op⟩ : D.Access)] : List D.Access)), (wrap .i64 (b + 1)), ())))) (Q f))))))) ((M.qbz f (fun g h => M.qaF g h) (fun g h => M.qdK g h) ∧ ∀ i, i = M.qa7 f (fun g h => M.qaF g h) → (M.qcz i ∧ ∀ m, m = M.qae i → Q m)))) (([] : List D.Access), 0, ())))))
end Go.V
namespace Go.V
open IntKind (wrap)
theorem qkF {x y : Int} : M.qgS x y < 0 ↔ x < y := by
 unfold M.qgS
 split
 ·simp [*]
 ·split <;> omega
theorem qko {x : Int} : ∀ r : List Int, r.Pairwise (fun a b => b ≤ a) → (M.insG M.qgS x r).Pairwise (fun a b => b ≤ a)
 | [], _ => by simp [M.insG]
 | y :: r, h => by
  obtain ⟨h1, h2⟩ := List.pairwise_cons.1 h
  unfold M.insG
  split
  ·rename_i e
   rw [qkF] at e
   refine List.pairwise_cons.2 ⟨fun z hz => ?_, qko r h2⟩
   rcases (qm8 r).1 hz with rfl | hz
   ·omega
   ·exact h1 z hz
  ·rename_i e
   rw [qkF] at e
   refine List.pairwise_cons.2 ⟨fun z hz => ?_, h⟩
   rcases List.mem_cons.1 hz with rfl | hz
   ·omega
   ·have := h1 z hz; omega
theorem qjy : ∀ (l r : List Int), r.Pairwise (fun a b => b ≤ a) → (l.foldl (fun r x => M.insG M.qgS x r) r).Pairwise (fun a b => b ≤ a)
 | [], r, h => h
 | x :: l, r, h => by simp only [List.foldl_cons]; exact qjy l _ (qko r h)
theorem qm5 (l : List Int) : (M.qi6 M.qgS l).Pairwise (fun a b => a ≤ b) := by
 unfold M.qi6
 rw [List.pairwise_reverse]
 exact qjy l [] List.Pairwise.nil
theorem qiH : ∀ (l : List Int) (x : Int), (x :: l).Pairwise (fun a b => a ≤ b) → (x :: M.sqz x l).Pairwise (fun a b => a < b) ∧ ∀ z, z ∈ x :: M.sqz x l ↔ z ∈ x :: l
 | [], x, _ => by simp [M.sqz]
 | y :: l, x, h => by
  obtain ⟨h1, h2⟩ := List.pairwise_cons.1 h
  obtain ⟨h3, h4⟩ := List.pairwise_cons.1 h2
  unfold M.sqz
  by_cases e : y = x
  ·rw [if_pos e]
   subst e
   obtain ⟨g1, g2⟩ := qiH l y h2
   exact ⟨g1, fun z => by rw [g2]; simp⟩
  ·rw [if_neg e]
   obtain ⟨g1, g2⟩ := qiH l y h2
   refine ⟨List.pairwise_cons.2 ⟨fun z hz => ?_, g1⟩, fun z => by rw [List.mem_cons, g2 z, List.mem_cons (a := z) (b := x)]⟩
   have hxy := h1 y (by simp)
   rcases List.mem_cons.1 ((g2 z).1 hz) with rfl | hz
   ·omega
   ·have := h3 z hz; omega
theorem qkc {l : List Int} (h : l.Pairwise (fun a b => a ≤ b)) : (M.qei l).Pairwise (fun a b => a < b) ∧ ∀ z, z ∈ M.qei l ↔ z ∈ l := by
 cases l with
 | nil => exact ⟨List.Pairwise.nil, fun z => Iff.rfl⟩
 | cons x l => exact qiH l x h
theorem qkI : ∀ {a b : List Int}, a.Pairwise (fun x y => x < y) → b.Pairwise (fun x y => x < y) → (∀ z, z ∈ a ↔ z ∈ b) → a = b
 | [], [], _, _, _ => rfl
 | [], y :: b, _, _, h => by have := (h y).2 (by simp); simp at this
 | x :: a, [], _, _, h => by have := (h x).1 (by simp); simp at this
 | x :: a, y :: b, ha, hb, h => by
  obtain ⟨a1, a2⟩ := List.pairwise_cons.1 ha
  obtain ⟨b1, b2⟩ := List.pairwise_cons.1 hb
  have e : x = y := by
   rcases List.mem_cons.1 ((h x).1 (by simp)) with e | hx
   ·exact e
   ·rcases List.mem_cons.1 ((h y).2 (by simp)) with e | hy
    ·exact e.symm
    ·have := a1 y hy; have := b1 x hx; omega
  subst e
  refine congrArg _ (qkI a2 b2 fun z => ⟨fun hz => ?_, fun hz => ?_⟩)
  ·rcases List.mem_cons.1 ((h z).1 (List.mem_cons_of_mem _ hz)) with e | h2
   ·have := a1 z hz; omega
   ·exact h2
  ·rcases List.mem_cons.1 ((h z).2 (List.mem_cons_of_mem _ hz)) with e | h2
   ·have := b1 z hz; omega
   ·exact h2
theorem qk4 (l : List Int) (n : Int) : ∀ m, M.putAt l n m ≤ m
 | 0 => Nat.le_refl _
 | m + 1 => by
  unfold M.putAt
  split
  ·have := qk4 l n m; omega
  ·omega
theorem qlH (l : List Int) (n : Int) : ∀ m i, M.putAt l n m ≤ i → i < m → rd l (i : Int) > n
 | 0, i, _, h => by omega
 | m + 1, i, h, hi => by
  unfold M.putAt at h
  split at h
  ·rename_i e
   by_cases ei : i = m
   ·rw [ei]; exact e
   ·exact qlH l n m i h (by omega)
  ·omega
theorem qjz (l : List Int) (n : Int) : ∀ m, 0 < M.putAt l n m → rd l ((M.putAt l n m - 1 : Nat) : Int) ≤ n
 | 0, h => by simp [M.putAt] at h
 | m + 1, h => by
  unfold M.putAt at h ⊢
  split
  ·rename_i e; rw [if_pos e] at h; exact qjz l n m h
  ·rename_i e; rw [Nat.add_sub_cancel]; omega
theorem qnh {l : List Int} (h : l.Pairwise (fun a b => a < b)) (n : Int) : (M.qbf l n).Pairwise (fun a b => a < b) ∧ ∀ z, z ∈ M.qbf l n ↔ z ∈ l ∨ z = n := by
 have hk := qk4 l n l.length
 have hb := qlH l n l.length
 have hs := qjz l n l.length
 unfold M.qbf
 generalize M.putAt l n l.length = k at *
 have hg := List.pairwise_iff_getElem.1 h
 by_cases e : k > 0 ∧ rd l (((k : Nat) : Int) - 1) = n
 ·rw [if_pos e]
  refine ⟨h, fun z => ⟨.inl, fun hz => ?_⟩⟩
  rcases hz with hz | rfl
  ·exact hz
  ·rw [← e.2]; exact qke (by omega) (by omega)
 ·rw [if_neg e]
  have low : ∀ z ∈ l.take k, z < n := fun z hz => by
   obtain ⟨i, hi, rfl⟩ := List.getElem_of_mem hz
   rw [List.length_take] at hi
   rw [List.getElem_take]
   have h0 : 0 < k := by omega
   have hs := hs h0
   have hne : ¬ rd l (((k : Nat) : Int) - 1) = n := fun hh => e ⟨h0, hh⟩
   rw [show ((k : Nat) : Int) - 1 = ((k - 1 : Nat) : Int) by omega] at hne
   rw [qcV (by omega)] at hs hne
   by_cases ei : i = k - 1
   ·subst ei; omega
   ·have := hg i (k - 1) (by omega) (by omega) (by omega); omega
  have high : ∀ z ∈ l.drop k, n < z := fun z hz => by
   obtain ⟨i, hi, rfl⟩ := List.getElem_of_mem hz
   rw [List.length_drop] at hi
   rw [List.getElem_drop]
   have := hb (k + i) (by omega) (by omega)
   rw [qcV (by omega)] at this
   omega
  have hp := h
  rw [← List.take_append_drop k l, List.pairwise_append] at hp
  refine ⟨?_, fun z => ?_⟩
  ·rw [List.append_assoc, List.pairwise_append]
   refine ⟨hp.1, ?_, fun x hx y hy => ?_⟩
   ·rw [List.pairwise_append]
    exact ⟨by simp, hp.2.1, fun x hx y hy => by rw [List.mem_singleton.1 hx]; exact high y hy⟩
   ·rcases List.mem_append.1 hy with hy | hy
    ·rw [List.mem_singleton.1 hy]; exact low x hx
    ·exact hp.2.2 x hx y hy
  ·have : z ∈ l ↔ z ∈ l.take k ∨ z ∈ l.drop k := by rw [← List.mem_append, List.take_append_drop]
   rw [this]
   simp only [List.mem_append, List.mem_singleton]
   constructor
   ·rintro ((h | h) | h) <;> simp [h]
   ·rintro ((h | h) | h) <;> simp [h]
theorem qop : ∀ (l r : List Int), r.Pairwise (fun a b => a < b) → (l.foldl M.qbf r).Pairwise (fun a b => a < b) ∧ ∀ z, z ∈ l.foldl M.qbf r ↔ z ∈ r ∨ z ∈ l
 | [], r, h => ⟨h, fun z => by simp⟩
 | x :: l, r, h => by
  obtain ⟨p1, p2⟩ := qnh h x
  obtain ⟨q1, q2⟩ := qop l _ p1
  simp only [List.foldl_cons]
  refine ⟨q1, fun z => ?_⟩
  rw [q2, p2, List.mem_cons]
  constructor
  ·rintro ((h | h) | h) <;> simp [h]
  ·rintro (h | h | h) <;> simp [h]
theorem qiu (l : List Int) : (M.qjZ l).Pairwise (fun a b => a < b) ∧ ∀ z, z ∈ M.qjZ l ↔ z ∈ l := by
 obtain ⟨h1, h2⟩ := qop l [] List.Pairwise.nil
 exact ⟨h1, fun z => by rw [show M.qjZ l = l.foldl M.qbf [] from rfl, h2]; simp⟩
theorem qpF (l : List Int) (n : Int) : (M.qbf l n).length ≤ l.length + 1 := by
 have hk := qk4 l n l.length
 unfold M.qbf
 split
 ·omega
 ·simp; omega
theorem qkB : ∀ (l r : List Int), (l.foldl M.qbf r).length ≤ r.length + l.length
 | [], r => by simp
 | x :: l, r => by
  simp only [List.foldl_cons]
  have := qkB l (M.qbf r x)
  have := qpF r x
  simp; omega
theorem qoy (l : List Int) : M.qei (M.qi6 M.qgS l) = M.qjZ l := by
 obtain ⟨h1, h2⟩ := qkc (qm5 l)
 obtain ⟨h3, h4⟩ := qiu l
 exact qkI h1 h3 fun z => by rw [h2, qox, h4]
theorem qnE {α β : Type} {f : α → β} {g : β → β → Int} {h : α → α → Int} (hg : ∀ x y, g (f x) (f y) = h x y) (x : α) : ∀ r : List α, M.insG g (f x) (r.map f) = (M.insG h x r).map f
 | [] => rfl
 | y :: r => by
  simp only [List.map_cons, M.insG, hg]
  split
  ·rw [qnE hg x r]; rfl
  ·rfl
theorem fold_map {α β : Type} {f : α → β} {g : β → β → Int} {h : α → α → Int} (hg : ∀ x y, g (f x) (f y) = h x y) : ∀ (l r : List α), (l.map f).foldl (fun r x => M.insG g x r) (r.map f) = (l.foldl (fun r x => M.insG h x r) r).map f
 | [], r => rfl
 | x :: l, r => by simp only [List.map_cons, List.foldl_cons]; rw [qnE hg, fold_map hg l]
theorem qoD {α β : Type} {f : α → β} {g : β → β → Int} {h : α → α → Int} (hg : ∀ x y, g (f x) (f y) = h x y) (l : List α) : M.qi6 g (l.map f) = (M.qi6 h l).map f := by
 unfold M.qi6
 have := fold_map hg l []
 rw [List.map_nil] at this
 rw [this, List.map_reverse]
theorem qmo {α β : Type} [DecidableEq α] [DecidableEq β] {f : α → β} (hf : ∀ x y, f x = f y → x = y) : ∀ (l : List α) (x : α), M.sqz (f x) (l.map f) = (M.sqz x l).map f
 | [], x => rfl
 | y :: l, x => by
  simp only [List.map_cons, M.sqz]
  by_cases e : y = x
  ·subst e; simp [qmo hf l]
  ·have : ¬ f y = f x := fun h => e (hf _ _ h)
   simp [e, this, qmo hf l]
theorem qm7 {α β : Type} [DecidableEq α] [DecidableEq β] {f : α → β} (hf : ∀ x y, f x = f y → x = y) (l : List α) : M.qei (l.map f) = (M.qei l).map f := by
 cases l with
 | nil => rfl
 | cons x l => simp only [List.map_cons, M.qei, qmo hf]
theorem qnp (b : D.Block) (w : Int) (l : List Int) : M.qei (M.qi6 (fun x y => M.qaF x y) (l.map (M.qk0 b w))) = (M.qjZ l).map (M.qk0 b w) := by
 rw [qoD (f := M.qk0 b w) (h := M.qgS) (fun x y => rfl), qm7 (fun x y h => by injection h), qoy]
theorem qp7 {b : D.Block} {w : Int} (h : M.Live b w) (hf : M.isIn (M.qbR b w).Op 13 15 = true) : qj0 (M.qbR b w) := by
 simp only [M.isIn, Bool.and_eq_true, decide_eq_true_eq] at hf
 have hl : M.qcy (M.qbR b w) = false := by
  simp only [M.qcy, M.isIn, Bool.and_eq_false_iff, decide_eq_false_iff_not]; omega
 exact (qjf h hl).1
theorem qmU {i : D.Ins} (h : qj0 i) : 0 ≤ M.qmu i ∧ M.qmu i ≤ 3 := by
 obtain ⟨h1, h2, h3, h4⟩ := h
 unfold M.qmu
 split <;> omega
theorem qp2 {r : List Int} (h : r.length = 32) {l j : Int} (l0 : 0 ≤ l) (l7 : l ≤ 7) (j0 : 0 ≤ j) (j3 : j ≤ 3) :
    rd (List.drop ((wrap .i64 (l * 4)).toNat) (List.take ((wrap .i64 ((wrap .i64 (l + 1)) * 4)).toNat) r)) j = rd r (l * 4 + j) ∧ (List.drop ((wrap .i64 (l * 4)).toNat) (List.take ((wrap .i64 ((wrap .i64 (l + 1)) * 4)).toNat) r)).length = 4 := by
 rw [w64 (x := l * 4) (by omega) (by omega), w64 (x := l + 1) (by omega) (by omega), w64 (by omega) (by omega)]
 obtain ⟨n, rfl⟩ := Int.eq_ofNat_of_zero_le l0
 obtain ⟨m, rfl⟩ := Int.eq_ofNat_of_zero_le j0
 have e1 : ((n : Int) * 4).toNat = n * 4 := by omega
 have e2 : (((n : Int) + 1) * 4).toNat = (n + 1) * 4 := by omega
 have hlen : (List.drop (n * 4) (List.take ((n + 1) * 4) r)).length = 4 := by rw [List.length_drop, List.length_take]; omega
 rw [e1, e2]
 refine ⟨?_, hlen⟩
 rw [show (n : Int) * 4 + (m : Int) = ((n * 4 + m : Nat) : Int) by omega, qcV (by omega), qcV (by omega), List.getElem_drop, List.getElem_take]
theorem qmj {α β : Type} [Inhabited α] (f : α → β) {l : List α} {k : Nat} (h : k < l.length) : (l.take (k + 1)).map f = (l.take k).map f ++ [f (rd l (k : Int))] := by
 rw [qjS h]; simp
theorem wp.qb0.math (b : D.Block) (w : Int) (h : M.qex b w) : wp.qb0 b w (fun r => r = M.qb0 b w) := by
 have h : M.Live b w := h
 obtain ⟨h0, h1, hp, hw, hn, hok⟩ := qeg h.1
 have hruns := qgf h.1 h.2
 obtain ⟨t1, t2, t3, t4, t5, t6, t7, _⟩ := qdT hruns
 have hF : M.Long (rd b.Warps w).Frames := by unfold M.Long; omega
 refine ⟨h.1, fun i hi => ⟨⟨h0, h1⟩, hF, fun m gm L gL => ?_⟩⟩
 have gm : m = M.qb2 (rd b.Warps w) := gm
 have gL : L = M.qeA m := gL
 have hi : i = (M.qbR b w, true) := by
  rw [hi]; unfold M.qaC
  rw [if_neg (by simpa using h.2)]
 subst hi
 have hLl : L.length ≤ 8 := by rw [gL]; exact qis m
 have hLi : ∀ l ∈ L, 0 ≤ l ∧ l ≤ 7 := fun l hl => qhR (by rw [← gL]; exact hl)
 have fin : ∀ out : List D.Access, out.length ≤ 8 → M.qei (M.qi6 (fun x y => M.qaF x y) out) = M.qb0 b w →
     (M.qbz out (fun z0_ z1_ => M.qaF z0_ z1_) (fun z0_ z1_ => M.qdK z0_ z1_) ∧ ∀ r147, r147 = M.qa7 out (fun z0_ z1_ => M.qaF z0_ z1_) → (M.qcz r147 ∧ ∀ r153, r153 = M.qae r147 → r153 = M.qb0 b w)) := fun out ho he => by
  refine ⟨⟨by omega, fun _ _ _ _ => trivial⟩, fun r hr => ?_⟩
  have hr : r = M.qi6 (fun x y => M.qaF x y) out := hr
  refine ⟨?_, fun r2 hr2 => ?_⟩
  ·show r.length ≤ _
   rw [hr, qoH]; omega
  ·rw [hr2, hr]; exact he
 by_cases hfar : M.isIn (M.qbR b w).Op 13 15 = true
 ·have hm := qp7 h hfar
  have hreg := qmU hm
  obtain ⟨a0, a3, b0, b3⟩ := hm
  have hR : (M.qjZ (L.map (M.addrAt b w))).map (M.qk0 b w) = M.qb0 b w := by
   show _ = M.accesses b w
   unfold M.accesses
   rw [hfar, gL, gm]; rfl
  have hop : (M.qbR b w).Op = 13 ∨ (M.qbR b w).Op = 14 ∨ (M.qbR b w).Op = 15 := by
   simp only [M.isIn, Bool.and_eq_true, decide_eq_true_eq] at hfar; omega
  refine qcS L.length (fun k => (((L.take k).map (M.addrAt b w)).map (M.qk0 b w), (k : Int), ())) (fun _ => True) rfl trivial (fun k hk _ next hn => ?_) fun _ next => ?_
  ·have hn := hn trivial
   rw [qmj _ hk, List.map_append] at hn
   have hl := hLi _ (qgk hk)
   have hlen : (((L.take k).map (M.addrAt b w)).map (M.qk0 b w)).length ≤ 8 := by rw [List.length_map, List.length_map, List.length_take]; omega
   dsimp only
   rw [up64 hk (by omega)]
   have hA := qp2 t4 hl.1 hl.2 a0 a3
   have hB := qp2 t4 hl.1 hl.2 b0 b3
   refine qaH (by simp; omega) ⟨⟨by omega, by omega⟩, ⟨h0, h1⟩, ⟨t4, hl.1, hl.2⟩, qa2 (fun e => ?_) fun e => ?_⟩
   ·have e : (M.qbR b w).Op = 13 := by simpa using e
    rw [hB.1, hB.2]
    refine ⟨⟨b0, by omega⟩, by simp at hlen ⊢; omega, ?_⟩
    have : M.qk0 b w (M.addrAt b w (rd L (k : Int))) = (⟨b.Phase, w, Int.tmod (rd (rd b.Warps w).Regs (rd L (k : Int) * 4 + (M.qbR b w).B)) 32, (M.qbR b w).Op⟩ : D.Access) := by
     unfold M.qk0 M.addrAt M.qmu; rw [if_pos e]
    rw [List.map_singleton, this] at hn
    exact hn
   ·have e : ¬ (M.qbR b w).Op = 13 := by simpa using e
    have hb : (M.qbR b w).Op = 14 ∨ (M.qbR b w).Op = 15 := hop.resolve_left e
    refine qgd (true, ()) ?_ fun J hJ => qa2 (fun _ => hJ) fun e2 => ?_
    ·dsimp only
     rw [hA.1, hA.2]
     refine qaH rfl ⟨⟨a0, by omega⟩, by simp at hlen ⊢; omega, ?_⟩
     have : M.qk0 b w (M.addrAt b w (rd L (k : Int))) = (⟨b.Phase, w, Int.tmod (rd (rd b.Warps w).Regs (rd L (k : Int) * 4 + (M.qbR b w).A)) 32, (M.qbR b w).Op⟩ : D.Access) := by
      unfold M.qk0 M.addrAt M.qmu; rw [if_neg e]
     rw [List.map_singleton, this] at hn
     exact hn
    ·have e2 : ¬ (M.qbR b w).Op = 14 := by simpa using e2
     rw [show ((M.qbR b w).Op == 15) = true by simp; omega]; exact hJ
  ·refine qaA (by simp) ?_
   rw [List.take_length]
   refine fin _ (by rw [List.length_map, List.length_map]; exact hLl) ?_
   rw [qnp]; exact hR
 ·have hfar := Bool.eq_false_iff.2 hfar
  have hR : [] = M.qb0 b w := by
   show _ = M.accesses b w
   unfold M.accesses
   rw [hfar]; rfl
  have hop : ¬ (M.qbR b w).Op = 13 ∧ ¬ (M.qbR b w).Op = 14 ∧ ¬ (M.qbR b w).Op = 15 := by
   simp only [M.isIn, Bool.and_eq_false_iff, decide_eq_false_iff_not] at hfar; omega
  refine qcS L.length (fun k => ([], (k : Int), ())) (fun k => k = 0) rfl rfl (fun k hk hF0 next hn => ?_) fun hF0 next => ?_
  ·have hl := hLi _ (qgk hk)
   refine qaH (by simp; omega) ⟨⟨by omega, by omega⟩, ⟨h0, h1⟩, ⟨t4, hl.1, hl.2⟩, qaA (by simpa using hop.1) ?_⟩
   refine qgd (false, ()) (qaA rfl hR) fun J hJ => qaA (by simpa using hop.2.1) ?_
   rw [show ((M.qbR b w).Op == 15) = false by simpa using hop.2.2]; exact hJ
  ·refine qaA (by simp) (fin [] (by simp) hR)
theorem qhA (b : D.Block) (w : Int) : (M.accesses b w).length ≤ 8 := by
 unfold M.accesses
 split
 ·rw [List.length_map]
  have := qkB ((M.qeA (M.qb2 (rd b.Warps w))).map (M.addrAt b w)) []
  have h8 := qis (M.qb2 (rd b.Warps w))
  show (((M.qeA (M.qb2 (rd b.Warps w))).map (M.addrAt b w)).foldl M.qbf []).length ≤ 8
  rw [List.length_map] at this
  simp only [List.length_nil] at this
  omega
 ·simp
end Go.V
namespace Go.V
open IntKind (wrap)
def wp.qcf (b : Int) (c : List D.Access) (d : D.Block) (Q : ((List D.Access)) → Prop) : Prop :=
 (M.qex d b ∧ ∀ a, a = M.qb0 d b → ((c.length + a.length ≤ 17179869184) ∧ Q (c ++ a)))
def wp.qaI (a : D.Block) (l : Int) (m : List D.Access) (Q : (Int × D.Block × (List D.Access)) → Prop) : Prop :=
 qcX (σ := Int × (List D.Warp) × Int × Int × (List D.Access) × (List Int) × Unit) (fun (n : Int × (List D.Warp) × Int × Int × (List D.Access) × (List Int) × Unit) o => match n with | (f, c, d, b, g, e, _) => (∀ i, i = M.qaK f l → qa1 (!i.2) (Q (f, (⟨a.Code, c, e, d, b⟩ : D.Block), g)) (qa1 (decide (i.1 < 0)) (Q (f, (⟨a.Code, c, e, d, b⟩ : D.Block), g)) (qa1 (b == 100000) (Q (f, (⟨a.Code, c, e, d, b⟩ : D.Block), g)) ((M.qe4 (⟨a.Code, c, e, d, b⟩ : D.Block) i.1 ∧ ∀ h, h = M.qbe (⟨a.Code, c, e, d, b⟩ : D.Block) i.1 → qa1 (decide (h < 0)) (Q (f, (⟨a.Code, c, e, d, b⟩ : D.Block), g)) ((M.qf7 h g (⟨a.Code, c, e, d, b⟩ : D.Block) ∧ ∀ k, k = M.qcf h g (⟨a.Code, c, e, d, b⟩ : D.Block) → (M.qeE (⟨a.Code, c, e, d, b⟩ : D.Block) h ∧ ∀ j, j = M.qbj (⟨a.Code, c, e, d, b⟩ : D.Block) h → o ((wrap .i64 (f + 1)), j.2.Warps, j.2.Waiting, j.2.Phase, k, j.2.Memory, ())))))))))) (0, a.Warps, a.Waiting, a.Phase, m, a.Memory, ())
def wp.qaY (b : D.Block) (c : Int) (d : List D.Access) (Q : (Int × D.Block × (List D.Access)) → Prop) : Prop :=
 (M.qe5 b c d ∧ ∀ a, a = M.qaI b c d → Q (a.1, (⟨b.Code, a.2.1.Warps, a.2.1.Memory, a.2.1.Waiting, a.2.1.Phase⟩ : D.Block), a.2.2))
def wp.qd2 (c : D.Block) (d : Int) (Q : (D.Block × (List D.Access)) → Prop) : Prop :=
 (M.qeM c ∧ ∀ a, a = M.qca c → (M.qfg c ∧ ∀ e, e = M.qcW c → qa1 (!e) (Q ((⟨a.Code, a.Warps, a.Memory, a.Waiting, a.Phase⟩ : D.Block), ([] : List D.Access))) ((∀ f, f = M.qcM d → qa1 (!f) (Q ((⟨a.Code, a.Warps, a.Memory, a.Waiting, a.Phase⟩ : D.Block), ([] : List D.Access))) ((M.qey a d ([] : List D.Access) ∧ ∀ b, b = M.qaY a d ([] : List D.Access) → (M.qer ([] : List D.Access) b.2.2 ∧ ∀ g, g = M.qbH ([] : List D.Access) b.2.2 → Q ((⟨a.Code, b.2.1.Warps, b.2.1.Memory, b.2.1.Waiting, b.2.1.Phase⟩ : D.Block), g))))))))
def wp.qe0 (f : List Int) (Q : Bool → Prop) : Prop :=
 (∀ h, h = M.qff f → qa1 h (Q true) ((M.qfI f ∧ ∀ d, d = M.qcC f → (M.qfr f ∧ ∀ e, e = M.qbq f → ((0 ≤ (0 : Int) ∧ (0 : Int) < (e.length : Int)) ∧ (M.qfz d (Int.tmod (rd e 0) 4) ∧ ∀ a, a = M.qd2 d (Int.tmod (rd e 0) 4) → (M.qf6 d (Int.tmod (rd e 0) 4) ∧ ∀ g, g = M.qcg d (Int.tmod (rd e 0) 4) → qcX (σ := Int × Unit) (fun (k : Int × Unit) l => match k with | (b, _) => qa1 (decide (b < (a.2.length : Int))) (((0 ≤ b ∧ b < (a.2.length : Int)) ∧ qa1 (decide ((rd a.2 b).Phase < d.Phase)) (Q false) (((0 ≤ b ∧ b < (a.2.length : Int)) ∧ qa1 (decide ((rd a.2 b).Phase > g.1.Phase)) (Q false) (((0 ≤ b ∧ b < (a.2.length : Int)) ∧ qa1 (decide ((rd a.2 b).Address < 0)) (Q false) (((0 ≤ b ∧ b < (a.2.length : Int)) ∧ qa1 (decide ((rd a.2 b).Address ≥ 32)) (Q false) (((0 ≤ b ∧ b < (a.2.length : Int)) ∧ qa1 (decide ((rd a.2 b).Warp < 0)) (Q false) (((0 ≤ b ∧ b < (a.2.length : Int)) ∧ qa1 (decide ((rd a.2 b).Warp ≥ (d.Warps.length : Int))) (Q false) (qcX (σ := Int × Unit) (fun (m : Int × Unit) n => match m with | (c, _) => qa1 (decide (c < b)) (((0 ≤ c ∧ c < (a.2.length : Int)) ∧ ((0 ≤ b ∧ b < (a.2.length : Int)) ∧ qa1 (((rd a.2 c).Phase == (rd a.2 b).Phase) && ((rd a.2 c).Warp == (rd a.2 b).Warp) && ((rd a.2 c).Address == (rd a.2 b).Address) && ((rd a.2 c).Kind == (rd a.2 b).Kind)) (Q false) (n ((wrap .i64 (c + 1)), ()))))) (l ((wrap .i64 (b + 1)), ()))) (0, ())))))))))))))) ((M.qfM a.1 g.1 ∧ ∀ i, i = M.qck a.1 g.1 → qa1 i ((M.qer a.2 a.2 ∧ ∀ j, j = M.qbH a.2 a.2 → Q ((j.length : Int) == (a.2.length : Int)))) (Q false)))) (0, ()))))))))
end Go.V
namespace Go.V
open IntKind (wrap)
theorem wp.qcf.math (w : Int) (l : List D.Access) (b : D.Block) (h : M.qf7 w l b) : wp.qcf w l b (fun r => r = M.qcf w l b) := by
 obtain ⟨h1, h2⟩ := h
 refine ⟨h1, fun r hr => ⟨?_, by rw [hr]; rfl⟩⟩
 have hr : r = M.accesses b w := hr
 have := qhA b w
 rw [hr]; omega
theorem qlA (f : Nat → Int) (b : D.Block) (l : List D.Access) : ∀ k, (M.qkk f b l k).length ≤ l.length + 8 * k
 | 0 => Nat.le_refl _
 | k + 1 => by
  unfold M.qkk
  rw [List.length_append]
  have := qlA f b l k
  have := qhA (M.goAt f b k) (M.pick (M.goAt f b k) (f k))
  omega
structure LogI (f : Nat → Int) (b : D.Block) (l : List D.Access) (n k : Nat) : Prop where
 go : GoI f b n k
 log : M.qhv f n b 0 l = M.qhv f (n - k) (M.goAt f b k) k (M.qkk f b l k)
theorem qor {f : Nat → Int} {b : D.Block} {l : List D.Access} (h : M.Good b) (n : Nat) : LogI f b l n 0 := ⟨qkR h n, rfl⟩
theorem qpN {f : Nat → Int} {b : D.Block} {l : List D.Access} {n k : Nat} (h : LogI f b l n k) (hk : k < n) (hs : M.stops f (M.goAt f b k) k = false) : LogI f b l n (k + 1) := by
 refine ⟨qpb h.go hk hs, ?_⟩
 rw [h.log, show n - k = (n - (k + 1)) + 1 by omega, M.qhv, if_neg (by rw [hs]; simp)]
 rfl
theorem qnH {f : Nat → Int} {b : D.Block} {l : List D.Access} {n k : Nat} (h : LogI f b l n k) (hk : k < n) (hs : M.stops f (M.goAt f b k) k = true) : M.qhv f n b 0 l = M.qkk f b l k := by
 rw [h.log, show n - k = (n - (k + 1)) + 1 by omega, M.qhv, if_pos hs]
theorem qoQ {f : Nat → Int} {b : D.Block} {l : List D.Access} {n : Nat} (h : LogI f b l n n) : M.qhv f n b 0 l = M.qkk f b l n := by
 rw [h.log, Nat.sub_self]; rfl
theorem wp.qaI.math (b : D.Block) (s : Int) (l : List D.Access) (h : M.qe5 b s l) : wp.qaI b s l (fun r => r = M.qaI b s l) := by
 obtain ⟨hg, hs0, hs1, hl⟩ := h
 obtain ⟨N, hN⟩ : ∃ N : Nat, N = 9000 := ⟨_, rfl⟩
 have hR : ((M.goTo (M.qas s) N b 0).2, (M.goTo (M.qas s) N b 0).1, M.qhv (M.qas s) N b 0 l) = M.qaI b s l := by rw [hN]; rfl
 refine qcS N (fun k => ((k : Int), (M.goAt (M.qas s) b k).Warps, (M.goAt (M.qas s) b k).Waiting, (M.goAt (M.qas s) b k).Phase, M.qkk (M.qas s) b l k, (M.goAt (M.qas s) b k).Memory, ())) (fun k => LogI (M.qas s) b l N k) rfl (qor hg _) (fun k hk hF next hn => ?_) fun hF next => ?_
 ·have hll := qlA (M.qas s) b l k
  have hstop : M.stops (M.qas s) (M.goAt (M.qas s) b k) k = true → ((k : Int), M.goAt (M.qas s) b k, M.qkk (M.qas s) b l k) = M.qaI b s l := fun e => by
   rw [← hR, qn1 hF.go hk e, qnH hF hk e]
  have hgo : M.stops (M.qas s) (M.goAt (M.qas s) b k) k = false → M.qiw (M.goAt (M.qas s) b k) (M.pick (M.goAt (M.qas s) b k) (M.qas s k)) ∧ next (((k + 1 : Nat) : Int), (M.qeG (M.goAt (M.qas s) b k) (M.pick (M.goAt (M.qas s) b k) (M.qas s k))).Warps, (M.qeG (M.goAt (M.qas s) b k) (M.pick (M.goAt (M.qas s) b k) (M.qas s k))).Waiting, (M.qeG (M.goAt (M.qas s) b k) (M.pick (M.goAt (M.qas s) b k) (M.qas s k))).Phase, M.qkk (M.qas s) b l k ++ M.accesses (M.goAt (M.qas s) b k) (M.pick (M.goAt (M.qas s) b k) (M.qas s k)), (M.qeG (M.goAt (M.qas s) b k) (M.pick (M.goAt (M.qas s) b k) (M.qas s k))).Memory, ()) :=
   fun e => ⟨(good_step hF.go.good e).1, hn (qpN hF hk e)⟩
  have hgd := hF.go.good
  have hcd := hF.go.code
  have hb := qk1 (k := k) (by omega) hs0 hs1
  have hst : M.stops (M.qas s) (M.goAt (M.qas s) b k) k = (decide ((k : Int) * s < 0) || ((M.goAt (M.qas s) b k).Phase == 100000 || decide (M.pick (M.goAt (M.qas s) b k) ((k : Int) * s) < 0))) := rfl
  have hfk : M.qas s k = (k : Int) * s := rfl
  dsimp only
  rw [qhK hcd, up64 hk (by omega)]
  rw [hfk] at hgo
  clear hn hF hR
  generalize M.goAt (M.qas s) b k = x at *
  generalize M.qkk (M.qas s) b l k = lk at *
  refine fun r66 hr66 => ?_
  have hr66 : r66 = ((k : Int) * s, true) := by
   rw [hr66]; unfold M.qaK; rw [w64 (by omega) (by omega), decide_eq_true (by omega)]
  subst hr66
  refine qaA rfl (qa2 (fun e1 => ?_) fun e1 => qa2 (fun e2 => ?_) fun e2 => ⟨⟨hgd, by omega, by show (k : Int) * s ≤ _; omega⟩, fun r71 hr71 => ?_⟩)
  ·exact hstop (by rw [hst, e1]; rfl)
  ·exact hstop (by rw [hst, e2, Bool.true_or, Bool.or_true])
  ·have hr71 : r71 = M.pick x ((k : Int) * s) := hr71
   subst hr71
   refine qa2 (fun e3 => ?_) fun e3 => ?_
   ·exact hstop (by rw [hst, e3, Bool.or_true, Bool.or_true])
   ·obtain ⟨q1, q2⟩ := hgo (by rw [hst, e1, e2, e3]; rfl)
    refine ⟨⟨(qgb q1).1, by omega⟩, fun r76 hr76 => ⟨q1, fun r81 hr81 => ?_⟩⟩
    have hr76 : r76 = lk ++ M.accesses x (M.pick x ((k : Int) * s)) := hr76
    have hr81 : r81.2 = M.qeG x (M.pick x ((k : Int) * s)) := by rw [hr81]; rfl
    rw [hr81, hr76]
    exact q2
 ·dsimp only
  rw [qhK hF.go.code]
  refine fun r66 hr66 => ?_
  have hr66 : r66.2 = false := by
   rw [hr66, hN]; unfold M.qaK; rfl
  rw [hr66]
  refine qaH rfl ?_
  rw [← hR, qmp hF.go, qoQ hF]
theorem wp.qaY.math (b : D.Block) (s : Int) (l : List D.Access) (h : M.qey b s l) : wp.qaY b s l (fun r => r = M.qaY b s l) := by
 refine ⟨h, fun r hr => ?_⟩
 have hc : r.2.1.Code = b.Code := by rw [hr]; exact qhy _ _ _
 rw [qhK hc, hr]; rfl
theorem qjo (f : Nat → Int) : ∀ (m : Nat) (x : D.Block) (k : Nat) (l : List D.Access), (M.qhv f m x k l).length ≤ l.length + 8 * m
 | 0, x, k, l => Nat.le_refl _
 | m + 1, x, k, l => by
  unfold M.qhv
  split
  ·omega
  ·have := qjo f m (M.qeG x (M.pick x (f k))) (k + 1) (l ++ M.accesses x (M.pick x (f k)))
   have := qhA x (M.pick x (f k))
   rw [List.length_append] at *
   omega
theorem wp.qd2.math (b : D.Block) (s : Int) (h : M.qfz b s) : wp.qd2 b s (fun r => r = M.qd2 b s) := by
 have hb := qmR h
 refine ⟨h, fun r25 hr25 => ?_⟩
 have hr25 : r25 = b := hr25
 subst hr25
 refine ⟨hb, fun r41 hr41 => qa2 (fun e => ?_) fun e => fun r48 hr48 => qa2 (fun e2 => ?_) fun e2 => ?_⟩
 all_goals have hr41 : r41 = M.qdE r25 := hr41
 ·show (r25, []) = M.qfF r25 s
  unfold M.qfF
  rw [← hr41, show r41 = false by simpa using e]; rfl
 all_goals have hr48 : r48 = M.isIn s 0 100 := hr48
 ·show (r25, []) = M.qfF r25 s
  unfold M.qfF
  rw [← hr48, show r48 = false by simpa using e2, Bool.and_false]; rfl
 have hok : M.qdE r25 = true := by rw [← hr41]; simpa using e
 have his : M.isIn s 0 100 = true := by rw [← hr48]; simpa using e2
 have hss : 0 ≤ s ∧ s ≤ 100 := by simpa only [M.isIn, Bool.and_eq_true, decide_eq_true_eq] using his
 obtain ⟨N, hN⟩ : ∃ N : Nat, N = 9000 := ⟨_, rfl⟩
 refine ⟨⟨⟨hb, hok⟩, hss.1, hss.2, by simp⟩, fun r52 hr52 => ⟨?_, fun r53 hr53 => ?_⟩⟩
 all_goals have hr52 : r52 = ((M.finish r25 s).2, (M.finish r25 s).1, M.qhv (M.qas s) 9000 r25 0 []) := hr52
 ·show [].length + r52.2.2.length ≤ _
  have := qjo (M.qas s) N r25 0 []
  rw [hN] at this
  rw [hr52]
  simp only [List.length_nil] at *
  omega
 ·show _ = M.qfF r25 s
  have hr53 : r53 = M.qfQ [] r52.2.2 := hr53
  subst hr53
  subst hr52
  unfold M.qfF M.logged
  rw [hok, his]
  have hc : (M.finish r25 s).1.Code = r25.Code := qhy _ _ _
  dsimp only
  rw [qhK hc]
  exact (if_pos rfl).symm
theorem qo8 {f : Nat → Int} : ∀ (m : Nat) (x : D.Block) (k : Nat), x.Phase ≤ (M.goTo f m x k).1.Phase
 | 0, x, k => Int.le_refl _
 | m + 1, x, k => by
  unfold M.goTo
  split
  ·exact Int.le_refl _
  ·have h1 := qo8 (f := f) m (M.qeG x (M.pick x (f k))) (k + 1)
   rcases qgT x (M.pick x (f k)) with e | e <;> omega
theorem acc_holds {b : D.Block} {w : Int} (h : M.qiw b w) {a : D.Access} (ha : a ∈ M.accesses b w) : a.Phase = b.Phase ∧ a.Warp = w ∧ 0 ≤ a.Address ∧ a.Address < 32 := by
 unfold M.accesses at ha
 split at ha
 ·rename_i e
  obtain ⟨y, hy, rfl⟩ := List.mem_map.1 ha
  have hlive := (qgb h).1
  have hreg := qmU (qp7 hlive e)
  obtain ⟨l, hl, rfl⟩ := List.mem_map.1 ((qiu _).2 y |>.1 hy)
  have hl := qhR hl
  have hm := qjc hlive
  have hw := qhF hm.w1 (z := l * 4 + M.qmu (M.qbR b w)) (by omega) (by rw [hm.l1]; omega)
  exact ⟨rfl, rfl, qiO hw⟩
 ·cases ha
theorem log_holds {f : Nat → Int} : ∀ (m : Nat) (x : D.Block) (k : Nat) (l : List D.Access), M.Good x → ∀ a ∈ M.qhv f m x k l, a ∈ l ∨ (x.Phase ≤ a.Phase ∧ a.Phase ≤ (M.goTo f m x k).1.Phase ∧ 0 ≤ a.Address ∧ a.Address < 32 ∧ 0 ≤ a.Warp ∧ a.Warp < (x.Warps.length : Int))
 | 0, x, k, l, _, a, ha => .inl ha
 | m + 1, x, k, l, hg, a, ha => by
  unfold M.qhv at ha
  by_cases e : M.stops f x k = true
  ·rw [if_pos e] at ha; exact .inl ha
  ·rw [if_neg e] at ha
   obtain ⟨hc, hg2⟩ := good_step hg (Bool.eq_false_iff.2 e)
   have hgo : M.goTo f (m + 1) x k = M.goTo f m (M.qeG x (M.pick x (f k))) (k + 1) := by rw [M.goTo, if_neg e]
   have hup := qo8 (f := f) m (M.qeG x (M.pick x (f k))) (k + 1)
   have hlen : (M.qeG x (M.pick x (f k))).Warps.length = x.Warps.length := by rw [qi5, List.length_set]
   rw [hgo]
   rcases log_holds m _ _ _ hg2 a ha with h | h
   ·rcases List.mem_append.1 h with h | h
    ·exact .inl h
    ·obtain ⟨h1, h2, h3, h4⟩ := acc_holds hc h
     obtain ⟨w0, w1, _⟩ := qeg (qgb hc).1.1
     right
     rw [h1, h2]
     rcases qgT x (M.pick x (f k)) with e2 | e2 <;> omega
   ·right
    rw [hlen] at h
    rcases qgT x (M.pick x (f k)) with e2 | e2 <;> omega
theorem qlO {l : List D.Access} {a : D.Access} (h : l.Pairwise (fun x y => x ≠ y)) : (M.qhh l a).Pairwise (fun x y => x ≠ y) := by
 unfold M.qhh
 split
 ·exact h
 ·rename_i e
  rw [List.pairwise_append]
  refine ⟨h, by simp, fun x hx y hy => ?_⟩
  rw [List.mem_singleton.1 hy]
  rintro rfl
  exact e (by simpa using hx)
theorem qj7 : ∀ (list log : List D.Access), log.Pairwise (fun x y => x ≠ y) → (M.qfQ log list).Pairwise (fun x y => x ≠ y)
 | [], log, h => h
 | a :: list, log, h => by
  show (M.qfQ (M.qhh log a) list).Pairwise _
  exact qj7 list _ (qlO h)
theorem qkn : ∀ (list log : List D.Access), ∀ a ∈ M.qfQ log list, a ∈ log ∨ a ∈ list
 | [], log, a, h => .inl h
 | b :: list, log, a, h => by
  rcases qkn list (M.qhh log b) a h with h | h
  ·unfold M.qhh at h
   split at h
   ·exact .inl h
   ·rcases List.mem_append.1 h with h | h
    ·exact .inl h
    ·exact .inr (by rw [List.mem_singleton.1 h]; simp)
  ·exact .inr (List.mem_cons_of_mem _ h)
theorem qjr : ∀ (list log : List D.Access), (∀ a ∈ list, a ∈ log) → M.qfQ log list = log
 | [], log, _ => rfl
 | b :: list, log, h => by
  have e : M.qhh log b = log := by
   unfold M.qhh
   rw [if_pos (by simpa using h b (by simp))]
  show M.qfQ (M.qhh log b) list = log
  rw [e]
  exact qjr list log fun a ha => h a (List.mem_cons_of_mem _ ha)
theorem wp.qe0.math (b : List Int) (h : M.qgU b) : wp.qe0 b (fun r => r = M.qe0 b) := by
 intro r0 _
 have hpl : (M.qbq b).length = 12 := qhT 12 _
 refine qa2 (fun _ => rfl) fun _ => ⟨h, fun x gx => ⟨h, fun pl gpl => ?_⟩⟩
 have hg : M.Good x := by rw [gx]; exact qo9 h
 have hs := qoY h (k := 0) (n := 4) (by omega) (by omega) (by omega)
 rw [← gpl] at hs hpl
 clear gx gpl
 have hfit : M.BFit x := qlk (qje hg.2)
 generalize Int.tmod (rd pl 0) 4 = s at *
 have his : M.isIn s 0 100 = true := by simp only [M.isIn, Bool.and_eq_true, decide_eq_true_eq]; omega
 refine ⟨⟨by omega, by omega⟩, hfit, fun y gy => ⟨hfit, fun z gz => ?_⟩⟩
 have gy : y = ((M.finish x s).1, M.logged x s) := by
  rw [gy]
  show M.qfF x s = _
  unfold M.qfF
  rw [hg.2, his]; exact if_pos rfl
 have gz : z = M.finish x s := by
  rw [gz]
  show M.qew x s = _
  unfold M.qew
  rw [hg.2, his]; exact if_pos rfl
 have hgz : M.Good z.1 := by rw [gz]; exact qjp _ _ _ hg
 obtain ⟨N, hN⟩ : ∃ N : Nat, N = 9000 := ⟨_, rfl⟩
 have hzN : z = M.goTo (M.qas s) N x 0 := by rw [gz, hN]; rfl
 have hyN : y.2 = M.qfQ [] (M.qhv (M.qas s) N x 0 []) := by rw [gy, hN]; rfl
 have hy1 : y.1 = z.1 := by rw [gy, gz]
 have hnd : y.2.Pairwise (fun a b => a ≠ b) := by rw [hyN]; exact qj7 _ _ List.Pairwise.nil
 have hld : y.2.length ≤ 100000 := by
  have h1 := qiW (log := []) (list := M.qhv (M.qas s) N x 0 []) _ (Nat.le_refl _)
  have h2 := qjo (M.qas s) N x 0 []
  rw [List.take_length, ← hyN] at h1
  simp only [List.length_nil] at *
  omega
 have hall : ∀ a ∈ y.2, x.Phase ≤ a.Phase ∧ a.Phase ≤ z.1.Phase ∧ 0 ≤ a.Address ∧ a.Address < 32 ∧ 0 ≤ a.Warp ∧ a.Warp < (x.Warps.length : Int) := fun a ha => by
  rw [hyN] at ha
  rcases qkn _ _ a ha with h | h
  ·cases h
  ·rcases log_holds N x 0 [] hg a h with h | h
   ·cases h
   ·rw [hzN]; exact h
 have hget := List.pairwise_iff_getElem.1 hnd
 clear hyN hzN gy gz hnd
 refine qcS y.2.length (fun k => ((k : Int), ())) (fun _ => True) rfl trivial (fun k hk _ next hn => ?_) fun _ next => ?_
 ·have hn := hn trivial
  obtain ⟨a1, a2, a3, a4, a5, a6⟩ := hall _ (qgk hk)
  have ix : 0 ≤ (k : Int) ∧ (k : Int) < (y.2.length : Int) := ⟨by omega, by omega⟩
  dsimp only
  rw [up64 hk (by omega)]
  refine qaH (by simp; omega) ⟨ix, qaA (by simp; omega) ⟨ix, qaA (by simp; omega) ⟨ix, qaA (by simp; omega) ⟨ix, qaA (by simp; omega) ⟨ix, qaA (by simp; omega) ⟨ix, qaA (by simp; omega) ?_⟩⟩⟩⟩⟩⟩
  refine qcS k (fun i => ((i : Int), ())) (fun _ => True) rfl trivial (fun i hi _ next2 hn2 => ?_) fun _ next2 => ?_
  ·have hn2 := hn2 trivial
   dsimp only
   rw [up64 hi (by omega), qnJ]
   refine qaH (by simp; omega) ⟨⟨by omega, by omega⟩, ix, qaA ?_ hn2⟩
   have := hget i k (by omega) hk hi
   rw [qcV (by omega), qcV hk]
   simpa using this
  ·exact qaA (by simp) hn
 ·refine qaA (by simp) ⟨by rw [hy1]; exact hgz.1, fun r hr => qaH ?_ ⟨?_, fun r2 hr2 => ?_⟩⟩
  ·have hr : r = (y.1 == z.1) := hr
   rw [hr, hy1]; simp
  ·show y.2.length + y.2.length ≤ _
   omega
  ·have hr2 : r2 = M.qfQ y.2 y.2 := hr2
   rw [hr2, qjr _ _ fun a ha => ha]
   simp [M.qe0]
end Go.V
