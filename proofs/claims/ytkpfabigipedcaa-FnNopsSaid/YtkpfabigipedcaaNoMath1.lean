import Derived.Test.YtkpfabigipedcaaNoVBase
import Derived.Test.YtkpfabigipedcaaNoVWords
import Derived.Test.YtkpfabigipedcaaNoVOwn
import Derived.Test.YtkpfabigipedcaaNoVLoop
import Derived.Test.YtkpfabigipedcaaNoVDeep
import Derived.Test.YtkpfabigipedcaaNoVEq
import Derived.Test.YtkpfabigipedcaaNoVCut
import Derived.Test.YtkpfabigipedcaaNoVPlc
import Derived.Test.YtkpfabigipedcaaNoVCopy
import Derived.Test.YtkpfabigipedcaaNoVIns
import Derived.Test.YtkpfabigipedcaaNoVFoc
import Derived.Test.YtkpfabigipedcaaNoPure2
set_option linter.unusedVariables false
set_option linter.unusedSimpArgs false
set_option maxRecDepth 20000
namespace Go.V.M
open IntKind (wrap)
def qa9 (l : List D.Ins) : List D.Ins := l
def qb4 (l : List D.Ins) : Prop := l.length ≤ 17179869184
end Go.V.M
namespace Go.V.M
open IntKind (wrap)
def qgt (p : List D.Ins) (k : Int) : Prop := 0 ≤ k ∧ k ≤ (p.length : Int)
def Node (p : List D.Ins) (k : Int) : Prop := qar p = true ∧ qgt p k
def qeT (a b : Int) : List Int := if b < a then [b, a] else if b = a then [a] else [a, b]
def qfb (p : List D.Ins) (k : Int) : List Int :=
 if k = p.length then [] else if (rd p k).Op = 12 then [(p.length : Int)] else if (rd p k).Op = 11 then [(rd p k).B] else if (rd p k).Op = 10 then qeT (k + 1) (rd p k).B else [k + 1]
end Go.V.M
namespace Go.V.M
open IntKind (wrap)
def qdr (o : Int) : Bool := o == 10 || o == 11
def qaR := qdr
end Go.V.M
namespace Go.V.M
open IntKind (wrap)
def once (c : D.Cur) (n : Int) : Bool × D.Cur := ((qa0 c n).1 == 0, (qa0 c n).2)
def qaI := once
def qbu (c : D.Cur) (n : Int) : Prop := qbH c
def setB (p : List D.Ins) (k : Nat) (v : Int) : List D.Ins := p.set k ⟨(rd p (k : Int)).Op, (rd p (k : Int)).A, v, (rd p (k : Int)).C⟩
def qdt (p : List D.Ins) : List D.Ins := p ++ [(⟨8, 3, 0, 0⟩ : D.Ins)]
def qdY (p : List D.Ins) : List D.Ins := ((qdt p ++ [(⟨10, 3, 0, 0⟩ : D.Ins)]) ++ [(⟨3, 0, 0, 1⟩ : D.Ins), (⟨1, 2, 1, 0⟩ : D.Ins), (⟨4, 3, 3, 2⟩ : D.Ins)]) ++ [(⟨11, 0, ((qdt p).length : Int), 0⟩ : D.Ins)]
def qdm (p : List D.Ins) : List D.Ins := setB (qdY p) (qdt p).length ((qdY p).length : Int)
def qaY (rec : D.Cur → List D.Ins → List D.Ins × D.Cur) (c : D.Cur) (p : List D.Ins) : List D.Ins × D.Cur := rec (qa0 c 4).2 (p ++ [⟨10, (qa0 c 4).1, 0, 0⟩])
def qd4 (rec : D.Cur → List D.Ins → List D.Ins × D.Cur) (c : D.Cur) (p q : List D.Ins) : List D.Ins × D.Cur := rec c (setB (q ++ [⟨11, 0, 0, 0⟩]) p.length ((q ++ [(⟨11, 0, 0, 0⟩ : D.Ins)]).length : Int))
def ifIn (rec : D.Cur → List D.Ins → List D.Ins × D.Cur) (c : D.Cur) (p : List D.Ins) : List D.Ins × D.Cur :=
 if (once (qaY rec c p).2 2).1 then (setB (qaY rec c p).1 p.length ((qaY rec c p).1.length : Int), (once (qaY rec c p).2 2).2)
 else (setB (qd4 rec (once (qaY rec c p).2 2).2 p (qaY rec c p).1).1 (qaY rec c p).1.length ((qd4 rec (once (qaY rec c p).2 2).2 p (qaY rec c p).1).1.length : Int), (qd4 rec (once (qaY rec c p).2 2).2 p (qaY rec c p).1).2)
def qbD (rec : D.Cur → List D.Ins → List D.Ins × D.Cur) (deep : Bool) (c : D.Cur) (p : List D.Ins) : List D.Ins × D.Cur :=
 if (qa0 c 5).1 = 0 then (if deep then ifIn rec (qa0 c 5).2 p else (p, (qa0 c 5).2))
 else if (qa0 c 5).1 = 1 then (if deep ∧ ¬ (p.length : Int) > 14 then (qdm p, (qa0 c 5).2) else (p, (qa0 c 5).2))
 else (p ++ [(qad (qa0 c 5).2).1], (qad (qa0 c 5).2).2)
def qdP (rec : D.Cur → List D.Ins → List D.Ins × D.Cur) (deep : Bool) : Nat → D.Cur → List D.Ins → List D.Ins × D.Cur
 | 0, c, p => (p, c)
 | n + 1, c, p => if (p.length : Int) < 20 then qdP rec deep n (qbD rec deep c p).2 (qbD rec deep c p).1 else (p, c)
def body : Nat → D.Cur → List D.Ins → List D.Ins × D.Cur
 | 0, c, p => qdP (fun c p => (p, c)) false (qa0 c 4).1.toNat (qa0 c 4).2 p
 | d + 1, c, p => qdP (body d) true (qa0 c 4).1.toNat (qa0 c 4).2 p
def qae (c : D.Cur) (p : List D.Ins) (d : Int) : List D.Ins × D.Cur := body d.toNat c p
def qbg (c : D.Cur) (p : List D.Ins) (d : Int) : Prop := qbH c ∧ p.length ≤ 24 ∧ 0 ≤ d ∧ d ≤ 2
def qct (c : D.Cur) : List D.Ins × D.Cur := if (once c 4).1 then ([], (once c 4).2) else ([⟨8, (qa0 (once c 4).2 2).1, 0, 0⟩], (qa0 (once c 4).2 2).2)
def qci (c : D.Cur) : List D.Ins × D.Cur := body 2 (qct c).2 (qct c).1
def qaa (c : D.Cur) : List D.Ins × D.Cur :=
 if (once (qci c).2 6).1 && decide (((qci c).1.length : Int) > 1) then ((qci c).1.set (qa0 (once (qci c).2 6).2 (qci c).1.length).1.toNat ⟨12, 0, 0, 0⟩, (qa0 (once (qci c).2 6).2 (qci c).1.length).2)
 else ((qci c).1, (once (qci c).2 6).2)
def qce (c : D.Cur) : Prop := qbH c
end Go.V.M
namespace Go.V.M
open IntKind (wrap)
def qaD (b : List Int) : List D.Ins := (qaa (qaf b)).1
def qbX (b : List Int) : Prop := Long b
def qaP (p : List D.Ins) (op : Int) : Int := ((p.countP fun i => i.Op == op : Nat) : Int)
def qbK (p : List D.Ins) (op : Int) : Prop := Long p
end Go.V.M
namespace Go.V.M
open IntKind (wrap)
def qa3 (l : List D.Ins) (k : Int) (v : List D.Ins) : List D.Ins := l.take k.toNat ++ v ++ l.drop k.toNat
def qbm (l : List D.Ins) (k : Int) (v : List D.Ins) : Prop := 0 ≤ k ∧ k ≤ (l.length : Int) ∧ l.length ≤ 1000 ∧ v.length = 1
def qbs (k : Int) (i : D.Ins) : D.Ins := if (i.Op = 10 ∨ i.Op = 11) ∧ i.B > k then ⟨i.Op, i.A, i.B + 1, i.C⟩ else i
def qbB (p : List D.Ins) (k : Int) : List D.Ins × Bool :=
 if qar p && (p.length != 32 && isIn k 0 p.length) then (qa3 (p.map (qbs k)) k [⟨0, 0, 0, 0⟩], true) else (p, false)
def qaU := qbB
def qbz (p : List D.Ins) (k : Int) : Prop := p.length ≤ 17179869184
def qbl (b : List Int) : Bool := true
def qcr (b : List Int) : Prop := Long b
end Go.V.M
namespace Go.V
open IntKind (wrap)
def wp.qab (a : Int) (b : Int) (c : Int) (Q : Bool → Prop) : Prop :=
 qa5 (decide (a ≥ b)) (Q (decide (a ≤ c))) (Q false)
def wp.qau (b : Int) (Q : Bool → Prop) : Prop :=
 (∀ a, a = M.qab b 0 65535 → Q a)
end Go.V
namespace Go.V
open IntKind (wrap)
theorem wp.qab.math (x a b : Int) : wp.qab x a b (fun r => r = M.qab x a b) := by
 simp only [wp.qab, qcD, M.qab, M.isIn]
 exact ⟨fun h => by simp at h; simp [h], fun h => by simp at h; simp; omega⟩
theorem wp.qau.math (x : Int) : wp.qau x (fun r => r = M.qau x) := fun r h => h
end Go.V
namespace Go.V
open IntKind (wrap)
def wp.qa7 (b : List Int) (d : Int → Bool) (e : Int → Prop) (Q : Int → Prop) : Prop :=
 qdg (σ := Int × Unit) (fun (f : Int × Unit) g => match f with | (a, _) => qa5 (decide (a < (b.length : Int))) (((0 ≤ a ∧ a < (b.length : Int)) ∧ (e (rd b a) ∧ ∀ c, c = d (rd b a) → qa5 c (Q a) (g ((wrap .i64 (a + 1)), ()))))) (Q (-1))) (0, ())
def wp.qa6 (a : List Int) (b : Int → Bool) (d : Int → Prop) (Q : Bool → Prop) : Prop :=
 (M.qbh a b d ∧ ∀ c, c = M.qa7 a b → Q (decide (c ≥ 0)))
def wp.qaA (b : Int) (Q : Bool → Prop) : Prop :=
 (∀ a, a = M.qau b → Q (!a))
def wp.qaQ (b : List Int) (Q : Bool → Prop) : Prop :=
 (M.qba b (fun a => M.qaA a) (fun _ => True) ∧ ∀ c, c = M.qa6 b (fun a => M.qaA a) → Q (!c))
def wp.qaX (a : Int) (Q : Int → Prop) : Prop :=
 Q (qbU .i64 a 65535)
def wp.qaq (d : Int) (e : Int) (f : Int) (Q : Int → Prop) : Prop :=
 (∀ a, a = M.qau d → qa5 (!a) (Q 0) ((∀ b, b = M.qau e → qa5 (!b) (Q 0) ((∀ c, c = M.qaX f → Q c)))))
def wp.qaN (a : Int) (b : Int) (Q : Int → Prop) : Prop :=
 (∀ c, c = M.qaq a b (wrap .i64 (a + b)) → Q c)
end Go.V
namespace Go.V
open IntKind (wrap)
theorem qc7 {x : Int} : M.isWord x = true ↔ 0 ≤ x ∧ x ≤ 65535 := by simp [M.isWord, M.isIn]
theorem qfY {α : Type} [Inhabited α] {xs : List α} {k : Nat} (h : k < xs.length) : rd xs (k : Int) ∈ xs := by rw [qbM h]; exact List.getElem_mem h
theorem nt {r x : Bool} (e : (!r) = true) (h : r = x) : x = false := by subst h; simpa using e
theorem nf {r x : Bool} (e : (!r) = false) (h : r = x) : x = true := by subst h; simpa using e
theorem qfE (x : Int) : qbU .i64 x 65535 = x % 65536 := by
 unfold qbU
 have e1 : (BitVec.ofInt (IntKind.bits .i64) x &&& BitVec.ofInt (IntKind.bits .i64) 65535).toNat = (x % 65536).toNat := by
  show (BitVec.ofInt 64 x &&& BitVec.ofInt 64 65535).toNat = _
  rw [BitVec.toNat_and, BitVec.toNat_ofInt, show (BitVec.ofInt 64 65535).toNat = 2 ^ 16 - 1 from rfl, Nat.and_two_pow_sub_one_eq_mod]
  rw [show ((2 ^ 64 : Nat) : Int) = 18446744073709551616 from rfl]
  omega
 rw [e1, w64 (by omega) (by omega)]
 omega
theorem wp.qaX.math (x : Int) : wp.qaX x (fun r => r = M.qaX x) := qfE x
theorem wp.qaq.math (a b n : Int) : wp.qaq a b n (fun r => r = M.qaq a b n) := by
 intro r1 h1
 refine qa8 (fun e1 => ?_) fun e1 r2 h2 => qa8 (fun e2 => ?_) fun e2 r3 h3 => ?_
 ·have : M.isWord a = false := nt e1 h1
  simp [M.qaq, this]
 ·have : M.isWord b = false := nt e2 h2
  simp [M.qaq, this]
 ·have ha : M.isWord a = true := nf e1 h1
  have hb : M.isWord b = true := nf e2 h2
  rw [h3]
  simp [M.qaq, M.qaX, ha, hb]
theorem wp.qaN.math (a b : Int) : wp.qaN a b (fun r => r = M.qaN a b) := by
 intro r hr
 rw [hr]
 simp only [M.qaq, M.qaN, M.addW]
 by_cases h : (M.isWord a && M.isWord b) = true
 ·rw [if_pos h, if_pos h]
  simp only [Bool.and_eq_true, qc7] at h
  rw [w64 (by omega) (by omega)]
 ·rw [if_neg h, if_neg h]
theorem qdK {α : Type} [Inhabited α] (g : α → Bool) (l : List α) : ∀ (k : Nat), k < l.length → M.qck g (l.drop k) k = if g (rd l (k : Int)) then (k : Int) else M.qck g (l.drop (k + 1)) (k + 1) := by
 intro k hk
 rw [List.drop_eq_getElem_cons hk, qbM hk]; rfl
theorem wp.qa7.math (l : List Int) (g : Int → Bool) (D : Int → Prop) (h : M.qbh l g D) : wp.qa7 l g D (fun r => r = M.qa7 l g) := by
 unfold wp.qa7
 obtain ⟨h1, h2⟩ := h
 refine qdq l.length (fun k => ((k : Int), ())) (fun k => M.qa7 l g = M.qck g (l.drop k) k) rfl (by simp [M.qa7]) (fun k hk hF next hn => ?_) fun hF next => ?_
 ·rw [qdK g l k hk] at hF
  refine qbn (by simp; omega) ⟨by omega, h2 _ (qfY hk), fun r hr => qa8 (fun e => ?_) fun e => ?_⟩
  ·rw [hF, if_pos (by rw [← hr]; exact e)]
  ·rw [up64 hk h1]
   exact hn (by rw [hF, if_neg (by rw [← hr, e]; simp)])
 ·refine qbI (by simp) ?_
  rw [hF]; simp [M.qck]
theorem qcu {α : Type} (g : α → Bool) : ∀ (l : List α) (k : Nat), decide (M.qck g l k ≥ 0) = l.any g
 | [], k => by simp [M.qck]
 | x :: l, k => by
  simp only [M.qck, List.any_cons]
  by_cases hx : g x = true
  ·simp [hx]
  ·simp only [hx, Bool.false_eq_true, if_false, Bool.false_or]; simpa [hx] using qcu g l (k + 1)
theorem wp.qa6.math (l : List Int) (g : Int → Bool) (D : Int → Prop) (h : M.qba l g D) : wp.qa6 l g D (fun r => r = M.qa6 l g) :=
 ⟨h, fun r hr => by rw [hr]; exact qcu g l 0⟩
theorem wp.qaA.math (x : Int) : wp.qaA x (fun r => r = M.qaA x) := fun r hr => by rw [hr]; rfl
theorem wp.qaQ.math (l : List Int) (h : M.qc8 l) : wp.qaQ l (fun r => r = M.qaQ l) := by
 refine ⟨⟨h, fun _ _ => trivial⟩, fun r hr => ?_⟩
 rw [hr]
 simp only [M.qa6, M.qaQ, M.qaA]
 rw [← List.all_eq_not_any_not]
theorem qfL (x : Int) : M.isWord (x % 65536) = true := qc7.2 ⟨by omega, by omega⟩
end Go.V
namespace Go.V
open IntKind (wrap)
def wp.qb5 (a : Int) (b : Int) (Q : Int → Prop) : Prop :=
 (∀ c, c = M.qee a → qa5 c ((∀ d, d = M.qee b → qa5 d (qa5 (decide (a < b)) (Q 1) (Q 0)) (Q 0))) (Q 0))
def wp.qax (b : Int) (Q : Bool → Prop) : Prop :=
 (∀ a, a = M.qab b 0 23 → Q a)
def wp.qaZ (a : Int) (Q : D.Lane → Prop) : Prop :=
 (∀ b, b = M.qax a → qa5 (!b) (Q (⟨0, 0, ([] : List Int)⟩ : D.Lane)) (((0 ≤ (4 : Int) ∧ (4 : Int) ≤ 17179869184) ∧ Q (⟨a, 0, (List.replicate ((4 : Int).toNat) (default : Int))⟩ : D.Lane))))
def wp.qak (a : List Int) (Q : (List Int) → Prop) : Prop :=
 (∀ b : Bool, (b = true → a = []) → qa5 b (Q ([] : List Int)) (((([] : List Int).length + a.length ≤ 17179869184) ∧ Q (([] : List Int) ++ a))))
def wp.qb1 (a : D.Lane) (Q : D.Lane → Prop) : Prop :=
 (M.qbe a.Regs ∧ ∀ b, b = M.qak a.Regs → Q (⟨a.Thread, a.Pc, b⟩ : D.Lane))
def wp.qbb (a : Int) (Q : ByteArray → Prop) : Prop :=
 (∀ b, b = M.qab a 0 16 → qa5 (!b) (Q (⟨#[]⟩)) (((0 ≤ a ∧ a < (([⟨#[45, 45, 45]⟩, ⟨#[82, 87, 45]⟩, ⟨#[82, 82, 45]⟩, ⟨#[82, 82, 82]⟩, ⟨#[82, 82, 82]⟩, ⟨#[82, 82, 82]⟩, ⟨#[82, 82, 82]⟩, ⟨#[82, 82, 82]⟩, ⟨#[82, 45, 45]⟩, ⟨#[82, 82, 82]⟩, ⟨#[82, 84, 45]⟩, ⟨#[45, 84, 45]⟩, ⟨#[45, 45, 45]⟩, ⟨#[82, 82, 45]⟩, ⟨#[82, 82, 45]⟩, ⟨#[82, 82, 45]⟩, ⟨#[45, 45, 45]⟩] : List ByteArray).length : Int)) ∧ Q (rd ([⟨#[45, 45, 45]⟩, ⟨#[82, 87, 45]⟩, ⟨#[82, 82, 45]⟩, ⟨#[82, 82, 82]⟩, ⟨#[82, 82, 82]⟩, ⟨#[82, 82, 82]⟩, ⟨#[82, 82, 82]⟩, ⟨#[82, 82, 82]⟩, ⟨#[82, 45, 45]⟩, ⟨#[82, 82, 82]⟩, ⟨#[82, 84, 45]⟩, ⟨#[45, 84, 45]⟩, ⟨#[45, 45, 45]⟩, ⟨#[82, 82, 45]⟩, ⟨#[82, 82, 45]⟩, ⟨#[82, 82, 45]⟩, ⟨#[45, 45, 45]⟩] : List ByteArray) a))))
def wp.qbi (b : Int) (Q : Bool → Prop) : Prop :=
 (∀ a, a = M.qab b 0 3 → Q a)
def wp.qac (b : Int) (a : Int) (f : Int) (Q : Bool → Prop) : Prop :=
 qa5 (b == 82) ((∀ c, c = M.qbi a → Q c)) (qa5 (b == 87) ((∀ d, d = M.qau a → Q d)) (qa5 (b == 84) ((∀ e, e = M.qab a 0 f → Q e)) (Q (a == 0))))
def wp.qah (b : D.Ins) (c : Int) (Q : Bool → Prop) : Prop :=
 (∀ a, a = M.qbb b.Op → qa5 (!(ByteArray.toList a == ByteArray.toList (⟨#[]⟩))) ((∀ d, d = M.qab c 0 32 → qa5 d (((0 ≤ (0 : Int) ∧ (0 : Int) < ((ByteArray.size a : Nat) : Int)) ∧ (M.qb7 (bt a 0) b.A c ∧ ∀ e, e = M.qac (bt a 0) b.A c → qa5 e (((0 ≤ (1 : Int) ∧ (1 : Int) < ((ByteArray.size a : Nat) : Int)) ∧ (M.qb7 (bt a 1) b.B c ∧ ∀ f, f = M.qac (bt a 1) b.B c → qa5 f (((0 ≤ (2 : Int) ∧ (2 : Int) < ((ByteArray.size a : Nat) : Int)) ∧ (M.qb7 (bt a 2) b.C c ∧ ∀ g, g = M.qac (bt a 2) b.C c → Q g))) (Q false)))) (Q false)))) (Q false))) (Q false))
def wp.qat (b : D.Ins) (c : List D.Ins) (Q : Bool → Prop) : Prop :=
 (∀ a, a = M.qah b (c.length : Int) → Q (!a))
def wp.qa2 (b : List D.Ins) (d : D.Ins → Bool) (e : D.Ins → Prop) (Q : Int → Prop) : Prop :=
 qdg (σ := Int × Unit) (fun (f : Int × Unit) g => match f with | (a, _) => qa5 (decide (a < (b.length : Int))) (((0 ≤ a ∧ a < (b.length : Int)) ∧ (e (rd b a) ∧ ∀ c, c = d (rd b a) → qa5 c (Q a) (g ((wrap .i64 (a + 1)), ()))))) (Q (-1))) (0, ())
def wp.qa1 (a : List D.Ins) (b : D.Ins → Bool) (d : D.Ins → Prop) (Q : Bool → Prop) : Prop :=
 (M.qaW a b d ∧ ∀ c, c = M.qa2 a b → Q (decide (c ≥ 0)))
def wp.qan (a : List D.Ins) (Q : Bool → Prop) : Prop :=
 qa5 (decide ((a.length : Int) ≤ 32)) ((M.qaw a (fun b => M.qat b a) (fun _ => True) ∧ ∀ c, c = M.qa1 a (fun b => M.qat b a) → Q (!c))) (Q false)
def wp.qb0 (b : D.Ins) (Q : Bool → Prop) : Prop :=
 (∀ a, a = M.qab b.Op 0 12 → Q a)
def wp.qaE (b : D.Ins) (Q : Bool → Prop) : Prop :=
 (∀ a, a = M.qb0 b → Q (!a))
def wp.qaJ (a : List D.Ins) (Q : Bool → Prop) : Prop :=
 (M.qbd a ∧ ∀ c, c = M.qan a → qa5 c ((M.qaw a (fun b => M.qaE b) (fun _ => True) ∧ ∀ d, d = M.qa1 a (fun b => M.qaE b) → Q (!d))) (Q false))
def wp.qaT (a : List Int) (Q : Bool → Prop) : Prop :=
 qa5 ((a.length : Int) == 4) ((M.qc8 a ∧ ∀ b, b = M.qaQ a → Q b)) (Q false)
def wp.qaC (e : List D.Ins) (a : D.Lane) (Q : Bool → Prop) : Prop :=
 (∀ b, b = M.qax a.Thread → qa5 b ((∀ c, c = M.qab a.Pc 0 (e.length : Int) → qa5 c ((∀ d, d = M.qaT a.Regs → Q d)) (Q false))) (Q false))
def wp.qb6 (a : List D.Ins) (b : D.Lane) (Q : Bool → Prop) : Prop :=
 (M.qbd a ∧ ∀ c, c = M.qan a → qa5 c ((M.qcc a b ∧ ∀ d, d = M.qaC a b → Q d)) (Q false))
def wp.qaM (a : Int) (b : Int) (Q : Int → Prop) : Prop :=
 (∀ c, c = M.qaq a b (wrap .i64 (a - b)) → Q c)
def wp.qaO (a : Int) (b : Int) (Q : Int → Prop) : Prop :=
 (∀ c, c = M.qaq a b (wrap .i64 (a * b)) → Q c)
def wp.qaH (a : Int) (b : Int) (Q : Int → Prop) : Prop :=
 (∀ c, c = M.qau a → qa5 c ((∀ d, d = M.qau b → qa5 d (qa5 (decide (a < b)) (Q 1) (Q 0)) (Q 0))) (Q 0))
def wp.qay (a : D.Ins) (g : Int) (b : List Int) (Q : ((List Int)) → Prop) : Prop :=
 qa5 (a.Op == 1) (((0 ≤ a.A ∧ a.A < (b.length : Int)) ∧ Q (List.set b (a.A.toNat) a.B))) (qa5 (a.Op == 2) (((0 ≤ a.B ∧ a.B < (b.length : Int)) ∧ ((0 ≤ a.A ∧ a.A < (b.length : Int)) ∧ Q (List.set b (a.A.toNat) (rd b a.B))))) (qa5 (a.Op == 3) (((0 ≤ a.B ∧ a.B < (b.length : Int)) ∧ ((0 ≤ a.C ∧ a.C < (b.length : Int)) ∧ (∀ c, c = M.qaN (rd b a.B) (rd b a.C) → ((0 ≤ a.A ∧ a.A < (b.length : Int)) ∧ Q (List.set b (a.A.toNat) c)))))) (qa5 (a.Op == 4) (((0 ≤ a.B ∧ a.B < (b.length : Int)) ∧ ((0 ≤ a.C ∧ a.C < (b.length : Int)) ∧ (∀ d, d = M.qaM (rd b a.B) (rd b a.C) → ((0 ≤ a.A ∧ a.A < (b.length : Int)) ∧ Q (List.set b (a.A.toNat) d)))))) (qa5 (a.Op == 5) (((0 ≤ a.B ∧ a.B < (b.length : Int)) ∧ ((0 ≤ a.C ∧ a.C < (b.length : Int)) ∧ (∀ e, e = M.qaO (rd b a.B) (rd b a.C) → ((0 ≤ a.A ∧ a.A < (b.length : Int)) ∧ Q (List.set b (a.A.toNat) e)))))) (qa5 (a.Op == 6) (((0 ≤ a.B ∧ a.B < (b.length : Int)) ∧ ((0 ≤ a.C ∧ a.C < (b.length : Int)) ∧ ((0 ≤ a.A ∧ a.A < (b.length : Int)) ∧ Q (List.set b (a.A.toNat) (qcZ .i64 (rd b a.B) (rd b a.C))))))) (qa5 (a.Op == 7) (((0 ≤ a.B ∧ a.B < (b.length : Int)) ∧ ((0 ≤ a.C ∧ a.C < (b.length : Int)) ∧ (∀ f, f = M.qaH (rd b a.B) (rd b a.C) → ((0 ≤ a.A ∧ a.A < (b.length : Int)) ∧ Q (List.set b (a.A.toNat) f)))))) (qa5 (a.Op == 8) (((0 ≤ a.A ∧ a.A < (b.length : Int)) ∧ Q (List.set b (a.A.toNat) g))) (qa5 (a.Op == 9) (((0 ≤ a.C ∧ a.C < (b.length : Int)) ∧ qa5 ((rd b a.C) != 0) (((0 ≤ a.B ∧ a.B < (b.length : Int)) ∧ ((0 ≤ a.A ∧ a.A < (b.length : Int)) ∧ Q (List.set b (a.A.toNat) (rd b a.B))))) (Q b))) (Q b)))))))))
def wp.qai (a : D.Lane) (b : List D.Ins) (Q : (Bool × D.Lane) → Prop) : Prop :=
 qa5 (a.Pc == (b.length : Int)) (Q (false, (⟨a.Thread, a.Pc, a.Regs⟩ : D.Lane))) (((0 ≤ a.Pc ∧ a.Pc < (b.length : Int)) ∧ (∀ d, d = M.qb0 (rd b a.Pc) → qa5 (!d) (Q (false, (⟨a.Thread, a.Pc, a.Regs⟩ : D.Lane))) (((0 ≤ a.Pc ∧ a.Pc < (b.length : Int)) ∧ qa5 ((rd b a.Pc).Op == 12) (Q (true, (⟨a.Thread, (b.length : Int), a.Regs⟩ : D.Lane))) (qfn (σ := Bool × Unit) (fun c => qa5 ((rd b a.Pc).Op == 11) (c (true, ())) (qa5 ((rd b a.Pc).Op == 10) (((0 ≤ (rd b a.Pc).A ∧ (rd b a.Pc).A < (a.Regs.length : Int)) ∧ c (((rd a.Regs ((rd b a.Pc).A)) == 0), ()))) (c (false, ())))) (fun (f : Bool × Unit) => match f with | (g, _) => qa5 g (Q (true, (⟨a.Thread, (rd b a.Pc).B, a.Regs⟩ : D.Lane))) ((M.qcw (rd b a.Pc) a.Thread a.Regs ∧ ∀ e, e = M.qay (rd b a.Pc) a.Thread a.Regs → Q (true, (⟨a.Thread, (wrap .i64 (a.Pc + 1)), e⟩ : D.Lane)))))))))))
def wp.qaF (c : List D.Ins) (d : D.Lane) (i : Int) (Q : (D.Lane × Int) → Prop) : Prop :=
 (M.qcd d ∧ ∀ a, a = M.qb1 d → (M.qbO c ∧ ∀ j, j = M.qaJ c → qa5 (!j) (Q ((⟨a.Thread, a.Pc, a.Regs⟩ : D.Lane), (-1))) ((M.qcq c d ∧ ∀ k, k = M.qb6 c d → qa5 (!k) (Q ((⟨a.Thread, a.Pc, a.Regs⟩ : D.Lane), (-1))) ((∀ l, l = M.qab i 0 1000 → qa5 (!l) (Q ((⟨a.Thread, a.Pc, a.Regs⟩ : D.Lane), (-1))) (qdg (σ := Int × Int × Int × (List Int) × Unit) (fun (m : Int × Int × Int × (List Int) × Unit) n => match m with | (e, f, g, h, _) => qa5 (decide (e < i)) ((M.qbW (⟨f, g, h⟩ : D.Lane) c ∧ ∀ b, b = M.qai (⟨f, g, h⟩ : D.Lane) c → qa5 b.1 (n ((wrap .i64 (e + 1)), b.2.Thread, b.2.Pc, b.2.Regs, ())) (Q ((⟨b.2.Thread, b.2.Pc, b.2.Regs⟩ : D.Lane), e)))) (Q ((⟨f, g, h⟩ : D.Lane), e))) (0, a.Thread, a.Pc, a.Regs, ()))))))))
def wp.qaG (b : List D.Ins) (d : Int) (Q : (D.Lane × Int × Bool) → Prop) : Prop :=
 (∀ e, e = M.qax d → qa5 (!e) (Q ((⟨0, 0, ([] : List Int)⟩ : D.Lane), 0, false)) ((∀ c, c = M.qaZ d → (M.qcl b c 1000 ∧ ∀ a, a = M.qaF b c 1000 → qa5 (decide (a.2 < 0)) (Q ((⟨0, 0, ([] : List Int)⟩ : D.Lane), 0, false)) (qa5 (a.1.Pc != (b.length : Int)) (Q ((⟨0, 0, ([] : List Int)⟩ : D.Lane), 0, false)) (Q ((⟨a.1.Thread, a.1.Pc, a.1.Regs⟩ : D.Lane), a.2, true)))))))
end Go.V
namespace Go.V
open IntKind (wrap)
theorem wp.qax.math (t : Int) : wp.qax t (fun r => r = M.qax t) := fun r hr => hr
theorem wp.qaZ.math (t : Int) : wp.qaZ t (fun r => r = M.qaZ t) := by
 intro r hr
 refine qa8 (fun e => ?_) fun e => ⟨by omega, ?_⟩
 ·have : M.isIn t 0 23 = false := nt e hr
  simp [M.qaZ, M.qav, this]
 ·have : M.isIn t 0 23 = true := nf e hr
  simp only [M.qaZ, M.qav, this, if_true]; rfl
theorem wp.qak.math (l : List Int) (h : M.qbe l) : wp.qak l (fun r => r = M.qak l) := by
 intro b hb
 refine qa8 (fun e => ?_) fun e => ⟨by simpa [M.qbe] using h, rfl⟩
 rw [hb e]; rfl
theorem wp.qb1.math (l : D.Lane) (h : M.qcd l) : wp.qb1 l (fun r => r = M.qb1 l) := ⟨h, fun r hr => by subst hr; rfl⟩
theorem wp.qb0.math (i : D.Ins) : wp.qb0 i (fun r => r = M.qb0 i) := fun r hr => hr
theorem wp.qbi.math (x : Int) : wp.qbi x (fun r => r = M.qbi x) := fun r hr => hr
theorem wp.qbb.math (op : Int) : wp.qbb op (fun r => r = M.qbb op) := by
 intro r hr
 refine qa8 (fun e => ?_) fun e => ?_
 ·have : M.isIn op 0 16 = false := nt e hr
  have h' : ¬ (0 ≤ op ∧ op ≤ 16) := by simpa [M.isIn] using this
  have h2 : M.isIn op 3 9 = false := by simp [M.isIn]; omega
  simp only [M.qbb, M.qcQ, h2]
  rw [if_neg (by omega), if_neg (by omega), if_neg (by omega), if_neg (by omega), if_neg (by omega), if_neg (by omega)]
  rfl
 ·have : M.isIn op 0 16 = true := nf e hr
  have h' : 0 ≤ op ∧ op ≤ 16 := by simpa [M.isIn] using this
  refine ⟨by simp; omega, ?_⟩
  have : op = 0 ∨ op = 1 ∨ op = 2 ∨ op = 3 ∨ op = 4 ∨ op = 5 ∨ op = 6 ∨ op = 7 ∨ op = 8 ∨ op = 9 ∨ op = 10 ∨ op = 11 ∨ op = 12 ∨ op = 13 ∨ op = 14 ∨ op = 15 ∨ op = 16 := by omega
  rcases this with rfl | rfl | rfl | rfl | rfl | rfl | rfl | rfl | rfl | rfl | rfl | rfl | rfl | rfl | rfl | rfl | rfl <;> rfl
theorem wp.qac.math (f x n : Int) (h : M.qb7 f x n) : wp.qac f x n (fun r => r = M.qac f x n) := by
 refine qa8 (fun e r hr => ?_) fun e1 => qa8 (fun e r hr => ?_) fun e2 => qa8 (fun e r hr => ?_) fun e3 => ?_
 ·simp at e; simp [M.qac, e, hr, M.qbi]
 ·simp at e; simp [M.qac, e, hr, M.qau]
 ·simp at e; simp [M.qac, e, hr, M.qab]
 ·simp at e1 e2 e3; simp [M.qac, e1, e2, e3]
theorem qgO {a b : ByteArray} (h : ByteArray.toList a ≠ ByteArray.toList b) : (!(ByteArray.toList a == ByteArray.toList b)) = true := by simp [h]
theorem qeV (op : Int) : (M.qcQ op = ⟨#[45, 45, 45]⟩ ∧ (op = 0 ∨ op = 12 ∨ op = 16)) ∨ (M.qcQ op = ⟨#[82, 87, 45]⟩ ∧ op = 1) ∨ (M.qcQ op = ⟨#[82, 82, 45]⟩ ∧ (op = 2 ∨ op = 13 ∨ op = 14 ∨ op = 15)) ∨
    (M.qcQ op = ⟨#[82, 45, 45]⟩ ∧ op = 8) ∨ (M.qcQ op = ⟨#[82, 84, 45]⟩ ∧ op = 10) ∨ (M.qcQ op = ⟨#[45, 84, 45]⟩ ∧ op = 11) ∨ (M.qcQ op = ⟨#[82, 82, 82]⟩ ∧ (3 ≤ op ∧ op ≤ 7 ∨ op = 9)) ∨
    (M.qcQ op = ⟨#[]⟩ ∧ (op < 0 ∨ op > 16)) := by
 unfold M.qcQ
 by_cases a1 : op = 0 ∨ op = 12 ∨ op = 16
 ·rw [if_pos a1]; exact .inl ⟨rfl, a1⟩
 rw [if_neg a1]
 by_cases a2 : op = 1
 ·rw [if_pos a2]; exact .inr (.inl ⟨rfl, a2⟩)
 rw [if_neg a2]
 by_cases a3 : op = 2 ∨ op = 13 ∨ op = 14 ∨ op = 15
 ·rw [if_pos a3]; exact .inr (.inr (.inl ⟨rfl, a3⟩))
 rw [if_neg a3]
 by_cases a4 : op = 8
 ·rw [if_pos a4]; exact .inr (.inr (.inr (.inl ⟨rfl, a4⟩)))
 rw [if_neg a4]
 by_cases a5 : op = 10
 ·rw [if_pos a5]; exact .inr (.inr (.inr (.inr (.inl ⟨rfl, a5⟩))))
 rw [if_neg a5]
 by_cases a6 : op = 11
 ·rw [if_pos a6]; exact .inr (.inr (.inr (.inr (.inr (.inl ⟨rfl, a6⟩)))))
 rw [if_neg a6]
 by_cases a7 : 3 ≤ op ∧ op ≤ 9
 ·rw [if_pos (by simp [M.isIn]; omega)]; exact .inr (.inr (.inr (.inr (.inr (.inr (.inl ⟨rfl, by omega⟩))))))
 rw [if_neg (by simp [M.isIn]; omega)]; exact .inr (.inr (.inr (.inr (.inr (.inr (.inr ⟨rfl, by omega⟩))))))
theorem qcE {i : D.Ins} {n : Int} {f : ByteArray} {x y z : Int} (hx : bt f 0 = x) (hy : bt f 1 = y) (hz : bt f 2 = z) (hs : f.size = 3) (hf : ByteArray.toList f ≠ ByteArray.toList (⟨#[]⟩)) {P : Bool → Prop} (hin : M.isIn n 0 32 = false → P false)
    (h : M.isIn n 0 32 = true → P (M.qac x i.A n && (M.qac y i.B n && M.qac z i.C n))) :
    qa5 (!(ByteArray.toList f == ByteArray.toList (⟨#[]⟩))) ((∀ r28, r28 = M.qab n 0 32 → qa5 r28 (((0 ≤ (0 : Int) ∧ (0 : Int) < ((ByteArray.size f : Nat) : Int)) ∧ (M.qb7 (bt f 0) i.A n ∧ ∀ r38, r38 = M.qac (bt f 0) i.A n → qa5 r38 (((0 ≤ (1 : Int) ∧ (1 : Int) < ((ByteArray.size f : Nat) : Int)) ∧ (M.qb7 (bt f 1) i.B n ∧ ∀ r48, r48 = M.qac (bt f 1) i.B n → qa5 r48 (((0 ≤ (2 : Int) ∧ (2 : Int) < ((ByteArray.size f : Nat) : Int)) ∧ (M.qb7 (bt f 2) i.C n ∧ ∀ r58, r58 = M.qac (bt f 2) i.C n → P r58))) (P false)))) (P false)))) (P false))) (P false) := by
 refine qbn (qgO hf) fun r1 h1 => qa8 (fun e1 => ⟨by omega, trivial, fun r2 h2 => qa8 (fun e2 => ⟨by omega, trivial, fun r3 h3 => qa8 (fun e3 => ⟨by omega, trivial, fun r4 h4 => ?_⟩) fun e3 => ?_⟩) fun e2 => ?_⟩) fun e1 => hin (h1.symm.trans e1)
 all_goals have hh := h (h1.symm.trans e1)
 ·rw [hx] at h2; rw [hy] at h3; rw [hz] at h4
  rw [← h2, ← h3, ← h4, e2, e3] at hh; exact hh
 ·rw [hx] at h2; rw [hy] at h3
  rw [← h2, ← h3, e2, e3] at hh; exact hh
 ·rw [hx] at h2
  rw [← h2, e2] at hh; exact hh
theorem wp.qah.math (i : D.Ins) (n : Int) : wp.qah i n (fun r => r = M.qah i n) := by
 intro r hr
 have hr' : r = M.qcQ i.Op := hr
 rcases qeV i.Op with ⟨e, h⟩ | ⟨e, h⟩ | ⟨e, h⟩ | ⟨e, h⟩ | ⟨e, h⟩ | ⟨e, h⟩ | ⟨e, h⟩ | ⟨e, h⟩
 case inr.inr.inr.inr.inr.inr.inr =>
  rw [hr', e]
  refine qbI (by simp) ?_
  simp only [M.qah, M.qb9]
  rw [if_neg (by omega), if_neg (by omega), if_neg (by omega), if_neg (by omega), if_neg (by omega), if_neg (by omega)]
  have : M.isIn i.Op 3 9 = false := by simp [M.isIn]; omega
  simp [this]
 ·rw [hr', e]
  refine qcE (x := 45) (y := 45) (z := 45) (P := fun r => r = M.qah i n) (by decide +kernel) (by decide +kernel) (by decide +kernel) rfl (by decide +kernel) (fun hn => by simp [M.qah, M.qb9, hn]) fun hn => ?_
  simp only [M.qah, M.qb9, hn, Bool.true_and]
  rw [if_pos h]
  simp [M.qac]
 ·rw [hr', e]
  refine qcE (x := 82) (y := 87) (z := 45) (P := fun r => r = M.qah i n) (by decide +kernel) (by decide +kernel) (by decide +kernel) rfl (by decide +kernel) (fun hn => by simp [M.qah, M.qb9, hn]) fun hn => ?_
  simp only [M.qah, M.qb9, hn, Bool.true_and]
  rw [if_neg (by omega), if_pos h]
  simp [M.qac]
 ·rw [hr', e]
  refine qcE (x := 82) (y := 82) (z := 45) (P := fun r => r = M.qah i n) (by decide +kernel) (by decide +kernel) (by decide +kernel) rfl (by decide +kernel) (fun hn => by simp [M.qah, M.qb9, hn]) fun hn => ?_
  simp only [M.qah, M.qb9, hn, Bool.true_and]
  rw [if_neg (by omega), if_neg (by omega), if_pos h]
  simp [M.qac]
 ·rw [hr', e]
  refine qcE (x := 82) (y := 45) (z := 45) (P := fun r => r = M.qah i n) (by decide +kernel) (by decide +kernel) (by decide +kernel) rfl (by decide +kernel) (fun hn => by simp [M.qah, M.qb9, hn]) fun hn => ?_
  simp only [M.qah, M.qb9, hn, Bool.true_and]
  rw [if_neg (by omega), if_neg (by omega), if_neg (by omega), if_pos h]
  simp [M.qac]
 ·rw [hr', e]
  refine qcE (x := 82) (y := 84) (z := 45) (P := fun r => r = M.qah i n) (by decide +kernel) (by decide +kernel) (by decide +kernel) rfl (by decide +kernel) (fun hn => by simp [M.qah, M.qb9, hn]) fun hn => ?_
  simp only [M.qah, M.qb9, hn, Bool.true_and]
  rw [if_neg (by omega), if_neg (by omega), if_neg (by omega), if_neg (by omega), if_pos h]
  simp [M.qac]
 ·rw [hr', e]
  refine qcE (x := 45) (y := 84) (z := 45) (P := fun r => r = M.qah i n) (by decide +kernel) (by decide +kernel) (by decide +kernel) rfl (by decide +kernel) (fun hn => by simp [M.qah, M.qb9, hn]) fun hn => ?_
  simp only [M.qah, M.qb9, hn, Bool.true_and]
  rw [if_neg (by omega), if_neg (by omega), if_neg (by omega), if_neg (by omega), if_neg (by omega), if_pos h]
  simp [M.qac]
 ·rw [hr', e]
  refine qcE (x := 82) (y := 82) (z := 82) (P := fun r => r = M.qah i n) (by decide +kernel) (by decide +kernel) (by decide +kernel) rfl (by decide +kernel) (fun hn => by simp [M.qah, M.qb9, hn]) fun hn => ?_
  simp only [M.qah, M.qb9, hn, Bool.true_and]
  rw [if_neg (by omega), if_neg (by omega), if_neg (by omega), if_neg (by omega), if_neg (by omega), if_neg (by omega)]
  have : M.isIn i.Op 3 9 = true := by simp [M.isIn]; omega
  simp [M.qac, this]
theorem wp.qat.math (i : D.Ins) (p : List D.Ins) : wp.qat i p (fun r => r = M.qat i p) := fun r hr => by rw [hr]; rfl
theorem wp.qa2.math (l : List D.Ins) (g : D.Ins → Bool) (D : D.Ins → Prop) (h : M.qaW l g D) : wp.qa2 l g D (fun r => r = M.qa2 l g) := by
 unfold wp.qa2
 obtain ⟨h1, h2⟩ := h
 refine qdq l.length (fun k => ((k : Int), ())) (fun k => M.qa2 l g = M.qck g (l.drop k) k) rfl (by simp [M.qa2]) (fun k hk hF next hn => ?_) fun hF next => ?_
 ·rw [qdK g l k hk] at hF
  refine qbn (by simp; omega) ⟨by omega, h2 _ (qfY hk), fun r hr => qa8 (fun e => ?_) fun e => ?_⟩
  ·rw [hF, if_pos (by rw [← hr]; exact e)]
  ·rw [up64 hk h1]
   exact hn (by rw [hF, if_neg (by rw [← hr, e]; simp)])
 ·refine qbI (by simp) ?_
  rw [hF]; simp [M.qck]
theorem wp.qa1.math (l : List D.Ins) (g : D.Ins → Bool) (D : D.Ins → Prop) (h : M.qaw l g D) : wp.qa1 l g D (fun r => r = M.qa1 l g) :=
 ⟨h, fun r hr => by rw [hr]; exact qcu g l 0⟩
theorem wp.qan.math (p : List D.Ins) (h : M.qbd p) : wp.qan p (fun r => r = M.qan p) := by
 refine qa8 (fun e => ⟨⟨h, fun _ _ => trivial⟩, fun r hr => ?_⟩) fun e => ?_
 ·have h32 : p.length ≤ 32 := by simp at e; omega
  rw [hr]
  simp only [M.qa1, M.qan, M.qar, M.qat, ← List.all_eq_not_any_not, h32, decide_true, Bool.true_and]
 ·have h32 : ¬ p.length ≤ 32 := by simp at e; omega
  simp [M.qan, M.qar, h32]
theorem wp.qaE.math (i : D.Ins) : wp.qaE i (fun r => r = M.qaE i) := fun r hr => by rw [hr]; rfl
theorem wp.qaJ.math (p : List D.Ins) (h : M.qbO p) : wp.qaJ p (fun r => r = M.qaJ p) := by
 refine ⟨h, fun r hr => qa8 (fun e => ⟨⟨h, fun _ _ => trivial⟩, fun r2 hr2 => ?_⟩) fun e => ?_⟩
 ·have h1 : M.qar p = true := hr.symm.trans e
  rw [hr2]
  simp only [M.qa1, M.qaJ, M.qaS, M.qaE, ← List.all_eq_not_any_not, h1, Bool.true_and]
 ·have h1 : M.qar p = false := hr.symm.trans e
  simp [M.qaJ, M.qaS, h1]
theorem wp.qaT.math (l : List Int) : wp.qaT l (fun r => r = M.qaT l) := by
 refine qa8 (fun e => ?_) fun e => ?_
 ·have hl : l.length = 4 := by simp at e; omega
  refine ⟨by show l.length ≤ 9223372036854775807; omega, fun r hr => ?_⟩
  rw [hr]; simp [M.qaT, M.qcL, M.qaQ, hl]
 ·have hl : ¬ l.length = 4 := by simp at e; omega
  simp [M.qaT, M.qcL, hl]
theorem wp.qaC.math (p : List D.Ins) (l : D.Lane) (h : M.qcc p l) : wp.qaC p l (fun r => r = M.qaC p l) := by
 refine fun r1 h1 => qa8 (fun e1 r2 h2 => qa8 (fun e2 r3 h3 => ?_) fun e2 => ?_) fun e1 => ?_
 ·have h1' : M.isIn l.Thread 0 23 = true := h1.symm.trans e1
  have h2' : M.isIn l.Pc 0 p.length = true := h2.symm.trans e2
  simp [M.qaC, M.qd0, h1', h2', h3, M.qaT]
 ·have h2' : M.isIn l.Pc 0 p.length = false := h2.symm.trans e2
  simp [M.qaC, M.qd0, h2']
 ·have h1' : M.isIn l.Thread 0 23 = false := h1.symm.trans e1
  simp [M.qaC, M.qd0, h1']
theorem wp.qb6.math (p : List D.Ins) (l : D.Lane) (h : M.qcq p l) : wp.qb6 p l (fun r => r = M.qb6 p l) := by
 refine ⟨h, fun r1 h1 => qa8 (fun e1 => ⟨trivial, fun r2 h2 => ?_⟩) fun e1 => ?_⟩
 ·have h1' : M.qar p = true := h1.symm.trans e1
  simp [M.qb6, M.qbA, h1', h2, M.qaC]
 ·have h1' : M.qar p = false := h1.symm.trans e1
  simp [M.qb6, M.qbA, h1']
theorem qg5 {a b : Int} (ha : 0 ≤ a ∧ a ≤ 65535) (hb : 0 ≤ b ∧ b ≤ 65535) : 0 ≤ a * b ∧ a * b ≤ 4294836225 :=
 ⟨Int.mul_nonneg ha.1 hb.1, by have := Int.mul_le_mul ha.2 hb.2 hb.1 (by omega : (0 : Int) ≤ 65535); omega⟩
theorem wp.qb5.math (a b : Int) : wp.qb5 a b (fun r => r = M.qb5 a b) := by
 intro r1 h1
 refine qa8 (fun e1 r2 h2 => qa8 (fun e2 => qa8 (fun e3 => ?_) fun e3 => ?_) fun e2 => ?_) fun e1 => ?_
 ·have ha : M.isWord a = true := h1.symm.trans e1
  have hb : M.isWord b = true := h2.symm.trans e2
  simp at e3; simp [M.qb5, M.qeI, ha, hb, e3]
 ·simp at e3; simp [M.qb5, M.qeI]; omega
 ·have hb : M.isWord b = false := h2.symm.trans e2
  simp [M.qb5, M.qeI, hb]
 ·have ha : M.isWord a = false := h1.symm.trans e1
  simp [M.qb5, M.qeI, ha]
theorem wp.qaH.math (a b : Int) : wp.qaH a b (fun r => r = M.qaH a b) := wp.qb5.math a b
theorem wp.qaM.math (a b : Int) : wp.qaM a b (fun r => r = M.qaM a b) := by
 intro r hr
 rw [hr]
 simp only [M.qaq, M.qaM, M.subW]
 by_cases h : (M.isWord a && M.isWord b) = true
 ·rw [if_pos h, if_pos h]
  simp only [Bool.and_eq_true, qc7] at h
  rw [w64 (by omega) (by omega)]
 ·rw [if_neg h, if_neg h]
theorem wp.qaO.math (a b : Int) : wp.qaO a b (fun r => r = M.qaO a b) := by
 intro r hr
 rw [hr]
 simp only [M.qaq, M.qaO, M.mulW]
 by_cases h : (M.isWord a && M.isWord b) = true
 ·rw [if_pos h, if_pos h]
  simp only [Bool.and_eq_true, qc7] at h
  have := qg5 h.1 h.2
  rw [w64 (by omega) (by omega)]
 ·rw [if_neg h, if_neg h]
theorem qcB {x : Int} : M.qcT x = true ↔ 0 ≤ x ∧ x ≤ 3 := by simp [M.qcT, M.isIn]
theorem qe1 {i : D.Ins} {r : List Int} (h : M.Fits i r) : r.length = 4 ∧ (1 ≤ i.Op ∧ i.Op ≤ 10 → 0 ≤ i.A ∧ i.A ≤ 3) ∧ (2 ≤ i.Op ∧ i.Op ≤ 7 ∨ i.Op = 9 → 0 ≤ i.B ∧ i.B ≤ 3) ∧ (3 ≤ i.Op ∧ i.Op ≤ 7 ∨ i.Op = 9 → 0 ≤ i.C ∧ i.C ≤ 3) := by
 obtain ⟨hl, n, hok⟩ := h
 simp only [M.qb9, Bool.and_eq_true] at hok
 have hok := hok.2
 split at hok
 ·exact ⟨hl, by omega, by omega, by omega⟩
 split at hok
 ·simp only [Bool.and_eq_true, qcB] at hok
  exact ⟨hl, fun _ => hok.1, by omega, by omega⟩
 split at hok
 ·simp only [Bool.and_eq_true, qcB] at hok
  exact ⟨hl, fun _ => hok.1, fun _ => hok.2.1, by omega⟩
 split at hok
 ·simp only [Bool.and_eq_true, qcB] at hok
  exact ⟨hl, fun _ => hok.1, by omega, by omega⟩
 split at hok
 ·simp only [Bool.and_eq_true, qcB] at hok
  exact ⟨hl, fun _ => hok.1, by omega, by omega⟩
 split at hok
 ·exact ⟨hl, by omega, by omega, by omega⟩
 ·simp only [Bool.and_eq_true, qcB] at hok
  exact ⟨hl, fun _ => hok.2.1, fun _ => hok.2.2.1, fun _ => hok.2.2.2⟩
theorem qbF {r : List Int} {x : Int} (hl : r.length = 4) (h : 0 ≤ x ∧ x ≤ 3) : 0 ≤ x ∧ x < (r.length : Int) := by omega
theorem wp.qay.math (i : D.Ins) (t : Int) (r : List Int) (h : M.qcw i t r) : wp.qay i t r (fun x => x = M.qay i t r) := by
 obtain ⟨hl, hA, hB, hC⟩ := qe1 h
 simp only [wp.qay, forall_eq]
 refine qa8 (fun e => ?_) fun n1 => qa8 (fun e => ?_) fun n2 => qa8 (fun e => ?_) fun n3 => qa8 (fun e => ?_) fun n4 => qa8 (fun e => ?_) fun n5 => qa8 (fun e => ?_) fun n6 => qa8 (fun e => ?_) fun n7 => qa8 (fun e => ?_) fun n8 => qa8 (fun e => ?_) fun n9 => ?_
 ·have hk : i.Op = 1 := by simpa using e
  exact ⟨qbF hl (hA (by omega)), by simp [M.qay, M.apply, hk]⟩
 ·have hk : i.Op = 2 := by simpa using e
  exact ⟨qbF hl (hB (by omega)), qbF hl (hA (by omega)), by simp [M.qay, M.apply, hk]⟩
 ·have hk : i.Op = 3 := by simpa using e
  exact ⟨qbF hl (hB (by omega)), qbF hl (hC (by omega)), qbF hl (hA (by omega)), by simp [M.qay, M.apply, hk, M.qeL, M.qaN]⟩
 ·have hk : i.Op = 4 := by simpa using e
  exact ⟨qbF hl (hB (by omega)), qbF hl (hC (by omega)), qbF hl (hA (by omega)), by simp [M.qay, M.apply, hk, M.qeO, M.qaM]⟩
 ·have hk : i.Op = 5 := by simpa using e
  exact ⟨qbF hl (hB (by omega)), qbF hl (hC (by omega)), qbF hl (hA (by omega)), by simp [M.qay, M.apply, hk, M.qeR, M.qaO]⟩
 ·have hk : i.Op = 6 := by simpa using e
  exact ⟨qbF hl (hB (by omega)), qbF hl (hC (by omega)), qbF hl (hA (by omega)), by simp [M.qay, M.apply, hk]⟩
 ·have hk : i.Op = 7 := by simpa using e
  exact ⟨qbF hl (hB (by omega)), qbF hl (hC (by omega)), qbF hl (hA (by omega)), by simp [M.qay, M.apply, hk, M.qb5, M.qaH]⟩
 ·have hk : i.Op = 8 := by simpa using e
  exact ⟨qbF hl (hA (by omega)), by simp [M.qay, M.apply, hk]⟩
 ·have hk : i.Op = 9 := by simpa using e
  refine ⟨qbF hl (hC (by omega)), qa8 (fun e2 => ⟨qbF hl (hB (by omega)), qbF hl (hA (by omega)), ?_⟩) fun e2 => ?_⟩
  ·have h2 : ¬ rd r i.C = 0 := by simpa using e2
   simp [M.qay, M.apply, hk, h2]
  ·have h2 : rd r i.C = 0 := by simpa using e2
   simp [M.qay, M.apply, hk, h2]
 ·simp at n1 n2 n3 n4 n5 n6 n7 n8 n9
  simp [M.qay, M.apply, n1, n2, n3, n4, n5, n6, n7, n8, n9]
theorem wp.qai.math (l : D.Lane) (p : List D.Ins) (h : M.qbW l p) : wp.qai l p (fun x => x = M.qai l p) := by
 obtain ⟨hp, hat⟩ := h
 refine qa8 (fun e => ?_) fun e => ?_
 ·have : l.Pc = p.length := by simpa using e
  simp [M.qai, this]; exact (by rw [← this])
 ·have hne : ¬ l.Pc = p.length := by simpa using e
  obtain ⟨_, h0, h1, hf⟩ := hat.resolve_left hne
  obtain ⟨hl, hA, hB, hC⟩ := qe1 hf
  unfold M.Long at hp
  have hw : wrap .i64 (l.Pc + 1) = l.Pc + 1 := w64 (by omega) (by omega)
  refine ⟨⟨h0, h1⟩, fun r hr => qa8 (fun e1 => ?_) fun e1 => ⟨⟨h0, h1⟩, ?_⟩⟩
  ·have : M.qbq (rd p l.Pc) = false := nt e1 hr
   simp [M.qai, hne, this]
  have hloc : M.qbq (rd p l.Pc) = true := nf e1 hr
  have hM : M.qai l p = (true, M.step p l) := by simp only [M.qai, hne, if_false, hloc, if_true]
  have ha : ∀ k, 10 ≤ k → (rd p l.Pc).Op = k → M.apply (rd p l.Pc) l.Thread l.Regs = l.Regs := by
   intro k hk e
   unfold M.apply
   rw [if_neg (by omega), if_neg (by omega), if_neg (by omega), if_neg (by omega), if_neg (by omega), if_neg (by omega), if_neg (by omega), if_neg (by omega), if_neg (by omega)]
  rw [hM]
  simp only [qfn, hw]
  refine qa8 (fun e2 => ?_) fun n1 => qa8 (fun e2 => ?_) fun n2 => qa8 (fun e2 => ⟨?_, qa8 (fun e3 => ?_) fun e3 => ⟨hf, fun r2 hr2 => ?_⟩⟩) fun n3 => ⟨hf, fun r2 hr2 => ?_⟩
  ·have e2 : (rd p l.Pc).Op = 12 := by simpa using e2
   simp [M.step, M.next, e2, ha 12 (by omega) e2]
  ·have e2 : (rd p l.Pc).Op = 11 := by simpa using e2
   simp [qa5, M.step, M.next, e2, ha 11 (by omega) e2]
  ·have e2 : (rd p l.Pc).Op = 10 := by simpa using e2
   exact qbF hl (hA (by omega))
  ·have e2 : (rd p l.Pc).Op = 10 := by simpa using e2
   have e3 : rd l.Regs (rd p l.Pc).A = 0 := by simpa using e3
   simp [M.step, M.next, e2, e3, ha 10 (by omega) e2]
  ·have e2 : (rd p l.Pc).Op = 10 := by simpa using e2
   have e3 : ¬ rd l.Regs (rd p l.Pc).A = 0 := by simpa using e3
   simp [M.step, M.next, e2, e3, hr2, M.qay]
  ·have n1 : ¬ (rd p l.Pc).Op = 12 := by simpa using n1
   have n2 : ¬ (rd p l.Pc).Op = 11 := by simpa using n2
   have n3 : ¬ (rd p l.Pc).Op = 10 := by simpa using n3
   simp [M.step, M.next, n1, n2, n3, hr2, M.qay]
def Inv (p : List D.Ins) (l : D.Lane) : Prop := 0 ≤ l.Pc ∧ l.Pc ≤ p.length ∧ l.Regs.length = 4
theorem qex {α : Type} [Inhabited α] {xs : List α} {i : Int} (h0 : 0 ≤ i) (h1 : i < (xs.length : Int)) : rd xs i ∈ xs := by
 obtain ⟨k, rfl⟩ := Int.eq_ofNat_of_zero_le h0
 exact qfY (by omega)
theorem qfX {p : List D.Ins} (hp : M.qar p = true) {l : D.Lane} (hi : Inv p l) (hlt : l.Pc < p.length) : M.At p l.Pc l.Regs := by
 obtain ⟨h0, h1, h2⟩ := hi
 simp only [M.qar, Bool.and_eq_true, decide_eq_true_eq, List.all_eq_true] at hp
 exact ⟨by unfold M.Long; omega, h0, hlt, h2, _, hp.2 _ (qex h0 hlt)⟩
theorem qga (i : D.Ins) (t : Int) (r : List Int) : (M.apply i t r).length = r.length := by
 unfold M.apply
 (repeat' split) <;> simp
theorem qgM {p : List D.Ins} {l : D.Lane} (hp : M.qar p = true) (hi : Inv p l) (hlt : l.Pc < p.length) : 0 ≤ M.next p l.Pc l.Regs ∧ M.next p l.Pc l.Regs ≤ p.length := by
 obtain ⟨h0, h1, h2⟩ := hi
 simp only [M.qar, Bool.and_eq_true, decide_eq_true_eq, List.all_eq_true] at hp
 have hok := hp.2 _ (qex h0 hlt)
 simp only [M.qb9, Bool.and_eq_true] at hok
 have hok := hok.2
 unfold M.next
 split
 ·omega
 split
 ·rename_i h12 h11
  rw [if_neg (by omega), if_neg (by omega), if_neg (by omega), if_neg (by omega), if_neg (by omega), if_pos h11] at hok
  simp only [Bool.and_eq_true, M.isIn, decide_eq_true_eq] at hok
  exact hok.2.1
 split
 ·rename_i h12 h11 h10
  rw [if_neg (by omega), if_neg (by omega), if_neg (by omega), if_neg (by omega), if_pos h10] at hok
  simp only [Bool.and_eq_true, M.isIn, decide_eq_true_eq] at hok
  split
  ·exact hok.2.1
  ·omega
 ·omega
theorem qey {p : List D.Ins} {l : D.Lane} (hp : M.qar p = true) (hi : Inv p l) (hlt : l.Pc < p.length) : Inv p (M.step p l) := by
 have h := qgM hp hi hlt
 exact ⟨h.1, h.2, by simp only [M.step, qga]; exact hi.2.2⟩
theorem qd9 {p : List D.Ins} {l : D.Lane} (h : M.qbA p l = true) : M.qar p = true ∧ Inv p l := by
 simp only [M.qbA, M.qd0, M.qcL, M.isIn, Bool.and_eq_true, decide_eq_true_eq, beq_iff_eq] at h
 exact ⟨h.1, h.2.2.1.1, h.2.2.1.2, h.2.2.2.1⟩
theorem qfm {p : List D.Ins} (h : M.qaS p = true) {i : Int} (h0 : 0 ≤ i) (h1 : i < (p.length : Int)) : M.qbq (rd p i) = true := by
 simp only [M.qaS, Bool.and_eq_true, List.all_eq_true] at h
 exact h.2 _ (qex h0 h1)
theorem qgq {p : List D.Ins} {l0 : D.Lane} {steps : Int} (hp : M.qar p = true) (hi : Inv p l0) (hs : 0 ≤ steps) {Q : D.Lane × Int → Prop} (hQ : Q (M.runN p steps.toNat l0 0))
    {B : (Int × Int × Int × List Int × Unit) → ((Int × Int × Int × List Int × Unit) → Prop) → Prop}
    (hb : ∀ (n : Int) (l : D.Lane) (next : (Int × Int × Int × List Int × Unit) → Prop), 0 ≤ n → Inv p l → n < steps → l.Pc < p.length → next (n + 1, (M.step p l).Thread, (M.step p l).Pc, (M.step p l).Regs, ()) → B (n, l.Thread, l.Pc, l.Regs, ()) next)
    (he1 : ∀ (n : Int) (l : D.Lane) (next : (Int × Int × Int × List Int × Unit) → Prop), 0 ≤ n → Inv p l → n < steps → l.Pc = p.length → Q (l, n) → B (n, l.Thread, l.Pc, l.Regs, ()) next)
    (he2 : ∀ (l : D.Lane) (next : (Int × Int × Int × List Int × Unit) → Prop), Inv p l → Q (l, steps) → B (steps, l.Thread, l.Pc, l.Regs, ()) next) :
    qdg B (0, l0.Thread, l0.Pc, l0.Regs, ()) := by
 refine ⟨fun m z => ∃ (n : Int) (l : D.Lane), z = (n, l.Thread, l.Pc, l.Regs, ()) ∧ (m : Int) = steps - n ∧ 0 ≤ n ∧ n ≤ steps ∧ Inv p l ∧ Q (M.runN p m l n), ⟨steps.toNat, 0, l0, rfl, by omega, by omega, hs, hi, hQ⟩, ?_⟩
 rintro m z ⟨n, l, rfl, hm, h0, h1, hI, hq⟩
 cases m with
 | zero =>
  have : n = steps := by omega
  subst this
  exact he2 l _ hI hq
 | succ k =>
  by_cases hlt : l.Pc < p.length
  ·refine hb n l _ h0 hI (by omega) hlt ⟨k, by omega, n + 1, M.step p l, rfl, by omega, by omega, by omega, qey hp hI hlt, ?_⟩
   rw [M.runN, if_pos hlt] at hq; exact hq
  ·have : l.Pc = p.length := by have := hI.2.1; omega
   rw [M.runN, if_neg hlt] at hq
   exact he1 n l _ h0 hI (by omega) this hq
theorem wp.qaF.math (p : List D.Ins) (l : D.Lane) (steps : Int) (h : M.qcl p l steps) : wp.qaF p l steps (fun x => x = M.qaF p l steps) := by
 obtain ⟨hp, hr⟩ := h
 refine ⟨hr, fun r1 h1 => ⟨hp, fun r2 h2 => qa8 (fun e2 => ?_) fun e2 => ⟨hp, fun r3 h3 => qa8 (fun e3 => ?_) fun e3 r4 h4 => qa8 (fun e4 => ?_) fun e4 => ?_⟩⟩⟩
 all_goals have h1' : r1 = l := h1
 all_goals subst h1'
 ·have : M.qaS p = false := nt e2 h2
  simp [M.qaF, M.qaV, this]
 ·have : M.qbA p r1 = false := nt e3 h3
  simp [M.qaF, M.qaV, this]
 ·have : M.isIn steps 0 1000 = false := nt e4 h4
  simp [M.qaF, M.qaV, this]
 ·have q1 : M.qaS p = true := nf e2 h2
  have q2 : M.qbA p r1 = true := nf e3 h3
  have q3 : M.isIn steps 0 1000 = true := nf e4 h4
  have hst : 0 ≤ steps ∧ steps ≤ 1000 := by simpa [M.isIn] using q3
  obtain ⟨hok, hI⟩ := qd9 q2
  have hM : M.qaF p r1 steps = M.runN p steps.toNat r1 0 := by simp [M.qaF, M.qaV, q1, q2, q3]
  rw [hM]
  refine qgq hok hI hst.1 (Q := fun x => x = M.runN p steps.toNat r1 0) rfl (fun n l next h0 hI hn hlt hnx => ?_) (fun n l next h0 hI hn hpc hq => ?_) fun l next hI hq => ?_
  ·refine qbn (by simpa using hn) ⟨⟨hp, .inr (qfX hok hI hlt)⟩, fun r hr => ?_⟩
   have : r = (true, M.step p l) := by
    rw [hr]
    show M.qai l p = _
    simp only [M.qai]
    rw [if_neg (by omega), if_pos (qfm q1 hI.1 hlt)]
   rw [this]
   refine qbn rfl ?_
   rw [w64 (by omega) (by omega)]; exact hnx
  ·refine qbn (by simpa using hn) ⟨⟨hp, .inl hpc⟩, fun r hr => ?_⟩
   have : r = (false, l) := by
    rw [hr]
    show M.qai l p = _
    simp only [M.qai]
    rw [if_pos hpc]
   rw [this]
   exact qbI rfl hq
  ·exact qbI (by simp) hq
theorem qfr (t : Int) : (M.qav t).Regs.length ≤ 4 := by unfold M.qav; split <;> simp
theorem wp.qaG.math (p : List D.Ins) (t : Int) (h : M.qcx p t) : wp.qaG p t (fun x => x = M.qaG p t) := by
 intro r0 h0
 refine qa8 (fun e => ?_) fun e r1 h1 => ?_
 ·have : M.isIn t 0 23 = false := nt e h0
  simp [M.qaG, this]
 have ht : M.isIn t 0 23 = true := nf e h0
 have h1' : r1 = M.qav t := h1
 subst h1'
 have := qfr t
 refine ⟨⟨h, by omega⟩, fun r2 h2 => ?_⟩
 have h2' : r2 = M.qaV p (M.qav t) 1000 := h2
 subst h2'
 refine qa8 (fun e => ?_) fun e1 => qa8 (fun e => ?_) fun e2 => ?_
 ·simp at e; simp [M.qaG, ht, e]
 ·have e1 : ¬ (M.qaV p (M.qav t) 1000).2 < 0 := by simpa using e1
  have e : (M.qaV p (M.qav t) 1000).1.Pc ≠ p.length := by simpa using e
  simp only [M.qaG, ht, if_true, if_neg e1, if_pos e]
 ·have e1 : ¬ (M.qaV p (M.qav t) 1000).2 < 0 := by simpa using e1
  have e2 : ¬ (M.qaV p (M.qav t) 1000).1.Pc ≠ p.length := by simpa using e2
  simp only [M.qaG, ht, if_true, if_neg e1, if_neg e2]
theorem qfB {p : List D.Ins} (hp : M.qar p = true) : ∀ (k : Nat) (l : D.Lane) (n : Int), Inv p l → Inv p (M.runN p k l n).1 ∧ (0 ≤ n → 0 ≤ (M.runN p k l n).2)
 | 0, l, n, hi => ⟨hi, fun h => h⟩
 | k + 1, l, n, hi => by
  rw [M.runN]
  split
  ·rename_i hlt
   have := qfB hp k _ (n + 1) (qey hp hi hlt)
   exact ⟨this.1, fun h => this.2 (by omega)⟩
  ·exact ⟨hi, fun h => h⟩
theorem qd6 {p : List D.Ins} {l : D.Lane} {s : Int} (h : ¬ (M.qaV p l s).2 < 0) : M.qaS p = true ∧ M.qbA p l = true ∧ Inv p (M.qaV p l s).1 := by
 by_cases hc : (M.qaS p && (M.qbA p l && M.isIn s 0 1000)) = true
 ·unfold M.qaV at *
  rw [if_pos hc] at *
  simp only [Bool.and_eq_true] at hc
  have := qd9 hc.2.1
  exact ⟨hc.1, hc.2.1, (qfB this.1 _ _ _ this.2).1⟩
 ·unfold M.qaV at h
  rw [if_neg hc] at h
  exact absurd (show (-1 : Int) < 0 by decide) h
end Go.V
namespace Go.V
open IntKind (wrap)
def wp.qb2 (b : List D.Ins) (c : Int) (Q : (D.Lane × Bool) → Prop) : Prop :=
 (M.qcx b c ∧ ∀ a, a = M.qaG b c → Q ((⟨a.1.Thread, a.1.Pc, a.1.Regs⟩ : D.Lane), a.2.2))
end Go.V
namespace Go.V
open IntKind (wrap)
theorem qfq (p : List D.Ins) (t : Int) : (M.qaG p t).1 = (M.qb3 p t).1 ∧ (M.qaG p t).2.2 = (M.qb3 p t).2 := by
 by_cases ht : M.isIn t 0 23 = true
 ·by_cases e1 : (M.qaV p (M.qav t) 1000).2 < 0
  ·simp [M.qaG, M.qb3, ht, e1]
  ·have hpc := (qd6 e1).2.2.2.1
   by_cases e2 : (M.qaV p (M.qav t) 1000).1.Pc = p.length
   ·have e3 : ¬ (M.qaV p (M.qav t) 1000).1.Pc < p.length := by omega
    simp only [M.qaG, M.qb3, ht, if_true, if_neg e1, if_neg e3]
    rw [if_neg (by simpa using e2)]; exact ⟨rfl, rfl⟩
   ·have e3 : (M.qaV p (M.qav t) 1000).1.Pc < p.length := by omega
    simp only [M.qaG, M.qb3, ht, if_true, if_neg e1, if_pos e3]
    rw [if_pos (by simpa using e2)]; exact ⟨rfl, rfl⟩
 ·have ht' : M.isIn t 0 23 = false := by simpa using ht
  have hn : M.qav t = ⟨0, 0, []⟩ := by simp [M.qav, ht']
  have e1 : (M.qaV p (M.qav t) 1000).2 < 0 := by
   refine Decidable.byContradiction fun hh => ?_
   have := (qd6 hh).2.1
   rw [hn] at this
   simp [M.qbA, M.qd0, M.qcL] at this
  simp only [M.qaG, M.qb3, ht', if_pos e1]
  exact ⟨rfl, rfl⟩
theorem wp.qb2.math (p : List D.Ins) (t : Int) (h : M.qcf p t) : wp.qb2 p t (fun x => x = M.qb2 p t) := by
 refine ⟨h, fun r hr => ?_⟩
 subst hr
 obtain ⟨h1, h2⟩ := qfq p t
 rw [h1, h2]; rfl
theorem qdw (p : List D.Ins) (t : Int) : (M.qb3 p t).1.Regs.length ≤ 4 := by
 unfold M.qb3
 split
 ·simp
 ·rename_i h
  split
  ·simp
  ·have := (qd6 h).2.2.2.2
   show (M.qaV p (M.qav t) 1000).1.Regs.length ≤ 4
   omega
end Go.V
namespace Go.V
open IntKind (wrap)
def wp.qaz (b : Int) (Q : Bool → Prop) : Prop :=
 (∀ a, a = M.qab b 0 2 → Q a)
end Go.V
namespace Go.V
open IntKind (wrap)
theorem wp.qaz.math (x : Int) : wp.qaz x (fun r => r = M.qaz x) := fun r hr => hr
end Go.V
namespace Go.V
open IntKind (wrap)
def wp.qaB (f : List D.Ins) (g : List D.Ins) (b : Int) (Q : Int → Prop) : Prop :=
 (∀ h, h = M.qfI b 0 2 → qa5 (!h) (Q (-1)) ((M.qcO f (wrap .i64 (b * 8)) 8 ∧ ∀ c, c = M.qdG f (wrap .i64 (b * 8)) 8 → (M.qcO g (wrap .i64 (b * 8)) 8 ∧ ∀ d, d = M.qdG g (wrap .i64 (b * 8)) 8 → qa5 (!c.2) (Q (-1)) (qa5 (!d.2) (Q (-1)) (qdg (σ := Int × Int × Unit) (fun (j : Int × Int × Unit) i => match j with | (e, a, _) => qa5 (decide (a < (c.1.length : Int))) (((0 ≤ a ∧ a < (c.1.length : Int)) ∧ ((0 ≤ a ∧ a < (d.1.length : Int)) ∧ qa5 ((rd c.1 a) != (rd d.1 a)) (((0 ≤ (wrap .i64 (Int.tdiv a 4))) ∧ i ((qfP .i64 e (wrap .i64 (1 * 2 ^ (min ((wrap .i64 (Int.tdiv a 4)).toNat) (IntKind.bits .i64))))), (wrap .i64 (a + 1)), ()))) (i (e, (wrap .i64 (a + 1)), ()))))) (Q e)) (0, 0, ())))))))
def wp.qaK (e : List D.Ins) (c : Int) (f : Int) (Q : ((List Int) × Bool) → Prop) : Prop :=
 (∀ g, g = M.qab f 1 24 → qa5 (!g) (Q (([] : List Int), false)) ((∀ h, h = M.qax c → qa5 (!h) (Q (([] : List Int), false)) (qdg (σ := (List Int) × Int × Unit) (fun (i : (List Int) × Int × Unit) j => match i with | (d, a, _) => qa5 (decide (a < f)) ((M.qcf e (wrap .i64 (c + a)) ∧ ∀ b, b = M.qb2 e (wrap .i64 (c + a)) → qa5 (!b.2) (Q (([] : List Int), false)) (((d.length + b.1.Regs.length ≤ 17179869184) ∧ j ((d ++ b.1.Regs), (wrap .i64 (a + 1)), ()))))) (Q (d, true))) (([] : List Int), 0, ())))))
def wp.qao (f : List D.Ins) (g : List D.Ins) (b : Int) (Q : Int → Prop) : Prop :=
 (∀ h, h = M.qaz b → qa5 (!h) (Q (-1)) ((M.qbQ f (wrap .i64 (b * 8)) 8 ∧ ∀ c, c = M.qaK f (wrap .i64 (b * 8)) 8 → (M.qbQ g (wrap .i64 (b * 8)) 8 ∧ ∀ d, d = M.qaK g (wrap .i64 (b * 8)) 8 → qa5 (!c.2) (Q (-1)) (qa5 (!d.2) (Q (-1)) (qdg (σ := Int × Int × Unit) (fun (j : Int × Int × Unit) i => match j with | (e, a, _) => qa5 (decide (a < (c.1.length : Int))) (((0 ≤ a ∧ a < (c.1.length : Int)) ∧ ((0 ≤ a ∧ a < (d.1.length : Int)) ∧ qa5 ((rd c.1 a) != (rd d.1 a)) (((0 ≤ (wrap .i64 (Int.tdiv a 4))) ∧ i ((qfP .i64 e (wrap .i64 (1 * 2 ^ (min ((wrap .i64 (Int.tdiv a 4)).toNat) (IntKind.bits .i64))))), (wrap .i64 (a + 1)), ()))) (i (e, (wrap .i64 (a + 1)), ()))))) (Q e)) (0, 0, ())))))))
end Go.V
namespace Go.V
open IntKind (wrap)
theorem qcV (p : List D.Ins) (f : Int) (k : Nat) : M.qbC p f (k + 1) = M.qbC p f k ++ (M.qb3 p (f + (k : Int))).1.Regs := by
 simp [M.qbC, List.range_succ]
theorem qdW (p : List D.Ins) (f : Int) : ∀ k, (M.qbC p f k).length ≤ 4 * k
 | 0 => by simp [M.qbC]
 | k + 1 => by
  rw [qcV, List.length_append]
  have := qdW p f k
  have := qdw p (f + (k : Int))
  omega
theorem qeM {p : List D.Ins} {t : Int} (h : (M.qb3 p t).2 = true) : (M.qb3 p t).1.Regs.length = 4 := by
 unfold M.qb3 at *
 by_cases e1 : (M.qaV p (M.qav t) 1000).2 < 0
 ·rw [if_pos e1] at h; cases h
 ·rw [if_neg e1] at *
  by_cases e2 : (M.qaV p (M.qav t) 1000).1.Pc < p.length
  ·rw [if_pos e2] at h; cases h
  ·rw [if_neg e2] at *
   exact (qd6 e1).2.2.2.2
theorem qdJ (p : List D.Ins) (f : Int) : ∀ k, M.qeJ p f k = true → (M.qbC p f k).length = 4 * k
 | 0, _ => by simp [M.qbC]
 | k + 1, h => by
  simp only [M.qeJ, List.range_succ, List.all_append, Bool.and_eq_true, List.all_cons, List.all_nil, Bool.and_true] at h
  rw [qcV, List.length_append, qdJ p f k h.1, qeM h.2]
  omega
theorem qdI {p : List D.Ins} {f : Int} (h : (M.qb8 p f 8).2 = true) : (M.qb8 p f 8).1.length = 32 := by
 unfold M.qb8 at *
 by_cases hc : (M.isIn 8 1 24 && (M.isIn f 0 23 && M.qeJ p f (8 : Int).toNat)) = true
 ·rw [if_pos hc] at *
  simp only [Bool.and_eq_true] at hc
  exact qdJ p f 8 hc.2.2
 ·rw [if_neg hc] at h; cases h
theorem qgc {p : List D.Ins} {f c : Int} (hc : M.isIn c 1 24 = true) (hf : M.isIn f 0 23 = true) {B : (List Int × Int × Unit) → ((List Int × Int × Unit) → Prop) → Prop} {Q : List Int × Bool → Prop} (hQ : Q (M.qb8 p f c))
    (hb : ∀ (k : Nat) (xs : List Int) (next : (List Int × Int × Unit) → Prop), (k : Int) < c → k < 24 → wrap .i64 (f + (k : Int)) = f + (k : Int) → xs.length ≤ 96 → ((M.qb3 p (f + (k : Int))).2 = false → Q ([], false)) →
     ((M.qb3 p (f + (k : Int))).2 = true → next (xs ++ (M.qb3 p (f + (k : Int))).1.Regs, ((k + 1 : Nat) : Int), ())) → B (xs, (k : Int), ()) next)
    (he : ∀ (xs : List Int) (next : (List Int × Int × Unit) → Prop), Q (xs, true) → B (xs, c, ()) next) : qdg B (([] : List Int), 0, ()) := by
 have h1 : 1 ≤ c ∧ c ≤ 24 := by simpa [M.isIn] using hc
 have h2 : 0 ≤ f ∧ f ≤ 23 := by simpa [M.isIn] using hf
 refine qdq c.toNat (fun k => (M.qbC p f k, (k : Int), ())) (fun k => M.qeJ p f k = true) rfl rfl (fun k hk hF next hn => ?_) fun hF next => ?_
 ·have hl := qdW p f k
  refine hb k _ next (by omega) (by omega) (w64 (by omega) (by omega)) (by omega) (fun e => ?_) fun e => ?_
  ·have : M.qb8 p f c = ([], false) := by
     have h0 : M.qeJ p f c.toNat = false := by
      simp only [M.qeJ]
      apply Bool.eq_false_iff.2
      intro hh
      rw [List.all_eq_true] at hh
      have := hh k (List.mem_range.2 hk)
      rw [e] at this; cases this
     simp [M.qb8, h0]
   rw [← this]; exact hQ
  ·rw [← qcV]
   refine hn ?_
   simp only [M.qeJ, List.range_succ, List.all_append, Bool.and_eq_true, List.all_cons, List.all_nil, Bool.and_true]
   exact ⟨hF, e⟩
 ·have e : ((c.toNat : Nat) : Int) = c := by omega
  show B (M.qbC p f c.toNat, ((c.toNat : Nat) : Int), ()) next
  rw [e]
  refine he _ next ?_
  have : M.qb8 p f c = (M.qbC p f c.toNat, true) := by simp [M.qb8, hc, hf, hF]
  rw [← this]; exact hQ
theorem wp.qaK.math (p : List D.Ins) (f c : Int) (h : M.qbQ p f c) : wp.qaK p f c (fun x => x = M.qaK p f c) := by
 intro r1 h1
 refine qa8 (fun e1 => ?_) fun e1 r2 h2 => qa8 (fun e2 => ?_) fun e2 => ?_
 ·have : M.isIn c 1 24 = false := nt e1 h1
  simp [M.qaK, M.qb8, this]
 ·have : M.isIn f 0 23 = false := nt e2 h2
  simp [M.qaK, M.qb8, this]
 ·refine qgc (nf e1 h1) (nf e2 h2) (Q := fun x => x = M.qb8 p f c) rfl (fun k xs next hk h24 hw hl q1 q2 => ?_) fun xs next hq => ?_
  ·refine qbn (by simpa using hk) ⟨h, fun r hr => ?_⟩
   rw [hw] at hr
   have hr' : r = M.qb3 p (f + (k : Int)) := hr
   have h4 := qdw p (f + (k : Int))
   refine qa8 (fun e => q1 (by rw [← hr']; simpa using e)) fun e => ⟨by rw [hr']; omega, ?_⟩
   rw [up64 h24 (by omega), hr']
   exact q2 (by rw [← hr']; simpa using e)
  ·exact qbI (by simp) hq
theorem qfW {a b : List Int} (ha : a.length = 32) (hb : b.length = 32) {B : (Int × Int × Unit) → ((Int × Int × Unit) → Prop) → Prop} {Q : Int → Prop} (hQ : Q (M.qcI a b 32))
    (hs : ∀ (k : Nat) (m : Int) (next : (Int × Int × Unit) → Prop), k < 32 → (rd a (k : Int) = rd b (k : Int) → next (m, ((k + 1 : Nat) : Int), ())) →
     (¬ rd a (k : Int) = rd b (k : Int) → next (qfP .i64 m (wrap .i64 (1 * 2 ^ (min ((wrap .i64 (Int.tdiv (k : Int) 4)).toNat) (IntKind.bits .i64)))), ((k + 1 : Nat) : Int), ())) → B (m, (k : Int), ()) next)
    (he : ∀ (m : Int) (next : (Int × Int × Unit) → Prop), Q m → B (m, 32, ()) next) : qdg B (0, 0, ()) := by
 refine qdq 32 (fun k => (M.qcI a b k, (k : Int), ())) (fun _ => True) rfl trivial (fun k hk _ next hn => ?_) fun _ next => he _ next hQ
 have hn := hn trivial
 simp only [M.qcI, List.range_succ, List.foldl_append, List.foldl_cons, List.foldl_nil] at hn
 refine hs k _ next hk (fun e => ?_) fun e => ?_
 ·rw [if_pos e] at hn; exact hn
 ·rw [if_neg e] at hn; exact hn
theorem div4 {k : Nat} (hk : k < 32) : 0 ≤ wrap .i64 (Int.tdiv (k : Int) 4) := by
 have h : Int.tdiv (k : Int) 4 = (k : Int) / 4 := Int.tdiv_eq_ediv_of_nonneg (by omega)
 rw [h, w64 (by omega) (by omega)]; omega
theorem wp.qaB.math (p q : List D.Ins) (w : Int) (h : M.qcN p q w) : wp.qaB p q w (fun x => x = M.qaB p q w) := by
 intro r1 h1
 refine qa8 (fun e1 => ?_) fun e1 => ⟨h.1, fun r2 h2 => ⟨h.2, fun r3 h3 => qa8 (fun e2 => ?_) fun e2 => qa8 (fun e3 => ?_) fun e3 => ?_⟩⟩
 ·have : M.isIn w 0 2 = false := nt e1 h1
  simp [M.qaB, M.qbN, this]
 all_goals
  have hw : M.isIn w 0 2 = true := nf e1 h1
  have hr : 0 ≤ w ∧ w ≤ 2 := by simpa [M.isIn] using hw
  rw [w64 (by omega) (by omega)] at h2 h3
  have h2' : r2 = M.qb8 p (w * 8) 8 := h2
  have h3' : r3 = M.qb8 q (w * 8) 8 := h3
  subst h2' h3'
 ·have e2 : (M.qb8 p (w * 8) 8).2 = false := by simpa using e2
  simp [M.qaB, M.qbN, e2]
 ·have e3 : (M.qb8 q (w * 8) 8).2 = false := by simpa using e3
  simp [M.qaB, M.qbN, e3]
 ·have e2 : (M.qb8 p (w * 8) 8).2 = true := by simpa using e2
  have e3 : (M.qb8 q (w * 8) 8).2 = true := by simpa using e3
  have l2 := qdI e2
  have l3 := qdI e3
  refine qfW l2 l3 (Q := fun x => x = M.qaB p q w) (by simp [M.qaB, M.qbN, hw, e2, e3]) (fun k m next hk q1 q2 => ?_) fun m next hq => ?_
  ·refine qbn (by simp [l2]; omega) ⟨by omega, by omega, qa8 (fun e => ⟨div4 hk, ?_⟩) fun e => ?_⟩
   ·rw [up64 hk (by omega)]; exact q2 (by simpa using e)
   ·rw [up64 hk (by omega)]; exact q1 (by simpa using e)
  ·exact qbI (by simp [l2]) hq
theorem wp.qao.math (p q : List D.Ins) (w : Int) (h : M.qbt p q w) : wp.qao p q w (fun x => x = M.qao p q w) := wp.qaB.math p q w h
end Go.V
namespace Go.V
open IntKind (wrap)
def wp.qaf (a : List Int) (Q : D.Cur → Prop) : Prop :=
 qdg (σ := Int × Int × Unit) (fun (d : Int × Int × Unit) e => match d with | (c, b, _) => qa5 (decide (b < (a.length : Int))) (qa5 (decide (b < 4000)) (((0 ≤ b ∧ b < (a.length : Int)) ∧ e ((qbU .i64 (wrap .i64 ((wrap .i64 ((wrap .i64 (c * 131)) + (wrap .i64 (rd a b)))) + 7)) 1073741823), (wrap .i64 (b + 1)), ()))) (Q (⟨a, 0, c⟩ : D.Cur))) (Q (⟨a, 0, c⟩ : D.Cur))) ((wrap .i64 (98561 + (a.length : Int))), 0, ())
def wp.qa4 (a : D.Cur) (Q : (Int × D.Cur) → Prop) : Prop :=
 qa5 (decide (a.i < (a.b.length : Int))) (((0 ≤ a.i ∧ a.i < (a.b.length : Int)) ∧ Q ((qbU .i64 (wrap .i64 ((qbU .i64 (qcZ .i64 (Int.fdiv (wrap .i64 ((wrap .i64 (a.h * 6364136223846793005)) + 1442695040888963407)) (2 ^ (min ((33 : Int).toNat) (IntKind.bits .i64)))) (Int.fdiv (wrap .i64 ((wrap .i64 (a.h * 6364136223846793005)) + 1442695040888963407)) (2 ^ (min ((45 : Int).toNat) (IntKind.bits .i64))))) 255) + (wrap .i64 (rd a.b a.i)))) 255), (⟨a.b, (wrap .i64 (a.i + 1)), (wrap .i64 ((wrap .i64 (a.h * 6364136223846793005)) + 1442695040888963407))⟩ : D.Cur)))) (Q ((qbU .i64 (qcZ .i64 (Int.fdiv (wrap .i64 ((wrap .i64 (a.h * 6364136223846793005)) + 1442695040888963407)) (2 ^ (min ((33 : Int).toNat) (IntKind.bits .i64)))) (Int.fdiv (wrap .i64 ((wrap .i64 (a.h * 6364136223846793005)) + 1442695040888963407)) (2 ^ (min ((45 : Int).toNat) (IntKind.bits .i64))))) 255), (⟨a.b, a.i, (wrap .i64 ((wrap .i64 (a.h * 6364136223846793005)) + 1442695040888963407))⟩ : D.Cur)))
def wp.qa0 (a : D.Cur) (c : Int) (Q : (Int × D.Cur) → Prop) : Prop :=
 qa5 (decide (c ≤ 0)) (Q (0, (⟨a.b, a.i, a.h⟩ : D.Cur))) (qa5 (decide (c ≤ 256)) ((M.qbf a ∧ ∀ g, g = M.qa4 a → (((c : Int) ≠ 0) ∧ Q ((Int.tmod g.1 c), (⟨a.b, g.2.i, g.2.h⟩ : D.Cur))))) ((M.qbf a ∧ ∀ d, d = M.qa4 a → (M.qbf (⟨a.b, d.2.i, d.2.h⟩ : D.Cur) ∧ ∀ e, e = M.qa4 (⟨a.b, d.2.i, d.2.h⟩ : D.Cur) → (M.qbf (⟨a.b, e.2.i, e.2.h⟩ : D.Cur) ∧ ∀ f, f = M.qa4 (⟨a.b, e.2.i, e.2.h⟩ : D.Cur) → (M.qbf (⟨a.b, f.2.i, f.2.h⟩ : D.Cur) ∧ ∀ j, j = M.qa4 (⟨a.b, f.2.i, f.2.h⟩ : D.Cur) → (((c : Int) ≠ 0) ∧ Q ((Int.tmod (wrap .i64 ((wrap .i64 ((wrap .i64 ((wrap .i64 (d.1 * 16777216)) + (wrap .i64 (e.1 * 65536)))) + (wrap .i64 (f.1 * 256)))) + j.1)) c), (⟨a.b, j.2.i, j.2.h⟩ : D.Cur)))))))))
def wp.qad (c : D.Cur) (Q : (D.Ins × D.Cur) → Prop) : Prop :=
 (M.qaj c 9 ∧ ∀ d, d = M.qa0 c 9 → (M.qaj (⟨c.b, d.2.i, d.2.h⟩ : D.Cur) 4 ∧ ∀ a, a = M.qa0 (⟨c.b, d.2.i, d.2.h⟩ : D.Cur) 4 → qa5 ((wrap .i64 (1 + d.1)) == 1) ((M.qaj (⟨c.b, a.2.i, a.2.h⟩ : D.Cur) 6 ∧ ∀ f, f = M.qa0 (⟨c.b, a.2.i, a.2.h⟩ : D.Cur) 6 → Q ((⟨(wrap .i64 (1 + d.1)), a.1, f.1, 0⟩ : D.Ins), (⟨c.b, f.2.i, f.2.h⟩ : D.Cur)))) (qa5 ((wrap .i64 (1 + d.1)) == 8) (Q ((⟨(wrap .i64 (1 + d.1)), a.1, 0, 0⟩ : D.Ins), (⟨c.b, a.2.i, a.2.h⟩ : D.Cur))) (qa5 ((wrap .i64 (1 + d.1)) == 2) ((M.qaj (⟨c.b, a.2.i, a.2.h⟩ : D.Cur) 4 ∧ ∀ g, g = M.qa0 (⟨c.b, a.2.i, a.2.h⟩ : D.Cur) 4 → Q ((⟨(wrap .i64 (1 + d.1)), a.1, g.1, 0⟩ : D.Ins), (⟨c.b, g.2.i, g.2.h⟩ : D.Cur)))) ((M.qaj (⟨c.b, a.2.i, a.2.h⟩ : D.Cur) 4 ∧ ∀ e, e = M.qa0 (⟨c.b, a.2.i, a.2.h⟩ : D.Cur) 4 → (M.qaj (⟨c.b, e.2.i, e.2.h⟩ : D.Cur) 4 ∧ ∀ j, j = M.qa0 (⟨c.b, e.2.i, e.2.h⟩ : D.Cur) 4 → Q ((⟨(wrap .i64 (1 + d.1)), a.1, e.1, j.1⟩ : D.Ins), (⟨c.b, j.2.i, j.2.h⟩ : D.Cur)))))))))
def wp.qal (b : List Int) (Q : (List Int) → Prop) : Prop :=
 (M.qbZ b ∧ ∀ c, c = M.qaf b → qdg (σ := (List Int) × Int × Int × Int × Unit) (fun (j : (List Int) × Int × Int × Int × Unit) k => match j with | (d, e, f, g, _) => qa5 (decide (e < 12)) ((M.qaj (⟨b, f, g⟩ : D.Cur) 10000 ∧ ∀ a, a = M.qa0 (⟨b, f, g⟩ : D.Cur) 10000 → ((d.length + ([a.1] : List Int).length ≤ 17179869184) ∧ k ((d ++ ([a.1] : List Int)), (wrap .i64 (e + 1)), a.2.i, a.2.h, ())))) (Q d)) (([] : List Int), 0, c.i, c.h, ()))
def wp.qbP (a : List Int) (Q : Bool → Prop) : Prop :=
 Q (decide ((a.length : Int) > 1048576))
end Go.V
namespace Go.V
open IntKind (wrap)
theorem qew (x : Int) : qbU .i64 x 255 = x % 256 := by
 unfold qbU
 have e1 : (BitVec.ofInt (IntKind.bits .i64) x &&& BitVec.ofInt (IntKind.bits .i64) 255).toNat = (x % 256).toNat := by
  show (BitVec.ofInt 64 x &&& BitVec.ofInt 64 255).toNat = _
  rw [BitVec.toNat_and, BitVec.toNat_ofInt, show (BitVec.ofInt 64 255).toNat = 2 ^ 8 - 1 from rfl, Nat.and_two_pow_sub_one_eq_mod]
  rw [show ((2 ^ 64 : Nat) : Int) = 18446744073709551616 from rfl]
  omega
 rw [e1, w64 (by omega) (by omega)]
 omega
theorem qdU (c : D.Cur) : 0 ≤ (M.qa4 c).1 ∧ (M.qa4 c).1 ≤ 255 := by
 unfold M.qa4
 split
 ·show 0 ≤ qbU .i64 _ 255 ∧ qbU .i64 _ 255 ≤ 255
  rw [qew]; omega
 ·show 0 ≤ M.curX _ ∧ M.curX _ ≤ 255
  unfold M.curX
  rw [qew]; omega
theorem qef (c : D.Cur) : (M.qa4 c).2.b = c.b := by unfold M.qa4; split <;> rfl
theorem qd2 {c : D.Cur} (h : M.qbH c) : M.qbH (M.qa4 c).2 := by
 obtain ⟨h1, h2⟩ := h
 refine ⟨?_, by rw [qef]; exact h2⟩
 unfold M.Long at h2
 unfold M.qa4
 split
 ·rename_i hlt
  show 0 ≤ wrap .i64 (c.i + 1)
  rw [w64 (by omega) (by omega)]; omega
 ·exact h1
theorem qbp (c : D.Cur) (n : Int) : (M.qa0 c n).2.b = c.b := by
 unfold M.qa0
 (repeat' split) <;> simp only [qef]
theorem qbc {c : D.Cur} (h : M.qbH c) (n : Int) : M.qbH (M.qa0 c n).2 := by
 unfold M.qa0
 split
 ·exact h
 split
 ·exact qd2 h
 ·exact qd2 (qd2 (qd2 (qd2 h)))
theorem qfi {x n : Int} (hx : 0 ≤ x) (hn : 0 < n) : 0 ≤ Int.tmod x n ∧ Int.tmod x n < n :=
 ⟨Int.tmod_nonneg _ hx, Int.tmod_lt_of_pos _ hn⟩
theorem qbY (c : D.Cur) {n : Int} (hn : 0 < n) : 0 ≤ (M.qa0 c n).1 ∧ (M.qa0 c n).1 < n := by
 unfold M.qa0
 rw [if_neg (by omega)]
 split
 ·exact qfi (qdU c).1 hn
 ·refine qfi ?_ hn
  have h1 := qdU c
  have h2 := qdU (M.qa4 c).2
  have h3 := qdU (M.qa4 (M.qa4 c).2).2
  have h4 := qdU (M.qa4 (M.qa4 (M.qa4 c).2).2).2
  rw [w64 (x := (M.qa4 c).1 * 16777216) (by omega) (by omega), w64 (x := (M.qa4 (M.qa4 c).2).1 * 65536) (by omega) (by omega),
   w64 (x := (M.qa4 (M.qa4 (M.qa4 c).2).2).1 * 256) (by omega) (by omega), w64 (x := _ + (M.qa4 (M.qa4 c).2).1 * 65536) (by omega) (by omega),
   w64 (x := _ + (M.qa4 (M.qa4 (M.qa4 c).2).2).1 * 256) (by omega) (by omega), w64 (by omega) (by omega)]
  omega
set_option maxRecDepth 20000 in
theorem wp.qaf.math (b : List Int) (h : M.qbZ b) : wp.qaf b (fun r => r = M.qaf b) := by
 unfold wp.qaf
 have hl : b.length ≤ 9223372036854775807 := h
 let h0 := wrap .i64 (98561 + (b.length : Int))
 refine qdq (min b.length 4000) (fun k => ((b.take k).foldl M.qfj h0, (k : Int), ())) (fun _ => True) rfl trivial (fun k hk _ next hn => ?_) fun _ next => ?_
 ·have hk1 : k < b.length := by omega
  have hn := hn trivial
  rw [List.take_add_one, List.getElem?_eq_getElem hk1, Option.toList_some, List.foldl_append] at hn
  refine qbn (by simp; omega) (qbn (by simp; omega) ⟨by omega, ?_⟩)
  rw [up64 hk1 hl, qbM hk1]
  exact hn
 ·have fin : (⟨b, 0, (b.take (min b.length 4000)).foldl M.qfj h0⟩ : D.Cur) = M.qaf b := by
    unfold M.qaf
    congr 2
    rcases Nat.le_total b.length 4000 with g | g
    ·rw [Nat.min_eq_left g, List.take_length, List.take_of_length_le g]
    ·rw [Nat.min_eq_right g]
  by_cases g : b.length ≤ 4000
  ·exact qbI (by simp; omega) fin
  ·exact qbn (by simp; omega) (qbI (by simp; omega) fin)
theorem wp.qa4.math (c : D.Cur) (h : M.qbf c) : wp.qa4 c (fun r => r = M.qa4 c) := by
 obtain ⟨h1, h2⟩ := h
 refine qa8 (fun e => ⟨⟨h1, by simpa using e⟩, ?_⟩) fun e => ?_
 ·have e : c.i < (c.b.length : Int) := by simpa using e
  unfold M.qa4
  rw [if_pos e]; rfl
 ·have e : ¬ c.i < (c.b.length : Int) := by simpa using e
  unfold M.qa4
  rw [if_neg e]; rfl
theorem qbj {c d : D.Cur} (h : d.b = c.b) : (⟨c.b, d.i, d.h⟩ : D.Cur) = d := by rw [← h]
theorem wp.qa0.math (c : D.Cur) (n : Int) (h : M.qaj c n) : wp.qa0 c n (fun r => r = M.qa0 c n) := by
 refine qa8 (fun e => ?_) fun e => qa8 (fun e2 => ⟨h, fun r hr => ⟨?_, ?_⟩⟩) fun e2 => ?_
 ·have e : n ≤ 0 := by simpa using e
  unfold M.qa0; rw [if_pos e]
 ·simp at e; omega
 ·have e : ¬ n ≤ 0 := by simpa using e
  have e2 : n ≤ 256 := by simpa using e2
  unfold M.qa0; rw [if_neg e, if_pos e2, hr, qbj (qef c)]
 ·have e : ¬ n ≤ 0 := by simpa using e
  have e2 : ¬ n ≤ 256 := by simpa using e2
  have h1 := qd2 h
  have h2 := qd2 h1
  have h3 := qd2 h2
  have b1 := qef c
  have b2 : (M.qa4 (M.qa4 c).2).2.b = c.b := (qef _).trans b1
  have b3 : (M.qa4 (M.qa4 (M.qa4 c).2).2).2.b = c.b := (qef _).trans b2
  have b4 : (M.qa4 (M.qa4 (M.qa4 (M.qa4 c).2).2).2).2.b = c.b := (qef _).trans b3
  refine ⟨h, fun r1 g1 => ?_⟩
  subst g1
  rw [qbj b1]
  refine ⟨h1, fun r2 g2 => ?_⟩
  subst g2
  rw [qbj b2]
  refine ⟨h2, fun r3 g3 => ?_⟩
  subst g3
  rw [qbj b3]
  refine ⟨h3, fun r4 g4 => ⟨by omega, ?_⟩⟩
  subst g4
  rw [qbj b4]
  unfold M.qa0; rw [if_neg e, if_neg e2]
theorem wp.qad.math (c : D.Cur) (h : M.qc9 c) : wp.qad c (fun r => r = M.qad c) := by
 refine ⟨h, fun r1 g1 => ?_⟩
 subst g1
 rw [qbj (qbp c 9)]
 refine ⟨qbc h 9, fun r2 g2 => ?_⟩
 subst g2
 have b2 : (M.qa0 (M.qa0 c 9).2 4).2.b = c.b := (qbp _ _).trans (qbp _ _)
 have h2 := qbc (qbc h 9) 4
 rw [qbj b2]
 have cut : ∀ (n : Int), (⟨c.b, (M.qa0 (M.qa0 (M.qa0 c 9).2 4).2 n).2.i, (M.qa0 (M.qa0 (M.qa0 c 9).2 4).2 n).2.h⟩ : D.Cur) = (M.qa0 (M.qa0 (M.qa0 c 9).2 4).2 n).2 := fun n => qbj ((qbp _ _).trans b2)
 refine qa8 (fun e => ⟨h2, fun r3 g3 => ?_⟩) fun e1 => qa8 (fun e => ?_) fun e8 => qa8 (fun e => ⟨h2, fun r3 g3 => ?_⟩) fun e2 => ⟨h2, fun r3 g3 => ?_⟩
 ·subst g3
  rw [cut]
  have e : wrap .i64 (1 + (M.qa0 c 9).1) = 1 := by simpa using e
  simp only [M.qad]; rw [if_pos e]
 ·have e1 : ¬ wrap .i64 (1 + (M.qa0 c 9).1) = 1 := by simpa using e1
  have e : wrap .i64 (1 + (M.qa0 c 9).1) = 8 := by simpa using e
  simp only [M.qad]; rw [if_neg e1, if_pos e]
 ·subst g3
  rw [cut]
  have e1 : ¬ wrap .i64 (1 + (M.qa0 c 9).1) = 1 := by simpa using e1
  have e8 : ¬ wrap .i64 (1 + (M.qa0 c 9).1) = 8 := by simpa using e8
  have e : wrap .i64 (1 + (M.qa0 c 9).1) = 2 := by simpa using e
  simp only [M.qad]; rw [if_neg e1, if_neg e8, if_pos e]
 ·subst g3
  rw [cut]
  refine ⟨qbc h2 4, fun r4 g4 => ?_⟩
  subst g4
  rw [qbj ((qbp _ _).trans ((qbp _ _).trans b2))]
  have e1 : ¬ wrap .i64 (1 + (M.qa0 c 9).1) = 1 := by simpa using e1
  have e8 : ¬ wrap .i64 (1 + (M.qa0 c 9).1) = 8 := by simpa using e8
  have e2 : ¬ wrap .i64 (1 + (M.qa0 c 9).1) = 2 := by simpa using e2
  simp only [M.qad]; rw [if_neg e1, if_neg e8, if_neg e2]
theorem wp.qbP.math (b : List Int) : wp.qbP b (fun r => r = M.qbP b) := rfl
theorem qgA (c : D.Cur) : (M.qad c).2.b = c.b := by
 simp only [M.qad]
 (repeat' split) <;> simp only [qbp]
theorem qgd {c : D.Cur} (h : M.qbH c) : M.qbH (M.qad c).2 := by
 simp only [M.qad]
 have h2 := qbc (qbc h 9) 4
 (repeat' split)
 ·exact qbc h2 _
 ·exact h2
 ·exact qbc h2 _
 ·exact qbc (qbc h2 _) _
theorem qfx : ∀ (k : Nat) (c : D.Cur), (M.qby k c).2.b = c.b
 | 0, c => rfl
 | k + 1, c => by simp only [M.qby]; rw [qbp, qfx k c]
theorem qf2 : ∀ (k : Nat) {c : D.Cur}, M.qbH c → M.qbH (M.qby k c).2
 | 0, c, h => h
 | k + 1, c, h => qbc (qf2 k h) _
theorem qd5 : ∀ (k : Nat) (c : D.Cur), (M.qby k c).1.length = k
 | 0, c => rfl
 | k + 1, c => by simp only [M.qby, List.length_append, qd5 k c]; rfl
theorem qfz {b : List Int} (h : M.Long b) : M.qbH (M.qaf b) := ⟨by simp [M.qaf], h⟩
theorem wp.qal.math (b : List Int) (h : M.qbR b) : wp.qal b (fun r => r = M.qal b) := by
 refine ⟨h, fun r0 g0 => ?_⟩
 subst g0
 refine qdq 12 (fun k => ((M.qby k (M.qaf b)).1, (k : Int), (M.qby k (M.qaf b)).2.i, (M.qby k (M.qaf b)).2.h, ())) (fun _ => True) rfl trivial (fun k hk _ next hn => ?_) fun _ next => ?_
 ·have hn := hn trivial
  refine qbn (by simp; omega) ?_
  have e : (⟨b, (M.qby k (M.qaf b)).2.i, (M.qby k (M.qaf b)).2.h⟩ : D.Cur) = (M.qby k (M.qaf b)).2 := qbj (c := M.qaf b) (qfx k _)
  rw [e]
  refine ⟨qf2 k (qfz h), fun r hr => ⟨by rw [qd5]; simp; omega, ?_⟩⟩
  subst hr
  rw [up64 hk (by omega)]
  exact hn
 ·exact qbI (by simp) rfl
theorem qgp (p : List D.Ins) (k : Nat) (l : D.Lane) (n : Int) (h : ¬ l.Pc < p.length) : M.runN p k l n = (l, n) := by
 cases k with
 | zero => rfl
 | succ k => rw [M.runN, if_neg h]
theorem qdu (c : D.Cur) : M.qcT (M.qa0 c 4).1 = true := by
 have := qbY c (n := 4) (by omega)
 rw [qcB]; omega
theorem qfG (c : D.Cur) {n : Int} (hn : 0 ≤ n ∧ n ≤ 32) : M.qb9 (M.qad c).1 n = true ∧ M.qbq (M.qad c).1 = true := by
 have h9 := qbY c (n := 9) (by omega)
 have hw : wrap .i64 (1 + (M.qa0 c 9).1) = 1 + (M.qa0 c 9).1 := w64 (by omega) (by omega)
 have hin : M.isIn n 0 32 = true := by simp [M.isIn]; omega
 have h6 := fun d : D.Cur => qbY d (n := 6) (by omega)
 have hw6 : ∀ d : D.Cur, M.isWord (M.qa0 d 6).1 = true := fun d => by rw [qc7]; have := h6 d; omega
 simp only [M.qad, hw]
 generalize (M.qa0 c 9).1 = o at *
 split
 ·rename_i e
  refine ⟨?_, by simp [M.qbq, M.isIn]; omega⟩
  simp only [M.qb9, hin, Bool.true_and]
  rw [if_neg (by omega), if_pos (by omega)]
  simp [qdu, hw6]
 split
 ·rename_i e
  refine ⟨?_, by simp [M.qbq, M.isIn]; omega⟩
  simp only [M.qb9, hin, Bool.true_and]
  rw [if_neg (by omega), if_neg (by omega), if_neg (by omega), if_pos (by omega)]
  simp [qdu]
 split
 ·rename_i e
  refine ⟨?_, by simp [M.qbq, M.isIn]; omega⟩
  simp only [M.qb9, hin, Bool.true_and]
  rw [if_neg (by omega), if_neg (by omega), if_pos (by omega)]
  simp [qdu]
 ·refine ⟨?_, by simp [M.qbq, M.isIn]; omega⟩
  simp only [M.qb9, hin, Bool.true_and]
  rw [if_neg (by omega), if_neg (by omega), if_neg (by omega), if_neg (by omega), if_neg (by omega), if_neg (by omega)]
  have : M.isIn (1 + o) 3 9 = true := by simp [M.isIn]; omega
  simp [qdu, this]
theorem qdX : ∀ (k : Nat) (c : D.Cur), ∀ x ∈ (M.qby k c).1, 0 ≤ x ∧ x < 10000
 | 0, c, x, hx => by simp [M.qby] at hx
 | k + 1, c, x, hx => by
  simp only [M.qby, List.mem_append, List.mem_singleton] at hx
  rcases hx with hx | rfl
  ·exact qdX k c x hx
  ·exact qbY _ (by omega)
theorem qfD (a b : Int) : M.isWord (M.qeI a b) = true := by unfold M.qeI; split <;> rfl
theorem qdi (c : Bool) (x : Int) : M.isWord (if c then x % 65536 else 0) = true := by split; exact qfL x; rfl
theorem qg1 (a b : Int) : M.isWord (M.addW a b) = true := qdi _ _
theorem qfU (a b : Int) : M.isWord (M.subW a b) = true := qdi _ _
theorem qg3 (a b : Int) : M.isWord (M.mulW a b) = true := qdi _ _
theorem qfR {a b : Int} (ha : M.isWord a = true) (hb : M.isWord b = true) : M.isWord (qcZ .i64 a b) = true := by
 rw [qc7] at *
 unfold qcZ
 have e1 : (BitVec.ofInt (IntKind.bits .i64) a ^^^ BitVec.ofInt (IntKind.bits .i64) b).toNat = a.toNat ^^^ b.toNat := by
  show (BitVec.ofInt 64 a ^^^ BitVec.ofInt 64 b).toNat = _
  rw [BitVec.toNat_xor, BitVec.toNat_ofInt, BitVec.toNat_ofInt, show ((2 ^ 64 : Nat) : Int) = 18446744073709551616 from rfl]
  congr 1 <;> omega
 have e2 : a.toNat ^^^ b.toNat < 2 ^ 16 := Nat.xor_lt_two_pow (by omega) (by omega)
 rw [e1, w64 (by omega) (by omega)]
 omega
theorem qbT {r : List Int} (h : r.all M.isWord = true) (k : Nat) {x : Int} (hx : M.isWord x = true) : (r.set k x).all M.isWord = true := by
 rw [List.all_eq_true] at *
 intro y hy
 rcases List.mem_or_eq_of_mem_set hy with h' | rfl
 ·exact h y h'
 ·exact hx
theorem qfh {i : D.Ins} {n : Int} {t : Int} {r : List Int} (hok : M.qb9 i n = true) (ht : 0 ≤ t ∧ t ≤ 23) (hl : r.length = 4) (h : r.all M.isWord = true) : (M.apply i t r).all M.isWord = true := by
 obtain ⟨_, hA, hB, hC⟩ := qe1 (i := i) (r := r) ⟨hl, n, hok⟩
 have hw := List.all_eq_true.1 h
 have rdw : ∀ x, 0 ≤ x ∧ x ≤ 3 → M.isWord (rd r x) = true := fun x hx => hw _ (qex hx.1 (by omega))
 unfold M.apply
 split
 ·rename_i e
  refine qbT h _ ?_
  simp only [M.qb9, Bool.and_eq_true] at hok
  have hok := hok.2
  rw [if_neg (by omega), if_pos e] at hok
  simp only [Bool.and_eq_true] at hok
  exact hok.2.1
 split
 ·exact qbT h _ (rdw _ (hB (by omega)))
 split
 ·exact qbT h _ (qg1 _ _)
 split
 ·exact qbT h _ (qfU _ _)
 split
 ·exact qbT h _ (qg3 _ _)
 split
 ·exact qbT h _ (qfR (rdw _ (hB (by omega))) (rdw _ (hC (by omega))))
 split
 ·exact qbT h _ (qfD _ _)
 split
 ·exact qbT h _ (qc7.2 (by omega))
 split
 ·split
  ·exact qbT h _ (rdw _ (hB (by omega)))
  ·exact h
 ·exact h
theorem qcJ {p : List D.Ins} {l : D.Lane} (h : M.qbA p l = true) (hlt : l.Pc < p.length) : M.qbA p (M.step p l) = true := by
 obtain ⟨hp, hI⟩ := qd9 h
 have hI' := qey hp hI hlt
 have hins := qfX hp hI hlt
 simp only [M.qbA, M.qd0, M.qcL, M.isIn, Bool.and_eq_true, decide_eq_true_eq, beq_iff_eq] at h ⊢
 have hok : M.qb9 (rd p l.Pc) p.length = true := by
  simp only [M.qar, Bool.and_eq_true, decide_eq_true_eq, List.all_eq_true] at hp
  exact hp.2 _ (qex hI.1 hlt)
 exact ⟨hp, h.2.1, ⟨hI'.1, hI'.2.1⟩, hI'.2.2, qfh hok h.2.1 h.2.2.2.1 h.2.2.2.2⟩
end Go.V
namespace Go.V
open IntKind (wrap)
def wp.qa9 (a : List D.Ins) (Q : (List D.Ins) → Prop) : Prop :=
 (∀ b : Bool, (b = true → a = []) → qa5 b (Q ([] : List D.Ins)) (((([] : List D.Ins).length + a.length ≤ 17179869184) ∧ Q (([] : List D.Ins) ++ a))))
end Go.V
namespace Go.V
open IntKind (wrap)
theorem wp.qa9.math (l : List D.Ins) (h : M.qb4 l) : wp.qa9 l (fun r => r = M.qa9 l) := by
 intro b hb
 refine qa8 (fun e => ?_) fun e => ⟨by simp only [List.length_nil, Nat.zero_add]; exact h, ?_⟩
 ·rw [hb e]; rfl
 ·simp [M.qa9]
theorem qeN {σ : Type} {A : (σ → Prop) → Prop} {B : σ → Prop} (v : σ) (h : B v) (hA : ∀ J : σ → Prop, J v → A J) : qfn A B := hA B h
theorem qgT {α : Type} [Inhabited α] {l m : List α} {y : α} {k : Nat} (h : l.length = k) : rd (l ++ y :: m) (k : Int) = y := by
 subst h
 rw [qbM (by simp)]; simp
end Go.V
namespace Go.V
open IntKind (wrap)
theorem qgR {p : List D.Ins} (hp : M.qar p = true) {k : Int} (h0 : 0 ≤ k) (h1 : k < (p.length : Int)) : M.qb9 (rd p k) p.length = true := by
 simp only [M.qar, Bool.and_eq_true, decide_eq_true_eq, List.all_eq_true] at hp
 exact hp.2 _ (qex h0 h1)
theorem qeW {i : D.Ins} {n : Int} (h : M.qb9 i n = true) (e : i.Op = 10 ∨ i.Op = 11) : 0 ≤ i.B ∧ i.B ≤ n := by
 simp only [M.qb9, Bool.and_eq_true] at h
 have h := h.2
 rcases e with e | e
 ·rw [if_neg (by omega), if_neg (by omega), if_neg (by omega), if_neg (by omega), if_pos e] at h
  simp only [Bool.and_eq_true, M.isIn, decide_eq_true_eq] at h
  exact h.2.1
 ·rw [if_neg (by omega), if_neg (by omega), if_neg (by omega), if_neg (by omega), if_neg (by omega), if_pos e] at h
  simp only [Bool.and_eq_true, M.isIn, decide_eq_true_eq] at h
  exact h.2.1
theorem qep {a b x : Int} : x ∈ M.qeT a b ↔ x = a ∨ x = b := by
 unfold M.qeT
 split
 ·simp [or_comm]
 split
 ·rename_i h1 h2; subst h2; simp
 ·simp
theorem qfM (a b : Int) : (M.qeT a b).length ≤ 2 := by
 unfold M.qeT
 (repeat' split) <;> simp
theorem qgy {p : List D.Ins} {k : Int} (h : M.Node p k) : (∀ x ∈ M.qfb p k, M.qgt p x) ∧ (M.qfb p k).length ≤ 2 := by
 obtain ⟨hp, h0, h1⟩ := h
 unfold M.qfb
 split
 ·exact ⟨fun x hx => absurd hx List.not_mem_nil, by simp⟩
 rename_i hne
 have hlt : k < (p.length : Int) := by omega
 have hi := qgR hp h0 hlt
 split
 ·exact ⟨fun x hx => by obtain rfl := List.mem_singleton.1 hx; exact ⟨by omega, by omega⟩, by simp⟩
 split
 ·rename_i e
  exact ⟨fun x hx => by obtain rfl := List.mem_singleton.1 hx; exact qeW hi (.inr e), by simp⟩
 split
 ·rename_i e
  refine ⟨fun x hx => ?_, qfM _ _⟩
  rcases qep.1 hx with rfl | rfl
  ·exact ⟨by omega, by omega⟩
  ·exact qeW hi (.inl e)
 ·exact ⟨fun x hx => by obtain rfl := List.mem_singleton.1 hx; exact ⟨by omega, by omega⟩, by simp⟩
end Go.V
namespace Go.V
open IntKind (wrap)
theorem qd7 {p : List D.Ins} (h : M.qaS p = true) : M.qar p = true := by
 simp only [M.qaS, Bool.and_eq_true] at h; exact h.1
end Go.V
namespace Go.V
open IntKind (wrap)
def wp.qaR (a : Int) (Q : Bool → Prop) : Prop :=
 qa5 (a == 10) (Q true) (Q (a == 11))
end Go.V
namespace Go.V
open IntKind (wrap)
theorem wp.qaR.math (o : Int) : wp.qaR o (fun r => r = M.qaR o) := by
 unfold wp.qaR M.qaR M.qdr
 refine qa8 (fun e => ?_) fun e => ?_
 ·rw [e, Bool.true_or]
 ·rw [e, Bool.false_or]
end Go.V
namespace Go.V
open IntKind (wrap)
def wp.qaI (c : D.Cur) (d : Int) (Q : (Bool × D.Cur) → Prop) : Prop :=
 (M.qaj c d ∧ ∀ a, a = M.qa0 c d → Q ((a.1 == 0), (⟨c.b, a.2.i, a.2.h⟩ : D.Cur)))
def wp.qae (e : D.Cur) (r : List D.Ins) (m : Int) (Q : ((List D.Ins) × D.Cur) → Prop) : Prop :=
 (M.qaj e 4 ∧ ∀ o, o = M.qa0 e 4 → qdg (σ := (List D.Ins) × Int × Int × Int × Unit) (fun (s : (List D.Ins) × Int × Int × Int × Unit) l => match s with | (a, g, p, q, _) => qa5 (decide (g > 0)) (qa5 (decide ((a.length : Int) < 20)) ((M.qaj (⟨e.b, p, q⟩ : D.Cur) 5 ∧ ∀ d, d = M.qa0 (⟨e.b, p, q⟩ : D.Cur) 5 → qa5 (d.1 == 0) (qa5 (m == 0) (l (a, (wrap .i64 (g - 1)), d.2.i, d.2.h, ())) ((M.qaj (⟨e.b, d.2.i, d.2.h⟩ : D.Cur) 4 ∧ ∀ j, j = M.qa0 (⟨e.b, d.2.i, d.2.h⟩ : D.Cur) 4 → ((a.length + ([(⟨10, j.1, 0, 0⟩ : D.Ins)] : List D.Ins).length ≤ 17179869184) ∧ (M.qbg (⟨e.b, j.2.i, j.2.h⟩ : D.Cur) (a ++ ([(⟨10, j.1, 0, 0⟩ : D.Ins)] : List D.Ins)) (wrap .i64 (m - 1)) ∧ ∀ c, c = M.qae (⟨e.b, j.2.i, j.2.h⟩ : D.Cur) (a ++ ([(⟨10, j.1, 0, 0⟩ : D.Ins)] : List D.Ins)) (wrap .i64 (m - 1)) → (M.qbu (⟨e.b, c.2.i, c.2.h⟩ : D.Cur) 2 ∧ ∀ k, k = M.qaI (⟨e.b, c.2.i, c.2.h⟩ : D.Cur) 2 → qa5 k.1 (((0 ≤ (a.length : Int) ∧ (a.length : Int) < (c.1.length : Int)) ∧ l ((List.set c.1 ((a.length : Int).toNat) (⟨(rd c.1 (a.length : Int)).Op, (rd c.1 (a.length : Int)).A, (c.1.length : Int), (rd c.1 (a.length : Int)).C⟩ : D.Ins)), (wrap .i64 (g - 1)), k.2.i, k.2.h, ()))) (((c.1.length + ([(⟨11, 0, 0, 0⟩ : D.Ins)] : List D.Ins).length ≤ 17179869184) ∧ ((0 ≤ (a.length : Int) ∧ (a.length : Int) < ((c.1 ++ ([(⟨11, 0, 0, 0⟩ : D.Ins)] : List D.Ins)).length : Int)) ∧ (M.qbg (⟨e.b, k.2.i, k.2.h⟩ : D.Cur) (List.set (c.1 ++ ([(⟨11, 0, 0, 0⟩ : D.Ins)] : List D.Ins)) ((a.length : Int).toNat) (⟨(rd (c.1 ++ ([(⟨11, 0, 0, 0⟩ : D.Ins)] : List D.Ins)) (a.length : Int)).Op, (rd (c.1 ++ ([(⟨11, 0, 0, 0⟩ : D.Ins)] : List D.Ins)) (a.length : Int)).A, (((c.1 ++ ([(⟨11, 0, 0, 0⟩ : D.Ins)] : List D.Ins))).length : Int), (rd (c.1 ++ ([(⟨11, 0, 0, 0⟩ : D.Ins)] : List D.Ins)) (a.length : Int)).C⟩ : D.Ins)) (wrap .i64 (m - 1)) ∧ ∀ f, f = M.qae (⟨e.b, k.2.i, k.2.h⟩ : D.Cur) (List.set (c.1 ++ ([(⟨11, 0, 0, 0⟩ : D.Ins)] : List D.Ins)) ((a.length : Int).toNat) (⟨(rd (c.1 ++ ([(⟨11, 0, 0, 0⟩ : D.Ins)] : List D.Ins)) (a.length : Int)).Op, (rd (c.1 ++ ([(⟨11, 0, 0, 0⟩ : D.Ins)] : List D.Ins)) (a.length : Int)).A, (((c.1 ++ ([(⟨11, 0, 0, 0⟩ : D.Ins)] : List D.Ins))).length : Int), (rd (c.1 ++ ([(⟨11, 0, 0, 0⟩ : D.Ins)] : List D.Ins)) (a.length : Int)).C⟩ : D.Ins)) (wrap .i64 (m - 1)) → ((0 ≤ (c.1.length : Int) ∧ (c.1.length : Int) < (f.1.length : Int)) ∧ l ((List.set f.1 ((c.1.length : Int).toNat) (⟨(rd f.1 (c.1.length : Int)).Op, (rd f.1 (c.1.length : Int)).A, (f.1.length : Int), (rd f.1 (c.1.length : Int)).C⟩ : D.Ins)), (wrap .i64 (g - 1)), f.2.i, f.2.h, ())))))))))))) (qa5 (d.1 == 1) (qa5 (m == 0) (l (a, (wrap .i64 (g - 1)), d.2.i, d.2.h, ())) (qa5 (decide ((a.length : Int) > 14)) (l (a, (wrap .i64 (g - 1)), d.2.i, d.2.h, ())) (((a.length + ([(⟨8, 3, 0, 0⟩ : D.Ins)] : List D.Ins).length ≤ 17179869184) ∧ (((a ++ ([(⟨8, 3, 0, 0⟩ : D.Ins)] : List D.Ins)).length + ([(⟨10, 3, 0, 0⟩ : D.Ins)] : List D.Ins).length ≤ 17179869184) ∧ ((((a ++ ([(⟨8, 3, 0, 0⟩ : D.Ins)] : List D.Ins)) ++ ([(⟨10, 3, 0, 0⟩ : D.Ins)] : List D.Ins)).length + ([(⟨3, 0, 0, 1⟩ : D.Ins), (⟨1, 2, 1, 0⟩ : D.Ins), (⟨4, 3, 3, 2⟩ : D.Ins)] : List D.Ins).length ≤ 17179869184) ∧ (((((a ++ ([(⟨8, 3, 0, 0⟩ : D.Ins)] : List D.Ins)) ++ ([(⟨10, 3, 0, 0⟩ : D.Ins)] : List D.Ins)) ++ ([(⟨3, 0, 0, 1⟩ : D.Ins), (⟨1, 2, 1, 0⟩ : D.Ins), (⟨4, 3, 3, 2⟩ : D.Ins)] : List D.Ins)).length + ([(⟨11, 0, (((a ++ ([(⟨8, 3, 0, 0⟩ : D.Ins)] : List D.Ins))).length : Int), 0⟩ : D.Ins)] : List D.Ins).length ≤ 17179869184) ∧ ((0 ≤ (((a ++ ([(⟨8, 3, 0, 0⟩ : D.Ins)] : List D.Ins))).length : Int) ∧ (((a ++ ([(⟨8, 3, 0, 0⟩ : D.Ins)] : List D.Ins))).length : Int) < (((((a ++ ([(⟨8, 3, 0, 0⟩ : D.Ins)] : List D.Ins)) ++ ([(⟨10, 3, 0, 0⟩ : D.Ins)] : List D.Ins)) ++ ([(⟨3, 0, 0, 1⟩ : D.Ins), (⟨1, 2, 1, 0⟩ : D.Ins), (⟨4, 3, 3, 2⟩ : D.Ins)] : List D.Ins)) ++ ([(⟨11, 0, (((a ++ ([(⟨8, 3, 0, 0⟩ : D.Ins)] : List D.Ins))).length : Int), 0⟩ : D.Ins)] : List D.Ins)).length : Int)) ∧ l ((List.set ((((a ++ ([(⟨8, 3, 0, 0⟩ : D.Ins)] : List D.Ins)) ++ ([(⟨10, 3, 0, 0⟩ : D.Ins)] : List D.Ins)) ++ ([(⟨3, 0, 0, 1⟩ : D.Ins), (⟨1, 2, 1, 0⟩ : D.Ins), (⟨4, 3, 3, 2⟩ : D.Ins)] : List D.Ins)) ++ ([(⟨11, 0, (((a ++ ([(⟨8, 3, 0, 0⟩ : D.Ins)] : List D.Ins))).length : Int), 0⟩ : D.Ins)] : List D.Ins)) ((((a ++ ([(⟨8, 3, 0, 0⟩ : D.Ins)] : List D.Ins))).length : Int).toNat) (⟨(rd ((((a ++ ([(⟨8, 3, 0, 0⟩ : D.Ins)] : List D.Ins)) ++ ([(⟨10, 3, 0, 0⟩ : D.Ins)] : List D.Ins)) ++ ([(⟨3, 0, 0, 1⟩ : D.Ins), (⟨1, 2, 1, 0⟩ : D.Ins), (⟨4, 3, 3, 2⟩ : D.Ins)] : List D.Ins)) ++ ([(⟨11, 0, (((a ++ ([(⟨8, 3, 0, 0⟩ : D.Ins)] : List D.Ins))).length : Int), 0⟩ : D.Ins)] : List D.Ins)) (((a ++ ([(⟨8, 3, 0, 0⟩ : D.Ins)] : List D.Ins))).length : Int)).Op, (rd ((((a ++ ([(⟨8, 3, 0, 0⟩ : D.Ins)] : List D.Ins)) ++ ([(⟨10, 3, 0, 0⟩ : D.Ins)] : List D.Ins)) ++ ([(⟨3, 0, 0, 1⟩ : D.Ins), (⟨1, 2, 1, 0⟩ : D.Ins), (⟨4, 3, 3, 2⟩ : D.Ins)] : List D.Ins)) ++ ([(⟨11, 0, (((a ++ ([(⟨8, 3, 0, 0⟩ : D.Ins)] : List D.Ins))).length : Int), 0⟩ : D.Ins)] : List D.Ins)) (((a ++ ([(⟨8, 3, 0, 0⟩ : D.Ins)] : List D.Ins))).length : Int)).A, ((((((a ++ ([(⟨8, 3, 0, 0⟩ : D.Ins)] : List D.Ins)) ++ ([(⟨10, 3, 0, 0⟩ : D.Ins)] : List D.Ins)) ++ ([(⟨3, 0, 0, 1⟩ : D.Ins), (⟨1, 2, 1, 0⟩ : D.Ins), (⟨4, 3, 3, 2⟩ : D.Ins)] : List D.Ins)) ++ ([(⟨11, 0, (((a ++ ([(⟨8, 3, 0, 0⟩ : D.Ins)] : List D.Ins))).length : Int), 0⟩ : D.Ins)] : List D.Ins))).length : Int), (rd ((((a ++ ([(⟨8, 3, 0, 0⟩ : D.Ins)] : List D.Ins)) ++ ([(⟨10, 3, 0, 0⟩ : D.Ins)] : List D.Ins)) ++ ([(⟨3, 0, 0, 1⟩ : D.Ins), (⟨1, 2, 1, 0⟩ : D.Ins), (⟨4, 3, 3, 2⟩ : D.Ins)] : List D.Ins)) ++ ([(⟨11, 0, (((a ++ ([(⟨8, 3, 0, 0⟩ : D.Ins)] : List D.Ins))).length : Int), 0⟩ : D.Ins)] : List D.Ins)) (((a ++ ([(⟨8, 3, 0, 0⟩ : D.Ins)] : List D.Ins))).length : Int)).C⟩ : D.Ins)), (wrap .i64 (g - 1)), d.2.i, d.2.h, ()))))))))) ((M.qc9 (⟨e.b, d.2.i, d.2.h⟩ : D.Cur) ∧ ∀ n, n = M.qad (⟨e.b, d.2.i, d.2.h⟩ : D.Cur) → ((a.length + ([n.1] : List D.Ins).length ≤ 17179869184) ∧ l ((a ++ ([n.1] : List D.Ins)), (wrap .i64 (g - 1)), n.2.i, n.2.h, ()))))))) (Q (a, (⟨e.b, p, q⟩ : D.Cur)))) (Q (a, (⟨e.b, p, q⟩ : D.Cur)))) (r, o.1, o.2.i, o.2.h, ()))
def wp.qaa (a : D.Cur) (Q : ((List D.Ins) × D.Cur) → Prop) : Prop :=
 qfn (σ := (List D.Ins) × Int × Int × Unit) (fun l => (M.qbu a 4 ∧ ∀ d, d = M.qaI a 4 → qa5 (!d.1) ((M.qaj (⟨a.b, d.2.i, d.2.h⟩ : D.Cur) 2 ∧ ∀ g, g = M.qa0 (⟨a.b, d.2.i, d.2.h⟩ : D.Cur) 2 → ((([] : List D.Ins).length + ([(⟨8, g.1, 0, 0⟩ : D.Ins)] : List D.Ins).length ≤ 17179869184) ∧ l ((([] : List D.Ins) ++ ([(⟨8, g.1, 0, 0⟩ : D.Ins)] : List D.Ins)), g.2.i, g.2.h, ())))) (l (([] : List D.Ins), d.2.i, d.2.h, ())))) (fun (q : (List D.Ins) × Int × Int × Unit) => match q with | (m, n, o, _) => (M.qbg (⟨a.b, n, o⟩ : D.Cur) m 2 ∧ ∀ c, c = M.qae (⟨a.b, n, o⟩ : D.Cur) m 2 → qfn (σ := Bool × Int × Int × Unit) (fun p => (M.qbu (⟨a.b, c.2.i, c.2.h⟩ : D.Cur) 6 ∧ ∀ e, e = M.qaI (⟨a.b, c.2.i, c.2.h⟩ : D.Cur) 6 → qa5 e.1 (p ((decide ((c.1.length : Int) > 1)), e.2.i, e.2.h, ())) (p (false, e.2.i, e.2.h, ())))) (fun (r : Bool × Int × Int × Unit) => match r with | (s, j, k, _) => qa5 s ((M.qaj (⟨a.b, j, k⟩ : D.Cur) (c.1.length : Int) ∧ ∀ f, f = M.qa0 (⟨a.b, j, k⟩ : D.Cur) (c.1.length : Int) → ((0 ≤ f.1 ∧ f.1 < (c.1.length : Int)) ∧ Q ((List.set c.1 (f.1.toNat) (⟨12, 0, 0, 0⟩ : D.Ins)), (⟨a.b, f.2.i, f.2.h⟩ : D.Cur))))) (Q (c.1, (⟨a.b, j, k⟩ : D.Cur))))))
end Go.V
namespace Go.V
open IntKind (wrap)
def qdN (i : D.Ins) : Bool := M.isIn i.Op 1 9 && M.qb9 i 32
inductive Seg : Nat → List D.Ins → Prop
 | nil (b : Nat) : Seg b []
 | cat {b : Nat} {s t : List D.Ins} : Seg b s → Seg (b + s.length) t → Seg b (s ++ t)
 | one {b : Nat} {i : D.Ins} : qdN i = true → Seg b [i]
 | thn {b : Nat} {r : Int} {s : List D.Ins} : 0 ≤ r → r ≤ 3 → Seg (b + 1) s → Seg b (⟨10, r, ((b + 1 + s.length : Nat) : Int), 0⟩ :: s)
 | els {b : Nat} {r : Int} {s t : List D.Ins} : 0 ≤ r → r ≤ 3 → Seg (b + 1) s → Seg (b + 2 + s.length) t → Seg b (⟨10, r, ((b + 2 + s.length : Nat) : Int), 0⟩ :: (s ++ ⟨11, 0, ((b + 2 + s.length + t.length : Nat) : Int), 0⟩ :: t))
 | loop {b : Nat} : b ≤ 14 → Seg b [⟨8, 3, 0, 0⟩, ⟨10, 3, ((b + 6 : Nat) : Int), 0⟩, ⟨3, 0, 0, 1⟩, ⟨1, 2, 1, 0⟩, ⟨4, 3, 3, 2⟩, ⟨11, 0, ((b + 1 : Nat) : Int), 0⟩]
theorem qfS {i : D.Ins} (h : qdN i = true) {n : Int} (hn : 0 ≤ n ∧ n ≤ 32) : M.qb9 i n = true ∧ M.qbq i = true := by
 unfold qdN at h
 rw [Bool.and_eq_true] at h
 obtain ⟨h1, h2⟩ := h
 have h1' := h1
 simp only [M.isIn, Bool.and_eq_true, decide_eq_true_eq] at h1'
 refine ⟨?_, by simp only [M.qbq, M.isIn, Bool.and_eq_true, decide_eq_true_eq]; omega⟩
 have e : M.isIn n 0 32 = true := by simp only [M.isIn, Bool.and_eq_true, decide_eq_true_eq]; omega
 have e32 : M.isIn 32 0 32 = true := by decide
 unfold M.qb9 at h2 ⊢
 rw [e, Bool.true_and]
 rw [e32, Bool.true_and] at h2
 rw [if_neg (by omega : ¬ i.Op = 10), if_neg (by omega : ¬ i.Op = 11)] at h2 ⊢
 exact h2
theorem qgP {b : Nat} {s : List D.Ins} (h : Seg b s) : ∀ n : Nat, b + s.length ≤ n → n ≤ 32 → ∀ i ∈ s, M.qb9 i (n : Int) = true ∧ M.qbq i = true := by
 have br : ∀ (n : Nat) (r : Int) (t : Nat), 0 ≤ r → r ≤ 3 → t ≤ n → n ≤ 32 → M.qb9 ⟨10, r, ((t : Nat) : Int), 0⟩ (n : Int) = true ∧ M.qbq ⟨10, r, ((t : Nat) : Int), 0⟩ = true := fun n r t h0 h1 h2 h3 => by
  refine ⟨?_, rfl⟩
  simp only [M.qb9, M.qcT, M.isIn, Bool.and_eq_true, decide_eq_true_eq]
  simp
  omega
 have jm : ∀ (n t : Nat), t ≤ n → n ≤ 32 → M.qb9 ⟨11, 0, ((t : Nat) : Int), 0⟩ (n : Int) = true ∧ M.qbq ⟨11, 0, ((t : Nat) : Int), 0⟩ = true := fun n t h2 h3 => by
  refine ⟨?_, rfl⟩
  simp only [M.qb9, M.qcT, M.isIn, Bool.and_eq_true, decide_eq_true_eq]
  simp
  omega
 have pl : ∀ (n : Nat) (i : D.Ins), qdN i = true → n ≤ 32 → M.qb9 i (n : Int) = true ∧ M.qbq i = true := fun n i hi hn => qfS hi ⟨by omega, by omega⟩
 induction h with
 | nil b => intro n _ _ i hi; simp at hi
 | cat _ _ ih1 ih2 =>
  intro n hn h32 i hi
  rw [List.length_append] at hn
  rcases List.mem_append.1 hi with hi | hi
  ·exact ih1 n (by omega) h32 i hi
  ·exact ih2 n (by omega) h32 i hi
 | one hp => intro n hn h32 i hi; rw [List.mem_singleton] at hi; subst hi; exact pl n _ hp h32
 | thn h0 h3 _ ih =>
  intro n hn h32 i hi
  rw [List.length_cons] at hn
  rcases List.mem_cons.1 hi with hi | hi
  ·subst hi; exact br n _ _ h0 h3 (by omega) h32
  ·exact ih n (by omega) h32 i hi
 | els h0 h3 _ _ ih1 ih2 =>
  intro n hn h32 i hi
  rw [List.length_cons, List.length_append, List.length_cons] at hn
  rcases List.mem_cons.1 hi with hi | hi
  ·subst hi; exact br n _ _ h0 h3 (by omega) h32
  rcases List.mem_append.1 hi with hi | hi
  ·exact ih1 n (by omega) h32 i hi
  rcases List.mem_cons.1 hi with hi | hi
  ·subst hi; exact jm n _ (by omega) h32
  ·exact ih2 n (by omega) h32 i hi
 | loop hb =>
  intro n hn h32 i hi
  simp only [List.length_cons, List.length_nil] at hn
  simp only [List.mem_cons, List.not_mem_nil, or_false] at hi
  rcases hi with hi | hi | hi | hi | hi | hi <;> subst hi
  ·exact pl n _ rfl h32
  ·exact br n _ _ (by omega) (by omega) (by omega) h32
  ·exact pl n _ rfl h32
  ·exact pl n _ rfl h32
  ·exact pl n _ rfl h32
  ·exact jm n _ (by omega) h32
theorem qf7 (c : D.Cur) : qdN (M.qad c).1 = true := by
 unfold qdN
 rw [(qfG c (n := 32) ⟨by omega, by omega⟩).1, Bool.and_true]
 have h := qbY c (n := 9) (by omega)
 have e : wrap .i64 (1 + (M.qa0 c 9).1) = 1 + (M.qa0 c 9).1 := w64 (by omega) (by omega)
 have : (M.qad c).1.Op = 1 + (M.qa0 c 9).1 := by
  unfold M.qad
  simp only
  rw [e]
  split
  ·rfl
  split
  ·rfl
  split <;> rfl
 rw [this]
 simp only [M.isIn, Bool.and_eq_true, decide_eq_true_eq]
 omega
theorem qev (c : D.Cur) (n : Int) : (M.once c n).2.b = c.b := qbp c n
theorem qdx {c : D.Cur} (h : M.qbH c) (n : Int) : M.qbH (M.once c n).2 := qbc h n
theorem qgV {p s : List D.Ins} {x y : D.Ins} : (p ++ x :: s).set p.length y = p ++ y :: s := by
 rw [List.set_append_right _ _ (Nat.le_refl _), Nat.sub_self]; rfl
theorem qeA {p s : List D.Ins} {x : D.Ins} {k : Nat} (hk : p.length = k) (v : Int) : M.setB (p ++ x :: s) k v = p ++ ⟨x.Op, x.A, v, x.C⟩ :: s := by
 subst hk
 unfold M.setB
 rw [qgT rfl, qgV]
def qeD (L : Nat) (rec : D.Cur → List D.Ins → List D.Ins × D.Cur) : Prop :=
 ∀ (c : D.Cur) (p : List D.Ins), M.qbH c → M.qbH (rec c p).2 ∧ (rec c p).2.b = c.b ∧ ∃ s, (rec c p).1 = p ++ s ∧ Seg p.length s ∧ p.length + s.length ≤ max p.length L
theorem qeH (p : List D.Ins) : M.qdm p = p ++ [⟨8, 3, 0, 0⟩, ⟨10, 3, ((p.length + 6 : Nat) : Int), 0⟩, ⟨3, 0, 0, 1⟩, ⟨1, 2, 1, 0⟩, ⟨4, 3, 3, 2⟩, ⟨11, 0, ((p.length + 1 : Nat) : Int), 0⟩] := by
 have e : M.qdY p = (p ++ [⟨8, 3, 0, 0⟩]) ++ (⟨10, 3, 0, 0⟩ : D.Ins) :: [⟨3, 0, 0, 1⟩, ⟨1, 2, 1, 0⟩, ⟨4, 3, 3, 2⟩, ⟨11, 0, ((p.length + 1 : Nat) : Int), 0⟩] := by
  unfold M.qdY M.qdt; simp
 have l1 : (M.qdt p).length = (p ++ [(⟨8, 3, 0, 0⟩ : D.Ins)]).length := rfl
 have l2 : (M.qdY p).length = p.length + 6 := by rw [e]; simp
 unfold M.qdm
 rw [l2, e, qeA l1.symm]
 simp
theorem qfH {L : Nat} {rec : D.Cur → List D.Ins → List D.Ins × D.Cur} (hr : qeD L rec) (hL : 20 ≤ L) {c : D.Cur} (hc : M.qbH c) {p : List D.Ins} (hp : p.length < 20) :
    M.qbH (M.ifIn rec c p).2 ∧ (M.ifIn rec c p).2.b = c.b ∧ ∃ s, (M.ifIn rec c p).1 = p ++ s ∧ Seg p.length s ∧ p.length + s.length ≤ L + 1 := by
 have hreg := qbY c (n := 4) (by omega)
 have c1 := qbc hc 4
 have b1 := qbp c 4
 obtain ⟨c2, b2, s1, e1, g1, n1⟩ := hr (M.qa0 c 4).2 (p ++ [⟨10, (M.qa0 c 4).1, 0, 0⟩]) c1
 have hb1 : M.qaY rec c p = rec (M.qa0 c 4).2 (p ++ [⟨10, (M.qa0 c 4).1, 0, 0⟩]) := rfl
 rw [← hb1] at c2 b2 e1
 rw [List.length_append, List.length_singleton] at g1 n1
 have e1' : (M.qaY rec c p).1 = p ++ ⟨10, (M.qa0 c 4).1, 0, 0⟩ :: s1 := by rw [e1]; simp
 have l1 : (M.qaY rec c p).1.length = p.length + 1 + s1.length := by rw [e1']; simp; omega
 have c3 := qdx c2 2
 have b3 := qev (M.qaY rec c p).2 2
 unfold M.ifIn
 split
 ·refine ⟨c3, by rw [b3, b2, b1], _, ?_, Seg.thn (r := (M.qa0 c 4).1) (by omega) (by omega) g1, ?_⟩
  ·show M.setB _ _ _ = _
   rw [l1, e1', qeA rfl]
  ·rw [List.length_cons]; omega
 ·have e2 : M.setB ((M.qaY rec c p).1 ++ [⟨11, 0, 0, 0⟩]) p.length (((M.qaY rec c p).1 ++ [(⟨11, 0, 0, 0⟩ : D.Ins)]).length : Int) = p ++ ⟨10, (M.qa0 c 4).1, ((p.length + 2 + s1.length : Nat) : Int), 0⟩ :: (s1 ++ [⟨11, 0, 0, 0⟩]) := by
    rw [List.length_append, List.length_singleton, l1, e1', List.append_assoc, List.cons_append, qeA rfl]
    congr 4
    omega
  obtain ⟨c4, b4, s2, e3, g2, n2⟩ := hr (M.once (M.qaY rec c p).2 2).2 (p ++ ⟨10, (M.qa0 c 4).1, ((p.length + 2 + s1.length : Nat) : Int), 0⟩ :: (s1 ++ [⟨11, 0, 0, 0⟩])) c3
  have hb2 : M.qd4 rec (M.once (M.qaY rec c p).2 2).2 p (M.qaY rec c p).1 = rec (M.once (M.qaY rec c p).2 2).2 (p ++ ⟨10, (M.qa0 c 4).1, ((p.length + 2 + s1.length : Nat) : Int), 0⟩ :: (s1 ++ [⟨11, 0, 0, 0⟩])) := by
   unfold M.qd4; rw [e2]
  rw [← hb2] at c4 b4 e3
  have lq : (p ++ ⟨10, (M.qa0 c 4).1, ((p.length + 2 + s1.length : Nat) : Int), 0⟩ :: (s1 ++ [(⟨11, 0, 0, 0⟩ : D.Ins)])).length = p.length + 2 + s1.length := by simp; omega
  rw [lq] at g2 n2
  have e3' : (M.qd4 rec (M.once (M.qaY rec c p).2 2).2 p (M.qaY rec c p).1).1 = (p ++ ⟨10, (M.qa0 c 4).1, ((p.length + 2 + s1.length : Nat) : Int), 0⟩ :: s1) ++ ⟨11, 0, 0, 0⟩ :: s2 := by rw [e3]; simp
  have l3 : (M.qd4 rec (M.once (M.qaY rec c p).2 2).2 p (M.qaY rec c p).1).1.length = p.length + 2 + s1.length + s2.length := by rw [e3']; simp; omega
  refine ⟨c4, by rw [b4, b3, b2, b1], _, ?_, Seg.els (r := (M.qa0 c 4).1) (by omega) (by omega) g1 g2, ?_⟩
  ·show M.setB _ _ _ = _
   rw [l3, l1, e3', qeA (by simp; omega)]
   simp
  ·rw [List.length_cons, List.length_append, List.length_cons]; omega
theorem qf5 {L : Nat} {rec : D.Cur → List D.Ins → List D.Ins × D.Cur} (hr : qeD L rec) (hL : 20 ≤ L) (deep : Bool) {c : D.Cur} (hc : M.qbH c) {p : List D.Ins} (hp : p.length < 20) :
    M.qbH (M.qbD rec deep c p).2 ∧ (M.qbD rec deep c p).2.b = c.b ∧ ∃ s, (M.qbD rec deep c p).1 = p ++ s ∧ Seg p.length s ∧ p.length + s.length ≤ if deep then L + 1 else 20 := by
 have c1 := qbc hc 5
 have b1 := qbp c 5
 obtain ⟨B, hB, hB1, hB2⟩ : ∃ B, (if deep then L + 1 else 20) = B ∧ 20 ≤ B ∧ (deep = true → B = L + 1) := ⟨_, rfl, by split <;> omega, fun h => if_pos h⟩
 rw [hB]
 have same : M.qbH (M.qa0 c 5).2 ∧ (M.qa0 c 5).2.b = c.b ∧ ∃ s, p = p ++ s ∧ Seg p.length s ∧ p.length + s.length ≤ B :=
  ⟨c1, b1, [], by simp, Seg.nil _, by simp only [List.length_nil]; omega⟩
 unfold M.qbD
 split
 ·split
  ·rename_i hd
   obtain ⟨g1, g2, s, g3, g4, g5⟩ := qfH hr hL c1 hp
   exact ⟨g1, by rw [g2, b1], s, g3, g4, by rw [hB2 hd]; exact g5⟩
  ·exact same
 split
 ·split
  ·rename_i hd
   refine ⟨c1, b1, _, qeH p, Seg.loop (by omega), ?_⟩
   have := hB2 hd.1
   simp only [List.length_cons, List.length_nil]
   omega
  ·exact same
 ·refine ⟨qgd c1, by rw [qgA, b1], _, rfl, Seg.one (qf7 _), ?_⟩
  simp only [List.length_cons, List.length_nil]
  omega
theorem qdf {L : Nat} {rec : D.Cur → List D.Ins → List D.Ins × D.Cur} (hr : qeD L rec) (hL : 20 ≤ L) (deep : Bool) : ∀ n, qeD (if deep then L + 1 else 20) (M.qdP rec deep n)
 | 0, c, p, hc => ⟨hc, rfl, [], by simp [M.qdP], Seg.nil _, by simp only [List.length_nil]; omega⟩
 | n + 1, c, p, hc => by
  rw [M.qdP]
  split
  ·rename_i hp
   obtain ⟨g1, g2, s, g3, g4, g5⟩ := qf5 hr hL deep hc (p := p) (by omega)
   obtain ⟨k1, k2, t, k3, k4, k5⟩ := qdf hr hL deep n (M.qbD rec deep c p).2 (M.qbD rec deep c p).1 g1
   rw [g3, List.length_append] at k4 k5
   refine ⟨k1, by rw [k2, g2], s ++ t, by rw [k3, g3, List.append_assoc], Seg.cat g4 k4, ?_⟩
   rw [List.length_append]
   have : p.length ≤ if deep = true then L + 1 else 20 := by split <;> omega
   omega
  ·exact ⟨hc, rfl, [], by simp, Seg.nil _, by simp only [List.length_nil]; omega⟩
theorem qfJ {L K : Nat} {rec : D.Cur → List D.Ins → List D.Ins × D.Cur} (h : qeD L rec) (hk : L ≤ K) : qeD K rec := fun c p hc => by
 obtain ⟨g1, g2, s, g3, g4, g5⟩ := h c p hc
 exact ⟨g1, g2, s, g3, g4, by omega⟩
theorem qfy : qeD 20 (fun c p => (p, c)) := fun c p hc => ⟨hc, rfl, [], by simp, Seg.nil _, by simp only [List.length_nil]; omega⟩
theorem qcA : ∀ d, qeD (20 + d) (M.body d)
 | 0, c, p, hc => by
  obtain ⟨g1, g2, r⟩ := qdf qfy (Nat.le_refl _) false (M.qa0 c 4).1.toNat (M.qa0 c 4).2 p (qbc hc 4)
  exact ⟨g1, g2.trans (qbp c 4), r⟩
 | d + 1, c, p, hc => by
  obtain ⟨g1, g2, r⟩ := qdf (qcA d) (by omega) true (M.qa0 c 4).1.toNat (M.qa0 c 4).2 p (qbc hc 4)
  exact ⟨g1, g2.trans (qbp c 4), r⟩
end Go.V
namespace Go.V
open IntKind (wrap)
theorem wp.qaI.math (c : D.Cur) (n : Int) (h : M.qbu c n) : wp.qaI c n (fun r => r = M.qaI c n) := by
 refine ⟨h, fun r hr => ?_⟩
 rw [hr, qbj (qbp c n)]; rfl
theorem qae.dec {c : D.Cur} {p : List D.Ins} {x : Int} (h : M.qbg c p x) (e : (x == 0) = false) : (wrap .i64 (x - 1)).toNat < x.toNat := by
 obtain ⟨_, _, h3, h4⟩ := h
 have e : x ≠ 0 := by simpa using e
 rw [w64 (by omega) (by omega)]; omega
def itB (rec : D.Cur → List D.Ins → List D.Ins × D.Cur) (deep : Bool) : Nat → D.Cur → List D.Ins → List D.Ins × D.Cur
 | 0, c, p => (p, c)
 | k + 1, c, p => M.qbD rec deep (itB rec deep k c p).2 (itB rec deep k c p).1
def qcC : Nat → D.Cur → List D.Ins → List D.Ins × D.Cur
 | 0 => fun c p => (p, c)
 | d + 1 => M.body d
def qbL : Nat → Bool
 | 0 => false
 | _ + 1 => true
theorem qgB (d : Nat) (c : D.Cur) (p : List D.Ins) : M.body d c p = M.qdP (qcC d) (qbL d) (M.qa0 c 4).1.toNat (M.qa0 c 4).2 p := by cases d <;> rfl
theorem qfp : ∀ d, qeD (20 + d) (qcC d)
 | 0 => qfy
 | d + 1 => qfJ (qcA d) (by omega)
theorem wp.qae.math (c : D.Cur) (p : List D.Ins) (x : Int) (h : M.qbg c p x) : wp.qae c p x (fun r => r = M.qae c p x) := by
 obtain ⟨h1, h2, h3, h4⟩ := h
 obtain ⟨d, rfl⟩ := Int.eq_ofNat_of_zero_le h3
 unfold wp.qae
 refine ⟨h1, fun r0 g0 => ?_⟩
 subst g0
 have hb := qbY c (n := 4) (by omega)
 have hc0 := qbc h1 4
 have hb0 := qbp c 4
 have eM : M.qae c p (d : Int) = M.qdP (qcC d) (qbL d) (M.qa0 c 4).1.toNat (M.qa0 c 4).2 p := by
  unfold M.qae
  rw [Int.toNat_natCast, qgB]
 rw [eM]
 obtain ⟨n, hn⟩ := Int.eq_ofNat_of_zero_le hb.1
 generalize (M.qa0 c 4).2 = c0 at *
 rw [hn] at hb ⊢
 rw [Int.toNat_natCast]
 refine qdq n (fun k => ((itB (qcC d) (qbL d) k c0 p).1, ((n : Int) - (k : Int)), (itB (qcC d) (qbL d) k c0 p).2.i, (itB (qcC d) (qbL d) k c0 p).2.h, ()))
  (fun k => M.qbH (itB (qcC d) (qbL d) k c0 p).2 ∧ (itB (qcC d) (qbL d) k c0 p).2.b = c.b ∧ (k ≤ n → M.qdP (qcC d) (qbL d) n c0 p = M.qdP (qcC d) (qbL d) (n - k) (itB (qcC d) (qbL d) k c0 p).2 (itB (qcC d) (qbL d) k c0 p).1))
  (by simp [itB]) ⟨hc0, hb0, fun _ => rfl⟩ (fun k hk hF next hnx => ?_) fun hF next => ?_
 ·obtain ⟨f1, f2, f3⟩ := hF
  have f3 := f3 (by omega)
  have it : itB (qcC d) (qbL d) (k + 1) c0 p = M.qbD (qcC d) (qbL d) (itB (qcC d) (qbL d) k c0 p).2 (itB (qcC d) (qbL d) k c0 p).1 := rfl
  rw [it] at hnx
  generalize itB (qcC d) (qbL d) k c0 p = y at *
  obtain ⟨q, e⟩ := y
  dsimp only at *
  refine qbn (by simp; omega) (qa8 (fun g => ?_) fun g => ?_)
  ·have g : (q.length : Int) < 20 := by simpa using g
   obtain ⟨k1, k2, s, k3, k4, k5⟩ := qf5 (qfp d) (by omega) (qbL d) f1 (p := q) (by omega)
   have ew : wrap .i64 ((n : Int) - (k : Int) - 1) = (n : Int) - ((k + 1 : Nat) : Int) := by rw [w64 (by omega) (by omega)]; omega
   have fin : ∀ P c', M.qbD (qcC d) (qbL d) e q = (P, c') → next (P, wrap .i64 ((n : Int) - (k : Int) - 1), c'.i, c'.h, ()) := fun P c' hE => by
    rw [ew]
    have := hnx ⟨k1, k2.trans f2, fun _ => ?_⟩
    ·rw [hE] at this; exact this
    ·rw [f3, show n - k = (n - (k + 1)) + 1 by omega, M.qdP, if_pos g]
   rw [qbj f2]
   refine ⟨f1, fun r5 g5 => ?_⟩
   subst g5
   have c5 := qbc f1 5
   have b5 : (M.qa0 e 5).2.b = c.b := (qbp e 5).trans f2
   rw [qbj b5]
   have hb5 := qbY e (n := 5) (by omega)
   refine qa8 (fun e0 => ?_) fun e0 => qa8 (fun e1 => ?_) fun e1 => ?_
   ·have e0 : (M.qa0 e 5).1 = 0 := by simpa using e0
    cases d with
    | zero =>
     refine qbn rfl (fin _ _ ?_)
     unfold M.qbD
     rw [if_pos e0]; rfl
    | succ d =>
     refine qbI (by simp; omega) ?_
     have hM : M.qbD (qcC (d + 1)) (qbL (d + 1)) e q = M.ifIn (M.body d) (M.qa0 e 5).2 q := by
      unfold M.qbD
      rw [if_pos e0]; rfl
     rw [hM] at fin
     generalize (M.qa0 e 5).2 = e5 at *
     refine ⟨c5, fun r6 g6 => ?_⟩
     subst g6
     have c6 := qbc c5 4
     have b6 : (M.qa0 e5 4).2.b = c.b := (qbp e5 4).trans b5
     have ed : wrap .i64 (((d + 1 : Nat) : Int) - 1) = (d : Int) := by rw [w64 (by omega) (by omega)]; omega
     have hbody : ∀ c p, M.qae c p (d : Int) = M.body d c p := fun c p => by unfold M.qae; rw [Int.toNat_natCast]
     simp only [qbj b6, ed, hbody]
     obtain ⟨i1, i2, s1, i3, i4, i5⟩ := qcA d (M.qa0 e5 4).2 (q ++ [⟨10, (M.qa0 e5 4).1, 0, 0⟩]) c6
     rw [List.length_append, List.length_singleton] at i5
     refine ⟨by simp; omega, ⟨c6, by simp; omega, by omega, by omega⟩, fun r7 g7 => ?_⟩
     have hbr : M.qaY (M.body d) e5 q = M.body d (M.qa0 e5 4).2 (q ++ [⟨10, (M.qa0 e5 4).1, 0, 0⟩]) := rfl
     rw [← g7] at hbr i1 i2 i3
     have hE : M.ifIn (M.body d) e5 q = if (M.once r7.2 2).1 then (M.setB r7.1 q.length (r7.1.length : Int), (M.once r7.2 2).2)
         else (M.setB (M.qd4 (M.body d) (M.once r7.2 2).2 q r7.1).1 r7.1.length ((M.qd4 (M.body d) (M.once r7.2 2).2 q r7.1).1.length : Int), (M.qd4 (M.body d) (M.once r7.2 2).2 q r7.1).2) := by
      unfold M.ifIn; rw [hbr]
     rw [hE] at fin
     have b7 : r7.2.b = c.b := i2.trans b6
     have l7 : r7.1.length = q.length + 1 + s1.length := by rw [i3]; simp; omega
     rw [qbj b7]
     refine ⟨i1, fun r8 g8 => ?_⟩
     have g8 : r8 = M.once r7.2 2 := g8
     rw [← g8] at fin
     have c8 : M.qbH r8.2 := by rw [g8]; exact qdx i1 2
     have b8 : r8.2.b = c.b := by rw [g8]; exact (qev _ _).trans b7
     refine qa8 (fun t => ⟨by omega, ?_⟩) fun t => ⟨by simp; omega, by simp; omega, ?_⟩
     ·refine fin _ _ ?_
      rw [if_pos t, Int.toNat_natCast]; rfl
     ·rw [if_neg (by rw [t]; simp)] at fin
      simp only [qbj b8]
      have hel : M.qd4 (M.body d) r8.2 q r7.1 = M.body d r8.2 (List.set (r7.1 ++ [(⟨11, 0, 0, 0⟩ : D.Ins)]) ((q.length : Int).toNat) (⟨(rd (r7.1 ++ [(⟨11, 0, 0, 0⟩ : D.Ins)]) (q.length : Int)).Op, (rd (r7.1 ++ [(⟨11, 0, 0, 0⟩ : D.Ins)]) (q.length : Int)).A, ((r7.1 ++ [(⟨11, 0, 0, 0⟩ : D.Ins)]).length : Int), (rd (r7.1 ++ [(⟨11, 0, 0, 0⟩ : D.Ins)]) (q.length : Int)).C⟩ : D.Ins)) := by
       rw [Int.toNat_natCast]; rfl
      obtain ⟨j1, j2, s2, j3, j4, j5⟩ := qcA d r8.2 (List.set (r7.1 ++ [(⟨11, 0, 0, 0⟩ : D.Ins)]) ((q.length : Int).toNat) (⟨(rd (r7.1 ++ [(⟨11, 0, 0, 0⟩ : D.Ins)]) (q.length : Int)).Op, (rd (r7.1 ++ [(⟨11, 0, 0, 0⟩ : D.Ins)]) (q.length : Int)).A, ((r7.1 ++ [(⟨11, 0, 0, 0⟩ : D.Ins)]).length : Int), (rd (r7.1 ++ [(⟨11, 0, 0, 0⟩ : D.Ins)]) (q.length : Int)).C⟩ : D.Ins)) c8
      refine ⟨⟨c8, by simp; omega, by omega, by omega⟩, fun r9 g9 => ?_⟩
      rw [← hel] at g9 j3
      rw [← g9] at fin j3
      refine ⟨?_, ?_⟩
      ·have : r9.1.length = r7.1.length + 1 + s2.length := by rw [j3, List.length_append, List.length_set, List.length_append]; rfl
       omega
      ·refine fin _ _ ?_
       rw [Int.toNat_natCast]; rfl
   ·have e0 : ¬ (M.qa0 e 5).1 = 0 := by simpa using e0
    have e1 : (M.qa0 e 5).1 = 1 := by simpa using e1
    have hM : M.qbD (qcC d) (qbL d) e q = if qbL d ∧ ¬ (q.length : Int) > 14 then (M.qdm q, (M.qa0 e 5).2) else (q, (M.qa0 e 5).2) := by
     unfold M.qbD
     rw [if_neg e0, if_pos e1]
    rw [hM] at fin
    cases d with
    | zero =>
     refine qbn rfl (fin _ _ ?_)
     rw [if_neg (by simp [qbL])]
    | succ d =>
     refine qbI (by simp; omega) (qa8 (fun g14 => fin _ _ ?_) fun g14 => ?_)
     ·have g14 : (q.length : Int) > 14 := by simpa using g14
      rw [if_neg (by simp only [not_and, Int.not_lt]; omega)]
     ·have g14 : ¬ (q.length : Int) > 14 := by simpa using g14
      refine ⟨by simp; omega, by simp; omega, by simp; omega, by simp; omega, by simp; omega, fin _ _ ?_⟩
      rw [if_pos ⟨rfl, g14⟩, Int.toNat_natCast]; rfl
   ·have e0 : ¬ (M.qa0 e 5).1 = 0 := by simpa using e0
    have e1 : ¬ (M.qa0 e 5).1 = 1 := by simpa using e1
    refine ⟨c5, fun r6 g6 => ⟨by simp; omega, fin _ _ ?_⟩⟩
    unfold M.qbD
    rw [if_neg e0, if_neg e1, g6]
  ·have g : ¬ (q.length : Int) < 20 := by simpa using g
   rw [f3, show n - k = (n - (k + 1)) + 1 by omega, M.qdP, if_neg g, qbj f2]
 ·obtain ⟨f1, f2, f3⟩ := hF
  refine qbI (by simp) ?_
  rw [f3 (Nat.le_refl _), Nat.sub_self, qbj f2]; rfl
theorem qea {c : D.Cur} (h : M.qbH c) : M.qbH (M.qct c).2 ∧ (M.qct c).2.b = c.b ∧ (M.qct c).1.length ≤ 1 ∧ Seg 0 (M.qct c).1 := by
 have h1 := qdx h 4
 have b1 := qev c 4
 have hr := qbY (M.once c 4).2 (n := 2) (by omega)
 unfold M.qct
 split
 ·exact ⟨h1, b1, by simp, Seg.nil _⟩
 ·refine ⟨qbc h1 _, (qbp _ _).trans b1, by simp, Seg.one ?_⟩
  simp only [qdN, M.qb9, M.qcT, M.isIn, Bool.and_eq_true, decide_eq_true_eq]
  simp
  omega
theorem qeq {c : D.Cur} (h : M.qbH c) : M.qbH (M.qci c).2 ∧ (M.qci c).2.b = c.b ∧ Seg 0 (M.qci c).1 ∧ (M.qci c).1.length ≤ 22 := by
 obtain ⟨h1, h2, h3, h4⟩ := qea h
 obtain ⟨g1, g2, s, g3, g4, g5⟩ := qcA 2 (M.qct c).2 (M.qct c).1 h1
 have e : M.qci c = M.body 2 (M.qct c).2 (M.qct c).1 := rfl
 rw [← e] at g1 g2 g3
 refine ⟨g1, g2.trans h2, ?_, ?_⟩
 ·rw [g3]
  exact Seg.cat h4 (by rw [Nat.zero_add]; exact g4)
 ·rw [g3, List.length_append]; omega
theorem qen {c : D.Cur} (h : M.qbH c) : M.qbH (M.qaa c).2 ∧ (M.qaa c).2.b = c.b ∧ ∃ s, Seg 0 s ∧ s.length ≤ 22 ∧ ((M.qaa c).1 = s ∨ ∃ k, k < s.length ∧ (M.qaa c).1 = s.set k ⟨12, 0, 0, 0⟩) := by
 obtain ⟨h1, h2, h3, h4⟩ := qeq h
 have c1 := qdx h1 6
 have b1 := qev (M.qci c).2 6
 unfold M.qaa
 split
 ·rename_i hc
  simp only [Bool.and_eq_true, decide_eq_true_eq] at hc
  have hr := qbY (M.once (M.qci c).2 6).2 (n := ((M.qci c).1.length : Int)) (by omega)
  exact ⟨qbc c1 _, (qbp _ _).trans (b1.trans h2), _, h3, h4, .inr ⟨_, by omega, rfl⟩⟩
 ·exact ⟨c1, b1.trans h2, _, h3, h4, .inl rfl⟩
theorem qfc {s p : List D.Ins} (h : Seg 0 s) (hl : s.length ≤ 32) (hp : p = s ∨ ∃ k, k < s.length ∧ p = s.set k ⟨12, 0, 0, 0⟩) : M.qaS p = true ∧ p.length = s.length := by
 have hlen : p.length = s.length := by rcases hp with rfl | ⟨k, hk, rfl⟩ <;> simp
 have hall : ∀ i ∈ p, M.qb9 i (p.length : Int) = true ∧ M.qbq i = true := by
  intro i hi
  rw [hlen]
  have hs := qgP h s.length (by omega) hl
  rcases hp with rfl | ⟨k, hk, rfl⟩
  ·exact hs i hi
  ·rcases List.mem_or_eq_of_mem_set hi with hi | hi
   ·exact hs i hi
   ·subst hi
    refine ⟨?_, rfl⟩
    simp only [M.qb9, M.qcT, M.isIn, Bool.and_eq_true, decide_eq_true_eq]
    simp
    omega
 refine ⟨?_, hlen⟩
 unfold M.qaS M.qar
 rw [Bool.and_eq_true, Bool.and_eq_true, List.all_eq_true, List.all_eq_true, decide_eq_true_eq]
 exact ⟨⟨by omega, fun i hi => (hall i hi).1⟩, fun i hi => (hall i hi).2⟩
theorem qes {c : D.Cur} (h : M.qbH c) : M.qaS (M.qaa c).1 = true ∧ (M.qaa c).1.length ≤ 22 := by
 obtain ⟨h1, h2, s, h3, h4, h5⟩ := qen h
 obtain ⟨g1, g2⟩ := qfc h3 (by omega) h5
 exact ⟨g1, by omega⟩
theorem wp.qaa.math (c : D.Cur) (h : M.qce c) : wp.qaa c (fun r => r = M.qaa c) := by
 obtain ⟨s1, s2, s3, s4⟩ := qea h
 obtain ⟨q1, q2, q3, q4⟩ := qeq h
 refine qeN ((M.qct c).1, (M.qct c).2.i, (M.qct c).2.h, ()) ?_ fun J hJ => ⟨h, fun r hr => ?_⟩
 ·dsimp only
  rw [qbj s2]
  refine ⟨⟨s1, by omega, by omega, by omega⟩, fun r hr => ?_⟩
  have hr : r = M.qci c := hr
  subst hr
  have c1 := qdx q1 6
  have b1 := (qev (M.qci c).2 6).trans q2
  refine qeN (((M.once (M.qci c).2 6).1 && decide (((M.qci c).1.length : Int) > 1)), (M.once (M.qci c).2 6).2.i, (M.once (M.qci c).2 6).2.h, ()) ?_ fun J hJ => ?_
  ·dsimp only
   rw [qbj b1]
   refine qa8 (fun e => ⟨c1, fun r hr => ?_⟩) fun e => ?_
   ·subst hr
    have e' := e
    simp only [Bool.and_eq_true, decide_eq_true_eq] at e'
    have hr := qbY (M.once (M.qci c).2 6).2 (n := ((M.qci c).1.length : Int)) (by omega)
    refine ⟨hr, ?_⟩
    rw [qbj ((qbp _ _).trans b1)]
    unfold M.qaa
    rw [if_pos e]
   ·unfold M.qaa
    rw [if_neg (by rw [e]; simp)]
  ·rw [qbj q2]
   refine ⟨q1, fun r hr => ?_⟩
   have hr : r = M.once (M.qci c).2 6 := hr
   subst hr
   refine qa8 (fun e => ?_) fun e => ?_
   ·rw [e, Bool.true_and] at hJ; exact hJ
   ·rw [e, Bool.false_and] at hJ; exact hJ
 ·have hr : r = M.once c 4 := hr
  subst hr
  have b1 := qev c 4
  unfold M.qct at hJ
  refine qa8 (fun e => ?_) fun e => ?_
  ·have e : (M.once c 4).1 = false := by simpa using e
   rw [if_neg (by rw [e]; simp)] at hJ
   rw [qbj b1]
   exact ⟨qdx h 4, fun r hr => by subst hr; exact ⟨by simp, hJ⟩⟩
  ·have e : (M.once c 4).1 = true := by simpa using e
   rw [if_pos e] at hJ
   exact hJ
end Go.V
namespace Go.V
open IntKind (wrap)
def Alone (p : List D.Ins) : Nat → D.Lane → List Int → Prop
 | 0, l, R => l.Pc = (p.length : Int) ∧ l.Regs = R
 | k + 1, l, R => l.Pc < (p.length : Int) ∧ Alone p k (M.step p l) R
theorem Alone.at_end {p : List D.Ins} {k : Nat} {l : D.Lane} {R : List Int} (h : Alone p k l R) (e : l.Pc = (p.length : Int)) : k = 0 ∧ l.Regs = R := by
 cases k with
 | zero => exact ⟨rfl, h.2⟩
 | succ k => have := h.1; omega
theorem qf0 {p : List D.Ins} : ∀ (k N : Nat) (l : D.Lane) (n : Int) (R : List Int), Alone p k l R → k ≤ N → (M.runN p N l n).2 = n + (k : Int) ∧ (M.runN p N l n).1.Pc = (p.length : Int) ∧ (M.runN p N l n).1.Regs = R
 | 0, N, l, n, R, h, hk => by
  have e : M.runN p N l n = (l, n) := qgp p N l n (by have := h.1; omega)
  rw [e]; exact ⟨by simp, h.1, h.2⟩
 | k + 1, N + 1, l, n, R, h, hk => by
  rw [M.runN, if_pos h.1]
  obtain ⟨g1, g2, g3⟩ := qf0 k N _ (n + 1) R h.2 (by omega)
  exact ⟨by rw [g1]; push_cast; omega, g2, g3⟩
end Go.V
namespace Go.V
open IntKind (wrap)
def Walk (p : List D.Ins) : Nat → D.Lane → D.Lane → Prop
 | 0, l, m => l = m
 | k + 1, l, m => l.Pc < (p.length : Int) ∧ Walk p k (M.step p l) m
theorem Walk.trans {p : List D.Ins} : ∀ {a b : Nat} {l m n : D.Lane}, Walk p a l m → Walk p b m n → Walk p (a + b) l n
 | 0, b, l, m, n, h, k => by rw [Nat.zero_add]; have h : l = m := h; rw [h]; exact k
 | a + 1, b, l, m, n, h, k => by rw [show a + 1 + b = (a + b) + 1 by omega]; exact ⟨h.1, Walk.trans h.2 k⟩
theorem Walk.ok {p : List D.Ins} : ∀ {a : Nat} {l m : D.Lane}, Walk p a l m → M.qbA p l = true → M.qbA p m = true
 | 0, l, m, h, hl => by have h : l = m := h; rw [← h]; exact hl
 | a + 1, l, m, h, hl => Walk.ok h.2 (qcJ hl h.1)
theorem Walk.alone {p : List D.Ins} : ∀ {a : Nat} {l m : D.Lane}, Walk p a l m → m.Pc = (p.length : Int) → Alone p a l m.Regs
 | 0, l, m, h, hm => by have h : l = m := h; rw [h]; exact ⟨hm, rfl⟩
 | a + 1, l, m, h, hm => ⟨h.1, Walk.alone h.2 hm⟩
def qcz (p : List D.Ins) (b : Nat) (s : List D.Ins) : Prop := b + s.length ≤ p.length ∧ ∀ j : Nat, j < s.length → rd p ((b + j : Nat) : Int) = rd s (j : Int) ∨ rd p ((b + j : Nat) : Int) = ⟨12, 0, 0, 0⟩
theorem qgH {α : Type} [Inhabited α] {s t : List α} {j : Nat} (hj : j < s.length) : rd (s ++ t) (j : Int) = rd s (j : Int) := by
 rw [qbM (by rw [List.length_append]; omega), List.getElem_append_left hj, qbM hj]
theorem qgm {α : Type} [Inhabited α] {s t : List α} {j : Nat} (hj : j < t.length) : rd (s ++ t) ((s.length + j : Nat) : Int) = rd t (j : Int) := by
 rw [qbM (by rw [List.length_append]; omega), List.getElem_append_right (by omega), qbM hj]
 simp
theorem qcz.left {p : List D.Ins} {b : Nat} {s t : List D.Ins} (h : qcz p b (s ++ t)) : qcz p b s := by
 refine ⟨by have := h.1; rw [List.length_append] at this; omega, fun j hj => ?_⟩
 have := h.2 j (by rw [List.length_append]; omega)
 rwa [qgH hj] at this
theorem qcz.right {p : List D.Ins} {b : Nat} {s t : List D.Ins} (h : qcz p b (s ++ t)) : qcz p (b + s.length) t := by
 refine ⟨by have := h.1; rw [List.length_append] at this; omega, fun j hj => ?_⟩
 have := h.2 (s.length + j) (by rw [List.length_append]; omega)
 rwa [qgm hj, ← Nat.add_assoc] at this
theorem qcz.head {p : List D.Ins} {b : Nat} {i : D.Ins} {s : List D.Ins} (h : qcz p b (i :: s)) : rd p (b : Int) = i ∨ rd p (b : Int) = ⟨12, 0, 0, 0⟩ := h.2 0 (by simp)
theorem qcz.tail {p : List D.Ins} {b : Nat} {i : D.Ins} {s : List D.Ins} (h : qcz p b (i :: s)) : qcz p (b + 1) s := by
 refine ⟨by have := h.1; rw [List.length_cons] at this; omega, fun j hj => ?_⟩
 have := h.2 (j + 1) (by rw [List.length_cons]; omega)
 rw [show b + (j + 1) = b + 1 + j by omega] at this
 have e : rd (i :: s) ((j + 1 : Nat) : Int) = rd s (j : Int) := by rw [qbM (by simp; omega), qbM hj]; rfl
 rwa [e] at this
def W (x : Nat) : Nat := 20 * min x 20 + (x - 20)
theorem qdo (x y : Nat) (h : x < y) : W x + (y - x) ≤ W y := by unfold W; omega
theorem qgN {b : Nat} (h : b ≤ 14) : W b + 120 = W (b + 6) := by unfold W; omega
def Comes (p : List D.Ins) (l : D.Lane) (e c : Nat) : Prop := ∃ k m, k ≤ c ∧ Walk p k l m ∧ (m.Pc = (e : Int) ∨ m.Pc = (p.length : Int))
theorem Comes.mono {p : List D.Ins} {l : D.Lane} {e c d : Nat} (h : Comes p l e c) (hd : c ≤ d) : Comes p l e d := by
 obtain ⟨k, m, h1, h2, h3⟩ := h
 exact ⟨k, m, by omega, h2, h3⟩
theorem Comes.here {p : List D.Ins} {l : D.Lane} {e : Nat} (h : l.Pc = (e : Int)) (c : Nat) : Comes p l e c := ⟨0, l, by omega, rfl, .inl h⟩
theorem Comes.step {p : List D.Ins} {l : D.Lane} {e c : Nat} (h : l.Pc < (p.length : Int)) (hc : Comes p (M.step p l) e c) : Comes p l e (c + 1) := by
 obtain ⟨k, m, h1, h2, h3⟩ := hc
 exact ⟨k + 1, m, by omega, ⟨h, h2⟩, h3⟩
theorem Comes.then {p : List D.Ins} {l : D.Lane} {e f c d : Nat} (hl : M.qbA p l = true) (h : Comes p l e c) (k : ∀ m, M.qbA p m = true → m.Pc = (e : Int) → Comes p m f d) : Comes p l f (c + d) := by
 obtain ⟨k1, m, h1, h2, h3⟩ := h
 rcases h3 with h3 | h3
 ·obtain ⟨k2, n, g1, g2, g3⟩ := k m (h2.ok hl) h3
  exact ⟨k1 + k2, n, by omega, h2.trans g2, g3⟩
 ·exact ⟨k1, m, by omega, h2, .inr h3⟩
theorem qej {p : List D.Ins} {l : D.Lane} {b e : Nat} (hb : b < p.length) (h : l.Pc = (b : Int)) (hi : rd p (b : Int) = ⟨12, 0, 0, 0⟩) (c : Nat) : Comes p l e (c + 1) := by
 refine ⟨1, M.step p l, by omega, ⟨by omega, rfl⟩, .inr ?_⟩
 show M.next p l.Pc l.Regs = _
 unfold M.next
 rw [h, hi, if_pos rfl]
theorem qeh {p : List D.Ins} {l : D.Lane} {b : Nat} {i : D.Ins} (h : l.Pc = (b : Int)) (hi : rd p (b : Int) = i) (h12 : i.Op ≠ 12) (h11 : i.Op ≠ 11) (h10 : i.Op ≠ 10) : (M.step p l).Pc = ((b + 1 : Nat) : Int) ∧ (M.step p l).Regs = M.apply i l.Thread l.Regs ∧ (M.step p l).Thread = l.Thread := by
 refine ⟨?_, ?_, rfl⟩
 ·show M.next p l.Pc l.Regs = _
  unfold M.next
  rw [h, hi, if_neg h12, if_neg h11, if_neg h10]; push_cast; rfl
 ·show M.apply (rd p l.Pc) l.Thread l.Regs = _
  rw [h, hi]
theorem qe6 {r : List Int} (h : r.length = 4) {a b : Nat} (ha : a < 4) (hb : b < 4) (v : Int) : rd (r.set a v) (b : Int) = if a = b then v else rd r (b : Int) := by
 rw [qbM (by rw [List.length_set]; omega), List.getElem_set]
 split
 ·rfl
 ·rw [qbM (by omega)]
theorem qf3 {p : List D.Ins} {b : Nat} (hb : b + 6 ≤ p.length)
    (a1 : rd p ((b + 1 : Nat) : Int) = ⟨10, 3, ((b + 6 : Nat) : Int), 0⟩ ∨ rd p ((b + 1 : Nat) : Int) = ⟨12, 0, 0, 0⟩) (a2 : rd p ((b + 2 : Nat) : Int) = ⟨3, 0, 0, 1⟩ ∨ rd p ((b + 2 : Nat) : Int) = ⟨12, 0, 0, 0⟩)
    (a3 : rd p ((b + 3 : Nat) : Int) = ⟨1, 2, 1, 0⟩ ∨ rd p ((b + 3 : Nat) : Int) = ⟨12, 0, 0, 0⟩) (a4 : rd p ((b + 4 : Nat) : Int) = ⟨4, 3, 3, 2⟩ ∨ rd p ((b + 4 : Nat) : Int) = ⟨12, 0, 0, 0⟩) (a5 : rd p ((b + 5 : Nat) : Int) = ⟨11, 0, ((b + 1 : Nat) : Int), 0⟩ ∨ rd p ((b + 5 : Nat) : Int) = ⟨12, 0, 0, 0⟩) :
    ∀ (t : Nat) (l : D.Lane), t ≤ 23 → l.Pc = ((b + 1 : Nat) : Int) → l.Regs.length = 4 → rd l.Regs 3 = (t : Int) → Comes p l (b + 6) (5 * t + 1)
 | t, l, ht, hpc, hlen, h3 => by
  by_cases q1 : rd p ((b + 1 : Nat) : Int) = ⟨12, 0, 0, 0⟩
  ·exact qej (by omega) hpc q1 _
  have a1' := a1.resolve_right q1
  have hnext : (M.step p l).Pc = if rd l.Regs 3 = 0 then ((b + 6 : Nat) : Int) else ((b + 2 : Nat) : Int) := by
   show M.next p l.Pc l.Regs = _
   unfold M.next
   rw [hpc, a1', if_neg (show ¬ (10 : Int) = 12 by decide), if_neg (show ¬ (10 : Int) = 11 by decide), if_pos rfl]
   split <;> (push_cast; omega)
  have hreg : (M.step p l).Regs = l.Regs := by
   show M.apply (rd p l.Pc) l.Thread l.Regs = _
   rw [hpc, a1']; rfl
  cases t with
  | zero =>
   rw [if_pos (show rd l.Regs 3 = 0 from h3)] at hnext
   exact Comes.step (by omega) (Comes.here hnext 0)
  | succ t =>
   rw [if_neg (by rw [h3]; omega)] at hnext
   rw [show 5 * (t + 1) + 1 = (5 * t + 1 + 1 + 1 + 1 + 1) + 1 by omega]
   refine Comes.step (by omega) ?_
   generalize M.step p l = l1 at *
   have hl1 : l1.Regs.length = 4 := by rw [hreg]; exact hlen
   have h31 : rd l1.Regs 3 = ((t + 1 : Nat) : Int) := by rw [hreg]; exact h3
   by_cases q2 : rd p ((b + 2 : Nat) : Int) = ⟨12, 0, 0, 0⟩
   ·exact qej (by omega) hnext q2 _
   have a2' := a2.resolve_right q2
   obtain ⟨p2, r2, _⟩ := qeh hnext a2' (by decide) (by decide) (by decide)
   refine Comes.step (by omega) ?_
   generalize M.step p l1 = l2 at *
   have e2 : l2.Regs = l1.Regs.set 0 (M.addW (rd l1.Regs 0) (rd l1.Regs 1)) := r2
   have hl2 : l2.Regs.length = 4 := by rw [e2, List.length_set]; exact hl1
   have h32 : rd l2.Regs 3 = ((t + 1 : Nat) : Int) := by
    rw [e2]
    have := qe6 hl1 (a := 0) (b := 3) (by omega) (by omega) (M.addW (rd l1.Regs 0) (rd l1.Regs 1))
    rw [if_neg (by omega)] at this
    exact this.trans h31
   by_cases q3 : rd p ((b + 3 : Nat) : Int) = ⟨12, 0, 0, 0⟩
   ·exact qej (by omega) p2 q3 _
   have a3' := a3.resolve_right q3
   obtain ⟨p3, r3, _⟩ := qeh p2 a3' (by decide) (by decide) (by decide)
   refine Comes.step (by omega) ?_
   generalize M.step p l2 = l3 at *
   have e3 : l3.Regs = l2.Regs.set 2 1 := r3
   have hl3 : l3.Regs.length = 4 := by rw [e3, List.length_set]; exact hl2
   have h33 : rd l3.Regs 3 = ((t + 1 : Nat) : Int) := by
    rw [e3]
    have := qe6 hl2 (a := 2) (b := 3) (by omega) (by omega) 1
    rw [if_neg (by omega)] at this
    exact this.trans h32
   have h23 : rd l3.Regs 2 = 1 := by
    rw [e3]
    have := qe6 hl2 (a := 2) (b := 2) (by omega) (by omega) 1
    rw [if_pos rfl] at this
    exact this
   by_cases q4 : rd p ((b + 4 : Nat) : Int) = ⟨12, 0, 0, 0⟩
   ·exact qej (by omega) p3 q4 _
   have a4' := a4.resolve_right q4
   obtain ⟨p4, r4, _⟩ := qeh p3 a4' (by decide) (by decide) (by decide)
   refine Comes.step (by omega) ?_
   generalize M.step p l3 = l4 at *
   have e4 : l4.Regs = l3.Regs.set 3 (M.subW (rd l3.Regs 3) (rd l3.Regs 2)) := r4
   have hl4 : l4.Regs.length = 4 := by rw [e4, List.length_set]; exact hl3
   have h34 : rd l4.Regs 3 = (t : Int) := by
    rw [e4]
    have := qe6 hl3 (a := 3) (b := 3) (by omega) (by omega) (M.subW (rd l3.Regs 3) (rd l3.Regs 2))
    rw [if_pos rfl] at this
    refine this.trans ?_
    rw [h33, h23]
    have w1 : M.isWord ((t + 1 : Nat) : Int) = true := by simp only [M.isWord, M.isIn, Bool.and_eq_true, decide_eq_true_eq]; omega
    have w2 : M.isWord 1 = true := by decide
    unfold M.subW
    rw [w1, w2, Bool.true_and, if_pos rfl]
    omega
   by_cases q5 : rd p ((b + 5 : Nat) : Int) = ⟨12, 0, 0, 0⟩
   ·exact qej (by omega) p4 q5 _
   have a5' := a5.resolve_right q5
   have p5 : (M.step p l4).Pc = ((b + 1 : Nat) : Int) := by
    show M.next p l4.Pc l4.Regs = _
    unfold M.next
    rw [show l4.Pc = ((b + 5 : Nat) : Int) from p4, a5', if_neg (show ¬ (11 : Int) = 12 by decide), if_pos rfl]
   have r5 : (M.step p l4).Regs = l4.Regs := by
    show M.apply (rd p l4.Pc) l4.Thread l4.Regs = _
    rw [show l4.Pc = ((b + 5 : Nat) : Int) from p4, a5']; rfl
   refine Comes.step (by omega) ?_
   exact qf3 hb (.inl a1') (.inl a2') (.inl a3') (.inl a4') (.inl a5') t _ (by omega) p5 (by rw [r5]; exact hl4) (by rw [r5]; exact h34)
theorem qgl {p : List D.Ins} {b : Nat} {s : List D.Ins} (h : Seg b s) : qcz p b s → ∀ l : D.Lane, M.qbA p l = true → l.Pc = (b : Int) → Comes p l (b + s.length) (W (b + s.length) - W b) := by
 induction h with
 | nil b => exact fun _ l _ hpc => Comes.here hpc _
 | @cat b s t _ _ ih1 ih2 =>
  intro ha l hl hpc
  rw [List.length_append, ← Nat.add_assoc]
  have w1 := qdo b (b + s.length)
  have w2 := qdo (b + s.length) (b + s.length + t.length)
  have := Comes.then hl (ih1 ha.left l hl hpc) fun m hm hmp => ih2 ha.right m hm hmp
  refine this.mono ?_
  by_cases c1 : s.length = 0
  ·simp only [c1, Nat.add_zero, Nat.sub_self, Nat.zero_add] at *; omega
  by_cases c2 : t.length = 0
  ·simp only [c2, Nat.add_zero, Nat.sub_self] at *; omega
  have := w1 (by omega)
  have := w2 (by omega)
  omega
 | @one b i hp =>
  intro ha l hl hpc
  have hlt := ha.1
  simp only [List.length_cons, List.length_nil, Nat.zero_add] at hlt ⊢
  have w1 := qdo b (b + 1) (by omega)
  refine Comes.mono (c := 0 + 1) ?_ (by omega)
  rcases ha.head with hi | hi
  ·simp only [qdN, M.isIn, Bool.and_eq_true, decide_eq_true_eq] at hp
   obtain ⟨g1, _⟩ := qeh hpc hi (by omega) (by omega) (by omega)
   exact Comes.step (by omega) (Comes.here g1 0)
  ·exact qej (by omega) hpc hi _
 | @thn b r s h0 h3 _ ih =>
  intro ha l hl hpc
  have hlt := ha.1
  rw [List.length_cons] at hlt ⊢
  have w1 := qdo b (b + 1) (by omega)
  have w2 : W (b + 1) ≤ W (b + (s.length + 1)) := by
   by_cases c : s.length = 0
   ·rw [c]; simp
   ·have := qdo (b + 1) (b + (s.length + 1)) (by omega); omega
  refine Comes.mono (c := (W (b + (s.length + 1)) - W (b + 1)) + 1) ?_ (by omega)
  rcases ha.head with hi | hi
  ·refine Comes.step (by omega) ?_
   have hnext : (M.step p l).Pc = if rd l.Regs r = 0 then ((b + 1 + s.length : Nat) : Int) else ((b + 1 : Nat) : Int) := by
    show M.next p l.Pc l.Regs = _
    unfold M.next
    rw [hpc, hi, if_neg (show ¬ (10 : Int) = 12 by decide), if_neg (show ¬ (10 : Int) = 11 by decide), if_pos rfl]
    split <;> (push_cast; omega)
   have hok := qcJ hl (by omega : l.Pc < (p.length : Int))
   split at hnext
   ·exact Comes.here (by rw [hnext]; congr 1; omega) _
   ·have := ih ha.tail _ hok hnext
    rwa [show b + 1 + s.length = b + (s.length + 1) by omega] at this
  ·exact qej (by omega) hpc hi _
 | @els b r s t h0 h3 _ _ ih1 ih2 =>
  intro ha l hl hpc
  have hlt := ha.1
  rw [List.length_cons, List.length_append, List.length_cons] at hlt ⊢
  have hend : b + (s.length + (t.length + 1) + 1) = b + 2 + s.length + t.length := by omega
  rw [hend] at hlt ⊢
  have w1 := qdo b (b + 1) (by omega)
  have w2 : W (b + 1) ≤ W (b + 1 + s.length) := by
   by_cases c : s.length = 0
   ·rw [c]; simp
   ·have := qdo (b + 1) (b + 1 + s.length) (by omega); omega
  have w3 := qdo (b + 1 + s.length) (b + 2 + s.length) (by omega)
  have w4 : W (b + 2 + s.length) ≤ W (b + 2 + s.length + t.length) := by
   by_cases c : t.length = 0
   ·rw [c]; simp
   ·have := qdo (b + 2 + s.length) (b + 2 + s.length + t.length) (by omega); omega
  refine Comes.mono (c := (W (b + 2 + s.length + t.length) - W (b + 1)) + 1) ?_ (by omega)
  rcases ha.head with hi | hi
  ·refine Comes.step (by omega) ?_
   have hnext : (M.step p l).Pc = if rd l.Regs r = 0 then ((b + 2 + s.length : Nat) : Int) else ((b + 1 : Nat) : Int) := by
    show M.next p l.Pc l.Regs = _
    unfold M.next
    rw [hpc, hi, if_neg (show ¬ (10 : Int) = 12 by decide), if_neg (show ¬ (10 : Int) = 11 by decide), if_pos rfl]
    split <;> (push_cast; omega)
   have hok := qcJ hl (by omega : l.Pc < (p.length : Int))
   have hat := ha.tail
   have har := hat.right
   split at hnext
   ·have h2 := har.tail
    rw [show b + 1 + s.length + 1 = b + 2 + s.length by omega] at h2
    exact (ih2 h2 _ hok hnext).mono (by omega)
   ·refine Comes.mono (c := (W (b + 1 + s.length) - W (b + 1)) + 1) (Comes.then hok (ih1 hat.left _ hok hnext) fun m hm hmp => ?_) (by omega)
    rcases har.head with hj | hj
    ·refine Comes.step (by omega) (Comes.here ?_ 0)
     show M.next p m.Pc m.Regs = _
     unfold M.next
     rw [hmp, hj, if_neg (show ¬ (11 : Int) = 12 by decide), if_pos rfl]
    ·exact qej (by omega) hmp hj 0
  ·exact qej (by omega) hpc hi _
 | @loop b hb =>
  intro ha l hl hpc
  have hlt := ha.1
  simp only [List.length_cons, List.length_nil, Nat.zero_add] at hlt ⊢
  rw [show b + (1 + 1 + 1 + 1 + 1 + 1) = b + 6 by omega] at hlt ⊢
  have w1 := qgN hb
  refine Comes.mono (c := 116 + 1) ?_ (by omega)
  have g : ∀ j : Nat, j < 6 → _ := ha.2
  rcases ha.head with hi | hi
  ·refine Comes.step (by omega) ?_
   obtain ⟨g1, g2, _⟩ := qeh hpc hi (by decide) (by decide) (by decide)
   have hok := qcJ hl (by omega : l.Pc < (p.length : Int))
   have hI := (qd9 hl).2
   have ht : 0 ≤ l.Thread ∧ l.Thread ≤ 23 := by
    simp only [M.qbA, M.qd0, M.isIn, Bool.and_eq_true, decide_eq_true_eq] at hl
    exact hl.2.1
   have e : (M.step p l).Regs = l.Regs.set 3 l.Thread := g2
   have h3 : rd (M.step p l).Regs 3 = ((l.Thread.toNat : Nat) : Int) := by
    rw [e]
    have := qe6 hI.2.2 (a := 3) (b := 3) (by omega) (by omega) l.Thread
    rw [if_pos rfl] at this
    refine this.trans ?_
    omega
   refine Comes.mono (qf3 hlt (g 1 (by omega)) (g 2 (by omega)) (g 3 (by omega)) (g 4 (by omega)) (g 5 (by omega)) l.Thread.toNat _ (by omega) g1 (by rw [e, List.length_set]; exact hI.2.2) h3) (by omega)
  ·exact qej (by omega) hpc hi _
theorem qf6 {s p : List D.Ins} (hp : p = s ∨ ∃ k, k < s.length ∧ p = s.set k ⟨12, 0, 0, 0⟩) : qcz p 0 s := by
 have hlen : p.length = s.length := by rcases hp with rfl | ⟨k, hk, rfl⟩ <;> simp
 refine ⟨by omega, fun j hj => ?_⟩
 rw [Nat.zero_add]
 rcases hp with rfl | ⟨k, hk, rfl⟩
 ·exact .inl rfl
 ·rw [qbM (by rw [List.length_set]; exact hj), List.getElem_set]
  split
  ·exact .inr rfl
  ·exact .inl (qbM hj).symm
theorem qg2 {s p : List D.Ins} (h : Seg 0 s) (hl : s.length ≤ 22) (hp : p = s ∨ ∃ k, k < s.length ∧ p = s.set k ⟨12, 0, 0, 0⟩) {t : Int} (ht : 0 ≤ t ∧ t ≤ 23) : ∃ (k : Nat) (R : List Int), k ≤ 402 ∧ Alone p k (M.qav t) R := by
 obtain ⟨hq, hlen⟩ := qfc h (by omega) hp
 have hl0 : M.qav t = ⟨t, 0, [0, 0, 0, 0]⟩ := by
  unfold M.qav
  rw [if_pos (by simp only [M.isIn, Bool.and_eq_true, decide_eq_true_eq]; omega)]
 have hok : M.qbA p (M.qav t) = true := by
  rw [hl0]
  unfold M.qbA M.qd0 M.qcL
  rw [qd7 hq]
  simp only [M.isIn, Bool.and_eq_true, decide_eq_true_eq]
  refine ⟨trivial, ht, ⟨by omega, by omega⟩, rfl, rfl⟩
 obtain ⟨k, m, h1, h2, h3⟩ := qgl h (qf6 hp) (M.qav t) hok (by rw [hl0]; rfl)
 rw [Nat.zero_add] at h1 h3
 have hW : W s.length ≤ 402 := by unfold W; omega
 exact ⟨k, m.Regs, by omega, h2.alone (by rcases h3 with h3 | h3; (· rw [h3, hlen]); exact h3)⟩
end Go.V
namespace Go.V
open IntKind (wrap)
theorem qf8 {α β : Type} {f g : α → List β} : ∀ l : List α, (∀ x ∈ l, f x = g x) → l.flatMap f = l.flatMap g
 | [], _ => rfl
 | x :: l, h => by
  rw [List.flatMap_cons, List.flatMap_cons, h x List.mem_cons_self, qf8 l fun y hy => h y (List.mem_cons_of_mem _ hy)]
structure qfK (p : List D.Ins) (w : Int) (st : Nat → Nat) (R : Nat → List Int) : Prop where
 quiet : M.qaS p = true
 num : 0 ≤ w ∧ w ≤ 2
 each : ∀ i : Nat, i < 8 → st i ≤ 1000 ∧ Alone p (st i) (M.qav (w * 8 + (i : Int))) (R i)
theorem qfk {p : List D.Ins} (hq : M.qaS p = true) {t : Int} (ht : 0 ≤ t ∧ t ≤ 23) : M.qbA p (M.qav t) = true := by
 have hl0 : M.qav t = ⟨t, 0, [0, 0, 0, 0]⟩ := by
  unfold M.qav
  rw [if_pos (by simp only [M.isIn, Bool.and_eq_true, decide_eq_true_eq]; omega)]
 rw [hl0]
 unfold M.qbA M.qd0 M.qcL
 rw [qd7 hq]
 simp only [M.isIn, Bool.and_eq_true, decide_eq_true_eq]
 exact ⟨trivial, ht, ⟨by omega, by omega⟩, rfl, rfl⟩
theorem qfo {p : List D.Ins} (hq : M.qaS p = true) {t : Int} (ht : 0 ≤ t ∧ t ≤ 23) {k : Nat} {R : List Int} (hk : k ≤ 1000) (h : Alone p k (M.qav t) R) :
    M.qdF p t = (k : Int) ∧ (M.qb3 p t).2 = true ∧ (M.qb3 p t).1.Regs = R := by
 have hok := qfk hq ht
 have e : M.qaV p (M.qav t) 1000 = M.runN p 1000 (M.qav t) 0 := by
  unfold M.qaV
  rw [if_pos (by rw [hq, hok]; rfl)]; rfl
 obtain ⟨g1, g2, g3⟩ := qf0 k 1000 _ 0 R h hk
 unfold M.qdF M.qb3
 rw [e, g1, g2, if_neg (by omega), if_neg (by omega), if_neg (by omega), if_neg (by omega)]
 exact ⟨by omega, rfl, g3⟩
theorem qfK.lane {p : List D.Ins} {w : Int} {st : Nat → Nat} {R : Nat → List Int} (h : qfK p w st R) {i : Nat} (hi : i < 8) : M.qdF p (w * 8 + (i : Int)) = (st i : Int) ∧ (M.qb3 p (w * 8 + (i : Int))).2 = true ∧ (M.qb3 p (w * 8 + (i : Int))).1.Regs = R i :=
 qfo h.quiet (by have := h.num; omega) (h.each i hi).1 (h.each i hi).2
end Go.V
namespace Go.V
open IntKind (wrap)
theorem qfK.qb8 {p : List D.Ins} {w : Int} {st : Nat → Nat} {R : Nat → List Int} (h : qfK p w st R) : M.qb8 p (w * 8) 8 = (M.qbC p (w * 8) 8, true) := by
 unfold M.qb8
 rw [if_pos]
 ·rfl
 ·rw [Bool.and_eq_true, Bool.and_eq_true]
  refine ⟨rfl, by have := h.num; simp only [M.isIn, Bool.and_eq_true, decide_eq_true_eq]; omega, ?_⟩
  unfold M.qeJ
  rw [List.all_eq_true]
  intro i hi
  exact (h.lane (List.mem_range.1 hi)).2.1
end Go.V
namespace Go.V
open IntKind (wrap)
def wp.qaD (b : List Int) (Q : (List D.Ins) → Prop) : Prop :=
 (M.qbZ b ∧ ∀ a, a = M.qaf b → (M.qce (⟨b, a.i, a.h⟩ : D.Cur) ∧ ∀ c, c = M.qaa (⟨b, a.i, a.h⟩ : D.Cur) → Q c.1))
end Go.V
namespace Go.V
open IntKind (wrap)
theorem wp.qaD.math (b : List Int) (h : M.qbX b) : wp.qaD b (fun r => r = M.qaD b) := by
 have hn := qfz h
 refine ⟨h, fun r hr => ?_⟩
 have e : (⟨b, r.i, r.h⟩ : D.Cur) = M.qaf b := by subst hr; rfl
 rw [e]
 refine ⟨hn, fun r2 hr2 => ?_⟩
 subst hr2; rfl
theorem qfu {b : List Int} (h : M.Long b) {k n : Int} (h0 : 0 ≤ k) (hk : k < 12) (hn : 0 < n) : 0 ≤ Int.tmod (rd (M.qal b) k) n ∧ Int.tmod (rd (M.qal b) k) n < n := by
 have hpl : (M.qal b).length = 12 := qd5 12 _
 have := qdX 12 (M.qaf b) _ (qex (xs := M.qal b) (i := k) h0 (by omega))
 exact qfi this.1 hn
theorem qfO (b : List Int) (h : M.Long b) : (M.qaD b).length ≤ 22 ∧ M.qaS (M.qaD b) = true := by
 have := qes (qfz h)
 exact ⟨this.2, this.1⟩
end Go.V
namespace Go.V
open IntKind (wrap)
def wp.qaP (b : List D.Ins) (e : Int) (Q : Int → Prop) : Prop :=
 qdg (σ := Int × Int × Unit) (fun (f : Int × Int × Unit) d => match f with | (c, a, _) => qa5 (decide (a < (b.length : Int))) (((0 ≤ a ∧ a < (b.length : Int)) ∧ qa5 ((rd b a).Op == e) (d ((wrap .i64 (c + 1)), (wrap .i64 (a + 1)), ())) (d (c, (wrap .i64 (a + 1)), ())))) (Q c)) (0, 0, ())
end Go.V
namespace Go.V
open IntKind (wrap)
theorem wp.qaP.math (p : List D.Ins) (op : Int) (h : M.qbK p op) : wp.qaP p op (fun r => r = M.qaP p op) := by
 have h : p.length ≤ 9223372036854775807 := h
 refine qdq p.length (fun k => ((((p.take k).countP fun i => i.Op == op : Nat) : Int), (k : Int), ())) (fun _ => True) rfl trivial (fun k hk _ next hn => ?_) fun _ next => qbI (by simp) (by rw [List.take_length]; rfl)
 have hn := hn trivial
 rw [List.take_add_one, List.getElem?_eq_getElem hk, Option.toList_some, List.countP_append, List.countP_singleton] at hn
 have hc : (p.take k).countP (fun i => i.Op == op) ≤ k := Nat.le_trans List.countP_le_length (by rw [List.length_take]; omega)
 dsimp only
 rw [up64 hk h, qbM hk]
 refine qbn (by simp; omega) ⟨⟨by omega, by omega⟩, qa8 (fun e => ?_) fun e => ?_⟩
 ·rw [e] at hn
  rw [up64 (k := (p.take k).countP fun i => i.Op == op) (n := p.length) (by omega) h]
  exact hn
 ·rw [e] at hn
  exact hn
end Go.V
namespace Go.V
open IntKind (wrap)
def qbw (p : List D.Ins) (k : Nat) : List D.Ins := M.qa3 (p.map (M.qbs (k : Int))) (k : Int) [⟨0, 0, 0, 0⟩]
theorem qeU (p : List D.Ins) (k : Nat) : qbw p k = (p.map (M.qbs (k : Int))).take k ++ [⟨0, 0, 0, 0⟩] ++ (p.map (M.qbs (k : Int))).drop k := by
 unfold qbw M.qa3; rw [Int.toNat_natCast]
theorem qdd {p : List D.Ins} {k : Nat} (hk : k ≤ p.length) : (qbw p k).length = p.length + 1 := by
 rw [qeU]; simp; omega
theorem qgi (k : Int) (i : D.Ins) : (M.qbs k i).Op = i.Op := by unfold M.qbs; split <;> rfl
theorem up_a (k : Int) (i : D.Ins) : (M.qbs k i).A = i.A := by unfold M.qbs; split <;> rfl
theorem qgQ {p : List D.Ins} {k : Nat} (hk : k ≤ p.length) {x : Nat} (hx : x < p.length) : rd (qbw p k) (((if x < k then x else x + 1) : Nat) : Int) = M.qbs (k : Int) (rd p (x : Int)) := by
 have hl := qdd hk
 rw [qbM (by split <;> omega), qbM hx]
 have e : (qbw p k)[if x < k then x else x + 1]? = some (M.qbs (k : Int) p[x]) := by
  rw [qeU, List.append_assoc]
  by_cases c : x < k
  ·rw [if_pos c, List.getElem?_append_left (by simp; omega), List.getElem?_take_of_lt c, List.getElem?_map, List.getElem?_eq_getElem hx]; rfl
  ·rw [if_neg c, List.getElem?_append_right (by simp; omega)]
   have e1 : ((p.map (M.qbs (k : Int))).take k).length = k := by simp; omega
   rw [e1, show x + 1 - k = (x - k) + 1 by omega, List.singleton_append, List.getElem?_cons_succ, List.getElem?_drop, show k + (x - k) = x by omega, List.getElem?_map, List.getElem?_eq_getElem hx]; rfl
 exact (List.getElem?_eq_some_iff.1 e).2
theorem qfl {p : List D.Ins} {k : Nat} (hk : k ≤ p.length) : rd (qbw p k) (k : Int) = ⟨0, 0, 0, 0⟩ := by
 have hl := qdd hk
 rw [qbM (by omega)]
 have e : (qbw p k)[k]? = some ⟨0, 0, 0, 0⟩ := by
  rw [qeU, List.append_assoc, List.getElem?_append_right (by simp; omega)]
  have e1 : ((p.map (M.qbs (k : Int))).take k).length = k := by simp; omega
  rw [e1, Nat.sub_self]; rfl
 exact (List.getElem?_eq_some_iff.1 e).2
def psi (k x : Int) : Int := if x ≤ k then x else x + 1
theorem qgo (k : Int) (i : D.Ins) (t : Int) (r : List Int) : M.apply (M.qbs k i) t r = M.apply i t r := by
 unfold M.qbs
 split
 ·rename_i h
  unfold M.apply
  rcases h.1 with h | h <;> simp [h]
 ·rfl
theorem qfA {p : List D.Ins} {k : Nat} (hk : k ≤ p.length) {x : Nat} (hx : x < p.length) {t : Int} {r : List Int} (hok : M.qb9 (rd p (x : Int)) p.length = true) {j c : Nat} {R : List Int}
    (hA : Alone p j (M.step p ⟨t, (x : Int), r⟩) R) (hQ : (rd p (x : Int)).Op ≠ 12 → Alone (qbw p k) c ⟨t, psi k (M.step p ⟨t, (x : Int), r⟩).Pc, (M.step p ⟨t, (x : Int), r⟩).Regs⟩ R) :
    ∃ c', c' ≤ c + 1 ∧ Alone (qbw p k) c' ⟨t, (((if x < k then x else x + 1) : Nat) : Int), r⟩ R := by
 have hl := qdd hk
 have hi := qgQ hk hx
 have hlt : (if x < k then x else x + 1) < (qbw p k).length := by split <;> omega
 obtain ⟨y, hy⟩ : ∃ y : Nat, y = if x < k then x else x + 1 := ⟨_, rfl⟩
 rw [← hy] at hi hlt ⊢
 have hR : (M.step (qbw p k) ⟨t, (y : Int), r⟩).Regs = (M.step p ⟨t, (x : Int), r⟩).Regs := by
  show M.apply (rd (qbw p k) (y : Int)) t r = M.apply (rd p (x : Int)) t r
  rw [hi, qgo]
 by_cases h12 : (rd p (x : Int)).Op = 12
 ·have hp : (M.step p ⟨t, (x : Int), r⟩).Pc = (p.length : Int) := by
    show M.next p (x : Int) r = _
    unfold M.next; rw [if_pos h12]
  have hj := hA.at_end hp
  refine ⟨1, by omega, ⟨by show (y : Int) < _; omega, ?_, ?_⟩⟩
  ·show M.next (qbw p k) (y : Int) r = _
   unfold M.next
   rw [hi, qgi, if_pos h12]
  ·rw [hR]; exact hj.2
 ·refine ⟨c + 1, Nat.le_refl _, ⟨by show (y : Int) < _; omega, ?_⟩⟩
  have hQ := hQ h12
  have e : M.step (qbw p k) ⟨t, (y : Int), r⟩ = ⟨t, psi k (M.step p ⟨t, (x : Int), r⟩).Pc, (M.step p ⟨t, (x : Int), r⟩).Regs⟩ := by
   have hpc : (M.step (qbw p k) ⟨t, (y : Int), r⟩).Pc = psi k (M.step p ⟨t, (x : Int), r⟩).Pc := by
    show M.next (qbw p k) (y : Int) r = psi k (M.next p (x : Int) r)
    have ft : (y : Int) + 1 = psi k ((x : Int) + 1) := by
     unfold psi
     rw [hy]
     by_cases c : x < k
     ·rw [if_pos c, if_pos (by omega)]
     ·rw [if_neg c, if_neg (by omega)]; omega
    have tg : (rd p (x : Int)).Op = 10 ∨ (rd p (x : Int)).Op = 11 → (M.qbs (k : Int) (rd p (x : Int))).B = psi k (rd p (x : Int)).B := fun h => by
     unfold M.qbs psi
     by_cases c : (rd p (x : Int)).B ≤ (k : Int)
     ·rw [if_neg (by omega), if_pos c]
     ·rw [if_pos ⟨h, by omega⟩, if_neg c]
    unfold M.next
    rw [hi, qgi, up_a, if_neg h12, if_neg h12]
    by_cases h11 : (rd p (x : Int)).Op = 11
    ·rw [if_pos h11, if_pos h11, tg (.inr h11)]
    ·rw [if_neg h11, if_neg h11]
     by_cases h10 : (rd p (x : Int)).Op = 10
     ·rw [if_pos h10, if_pos h10, tg (.inl h10)]
      split
      ·rfl
      ·exact ft
     ·rw [if_neg h10, if_neg h10]; exact ft
   show (⟨t, (M.step (qbw p k) ⟨t, (y : Int), r⟩).Pc, (M.step (qbw p k) ⟨t, (y : Int), r⟩).Regs⟩ : D.Lane) = _
   rw [hpc, hR]
  rw [e]; exact hQ
theorem qfa {p : List D.Ins} {k : Nat} (hk : k ≤ p.length) (hp : M.qar p = true) : ∀ (c : Nat) (l : D.Lane) (R : List Int), 0 ≤ l.Pc → Alone p c l R → ∃ c', c' ≤ 2 * c + 1 ∧ Alone (qbw p k) c' ⟨l.Thread, psi k l.Pc, l.Regs⟩ R
 | 0, l, R, h0, h => by
  obtain ⟨h1, h2⟩ : l.Pc = (p.length : Int) ∧ l.Regs = R := h
  have hl := qdd hk
  by_cases c : k = p.length
  ·refine ⟨1, by omega, ⟨?_, ?_, ?_⟩⟩
   ·show psi k l.Pc < _
    unfold psi; rw [if_pos (by omega)]; omega
   ·show M.next (qbw p k) (psi k l.Pc) l.Regs = _
    have e : psi k l.Pc = (k : Int) := by unfold psi; rw [if_pos (by omega)]; omega
    rw [e]
    unfold M.next
    rw [qfl hk, if_neg (show ¬ (0 : Int) = 12 by decide), if_neg (show ¬ (0 : Int) = 11 by decide), if_neg (show ¬ (0 : Int) = 10 by decide)]
    omega
   ·have e : psi k l.Pc = (k : Int) := by unfold psi; rw [if_pos (by omega)]; omega
    show M.apply (rd (qbw p k) (psi k l.Pc)) l.Thread l.Regs = R
    rw [e, qfl hk]; exact h2
  ·refine ⟨0, by omega, ⟨?_, h2⟩⟩
   show psi k l.Pc = _
   unfold psi; rw [if_neg (by omega)]; omega
 | c + 1, l, R, h0, h => by
  obtain ⟨hlt, hA⟩ : l.Pc < (p.length : Int) ∧ Alone p c (M.step p l) R := h
  obtain ⟨x, hx⟩ : ∃ x : Nat, l.Pc = (x : Int) := ⟨l.Pc.toNat, by omega⟩
  have hxl : x < p.length := by omega
  have hins : M.qb9 (rd p (x : Int)) p.length = true := by
   simp only [M.qar, Bool.and_eq_true, List.all_eq_true] at hp
   exact hp.2 _ (qex (by omega) (by omega))
  have hlane : l = ⟨l.Thread, (x : Int), l.Regs⟩ := by rw [← hx]
  have hN : M.Node p (x : Int) := ⟨hp, by omega, by omega⟩
  have hnext : (rd p (x : Int)).Op ≠ 12 → 0 ≤ (M.step p l).Pc := fun _ => by
   have hm : (M.step p l).Pc ∈ M.qfb p (x : Int) := by
    show M.next p l.Pc l.Regs ∈ _
    rw [hx]
    unfold M.next M.qfb
    rw [if_neg (by omega : ¬ (x : Int) = (p.length : Int))]
    split
    ·exact List.mem_singleton.2 rfl
    split
    ·exact List.mem_singleton.2 rfl
    split
    ·split <;> (rw [qep]; simp)
    ·exact List.mem_singleton.2 rfl
   exact ((qgy hN).1 _ hm).1
  have hex : ∃ c', c' ≤ 2 * c + 2 ∧ Alone (qbw p k) c' ⟨l.Thread, (((if x < k then x else x + 1) : Nat) : Int), l.Regs⟩ R := by
   rw [hlane] at hA
   by_cases h12 : (rd p (x : Int)).Op = 12
   ·obtain ⟨c', g1, g2⟩ := qfA hk hxl hins (c := 0) hA (fun e => absurd h12 e)
    exact ⟨c', by omega, g2⟩
   ·have h0' := hnext h12
    rw [hlane] at h0'
    obtain ⟨c1, g1, g2⟩ := qfa hk hp c _ R h0' hA
    obtain ⟨c', k1, k2⟩ := qfA hk hxl hins (c := c1) hA (fun _ => g2)
    exact ⟨c', by omega, k2⟩
  obtain ⟨c', g1, g2⟩ := hex
  have hl := qdd hk
  by_cases c1 : x < k
  ·rw [if_pos c1] at g2
   refine ⟨c', by omega, ?_⟩
   have e : psi k l.Pc = (x : Int) := by unfold psi; rw [if_pos (by omega)]; exact hx
   rw [e]; exact g2
  ·rw [if_neg c1] at g2
   by_cases c2 : x = k
   ·refine ⟨c' + 1, by omega, ⟨?_, ?_⟩⟩
    ·show psi k l.Pc < _
     unfold psi; rw [if_pos (by omega)]; omega
    ·have e : psi k l.Pc = (k : Int) := by unfold psi; rw [if_pos (by omega)]; omega
     have s : M.step (qbw p k) ⟨l.Thread, psi k l.Pc, l.Regs⟩ = ⟨l.Thread, ((x + 1 : Nat) : Int), l.Regs⟩ := by
      rw [e]
      show (⟨l.Thread, M.next (qbw p k) (k : Int) l.Regs, M.apply (rd (qbw p k) (k : Int)) l.Thread l.Regs⟩ : D.Lane) = _
      unfold M.next
      rw [qfl hk, if_neg (show ¬ (0 : Int) = 12 by decide), if_neg (show ¬ (0 : Int) = 11 by decide), if_neg (show ¬ (0 : Int) = 10 by decide), show ((k : Int) + 1) = ((x + 1 : Nat) : Int) by omega]
      rfl
     rw [s]; exact g2
   ·refine ⟨c', by omega, ?_⟩
    have e : psi k l.Pc = ((x + 1 : Nat) : Int) := by unfold psi; rw [if_neg (by omega)]; omega
    rw [e]; exact g2
end Go.V
namespace Go.V
open IntKind (wrap)
theorem qgg {i : D.Ins} {n : Int} (h : M.qb9 i n = true) (hn : 0 ≤ n ∧ n < 32) : M.qb9 i (n + 1) = true := by
 have e : M.isIn (n + 1) 0 32 = true := by simp only [M.isIn, Bool.and_eq_true, decide_eq_true_eq]; omega
 unfold M.qb9 at h ⊢
 rw [Bool.and_eq_true] at h
 have h := h.2
 rw [e, Bool.true_and]
 by_cases h10 : i.Op = 10
 ·simp [h10, M.isIn] at h ⊢
  exact ⟨h.1, ⟨h.2.1.1, by omega⟩, h.2.2⟩
 by_cases h11 : i.Op = 11
 ·simp [h11, M.isIn] at h ⊢
  exact ⟨h.1, ⟨h.2.1.1, by omega⟩, h.2.2⟩
 simp only [h10, h11, if_false] at h ⊢
 exact h
theorem qgk {i : D.Ins} {n k : Int} (h : M.qb9 i n = true) (hn : 0 ≤ n ∧ n < 32) (hk : 0 ≤ k) : M.qb9 (M.qbs k i) (n + 1) = true := by
 unfold M.qbs
 split
 ·rename_i c
  have e : M.isIn (n + 1) 0 32 = true := by simp only [M.isIn, Bool.and_eq_true, decide_eq_true_eq]; omega
  unfold M.qb9 at h ⊢
  rw [Bool.and_eq_true] at h
  have h := h.2
  rw [e, Bool.true_and]
  rcases c.1 with h10 | h11
  ·simp [h10, M.isIn] at h ⊢
   exact ⟨h.1, by omega, h.2.2⟩
  ·simp [h11, M.isIn] at h ⊢
   exact ⟨h.1, by omega, h.2.2⟩
 ·exact qgg h hn
theorem qg9 {p : List D.Ins} {k : Nat} {i : D.Ins} (h : i ∈ qbw p k) : i = ⟨0, 0, 0, 0⟩ ∨ ∃ j ∈ p, i = M.qbs (k : Int) j := by
 rw [qeU] at h
 simp only [List.mem_append, List.mem_singleton] at h
 have m : ∀ {x}, x ∈ p.map (M.qbs (k : Int)) → ∃ j ∈ p, x = M.qbs (k : Int) j := fun hx => by
  obtain ⟨j, h1, h2⟩ := List.mem_map.1 hx
  exact ⟨j, h1, h2.symm⟩
 rcases h with (h | h) | h
 ·exact .inr (m (List.mem_of_mem_take h))
 ·exact .inl h
 ·exact .inr (m (List.mem_of_mem_drop h))
theorem qeY {p : List D.Ins} {k : Nat} (hq : M.qaS p = true) (hl : p.length < 32) (hk : k ≤ p.length) : M.qaS (qbw p k) = true := by
 have hlen := qdd hk
 simp only [M.qaS, M.qar, Bool.and_eq_true, List.all_eq_true, decide_eq_true_eq] at hq ⊢
 obtain ⟨⟨h1, h2⟩, h3⟩ := hq
 refine ⟨⟨by omega, fun i hi => ?_⟩, fun i hi => ?_⟩
 ·rw [hlen]
  rcases qg9 hi with rfl | ⟨j, hj, rfl⟩
  ·have e : M.isIn ((p.length + 1 : Nat) : Int) 0 32 = true := by simp only [M.isIn, Bool.and_eq_true, decide_eq_true_eq]; omega
   unfold M.qb9
   rw [e]; rfl
  ·have := qgk (h2 j hj) (n := (p.length : Int)) (k := (k : Int)) (by omega) (by omega)
   rw [show ((p.length + 1 : Nat) : Int) = (p.length : Int) + 1 by push_cast; rfl]
   exact this
 ·rcases qg9 hi with rfl | ⟨j, hj, rfl⟩
  ·rfl
  ·have := h3 j hj
   unfold M.qbq at this ⊢
   rw [qgi]; exact this
theorem qg8 {p : List D.Ins} {k : Nat} : (qbw p k).countP (fun i => i.Op == 0) = p.countP (fun i => i.Op == 0) + 1 := by
 have e : ∀ l : List D.Ins, (l.map (M.qbs (k : Int))).countP (fun i => i.Op == 0) = l.countP (fun i => i.Op == 0) := fun l => by
  rw [List.countP_map]
  congr 1
  funext i
  show ((M.qbs (k : Int) i).Op == 0) = _
  rw [qgi]
 rw [qeU, List.countP_append, List.countP_append, ← e p]
 have h := List.take_append_drop k (p.map (M.qbs (k : Int)))
 have h2 : (p.map (M.qbs (k : Int))).countP (fun i => i.Op == 0) = ((p.map (M.qbs (k : Int))).take k).countP (fun i => i.Op == 0) + ((p.map (M.qbs (k : Int))).drop k).countP (fun i => i.Op == 0) := by
  rw [← List.countP_append, h]
 rw [h2]
 have h3 : [(⟨0, 0, 0, 0⟩ : D.Ins)].countP (fun i => i.Op == 0) = 1 := rfl
 rw [h3]; omega
theorem qf4 {α β : Type} (a : α) : ∀ l : List β, l.foldl (fun m (_ : β) => m) a = a
 | [] => rfl
 | _ :: l => qf4 a l
theorem qfZ (l : List Int) (n : Nat) : M.qcI l l n = 0 := by
 unfold M.qcI
 simp only [if_true]
 exact qf4 0 _
theorem qg6 {c : D.Cur} (hc : M.qbH c) {k : Nat} (hk : k ≤ (M.qaa c).1.length) {w : Int} (hw : 0 ≤ w ∧ w ≤ 2) : ∃ st st' R, qfK (M.qaa c).1 w st R ∧ qfK (qbw (M.qaa c).1 k) w st' R := by
 obtain ⟨h1, h2, s, h3, h4, h5⟩ := qen hc
 have hq := qes hc
 have hok := qd7 hq.1
 have hq2 := qeY hq.1 (by have := hq.2; omega) hk
 have key : ∀ i : Nat, ∃ y : Nat × Nat × List Int, i < 8 → y.1 ≤ 402 ∧ y.2.1 ≤ 805 ∧ Alone (M.qaa c).1 y.1 (M.qav (w * 8 + (i : Int))) y.2.2 ∧ Alone (qbw (M.qaa c).1 k) y.2.1 (M.qav (w * 8 + (i : Int))) y.2.2 := fun i => by
  by_cases hi : i < 8
  ·obtain ⟨n, R, g1, g2⟩ := qg2 h3 h4 h5 (t := w * 8 + (i : Int)) (by omega)
   have hl0 : M.qav (w * 8 + (i : Int)) = ⟨w * 8 + (i : Int), 0, [0, 0, 0, 0]⟩ := by
    unfold M.qav
    rw [if_pos (by simp only [M.isIn, Bool.and_eq_true, decide_eq_true_eq]; omega)]
   obtain ⟨c', k1, k2⟩ := qfa hk hok n _ R (by rw [hl0]; exact Int.le_refl _) g2
   refine ⟨(n, c', R), fun _ => ⟨g1, by show c' ≤ 805; omega, g2, ?_⟩⟩
   have e : psi (k : Int) 0 = 0 := by unfold psi; rw [if_pos (by omega)]
   rw [hl0] at k2 ⊢
   have k2 : Alone (qbw (M.qaa c).1 k) c' ⟨w * 8 + (i : Int), psi (k : Int) 0, [0, 0, 0, 0]⟩ R := k2
   rw [e] at k2
   exact k2
  ·exact ⟨(0, 0, []), fun h => absurd h hi⟩
 refine ⟨fun i => (Classical.choose (key i)).1, fun i => (Classical.choose (key i)).2.1, fun i => (Classical.choose (key i)).2.2, ⟨hq.1, hw, fun i hi => ?_⟩, ⟨hq2, hw, fun i hi => ?_⟩⟩
 ·have := Classical.choose_spec (key i) hi
  exact ⟨by have := this.1; omega, this.2.2.1⟩
 ·have := Classical.choose_spec (key i) hi
  exact ⟨by have := this.2.1; omega, this.2.2.2⟩
theorem qeC {c : D.Cur} (hc : M.qbH c) {k : Nat} (hk : k ≤ (M.qaa c).1.length) {w : Int} (hw : 0 ≤ w ∧ w ≤ 2) : M.qbN (M.qaa c).1 (qbw (M.qaa c).1 k) w = 0 := by
 obtain ⟨st, st', R, e1, e2⟩ := qg6 hc hk hw
 unfold M.qbN
 rw [e1.qb8, e2.qb8, if_pos (by simp only [M.isIn, Bool.and_self, Bool.and_true, Bool.and_eq_true, decide_eq_true_eq]; exact hw)]
 have : M.qbC (qbw (M.qaa c).1 k) (w * 8) 8 = M.qbC (M.qaa c).1 (w * 8) 8 := by
  unfold M.qbC
  refine qf8 _ fun i hi => ?_
  rw [(e1.lane (List.mem_range.1 hi)).2.2, (e2.lane (List.mem_range.1 hi)).2.2]
 show M.qcI (M.qbC _ _ 8) (M.qbC _ _ 8) 32 = 0
 rw [this]; exact qfZ _ _
end Go.V
namespace Go.V
open IntKind (wrap)
def wp.qaU (c : List D.Ins) (e : Int) (Q : ((List D.Ins) × Bool) → Prop) : Prop :=
 (M.qb4 c ∧ ∀ d, d = M.qa9 c → (M.qbd c ∧ ∀ f, f = M.qan c → qa5 (!f) (Q (d, false)) (qa5 ((c.length : Int) == 32) (Q (d, false)) ((∀ g, g = M.qab e 0 (c.length : Int) → qa5 (!g) (Q (d, false)) (qdg (σ := Int × (List D.Ins) × Unit) (fun (l : Int × (List D.Ins) × Unit) h => match l with | (a, b, _) => qa5 (decide (a < (d.length : Int))) (((0 ≤ a ∧ a < (b.length : Int)) ∧ qfn (σ := Bool × Unit) (fun i => (∀ j, j = M.qaR ((rd b a).Op) → qa5 j (i ((decide ((rd b a).B > e)), ())) (i (false, ())))) (fun (m : Bool × Unit) => match m with | (n, _) => qa5 n (((0 ≤ a ∧ a < (b.length : Int)) ∧ ((0 ≤ a ∧ a < (b.length : Int)) ∧ h ((wrap .i64 (a + 1)), (List.set b (a.toNat) (⟨(rd b a).Op, (rd b a).A, (wrap .i64 ((rd b a).B + 1)), (rd b a).C⟩ : D.Ins)), ())))) (h ((wrap .i64 (a + 1)), b, ()))))) ((M.qbm b e ([(⟨0, 0, 0, 0⟩ : D.Ins)] : List D.Ins) ∧ ∀ k, k = M.qa3 b e ([(⟨0, 0, 0, 0⟩ : D.Ins)] : List D.Ins) → Q (k, true)))) (0, d, ())))))))
def wp.qbl (d : List Int) (Q : Bool → Prop) : Prop :=
 (∀ e, e = M.qbP d → qa5 e (Q true) ((M.qbX d ∧ ∀ a, a = M.qaD d → (M.qbR d ∧ ∀ c, c = M.qal d → ((0 ≤ (0 : Int) ∧ (0 : Int) < (c.length : Int)) ∧ ((((wrap .i64 ((a.length : Int) + 1)) : Int) ≠ 0) ∧ (M.qbz a (Int.tmod (rd c 0) (wrap .i64 ((a.length : Int) + 1))) ∧ ∀ b, b = M.qaU a (Int.tmod (rd c 0) (wrap .i64 ((a.length : Int) + 1))) → qa5 ((a.length : Int) == 32) (Q (!b.2)) (qa5 b.2 ((M.qbO b.1 ∧ ∀ f, f = M.qaJ b.1 → qa5 f (qa5 ((b.1.length : Int) == (wrap .i64 ((a.length : Int) + 1))) ((M.qbK b.1 0 ∧ ∀ g, g = M.qaP b.1 0 → (M.qbK a 0 ∧ ∀ h, h = M.qaP a 0 → qa5 (g == (wrap .i64 (h + 1))) (((0 ≤ (1 : Int) ∧ (1 : Int) < (c.length : Int)) ∧ (M.qbt a b.1 (Int.tmod (rd c 1) 3) ∧ ∀ i, i = M.qao a b.1 (Int.tmod (rd c 1) 3) → Q (i == 0)))) (Q false)))) (Q false)) (Q false))) (Q false)))))))))
end Go.V
namespace Go.V
open IntKind (wrap)
theorem qgS {p : List D.Ins} {x : Int} {k : Nat} (hk : k < p.length) : rd ((p.map (M.qbs x)).take k ++ p.drop k) (k : Int) = rd p (k : Int) ∧
    (p.map (M.qbs x)).take (k + 1) ++ p.drop (k + 1) = ((p.map (M.qbs x)).take k ++ p.drop k).set k (M.qbs x (rd p (k : Int))) := by
 have hl : ((p.map (M.qbs x)).take k).length = k := by simp; omega
 refine ⟨?_, ?_⟩
 ·rw [qbM (by simp; omega), List.getElem_append_right (by omega), qbM hk]
  simp [hl]
 ·rw [List.set_append_right _ _ (by omega), hl, Nat.sub_self, List.drop_eq_getElem_cons hk, List.set_cons_zero, List.take_add_one, List.getElem?_map, List.getElem?_eq_getElem hk, qbM hk]
  simp
theorem wp.qaU.math (p : List D.Ins) (x : Int) (h : M.qbz p x) : wp.qaU p x (fun r => r = M.qaU p x) := by
 have h : p.length ≤ 17179869184 := h
 refine ⟨h, fun r hr => ⟨by unfold M.qbd M.Long; omega, fun ok hok => ?_⟩⟩
 have hr : r = p := hr
 have hok : ok = M.qar p := hok
 subst hr hok
 refine qa8 (fun e => ?_) fun e => ?_
 ·have e : M.qar r = false := by simpa using e
  show (r, false) = M.qbB r x
  unfold M.qbB
  rw [if_neg (by rw [e]; simp)]
 have ok : M.qar r = true := by simpa using e
 have hl : r.length ≤ 32 := by simp only [M.qar, Bool.and_eq_true, decide_eq_true_eq] at ok; exact ok.1
 refine qa8 (fun e => ?_) fun e => ?_
 ·have e : r.length = 32 := by have : (r.length : Int) = 32 := by simpa using e
                               omega
  show (r, false) = M.qbB r x
  unfold M.qbB
  rw [if_neg (by rw [e]; simp)]
 have hne : r.length ≠ 32 := fun g => by rw [g] at e; simp at e
 intro r33 h33
 have h33 : r33 = M.isIn x 0 r.length := h33
 refine qa8 (fun e => ?_) fun e => ?_
 ·have e : M.isIn x 0 r.length = false := by rw [← h33]; simpa using e
  show (r, false) = M.qbB r x
  unfold M.qbB
  rw [if_neg (by rw [e]; simp)]
 have hin : M.isIn x 0 r.length = true := by rw [← h33]; simpa using e
 have hx : 0 ≤ x ∧ x ≤ (r.length : Int) := by simp only [M.isIn, Bool.and_eq_true, decide_eq_true_eq] at hin; exact hin
 have hall : ∀ i ∈ r, M.qb9 i r.length = true := by simp only [M.qar, Bool.and_eq_true, List.all_eq_true] at ok; exact ok.2
 refine qdq r.length (fun k => ((k : Int), (r.map (M.qbs x)).take k ++ r.drop k, ())) (fun _ => True) (by simp) trivial (fun k hk _ next hn => ?_) fun _ next => ?_
 ·have hn := hn trivial
  obtain ⟨u1, u2⟩ := qgS (x := x) hk
  rw [u2] at hn
  have hlen : ((r.map (M.qbs x)).take k ++ r.drop k).length = r.length := by simp; omega
  generalize (r.map (M.qbs x)).take k ++ r.drop k = xs at *
  dsimp only
  rw [u1, up64 hk (by omega)]
  generalize hi : rd r (k : Int) = i at *
  have hio := hall _ (qex (xs := r) (i := (k : Int)) (by omega) (by omega))
  rw [hi] at hio
  refine qbn (by simp; omega) ⟨⟨by omega, by omega⟩, qeN (decide ((i.Op = 10 ∨ i.Op = 11) ∧ i.B > x), ()) ?_ fun J hJ => fun r97 h97 => ?_⟩
  ·refine qa8 (fun c => ?_) fun c => ?_
   ·have c : (i.Op = 10 ∨ i.Op = 11) ∧ i.B > x := by simpa using c
    have hB : i.B ≤ 32 := by
     unfold M.qb9 at hio
     rw [Bool.and_eq_true] at hio
     have hio := hio.2
     rcases c.1 with h10 | h11
     ·simp [h10, M.isIn] at hio; omega
     ·simp [h11, M.isIn] at hio; omega
    rw [w64 (by omega) (by omega), Int.toNat_natCast]
    unfold M.qbs at hn
    rw [if_pos c] at hn
    exact ⟨⟨by omega, by omega⟩, ⟨by omega, by omega⟩, hn⟩
   ·have c : ¬ ((i.Op = 10 ∨ i.Op = 11) ∧ i.B > x) := by simpa using c
    unfold M.qbs at hn
    rw [if_neg c] at hn
    have e : xs.set k i = xs := by
     have hk2 : k < xs.length := by omega
     rw [qbM hk2] at u1
     rw [← u1, List.set_getElem_self]
    rw [e] at hn
    exact hn
  ·have h97 : r97 = M.qdr i.Op := h97
   refine qa8 (fun c => ?_) fun c => ?_
   ·have c : i.Op = 10 ∨ i.Op = 11 := by rw [h97] at c; simpa [M.qdr] using c
    have e : decide (i.B > x) = decide ((i.Op = 10 ∨ i.Op = 11) ∧ i.B > x) := by simp [c]
    rw [e]; exact hJ
   ·have c : ¬ (i.Op = 10 ∨ i.Op = 11) := by rw [h97] at c; simpa [M.qdr] using c
    have e : false = decide ((i.Op = 10 ∨ i.Op = 11) ∧ i.B > x) := by simp [c]
    rw [e]; exact hJ
 ·have e : (r.map (M.qbs x)).take r.length ++ r.drop r.length = r.map (M.qbs x) := by
    rw [List.drop_length, List.append_nil]
    exact List.take_of_length_le (by simp)
  dsimp only
  rw [e]
  refine qbI (by simp) ⟨⟨hx.1, by simpa using hx.2, by simp; omega, rfl⟩, fun r128 h128 => ?_⟩
  show (r128, true) = M.qbB r x
  unfold M.qbB
  rw [if_pos (by rw [ok, hin]; simpa using hne), h128]
theorem qg4 {p : List D.Ins} (hq : M.qaS p = true) (hl : p.length < 32) {k : Nat} (hk : k ≤ p.length) : M.qbB p (k : Int) = (qbw p k, true) := by
 unfold M.qbB
 rw [if_pos]
 ·rfl
 ·have e : M.isIn (k : Int) 0 p.length = true := by simp only [M.isIn, Bool.and_eq_true, decide_eq_true_eq]; omega
  rw [qd7 hq, e]
  simp; omega
theorem wp.qbl.math (b : List Int) (h : M.qcr b) : wp.qbl b (fun r => r = M.qbl b) := by
 intro r0 _
 have hpl : (M.qal b).length = 12 := qd5 12 _
 refine qa8 (fun _ => rfl) fun _ => ⟨h, fun p gp => ⟨h, fun pl gpl => ?_⟩⟩
 have hq : p.length ≤ 22 ∧ M.qaS p = true := by rw [gp]; exact qfO b h
 have w0 := qfu h (k := 0) (n := (p.length : Int) + 1) (by omega) (by omega) (by omega)
 have w1 := qfu h (k := 1) (n := 3) (by omega) (by omega) (by omega)
 rw [← gpl] at w0 w1 hpl
 have hd : ∀ k : Nat, k ≤ p.length → M.qbN p (qbw p k) (Int.tmod (rd pl 1) 3) = 0 := fun k hk => by
  have gp : p = (M.qaa (M.qaf b)).1 := gp
  rw [gp] at hk ⊢
  exact qeC (qfz h) hk (by omega)
 clear gp gpl
 have wr : wrap .i64 ((p.length : Int) + 1) = (p.length : Int) + 1 := w64 (by omega) (by omega)
 rw [wr]
 refine ⟨⟨by omega, by omega⟩, by omega, by unfold M.qbz; omega, fun r hr => ?_⟩
 obtain ⟨k, hk⟩ : ∃ k : Nat, Int.tmod (rd pl 0) ((p.length : Int) + 1) = (k : Int) := ⟨(Int.tmod (rd pl 0) ((p.length : Int) + 1)).toNat, by omega⟩
 rw [hk] at hr w0
 have hkl : k ≤ p.length := by omega
 have hr : r = (qbw p k, true) := Eq.trans hr (qg4 hq.2 (by omega) hkl)
 have hl := qdd hkl
 have hq2 := qeY hq.2 (by omega) hkl
 have hc : (qbw p k).countP (fun i => i.Op == 0) = p.countP (fun i => i.Op == 0) + 1 := qg8
 have hd := hd k hkl
 have hcl : p.countP (fun i => i.Op == 0) ≤ p.length := List.countP_le_length
 subst hr
 generalize qbw p k = q at *
 refine qbI (by simp; omega) (qbn rfl ⟨by show q.length ≤ 9223372036854775807; omega, fun r1 h1 => qbn (h1.trans hq2) (qbn (by rw [hl]; simp) ⟨by show q.length ≤ 9223372036854775807; omega, fun a ha => ⟨by show p.length ≤ 9223372036854775807; omega, fun c gc => qbn ?_ ⟨⟨by omega, by omega⟩, ⟨by show p.length ≤ 9223372036854775807; omega, by show q.length ≤ 9223372036854775807; omega⟩, fun d gd => ?_⟩⟩⟩)⟩)
 ·have ha : a = ((q.countP (fun i => i.Op == 0) : Nat) : Int) := ha
  have gc : c = ((p.countP (fun i => i.Op == 0) : Nat) : Int) := gc
  rw [ha, gc, hc, w64 (by omega) (by omega)]
  simp
 ·have gd : d = M.qbN p q (Int.tmod (rd pl 1) 3) := gd
  rw [gd, hd]; rfl
end Go.V
