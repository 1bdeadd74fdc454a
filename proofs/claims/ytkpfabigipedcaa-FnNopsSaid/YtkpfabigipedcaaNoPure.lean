import Derived.Test.YtkpfabigipedcaaNoVLoop
set_option linter.unusedVariables false
namespace Go.V.D
structure Ins where
 Op : Int
 A : Int
 B : Int
 C : Int
 deriving Inhabited, DecidableEq
structure Frame where
 Pc : Int
 Stop : Int
 Mask : Int
 deriving Inhabited, DecidableEq
structure Lane where
 Thread : Int
 Pc : Int
 Regs : List Int
 deriving Inhabited, DecidableEq
structure Warp where
 Number : Int
 Frames : List Frame
 Regs : List Int
 deriving Inhabited, DecidableEq
structure Block where
 Code : List Ins
 Warps : List Warp
 Memory : List Int
 Waiting : Int
 Phase : Int
 deriving Inhabited, DecidableEq
structure Cur where
 b : List Int
 i : Int
 h : Int
 deriving Inhabited, DecidableEq
end Go.V.D
namespace Go.V.M
def isIn (x a b : Int) : Bool := decide (a ≤ x) && decide (x ≤ b)
def qab (x a b : Int) : Bool := isIn x a b
def qfI (x a b : Int) : Bool := isIn x a b
def isWord (n : Int) : Bool := isIn n 0 65535
def qau := isWord
def qee := isWord
def qdy (l : List Int) : Prop := l.length ≤ 9223372036854775807
def qav (t : Int) : D.Lane := if isIn t 0 23 then ⟨t, 0, [0, 0, 0, 0]⟩ else ⟨0, 0, []⟩
def qaQ (l : List Int) : Bool := l.all isWord
def qc8 := qdy
def qaA (n : Int) : Bool := !isWord n
def Long {α : Type} (l : List α) : Prop := l.length ≤ 9223372036854775807
def qaX (n : Int) : Int := n % 65536
def qaq (a b n : Int) : Int := if isWord a && isWord b then n % 65536 else 0
def addW (a b : Int) : Int := if isWord a && isWord b then (a + b) % 65536 else 0
def qeL := addW
def qaN := addW
def qck {α : Type} (g : α → Bool) : List α → Nat → Int
 | [], _ => -1
 | x :: l, i => if g x then (i : Int) else qck g l (i + 1)
def qa7 (l : List Int) (g : Int → Bool) : Int := qck g l 0
def qbh (l : List Int) (g : Int → Bool) (D : Int → Prop) : Prop := Long l ∧ ∀ x ∈ l, D x
def qa6 (l : List Int) (g : Int → Bool) : Bool := l.any g
def qba (l : List Int) (g : Int → Bool) (D : Int → Prop) : Prop := Long l ∧ ∀ x ∈ l, D x
def qax (n : Int) : Bool := isIn n 0 23
def qaZ := qav
def qak (l : List Int) : List Int := l
def qbe (l : List Int) : Prop := l.length ≤ 17179869184
def qb1 (l : D.Lane) : D.Lane := l
def qcd (l : D.Lane) : Prop := l.Regs.length ≤ 17179869184
def qbq (i : D.Ins) : Bool := isIn i.Op 0 12
def qb0 := qbq
def qcT (n : Int) : Bool := isIn n 0 3
def qbi := qcT
def qb9 (i : D.Ins) (n : Int) : Bool := isIn n 0 32 &&
 (if i.Op = 0 ∨ i.Op = 12 ∨ i.Op = 16 then i.A == 0 && (i.B == 0 && i.C == 0)
 else if i.Op = 1 then qcT i.A && (isWord i.B && i.C == 0)
 else if i.Op = 2 ∨ i.Op = 13 ∨ i.Op = 14 ∨ i.Op = 15 then qcT i.A && (qcT i.B && i.C == 0)
 else if i.Op = 8 then qcT i.A && (i.B == 0 && i.C == 0)
 else if i.Op = 10 then qcT i.A && (isIn i.B 0 n && i.C == 0)
 else if i.Op = 11 then i.A == 0 && (isIn i.B 0 n && i.C == 0)
 else isIn i.Op 3 9 && (qcT i.A && (qcT i.B && qcT i.C)))
def qah := qb9
def qcQ (op : Int) : ByteArray :=
 if op = 0 ∨ op = 12 ∨ op = 16 then ⟨#[45, 45, 45]⟩ else if op = 1 then ⟨#[82, 87, 45]⟩ else if op = 2 ∨ op = 13 ∨ op = 14 ∨ op = 15 then ⟨#[82, 82, 45]⟩
 else if op = 8 then ⟨#[82, 45, 45]⟩ else if op = 10 then ⟨#[82, 84, 45]⟩ else if op = 11 then ⟨#[45, 84, 45]⟩ else if isIn op 3 9 then ⟨#[82, 82, 82]⟩ else ⟨#[]⟩
def qbb := qcQ
def qac (f x n : Int) : Bool := if f = 82 then qcT x else if f = 87 then isWord x else if f = 84 then isIn x 0 n else x == 0
def qb7 (f x n : Int) : Prop := True
def qar (p : List D.Ins) : Bool := decide (p.length ≤ 32) && p.all fun i => qb9 i p.length
def qan := qar
def qbd (p : List D.Ins) : Prop := Long p
def qat (i : D.Ins) (p : List D.Ins) : Bool := !qb9 i p.length
def qa2 (l : List D.Ins) (g : D.Ins → Bool) : Int := qck g l 0
def qaW (l : List D.Ins) (g : D.Ins → Bool) (D : D.Ins → Prop) : Prop := Long l ∧ ∀ x ∈ l, D x
def qa1 (l : List D.Ins) (g : D.Ins → Bool) : Bool := l.any g
def qaw (l : List D.Ins) (g : D.Ins → Bool) (D : D.Ins → Prop) : Prop := Long l ∧ ∀ x ∈ l, D x
def qaE (i : D.Ins) : Bool := !qbq i
def qaS (p : List D.Ins) : Bool := qar p && p.all qbq
def qaJ := qaS
def qbO (p : List D.Ins) : Prop := Long p
def qcL (r : List Int) : Bool := r.length == 4 && r.all isWord
def qaT := qcL
def qd0 (p : List D.Ins) (l : D.Lane) : Bool := isIn l.Thread 0 23 && (isIn l.Pc 0 p.length && qcL l.Regs)
def qaC := qd0
def qcc (p : List D.Ins) (l : D.Lane) : Prop := True
def qbA (p : List D.Ins) (l : D.Lane) : Bool := qar p && qd0 p l
def qb6 := qbA
def qcq (p : List D.Ins) (l : D.Lane) : Prop := Long p
def subW (a b : Int) : Int := if isWord a && isWord b then (a - b) % 65536 else 0
def mulW (a b : Int) : Int := if isWord a && isWord b then (a * b) % 65536 else 0
def qeI (a b : Int) : Int := if isWord a && (isWord b && decide (a < b)) then 1 else 0
def qeO := subW
def qaM := subW
def qeR := mulW
def qaO := mulW
def qb5 := qeI
def qaH := qeI
def apply (i : D.Ins) (t : Int) (r : List Int) : List Int :=
 if i.Op = 1 then r.set i.A.toNat i.B else if i.Op = 2 then r.set i.A.toNat (rd r i.B) else if i.Op = 3 then r.set i.A.toNat (addW (rd r i.B) (rd r i.C))
 else if i.Op = 4 then r.set i.A.toNat (subW (rd r i.B) (rd r i.C)) else if i.Op = 5 then r.set i.A.toNat (mulW (rd r i.B) (rd r i.C))
 else if i.Op = 6 then r.set i.A.toNat (qcZ .i64 (rd r i.B) (rd r i.C)) else if i.Op = 7 then r.set i.A.toNat (qeI (rd r i.B) (rd r i.C))
 else if i.Op = 8 then r.set i.A.toNat t else if i.Op = 9 then (if rd r i.C ≠ 0 then r.set i.A.toNat (rd r i.B) else r) else r
def Fits (i : D.Ins) (r : List Int) : Prop := r.length = 4 ∧ ∃ n, qb9 i n = true
def qay := apply
def qcw (i : D.Ins) (t : Int) (r : List Int) : Prop := Fits i r
def next (p : List D.Ins) (pc : Int) (r : List Int) : Int :=
 if (rd p pc).Op = 12 then p.length else if (rd p pc).Op = 11 then (rd p pc).B else if (rd p pc).Op = 10 then (if rd r (rd p pc).A = 0 then (rd p pc).B else pc + 1) else pc + 1
def At (p : List D.Ins) (pc : Int) (r : List Int) : Prop := Long p ∧ 0 ≤ pc ∧ pc < p.length ∧ Fits (rd p pc) r
def step (p : List D.Ins) (l : D.Lane) : D.Lane := ⟨l.Thread, next p l.Pc l.Regs, apply (rd p l.Pc) l.Thread l.Regs⟩
def qai (l : D.Lane) (p : List D.Ins) : Bool × D.Lane := if l.Pc = p.length then (false, l) else if qbq (rd p l.Pc) then (true, step p l) else (false, l)
def qbW (l : D.Lane) (p : List D.Ins) : Prop := Long p ∧ (l.Pc = p.length ∨ At p l.Pc l.Regs)
def runN (p : List D.Ins) : Nat → D.Lane → Int → D.Lane × Int
 | 0, l, n => (l, n)
 | k + 1, l, n => if l.Pc < p.length then runN p k (step p l) (n + 1) else (l, n)
def qaV (p : List D.Ins) (l : D.Lane) (steps : Int) : D.Lane × Int := if qaS p && (qbA p l && isIn steps 0 1000) then runN p steps.toNat l 0 else (l, -1)
def qaF := qaV
def qcl (p : List D.Ins) (l : D.Lane) (steps : Int) : Prop := Long p ∧ l.Regs.length ≤ 17179869184
def qdF (p : List D.Ins) (t : Int) : Int := if (qaV p (qav t) 1000).2 < 0 then -1 else if (qaV p (qav t) 1000).1.Pc < p.length then -1 else (qaV p (qav t) 1000).2
def qaG (p : List D.Ins) (t : Int) : D.Lane × Int × Bool :=
 if isIn t 0 23 then (if (qaV p (qav t) 1000).2 < 0 then (⟨0, 0, []⟩, 0, false) else if (qaV p (qav t) 1000).1.Pc ≠ p.length then (⟨0, 0, []⟩, 0, false) else ((qaV p (qav t) 1000).1, (qaV p (qav t) 1000).2, true))
 else (⟨0, 0, []⟩, 0, false)
def qcx (p : List D.Ins) (t : Int) : Prop := Long p
def qb3 (p : List D.Ins) (t : Int) : D.Lane × Bool :=
 if (qaV p (qav t) 1000).2 < 0 then (⟨0, 0, []⟩, false) else if (qaV p (qav t) 1000).1.Pc < p.length then (⟨0, 0, []⟩, false) else ((qaV p (qav t) 1000).1, true)
def qb2 := qb3
def qcf (p : List D.Ins) (t : Int) : Prop := Long p
def qaz (n : Int) : Bool := isIn n 0 2
def qbC (p : List D.Ins) (first : Int) (n : Nat) : List Int := (List.range n).flatMap fun i : Nat => (qb3 p (first + (i : Int))).1.Regs
def qeJ (p : List D.Ins) (first : Int) (n : Nat) : Bool := (List.range n).all fun i : Nat => (qb3 p (first + (i : Int))).2
def qb8 (p : List D.Ins) (first count : Int) : List Int × Bool :=
 if isIn count 1 24 && (isIn first 0 23 && qeJ p first count.toNat) then (qbC p first count.toNat, true) else ([], false)
def qdG := qb8
def qcO (p : List D.Ins) (first count : Int) : Prop := Long p
def qaK := qb8
def qbQ (p : List D.Ins) (first count : Int) : Prop := Long p
def qcI (a b : List Int) (n : Nat) : Int :=
 (List.range n).foldl (fun m (k : Nat) => if rd a (k : Int) = rd b (k : Int) then m else qfP .i64 m (IntKind.wrap .i64 (1 * 2 ^ (min ((IntKind.wrap .i64 (Int.tdiv (k : Int) 4)).toNat) (IntKind.bits .i64))))) 0
def qbN (p q : List D.Ins) (w : Int) : Int :=
 if isIn w 0 2 && ((qb8 p (w * 8) 8).2 && (qb8 q (w * 8) 8).2) then qcI (qb8 p (w * 8) 8).1 (qb8 q (w * 8) 8).1 32 else -1
def qaB := qbN
def qcN (p q : List D.Ins) (w : Int) : Prop := Long p ∧ Long q
def qao := qbN
def qbt (p q : List D.Ins) (w : Int) : Prop := Long p ∧ Long q
def qfj (h x : Int) : Int := qbU .i64 (IntKind.wrap .i64 ((IntKind.wrap .i64 ((IntKind.wrap .i64 (h * 131)) + (IntKind.wrap .i64 x))) + 7)) 1073741823
def qaf (b : List Int) : D.Cur := ⟨b, 0, (b.take 4000).foldl qfj (IntKind.wrap .i64 (98561 + ((b.length : Nat) : Int)))⟩
def curH (h : Int) : Int := IntKind.wrap .i64 ((IntKind.wrap .i64 (h * 6364136223846793005)) + 1442695040888963407)
def curX (h : Int) : Int := qbU .i64 (qcZ .i64 (Int.fdiv h (2 ^ (min ((33 : Int).toNat) (IntKind.bits .i64)))) (Int.fdiv h (2 ^ (min ((45 : Int).toNat) (IntKind.bits .i64))))) 255
def qa4 (c : D.Cur) : Int × D.Cur :=
 if c.i < ((c.b.length : Nat) : Int) then (qbU .i64 (IntKind.wrap .i64 (curX (curH c.h) + IntKind.wrap .i64 (rd c.b c.i))) 255, ⟨c.b, IntKind.wrap .i64 (c.i + 1), curH c.h⟩) else (curX (curH c.h), ⟨c.b, c.i, curH c.h⟩)
def qbH (c : D.Cur) : Prop := 0 ≤ c.i ∧ Long c.b
def qa0 (c : D.Cur) (n : Int) : Int × D.Cur :=
 if n ≤ 0 then (0, c) else if n ≤ 256 then (Int.tmod (qa4 c).1 n, (qa4 c).2)
 else let x := qa4 c; let y := qa4 x.2; let z := qa4 y.2; let w := qa4 z.2
  (Int.tmod (IntKind.wrap .i64 ((IntKind.wrap .i64 ((IntKind.wrap .i64 ((IntKind.wrap .i64 (x.1 * 16777216)) + (IntKind.wrap .i64 (y.1 * 65536)))) + (IntKind.wrap .i64 (z.1 * 256)))) + w.1)) n, w.2)
def qbZ (b : List Int) : Prop := Long b
def qbf (c : D.Cur) : Prop := qbH c
def qaj (c : D.Cur) (n : Int) : Prop := qbH c
def qad (c : D.Cur) : D.Ins × D.Cur :=
 let o := qa0 c 9; let a := qa0 o.2 4; let op := IntKind.wrap .i64 (1 + o.1)
 if op = 1 then let b := qa0 a.2 6; (⟨op, a.1, b.1, 0⟩, b.2) else if op = 8 then (⟨op, a.1, 0, 0⟩, a.2)
 else if op = 2 then let b := qa0 a.2 4; (⟨op, a.1, b.1, 0⟩, b.2) else let b := qa0 a.2 4; let d := qa0 b.2 4; (⟨op, a.1, b.1, d.1⟩, d.2)
def qc9 (c : D.Cur) : Prop := qbH c
def qby : Nat → D.Cur → List Int × D.Cur
 | 0, c => ([], c)
 | k + 1, c => ((qby k c).1 ++ [(qa0 (qby k c).2 10000).1], (qa0 (qby k c).2 10000).2)
def qal (b : List Int) : List Int := (qby 12 (qaf b)).1
def qbR (b : List Int) : Prop := Long b
def qbP (b : List Int) : Bool := decide (((b.length : Nat) : Int) > 1048576)
end Go.V.M
