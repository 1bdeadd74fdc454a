import Derived.Test.YtkpfabigipedcaaGreatBaVLoop
set_option linter.unusedVariables false
namespace Go.V.D
structure Ins where
 Op : Int
 A : Int
 B : Int
 C : Int
 deriving Inhabited, DecidableEq
structure Frame where
 Pc : Int
 Stop : Int
 Mask : Int
 deriving Inhabited, DecidableEq
structure Lane where
 Thread : Int
 Pc : Int
 Regs : List Int
 deriving Inhabited, DecidableEq
structure Warp where
 Number : Int
 Frames : List Frame
 Regs : List Int
 deriving Inhabited, DecidableEq
structure Block where
 Code : List Ins
 Warps : List Warp
 Memory : List Int
 Waiting : Int
 Phase : Int
 deriving Inhabited, DecidableEq
structure Cur where
 b : List Int
 i : Int
 h : Int
 deriving Inhabited, DecidableEq
end Go.V.D
namespace Go.V.M
def isIn (x a b : Int) : Bool := decide (a ≤ x) && decide (x ≤ b)
def qah (x a b : Int) : Bool := isIn x a b
def isWord (n : Int) : Bool := isIn n 0 65535
def qbn := isWord
def qid := isWord
def qeL (n : Int) : Bool := isIn n 0 255
def qcv := qeL
def qjU (n : Int) : Bool := isIn n 0 7
def qcQ := qjU
def qaB (m l : Int) : Bool := qeL m && qjU l && (qds .i64 (Int.fdiv m (2 ^ (min l.toNat (IntKind.bits .i64)))) 1 == 1)
def qce := qaB
def qdX (m : Int) : List Int := [0, 1, 2, 3, 4, 5, 6, 7].filter (qaB m)
def qbM := qdX
def qhv (l : List Int) : Prop := l.length ≤ 9223372036854775807
def qhA (t : Int) : D.Lane := if isIn t 0 23 then ⟨t, 0, [0, 0, 0, 0]⟩ else ⟨0, 0, []⟩
def qbz (l : List Int) : Bool := l.all isWord
def qe3 := qhv
def qbB (n : Int) : Bool := !isWord n
def Long {α : Type} (l : List α) : Prop := l.length ≤ 9223372036854775807
def qch (n : Int) : Int := n % 65536
def qb9 (a b n : Int) : Int := if isWord a && isWord b then n % 65536 else 0
def addW (a b : Int) : Int := if isWord a && isWord b then (a + b) % 65536 else 0
def qjx := addW
def qbG := addW
def qd7 {α : Type} (g : α → Bool) : List α → Nat → Int
 | [], _ => -1
 | x :: l, i => if g x then (i : Int) else qd7 g l (i + 1)
def qad (l : List Int) (g : Int → Bool) : Int := qd7 g l 0
def qcx (l : List Int) (g : Int → Bool) (D : Int → Prop) : Prop := Long l ∧ ∀ x ∈ l, D x
def qa9 (l : List Int) (g : Int → Bool) : Bool := l.any g
def qbe (l : List Int) (g : Int → Bool) (D : Int → Prop) : Prop := Long l ∧ ∀ x ∈ l, D x
def qag (l : List Int) : List Int := l
def qaE (l : List Int) : Prop := l.length ≤ 17179869184
def qbu (i : D.Ins) : Bool := isIn i.Op 0 12
def qbU := qbu
def qfr (n : Int) : Bool := isIn n 0 3
def qd0 := qfr
def qcM (i : D.Ins) (n : Int) : Bool := isIn n 0 32 &&
 (if i.Op = 0 ∨ i.Op = 12 ∨ i.Op = 16 then i.A == 0 && (i.B == 0 && i.C == 0)
 else if i.Op = 1 then qfr i.A && (isWord i.B && i.C == 0)
 else if i.Op = 2 ∨ i.Op = 13 ∨ i.Op = 14 ∨ i.Op = 15 then qfr i.A && (qfr i.B && i.C == 0)
 else if i.Op = 8 then qfr i.A && (i.B == 0 && i.C == 0)
 else if i.Op = 10 then qfr i.A && (isIn i.B 0 n && i.C == 0)
 else if i.Op = 11 then i.A == 0 && (isIn i.B 0 n && i.C == 0)
 else isIn i.Op 3 9 && (qfr i.A && (qfr i.B && qfr i.C)))
def qaN := qcM
def qga (op : Int) : ByteArray :=
 if op = 0 ∨ op = 12 ∨ op = 16 then ⟨#[45, 45, 45]⟩ else if op = 1 then ⟨#[82, 87, 45]⟩ else if op = 2 ∨ op = 13 ∨ op = 14 ∨ op = 15 then ⟨#[82, 82, 45]⟩
 else if op = 8 then ⟨#[82, 45, 45]⟩ else if op = 10 then ⟨#[82, 84, 45]⟩ else if op = 11 then ⟨#[45, 84, 45]⟩ else if isIn op 3 9 then ⟨#[82, 82, 82]⟩ else ⟨#[]⟩
def qcN := qga
def qav (f x n : Int) : Bool := if f = 82 then qfr x else if f = 87 then isWord x else if f = 84 then isIn x 0 n else x == 0
def qcE (f x n : Int) : Prop := True
def qat (p : List D.Ins) : Bool := decide (p.length ≤ 32) && p.all fun i => qcM i p.length
def qaD := qat
def qcB (p : List D.Ins) : Prop := Long p
def qbl (i : D.Ins) (p : List D.Ins) : Bool := !qcM i p.length
def qa7 (l : List D.Ins) (g : D.Ins → Bool) : Int := qd7 g l 0
def qci (l : List D.Ins) (g : D.Ins → Bool) (D : D.Ins → Prop) : Prop := Long l ∧ ∀ x ∈ l, D x
def qa8 (l : List D.Ins) (g : D.Ins → Bool) : Bool := l.any g
def qbX (l : List D.Ins) (g : D.Ins → Bool) (D : D.Ins → Prop) : Prop := Long l ∧ ∀ x ∈ l, D x
def qgt (r : List Int) : Bool := r.length == 4 && r.all isWord
def qkm (p : List D.Ins) (l : D.Lane) : Bool := isIn l.Thread 0 23 && (isIn l.Pc 0 p.length && qgt l.Regs)
def qfB (p : List D.Ins) (l : D.Lane) : Bool := qat p && qkm p l
def subW (a b : Int) : Int := if isWord a && isWord b then (a - b) % 65536 else 0
def mulW (a b : Int) : Int := if isWord a && isWord b then (a * b) % 65536 else 0
def qjh (a b : Int) : Int := if isWord a && (isWord b && decide (a < b)) then 1 else 0
def qjF := subW
def qc7 := subW
def qjj := mulW
def qbY := mulW
def qcy := qjh
def qbT := qjh
def apply (i : D.Ins) (t : Int) (r : List Int) : List Int :=
 if i.Op = 1 then r.set i.A.toNat i.B else if i.Op = 2 then r.set i.A.toNat (rd r i.B) else if i.Op = 3 then r.set i.A.toNat (addW (rd r i.B) (rd r i.C))
 else if i.Op = 4 then r.set i.A.toNat (subW (rd r i.B) (rd r i.C)) else if i.Op = 5 then r.set i.A.toNat (mulW (rd r i.B) (rd r i.C))
 else if i.Op = 6 then r.set i.A.toNat (qg8 .i64 (rd r i.B) (rd r i.C)) else if i.Op = 7 then r.set i.A.toNat (qjh (rd r i.B) (rd r i.C))
 else if i.Op = 8 then r.set i.A.toNat t else if i.Op = 9 then (if rd r i.C ≠ 0 then r.set i.A.toNat (rd r i.B) else r) else r
def Fits (i : D.Ins) (r : List Int) : Prop := r.length = 4 ∧ ∃ n, qcM i n = true
def next (p : List D.Ins) (pc : Int) (r : List Int) : Int :=
 if (rd p pc).Op = 12 then p.length else if (rd p pc).Op = 11 then (rd p pc).B else if (rd p pc).Op = 10 then (if rd r (rd p pc).A = 0 then (rd p pc).B else pc + 1) else pc + 1
def At (p : List D.Ins) (pc : Int) (r : List Int) : Prop := Long p ∧ 0 ≤ pc ∧ pc < p.length ∧ Fits (rd p pc) r
def step (p : List D.Ins) (l : D.Lane) : D.Lane := ⟨l.Thread, next p l.Pc l.Regs, apply (rd p l.Pc) l.Thread l.Regs⟩
def qbf (n : Int) : Bool := isIn n 0 2
def qaG (l : List Int) (x : Int) : Int := qd7 (fun y => x == y) l 0
def qdt (l : List Int) (x : Int) : Prop := Long l
def qaL (l : List Int) (x : Int) : Bool := l.any fun y => x == y
def qd3 (l : List Int) (x : Int) : Prop := Long l
def qkD (h x : Int) : Int := qds .i64 (IntKind.wrap .i64 ((IntKind.wrap .i64 ((IntKind.wrap .i64 (h * 131)) + (IntKind.wrap .i64 x))) + 7)) 1073741823
def qaM (b : List Int) : D.Cur := ⟨b, 0, (b.take 4000).foldl qkD (IntKind.wrap .i64 (98561 + ((b.length : Nat) : Int)))⟩
def curH (h : Int) : Int := IntKind.wrap .i64 ((IntKind.wrap .i64 (h * 6364136223846793005)) + 1442695040888963407)
def curX (h : Int) : Int := qds .i64 (qg8 .i64 (Int.fdiv h (2 ^ (min ((33 : Int).toNat) (IntKind.bits .i64)))) (Int.fdiv h (2 ^ (min ((45 : Int).toNat) (IntKind.bits .i64))))) 255
def qab (c : D.Cur) : Int × D.Cur :=
 if c.i < ((c.b.length : Nat) : Int) then (qds .i64 (IntKind.wrap .i64 (curX (curH c.h) + IntKind.wrap .i64 (rd c.b c.i))) 255, ⟨c.b, IntKind.wrap .i64 (c.i + 1), curH c.h⟩) else (curX (curH c.h), ⟨c.b, c.i, curH c.h⟩)
def qdv (c : D.Cur) : Prop := 0 ≤ c.i ∧ Long c.b
def qa0 (c : D.Cur) (n : Int) : Int × D.Cur :=
 if n ≤ 0 then (0, c) else if n ≤ 256 then (Int.tmod (qab c).1 n, (qab c).2)
 else let x := qab c; let y := qab x.2; let z := qab y.2; let w := qab z.2
  (Int.tmod (IntKind.wrap .i64 ((IntKind.wrap .i64 ((IntKind.wrap .i64 ((IntKind.wrap .i64 (x.1 * 16777216)) + (IntKind.wrap .i64 (y.1 * 65536)))) + (IntKind.wrap .i64 (z.1 * 256)))) + w.1)) n, w.2)
def qap (c : D.Cur) (l : List Int) : Int × D.Cur := (rd l (qa0 c l.length).1, (qa0 c l.length).2)
def qez (b : List Int) : Prop := Long b
def qcT (c : D.Cur) : Prop := qdv c
def qau (c : D.Cur) (n : Int) : Prop := qdv c
def qdE (c : D.Cur) (l : List Int) : Prop := qdv c ∧ l ≠ [] ∧ l.length ≤ 256
def qaq (c : D.Cur) : D.Ins × D.Cur :=
 let o := qa0 c 9; let a := qa0 o.2 4; let op := IntKind.wrap .i64 (1 + o.1)
 if op = 1 then let b := qa0 a.2 6; (⟨op, a.1, b.1, 0⟩, b.2) else if op = 8 then (⟨op, a.1, 0, 0⟩, a.2)
 else if op = 2 then let b := qa0 a.2 4; (⟨op, a.1, b.1, 0⟩, b.2) else let b := qa0 a.2 4; let d := qa0 b.2 4; (⟨op, a.1, b.1, d.1⟩, d.2)
def qe1 (c : D.Cur) : Prop := qdv c
def qdO : Nat → D.Cur → List Int × D.Cur
 | 0, c => ([], c)
 | k + 1, c => ((qdO k c).1 ++ [(qa0 (qdO k c).2 10000).1], (qa0 (qdO k c).2 10000).2)
def qb2 (b : List Int) : List Int := (qdO 12 (qaM b)).1
def qei (b : List Int) : Prop := Long b
def qeh (b : List Int) : Bool := decide (((b.length : Nat) : Int) > 1048576)
end Go.V.M
