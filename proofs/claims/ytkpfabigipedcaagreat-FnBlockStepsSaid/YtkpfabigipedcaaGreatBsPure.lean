import Derived.Test.YtkpfabigipedcaaGreatBsVLoop
set_option linter.unusedVariables false
namespace Go.V.D
structure Ins where
 Op : Int
 A : Int
 B : Int
 C : Int
 deriving Inhabited, DecidableEq
structure Frame where
 Pc : Int
 Stop : Int
 Mask : Int
 deriving Inhabited, DecidableEq
structure Warp where
 Number : Int
 Frames : List Frame
 Regs : List Int
 deriving Inhabited, DecidableEq
structure Block where
 Code : List Ins
 Warps : List Warp
 Memory : List Int
 Waiting : Int
 Phase : Int
 deriving Inhabited, DecidableEq
structure Cur where
 b : List Int
 i : Int
 h : Int
 deriving Inhabited, DecidableEq
end Go.V.D
namespace Go.V.M
def isIn (x a b : Int) : Bool := decide (a ≤ x) && decide (x ≤ b)
def qan (x a b : Int) : Bool := isIn x a b
def qaM (x a b : Int) : Bool := isIn x a b
def isWord (n : Int) : Bool := isIn n 0 65535
def qbs := isWord
def qb0 := isWord
def qfp (n : Int) : Bool := isIn n 0 255
def qcZ := qfp
def qdB := qfp
def qhR (n : Int) : Bool := isIn n 0 7
def qdz := qhR
def qd9 (m l : Int) : Bool := qfp m && qhR l && (qdt .i64 (Int.fdiv m (2 ^ (min l.toNat (IntKind.bits .i64)))) 1 == 1)
def qcy := qd9
def qby := qd9
def qeX (m : Int) : List Int := [0, 1, 2, 3, 4, 5, 6, 7].filter (qd9 m)
def qc7 := qeX
def qhX (l : List Int) : Prop := l.length ≤ 9223372036854775807
def qbJ (l : List Int) : Bool := l.all isWord
def qey := qhX
def qbG (n : Int) : Bool := !isWord n
def Long {α : Type} (l : List α) : Prop := l.length ≤ 9223372036854775807
def qcK (n : Int) : Int := n % 65536
def qbk (n : Int) : Int := n % 65536
def qbd (a b n : Int) : Int := if isWord a && isWord b then n % 65536 else 0
def addW (a b : Int) : Int := if isWord a && isWord b then (a + b) % 65536 else 0
def qbi := addW
def qbE := addW
def qeb {α : Type} (g : α → Bool) : List α → Nat → Int
 | [], _ => -1
 | x :: l, i => if g x then (i : Int) else qeb g l (i + 1)
def qai (l : List Int) (g : Int → Bool) : Int := qeb g l 0
def qd7 (l : List Int) (g : Int → Bool) (D : Int → Prop) : Prop := Long l ∧ ∀ x ∈ l, D x
def qaf (l : List Int) (g : Int → Bool) : Bool := l.any g
def qcJ (l : List Int) (g : Int → Bool) (D : Int → Prop) : Prop := Long l ∧ ∀ x ∈ l, D x
def qaj (l : List Int) : List Int := l
def qaL (l : List Int) : Prop := l.length ≤ 17179869184
def qcw (i : D.Ins) : Bool := isIn i.Op 0 12
def qcj := qcw
def qcm := qcw
def qg7 (n : Int) : Bool := isIn n 0 3
def qaW := qg7
def qdH := qg7
def qdh (i : D.Ins) (n : Int) : Bool := isIn n 0 32 &&
 (if i.Op = 0 ∨ i.Op = 12 ∨ i.Op = 16 then i.A == 0 && (i.B == 0 && i.C == 0)
 else if i.Op = 1 then qg7 i.A && (isWord i.B && i.C == 0)
 else if i.Op = 2 ∨ i.Op = 13 ∨ i.Op = 14 ∨ i.Op = 15 then qg7 i.A && (qg7 i.B && i.C == 0)
 else if i.Op = 8 then qg7 i.A && (i.B == 0 && i.C == 0)
 else if i.Op = 10 then qg7 i.A && (isIn i.B 0 n && i.C == 0)
 else if i.Op = 11 then i.A == 0 && (isIn i.B 0 n && i.C == 0)
 else isIn i.Op 3 9 && (qg7 i.A && (qg7 i.B && qg7 i.C)))
def qds := qdh
def qaY := qdh
def qh3 (op : Int) : ByteArray :=
 if op = 0 ∨ op = 12 ∨ op = 16 then ⟨#[45, 45, 45]⟩ else if op = 1 then ⟨#[82, 87, 45]⟩ else if op = 2 ∨ op = 13 ∨ op = 14 ∨ op = 15 then ⟨#[82, 82, 45]⟩
 else if op = 8 then ⟨#[82, 45, 45]⟩ else if op = 10 then ⟨#[82, 84, 45]⟩ else if op = 11 then ⟨#[45, 84, 45]⟩ else if isIn op 3 9 then ⟨#[82, 82, 82]⟩ else ⟨#[]⟩
def qdk := qh3
def qaz (f x n : Int) : Bool := if f = 82 then qg7 x else if f = 87 then isWord x else if f = 84 then isIn x 0 n else x == 0
def qdg (f x n : Int) : Prop := True
def qaT (p : List D.Ins) : Bool := decide (p.length ≤ 32) && p.all fun i => qdh i p.length
def qb2 := qaT
def qdT (p : List D.Ins) : Prop := Long p
def qb7 := qaT
def qdX (p : List D.Ins) : Prop := Long p
def qbq (i : D.Ins) (p : List D.Ins) : Bool := !qdh i p.length
def qa8 (l : List D.Ins) (g : D.Ins → Bool) : Int := qeb g l 0
def qcF (l : List D.Ins) (g : D.Ins → Bool) (D : D.Ins → Prop) : Prop := Long l ∧ ∀ x ∈ l, D x
def qaa (l : List D.Ins) (g : D.Ins → Bool) : Bool := l.any g
def qcq (l : List D.Ins) (g : D.Ins → Bool) (D : D.Ins → Prop) : Prop := Long l ∧ ∀ x ∈ l, D x
def subW (a b : Int) : Int := if isWord a && isWord b then (a - b) % 65536 else 0
def mulW (a b : Int) : Int := if isWord a && isWord b then (a * b) % 65536 else 0
def qk6 (a b : Int) : Int := if isWord a && (isWord b && decide (a < b)) then 1 else 0
def qbL := subW
def qcc := subW
def qbH := mulW
def qcd := mulW
def qb6 := qk6
def qbW := qk6
def apply (i : D.Ins) (t : Int) (r : List Int) : List Int :=
 if i.Op = 1 then r.set i.A.toNat i.B else if i.Op = 2 then r.set i.A.toNat (rd r i.B) else if i.Op = 3 then r.set i.A.toNat (addW (rd r i.B) (rd r i.C))
 else if i.Op = 4 then r.set i.A.toNat (subW (rd r i.B) (rd r i.C)) else if i.Op = 5 then r.set i.A.toNat (mulW (rd r i.B) (rd r i.C))
 else if i.Op = 6 then r.set i.A.toNat (qgh .i64 (rd r i.B) (rd r i.C)) else if i.Op = 7 then r.set i.A.toNat (qk6 (rd r i.B) (rd r i.C))
 else if i.Op = 8 then r.set i.A.toNat t else if i.Op = 9 then (if rd r i.C ≠ 0 then r.set i.A.toNat (rd r i.B) else r) else r
def Fits (i : D.Ins) (r : List Int) : Prop := r.length = 4 ∧ ∃ n, qdh i n = true
def qaV := apply
def qfD (i : D.Ins) (t : Int) (r : List Int) : Prop := Fits i r
def qbp (n : Int) : Bool := isIn n 0 2
def qaN (l : List Int) (x : Int) : Int := qeb (fun y => x == y) l 0
def qe9 (l : List Int) (x : Int) : Prop := Long l
def qaS (l : List Int) (x : Int) : Bool := l.any fun y => x == y
def qdK (l : List Int) (x : Int) : Prop := Long l
def qlc (h x : Int) : Int := qdt .i64 (IntKind.wrap .i64 ((IntKind.wrap .i64 ((IntKind.wrap .i64 (h * 131)) + (IntKind.wrap .i64 x))) + 7)) 1073741823
def qaB (b : List Int) : D.Cur := ⟨b, 0, (b.take 4000).foldl qlc (IntKind.wrap .i64 (98561 + ((b.length : Nat) : Int)))⟩
def curH (h : Int) : Int := IntKind.wrap .i64 ((IntKind.wrap .i64 (h * 6364136223846793005)) + 1442695040888963407)
def curX (h : Int) : Int := qdt .i64 (qgh .i64 (Int.fdiv h (2 ^ (min ((33 : Int).toNat) (IntKind.bits .i64)))) (Int.fdiv h (2 ^ (min ((45 : Int).toNat) (IntKind.bits .i64))))) 255
def qae (c : D.Cur) : Int × D.Cur :=
 if c.i < ((c.b.length : Nat) : Int) then (qdt .i64 (IntKind.wrap .i64 (curX (curH c.h) + IntKind.wrap .i64 (rd c.b c.i))) 255, ⟨c.b, IntKind.wrap .i64 (c.i + 1), curH c.h⟩) else (curX (curH c.h), ⟨c.b, c.i, curH c.h⟩)
def qdn (c : D.Cur) : Prop := 0 ≤ c.i ∧ Long c.b
def qa0 (c : D.Cur) (n : Int) : Int × D.Cur :=
 if n ≤ 0 then (0, c) else if n ≤ 256 then (Int.tmod (qae c).1 n, (qae c).2)
 else let x := qae c; let y := qae x.2; let z := qae y.2; let w := qae z.2
  (Int.tmod (IntKind.wrap .i64 ((IntKind.wrap .i64 ((IntKind.wrap .i64 ((IntKind.wrap .i64 (x.1 * 16777216)) + (IntKind.wrap .i64 (y.1 * 65536)))) + (IntKind.wrap .i64 (z.1 * 256)))) + w.1)) n, w.2)
def qap (c : D.Cur) (l : List Int) : Int × D.Cur := (rd l (qa0 c l.length).1, (qa0 c l.length).2)
def qfg (b : List Int) : Prop := Long b
def qdw (c : D.Cur) : Prop := qdn c
def qaq (c : D.Cur) (n : Int) : Prop := qdn c
def qdQ (c : D.Cur) (l : List Int) : Prop := qdn c ∧ l ≠ [] ∧ l.length ≤ 256
def qaw (c : D.Cur) : D.Ins × D.Cur :=
 let o := qa0 c 9; let a := qa0 o.2 4; let op := IntKind.wrap .i64 (1 + o.1)
 if op = 1 then let b := qa0 a.2 6; (⟨op, a.1, b.1, 0⟩, b.2) else if op = 8 then (⟨op, a.1, 0, 0⟩, a.2)
 else if op = 2 then let b := qa0 a.2 4; (⟨op, a.1, b.1, 0⟩, b.2) else let b := qa0 a.2 4; let d := qa0 b.2 4; (⟨op, a.1, b.1, d.1⟩, d.2)
def qex (c : D.Cur) : Prop := qdn c
def qbK (c : D.Cur) : Int × D.Cur :=
 let x := qa0 c 9; let y := qa0 x.2 9000; qap y.2 [0, 1, 2, 7, 100, 65535, 32768, x.1, y.1]
def qg1 (c : D.Cur) : Prop := qdn c
def qgx : Nat → D.Cur → List Int × D.Cur
 | 0, c => ([], c)
 | k + 1, c => ((qgx k c).1 ++ [(qbK (qgx k c).2).1], (qbK (qgx k c).2).2)
def qbf (c : D.Cur) (n : Int) : List Int × D.Cur := qgx n.toNat c
def qfu (c : D.Cur) (n : Int) : Prop := qdn c ∧ 0 ≤ n ∧ n ≤ 1000
def qek : Nat → D.Cur → List Int × D.Cur
 | 0, c => ([], c)
 | k + 1, c => ((qek k c).1 ++ [(qa0 (qek k c).2 10000).1], (qa0 (qek k c).2 10000).2)
def qbb (b : List Int) : List Int := (qek 12 (qaB b)).1
def qeS (b : List Int) : Prop := Long b
def qeQ (b : List Int) : Bool := decide (((b.length : Nat) : Int) > 1048576)
def qbx (a b : List Int) : Bool := a == b
def qfx (a b : List Int) : Prop := Long a
end Go.V.M
