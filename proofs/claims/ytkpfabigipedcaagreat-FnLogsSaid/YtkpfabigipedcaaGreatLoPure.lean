import Derived.Test.YtkpfabigipedcaaGreatLoVLoop
set_option linter.unusedVariables false
namespace Go.V.D
structure Ins where
 Op : Int
 A : Int
 B : Int
 C : Int
 deriving Inhabited, DecidableEq
structure Frame where
 Pc : Int
 Stop : Int
 Mask : Int
 deriving Inhabited, DecidableEq
structure Access where
 Phase : Int
 Warp : Int
 Address : Int
 Kind : Int
 deriving Inhabited, DecidableEq
structure Warp where
 Number : Int
 Frames : List Frame
 Regs : List Int
 deriving Inhabited, DecidableEq
structure Block where
 Code : List Ins
 Warps : List Warp
 Memory : List Int
 Waiting : Int
 Phase : Int
 deriving Inhabited, DecidableEq
structure Cur where
 b : List Int
 i : Int
 h : Int
 deriving Inhabited, DecidableEq
end Go.V.D
namespace Go.V.M
def isIn (x a b : Int) : Bool := decide (a ≤ x) && decide (x ≤ b)
def qar (x a b : Int) : Bool := isIn x a b
def qaV (x a b : Int) : Bool := isIn x a b
def isWord (n : Int) : Bool := isIn n 0 65535
def qbJ := isWord
def qbd := isWord
def qfR (n : Int) : Bool := isIn n 0 255
def qdl := qfR
def qdV := qfR
def qik (n : Int) : Bool := isIn n 0 7
def qe1 := qik
def qdu (m l : Int) : Bool := qfR m && qik l && (qdQ .i64 (Int.fdiv m (2 ^ (min l.toNat (IntKind.bits .i64)))) 1 == 1)
def qcY := qdu
def qbO := qdu
def qeA (m : Int) : List Int := [0, 1, 2, 3, 4, 5, 6, 7].filter (qdu m)
def qc8 := qeA
def qiD (l : List Int) : Prop := l.length ≤ 9223372036854775807
def qbX (l : List Int) : Bool := l.all isWord
def qf2 := qiD
def qc7 (n : Int) : Bool := !isWord n
def Long {α : Type} (l : List α) : Prop := l.length ≤ 9223372036854775807
def qd7 (n : Int) : Int := n % 65536
def qby (n : Int) : Int := n % 65536
def qbs (a b n : Int) : Int := if isWord a && isWord b then n % 65536 else 0
def addW (a b : Int) : Int := if isWord a && isWord b then (a + b) % 65536 else 0
def qbA := addW
def qc0 := addW
def qez {α : Type} (g : α → Bool) : List α → Nat → Int
 | [], _ => -1
 | x :: l, i => if g x then (i : Int) else qez g l (i + 1)
def qan (l : List Int) (g : Int → Bool) : Int := qez g l 0
def qds (l : List Int) (g : Int → Bool) (D : Int → Prop) : Prop := Long l ∧ ∀ x ∈ l, D x
def qak (l : List Int) (g : Int → Bool) : Bool := l.any g
def qd8 (l : List Int) (g : Int → Bool) (D : Int → Prop) : Prop := Long l ∧ ∀ x ∈ l, D x
def qaq (l : List Int) : List Int := l
def qaW (l : List Int) : Prop := l.length ≤ 17179869184
def qcy (i : D.Ins) : Bool := isIn i.Op 0 12
def qcG := qcy
def qcF := qcy
def qgB (n : Int) : Bool := isIn n 0 3
def qb8 := qgB
def qe8 := qgB
def qdD (i : D.Ins) (n : Int) : Bool := isIn n 0 32 &&
 (if i.Op = 0 ∨ i.Op = 12 ∨ i.Op = 16 then i.A == 0 && (i.B == 0 && i.C == 0)
 else if i.Op = 1 then qgB i.A && (isWord i.B && i.C == 0)
 else if i.Op = 2 ∨ i.Op = 13 ∨ i.Op = 14 ∨ i.Op = 15 then qgB i.A && (qgB i.B && i.C == 0)
 else if i.Op = 8 then qgB i.A && (i.B == 0 && i.C == 0)
 else if i.Op = 10 then qgB i.A && (isIn i.B 0 n && i.C == 0)
 else if i.Op = 11 then i.A == 0 && (isIn i.B 0 n && i.C == 0)
 else isIn i.Op 3 9 && (qgB i.A && (qgB i.B && qgB i.C)))
def qdO := qdD
def qbb := qdD
def qhr (op : Int) : ByteArray :=
 if op = 0 ∨ op = 12 ∨ op = 16 then ⟨#[45, 45, 45]⟩ else if op = 1 then ⟨#[82, 87, 45]⟩ else if op = 2 ∨ op = 13 ∨ op = 14 ∨ op = 15 then ⟨#[82, 82, 45]⟩
 else if op = 8 then ⟨#[82, 45, 45]⟩ else if op = 10 then ⟨#[82, 84, 45]⟩ else if op = 11 then ⟨#[45, 84, 45]⟩ else if isIn op 3 9 then ⟨#[82, 82, 82]⟩ else ⟨#[]⟩
def qdH := qhr
def qaJ (f x n : Int) : Bool := if f = 82 then qgB x else if f = 87 then isWord x else if f = 84 then isIn x 0 n else x == 0
def qdB (f x n : Int) : Prop := True
def qb6 (p : List D.Ins) : Bool := decide (p.length ≤ 32) && p.all fun i => qdD i p.length
def qbh := qb6
def qek (p : List D.Ins) : Prop := Long p
def qbn := qb6
def qej (p : List D.Ins) : Prop := Long p
def qbF (i : D.Ins) (p : List D.Ins) : Bool := !qdD i p.length
def qac (l : List D.Ins) (g : D.Ins → Bool) : Int := qez g l 0
def qd4 (l : List D.Ins) (g : D.Ins → Bool) (D : D.Ins → Prop) : Prop := Long l ∧ ∀ x ∈ l, D x
def qad (l : List D.Ins) (g : D.Ins → Bool) : Bool := l.any g
def qcH (l : List D.Ins) (g : D.Ins → Bool) (D : D.Ins → Prop) : Prop := Long l ∧ ∀ x ∈ l, D x
def subW (a b : Int) : Int := if isWord a && isWord b then (a - b) % 65536 else 0
def mulW (a b : Int) : Int := if isWord a && isWord b then (a * b) % 65536 else 0
def qkT (a b : Int) : Int := if isWord a && (isWord b && decide (a < b)) then 1 else 0
def qbW := subW
def qcv := subW
def qc9 := mulW
def qct := mulW
def qbp := qkT
def qcm := qkT
def apply (i : D.Ins) (t : Int) (r : List Int) : List Int :=
 if i.Op = 1 then r.set i.A.toNat i.B else if i.Op = 2 then r.set i.A.toNat (rd r i.B) else if i.Op = 3 then r.set i.A.toNat (addW (rd r i.B) (rd r i.C))
 else if i.Op = 4 then r.set i.A.toNat (subW (rd r i.B) (rd r i.C)) else if i.Op = 5 then r.set i.A.toNat (mulW (rd r i.B) (rd r i.C))
 else if i.Op = 6 then r.set i.A.toNat (qgY .i64 (rd r i.B) (rd r i.C)) else if i.Op = 7 then r.set i.A.toNat (qkT (rd r i.B) (rd r i.C))
 else if i.Op = 8 then r.set i.A.toNat t else if i.Op = 9 then (if rd r i.C ≠ 0 then r.set i.A.toNat (rd r i.B) else r) else r
def Fits (i : D.Ins) (r : List Int) : Prop := r.length = 4 ∧ ∃ n, qdD i n = true
def qb7 := apply
def qg3 (i : D.Ins) (t : Int) (r : List Int) : Prop := Fits i r
def qbD (n : Int) : Bool := isIn n 0 2
def qaX (l : List Int) (x : Int) : Int := qez (fun y => x == y) l 0
def qes (l : List Int) (x : Int) : Prop := Long l
def qb5 (l : List Int) (x : Int) : Bool := l.any fun y => x == y
def qeb (l : List Int) (x : Int) : Prop := Long l
def qmx (h x : Int) : Int := qdQ .i64 (IntKind.wrap .i64 ((IntKind.wrap .i64 ((IntKind.wrap .i64 (h * 131)) + (IntKind.wrap .i64 x))) + 7)) 1073741823
def qb9 (b : List Int) : D.Cur := ⟨b, 0, (b.take 4000).foldl qmx (IntKind.wrap .i64 (98561 + ((b.length : Nat) : Int)))⟩
def curH (h : Int) : Int := IntKind.wrap .i64 ((IntKind.wrap .i64 (h * 6364136223846793005)) + 1442695040888963407)
def curX (h : Int) : Int := qdQ .i64 (qgY .i64 (Int.fdiv h (2 ^ (min ((33 : Int).toNat) (IntKind.bits .i64)))) (Int.fdiv h (2 ^ (min ((45 : Int).toNat) (IntKind.bits .i64))))) 255
def qah (c : D.Cur) : Int × D.Cur :=
 if c.i < ((c.b.length : Nat) : Int) then (qdQ .i64 (IntKind.wrap .i64 (curX (curH c.h) + IntKind.wrap .i64 (rd c.b c.i))) 255, ⟨c.b, IntKind.wrap .i64 (c.i + 1), curH c.h⟩) else (curX (curH c.h), ⟨c.b, c.i, curH c.h⟩)
def qdN (c : D.Cur) : Prop := 0 ≤ c.i ∧ Long c.b
def qa0 (c : D.Cur) (n : Int) : Int × D.Cur :=
 if n ≤ 0 then (0, c) else if n ≤ 256 then (Int.tmod (qah c).1 n, (qah c).2)
 else let x := qah c; let y := qah x.2; let z := qah y.2; let w := qah z.2
  (Int.tmod (IntKind.wrap .i64 ((IntKind.wrap .i64 ((IntKind.wrap .i64 ((IntKind.wrap .i64 (x.1 * 16777216)) + (IntKind.wrap .i64 (y.1 * 65536)))) + (IntKind.wrap .i64 (z.1 * 256)))) + w.1)) n, w.2)
def qau (c : D.Cur) (l : List Int) : Int × D.Cur := (rd l (qa0 c l.length).1, (qa0 c l.length).2)
def qfC (b : List Int) : Prop := Long b
def qdW (c : D.Cur) : Prop := qdN c
def qav (c : D.Cur) (n : Int) : Prop := qdN c
def qef (c : D.Cur) (l : List Int) : Prop := qdN c ∧ l ≠ [] ∧ l.length ≤ 256
def qaG (c : D.Cur) : D.Ins × D.Cur :=
 let o := qa0 c 9; let a := qa0 o.2 4; let op := IntKind.wrap .i64 (1 + o.1)
 if op = 1 then let b := qa0 a.2 6; (⟨op, a.1, b.1, 0⟩, b.2) else if op = 8 then (⟨op, a.1, 0, 0⟩, a.2)
 else if op = 2 then let b := qa0 a.2 4; (⟨op, a.1, b.1, 0⟩, b.2) else let b := qa0 a.2 4; let d := qa0 b.2 4; (⟨op, a.1, b.1, d.1⟩, d.2)
def qeX (c : D.Cur) : Prop := qdN c
def qbZ (c : D.Cur) : Int × D.Cur :=
 let x := qa0 c 9; let y := qa0 x.2 9000; qau y.2 [0, 1, 2, 7, 100, 65535, 32768, x.1, y.1]
def qgy (c : D.Cur) : Prop := qdN c
def qh4 : Nat → D.Cur → List Int × D.Cur
 | 0, c => ([], c)
 | k + 1, c => ((qh4 k c).1 ++ [(qbZ (qh4 k c).2).1], (qbZ (qh4 k c).2).2)
def qbu (c : D.Cur) (n : Int) : List Int × D.Cur := qh4 n.toNat c
def qg5 (c : D.Cur) (n : Int) : Prop := qdN c ∧ 0 ≤ n ∧ n ≤ 1000
def qeL : Nat → D.Cur → List Int × D.Cur
 | 0, c => ([], c)
 | k + 1, c => ((qeL k c).1 ++ [(qa0 (qeL k c).2 10000).1], (qa0 (qeL k c).2 10000).2)
def qbq (b : List Int) : List Int := (qeL 12 (qb9 b)).1
def qfr (b : List Int) : Prop := Long b
def qff (b : List Int) : Bool := decide (((b.length : Nat) : Int) > 1048576)
end Go.V.M
