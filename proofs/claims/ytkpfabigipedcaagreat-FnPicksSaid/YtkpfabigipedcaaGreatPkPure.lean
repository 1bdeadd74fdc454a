import Derived.Test.YtkpfabigipedcaaGreatPkVLoop
set_option linter.unusedVariables false
namespace Go.V.D
structure Ins where
 Op : Int
 A : Int
 B : Int
 C : Int
 deriving Inhabited, DecidableEq
structure Frame where
 Pc : Int
 Stop : Int
 Mask : Int
 deriving Inhabited, DecidableEq
structure Warp where
 Number : Int
 Frames : List Frame
 Regs : List Int
 deriving Inhabited, DecidableEq
structure Block where
 Code : List Ins
 Warps : List Warp
 Memory : List Int
 Waiting : Int
 Phase : Int
 deriving Inhabited, DecidableEq
structure Cur where
 b : List Int
 i : Int
 h : Int
 deriving Inhabited, DecidableEq
end Go.V.D
namespace Go.V.M
def isIn (x a b : Int) : Bool := decide (a ≤ x) && decide (x ≤ b)
def qar (x a b : Int) : Bool := isIn x a b
def qaQ (x a b : Int) : Bool := isIn x a b
def isWord (n : Int) : Bool := isIn n 0 65535
def qbD := isWord
def qb4 := isWord
def qfM (n : Int) : Bool := isIn n 0 255
def qdf := qfM
def qdQ := qfM
def qio (n : Int) : Bool := isIn n 0 7
def qdM := qio
def qdo (m l : Int) : Bool := qfM m && qio l && (qdH .i64 (Int.fdiv m (2 ^ (min l.toNat (IntKind.bits .i64)))) 1 == 1)
def qcQ := qdo
def qbG := qdo
def qfk (m : Int) : List Int := [0, 1, 2, 3, 4, 5, 6, 7].filter (qdo m)
def qcj := qfk
def qiz (l : List Int) : Prop := l.length ≤ 9223372036854775807
def qbT (l : List Int) : Bool := l.all isWord
def qeS := qiz
def qbR (n : Int) : Bool := !isWord n
def Long {α : Type} (l : List α) : Prop := l.length ≤ 9223372036854775807
def qcW (n : Int) : Int := n % 65536
def qbq (n : Int) : Int := n % 65536
def qbk (a b n : Int) : Int := if isWord a && isWord b then n % 65536 else 0
def addW (a b : Int) : Int := if isWord a && isWord b then (a + b) % 65536 else 0
def qbr := addW
def qbQ := addW
def qe9 {α : Type} (g : α → Bool) : List α → Nat → Int
 | [], _ => -1
 | x :: l, i => if g x then (i : Int) else qe9 g l (i + 1)
def qam (l : List Int) (g : Int → Bool) : Int := qe9 g l 0
def qdm (l : List Int) (g : Int → Bool) (D : Int → Prop) : Prop := Long l ∧ ∀ x ∈ l, D x
def qak (l : List Int) (g : Int → Bool) : Bool := l.any g
def qcU (l : List Int) (g : Int → Bool) (D : Int → Prop) : Prop := Long l ∧ ∀ x ∈ l, D x
def qao (l : List Int) : List Int := l
def qaP (l : List Int) : Prop := l.length ≤ 17179869184
def qcM (i : D.Ins) : Bool := isIn i.Op 0 12
def qcA := qcM
def qcz := qcM
def qgB (n : Int) : Bool := isIn n 0 3
def qaZ := qgB
def qe0 := qgB
def qdw (i : D.Ins) (n : Int) : Bool := isIn n 0 32 &&
 (if i.Op = 0 ∨ i.Op = 12 ∨ i.Op = 16 then i.A == 0 && (i.B == 0 && i.C == 0)
 else if i.Op = 1 then qgB i.A && (isWord i.B && i.C == 0)
 else if i.Op = 2 ∨ i.Op = 13 ∨ i.Op = 14 ∨ i.Op = 15 then qgB i.A && (qgB i.B && i.C == 0)
 else if i.Op = 8 then qgB i.A && (i.B == 0 && i.C == 0)
 else if i.Op = 10 then qgB i.A && (isIn i.B 0 n && i.C == 0)
 else if i.Op = 11 then i.A == 0 && (isIn i.B 0 n && i.C == 0)
 else isIn i.Op 3 9 && (qgB i.A && (qgB i.B && qgB i.C)))
def qdJ := qdw
def qb0 := qdw
def qho (op : Int) : ByteArray :=
 if op = 0 ∨ op = 12 ∨ op = 16 then ⟨#[45, 45, 45]⟩ else if op = 1 then ⟨#[82, 87, 45]⟩ else if op = 2 ∨ op = 13 ∨ op = 14 ∨ op = 15 then ⟨#[82, 82, 45]⟩
 else if op = 8 then ⟨#[82, 45, 45]⟩ else if op = 10 then ⟨#[82, 84, 45]⟩ else if op = 11 then ⟨#[45, 84, 45]⟩ else if isIn op 3 9 then ⟨#[82, 82, 82]⟩ else ⟨#[]⟩
def qdB := qho
def qaD (f x n : Int) : Bool := if f = 82 then qgB x else if f = 87 then isWord x else if f = 84 then isIn x 0 n else x == 0
def qdu (f x n : Int) : Prop := True
def qaW (p : List D.Ins) : Bool := decide (p.length ≤ 32) && p.all fun i => qdw i p.length
def qb6 := qaW
def qeb (p : List D.Ins) : Prop := Long p
def qbe := qaW
def qee (p : List D.Ins) : Prop := Long p
def qbz (i : D.Ins) (p : List D.Ins) : Bool := !qdw i p.length
def qae (l : List D.Ins) (g : D.Ins → Bool) : Int := qe9 g l 0
def qcX (l : List D.Ins) (g : D.Ins → Bool) (D : D.Ins → Prop) : Prop := Long l ∧ ∀ x ∈ l, D x
def qaf (l : List D.Ins) (g : D.Ins → Bool) : Bool := l.any g
def qcD (l : List D.Ins) (g : D.Ins → Bool) (D : D.Ins → Prop) : Prop := Long l ∧ ∀ x ∈ l, D x
def subW (a b : Int) : Int := if isWord a && isWord b then (a - b) % 65536 else 0
def mulW (a b : Int) : Int := if isWord a && isWord b then (a * b) % 65536 else 0
def qkz (a b : Int) : Int := if isWord a && (isWord b && decide (a < b)) then 1 else 0
def qbP := subW
def qcq := subW
def qbN := mulW
def qcn := mulW
def qbc := qkz
def qcd := qkz
def apply (i : D.Ins) (t : Int) (r : List Int) : List Int :=
 if i.Op = 1 then r.set i.A.toNat i.B else if i.Op = 2 then r.set i.A.toNat (rd r i.B) else if i.Op = 3 then r.set i.A.toNat (addW (rd r i.B) (rd r i.C))
 else if i.Op = 4 then r.set i.A.toNat (subW (rd r i.B) (rd r i.C)) else if i.Op = 5 then r.set i.A.toNat (mulW (rd r i.B) (rd r i.C))
 else if i.Op = 6 then r.set i.A.toNat (qgK .i64 (rd r i.B) (rd r i.C)) else if i.Op = 7 then r.set i.A.toNat (qkz (rd r i.B) (rd r i.C))
 else if i.Op = 8 then r.set i.A.toNat t else if i.Op = 9 then (if rd r i.C ≠ 0 then r.set i.A.toNat (rd r i.B) else r) else r
def Fits (i : D.Ins) (r : List Int) : Prop := r.length = 4 ∧ ∃ n, qdw i n = true
def qaY := apply
def qg1 (i : D.Ins) (t : Int) (r : List Int) : Prop := Fits i r
def qbx (n : Int) : Bool := isIn n 0 2
def qaS (l : List Int) (x : Int) : Int := qe9 (fun y => x == y) l 0
def qeq (l : List Int) (x : Int) : Prop := Long l
def qaU (l : List Int) (x : Int) : Bool := l.any fun y => x == y
def qe4 (l : List Int) (x : Int) : Prop := Long l
def qlD (h x : Int) : Int := qdH .i64 (IntKind.wrap .i64 ((IntKind.wrap .i64 ((IntKind.wrap .i64 (h * 131)) + (IntKind.wrap .i64 x))) + 7)) 1073741823
def qaK (b : List Int) : D.Cur := ⟨b, 0, (b.take 4000).foldl qlD (IntKind.wrap .i64 (98561 + ((b.length : Nat) : Int)))⟩
def curH (h : Int) : Int := IntKind.wrap .i64 ((IntKind.wrap .i64 (h * 6364136223846793005)) + 1442695040888963407)
def curX (h : Int) : Int := qdH .i64 (qgK .i64 (Int.fdiv h (2 ^ (min ((33 : Int).toNat) (IntKind.bits .i64)))) (Int.fdiv h (2 ^ (min ((45 : Int).toNat) (IntKind.bits .i64))))) 255
def qaj (c : D.Cur) : Int × D.Cur :=
 if c.i < ((c.b.length : Nat) : Int) then (qdH .i64 (IntKind.wrap .i64 (curX (curH c.h) + IntKind.wrap .i64 (rd c.b c.i))) 255, ⟨c.b, IntKind.wrap .i64 (c.i + 1), curH c.h⟩) else (curX (curH c.h), ⟨c.b, c.i, curH c.h⟩)
def qdz (c : D.Cur) : Prop := 0 ≤ c.i ∧ Long c.b
def qa0 (c : D.Cur) (n : Int) : Int × D.Cur :=
 if n ≤ 0 then (0, c) else if n ≤ 256 then (Int.tmod (qaj c).1 n, (qaj c).2)
 else let x := qaj c; let y := qaj x.2; let z := qaj y.2; let w := qaj z.2
  (Int.tmod (IntKind.wrap .i64 ((IntKind.wrap .i64 ((IntKind.wrap .i64 ((IntKind.wrap .i64 (x.1 * 16777216)) + (IntKind.wrap .i64 (y.1 * 65536)))) + (IntKind.wrap .i64 (z.1 * 256)))) + w.1)) n, w.2)
def qau (c : D.Cur) (l : List Int) : Int × D.Cur := (rd l (qa0 c l.length).1, (qa0 c l.length).2)
def qeK (b : List Int) : Prop := Long b
def qdO (c : D.Cur) : Prop := qdz c
def qas (c : D.Cur) (n : Int) : Prop := qdz c
def qe3 (c : D.Cur) (l : List Int) : Prop := qdz c ∧ l ≠ [] ∧ l.length ≤ 256
def qaA (c : D.Cur) : D.Ins × D.Cur :=
 let o := qa0 c 9; let a := qa0 o.2 4; let op := IntKind.wrap .i64 (1 + o.1)
 if op = 1 then let b := qa0 a.2 6; (⟨op, a.1, b.1, 0⟩, b.2) else if op = 8 then (⟨op, a.1, 0, 0⟩, a.2)
 else if op = 2 then let b := qa0 a.2 4; (⟨op, a.1, b.1, 0⟩, b.2) else let b := qa0 a.2 4; let d := qa0 b.2 4; (⟨op, a.1, b.1, d.1⟩, d.2)
def qeQ (c : D.Cur) : Prop := qdz c
def qbO (c : D.Cur) : Int × D.Cur :=
 let x := qa0 c 9; let y := qa0 x.2 9000; qau y.2 [0, 1, 2, 7, 100, 65535, 32768, x.1, y.1]
def qgl (c : D.Cur) : Prop := qdz c
def qgW : Nat → D.Cur → List Int × D.Cur
 | 0, c => ([], c)
 | k + 1, c => ((qgW k c).1 ++ [(qbO (qgW k c).2).1], (qbO (qgW k c).2).2)
def qbs (c : D.Cur) (n : Int) : List Int × D.Cur := qgW n.toNat c
def qg0 (c : D.Cur) (n : Int) : Prop := qdz c ∧ 0 ≤ n ∧ n ≤ 1000
def qeA : Nat → D.Cur → List Int × D.Cur
 | 0, c => ([], c)
 | k + 1, c => ((qeA k c).1 ++ [(qa0 (qeA k c).2 10000).1], (qa0 (qeA k c).2 10000).2)
def qb7 (b : List Int) : List Int := (qeA 12 (qaK b)).1
def qfi (b : List Int) : Prop := Long b
def qf8 (b : List Int) : Bool := decide (((b.length : Nat) : Int) > 1048576)
end Go.V.M
