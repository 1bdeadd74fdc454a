import Derived.Test.YtkpfabigipedcaaGreatWaVLoop
set_option linter.unusedVariables false
namespace Go.V.D
structure Ins where
 Op : Int
 A : Int
 B : Int
 C : Int
 deriving Inhabited, DecidableEq
structure Frame where
 Pc : Int
 Stop : Int
 Mask : Int
 deriving Inhabited, DecidableEq
structure Access where
 Phase : Int
 Warp : Int
 Address : Int
 Kind : Int
 deriving Inhabited, DecidableEq
structure Cost where
 Steps : Int
 Active : Int
 Splits : Int
 deriving Inhabited, DecidableEq
structure Lane where
 Thread : Int
 Pc : Int
 Regs : List Int
 deriving Inhabited, DecidableEq
structure Warp where
 Number : Int
 Frames : List Frame
 Regs : List Int
 deriving Inhabited, DecidableEq
structure Block where
 Code : List Ins
 Warps : List Warp
 Memory : List Int
 Waiting : Int
 Phase : Int
 deriving Inhabited, DecidableEq
structure Cur where
 b : List Int
 i : Int
 h : Int
 deriving Inhabited, DecidableEq
end Go.V.D
namespace Go.V.M
def isIn (x a b : Int) : Bool := decide (a ≤ x) && decide (x ≤ b)
def impl_within (x a b : Int) : Bool := isIn x a b
def spec_l01In (x a b : Int) : Bool := isIn x a b
def isWord (n : Int) : Bool := isIn n 0 65535
def impl_IsWord := isWord
def spec_IsWord := isWord
def isMask (n : Int) : Bool := isIn n 0 255
def impl_IsMask := isMask
def spec_IsMask := isMask
def isLane (n : Int) : Bool := isIn n 0 7
def impl_isLane := isLane
def hasLane (m l : Int) : Bool := isMask m && isLane l && (bitAnd .i64 (Int.fdiv m (2 ^ (min l.toNat (IntKind.bits .i64)))) 1 == 1)
def impl_HasLane := hasLane
def spec_HasLane := hasLane
def lanesOf (m : Int) : List Int := [0, 1, 2, 3, 4, 5, 6, 7].filter (hasLane m)
def impl_LanesOf := lanesOf
def spec_AreWords (l : List Int) : Bool := l.all isWord
def spec_AreWords_pre (l : List Int) : Prop := l.length ≤ 9223372036854775807
def laneNew (t : Int) : D.Lane := if isIn t 0 23 then ⟨t, 0, [0, 0, 0, 0]⟩ else ⟨0, 0, []⟩
def impl_AreWords (l : List Int) : Bool := l.all isWord
def impl_AreWords_pre := spec_AreWords_pre
def impl_AreWords_1 (n : Int) : Bool := !isWord n
def Long {α : Type} (l : List α) : Prop := l.length ≤ 9223372036854775807
def spec_WrapWord (n : Int) : Int := n % 65536
def addW (a b : Int) : Int := if isWord a && isWord b then (a + b) % 65536 else 0
def spec_AddWords := addW
def impl_AddWords := addW
def firstIx {α : Type} (g : α → Bool) : List α → Nat → Int
 | [], _ => -1
 | x :: l, i => if g x then (i : Int) else firstIx g l (i + 1)
def slices_IndexFunc_int_int (l : List Int) (g : Int → Bool) : Int := firstIx g l 0
def slices_IndexFunc_int_int_pre (l : List Int) (g : Int → Bool) (D : Int → Prop) : Prop := Long l ∧ ∀ x ∈ l, D x
def slices_ContainsFunc_int_int (l : List Int) (g : Int → Bool) : Bool := l.any g
def slices_ContainsFunc_int_int_pre (l : List Int) (g : Int → Bool) (D : Int → Prop) : Prop := Long l ∧ ∀ x ∈ l, D x
def isLocal (i : D.Ins) : Bool := isIn i.Op 0 12
def spec_IsLocal := isLocal
def impl_IsLocal := isLocal
def isReg (n : Int) : Bool := isIn n 0 3
def spec_l04Reg := isReg
def impl_isReg := isReg
def insOk (i : D.Ins) (n : Int) : Bool := isIn n 0 32 &&
 (if i.Op = 0 ∨ i.Op = 12 ∨ i.Op = 16 then i.A == 0 && (i.B == 0 && i.C == 0)
 else if i.Op = 1 then isReg i.A && (isWord i.B && i.C == 0)
 else if i.Op = 2 ∨ i.Op = 13 ∨ i.Op = 14 ∨ i.Op = 15 then isReg i.A && (isReg i.B && i.C == 0)
 else if i.Op = 8 then isReg i.A && (i.B == 0 && i.C == 0)
 else if i.Op = 10 then isReg i.A && (isIn i.B 0 n && i.C == 0)
 else if i.Op = 11 then i.A == 0 && (isIn i.B 0 n && i.C == 0)
 else isIn i.Op 3 9 && (isReg i.A && (isReg i.B && isReg i.C)))
def spec_InsOk := insOk
def impl_InsOk := insOk
def formOf (op : Int) : ByteArray :=
 if op = 0 ∨ op = 12 ∨ op = 16 then ⟨#[45, 45, 45]⟩ else if op = 1 then ⟨#[82, 87, 45]⟩ else if op = 2 ∨ op = 13 ∨ op = 14 ∨ op = 15 then ⟨#[82, 82, 45]⟩
 else if op = 8 then ⟨#[82, 45, 45]⟩ else if op = 10 then ⟨#[82, 84, 45]⟩ else if op = 11 then ⟨#[45, 84, 45]⟩ else if isIn op 3 9 then ⟨#[82, 82, 82]⟩ else ⟨#[]⟩
def impl_formOf := formOf
def impl_isField (f x n : Int) : Bool := if f = 82 then isReg x else if f = 87 then isWord x else if f = 84 then isIn x 0 n else x == 0
def impl_isField_pre (f x n : Int) : Prop := True
def programOk (p : List D.Ins) : Bool := decide (p.length ≤ 32) && p.all fun i => insOk i p.length
def spec_ProgramOk := programOk
def spec_ProgramOk_pre (p : List D.Ins) : Prop := Long p
def impl_ProgramOk := programOk
def impl_ProgramOk_pre (p : List D.Ins) : Prop := Long p
def impl_ProgramOk_1 (i : D.Ins) (p : List D.Ins) : Bool := !insOk i p.length
def slices_IndexFunc_impl_Ins_impl_Ins (l : List D.Ins) (g : D.Ins → Bool) : Int := firstIx g l 0
def slices_IndexFunc_impl_Ins_impl_Ins_pre (l : List D.Ins) (g : D.Ins → Bool) (D : D.Ins → Prop) : Prop := Long l ∧ ∀ x ∈ l, D x
def slices_ContainsFunc_impl_Ins_impl_Ins (l : List D.Ins) (g : D.Ins → Bool) : Bool := l.any g
def slices_ContainsFunc_impl_Ins_impl_Ins_pre (l : List D.Ins) (g : D.Ins → Bool) (D : D.Ins → Prop) : Prop := Long l ∧ ∀ x ∈ l, D x
def isQuiet (p : List D.Ins) : Bool := programOk p && p.all isLocal
def areRegs (r : List Int) : Bool := r.length == 4 && r.all isWord
def laneOf (p : List D.Ins) (l : D.Lane) : Bool := isIn l.Thread 0 23 && (isIn l.Pc 0 p.length && areRegs l.Regs)
def laneOk (p : List D.Ins) (l : D.Lane) : Bool := programOk p && laneOf p l
def subW (a b : Int) : Int := if isWord a && isWord b then (a - b) % 65536 else 0
def mulW (a b : Int) : Int := if isWord a && isWord b then (a * b) % 65536 else 0
def lessW (a b : Int) : Int := if isWord a && (isWord b && decide (a < b)) then 1 else 0
def spec_SubWords := subW
def impl_SubWords := subW
def spec_MulWords := mulW
def impl_MulWords := mulW
def spec_LessWords := lessW
def impl_LessWords := lessW
def apply (i : D.Ins) (t : Int) (r : List Int) : List Int :=
 if i.Op = 1 then r.set i.A.toNat i.B else if i.Op = 2 then r.set i.A.toNat (rd r i.B) else if i.Op = 3 then r.set i.A.toNat (addW (rd r i.B) (rd r i.C))
 else if i.Op = 4 then r.set i.A.toNat (subW (rd r i.B) (rd r i.C)) else if i.Op = 5 then r.set i.A.toNat (mulW (rd r i.B) (rd r i.C))
 else if i.Op = 6 then r.set i.A.toNat (bitXor .i64 (rd r i.B) (rd r i.C)) else if i.Op = 7 then r.set i.A.toNat (lessW (rd r i.B) (rd r i.C))
 else if i.Op = 8 then r.set i.A.toNat t else if i.Op = 9 then (if rd r i.C ≠ 0 then r.set i.A.toNat (rd r i.B) else r) else r
def Fits (i : D.Ins) (r : List Int) : Prop := r.length = 4 ∧ ∃ n, insOk i n = true
def spec_l10Apply := apply
def spec_l10Apply_pre (i : D.Ins) (t : Int) (r : List Int) : Prop := Fits i r
def next (p : List D.Ins) (pc : Int) (r : List Int) : Int :=
 if (rd p pc).Op = 12 then p.length else if (rd p pc).Op = 11 then (rd p pc).B else if (rd p pc).Op = 10 then (if rd r (rd p pc).A = 0 then (rd p pc).B else pc + 1) else pc + 1
def At (p : List D.Ins) (pc : Int) (r : List Int) : Prop := Long p ∧ 0 ≤ pc ∧ pc < p.length ∧ Fits (rd p pc) r
def step (p : List D.Ins) (l : D.Lane) : D.Lane := ⟨l.Thread, next p l.Pc l.Regs, apply (rd p l.Pc) l.Thread l.Regs⟩
def runN (p : List D.Ins) : Nat → D.Lane → Int → D.Lane × Int
 | 0, l, n => (l, n)
 | k + 1, l, n => if l.Pc < p.length then runN p k (step p l) (n + 1) else (l, n)
def runLane (p : List D.Ins) (l : D.Lane) (steps : Int) : D.Lane × Int := if isQuiet p && (laneOk p l && isIn steps 0 1000) then runN p steps.toNat l 0 else (l, -1)
def stepsAlone (p : List D.Ins) (t : Int) : Int := if (runLane p (laneNew t) 1000).2 < 0 then -1 else if (runLane p (laneNew t) 1000).1.Pc < p.length then -1 else (runLane p (laneNew t) 1000).2
def runAlone (p : List D.Ins) (t : Int) : D.Lane × Bool :=
 if (runLane p (laneNew t) 1000).2 < 0 then (⟨0, 0, []⟩, false) else if (runLane p (laneNew t) 1000).1.Pc < p.length then (⟨0, 0, []⟩, false) else ((runLane p (laneNew t) 1000).1, true)
def stepsList (p : List D.Ins) (w : Int) : List Int := (List.range 8).map fun i : Nat => stepsAlone p (w * 8 + (i : Int))
def stepsOf (p : List D.Ins) (w : Int) : List Int × Bool := if isIn w 0 2 && (stepsList p w).all (fun n => decide (0 ≤ n)) then (stepsList p w, true) else ([], false)
def impl_isWarpNumber (n : Int) : Bool := isIn n 0 2
def most (l : List Int) (m : Int) : Int := l.foldl (fun m x => if x > m then x else m) m
def mostAlone (p : List D.Ins) (w : Int) : Int := if (stepsOf p w).2 then most (stepsOf p w).1 0 else -1
def endList (p : List D.Ins) (first : Int) (n : Nat) : List Int := (List.range n).flatMap fun i : Nat => (runAlone p (first + (i : Int))).1.Regs
def endOk (p : List D.Ins) (first : Int) (n : Nat) : Bool := (List.range n).all fun i : Nat => (runAlone p (first + (i : Int))).2
def endRegs (p : List D.Ins) (first count : Int) : List Int × Bool :=
 if isIn count 1 24 && (isIn first 0 23 && endOk p first count.toNat) then (endList p first count.toNat, true) else ([], false)
def curNext (h x : Int) : Int := bitAnd .i64 (IntKind.wrap .i64 ((IntKind.wrap .i64 ((IntKind.wrap .i64 (h * 131)) + (IntKind.wrap .i64 x))) + 7)) 1073741823
def spec_l01New (b : List Int) : D.Cur := ⟨b, 0, (b.take 4000).foldl curNext (IntKind.wrap .i64 (98561 + ((b.length : Nat) : Int)))⟩
def curH (h : Int) : Int := IntKind.wrap .i64 ((IntKind.wrap .i64 (h * 6364136223846793005)) + 1442695040888963407)
def curX (h : Int) : Int := bitAnd .i64 (bitXor .i64 (Int.fdiv h (2 ^ (min ((33 : Int).toNat) (IntKind.bits .i64)))) (Int.fdiv h (2 ^ (min ((45 : Int).toNat) (IntKind.bits .i64))))) 255
def spec_l01Byte (c : D.Cur) : Int × D.Cur :=
 if c.i < ((c.b.length : Nat) : Int) then (bitAnd .i64 (IntKind.wrap .i64 (curX (curH c.h) + IntKind.wrap .i64 (rd c.b c.i))) 255, ⟨c.b, IntKind.wrap .i64 (c.i + 1), curH c.h⟩) else (curX (curH c.h), ⟨c.b, c.i, curH c.h⟩)
def CurOk (c : D.Cur) : Prop := 0 ≤ c.i ∧ Long c.b
def spec_l01Below (c : D.Cur) (n : Int) : Int × D.Cur :=
 if n ≤ 0 then (0, c) else if n ≤ 256 then (Int.tmod (spec_l01Byte c).1 n, (spec_l01Byte c).2)
 else let x := spec_l01Byte c; let y := spec_l01Byte x.2; let z := spec_l01Byte y.2; let w := spec_l01Byte z.2
  (Int.tmod (IntKind.wrap .i64 ((IntKind.wrap .i64 ((IntKind.wrap .i64 ((IntKind.wrap .i64 (x.1 * 16777216)) + (IntKind.wrap .i64 (y.1 * 65536)))) + (IntKind.wrap .i64 (z.1 * 256)))) + w.1)) n, w.2)
def spec_l01PickInt (c : D.Cur) (l : List Int) : Int × D.Cur := (rd l (spec_l01Below c l.length).1, (spec_l01Below c l.length).2)
def spec_l01New_pre (b : List Int) : Prop := Long b
def spec_l01Byte_pre (c : D.Cur) : Prop := CurOk c
def spec_l01Below_pre (c : D.Cur) (n : Int) : Prop := CurOk c
def spec_l01PickInt_pre (c : D.Cur) (l : List Int) : Prop := CurOk c ∧ l ≠ [] ∧ l.length ≤ 256
def spec_l04Plain (c : D.Cur) : D.Ins × D.Cur :=
 let o := spec_l01Below c 9; let a := spec_l01Below o.2 4; let op := IntKind.wrap .i64 (1 + o.1)
 if op = 1 then let b := spec_l01Below a.2 6; (⟨op, a.1, b.1, 0⟩, b.2) else if op = 8 then (⟨op, a.1, 0, 0⟩, a.2)
 else if op = 2 then let b := spec_l01Below a.2 4; (⟨op, a.1, b.1, 0⟩, b.2) else let b := spec_l01Below a.2 4; let d := spec_l01Below b.2 4; (⟨op, a.1, b.1, d.1⟩, d.2)
def spec_l04Plain_pre (c : D.Cur) : Prop := CurOk c
def spec_l02Word (c : D.Cur) : Int × D.Cur :=
 let x := spec_l01Below c 9; let y := spec_l01Below x.2 9000; spec_l01PickInt y.2 [0, 1, 2, 7, 100, 65535, 32768, x.1, y.1]
def spec_l02Word_pre (c : D.Cur) : Prop := CurOk c
def wordsN : Nat → D.Cur → List Int × D.Cur
 | 0, c => ([], c)
 | k + 1, c => ((wordsN k c).1 ++ [(spec_l02Word (wordsN k c).2).1], (spec_l02Word (wordsN k c).2).2)
def spec_l02Words (c : D.Cur) (n : Int) : List Int × D.Cur := wordsN n.toNat c
def spec_l02Words_pre (c : D.Cur) (n : Int) : Prop := CurOk c ∧ 0 ≤ n ∧ n ≤ 1000
def laws_big (b : List Int) : Bool := decide (((b.length : Nat) : Int) > 1048576)
end Go.V.M
