import Derived.Test.YtkpfabigipedcaaGreatAcVLoop
set_option linter.unusedVariables false
namespace Go.V.D
structure Ins where
 Op : Int
 A : Int
 B : Int
 C : Int
 deriving Inhabited, DecidableEq
structure Frame where
 Pc : Int
 Stop : Int
 Mask : Int
 deriving Inhabited, DecidableEq
structure Access where
 Phase : Int
 Warp : Int
 Address : Int
 Kind : Int
 deriving Inhabited, DecidableEq
structure Cost where
 Steps : Int
 Active : Int
 Splits : Int
 deriving Inhabited, DecidableEq
structure Lane where
 Thread : Int
 Pc : Int
 Regs : List Int
 deriving Inhabited, DecidableEq
structure Warp where
 Number : Int
 Frames : List Frame
 Regs : List Int
 deriving Inhabited, DecidableEq
structure Block where
 Code : List Ins
 Warps : List Warp
 Memory : List Int
 Waiting : Int
 Phase : Int
 deriving Inhabited, DecidableEq
structure Cur where
 b : List Int
 i : Int
 h : Int
 deriving Inhabited, DecidableEq
end Go.V.D
namespace Go.V.M
def isIn (x a b : Int) : Bool := decide (a ≤ x) && decide (x ≤ b)
def impl_within (x a b : Int) : Bool := isIn x a b
def spec_l01In (x a b : Int) : Bool := isIn x a b
def isWord (n : Int) : Bool := isIn n 0 65535
def impl_IsWord := isWord
def spec_IsWord := isWord
def isMask (n : Int) : Bool := isIn n 0 255
def impl_IsMask := isMask
def spec_IsMask := isMask
def isLane (n : Int) : Bool := isIn n 0 7
def impl_isLane := isLane
def hasLane (m l : Int) : Bool := isMask m && isLane l && (bitAnd .i64 (Int.fdiv m (2 ^ (min l.toNat (IntKind.bits .i64)))) 1 == 1)
def impl_HasLane := hasLane
def spec_HasLane := hasLane
def lanesOf (m : Int) : List Int := [0, 1, 2, 3, 4, 5, 6, 7].filter (hasLane m)
def impl_LanesOf := lanesOf
def spec_AreWords (l : List Int) : Bool := l.all isWord
def spec_AreWords_pre (l : List Int) : Prop := l.length ≤ 9223372036854775807
def laws_eqIntS (a b : List Int) : Bool := a == b
def laws_eqIntS_pre (a b : List Int) : Prop := a.length ≤ 9223372036854775807
def laws_toIntS (a : List Int) : List Int := a
def laws_toIntS_pre (a : List Int) : Prop := a.length ≤ 2097152
def Small (k : Int) : Prop := 0 ≤ k ∧ k ≤ 4611686018427387904
def Few (n : Nat) : Prop := n ≤ 576460752303423488
def seqInt (k : Int) (n : Nat) : List Int := (List.range n).map fun i : Nat => k + (i : Int)
def laws_markIntS (a : List Int) (k : Int) : Int × List Int := (k + a.length, seqInt k a.length)
def laws_markIntS_pre (a : List Int) (k : Int) : Prop := Small k ∧ Few a.length
def seqAccess (k : Int) (n : Nat) : List D.Access := (List.range n).map fun i : Nat => ⟨k + 4 * (i : Int), k + 4 * (i : Int) + 1, k + 4 * (i : Int) + 2, k + 4 * (i : Int) + 3⟩
def laws_markAccessS (a : List D.Access) (k : Int) : Int × List D.Access := (k + 4 * a.length, seqAccess k a.length)
def laws_markAccessS_pre (a : List D.Access) (k : Int) : Prop := Small k ∧ Few a.length
def laws_heldAccessS (a : List D.Access) (k : Int) : Int := if a = seqAccess k a.length then k + 4 * a.length else -1
def laws_heldAccessS_pre (a : List D.Access) (k : Int) : Prop := Small k ∧ Few a.length
def laws_eqAccess (a b : D.Access) : Bool := a == b
def laws_eqAccessS (a b : List D.Access) : Bool := a == b
def laws_eqAccessS_pre (a b : List D.Access) : Prop := a.length ≤ 9223372036854775807
def impl_AreWords (l : List Int) : Bool := l.all isWord
def impl_AreWords_pre := spec_AreWords_pre
def impl_AreWords_1 (n : Int) : Bool := !isWord n
def Long {α : Type} (l : List α) : Prop := l.length ≤ 9223372036854775807
def addW (a b : Int) : Int := if isWord a && isWord b then (a + b) % 65536 else 0
def firstIx {α : Type} (g : α → Bool) : List α → Nat → Int
 | [], _ => -1
 | x :: l, i => if g x then (i : Int) else firstIx g l (i + 1)
def slices_IndexFunc_int_int (l : List Int) (g : Int → Bool) : Int := firstIx g l 0
def slices_IndexFunc_int_int_pre (l : List Int) (g : Int → Bool) (D : Int → Prop) : Prop := Long l ∧ ∀ x ∈ l, D x
def slices_ContainsFunc_int_int (l : List Int) (g : Int → Bool) : Bool := l.any g
def slices_ContainsFunc_int_int_pre (l : List Int) (g : Int → Bool) (D : Int → Prop) : Prop := Long l ∧ ∀ x ∈ l, D x
def laws_szInsS (a : List D.Ins) (left : Int) : Int := if left - a.length < 0 then -1 else left - a.length
def laws_szInsS_pre (a : List D.Ins) (left : Int) : Prop := 0 ≤ left ∧ left ≤ 2097152 ∧ Long a
def laws_toIns (a : D.Ins) : D.Ins := a
def laws_toInsS (a : List D.Ins) : List D.Ins := a
def laws_toInsS_pre (a : List D.Ins) : Prop := a.length ≤ 2097152
def laws_eqIns (a b : D.Ins) : Bool := a == b
def laws_eqInsS (a b : List D.Ins) : Bool := a == b
def laws_eqInsS_pre (a b : List D.Ins) : Prop := Long a
def isLocal (i : D.Ins) : Bool := isIn i.Op 0 12
def spec_IsLocal := isLocal
def impl_IsLocal := isLocal
def isReg (n : Int) : Bool := isIn n 0 3
def spec_l04Reg := isReg
def impl_isReg := isReg
def insOk (i : D.Ins) (n : Int) : Bool := isIn n 0 32 &&
 (if i.Op = 0 ∨ i.Op = 12 ∨ i.Op = 16 then i.A == 0 && (i.B == 0 && i.C == 0)
 else if i.Op = 1 then isReg i.A && (isWord i.B && i.C == 0)
 else if i.Op = 2 ∨ i.Op = 13 ∨ i.Op = 14 ∨ i.Op = 15 then isReg i.A && (isReg i.B && i.C == 0)
 else if i.Op = 8 then isReg i.A && (i.B == 0 && i.C == 0)
 else if i.Op = 10 then isReg i.A && (isIn i.B 0 n && i.C == 0)
 else if i.Op = 11 then i.A == 0 && (isIn i.B 0 n && i.C == 0)
 else isIn i.Op 3 9 && (isReg i.A && (isReg i.B && isReg i.C)))
def spec_InsOk := insOk
def impl_InsOk := insOk
def formOf (op : Int) : ByteArray :=
 if op = 0 ∨ op = 12 ∨ op = 16 then ⟨#[45, 45, 45]⟩ else if op = 1 then ⟨#[82, 87, 45]⟩ else if op = 2 ∨ op = 13 ∨ op = 14 ∨ op = 15 then ⟨#[82, 82, 45]⟩
 else if op = 8 then ⟨#[82, 45, 45]⟩ else if op = 10 then ⟨#[82, 84, 45]⟩ else if op = 11 then ⟨#[45, 84, 45]⟩ else if isIn op 3 9 then ⟨#[82, 82, 82]⟩ else ⟨#[]⟩
def impl_formOf := formOf
def impl_isField (f x n : Int) : Bool := if f = 82 then isReg x else if f = 87 then isWord x else if f = 84 then isIn x 0 n else x == 0
def impl_isField_pre (f x n : Int) : Prop := True
def programOk (p : List D.Ins) : Bool := decide (p.length ≤ 32) && p.all fun i => insOk i p.length
def spec_ProgramOk := programOk
def spec_ProgramOk_pre (p : List D.Ins) : Prop := Long p
def impl_ProgramOk := programOk
def impl_ProgramOk_pre (p : List D.Ins) : Prop := Long p
def impl_ProgramOk_1 (i : D.Ins) (p : List D.Ins) : Bool := !insOk i p.length
def slices_IndexFunc_impl_Ins_impl_Ins (l : List D.Ins) (g : D.Ins → Bool) : Int := firstIx g l 0
def slices_IndexFunc_impl_Ins_impl_Ins_pre (l : List D.Ins) (g : D.Ins → Bool) (D : D.Ins → Prop) : Prop := Long l ∧ ∀ x ∈ l, D x
def slices_ContainsFunc_impl_Ins_impl_Ins (l : List D.Ins) (g : D.Ins → Bool) : Bool := l.any g
def slices_ContainsFunc_impl_Ins_impl_Ins_pre (l : List D.Ins) (g : D.Ins → Bool) (D : D.Ins → Prop) : Prop := Long l ∧ ∀ x ∈ l, D x
def isQuiet (p : List D.Ins) : Bool := programOk p && p.all isLocal
def subW (a b : Int) : Int := if isWord a && isWord b then (a - b) % 65536 else 0
def mulW (a b : Int) : Int := if isWord a && isWord b then (a * b) % 65536 else 0
def lessW (a b : Int) : Int := if isWord a && (isWord b && decide (a < b)) then 1 else 0
def apply (i : D.Ins) (t : Int) (r : List Int) : List Int :=
 if i.Op = 1 then r.set i.A.toNat i.B else if i.Op = 2 then r.set i.A.toNat (rd r i.B) else if i.Op = 3 then r.set i.A.toNat (addW (rd r i.B) (rd r i.C))
 else if i.Op = 4 then r.set i.A.toNat (subW (rd r i.B) (rd r i.C)) else if i.Op = 5 then r.set i.A.toNat (mulW (rd r i.B) (rd r i.C))
 else if i.Op = 6 then r.set i.A.toNat (bitXor .i64 (rd r i.B) (rd r i.C)) else if i.Op = 7 then r.set i.A.toNat (lessW (rd r i.B) (rd r i.C))
 else if i.Op = 8 then r.set i.A.toNat t else if i.Op = 9 then (if rd r i.C ≠ 0 then r.set i.A.toNat (rd r i.B) else r) else r
def Fits (i : D.Ins) (r : List Int) : Prop := r.length = 4 ∧ ∃ n, insOk i n = true
def next (p : List D.Ins) (pc : Int) (r : List Int) : Int :=
 if (rd p pc).Op = 12 then p.length else if (rd p pc).Op = 11 then (rd p pc).B else if (rd p pc).Op = 10 then (if rd r (rd p pc).A = 0 then (rd p pc).B else pc + 1) else pc + 1
def step (p : List D.Ins) (l : D.Lane) : D.Lane := ⟨l.Thread, next p l.Pc l.Regs, apply (rd p l.Pc) l.Thread l.Regs⟩
def laws_szIntS (a : List Int) (left : Int) : Int := if left - a.length < 0 then -1 else left - a.length
def laws_szIntS_pre (a : List Int) (left : Int) : Prop := 0 ≤ left ∧ left ≤ 2097152 ∧ Long a
def seqIns (k : Int) (n : Nat) : List D.Ins := (List.range n).map fun i : Nat => ⟨k + 4 * (i : Int), k + 4 * (i : Int) + 1, k + 4 * (i : Int) + 2, k + 4 * (i : Int) + 3⟩
def laws_markInsS (a : List D.Ins) (k : Int) : Int × List D.Ins := (k + 4 * a.length, seqIns k a.length)
def laws_markInsS_pre (a : List D.Ins) (k : Int) : Prop := Small k ∧ Few a.length
def impl_isWarpNumber (n : Int) : Bool := isIn n 0 2
def curH (h : Int) : Int := IntKind.wrap .i64 ((IntKind.wrap .i64 (h * 6364136223846793005)) + 1442695040888963407)
def curX (h : Int) : Int := bitAnd .i64 (bitXor .i64 (Int.fdiv h (2 ^ (min ((33 : Int).toNat) (IntKind.bits .i64)))) (Int.fdiv h (2 ^ (min ((45 : Int).toNat) (IntKind.bits .i64))))) 255
def spec_l01Byte (c : D.Cur) : Int × D.Cur :=
 if c.i < ((c.b.length : Nat) : Int) then (bitAnd .i64 (IntKind.wrap .i64 (curX (curH c.h) + IntKind.wrap .i64 (rd c.b c.i))) 255, ⟨c.b, IntKind.wrap .i64 (c.i + 1), curH c.h⟩) else (curX (curH c.h), ⟨c.b, c.i, curH c.h⟩)
def spec_l01Below (c : D.Cur) (n : Int) : Int × D.Cur :=
 if n ≤ 0 then (0, c) else if n ≤ 256 then (Int.tmod (spec_l01Byte c).1 n, (spec_l01Byte c).2)
 else let x := spec_l01Byte c; let y := spec_l01Byte x.2; let z := spec_l01Byte y.2; let w := spec_l01Byte z.2
  (Int.tmod (IntKind.wrap .i64 ((IntKind.wrap .i64 ((IntKind.wrap .i64 ((IntKind.wrap .i64 (x.1 * 16777216)) + (IntKind.wrap .i64 (y.1 * 65536)))) + (IntKind.wrap .i64 (z.1 * 256)))) + w.1)) n, w.2)
def spec_l04Plain (c : D.Cur) : D.Ins × D.Cur :=
 let o := spec_l01Below c 9; let a := spec_l01Below o.2 4; let op := IntKind.wrap .i64 (1 + o.1)
 if op = 1 then let b := spec_l01Below a.2 6; (⟨op, a.1, b.1, 0⟩, b.2) else if op = 8 then (⟨op, a.1, 0, 0⟩, a.2)
 else if op = 2 then let b := spec_l01Below a.2 4; (⟨op, a.1, b.1, 0⟩, b.2) else let b := spec_l01Below a.2 4; let d := spec_l01Below b.2 4; (⟨op, a.1, b.1, d.1⟩, d.2)
end Go.V.M
