import Derived.Test.YtkpfabigipedcaaVLoop
set_option linter.unusedVariables false
/-! the data of the program, and what its functions compute, in plain Lean -/
namespace Go.V.D
structure Ins where
  Op : Int
  A : Int
  B : Int
  C : Int
  deriving Inhabited, DecidableEq
structure Frame where
  Pc : Int
  Stop : Int
  Mask : Int
  deriving Inhabited, DecidableEq
structure Access where
  Phase : Int
  Warp : Int
  Address : Int
  Kind : Int
  deriving Inhabited, DecidableEq
structure Cost where
  Steps : Int
  Active : Int
  Splits : Int
  deriving Inhabited, DecidableEq
structure Lane where
  Thread : Int
  Pc : Int
  Regs : List Int
  deriving Inhabited, DecidableEq
structure Warp where
  Number : Int
  Frames : List Frame
  Regs : List Int
  deriving Inhabited, DecidableEq
structure Block where
  Code : List Ins
  Warps : List Warp
  Memory : List Int
  Waiting : Int
  Phase : Int
  deriving Inhabited, DecidableEq
structure Cur where
  b : List Int
  i : Int
  h : Int
  deriving Inhabited, DecidableEq
end Go.V.D
namespace Go.V.M
/-- a ≤ x ≤ b -/
def isIn (x a b : Int) : Bool := decide (a ≤ x) && decide (x ≤ b)
def impl_within (x a b : Int) : Bool := isIn x a b
def spec_l01In (x a b : Int) : Bool := isIn x a b
def isWord (n : Int) : Bool := isIn n 0 65535
def impl_IsWord := isWord
def spec_IsWord := isWord
def isMask (n : Int) : Bool := isIn n 0 255
def impl_IsMask := isMask
def spec_IsMask := isMask
def isLane (n : Int) : Bool := isIn n 0 7
def impl_isLane := isLane
def hasLane (m l : Int) : Bool := isMask m && isLane l && (bitAnd .i64 (Int.fdiv m (2 ^ (min l.toNat (IntKind.bits .i64)))) 1 == 1)
def impl_HasLane := hasLane
def spec_HasLane := hasLane
def lanesOf (m : Int) : List Int := [0, 1, 2, 3, 4, 5, 6, 7].filter (hasLane m)
def impl_LanesOf := lanesOf
def spec_AreWords (l : List Int) : Bool := l.all isWord
def Short (n : Nat) : Prop := n ≤ 9223372036854775807
def spec_AreWords_pre (l : List Int) : Prop := l.length ≤ 9223372036854775807
def laws_eqIntS (a b : List Int) : Bool := a == b
def laws_eqIntS_pre (a b : List Int) : Prop := a.length ≤ 9223372036854775807
def laws_toIntS (a : List Int) : List Int := a
def laws_toIntS_pre (a : List Int) : Prop := a.length ≤ 2097152
def laws_toAccess (a : D.Access) : D.Access := a
def isRace (a b : D.Access) : Bool := a.Phase == b.Phase && a.Address == b.Address && a.Warp != b.Warp && !(a.Kind == b.Kind && (a.Kind == 13 || a.Kind == 15))
def impl_IsRace := isRace
def spec_IsRace := isRace
def laws_szAccessS (a : List D.Access) (left : Int) : Int := if left - a.length < 0 then -1 else left - a.length
def laws_szAccessS_pre (a : List D.Access) (left : Int) : Prop := 0 ≤ left ∧ left ≤ 2097152 ∧ a.length ≤ 9223372036854775807
def laws_FnExactIsRace (a b : D.Access) : Bool := true
def laws_toAccessS (a : List D.Access) : List D.Access := a
def laws_toAccessS_pre (a : List D.Access) : Prop := a.length ≤ 2097152
def laneNew (t : Int) : D.Lane := if isIn t 0 23 then ⟨t, 0, [0, 0, 0, 0]⟩ else ⟨0, 0, []⟩
def spec_LaneNew := laneNew
/-- n words from k on, m to an element -/
def Small (k : Int) : Prop := 0 ≤ k ∧ k ≤ 4611686018427387904
def Few (n : Nat) : Prop := n ≤ 576460752303423488
def seqInt (k : Int) (n : Nat) : List Int := (List.range n).map fun i : Nat => k + (i : Int)
def laws_markIntS (a : List Int) (k : Int) : Int × List Int := (k + a.length, seqInt k a.length)
def laws_markIntS_pre (a : List Int) (k : Int) : Prop := Small k ∧ Few a.length
def laws_heldIntS (a : List Int) (k : Int) : Int := if a = seqInt k a.length then k + a.length else -1
def laws_heldIntS_pre (a : List Int) (k : Int) : Prop := Small k ∧ Few a.length
def seqAccess (k : Int) (n : Nat) : List D.Access := (List.range n).map fun i : Nat => ⟨k + 4 * (i : Int), k + 4 * (i : Int) + 1, k + 4 * (i : Int) + 2, k + 4 * (i : Int) + 3⟩
def laws_markAccessS (a : List D.Access) (k : Int) : Int × List D.Access := (k + 4 * a.length, seqAccess k a.length)
def laws_markAccessS_pre (a : List D.Access) (k : Int) : Prop := Small k ∧ Few a.length
def laws_heldAccessS (a : List D.Access) (k : Int) : Int := if a = seqAccess k a.length then k + 4 * a.length else -1
def laws_heldAccessS_pre (a : List D.Access) (k : Int) : Prop := Small k ∧ Few a.length
def laws_eqAccess (a b : D.Access) : Bool := a == b
def laws_eqAccessS (a b : List D.Access) : Bool := a == b
def laws_eqAccessS_pre (a b : List D.Access) : Prop := a.length ≤ 9223372036854775807
/-! words -/
def spec_ValuesOk (l : List Int) : Bool := l.length == 8 && l.all isWord
def impl_ValuesOk := spec_ValuesOk
def impl_AreWords (l : List Int) : Bool := l.all isWord
def impl_AreWords_pre := spec_AreWords_pre
def impl_AreWords_1 (n : Int) : Bool := !isWord n
def maskOf (l : List Int) : Int × Bool := if l.all isLane then (l.foldl (fun m x => bitOr .i64 m (IntKind.wrap .i64 (1 * 2 ^ (min x.toNat (IntKind.bits .i64))))) 0, true) else (0, false)
def Long {α : Type} (l : List α) : Prop := l.length ≤ 9223372036854775807
def spec_MaskOf := maskOf
def spec_MaskOf_pre (l : List Int) : Prop := Long l
def impl_MaskOf := maskOf
def impl_MaskOf_pre (l : List Int) : Prop := Long l
def isPerm (l : List Int) : Bool := (maskOf l).2 && (l.length == 8 && (maskOf l).1 == 255)
def spec_IsPermutation := isPerm
def spec_IsPermutation_pre (l : List Int) : Prop := Long l
def impl_IsPermutation := isPerm
def impl_IsPermutation_pre (l : List Int) : Prop := Long l
def impl_WrapWord (n : Int) : Int := n % 65536
def spec_WrapWord (n : Int) : Int := n % 65536
def impl_wrapped (a b n : Int) : Int := if isWord a && isWord b then n % 65536 else 0
def addW (a b : Int) : Int := if isWord a && isWord b then (a + b) % 65536 else 0
def spec_AddWords := addW
def impl_AddWords := addW
def aio (values : List Int) : List Int → Int → List Int → List Int × Int
  | [], x, out => (out, x)
  | o :: order, x, out => aio values order (addW x (rd values o)) (out.set o.toNat x)
def addInOrder (x : Int) (values order : List Int) : List Int × Int × Bool :=
  if isWord x && (spec_ValuesOk values && isPerm order) then ((aio values order x [0, 0, 0, 0, 0, 0, 0, 0]).1, (aio values order x [0, 0, 0, 0, 0, 0, 0, 0]).2, true) else ([], 0, false)
def spec_AddInOrder := addInOrder
def spec_AddInOrder_pre (x : Int) (values order : List Int) : Prop := Long order
def impl_AddInOrder := addInOrder
def impl_AddInOrder_pre (x : Int) (values order : List Int) : Prop := Long order
/-- the first place where g holds; -1 if none -/
def firstIx {α : Type} (g : α → Bool) : List α → Nat → Int
  | [], _ => -1
  | x :: l, i => if g x then (i : Int) else firstIx g l (i + 1)
def slices_IndexFunc_int_int (l : List Int) (g : Int → Bool) : Int := firstIx g l 0
def slices_IndexFunc_int_int_pre (l : List Int) (g : Int → Bool) (D : Int → Prop) : Prop := Long l ∧ ∀ x ∈ l, D x
def slices_ContainsFunc_int_int (l : List Int) (g : Int → Bool) : Bool := l.any g
def slices_ContainsFunc_int_int_pre (l : List Int) (g : Int → Bool) (D : Int → Prop) : Prop := Long l ∧ ∀ x ∈ l, D x
def spec_l21Op (o : Int) : Bool := isIn o 0 3
def spec_Combine (o a b : Int) : Int := if isWord a && isWord b then (if o = 0 then addW a b else if o = 1 then bitXor .i64 a b else if o = 2 then (if b < a then b else a) else if o = 3 then (if b > a then b else a) else 0) else 0
def spec_ScanRound (o : Int) (l : List Int) (d : Int) : List Int :=
  if spec_ValuesOk l && (spec_l21Op o && isIn d 1 7) then (List.range 8).map fun i : Nat => if d ≤ (i : Int) then spec_Combine o (rd l ((i : Int) - d)) (rd l (i : Int)) else rd l (i : Int) else []
def spec_ScanAll (o : Int) (l : List Int) : List Int := spec_ScanRound o (spec_ScanRound o (spec_ScanRound o l 1) 2) 4
def spec_NeutralOf (o : Int) : Int := if isIn o 0 3 then (if o = 2 then 65535 else 0) else -1
def spec_ScanBefore (o : Int) (l : List Int) : List Int := if (spec_ScanAll o l).length = 0 then spec_ScanAll o l else spec_NeutralOf o :: (spec_ScanAll o l).take 7
def spec_ReduceMasked (o : Int) (l : List Int) (m : Int) : Int :=
  if spec_ValuesOk l && (isMask m && spec_l21Op o) then (List.range 8).foldl (fun x (i : Nat) => if hasLane m (i : Int) then spec_Combine o x (rd l (i : Int)) else x) (spec_NeutralOf o) else 0
def spec_AddTogether (x : Int) (l : List Int) : List Int × Int × Bool :=
  if isWord x && spec_ValuesOk l then ((List.range 8).map (fun i : Nat => addW x (rd (spec_ScanBefore 0 l) (i : Int))), addW x (spec_ReduceMasked 0 l 255), true) else ([], 0, false)
def impl_ascending : List Int := lanesOf 255
def impl_AddTogether (x : Int) (l : List Int) : List Int × Int × Bool := addInOrder x l (lanesOf 255)
def laws_FnExactAddTogether (x : Int) (l : List Int) : Bool := true
def laws_FnExactAddTogether_pre (x : Int) (l : List Int) : Prop := Long l
/-! instructions, programs, lanes -/
def laws_szInsS (a : List D.Ins) (left : Int) : Int := if left - a.length < 0 then -1 else left - a.length
def laws_szInsS_pre (a : List D.Ins) (left : Int) : Prop := 0 ≤ left ∧ left ≤ 2097152 ∧ Long a
def laws_toIns (a : D.Ins) : D.Ins := a
def laws_toInsS (a : List D.Ins) : List D.Ins := a
def laws_toInsS_pre (a : List D.Ins) : Prop := a.length ≤ 2097152
def laws_eqIns (a b : D.Ins) : Bool := a == b
def laws_eqInsS (a b : List D.Ins) : Bool := a == b
def laws_eqInsS_pre (a b : List D.Ins) : Prop := Long a
def impl_isThread (n : Int) : Bool := isIn n 0 23
def impl_LaneNew := laneNew
def spec_l10Copy (l : D.Lane) : D.Lane := l
def spec_l10Copy_pre (l : D.Lane) : Prop := l.Regs.length ≤ 17179869184
def slices_Clone_int_int (l : List Int) : List Int := l
def slices_Clone_int_int_pre (l : List Int) : Prop := l.length ≤ 17179869184
def impl_copyLane (l : D.Lane) : D.Lane := l
def impl_copyLane_pre (l : D.Lane) : Prop := l.Regs.length ≤ 17179869184
def isLocal (i : D.Ins) : Bool := isIn i.Op 0 12
def spec_IsLocal := isLocal
def impl_IsLocal := isLocal
def isReg (n : Int) : Bool := isIn n 0 3
def spec_l04Reg := isReg
def impl_isReg := isReg
def insOk (i : D.Ins) (n : Int) : Bool := isIn n 0 32 &&
  (if i.Op = 0 ∨ i.Op = 12 ∨ i.Op = 16 then i.A == 0 && (i.B == 0 && i.C == 0)
  else if i.Op = 1 then isReg i.A && (isWord i.B && i.C == 0)
  else if i.Op = 2 ∨ i.Op = 13 ∨ i.Op = 14 ∨ i.Op = 15 then isReg i.A && (isReg i.B && i.C == 0)
  else if i.Op = 8 then isReg i.A && (i.B == 0 && i.C == 0)
  else if i.Op = 10 then isReg i.A && (isIn i.B 0 n && i.C == 0)
  else if i.Op = 11 then i.A == 0 && (isIn i.B 0 n && i.C == 0)
  else isIn i.Op 3 9 && (isReg i.A && (isReg i.B && isReg i.C)))
def spec_InsOk := insOk
def impl_InsOk := insOk
/-- the form of an operation: three letters -/
def formOf (op : Int) : ByteArray :=
  if op = 0 ∨ op = 12 ∨ op = 16 then ⟨#[45, 45, 45]⟩ else if op = 1 then ⟨#[82, 87, 45]⟩ else if op = 2 ∨ op = 13 ∨ op = 14 ∨ op = 15 then ⟨#[82, 82, 45]⟩
  else if op = 8 then ⟨#[82, 45, 45]⟩ else if op = 10 then ⟨#[82, 84, 45]⟩ else if op = 11 then ⟨#[45, 84, 45]⟩ else if isIn op 3 9 then ⟨#[82, 82, 82]⟩ else ⟨#[]⟩
def impl_formOf := formOf
def impl_isField (f x n : Int) : Bool := if f = 82 then isReg x else if f = 87 then isWord x else if f = 84 then isIn x 0 n else x == 0
def impl_isField_pre (f x n : Int) : Prop := True
def programOk (p : List D.Ins) : Bool := decide (p.length ≤ 32) && p.all fun i => insOk i p.length
def spec_ProgramOk := programOk
def spec_ProgramOk_pre (p : List D.Ins) : Prop := Long p
def impl_ProgramOk := programOk
def impl_ProgramOk_pre (p : List D.Ins) : Prop := Long p
def impl_ProgramOk_1 (i : D.Ins) (p : List D.Ins) : Bool := !insOk i p.length
def slices_IndexFunc_impl_Ins_impl_Ins (l : List D.Ins) (g : D.Ins → Bool) : Int := firstIx g l 0
def slices_IndexFunc_impl_Ins_impl_Ins_pre (l : List D.Ins) (g : D.Ins → Bool) (D : D.Ins → Prop) : Prop := Long l ∧ ∀ x ∈ l, D x
def slices_ContainsFunc_impl_Ins_impl_Ins (l : List D.Ins) (g : D.Ins → Bool) : Bool := l.any g
def slices_ContainsFunc_impl_Ins_impl_Ins_pre (l : List D.Ins) (g : D.Ins → Bool) (D : D.Ins → Prop) : Prop := Long l ∧ ∀ x ∈ l, D x
def impl_IsQuiet_1 (i : D.Ins) : Bool := !isLocal i
def isQuiet (p : List D.Ins) : Bool := programOk p && p.all isLocal
def spec_IsQuiet := isQuiet
def spec_IsQuiet_pre (p : List D.Ins) : Prop := Long p
def impl_IsQuiet := isQuiet
def impl_IsQuiet_pre (p : List D.Ins) : Prop := Long p
def areRegs (r : List Int) : Bool := r.length == 4 && r.all isWord
def impl_areRegs := areRegs
def laneOf (p : List D.Ins) (l : D.Lane) : Bool := isIn l.Thread 0 23 && (isIn l.Pc 0 p.length && areRegs l.Regs)
def impl_isLaneOf := laneOf
def impl_isLaneOf_pre (p : List D.Ins) (l : D.Lane) : Prop := True
def laneOk (p : List D.Ins) (l : D.Lane) : Bool := programOk p && laneOf p l
def spec_LaneOk := laneOk
def spec_LaneOk_pre (p : List D.Ins) (l : D.Lane) : Prop := Long p
def impl_LaneOk := laneOk
def impl_LaneOk_pre (p : List D.Ins) (l : D.Lane) : Prop := Long p
def subW (a b : Int) : Int := if isWord a && isWord b then (a - b) % 65536 else 0
def mulW (a b : Int) : Int := if isWord a && isWord b then (a * b) % 65536 else 0
def lessW (a b : Int) : Int := if isWord a && (isWord b && decide (a < b)) then 1 else 0
def spec_SubWords := subW
def impl_SubWords := subW
def spec_MulWords := mulW
def impl_MulWords := mulW
def spec_LessWords := lessW
def impl_LessWords := lessW
/-- the registers after an instruction -/
def apply (i : D.Ins) (t : Int) (r : List Int) : List Int :=
  if i.Op = 1 then r.set i.A.toNat i.B else if i.Op = 2 then r.set i.A.toNat (rd r i.B) else if i.Op = 3 then r.set i.A.toNat (addW (rd r i.B) (rd r i.C))
  else if i.Op = 4 then r.set i.A.toNat (subW (rd r i.B) (rd r i.C)) else if i.Op = 5 then r.set i.A.toNat (mulW (rd r i.B) (rd r i.C))
  else if i.Op = 6 then r.set i.A.toNat (bitXor .i64 (rd r i.B) (rd r i.C)) else if i.Op = 7 then r.set i.A.toNat (lessW (rd r i.B) (rd r i.C))
  else if i.Op = 8 then r.set i.A.toNat t else if i.Op = 9 then (if rd r i.C ≠ 0 then r.set i.A.toNat (rd r i.B) else r) else r
def Fits (i : D.Ins) (r : List Int) : Prop := r.length = 4 ∧ ∃ n, insOk i n = true
def spec_l10Apply := apply
def spec_l10Apply_pre (i : D.Ins) (t : Int) (r : List Int) : Prop := Fits i r
def impl_apply := apply
def impl_apply_pre (i : D.Ins) (t : Int) (r : List Int) : Prop := Fits i r
def next (p : List D.Ins) (pc : Int) (r : List Int) : Int :=
  if (rd p pc).Op = 12 then p.length else if (rd p pc).Op = 11 then (rd p pc).B else if (rd p pc).Op = 10 then (if rd r (rd p pc).A = 0 then (rd p pc).B else pc + 1) else pc + 1
def At (p : List D.Ins) (pc : Int) (r : List Int) : Prop := Long p ∧ 0 ≤ pc ∧ pc < p.length ∧ Fits (rd p pc) r
def spec_l10Next := next
def spec_l10Next_pre (p : List D.Ins) (pc : Int) (r : List Int) : Prop := At p pc r
def step (p : List D.Ins) (l : D.Lane) : D.Lane := ⟨l.Thread, next p l.Pc l.Regs, apply (rd p l.Pc) l.Thread l.Regs⟩
def spec_l10Step := step
def spec_l10Step_pre (p : List D.Ins) (l : D.Lane) : Prop := At p l.Pc l.Regs
def impl_Lane_pass (l : D.Lane) (p : List D.Ins) : Bool × D.Lane := if l.Pc = p.length then (false, l) else if isLocal (rd p l.Pc) then (true, step p l) else (false, l)
def impl_Lane_pass_pre (l : D.Lane) (p : List D.Ins) : Prop := Long p ∧ (l.Pc = p.length ∨ At p l.Pc l.Regs)
def runN (p : List D.Ins) : Nat → D.Lane → Int → D.Lane × Int
  | 0, l, n => (l, n)
  | k + 1, l, n => if l.Pc < p.length then runN p k (step p l) (n + 1) else (l, n)
def runLane (p : List D.Ins) (l : D.Lane) (steps : Int) : D.Lane × Int := if isQuiet p && (laneOk p l && isIn steps 0 1000) then runN p steps.toNat l 0 else (l, -1)
def spec_RunLane := runLane
def spec_RunLane_pre (p : List D.Ins) (l : D.Lane) (steps : Int) : Prop := Long p ∧ l.Regs.length ≤ 17179869184
def impl_RunLane := runLane
def impl_RunLane_pre (p : List D.Ins) (l : D.Lane) (steps : Int) : Prop := Long p ∧ l.Regs.length ≤ 17179869184
def stepsAlone (p : List D.Ins) (t : Int) : Int := if (runLane p (laneNew t) 1000).2 < 0 then -1 else if (runLane p (laneNew t) 1000).1.Pc < p.length then -1 else (runLane p (laneNew t) 1000).2
def spec_StepsAlone := stepsAlone
def spec_StepsAlone_pre (p : List D.Ins) (t : Int) : Prop := Long p
def impl_alone (p : List D.Ins) (t : Int) : D.Lane × Int × Bool :=
  if isIn t 0 23 then (if (runLane p (laneNew t) 1000).2 < 0 then (⟨0, 0, []⟩, 0, false) else if (runLane p (laneNew t) 1000).1.Pc ≠ p.length then (⟨0, 0, []⟩, 0, false) else ((runLane p (laneNew t) 1000).1, (runLane p (laneNew t) 1000).2, true))
  else (⟨0, 0, []⟩, 0, false)
def impl_alone_pre (p : List D.Ins) (t : Int) : Prop := Long p
def impl_StepsAlone := stepsAlone
def impl_StepsAlone_pre (p : List D.Ins) (t : Int) : Prop := Long p
def laws_FnExactStepsAlone (p : List D.Ins) (t : Int) : Bool := true
def laws_FnExactStepsAlone_pre (p : List D.Ins) (t : Int) : Prop := Long p
/-! laws over lanes -/
def laws_szIntS (a : List Int) (left : Int) : Int := if left - a.length < 0 then -1 else left - a.length
def laws_szIntS_pre (a : List Int) (left : Int) : Prop := 0 ≤ left ∧ left ≤ 2097152 ∧ Long a
def laws_szLane (l : D.Lane) (left : Int) : Int := laws_szIntS l.Regs left
def laws_szLane_pre (l : D.Lane) (left : Int) : Prop := 0 ≤ left ∧ left ≤ 2097152 ∧ Long l.Regs
def laws_toLane (l : D.Lane) : D.Lane := l
def laws_toLane_pre (l : D.Lane) : Prop := l.Regs.length ≤ 2097152
def laws_eqLane (a b : D.Lane) : Bool := a == b
def laws_eqLane_pre (a b : D.Lane) : Prop := Long a.Regs
def seqIns (k : Int) (n : Nat) : List D.Ins := (List.range n).map fun i : Nat => ⟨k + 4 * (i : Int), k + 4 * (i : Int) + 1, k + 4 * (i : Int) + 2, k + 4 * (i : Int) + 3⟩
def laws_markInsS (a : List D.Ins) (k : Int) : Int × List D.Ins := (k + 4 * a.length, seqIns k a.length)
def laws_markInsS_pre (a : List D.Ins) (k : Int) : Prop := Small k ∧ Few a.length
def laws_markLane (l : D.Lane) (k : Int) : Int × List Int := (k + l.Regs.length, seqInt k l.Regs.length)
def laws_markLane_pre (l : D.Lane) (k : Int) : Prop := Small k ∧ Few l.Regs.length
def laws_heldLane (l : D.Lane) (k : Int) : Int := if l.Regs = seqInt k l.Regs.length then k + l.Regs.length else -1
def laws_heldLane_pre (l : D.Lane) (k : Int) : Prop := Small k ∧ Few l.Regs.length
def runAlone (p : List D.Ins) (t : Int) : D.Lane × Bool :=
  if (runLane p (laneNew t) 1000).2 < 0 then (⟨0, 0, []⟩, false) else if (runLane p (laneNew t) 1000).1.Pc < p.length then (⟨0, 0, []⟩, false) else ((runLane p (laneNew t) 1000).1, true)
def spec_RunAlone := runAlone
def spec_RunAlone_pre (p : List D.Ins) (t : Int) : Prop := Long p
def impl_RunAlone := runAlone
def impl_RunAlone_pre (p : List D.Ins) (t : Int) : Prop := Long p
def laws_FnExactRunAlone (p : List D.Ins) (t : Int) : Bool := true
def laws_FnExactRunAlone_pre (p : List D.Ins) (t : Int) : Prop := Long p
def stepsList (p : List D.Ins) (w : Int) : List Int := (List.range 8).map fun i : Nat => stepsAlone p (w * 8 + (i : Int))
def stepsOf (p : List D.Ins) (w : Int) : List Int × Bool := if isIn w 0 2 && (stepsList p w).all (fun n => decide (0 ≤ n)) then (stepsList p w, true) else ([], false)
def spec_l15Alone := stepsOf
def spec_l15Alone_pre (p : List D.Ins) (w : Int) : Prop := Long p
def impl_isWarpNumber (n : Int) : Bool := isIn n 0 2
def impl_stepsOf (p : List D.Ins) (w : Int) : List Int × Bool := if isIn w 0 2 then (stepsList p w, (stepsList p w).all (fun n => decide (0 ≤ n))) else ([], false)
def impl_stepsOf_pre (p : List D.Ins) (w : Int) : Prop := Long p
def slices_Index_int_int (l : List Int) (x : Int) : Int := firstIx (fun y => x == y) l 0
def slices_Index_int_int_pre (l : List Int) (x : Int) : Prop := Long l
def slices_Contains_int_int (l : List Int) (x : Int) : Bool := l.any fun y => x == y
def slices_Contains_int_int_pre (l : List Int) (x : Int) : Prop := Long l
def sumAlone (p : List D.Ins) (w : Int) : Int := if (stepsOf p w).2 then (stepsOf p w).1.foldl (· + ·) 0 else -1
def spec_SumAlone := sumAlone
def spec_SumAlone_pre (p : List D.Ins) (w : Int) : Prop := Long p
def impl_SumAlone := sumAlone
def impl_SumAlone_pre (p : List D.Ins) (w : Int) : Prop := Long p
def laws_FnExactSumAlone (p : List D.Ins) (w : Int) : Bool := true
def laws_FnExactSumAlone_pre (p : List D.Ins) (w : Int) : Prop := Long p
def most (l : List Int) (m : Int) : Int := l.foldl (fun m x => if x > m then x else m) m
def mostAlone (p : List D.Ins) (w : Int) : Int := if (stepsOf p w).2 then most (stepsOf p w).1 0 else -1
def spec_MostAlone := mostAlone
def spec_MostAlone_pre (p : List D.Ins) (w : Int) : Prop := Long p
def slices_Max_int_int (l : List Int) : Int := most l (rd l 0)
def slices_Max_int_int_pre (l : List Int) : Prop := Long l ∧ l ≠ []
def impl_MostAlone := mostAlone
def impl_MostAlone_pre (p : List D.Ins) (w : Int) : Prop := Long p
def laws_FnExactMostAlone (p : List D.Ins) (w : Int) : Bool := true
def laws_FnExactMostAlone_pre (p : List D.Ins) (w : Int) : Prop := Long p
def endList (p : List D.Ins) (first : Int) (n : Nat) : List Int := (List.range n).flatMap fun i : Nat => (runAlone p (first + (i : Int))).1.Regs
def endOk (p : List D.Ins) (first : Int) (n : Nat) : Bool := (List.range n).all fun i : Nat => (runAlone p (first + (i : Int))).2
def endRegs (p : List D.Ins) (first count : Int) : List Int × Bool :=
  if isIn count 1 24 && (isIn first 0 23 && endOk p first count.toNat) then (endList p first count.toNat, true) else ([], false)
def spec_EndRegs := endRegs
def spec_EndRegs_pre (p : List D.Ins) (first count : Int) : Prop := Long p
def impl_EndRegs := endRegs
def impl_EndRegs_pre (p : List D.Ins) (first count : Int) : Prop := Long p
def diffMask (a b : List Int) (n : Nat) : Int :=
  (List.range n).foldl (fun m (k : Nat) => if rd a (k : Int) = rd b (k : Int) then m else bitOr .i64 m (IntKind.wrap .i64 (1 * 2 ^ (min ((IntKind.wrap .i64 (Int.tdiv (k : Int) 4)).toNat) (IntKind.bits .i64))))) 0
def differing (p q : List D.Ins) (w : Int) : Int :=
  if isIn w 0 2 && ((endRegs p (w * 8) 8).2 && (endRegs q (w * 8) 8).2) then diffMask (endRegs p (w * 8) 8).1 (endRegs q (w * 8) 8).1 32 else -1
def spec_DifferingLanes := differing
def spec_DifferingLanes_pre (p q : List D.Ins) (w : Int) : Prop := Long p ∧ Long q
def impl_DifferingLanes := differing
def impl_DifferingLanes_pre (p q : List D.Ins) (w : Int) : Prop := Long p ∧ Long q
def laws_FnExactDifferingLanes (p q : List D.Ins) (w : Int) : Bool := true
def laws_FnExactDifferingLanes_pre (p q : List D.Ins) (w : Int) : Prop := Long p ∧ Long q
/-! tickets -/
def math_bits_Mul32 (x y : Int) : Int × Int := (0, x * y)
def math_bits_Mul32_pre (x y : Int) : Prop := x = 1 ∧ y = 8
def math_bits_Mul64 (x y : Int) : Int × Int := (0, x * y)
def math_bits_Mul64_pre (x y : Int) : Prop := x = 1 ∧ y = 8
def math_bits_Mul (x y : Int) : Int × Int := (0, x * y)
def math_bits_Mul_pre (x y : Int) : Prop := x = 1 ∧ y = 8
def slices_Repeat_int_int (l : List Int) (n : Int) : List Int := (List.replicate n.toNat l).flatten
def slices_Repeat_int_int_pre (l : List Int) (n : Int) : Prop := l = [1] ∧ n = 8
def impl_ones : List Int := [1, 1, 1, 1, 1, 1, 1, 1]
def ticketsOf (x : Int) (o : List Int) : List Int × Bool := ((addInOrder x [1, 1, 1, 1, 1, 1, 1, 1] o).1, (addInOrder x [1, 1, 1, 1, 1, 1, 1, 1] o).2.2)
def spec_TicketsOf := ticketsOf
def spec_TicketsOf_pre (x : Int) (o : List Int) : Prop := Long o
def impl_TicketsOf := ticketsOf
def impl_TicketsOf_pre (x : Int) (o : List Int) : Prop := Long o
def laws_FnExactTicketsOf (x : Int) (o : List Int) : Bool := true
def laws_FnExactTicketsOf_pre (x : Int) (o : List Int) : Prop := Long o
/-! draws -/
def curNext (h x : Int) : Int := bitAnd .i64 (IntKind.wrap .i64 ((IntKind.wrap .i64 ((IntKind.wrap .i64 (h * 131)) + (IntKind.wrap .i64 x))) + 7)) 1073741823
def spec_l01New (b : List Int) : D.Cur := ⟨b, 0, (b.take 4000).foldl curNext (IntKind.wrap .i64 (98561 + ((b.length : Nat) : Int)))⟩
def curH (h : Int) : Int := IntKind.wrap .i64 ((IntKind.wrap .i64 (h * 6364136223846793005)) + 1442695040888963407)
def curX (h : Int) : Int := bitAnd .i64 (bitXor .i64 (Int.fdiv h (2 ^ (min ((33 : Int).toNat) (IntKind.bits .i64)))) (Int.fdiv h (2 ^ (min ((45 : Int).toNat) (IntKind.bits .i64))))) 255
def spec_l01Byte (c : D.Cur) : Int × D.Cur :=
  if c.i < ((c.b.length : Nat) : Int) then (bitAnd .i64 (IntKind.wrap .i64 (curX (curH c.h) + IntKind.wrap .i64 (rd c.b c.i))) 255, ⟨c.b, IntKind.wrap .i64 (c.i + 1), curH c.h⟩) else (curX (curH c.h), ⟨c.b, c.i, curH c.h⟩)
/-- a cursor that can go on -/
def CurOk (c : D.Cur) : Prop := 0 ≤ c.i ∧ Long c.b
def spec_l01Below (c : D.Cur) (n : Int) : Int × D.Cur :=
  if n ≤ 0 then (0, c) else if n ≤ 256 then (Int.tmod (spec_l01Byte c).1 n, (spec_l01Byte c).2)
  else let x := spec_l01Byte c; let y := spec_l01Byte x.2; let z := spec_l01Byte y.2; let w := spec_l01Byte z.2
    (Int.tmod (IntKind.wrap .i64 ((IntKind.wrap .i64 ((IntKind.wrap .i64 ((IntKind.wrap .i64 (x.1 * 16777216)) + (IntKind.wrap .i64 (y.1 * 65536)))) + (IntKind.wrap .i64 (z.1 * 256)))) + w.1)) n, w.2)
def spec_l01PickInt (c : D.Cur) (l : List Int) : Int × D.Cur := (rd l (spec_l01Below c l.length).1, (spec_l01Below c l.length).2)
def spec_l01New_pre (b : List Int) : Prop := Long b
def spec_l01Byte_pre (c : D.Cur) : Prop := CurOk c
def spec_l01Below_pre (c : D.Cur) (n : Int) : Prop := CurOk c
def spec_l01PickInt_pre (c : D.Cur) (l : List Int) : Prop := CurOk c ∧ l ≠ [] ∧ l.length ≤ 256
def spec_l04Plain (c : D.Cur) : D.Ins × D.Cur :=
  let o := spec_l01Below c 9; let a := spec_l01Below o.2 4; let op := IntKind.wrap .i64 (1 + o.1)
  if op = 1 then let b := spec_l01Below a.2 6; (⟨op, a.1, b.1, 0⟩, b.2) else if op = 8 then (⟨op, a.1, 0, 0⟩, a.2)
  else if op = 2 then let b := spec_l01Below a.2 4; (⟨op, a.1, b.1, 0⟩, b.2) else let b := spec_l01Below a.2 4; let d := spec_l01Below b.2 4; (⟨op, a.1, b.1, d.1⟩, d.2)
def spec_l04Plain_pre (c : D.Cur) : Prop := CurOk c
def wildOne (c : D.Cur) (n : Int) : D.Ins × D.Cur :=
  let k := spec_l01Below c 6
  if k.1 = 0 ∨ k.1 = 1 then let a := spec_l01Below k.2 4; let b := spec_l01Below a.2 (IntKind.wrap .i64 (n + 1)); (⟨10, a.1, b.1, 0⟩, b.2)
  else if k.1 = 2 then let b := spec_l01Below k.2 (IntKind.wrap .i64 (n + 1)); (⟨11, 0, b.1, 0⟩, b.2) else if k.1 = 3 then (⟨12, 0, 0, 0⟩, k.2) else spec_l04Plain k.2
def wildN (n : Int) : Nat → D.Cur → List D.Ins × D.Cur
  | 0, c => ([], c)
  | k + 1, c => ((wildN n k c).1 ++ [(wildOne (wildN n k c).2 n).1], (wildOne (wildN n k c).2 n).2)
def spec_l07Wild (c : D.Cur) : List D.Ins × D.Cur := wildN (spec_l01Below c 9).1 (spec_l01Below c 9).1.toNat (spec_l01Below c 9).2
def spec_l07Wild_pre (c : D.Cur) : Prop := CurOk c
def spec_l02Word (c : D.Cur) : Int × D.Cur :=
  let x := spec_l01Below c 9; let y := spec_l01Below x.2 9000; spec_l01PickInt y.2 [0, 1, 2, 7, 100, 65535, 32768, x.1, y.1]
def spec_l02Word_pre (c : D.Cur) : Prop := CurOk c
def wordsN : Nat → D.Cur → List Int × D.Cur
  | 0, c => ([], c)
  | k + 1, c => ((wordsN k c).1 ++ [(spec_l02Word (wordsN k c).2).1], (spec_l02Word (wordsN k c).2).2)
def spec_l02Words (c : D.Cur) (n : Int) : List Int × D.Cur := wordsN n.toNat c
def spec_l02Words_pre (c : D.Cur) (n : Int) : Prop := CurOk c ∧ 0 ≤ n ∧ n ≤ 1000
def spec_l10Case (c : D.Cur) (p : List D.Ins) : D.Lane × D.Cur :=
  let t := spec_l01Below c 24; let pc := spec_l01Below t.2 (IntKind.wrap .i64 (((p.length : Nat) : Int) + 1)); let r := spec_l02Words pc.2 4; (⟨t.1, pc.1, r.1⟩, r.2)
def spec_l10Case_pre (c : D.Cur) (p : List D.Ins) : Prop := CurOk c
def spec_DrawLane (b : List Int) : List D.Ins × D.Lane := let p := spec_l07Wild (spec_l01New b); (p.1, (spec_l10Case p.2 p.1).1)
def spec_DrawLane_pre (b : List Int) : Prop := Long b
def placesN : Nat → D.Cur → List Int × D.Cur
  | 0, c => ([], c)
  | k + 1, c => ((placesN k c).1 ++ [(spec_l01Below (placesN k c).2 10000).1], (spec_l01Below (placesN k c).2 10000).2)
def spec_DrawPlaces (b : List Int) : List Int := (placesN 12 (spec_l01New b)).1
def spec_DrawPlaces_pre (b : List Int) : Prop := Long b
def laws_big (b : List Int) : Bool := decide (((b.length : Nat) : Int) > 1048576)
def laws_sameInts (a b : List Int) : Bool := a == b
def laws_sameInts_pre (a b : List Int) : Prop := Long a
def laws_FnLaneParts (b : List Int) : Bool := true
def laws_FnLaneParts_pre (b : List Int) : Prop := Long b
end Go.V.M
