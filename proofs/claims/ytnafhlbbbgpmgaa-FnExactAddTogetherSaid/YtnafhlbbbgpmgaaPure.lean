import Derived.Test.YtnafhlbbbgpmgaaVLoop
set_option linter.unusedVariables false
/-! the data of the program, and what its functions compute, in plain Lean -/
namespace Go.V.D
structure Ins where
  Op : Int
  A : Int
  B : Int
  C : Int
  deriving Inhabited, DecidableEq
structure Frame where
  Pc : Int
  Stop : Int
  Mask : Int
  deriving Inhabited, DecidableEq
structure Access where
  Phase : Int
  Warp : Int
  Address : Int
  Kind : Int
  deriving Inhabited, DecidableEq
structure Cost where
  Steps : Int
  Active : Int
  Splits : Int
  deriving Inhabited, DecidableEq
structure Lane where
  Thread : Int
  Pc : Int
  Regs : List Int
  deriving Inhabited, DecidableEq
structure Warp where
  Number : Int
  Frames : List Frame
  Regs : List Int
  deriving Inhabited, DecidableEq
structure Block where
  Code : List Ins
  Warps : List Warp
  Memory : List Int
  Waiting : Int
  Phase : Int
  deriving Inhabited, DecidableEq
end Go.V.D
namespace Go.V.M
/-- a ≤ x ≤ b -/
def isIn (x a b : Int) : Bool := decide (a ≤ x) && decide (x ≤ b)
def impl_within (x a b : Int) : Bool := isIn x a b
def spec_l01In (x a b : Int) : Bool := isIn x a b
def isWord (n : Int) : Bool := isIn n 0 65535
def impl_IsWord := isWord
def spec_IsWord := isWord
def isMask (n : Int) : Bool := isIn n 0 255
def impl_IsMask := isMask
def spec_IsMask := isMask
def isLane (n : Int) : Bool := isIn n 0 7
def impl_isLane := isLane
def hasLane (m l : Int) : Bool := isMask m && isLane l && (bitAnd .i64 (Int.fdiv m (2 ^ (min l.toNat (IntKind.bits .i64)))) 1 == 1)
def impl_HasLane := hasLane
def spec_HasLane := hasLane
def lanesOf (m : Int) : List Int := [0, 1, 2, 3, 4, 5, 6, 7].filter (hasLane m)
def impl_LanesOf := lanesOf
def spec_AreWords (l : List Int) : Bool := l.all isWord
def Short (n : Nat) : Prop := n ≤ 9223372036854775807
def spec_AreWords_pre (l : List Int) : Prop := l.length ≤ 9223372036854775807
def laws_eqIntS (a b : List Int) : Bool := a == b
def laws_eqIntS_pre (a b : List Int) : Prop := a.length ≤ 9223372036854775807
def laws_toIntS (a : List Int) : List Int := a
def laws_toIntS_pre (a : List Int) : Prop := a.length ≤ 2097152
def laws_toAccess (a : D.Access) : D.Access := a
def isRace (a b : D.Access) : Bool := a.Phase == b.Phase && a.Address == b.Address && a.Warp != b.Warp && !(a.Kind == b.Kind && (a.Kind == 13 || a.Kind == 15))
def impl_IsRace := isRace
def spec_IsRace := isRace
def laws_szAccessS (a : List D.Access) (left : Int) : Int := if left - a.length < 0 then -1 else left - a.length
def laws_szAccessS_pre (a : List D.Access) (left : Int) : Prop := 0 ≤ left ∧ left ≤ 2097152 ∧ a.length ≤ 9223372036854775807
def laws_FnExactIsRace (a b : D.Access) : Bool := true
def laws_toAccessS (a : List D.Access) : List D.Access := a
def laws_toAccessS_pre (a : List D.Access) : Prop := a.length ≤ 2097152
def laneNew (t : Int) : D.Lane := if isIn t 0 23 then ⟨t, 0, [0, 0, 0, 0]⟩ else ⟨0, 0, []⟩
def spec_LaneNew := laneNew
/-- n words from k on, m to an element -/
def Small (k : Int) : Prop := 0 ≤ k ∧ k ≤ 4611686018427387904
def Few (n : Nat) : Prop := n ≤ 576460752303423488
def seqInt (k : Int) (n : Nat) : List Int := (List.range n).map fun i : Nat => k + (i : Int)
def laws_markIntS (a : List Int) (k : Int) : Int × List Int := (k + a.length, seqInt k a.length)
def laws_markIntS_pre (a : List Int) (k : Int) : Prop := Small k ∧ Few a.length
def laws_heldIntS (a : List Int) (k : Int) : Int := if a = seqInt k a.length then k + a.length else -1
def laws_heldIntS_pre (a : List Int) (k : Int) : Prop := Small k ∧ Few a.length
def seqAccess (k : Int) (n : Nat) : List D.Access := (List.range n).map fun i : Nat => ⟨k + 4 * (i : Int), k + 4 * (i : Int) + 1, k + 4 * (i : Int) + 2, k + 4 * (i : Int) + 3⟩
def laws_markAccessS (a : List D.Access) (k : Int) : Int × List D.Access := (k + 4 * a.length, seqAccess k a.length)
def laws_markAccessS_pre (a : List D.Access) (k : Int) : Prop := Small k ∧ Few a.length
def laws_heldAccessS (a : List D.Access) (k : Int) : Int := if a = seqAccess k a.length then k + 4 * a.length else -1
def laws_heldAccessS_pre (a : List D.Access) (k : Int) : Prop := Small k ∧ Few a.length
def laws_eqAccess (a b : D.Access) : Bool := a == b
def laws_eqAccessS (a b : List D.Access) : Bool := a == b
def laws_eqAccessS_pre (a b : List D.Access) : Prop := a.length ≤ 9223372036854775807
/-! words -/
def spec_ValuesOk (l : List Int) : Bool := l.length == 8 && l.all isWord
def impl_ValuesOk := spec_ValuesOk
def impl_AreWords (l : List Int) : Bool := l.all isWord
def impl_AreWords_pre := spec_AreWords_pre
def impl_AreWords_1 (n : Int) : Bool := !isWord n
def maskOf (l : List Int) : Int × Bool := if l.all isLane then (l.foldl (fun m x => bitOr .i64 m (IntKind.wrap .i64 (1 * 2 ^ (min x.toNat (IntKind.bits .i64))))) 0, true) else (0, false)
def Long {α : Type} (l : List α) : Prop := l.length ≤ 9223372036854775807
def spec_MaskOf := maskOf
def spec_MaskOf_pre (l : List Int) : Prop := Long l
def impl_MaskOf := maskOf
def impl_MaskOf_pre (l : List Int) : Prop := Long l
def isPerm (l : List Int) : Bool := (maskOf l).2 && (l.length == 8 && (maskOf l).1 == 255)
def spec_IsPermutation := isPerm
def spec_IsPermutation_pre (l : List Int) : Prop := Long l
def impl_IsPermutation := isPerm
def impl_IsPermutation_pre (l : List Int) : Prop := Long l
def impl_WrapWord (n : Int) : Int := n % 65536
def spec_WrapWord (n : Int) : Int := n % 65536
def impl_wrapped (a b n : Int) : Int := if isWord a && isWord b then n % 65536 else 0
def addW (a b : Int) : Int := if isWord a && isWord b then (a + b) % 65536 else 0
def spec_AddWords := addW
def impl_AddWords := addW
def aio (values : List Int) : List Int → Int → List Int → List Int × Int
  | [], x, out => (out, x)
  | o :: order, x, out => aio values order (addW x (rd values o)) (out.set o.toNat x)
def addInOrder (x : Int) (values order : List Int) : List Int × Int × Bool :=
  if isWord x && (spec_ValuesOk values && isPerm order) then ((aio values order x [0, 0, 0, 0, 0, 0, 0, 0]).1, (aio values order x [0, 0, 0, 0, 0, 0, 0, 0]).2, true) else ([], 0, false)
def spec_AddInOrder := addInOrder
def spec_AddInOrder_pre (x : Int) (values order : List Int) : Prop := Long order
def impl_AddInOrder := addInOrder
def impl_AddInOrder_pre (x : Int) (values order : List Int) : Prop := Long order
/-- the first place where g holds; -1 if none -/
def firstIx {α : Type} (g : α → Bool) : List α → Nat → Int
  | [], _ => -1
  | x :: l, i => if g x then (i : Int) else firstIx g l (i + 1)
def slices_IndexFunc_int_int (l : List Int) (g : Int → Bool) : Int := firstIx g l 0
def slices_IndexFunc_int_int_pre (l : List Int) (g : Int → Bool) (D : Int → Prop) : Prop := Long l ∧ ∀ x ∈ l, D x
def slices_ContainsFunc_int_int (l : List Int) (g : Int → Bool) : Bool := l.any g
def slices_ContainsFunc_int_int_pre (l : List Int) (g : Int → Bool) (D : Int → Prop) : Prop := Long l ∧ ∀ x ∈ l, D x
def spec_l21Op (o : Int) : Bool := isIn o 0 3
def spec_Combine (o a b : Int) : Int := if isWord a && isWord b then (if o = 0 then addW a b else if o = 1 then bitXor .i64 a b else if o = 2 then (if b < a then b else a) else if o = 3 then (if b > a then b else a) else 0) else 0
def spec_ScanRound (o : Int) (l : List Int) (d : Int) : List Int :=
  if spec_ValuesOk l && (spec_l21Op o && isIn d 1 7) then (List.range 8).map fun i : Nat => if d ≤ (i : Int) then spec_Combine o (rd l ((i : Int) - d)) (rd l (i : Int)) else rd l (i : Int) else []
def spec_ScanAll (o : Int) (l : List Int) : List Int := spec_ScanRound o (spec_ScanRound o (spec_ScanRound o l 1) 2) 4
def spec_NeutralOf (o : Int) : Int := if isIn o 0 3 then (if o = 2 then 65535 else 0) else -1
def spec_ScanBefore (o : Int) (l : List Int) : List Int := if (spec_ScanAll o l).length = 0 then spec_ScanAll o l else spec_NeutralOf o :: (spec_ScanAll o l).take 7
def spec_ReduceMasked (o : Int) (l : List Int) (m : Int) : Int :=
  if spec_ValuesOk l && (isMask m && spec_l21Op o) then (List.range 8).foldl (fun x (i : Nat) => if hasLane m (i : Int) then spec_Combine o x (rd l (i : Int)) else x) (spec_NeutralOf o) else 0
def spec_AddTogether (x : Int) (l : List Int) : List Int × Int × Bool :=
  if isWord x && spec_ValuesOk l then ((List.range 8).map (fun i : Nat => addW x (rd (spec_ScanBefore 0 l) (i : Int))), addW x (spec_ReduceMasked 0 l 255), true) else ([], 0, false)
def impl_ascending : List Int := lanesOf 255
def impl_AddTogether (x : Int) (l : List Int) : List Int × Int × Bool := addInOrder x l (lanesOf 255)
def laws_FnExactAddTogether (x : Int) (l : List Int) : Bool := true
def laws_FnExactAddTogether_pre (x : Int) (l : List Int) : Prop := Long l
end Go.V.M
