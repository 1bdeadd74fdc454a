import Derived.Test.YtnafhlbbbgpmgaaVLoop
set_option linter.unusedVariables false
/-! the data of the program, and what its functions compute, in plain Lean -/
namespace Go.V.D
structure Ins where
  Op : Int
  A : Int
  B : Int
  C : Int
  deriving Inhabited, DecidableEq
structure Frame where
  Pc : Int
  Stop : Int
  Mask : Int
  deriving Inhabited, DecidableEq
structure Access where
  Phase : Int
  Warp : Int
  Address : Int
  Kind : Int
  deriving Inhabited, DecidableEq
structure Cost where
  Steps : Int
  Active : Int
  Splits : Int
  deriving Inhabited, DecidableEq
structure Lane where
  Thread : Int
  Pc : Int
  Regs : List Int
  deriving Inhabited, DecidableEq
structure Warp where
  Number : Int
  Frames : List Frame
  Regs : List Int
  deriving Inhabited, DecidableEq
structure Block where
  Code : List Ins
  Warps : List Warp
  Memory : List Int
  Waiting : Int
  Phase : Int
  deriving Inhabited, DecidableEq
end Go.V.D
namespace Go.V.M
/-- a ≤ x ≤ b -/
def isIn (x a b : Int) : Bool := decide (a ≤ x) && decide (x ≤ b)
def impl_within (x a b : Int) : Bool := isIn x a b
def spec_l01In (x a b : Int) : Bool := isIn x a b
def isWord (n : Int) : Bool := isIn n 0 65535
def impl_IsWord := isWord
def spec_IsWord := isWord
def isMask (n : Int) : Bool := isIn n 0 255
def impl_IsMask := isMask
def spec_IsMask := isMask
def isLane (n : Int) : Bool := isIn n 0 7
def impl_isLane := isLane
def hasLane (m l : Int) : Bool := isMask m && isLane l && (bitAnd .i64 (Int.fdiv m (2 ^ (min l.toNat (IntKind.bits .i64)))) 1 == 1)
def impl_HasLane := hasLane
def spec_HasLane := hasLane
def lanesOf (m : Int) : List Int := [0, 1, 2, 3, 4, 5, 6, 7].filter (hasLane m)
def impl_LanesOf := lanesOf
def spec_AreWords (l : List Int) : Bool := l.all isWord
def Short (n : Nat) : Prop := n ≤ 1152921504606846976
def spec_AreWords_pre (l : List Int) : Prop := l.length ≤ 1152921504606846976
def laws_eqIntS (a b : List Int) : Bool := a == b
def laws_eqIntS_pre (a b : List Int) : Prop := a.length ≤ 1152921504606846976
def laws_toIntS (a : List Int) : List Int := a
def laws_toIntS_pre (a : List Int) : Prop := a.length ≤ 2097152
def laws_toAccess (a : D.Access) : D.Access := a
def isRace (a b : D.Access) : Bool := a.Phase == b.Phase && a.Address == b.Address && a.Warp != b.Warp && !(a.Kind == b.Kind && (a.Kind == 13 || a.Kind == 15))
def impl_IsRace := isRace
def spec_IsRace := isRace
def laws_szAccessS (a : List D.Access) (left : Int) : Int := if left - a.length < 0 then -1 else left - a.length
def laws_szAccessS_pre (a : List D.Access) (left : Int) : Prop := 0 ≤ left ∧ left ≤ 2097152 ∧ a.length ≤ 1152921504606846976
def laws_FnExactIsRace (a b : D.Access) : Bool := true
def laws_toAccessS (a : List D.Access) : List D.Access := a
def laws_toAccessS_pre (a : List D.Access) : Prop := a.length ≤ 2097152
def laneNew (t : Int) : D.Lane := if isIn t 0 23 then ⟨t, 0, [0, 0, 0, 0]⟩ else ⟨0, 0, []⟩
def spec_LaneNew := laneNew
end Go.V.M
