import Derived.Test.YtnbkmenlaogblaaPure3
set_option linter.unusedVariables false
/-! what a warp does next; which warps can go on -/
namespace Go.V.M
def impl_Warp_lane_pre (x : D.Warp) (l : Int) : Prop := x.Regs.length = 32 ∧ 0 ≤ l ∧ l ≤ 7
def activeMask (x : D.Warp) : Int := if x.Frames.isEmpty then 0 else (lastF x.Frames).Mask
def spec_ActiveMask := activeMask
def spec_ActiveMask_pre (x : D.Warp) : Prop := Long x.Frames
def impl_ActiveMask := activeMask
def impl_ActiveMask_pre (x : D.Warp) : Prop := Long x.Frames
def bitAt (k : Int) : Int := IntKind.wrap .i64 (1 * 2 ^ (min (k.toNat) (IntKind.bits .i64)))
def zeroStep (x : D.Warp) (reg : Int) (m : Int) (k : Int) : Int := if rd x.Regs (k * 4 + reg) = 0 then bitOr .i64 m (bitAt k) else m
def zeroMask (x : D.Warp) (reg : Int) : Int := (lanesOf (activeMask x)).foldl (zeroStep x reg) 0
def impl_Warp_zeroMask := zeroMask
def impl_Warp_zeroMask_pre (x : D.Warp) (reg : Int) : Prop := Long x.Frames ∧ x.Regs.length = 32 ∧ isReg reg = true
def spec_ZeroMask (x : D.Warp) (reg : Int) : Int := if isReg reg && x.Regs.length == 32 then zeroMask x reg else 0
def spec_ZeroMask_pre (x : D.Warp) (reg : Int) : Prop := Long x.Frames
/-- a valid warp that has frames -/
def Runs (p : List D.Ins) (x : D.Warp) : Prop := programOk p = true ∧ warpOf p x = true ∧ x.Frames ≠ []
def topPc (x : D.Warp) : Int := (lastF x.Frames).Pc
def topIns (p : List D.Ins) (x : D.Warp) : D.Ins := rd p (topPc x)
def splits (p : List D.Ins) (x : D.Warp) : Bool :=
  ((topIns p x).Op == 10 && (topIns p x).B != topPc x + 1) && (zeroMask x (topIns p x).A != 0 && zeroMask x (topIns p x).A != (lastF x.Frames).Mask)
def spec_l13Splits := splits
def spec_l13Splits_pre (p : List D.Ins) (x : D.Warp) : Prop := Runs p x
def impl_Warp_splits (x : D.Warp) (p : List D.Ins) : Bool := splits p x
def impl_Warp_splits_pre (x : D.Warp) (p : List D.Ins) : Prop := Runs p x
def spec_l13Local (p : List D.Ins) (x : D.Warp) : Bool := !x.Frames.isEmpty && (isLocal (topIns p x) && (!splits p x || decide (x.Frames.length ≤ 22)))
def spec_l13Local_pre (p : List D.Ins) (x : D.Warp) : Prop := programOk p = true ∧ warpOf p x = true
def canGo (b : D.Block) (w : Int) : Bool :=
  let x := rd b.Warps w
  !x.Frames.isEmpty && (!waits b w && (if isLocal (topIns b.Code x) then !splits b.Code x || decide (x.Frames.length ≤ 22) else (topIns b.Code x).Op != 16 || x.Frames.length == 1))
def spec_l30Can := canGo
def spec_l30Can_pre (b : D.Block) (w : Int) : Prop := Has b w
def impl_Block_canStep := canGo
def impl_Block_canStep_pre (b : D.Block) (w : Int) : Prop := Has b w
def canStep (b : D.Block) (w : Int) : Bool := hasWarp b w && canGo b w
def spec_CanStep := canStep
def spec_CanStep_pre (b : D.Block) (w : Int) : Prop := BLong b
def impl_CanStep := canStep
def impl_CanStep_pre (b : D.Block) (w : Int) : Prop := BLong b
def laws_FnExactCanStep (b : D.Block) (w : Int) : Bool := true
def laws_FnExactCanStep_pre (b : D.Block) (w : Int) : Prop := BLong b
/-- the first of n warps from f on that can go on -/
def pickFrom (b : D.Block) (n f : Int) : Nat → Int → Int
  | 0, _ => -1
  | r + 1, k => if canGo b (Int.tmod (f + k) n) then Int.tmod (f + k) n else pickFrom b n f r (k + 1)
def pick (b : D.Block) (q : Int) : Int := pickFrom b b.Warps.length (Int.tmod q b.Warps.length) b.Warps.length 0
def Good (b : D.Block) : Prop := BLong b ∧ blockOk b = true
def spec_l32Pick := pick
def spec_l32Pick_pre (b : D.Block) (q : Int) : Prop := Good b ∧ 0 ≤ q ∧ q ≤ 9223372036854775807
def impl_Block_pickWarp := pick
def impl_Block_pickWarp_pre (b : D.Block) (q : Int) : Prop := Good b ∧ 0 ≤ q ∧ q ≤ 9223372036854775807
def pickWarp (b : D.Block) (q : Int) : Int := if blockOk b && decide (0 ≤ q) then pick b q else -1
def spec_PickWarp := pickWarp
def spec_PickWarp_pre (b : D.Block) (q : Int) : Prop := BLong b ∧ q ≤ 9223372036854775807
def impl_PickWarp := pickWarp
def impl_PickWarp_pre (b : D.Block) (q : Int) : Prop := BLong b ∧ q ≤ 9223372036854775807
def laws_FnExactPickWarp (b : D.Block) (q : Int) : Bool := true
def laws_FnExactPickWarp_pre (b : D.Block) (q : Int) : Prop := BLong b ∧ q ≤ 9223372036854775807
def isStuck (b : D.Block) : Bool := blockOk b && (!ended b && (List.range b.Warps.length).all fun k : Nat => !canGo b (k : Int))
def spec_IsStuck := isStuck
def spec_IsStuck_pre (b : D.Block) : Prop := BLong b
def impl_IsStuck := isStuck
def impl_IsStuck_pre (b : D.Block) : Prop := BLong b
def laws_FnExactIsStuck (b : D.Block) : Bool := true
def laws_FnExactIsStuck_pre (b : D.Block) : Prop := BLong b
def stuckReason (b : D.Block) : ByteArray := if isStuck b then (if (List.range b.Warps.length).all (fun k : Nat => !isSplitBarrier b (k : Int)) then ⟨#[102, 114, 97, 109, 101, 115]⟩ else ⟨#[115, 112, 108, 105, 116]⟩) else ⟨#[]⟩
def spec_StuckReason := stuckReason
def spec_StuckReason_pre (b : D.Block) : Prop := BLong b
def impl_StuckReason := stuckReason
def impl_StuckReason_pre (b : D.Block) : Prop := BLong b
def laws_FnExactStuckReason (b : D.Block) : Bool := true
def laws_FnExactStuckReason_pre (b : D.Block) : Prop := BLong b
end Go.V.M
