import Derived.Test.YtkpfabigipedcaaGreatWaPure
set_option linter.unusedVariables false
namespace Go.V.M
def WLong (x : D.Warp) : Prop := Long x.Frames ∧ Long x.Regs
def WsLong (l : List D.Warp) : Prop := Long l ∧ ∀ x ∈ l, WLong x
def BLong (b : D.Block) : Prop := Long b.Code ∧ WsLong b.Warps ∧ Long b.Memory
def WSmall (x : D.Warp) : Prop := x.Frames.length ≤ 2097152 ∧ x.Regs.length ≤ 2097152
def WsSmall (l : List D.Warp) : Prop := l.length ≤ 2097152 ∧ ∀ x ∈ l, WSmall x
def BSmall (b : D.Block) : Prop := b.Code.length ≤ 2097152 ∧ WsSmall b.Warps ∧ b.Memory.length ≤ 2097152
def lastF (fs : List D.Frame) : D.Frame := rd fs (((fs.length : Nat) : Int) - 1)
def frameOk (n : Int) (f : D.Frame) : Bool := isIn f.Pc 0 n && (isIn f.Stop 0 n && (isMask f.Mask && f.Mask != 0))
def endsOk (fs : List D.Frame) (n : Int) : Bool := decide (fs.length ≤ 24) && ((lastF fs).Pc != (lastF fs).Stop && ((lastF fs).Pc != n && ((rd fs 0).Stop == n && (rd fs 0).Mask == 255)))
def areFrames (fs : List D.Frame) (n : Int) : Bool := fs.all (frameOk n) && (fs.isEmpty || endsOk fs n)
def impl_areFrames := areFrames
def impl_areFrames_pre (fs : List D.Frame) (n : Int) : Prop := Long fs
def impl_areAllRegs (r : List Int) : Bool := r.length == 32
def warpOf (p : List D.Ins) (x : D.Warp) : Bool := isIn x.Number 0 2 && (x.Regs.length == 32 && (x.Regs.all isWord && areFrames x.Frames p.length))
def impl_isWarpOf := warpOf
def impl_isWarpOf_pre (p : List D.Ins) (x : D.Warp) : Prop := WLong x
def spec_WarpOk (p : List D.Ins) (x : D.Warp) : Bool := programOk p && warpOf p x
def spec_WarpOk_pre (p : List D.Ins) (x : D.Warp) : Prop := Long p ∧ WLong x
def impl_isWarpCount (n : Int) : Bool := isIn n 1 3
def impl_isMemory (m : List Int) : Bool := m.length == 32 && m.all isWord
def impl_isMemory_pre (m : List Int) : Prop := Long m
def waitTop (n : Nat) : Int := IntKind.wrap .i64 ((IntKind.wrap .i64 (1 * 2 ^ (min ((n : Int).toNat) (IntKind.bits .i64)))) - 2)
def warpAt (p : List D.Ins) (k : Nat) (x : D.Warp) : Bool := x.Number == (k : Int) && warpOf p x
def warpsOk (p : List D.Ins) : Nat → List D.Warp → Bool
 | _, [] => true
 | k, x :: l => warpAt p k x && warpsOk p (k + 1) l
def blockOk (b : D.Block) : Bool :=
 programOk b.Code && (isIn b.Warps.length 1 3 && (impl_isMemory b.Memory && (isIn b.Waiting 0 (waitTop b.Warps.length) && (isIn b.Phase 0 100000 && warpsOk b.Code 0 b.Warps))))
def spec_BlockOk := blockOk
def spec_BlockOk_pre (b : D.Block) : Prop := BLong b
def impl_BlockOk := blockOk
def impl_BlockOk_pre (b : D.Block) : Prop := BLong b
def hasWarp (b : D.Block) (w : Int) : Bool := blockOk b && isIn w 0 (IntKind.wrap .i64 (((b.Warps.length : Nat) : Int) - 1))
def spec_l30Ok := hasWarp
def spec_l30Ok_pre (b : D.Block) (w : Int) : Prop := BLong b
def impl_hasWarp := hasWarp
def impl_hasWarp_pre (b : D.Block) (w : Int) : Prop := BLong b
def waits (b : D.Block) (w : Int) : Bool := (bitAnd .i64 (Int.fdiv b.Waiting (2 ^ (min (w.toNat) (IntKind.bits .i64)))) 1) == 1
def impl_Block_waits := waits
def impl_Block_waits_pre (b : D.Block) (w : Int) : Prop := 0 ≤ w
def isWaiting (b : D.Block) (w : Int) : Bool := hasWarp b w && waits b w
def impl_IsWaiting := isWaiting
def impl_IsWaiting_pre (b : D.Block) (w : Int) : Prop := BLong b
def ended (b : D.Block) : Bool := b.Warps.all fun x => x.Frames.isEmpty
def blockEnded (b : D.Block) : Bool := blockOk b && ended b
def slices_IndexFunc_impl_Warp_impl_Warp (l : List D.Warp) (g : D.Warp → Bool) : Int := firstIx g l 0
def slices_IndexFunc_impl_Warp_impl_Warp_pre (l : List D.Warp) (g : D.Warp → Bool) (D : D.Warp → Prop) : Prop := Long l ∧ ∀ x ∈ l, D x
def slices_ContainsFunc_impl_Warp_impl_Warp (l : List D.Warp) (g : D.Warp → Bool) : Bool := l.any g
def slices_ContainsFunc_impl_Warp_impl_Warp_pre (l : List D.Warp) (g : D.Warp → Bool) (D : D.Warp → Prop) : Prop := Long l ∧ ∀ x ∈ l, D x
def impl_Block_ended_1 (x : D.Warp) : Bool := !x.Frames.isEmpty
def impl_Block_ended_1_pre (x : D.Warp) : Prop := True
def impl_Block_ended := ended
def impl_Block_ended_pre (b : D.Block) : Prop := Long b.Warps
def impl_BlockEnded := blockEnded
def impl_BlockEnded_pre (b : D.Block) : Prop := BLong b
def Has (b : D.Block) (w : Int) : Prop := BLong b ∧ hasWarp b w = true
def nextI (b : D.Block) (w : Int) : D.Ins := rd b.Code (lastF (rd b.Warps w).Frames).Pc
def spec_l30Next := nextI
def spec_l30Next_pre (b : D.Block) (w : Int) : Prop := Has b w ∧ (rd b.Warps w).Frames ≠ []
def nextOp (b : D.Block) (w : Int) : Int := if hasWarp b w && !(rd b.Warps w).Frames.isEmpty then (nextI b w).Op else -1
def impl_Block_nextIns (b : D.Block) (w : Int) : D.Ins × Bool := if (rd b.Warps w).Frames.isEmpty then (⟨0, 0, 0, 0⟩, false) else (nextI b w, true)
def impl_Block_nextIns_pre (b : D.Block) (w : Int) : Prop := Has b w
def impl_NextOp := nextOp
def impl_NextOp_pre (b : D.Block) (w : Int) : Prop := BLong b
def atBarrier (b : D.Block) (w : Int) : Bool := nextOp b w == 16
def impl_AtBarrier := atBarrier
def impl_AtBarrier_pre (b : D.Block) (w : Int) : Prop := BLong b
def isSplitBarrier (b : D.Block) (w : Int) : Bool := atBarrier b w && decide ((((rd b.Warps w).Frames.length : Nat) : Int) > 1)
def impl_IsSplitBarrier := isSplitBarrier
def impl_IsSplitBarrier_pre (b : D.Block) (w : Int) : Prop := BLong b
end Go.V.M
