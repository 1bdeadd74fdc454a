import Derived.Test.YtkpfabigipedcaaGreatAcPure
set_option linter.unusedVariables false
namespace Go.V.M
def WLong (x : D.Warp) : Prop := Long x.Frames ∧ Long x.Regs
def WsLong (l : List D.Warp) : Prop := Long l ∧ ∀ x ∈ l, WLong x
def BLong (b : D.Block) : Prop := Long b.Code ∧ WsLong b.Warps ∧ Long b.Memory
def WSmall (x : D.Warp) : Prop := x.Frames.length ≤ 2097152 ∧ x.Regs.length ≤ 2097152
def WsSmall (l : List D.Warp) : Prop := l.length ≤ 2097152 ∧ ∀ x ∈ l, WSmall x
def BSmall (b : D.Block) : Prop := b.Code.length ≤ 2097152 ∧ WsSmall b.Warps ∧ b.Memory.length ≤ 2097152
def Left (x : Int) : Prop := 0 ≤ x ∧ x ≤ 2097152
def laws_szFrameS (a : List D.Frame) (left : Int) : Int := if left - a.length < 0 then -1 else left - a.length
def laws_szFrameS_pre (a : List D.Frame) (left : Int) : Prop := 0 ≤ left ∧ left ≤ 2097152 ∧ Long a
def laws_szWarp (x : D.Warp) (left : Int) : Int := if laws_szFrameS x.Frames left < 0 then -1 else if laws_szIntS x.Regs (laws_szFrameS x.Frames left) < 0 then -1 else laws_szIntS x.Regs (laws_szFrameS x.Frames left)
def laws_szWarp_pre (x : D.Warp) (left : Int) : Prop := Left left ∧ WLong x
def szWs : List D.Warp → Int → Int
 | [], n => n
 | x :: l, n => if laws_szWarp x n < 0 then -1 else szWs l (laws_szWarp x n)
def laws_szWarpS (a : List D.Warp) (left : Int) : Int := if left - a.length < 0 then -1 else szWs a (left - a.length)
def laws_szWarpS_pre (a : List D.Warp) (left : Int) : Prop := Left left ∧ WsLong a
def laws_szBlock (b : D.Block) (left : Int) : Int :=
 if laws_szInsS b.Code left < 0 then -1 else if laws_szWarpS b.Warps (laws_szInsS b.Code left) < 0 then -1
 else if laws_szIntS b.Memory (laws_szWarpS b.Warps (laws_szInsS b.Code left)) < 0 then -1 else laws_szIntS b.Memory (laws_szWarpS b.Warps (laws_szInsS b.Code left))
def laws_szBlock_pre (b : D.Block) (left : Int) : Prop := Left left ∧ BLong b
def laws_toFrame (a : D.Frame) : D.Frame := a
def laws_toFrameS (a : List D.Frame) : List D.Frame := a
def laws_toFrameS_pre (a : List D.Frame) : Prop := a.length ≤ 2097152
def laws_toWarp (a : D.Warp) : D.Warp := a
def laws_toWarp_pre (a : D.Warp) : Prop := WSmall a
def laws_toWarpS (a : List D.Warp) : List D.Warp := a
def laws_toWarpS_pre (a : List D.Warp) : Prop := WsSmall a
def laws_toBlock (a : D.Block) : D.Block := a
def laws_toBlock_pre (a : D.Block) : Prop := BSmall a
def laws_eqFrame (a b : D.Frame) : Bool := a == b
def laws_eqFrameS (a b : List D.Frame) : Bool := a == b
def laws_eqFrameS_pre (a b : List D.Frame) : Prop := Long a
def laws_eqWarp (a b : D.Warp) : Bool := a == b
def laws_eqWarp_pre (a b : D.Warp) : Prop := WLong a
def laws_eqWarpS (a b : List D.Warp) : Bool := a == b
def laws_eqWarpS_pre (a b : List D.Warp) : Prop := WsLong a
def laws_eqBlock (a b : D.Block) : Bool := a == b
def laws_eqBlock_pre (a b : D.Block) : Prop := BLong a
def lastF (fs : List D.Frame) : D.Frame := rd fs (((fs.length : Nat) : Int) - 1)
def frameOk (n : Int) (f : D.Frame) : Bool := isIn f.Pc 0 n && (isIn f.Stop 0 n && (isMask f.Mask && f.Mask != 0))
def endsOk (fs : List D.Frame) (n : Int) : Bool := decide (fs.length ≤ 24) && ((lastF fs).Pc != (lastF fs).Stop && ((lastF fs).Pc != n && ((rd fs 0).Stop == n && (rd fs 0).Mask == 255)))
def areFrames (fs : List D.Frame) (n : Int) : Bool := fs.all (frameOk n) && (fs.isEmpty || endsOk fs n)
def impl_areFrames := areFrames
def impl_areFrames_pre (fs : List D.Frame) (n : Int) : Prop := Long fs
def impl_areAllRegs (r : List Int) : Bool := r.length == 32
def warpOf (p : List D.Ins) (x : D.Warp) : Bool := isIn x.Number 0 2 && (x.Regs.length == 32 && (x.Regs.all isWord && areFrames x.Frames p.length))
def impl_isWarpOf := warpOf
def impl_isWarpOf_pre (p : List D.Ins) (x : D.Warp) : Prop := WLong x
def spec_WarpOk (p : List D.Ins) (x : D.Warp) : Bool := programOk p && warpOf p x
def spec_WarpOk_pre (p : List D.Ins) (x : D.Warp) : Prop := Long p ∧ WLong x
def impl_isWarpCount (n : Int) : Bool := isIn n 1 3
def impl_isMemory (m : List Int) : Bool := m.length == 32 && m.all isWord
def impl_isMemory_pre (m : List Int) : Prop := Long m
def waitTop (n : Nat) : Int := IntKind.wrap .i64 ((IntKind.wrap .i64 (1 * 2 ^ (min ((n : Int).toNat) (IntKind.bits .i64)))) - 2)
def warpAt (p : List D.Ins) (k : Nat) (x : D.Warp) : Bool := x.Number == (k : Int) && warpOf p x
def warpsOk (p : List D.Ins) : Nat → List D.Warp → Bool
 | _, [] => true
 | k, x :: l => warpAt p k x && warpsOk p (k + 1) l
def blockOk (b : D.Block) : Bool :=
 programOk b.Code && (isIn b.Warps.length 1 3 && (impl_isMemory b.Memory && (isIn b.Waiting 0 (waitTop b.Warps.length) && (isIn b.Phase 0 100000 && warpsOk b.Code 0 b.Warps))))
def spec_BlockOk := blockOk
def spec_BlockOk_pre (b : D.Block) : Prop := BLong b
def impl_BlockOk := blockOk
def impl_BlockOk_pre (b : D.Block) : Prop := BLong b
def hasWarp (b : D.Block) (w : Int) : Bool := blockOk b && isIn w 0 (IntKind.wrap .i64 (((b.Warps.length : Nat) : Int) - 1))
def spec_l30Ok := hasWarp
def spec_l30Ok_pre (b : D.Block) (w : Int) : Prop := BLong b
def impl_hasWarp := hasWarp
def impl_hasWarp_pre (b : D.Block) (w : Int) : Prop := BLong b
def waits (b : D.Block) (w : Int) : Bool := (bitAnd .i64 (Int.fdiv b.Waiting (2 ^ (min (w.toNat) (IntKind.bits .i64)))) 1) == 1
def impl_Block_waits := waits
def impl_Block_waits_pre (b : D.Block) (w : Int) : Prop := 0 ≤ w
def Has (b : D.Block) (w : Int) : Prop := BLong b ∧ hasWarp b w = true
def nextI (b : D.Block) (w : Int) : D.Ins := rd b.Code (lastF (rd b.Warps w).Frames).Pc
def spec_l30Next := nextI
def spec_l30Next_pre (b : D.Block) (w : Int) : Prop := Has b w ∧ (rd b.Warps w).Frames ≠ []
def impl_Block_nextIns (b : D.Block) (w : Int) : D.Ins × Bool := if (rd b.Warps w).Frames.isEmpty then (⟨0, 0, 0, 0⟩, false) else (nextI b w, true)
def impl_Block_nextIns_pre (b : D.Block) (w : Int) : Prop := Has b w
end Go.V.M
