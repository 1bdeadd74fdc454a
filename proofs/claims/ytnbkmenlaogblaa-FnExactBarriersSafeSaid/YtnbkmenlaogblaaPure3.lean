import Derived.Test.YtnbkmenlaogblaaPure2
set_option linter.unusedVariables false
/-! new blocks, copies, marks -/
namespace Go.V.M
def newWarp (p : List D.Ins) (n : Int) : D.Warp := ⟨n, if p.length > 0 then [⟨0, p.length, 255⟩] else [], List.replicate 32 0⟩
def noWarp : D.Warp := ⟨0, [], []⟩
def noBlock : D.Block := ⟨[], [], [], 0, 0⟩
def spec_WarpNew (p : List D.Ins) (n : Int) : D.Warp × Bool := if programOk p && isIn n 0 2 then (newWarp p n, true) else (noWarp, false)
def spec_WarpNew_pre (p : List D.Ins) (n : Int) : Prop := Long p
def impl_newWarp := newWarp
def impl_newWarp_pre (p : List D.Ins) (n : Int) : Prop := True
def newBlock (p : List D.Ins) (c : Int) : D.Block := ⟨p, (List.range c.toNat).map fun k : Nat => newWarp p (k : Int), List.replicate 32 0, 0, 0⟩
def impl_newBlock := newBlock
def impl_newBlock_pre (p : List D.Ins) (c : Int) : Prop := p.length ≤ 17179869184 ∧ 0 ≤ c ∧ c ≤ 1000
def blockNew (p : List D.Ins) (c : Int) : D.Block × Bool := if programOk p && isIn c 1 3 then (newBlock p c, true) else (noBlock, false)
def spec_BlockNew := blockNew
def spec_BlockNew_pre (p : List D.Ins) (c : Int) : Prop := Long p
def impl_BlockNew := blockNew
def impl_BlockNew_pre (p : List D.Ins) (c : Int) : Prop := Long p
def slices_Clone_impl_Ins_impl_Ins (l : List D.Ins) : List D.Ins := l
def slices_Clone_impl_Ins_impl_Ins_pre (l : List D.Ins) : Prop := l.length ≤ 17179869184
def slices_Clone_impl_Frame_impl_Frame (l : List D.Frame) : List D.Frame := l
def slices_Clone_impl_Frame_impl_Frame_pre (l : List D.Frame) : Prop := l.length ≤ 17179869184
def WFit (x : D.Warp) : Prop := x.Frames.length ≤ 17179869184 ∧ x.Regs.length ≤ 17179869184
def BFit (b : D.Block) : Prop := b.Code.length ≤ 17179869184 ∧ (b.Warps.length ≤ 17179869184 ∧ ∀ x ∈ b.Warps, WFit x) ∧ b.Memory.length ≤ 17179869184
def spec_l12Copy (x : D.Warp) : D.Warp := x
def spec_l12Copy_pre (x : D.Warp) : Prop := WFit x
def spec_l29Copy (b : D.Block) : D.Block := b
def spec_l29Copy_pre (b : D.Block) : Prop := BFit b
def impl_copyWarp (x : D.Warp) : D.Warp := x
def impl_copyWarp_pre (x : D.Warp) : Prop := WFit x
def impl_copyBlock (b : D.Block) : D.Block := b
def impl_copyBlock_pre (b : D.Block) : Prop := BFit b
def withMemory (b : D.Block) (m : List Int) : D.Block × Bool := if blockOk b && impl_isMemory m then (⟨b.Code, b.Warps, m, b.Waiting, b.Phase⟩, true) else (b, false)
def spec_WithMemory := withMemory
def spec_WithMemory_pre (b : D.Block) (m : List Int) : Prop := BFit b ∧ m.length ≤ 17179869184
def impl_WithMemory := withMemory
def impl_WithMemory_pre (b : D.Block) (m : List Int) : Prop := BFit b ∧ m.length ≤ 17179869184
/-! marks -/
def seqFrame (k : Int) (n : Nat) : List D.Frame := (List.range n).map fun i : Nat => ⟨k + 3 * (i : Int), k + 3 * (i : Int) + 1, k + 3 * (i : Int) + 2⟩
def laws_markFrameS (a : List D.Frame) (k : Int) : Int × List D.Frame := (k + 3 * a.length, seqFrame k a.length)
def laws_markFrameS_pre (a : List D.Frame) (k : Int) : Prop := Small k ∧ Few a.length
def wsz (x : D.Warp) : Int := 1 + 3 * x.Frames.length + x.Regs.length
def markW (x : D.Warp) (k : Int) : D.Warp := ⟨k, seqFrame (k + 1) x.Frames.length, seqInt (k + 1 + 3 * x.Frames.length) x.Regs.length⟩
def markWs : List D.Warp → Int → List D.Warp
  | [], _ => []
  | x :: l, k => markW x k :: markWs l (k + wsz x)
def wssz : List D.Warp → Int
  | [] => 0
  | x :: l => wsz x + wssz l
def laws_markWarpS (a : List D.Warp) (k : Int) : Int × List D.Warp := (k + wssz a, markWs a k)
def laws_markWarpS_pre (a : List D.Warp) (k : Int) : Prop := 0 ≤ k ∧ k + wssz a ≤ 576460752303423488
def markB (b : D.Block) (k : Int) : D.Block := ⟨seqIns k b.Code.length, markWs b.Warps (k + 4 * b.Code.length), seqInt (k + 4 * b.Code.length + wssz b.Warps) b.Memory.length, b.Waiting, b.Phase⟩
def bsz (b : D.Block) : Int := 4 * b.Code.length + wssz b.Warps + b.Memory.length
def laws_markBlock (b : D.Block) (k : Int) : Int × List D.Ins × List D.Warp × List Int := (k + bsz b, (markB b k).Code, (markB b k).Warps, (markB b k).Memory)
def laws_markBlock_pre (b : D.Block) (k : Int) : Prop := 0 ≤ k ∧ k + bsz b ≤ 576460752303423488
def laws_heldInsS (a : List D.Ins) (k : Int) : Int := if a = seqIns k a.length then k + 4 * a.length else -1
def laws_heldInsS_pre (a : List D.Ins) (k : Int) : Prop := Small k ∧ Few a.length
def laws_heldFrameS (a : List D.Frame) (k : Int) : Int := if a = seqFrame k a.length then k + 3 * a.length else -1
def laws_heldFrameS_pre (a : List D.Frame) (k : Int) : Prop := Small k ∧ Few a.length
def laws_heldWarpS (a : List D.Warp) (k : Int) : Int := if a = markWs a k then k + wssz a else -1
def laws_heldWarpS_pre (a : List D.Warp) (k : Int) : Prop := 0 ≤ k ∧ k + wssz a ≤ 576460752303423488
def laws_heldBlock (b : D.Block) (k : Int) : Int := if b = markB b k then k + bsz b else -1
def laws_heldBlock_pre (b : D.Block) (k : Int) : Prop := 0 ≤ k ∧ k + bsz b ≤ 576460752303423488
def laws_FnExactBlockNew (p : List D.Ins) (c : Int) : Bool := true
def laws_FnExactBlockNew_pre (p : List D.Ins) (c : Int) : Prop := Long p
def laws_FnExactWithMemory (b : D.Block) (m : List Int) : Bool := true
def laws_FnExactWithMemory_pre (b : D.Block) (m : List Int) : Prop := BLong b ∧ Long m
end Go.V.M
