import Derived.Test.YtkpfabigipedcaaGreatWaVBase
import Derived.Test.YtkpfabigipedcaaGreatWaVWords
import Derived.Test.YtkpfabigipedcaaGreatWaVOwn
import Derived.Test.YtkpfabigipedcaaGreatWaVLoop
import Derived.Test.YtkpfabigipedcaaGreatWaVDeep
import Derived.Test.YtkpfabigipedcaaGreatWaVEq
import Derived.Test.YtkpfabigipedcaaGreatWaVCut
import Derived.Test.YtkpfabigipedcaaGreatWaVPlc
import Derived.Test.YtkpfabigipedcaaGreatWaVFoc
import Derived.Test.YtkpfabigipedcaaGreatWaPure2
set_option linter.unusedVariables false
set_option linter.unusedSimpArgs false
set_option maxRecDepth 20000
namespace Go.V.M
open IntKind (wrap)
def newWarp (p : List D.Ins) (n : Int) : D.Warp := ⟨n, if p.length > 0 then [⟨0, p.length, 255⟩] else [], List.replicate 32 0⟩
def noWarp : D.Warp := ⟨0, [], []⟩
def noBlock : D.Block := ⟨[], [], [], 0, 0⟩
def spec_WarpNew (p : List D.Ins) (n : Int) : D.Warp × Bool := if programOk p && isIn n 0 2 then (newWarp p n, true) else (noWarp, false)
def spec_WarpNew_pre (p : List D.Ins) (n : Int) : Prop := Long p
def newBlock (p : List D.Ins) (c : Int) : D.Block := ⟨p, (List.range c.toNat).map fun k : Nat => newWarp p (k : Int), List.replicate 32 0, 0, 0⟩
def blockNew (p : List D.Ins) (c : Int) : D.Block × Bool := if programOk p && isIn c 1 3 then (newBlock p c, true) else (noBlock, false)
def spec_BlockNew := blockNew
def spec_BlockNew_pre (p : List D.Ins) (c : Int) : Prop := Long p
def WFit (x : D.Warp) : Prop := x.Frames.length ≤ 17179869184 ∧ x.Regs.length ≤ 17179869184
def BFit (b : D.Block) : Prop := b.Code.length ≤ 17179869184 ∧ (b.Warps.length ≤ 17179869184 ∧ ∀ x ∈ b.Warps, WFit x) ∧ b.Memory.length ≤ 17179869184
def spec_l12Copy (x : D.Warp) : D.Warp := x
def spec_l12Copy_pre (x : D.Warp) : Prop := WFit x
def spec_l29Copy (b : D.Block) : D.Block := b
def spec_l29Copy_pre (b : D.Block) : Prop := BFit b
end Go.V.M
namespace Go.V.M
open IntKind (wrap)
def impl_Warp_lane_pre (x : D.Warp) (l : Int) : Prop := x.Regs.length = 32 ∧ 0 ≤ l ∧ l ≤ 7
def activeMask (x : D.Warp) : Int := if x.Frames.isEmpty then 0 else (lastF x.Frames).Mask
def spec_ActiveMask := activeMask
def spec_ActiveMask_pre (x : D.Warp) : Prop := Long x.Frames
def impl_ActiveMask := activeMask
def impl_ActiveMask_pre (x : D.Warp) : Prop := Long x.Frames
def bitAt (k : Int) : Int := wrap .i64 (1 * 2 ^ (min (k.toNat) (IntKind.bits .i64)))
def zeroStep (x : D.Warp) (reg : Int) (m : Int) (k : Int) : Int := if rd x.Regs (k * 4 + reg) = 0 then bitOr .i64 m (bitAt k) else m
def zeroMask (x : D.Warp) (reg : Int) : Int := (lanesOf (activeMask x)).foldl (zeroStep x reg) 0
def impl_Warp_zeroMask := zeroMask
def impl_Warp_zeroMask_pre (x : D.Warp) (reg : Int) : Prop := Long x.Frames ∧ x.Regs.length = 32 ∧ isReg reg = true
def spec_ZeroMask (x : D.Warp) (reg : Int) : Int := if isReg reg && x.Regs.length == 32 then zeroMask x reg else 0
def spec_ZeroMask_pre (x : D.Warp) (reg : Int) : Prop := Long x.Frames
def Runs (p : List D.Ins) (x : D.Warp) : Prop := programOk p = true ∧ warpOf p x = true ∧ x.Frames ≠ []
def topPc (x : D.Warp) : Int := (lastF x.Frames).Pc
def topIns (p : List D.Ins) (x : D.Warp) : D.Ins := rd p (topPc x)
def splits (p : List D.Ins) (x : D.Warp) : Bool :=
 ((topIns p x).Op == 10 && (topIns p x).B != topPc x + 1) && (zeroMask x (topIns p x).A != 0 && zeroMask x (topIns p x).A != (lastF x.Frames).Mask)
def spec_l13Splits := splits
def spec_l13Splits_pre (p : List D.Ins) (x : D.Warp) : Prop := Runs p x
def impl_Warp_splits (x : D.Warp) (p : List D.Ins) : Bool := splits p x
def impl_Warp_splits_pre (x : D.Warp) (p : List D.Ins) : Prop := Runs p x
def spec_l13Local (p : List D.Ins) (x : D.Warp) : Bool := !x.Frames.isEmpty && (isLocal (topIns p x) && (!splits p x || decide (x.Frames.length ≤ 22)))
def spec_l13Local_pre (p : List D.Ins) (x : D.Warp) : Prop := programOk p = true ∧ warpOf p x = true
def canGo (b : D.Block) (w : Int) : Bool :=
 let x := rd b.Warps w
 !x.Frames.isEmpty && (!waits b w && (if isLocal (topIns b.Code x) then !splits b.Code x || decide (x.Frames.length ≤ 22) else (topIns b.Code x).Op != 16 || x.Frames.length == 1))
def spec_l30Can := canGo
def spec_l30Can_pre (b : D.Block) (w : Int) : Prop := Has b w
def impl_Block_canStep := canGo
def impl_Block_canStep_pre (b : D.Block) (w : Int) : Prop := Has b w
def canStep (b : D.Block) (w : Int) : Bool := hasWarp b w && canGo b w
def spec_CanStep := canStep
def spec_CanStep_pre (b : D.Block) (w : Int) : Prop := BLong b
def impl_CanStep := canStep
def impl_CanStep_pre (b : D.Block) (w : Int) : Prop := BLong b
def pickFrom (b : D.Block) (n f : Int) : Nat → Int → Int
 | 0, _ => -1
 | r + 1, k => if canGo b (Int.tmod (f + k) n) then Int.tmod (f + k) n else pickFrom b n f r (k + 1)
def pick (b : D.Block) (q : Int) : Int := pickFrom b b.Warps.length (Int.tmod q b.Warps.length) b.Warps.length 0
def Good (b : D.Block) : Prop := BLong b ∧ blockOk b = true
def spec_l32Pick := pick
def spec_l32Pick_pre (b : D.Block) (q : Int) : Prop := Good b ∧ 0 ≤ q ∧ q ≤ 9223372036854775807
def isStuck (b : D.Block) : Bool := blockOk b && (!ended b && (List.range b.Warps.length).all fun k : Nat => !canGo b (k : Int))
def impl_IsStuck := isStuck
def impl_IsStuck_pre (b : D.Block) : Prop := BLong b
def stuckReason (b : D.Block) : ByteArray := if isStuck b then (if (List.range b.Warps.length).all (fun k : Nat => !isSplitBarrier b (k : Int)) then ⟨#[102, 114, 97, 109, 101, 115]⟩ else ⟨#[115, 112, 108, 105, 116]⟩) else ⟨#[]⟩
def impl_StuckReason := stuckReason
def impl_StuckReason_pre (b : D.Block) : Prop := BLong b
end Go.V.M
namespace Go.V.M
open IntKind (wrap)
def PSmall (p : List D.Ins) : Prop := p.length ≤ 2097152
def Row34 {α : Type} (l : List α) : Prop := l.length ≤ 17179869183
def idx (g : Int → Bool) : Nat → List Int
 | 0 => []
 | k + 1 => if g (k : Int) then idx g k ++ [(k : Int)] else idx g k
def isBr (p : List D.Ins) (k : Int) : Bool := (rd p k).Op == 10 && (rd p k).B != k + 1
def others (l : List Int) (n : Int) : List Int := l.filter fun x => x != n
def has (l : List Int) (n : Int) : Bool := l.any fun y => n == y
def nodeIn (p : List D.Ins) (k : Int) : Prop := 0 ≤ k ∧ k ≤ (p.length : Int)
def Node (p : List D.Ins) (k : Int) : Prop := programOk p = true ∧ nodeIn p k
def isNode (p : List D.Ins) (k : Int) : Bool := programOk p && isIn k 0 p.length
def putTwo (a b : Int) : List Int := if b < a then [b, a] else if b = a then [a] else [a, b]
def nextOf (p : List D.Ins) (k : Int) : List Int :=
 if k = p.length then [] else if (rd p k).Op = 12 then [(p.length : Int)] else if (rd p k).Op = 11 then [(rd p k).B] else if (rd p k).Op = 10 then putTwo (k + 1) (rd p k).B else [k + 1]
def bfs (p : List D.Ins) (wo : Int) : Nat → List Int → List Bool → List Bool
 | 0, _, seen => seen
 | _ + 1, [], seen => seen
 | f + 1, k :: work, seen => if k = wo ∨ rd seen k = true then bfs p wo f work seen else bfs p wo f (work ++ nextOf p k) (seen.set k.toNat true)
def reached (p : List D.Ins) (frm : List Int) (wo : Int) : List Bool := bfs p wo (3 * (p.length + 1) + frm.length) frm (List.replicate (p.length + 1) false)
def exitB (p : List D.Ins) (k : Int) : Bool := rd (reached p [k] (-1)) p.length
def afterB (p : List D.Ins) (k later : Int) : Bool := !rd (reached p [k] later) p.length
def aftersOf (p : List D.Ins) (k : Int) : List Int := if isNode p k && exitB p k then idx (afterB p k) (p.length + 1) else []
def firstS (p : List D.Ins) (all : List Int) : List Int → Int
 | [] => -1
 | x :: l => if all.all (afterB p x) then x else firstS p all l
def firstAfter (p : List D.Ins) (k : Int) : Int := firstS p (others (aftersOf p k) k) (others (aftersOf p k) k)
def joinB (p : List D.Ins) (b : Int) : Int := if exitB p (b + 1) && exitB p (rd p b).B then firstAfter p b else p.length
def spec_l08Others := others
def spec_l08Others_pre (l : List Int) (n : Int) : Prop := Row34 l
def spec_l07Ok := isNode
def spec_l07Ok_pre (p : List D.Ins) (k : Int) : Prop := PSmall p
def putAt (l : List Int) (n : Int) : Nat → Nat
 | 0 => 0
 | k + 1 => if rd l (k : Int) > n then putAt l n k else k + 1
def spec_l04Put (l : List Int) (n : Int) : List Int :=
 if putAt l n l.length > 0 ∧ rd l (((putAt l n l.length : Nat) : Int) - 1) = n then l else l.take (putAt l n l.length) ++ [n] ++ l.drop (putAt l n l.length)
def spec_l04Put_pre (l : List Int) (n : Int) : Prop := Row34 l
def spec_l07Next := nextOf
def spec_l07Next_pre (p : List D.Ins) (k : Int) : Prop := Node p k
def Starts (p : List D.Ins) (l : List Int) : Prop := programOk p = true ∧ (∀ x ∈ l, nodeIn p x) ∧ l.length ≤ 4
def spec_l07Reach (p : List D.Ins) (l : List Int) : List Bool := reached p l (-1)
def spec_l07Reach_pre (p : List D.Ins) (l : List Int) : Prop := Starts p l
def spec_ReachesExit (p : List D.Ins) (k : Int) : Bool := isNode p k && exitB p k
def spec_ReachesExit_pre (p : List D.Ins) (k : Int) : Prop := PSmall p
def spec_l08After := afterB
def spec_l08After_pre (p : List D.Ins) (k later : Int) : Prop := Node p k
def spec_AftersOf := aftersOf
def spec_AftersOf_pre (p : List D.Ins) (k : Int) : Prop := PSmall p
def Nodes (p : List D.Ins) (l : List Int) : Prop := Row34 l ∧ ∀ x ∈ l, Node p x
def spec_l08First (p : List D.Ins) (l : List Int) : Int := firstS p l l
def spec_l08First_pre (p : List D.Ins) (l : List Int) : Prop := Nodes p l
def spec_FirstAfter := firstAfter
def spec_FirstAfter_pre (p : List D.Ins) (k : Int) : Prop := PSmall p
def Branch (p : List D.Ins) (b : Int) : Prop := programOk p = true ∧ 0 ≤ b ∧ b < (p.length : Int) ∧ isBr p b = true
def spec_l09Join := joinB
def spec_l09Join_pre (p : List D.Ins) (b : Int) : Prop := Branch p b
end Go.V.M
namespace Go.V.M
open IntKind (wrap)
def dropN (fs : List D.Frame) (n : Int) : Nat → List D.Frame
 | 0 => []
 | k + 1 => if (rd fs (k : Int)).Pc ≠ (rd fs (k : Int)).Stop ∧ (rd fs (k : Int)).Pc ≠ n then fs.take (k + 1) else dropN fs n k
def dropF (fs : List D.Frame) (n : Int) : List D.Frame := dropN fs n fs.length
def dropW (x : D.Warp) (n : Int) : D.Warp := ⟨x.Number, dropF x.Frames n, x.Regs⟩
def spec_DropFrames (p : List D.Ins) (x : D.Warp) : D.Warp := dropW x p.length
def spec_DropFrames_pre (p : List D.Ins) (x : D.Warp) : Prop := WFit x
def laneCut (r : List Int) (l : Nat) : List Int := (r.take (l * 4 + 4)).drop (l * 4)
def putLane (r : List Int) (l : Nat) (x : List Int) : List Int := r.take (l * 4) ++ x ++ r.drop (l * 4 + 4)
def applyTo (i : D.Ins) (num m : Int) (r : List Int) : Nat → List Int
 | 0 => r
 | k + 1 => if hasLane m (k : Int) then putLane (applyTo i num m r k) k (apply i (num * 8 + (k : Int)) (laneCut r k)) else applyTo i num m r k
def applyAll (i : D.Ins) (num m : Int) (r : List Int) : List Int := applyTo i num m r 8
def spec_l13Apply (p : List D.Ins) (x : D.Warp) : List Int := applyAll (topIns p x) x.Number (lastF x.Frames).Mask x.Regs
def spec_l13Apply_pre (p : List D.Ins) (x : D.Warp) : Prop := Runs p x
def turnPc (p : List D.Ins) (x : D.Warp) : Int :=
 if (topIns p x).Op = 12 then (p.length : Int) else if (topIns p x).Op = 11 then (topIns p x).B else if (topIns p x).Op = 10 ∧ zeroMask x (topIns p x).A = (lastF x.Frames).Mask then (topIns p x).B else topPc x + 1
def setTop (fs : List D.Frame) (pc : Int) : List D.Frame := fs.set (fs.length - 1) ⟨pc, (lastF fs).Stop, (lastF fs).Mask⟩
def advance (p : List D.Ins) (x : D.Warp) : D.Warp := ⟨x.Number, setTop x.Frames (turnPc p x), applyAll (topIns p x) x.Number (lastF x.Frames).Mask x.Regs⟩
def isSplit (p : List D.Ins) (x : D.Warp) : Prop := (topIns p x).Op = 10 ∧ (topIns p x).B ≠ topPc x + 1
def separated (p : List D.Ins) (x : D.Warp) : D.Warp :=
 ⟨x.Number, setTop x.Frames (joinB p (topPc x)) ++ [⟨topPc x + 1, joinB p (topPc x), bitNot .i64 (lastF x.Frames).Mask (zeroMask x (topIns p x).A)⟩, ⟨(topIns p x).B, joinB p (topPc x), zeroMask x (topIns p x).A⟩], x.Regs⟩
def stepW (p : List D.Ins) (x : D.Warp) : D.Warp := dropW (if splits p x then separated p x else advance p x) p.length
def Goes (p : List D.Ins) (x : D.Warp) : Prop := Runs p x ∧ spec_l13Local p x = true
def spec_l13Step := stepW
def spec_l13Step_pre (p : List D.Ins) (x : D.Warp) : Prop := Goes p x
def Fine (p : List D.Ins) (x : D.Warp) : Prop := programOk p = true ∧ warpOf p x = true
def runW (p : List D.Ins) : Nat → D.Warp → Int → D.Warp × Int
 | 0, x, n => (x, n)
 | k + 1, x, n => if spec_l13Local p x then runW p k (stepW p x) (n + 1) else (x, n)
def warpResult (p : List D.Ins) (w : Int) : D.Warp × Int × Bool :=
 if isQuiet p && isIn w 0 2 then (if (runW p 8000 (newWarp p w) 0).1.Frames.isEmpty then ((runW p 8000 (newWarp p w) 0).1, (runW p 8000 (newWarp p w) 0).2, true) else (noWarp, 0, false)) else (noWarp, 0, false)
def wAt (p : List D.Ins) (x : D.Warp) : Nat → D.Warp
 | 0 => x
 | k + 1 => stepW p (wAt p x k)
def countTo (m : Int) : Nat → Int
 | 0 => 0
 | k + 1 => if hasLane m (k : Int) then countTo m k + 1 else countTo m k
end Go.V.M
namespace Go.V.M
open IntKind (wrap)
def once (c : D.Cur) (n : Int) : Bool × D.Cur := ((spec_l01Below c n).1 == 0, (spec_l01Below c n).2)
def spec_l01Once := once
def spec_l01Once_pre (c : D.Cur) (n : Int) : Prop := CurOk c
def setB (p : List D.Ins) (k : Nat) (v : Int) : List D.Ins := p.set k ⟨(rd p (k : Int)).Op, (rd p (k : Int)).A, v, (rd p (k : Int)).C⟩
def loopHead (p : List D.Ins) : List D.Ins := p ++ [(⟨8, 3, 0, 0⟩ : D.Ins)]
def loopAll (p : List D.Ins) : List D.Ins := ((loopHead p ++ [(⟨10, 3, 0, 0⟩ : D.Ins)]) ++ [(⟨3, 0, 0, 1⟩ : D.Ins), (⟨1, 2, 1, 0⟩ : D.Ins), (⟨4, 3, 3, 2⟩ : D.Ins)]) ++ [(⟨11, 0, ((loopHead p).length : Int), 0⟩ : D.Ins)]
def countLoop (p : List D.Ins) : List D.Ins := setB (loopAll p) (loopHead p).length ((loopAll p).length : Int)
def branchIn (rec : D.Cur → List D.Ins → List D.Ins × D.Cur) (c : D.Cur) (p : List D.Ins) : List D.Ins × D.Cur := rec (spec_l01Below c 4).2 (p ++ [⟨10, (spec_l01Below c 4).1, 0, 0⟩])
def elseIn (rec : D.Cur → List D.Ins → List D.Ins × D.Cur) (c : D.Cur) (p q : List D.Ins) : List D.Ins × D.Cur := rec c (setB (q ++ [⟨11, 0, 0, 0⟩]) p.length ((q ++ [(⟨11, 0, 0, 0⟩ : D.Ins)]).length : Int))
def ifIn (rec : D.Cur → List D.Ins → List D.Ins × D.Cur) (c : D.Cur) (p : List D.Ins) : List D.Ins × D.Cur :=
 if (once (branchIn rec c p).2 2).1 then (setB (branchIn rec c p).1 p.length ((branchIn rec c p).1.length : Int), (once (branchIn rec c p).2 2).2)
 else (setB (elseIn rec (once (branchIn rec c p).2 2).2 p (branchIn rec c p).1).1 (branchIn rec c p).1.length ((elseIn rec (once (branchIn rec c p).2 2).2 p (branchIn rec c p).1).1.length : Int), (elseIn rec (once (branchIn rec c p).2 2).2 p (branchIn rec c p).1).2)
def bodyOne (rec : D.Cur → List D.Ins → List D.Ins × D.Cur) (deep : Bool) (c : D.Cur) (p : List D.Ins) : List D.Ins × D.Cur :=
 if (spec_l01Below c 5).1 = 0 then (if deep then ifIn rec (spec_l01Below c 5).2 p else (p, (spec_l01Below c 5).2))
 else if (spec_l01Below c 5).1 = 1 then (if deep ∧ ¬ (p.length : Int) > 14 then (countLoop p, (spec_l01Below c 5).2) else (p, (spec_l01Below c 5).2))
 else (p ++ [(spec_l04Plain (spec_l01Below c 5).2).1], (spec_l04Plain (spec_l01Below c 5).2).2)
def bodyN (rec : D.Cur → List D.Ins → List D.Ins × D.Cur) (deep : Bool) : Nat → D.Cur → List D.Ins → List D.Ins × D.Cur
 | 0, c, p => (p, c)
 | n + 1, c, p => if (p.length : Int) < 20 then bodyN rec deep n (bodyOne rec deep c p).2 (bodyOne rec deep c p).1 else (p, c)
def body : Nat → D.Cur → List D.Ins → List D.Ins × D.Cur
 | 0, c, p => bodyN (fun c p => (p, c)) false (spec_l01Below c 4).1.toNat (spec_l01Below c 4).2 p
 | d + 1, c, p => bodyN (body d) true (spec_l01Below c 4).1.toNat (spec_l01Below c 4).2 p
def spec_l05Body (c : D.Cur) (p : List D.Ins) (d : Int) : List D.Ins × D.Cur := body d.toNat c p
def spec_l05Body_pre (c : D.Cur) (p : List D.Ins) (d : Int) : Prop := CurOk c ∧ p.length ≤ 24 ∧ 0 ≤ d ∧ d ≤ 2
end Go.V.M
namespace Go.V.M
open IntKind (wrap)
def spec_l04Memory (c : D.Cur) : D.Ins × D.Cur :=
 (⟨(spec_l01PickInt c [13, 14, 15]).1, (spec_l01Below (spec_l01PickInt c [13, 14, 15]).2 4).1, (spec_l01Below (spec_l01Below (spec_l01PickInt c [13, 14, 15]).2 4).2 4).1, 0⟩, (spec_l01Below (spec_l01Below (spec_l01PickInt c [13, 14, 15]).2 4).2 4).2)
def spec_l04Memory_pre (c : D.Cur) : Prop := CurOk c
def progStore (c : D.Cur) : List D.Ins × D.Cur := ([⟨8, 0, 0, 0⟩, ⟨14, 0, (spec_l01Below c 4).1, 0⟩], (spec_l01Below c 4).2)
def progLoad (c : D.Cur) : List D.Ins × D.Cur := ([⟨1, 1, (spec_l01PickInt c [1, 8, 31]).1, 0⟩, ⟨8, 0, 0, 0⟩, ⟨3, 0, 0, 1⟩, ⟨13, 2, 0, 0⟩], (spec_l01PickInt c [1, 8, 31]).2)
def progBump (c : D.Cur) : List D.Ins × D.Cur := ([⟨1, 1, 24 + (spec_l01Below c 8).1, 0⟩, ⟨15, 1, (spec_l01Below (spec_l01Below c 8).2 4).1, 0⟩], (spec_l01Below (spec_l01Below c 8).2 4).2)
def progOne (c : D.Cur) (p : List D.Ins) : List D.Ins × D.Cur :=
 if (spec_l01Below c 7).1 = 0 then (p ++ [⟨16, 0, 0, 0⟩], (spec_l01Below c 7).2)
 else if (spec_l01Below c 7).1 = 1 then (p ++ (progStore (spec_l01Below c 7).2).1, (progStore (spec_l01Below c 7).2).2)
 else if (spec_l01Below c 7).1 = 2 then (p ++ (progLoad (spec_l01Below c 7).2).1, (progLoad (spec_l01Below c 7).2).2)
 else if (spec_l01Below c 7).1 = 3 then (p ++ (progBump (spec_l01Below c 7).2).1, (progBump (spec_l01Below c 7).2).2)
 else if (spec_l01Below c 7).1 = 4 then (if (p.length : Int) < 12 then body 1 (spec_l01Below c 7).2 p else (p, (spec_l01Below c 7).2))
 else if (spec_l01Below c 7).1 = 5 then (p ++ [(spec_l04Memory (spec_l01Below c 7).2).1], (spec_l04Memory (spec_l01Below c 7).2).2)
 else (p ++ [(spec_l04Plain (spec_l01Below c 7).2).1], (spec_l04Plain (spec_l01Below c 7).2).2)
def progN : Nat → D.Cur → List D.Ins → List D.Ins × D.Cur
 | 0, c, p => (p, c)
 | n + 1, c, p => if (p.length : Int) + 4 ≤ 32 then progN n (progOne c p).2 (progOne c p).1 else (p, c)
def spec_l29Program (c : D.Cur) : List D.Ins × D.Cur := progN (1 + (spec_l01Below c 5).1).toNat (spec_l01Below c 5).2 [⟨8, 0, 0, 0⟩]
def spec_l29Program_pre (c : D.Cur) : Prop := CurOk c
end Go.V.M
namespace Go.V.M
open IntKind (wrap)
def memStep (i : D.Ins) (s : List Int × List Int) (k : Int) : List Int × List Int :=
 if i.Op = 13 then (s.1.set (k * 4 + i.A).toNat (rd s.2 (Int.tmod (rd s.1 (k * 4 + i.B)) 32)), s.2)
 else if i.Op = 14 then (s.1, s.2.set (Int.tmod (rd s.1 (k * 4 + i.A)) 32).toNat (rd s.1 (k * 4 + i.B)))
 else if i.Op = 15 then (s.1, s.2.set (Int.tmod (rd s.1 (k * 4 + i.A)) 32).toNat (addW (rd s.2 (Int.tmod (rd s.1 (k * 4 + i.A)) 32)) (rd s.1 (k * 4 + i.B))))
 else s
def memTo (i : D.Ins) (m : Int) (s : List Int × List Int) : Nat → List Int × List Int
 | 0 => s
 | k + 1 => if hasLane m (k : Int) then memStep i (memTo i m s k) (k : Int) else memTo i m s k
def memAll (i : D.Ins) (x : D.Warp) (mem : List Int) : List Int × List Int := memTo i (activeMask x) (x.Regs, mem) 8
def setWarp (b : D.Block) (w : Int) (x : D.Warp) : D.Block := ⟨b.Code, b.Warps.set w.toNat x, b.Memory, b.Waiting, b.Phase⟩
def accessB (b : D.Block) (w : Int) (i : D.Ins) : D.Block :=
 ⟨b.Code, b.Warps.set w.toNat ⟨(rd b.Warps w).Number, (rd b.Warps w).Frames, (memAll i (rd b.Warps w) b.Memory).1⟩, (memAll i (rd b.Warps w) b.Memory).2, b.Waiting, b.Phase⟩
def Live (b : D.Block) (w : Int) : Prop := Has b w ∧ (rd b.Warps w).Frames ≠ []
def spec_l30Memory (b : D.Block) (w : Int) : D.Block × List D.Warp × List Int := (accessB b w (nextI b w), (accessB b w (nextI b w)).Warps, (accessB b w (nextI b w)).Memory)
def spec_l30Memory_pre (b : D.Block) (w : Int) : Prop := Live b w ∧ isLocal (nextI b w) = false
def allWait (b : D.Block) : Nat → Bool
 | 0 => true
 | k + 1 => allWait b k && ((rd b.Warps (k : Int)).Frames.isEmpty || waits b (k : Int))
def spec_l30All (b : D.Block) : Bool := allWait b b.Warps.length && b.Waiting != 0
def spec_l30All_pre (b : D.Block) : Prop := Long b.Warps
def passTop (p : List D.Ins) (x : D.Warp) : D.Warp := dropW ⟨x.Number, setTop x.Frames (topPc x + 1), x.Regs⟩ p.length
def actB (b : D.Block) (w : Int) : D.Block :=
 if isLocal (nextI b w) then setWarp b w (stepW b.Code (rd b.Warps w))
 else ⟨b.Code, b.Warps.set w.toNat (passTop b.Code (rd (accessB b w (nextI b w)).Warps w)), (accessB b w (nextI b w)).Memory, if (nextI b w).Op = 16 then bitOr .i64 b.Waiting (bitAt w) else b.Waiting, b.Phase⟩
def closeB (b : D.Block) : D.Block := if spec_l30All b then ⟨b.Code, b.Warps, b.Memory, 0, b.Phase + 1⟩ else b
def stepB (b : D.Block) (w : Int) : D.Block := closeB (actB b w)
def CanGo (b : D.Block) (w : Int) : Prop := Has b w ∧ canGo b w = true
def spec_l30Step := stepB
def spec_l30Step_pre (b : D.Block) (w : Int) : Prop := CanGo b w
end Go.V.M
namespace Go.V.M
open IntKind (wrap)
def stops (f : Nat → Int) (x : D.Block) (k : Nat) : Bool := decide (f k < 0) || (x.Phase == 100000 || decide (pick x (f k) < 0))
def goTo (f : Nat → Int) : Nat → D.Block → Nat → D.Block × Int
 | 0, x, k => (x, (k : Int))
 | m + 1, x, k => if stops f x k then (x, (k : Int)) else goTo f m (stepB x (pick x (f k))) (k + 1)
def goAt (f : Nat → Int) (b : D.Block) : Nat → D.Block
 | 0 => b
 | k + 1 => stepB (goAt f b k) (pick (goAt f b k) (f k))
def strideAt (s : Int) (k : Nat) : Int := (k : Int) * s
end Go.V.M
namespace Go.V.M
open IntKind (wrap)
def spec_l32Run (b : D.Block) (s n : Int) : D.Block := (goTo (strideAt s) n.toNat b 0).1
def spec_l32Run_pre (b : D.Block) (s n : Int) : Prop := Good b ∧ 0 ≤ s ∧ s ≤ 100 ∧ 0 ≤ n ∧ n ≤ 9000
def blockStart (c : D.Cur) : D.Block × D.Cur :=
 let p := spec_l29Program c; let n := spec_l01Below p.2 3; let b := (blockNew p.1 (1 + n.1)).1; let o := once n.2 3
 if o.1 then (⟨b.Code, b.Warps, (spec_l02Words o.2 32).1, b.Waiting, b.Phase⟩, (spec_l02Words o.2 32).2) else (b, o.2)
def spec_l32Block (c : D.Cur) : D.Block × D.Cur :=
 (spec_l32Run (blockStart c).1 (spec_l01Below (blockStart c).2 4).1 (spec_l01Below (spec_l01Below (blockStart c).2 4).2 40).1, (spec_l01Below (spec_l01Below (blockStart c).2 4).2 40).2)
def spec_l32Block_pre (c : D.Cur) : Prop := CurOk c
def spec_DrawBlock (b : List Int) : D.Block := (spec_l32Block (spec_l01New b)).1
def spec_DrawBlock_pre (b : List Int) : Prop := Long b
def laws_FnWaits (b : List Int) : Bool := true
def laws_FnWaits_pre (b : List Int) : Prop := Long b
end Go.V.M
namespace Go.V
open IntKind (wrap)
def wp.impl_within (x0 : Int) (x1 : Int) (x2 : Int) (Q : Bool → Prop) : Prop :=
 bcase (decide (x0 ≥ x1)) (Q (decide (x0 ≤ x2))) (Q false)
def wp.spec_l01In (x0 : Int) (x1 : Int) (x2 : Int) (Q : Bool → Prop) : Prop :=
 bcase (decide (x0 ≥ x1)) (Q (decide (x0 ≤ x2))) (Q false)
def wp.impl_IsWord (x0 : Int) (Q : Bool → Prop) : Prop :=
 (∀ r21, r21 = M.impl_within x0 0 65535 → Q r21)
def wp.spec_IsWord (x0 : Int) (Q : Bool → Prop) : Prop :=
 (∀ r21, r21 = M.spec_l01In x0 0 65535 → Q r21)
def wp.impl_IsMask (x0 : Int) (Q : Bool → Prop) : Prop :=
 (∀ r21, r21 = M.impl_within x0 0 255 → Q r21)
def wp.impl_isLane (x0 : Int) (Q : Bool → Prop) : Prop :=
 (∀ r21, r21 = M.impl_within x0 0 7 → Q r21)
def wp.impl_HasLane (x0 : Int) (x1 : Int) (Q : Bool → Prop) : Prop :=
 (∀ r21, r21 = M.impl_IsMask x0 → bcase r21 ((∀ r26, r26 = M.impl_isLane x1 → bcase r26 (((0 ≤ x1) ∧ Q ((bitAnd .i64 (Int.fdiv x0 (2 ^ (min (x1.toNat) (IntKind.bits .i64)))) 1) == 1))) (Q false))) (Q false))
def wp.impl_LanesOf (x0 : Int) (Q : (List Int) → Prop) : Prop :=
 LoopP (σ := (List Int) × Int × Unit) (fun (p54 : (List Int) × Int × Unit) next31 => match p54 with | (xs24, i27, _) => bcase (decide (i27 < 8)) ((∀ r33, r33 = M.impl_HasLane x0 i27 → bcase r33 (((xs24.length + ([i27] : List Int).length ≤ 17179869184) ∧ next31 ((xs24 ++ ([i27] : List Int)), (wrap .i64 (i27 + 1)), ()))) (next31 (xs24, (wrap .i64 (i27 + 1)), ())))) (Q xs24)) (([] : List Int), 0, ())
def wp.spec_AreWords (xs0 : List Int) (Q : Bool → Prop) : Prop :=
 LoopP (σ := Int × Unit) (fun (p42 : Int × Unit) next25 => match p42 with | (i21, _) => bcase (decide (i21 < (xs0.length : Int))) (((0 ≤ i21 ∧ i21 < (xs0.length : Int)) ∧ (∀ r32, r32 = M.spec_IsWord (rd xs0 i21) → bcase (!r32) (Q false) (next25 ((wrap .i64 (i21 + 1)), ()))))) (Q true)) (0, ())
end Go.V
namespace Go.V
open IntKind (wrap)
theorem wp.impl_within.math (x a b : Int) : wp.impl_within x a b (fun r => r = M.impl_within x a b) := by
 simp only [wp.impl_within, bcase_iff, M.impl_within, M.isIn]
 exact ⟨fun h => by simp at h; simp [h], fun h => by simp at h; simp; omega⟩
theorem wp.spec_l01In.math (x a b : Int) : wp.spec_l01In x a b (fun r => r = M.spec_l01In x a b) := wp.impl_within.math x a b
theorem wp.impl_IsWord.math (x : Int) : wp.impl_IsWord x (fun r => r = M.impl_IsWord x) := fun r h => h
theorem wp.spec_IsWord.math (x : Int) : wp.spec_IsWord x (fun r => r = M.spec_IsWord x) := fun r h => h
theorem wp.impl_IsMask.math (x : Int) : wp.impl_IsMask x (fun r => r = M.impl_IsMask x) := fun r h => h
theorem wp.impl_isLane.math (x : Int) : wp.impl_isLane x (fun r => r = M.impl_isLane x) := fun r h => h
theorem wp.impl_HasLane.math (m l : Int) : wp.impl_HasLane m l (fun r => r = M.impl_HasLane m l) := by
 intro r1 h1
 refine bcase_mk (fun e1 r2 h2 => bcase_mk (fun e2 => ?_) fun e2 => ?_) fun e1 => ?_
 ·have : M.isLane l = true := by rw [← e2, h2]; rfl
  have h0 : 0 ≤ l := by simp [M.isLane, M.isIn] at this; omega
  refine ⟨h0, ?_⟩
  have e1' : M.isMask m = true := by rw [← e1, h1]; rfl
  simp [M.impl_HasLane, M.hasLane, e1', this]
 ·have : M.isLane l = false := by rw [← e2, h2]; rfl
  simp [M.impl_HasLane, M.hasLane, this]
 ·have : M.isMask m = false := by rw [← e1, h1]; rfl
  simp [M.impl_HasLane, M.hasLane, this]
theorem wp.impl_LanesOf.math (m : Int) : wp.impl_LanesOf m (fun r => r = M.impl_LanesOf m) := by
 unfold wp.impl_LanesOf
 refine ⟨fun k p => (k : Int) = 8 - p.2.1 ∧ 0 ≤ p.2.1 ∧ p.2.1 ≤ 8 ∧ p.1 = ([0, 1, 2, 3, 4, 5, 6, 7].take p.2.1.toNat).filter (M.hasLane m), ⟨8, by simp⟩, ?_⟩
 rintro k ⟨xs, i, _⟩ ⟨hk, h0, h8, hx⟩
 simp only at hk h0 h8 hx ⊢
 refine bcase_mk (fun e => ?_) fun e => ?_
 ·have hlt : i < 8 := by simpa using e
  intro r hr
  have hs : (([0, 1, 2, 3, 4, 5, 6, 7] : List Int).take (i + 1).toNat) = ([0, 1, 2, 3, 4, 5, 6, 7] : List Int).take i.toNat ++ [i] := by
   have : i = 0 ∨ i = 1 ∨ i = 2 ∨ i = 3 ∨ i = 4 ∨ i = 5 ∨ i = 6 ∨ i = 7 := by omega
   rcases this with rfl | rfl | rfl | rfl | rfl | rfl | rfl | rfl <;> rfl
  have hw : wrap .i64 (i + 1) = i + 1 := w64 (by omega) (by omega)
  refine bcase_mk (fun e2 => ⟨?_, (k - 1), by omega, ?_⟩) fun e2 => ⟨k - 1, by omega, ?_⟩
  ·rw [hx]
   have := List.length_filter_le (M.hasLane m) (([0, 1, 2, 3, 4, 5, 6, 7] : List Int).take i.toNat)
   simp at this ⊢; omega
  ·simp only [hw, hs, List.filter_append]
   refine ⟨by omega, by omega, by omega, ?_⟩
   rw [hx, List.filter_cons, if_pos (by rw [← e2, hr]; rfl)]; rfl
  ·simp only [hw, hs, List.filter_append]
   refine ⟨by omega, by omega, by omega, ?_⟩
   rw [hx, List.filter_cons, if_neg (by rw [show M.hasLane m i = r from hr.symm, e2]; simp)]; simp
 ·have : i = 8 := by simp at e; omega
  subst this
  rw [hx]; rfl
theorem wp.spec_AreWords.math (l : List Int) (h : M.spec_AreWords_pre l) : wp.spec_AreWords l (fun r => r = M.spec_AreWords l) := by
 unfold wp.spec_AreWords
 have hb : l.length ≤ 9223372036854775807 := by unfold M.spec_AreWords_pre at h; omega
 refine loop_n l.length (fun k => ((k : Int), ())) (fun k => (l.take k).all M.isWord = true) rfl (by simp) (fun k hk hF next hn => ?_) fun hF next => ?_
 ·refine bcase_t (by simp; omega) ⟨by omega, fun r hr => ?_⟩
  rw [rd_nat hk] at hr
  refine bcase_mk (fun e => ?_) fun e => ?_
  ·have e' : M.isWord l[k] = false := by rw [hr] at e; simpa [M.spec_IsWord] using e
   exact (all_at hk e').symm
  ·have e' : M.isWord l[k] = true := by rw [hr] at e; simpa [M.spec_IsWord] using e
   rw [up64 hk hb]
   exact hn (take_all_succ hk hF e')
 ·refine bcase_f (by simp) ?_
  rw [List.take_length] at hF
  exact hF.symm
end Go.V
namespace Go.V
open IntKind (wrap)
def wp.spec_WrapWord (x0 : Int) (Q : Int → Prop) : Prop :=
 Q (Int.tmod (wrap .i64 ((Int.tmod x0 65536) + 65536)) 65536)
def wp.spec_AddWords (x0 : Int) (x1 : Int) (Q : Int → Prop) : Prop :=
 (∀ r21, r21 = M.spec_IsWord x0 → bcase (!r21) (Q 0) ((∀ r26, r26 = M.spec_IsWord x1 → bcase (!r26) (Q 0) ((∀ r31, r31 = M.spec_WrapWord (wrap .i64 (x0 + x1)) → Q r31)))))
def wp.slices_IndexFunc_int_int (xs0 : List Int) (g1 : Int → Bool) (D1 : Int → Prop) (Q : Int → Prop) : Prop :=
 LoopP (σ := Int × Unit) (fun (p42 : Int × Unit) next25 => match p42 with | (i21, _) => bcase (decide (i21 < (xs0.length : Int))) (((0 ≤ i21 ∧ i21 < (xs0.length : Int)) ∧ (D1 (rd xs0 i21) ∧ ∀ r32, r32 = g1 (rd xs0 i21) → bcase r32 (Q i21) (next25 ((wrap .i64 (i21 + 1)), ()))))) (Q (-1))) (0, ())
def wp.slices_ContainsFunc_int_int (xs0 : List Int) (g1 : Int → Bool) (D1 : Int → Prop) (Q : Bool → Prop) : Prop :=
 (M.slices_IndexFunc_int_int_pre xs0 g1 D1 ∧ ∀ r21, r21 = M.slices_IndexFunc_int_int xs0 g1 → Q (decide (r21 ≥ 0)))
def wp.impl_AreWords_1 (x0 : Int) (Q : Bool → Prop) : Prop :=
 (∀ r21, r21 = M.impl_IsWord x0 → Q (!r21))
def wp.impl_AreWords (xs0 : List Int) (Q : Bool → Prop) : Prop :=
 (M.slices_ContainsFunc_int_int_pre xs0 (fun z0_ => M.impl_AreWords_1 z0_) (fun _ => True) ∧ ∀ r21, r21 = M.slices_ContainsFunc_int_int xs0 (fun z0_ => M.impl_AreWords_1 z0_) → Q (!r21))
def wp.spec_IsMask (x0 : Int) (Q : Bool → Prop) : Prop :=
 (∀ r21, r21 = M.spec_l01In x0 0 255 → Q r21)
def wp.spec_HasLane (x0 : Int) (x1 : Int) (Q : Bool → Prop) : Prop :=
 (∀ r21, r21 = M.spec_IsMask x0 → bcase r21 ((∀ r26, r26 = M.spec_l01In x1 0 7 → bcase r26 (((0 ≤ x1) ∧ Q ((bitAnd .i64 (Int.fdiv x0 (2 ^ (min (x1.toNat) (IntKind.bits .i64)))) 1) == 1))) (Q false))) (Q false))
end Go.V
namespace Go.V
open IntKind (wrap)
theorem isWord_iff {x : Int} : M.isWord x = true ↔ 0 ≤ x ∧ x ≤ 65535 := by simp [M.isWord, M.isIn]
theorem isLane_iff {x : Int} : M.isLane x = true ↔ 0 ≤ x ∧ x ≤ 7 := by simp [M.isLane, M.isIn]
theorem rd_mem {α : Type} [Inhabited α] {xs : List α} {k : Nat} (h : k < xs.length) : rd xs (k : Int) ∈ xs := by rw [rd_nat h]; exact List.getElem_mem h
theorem nt {r x : Bool} (e : (!r) = true) (h : r = x) : x = false := by subst h; simpa using e
theorem nf {r x : Bool} (e : (!r) = false) (h : r = x) : x = true := by subst h; simpa using e
theorem wp.spec_WrapWord.math (x : Int) : wp.spec_WrapWord x (fun r => r = M.spec_WrapWord x) := by
 show Int.tmod (wrap .i64 (Int.tmod x 65536 + 65536)) 65536 = x % 65536
 have h1 : Int.tmod x 65536 < 65536 := Int.tmod_lt_of_pos x (by omega)
 have h2 : -65536 < Int.tmod x 65536 := by
  have := Int.tmod_lt_of_pos (-x) (b := 65536) (by omega)
  rw [Int.neg_tmod] at this; omega
 rw [w64 (by omega) (by omega), Int.tmod_eq_emod_of_nonneg (by omega)]
 have h3 : x = 65536 * Int.tdiv x 65536 + Int.tmod x 65536 := (Int.mul_tdiv_add_tmod x 65536).symm
 omega
theorem wp.spec_AddWords.math (a b : Int) : wp.spec_AddWords a b (fun r => r = M.spec_AddWords a b) := by
 intro r1 h1
 refine bcase_mk (fun e1 => ?_) fun e1 r2 h2 => bcase_mk (fun e2 => ?_) fun e2 r3 h3 => ?_
 ·have : M.isWord a = false := nt e1 h1
  simp [M.spec_AddWords, M.addW, this]
 ·have : M.isWord b = false := nt e2 h2
  simp [M.spec_AddWords, M.addW, this]
 ·have ha : M.isWord a = true := nf e1 h1
  have hb : M.isWord b = true := nf e2 h2
  have := isWord_iff.1 ha
  have := isWord_iff.1 hb
  rw [h3, w64 (by omega) (by omega)]
  simp [M.spec_AddWords, M.addW, M.spec_WrapWord, ha, hb]
theorem firstIx_from {α : Type} [Inhabited α] (g : α → Bool) (l : List α) : ∀ (k : Nat), k < l.length → M.firstIx g (l.drop k) k = if g (rd l (k : Int)) then (k : Int) else M.firstIx g (l.drop (k + 1)) (k + 1) := by
 intro k hk
 rw [List.drop_eq_getElem_cons hk, rd_nat hk]; rfl
theorem wp.slices_IndexFunc_int_int.math (l : List Int) (g : Int → Bool) (D : Int → Prop) (h : M.slices_IndexFunc_int_int_pre l g D) : wp.slices_IndexFunc_int_int l g D (fun r => r = M.slices_IndexFunc_int_int l g) := by
 unfold wp.slices_IndexFunc_int_int
 obtain ⟨h1, h2⟩ := h
 refine loop_n l.length (fun k => ((k : Int), ())) (fun k => M.slices_IndexFunc_int_int l g = M.firstIx g (l.drop k) k) rfl (by simp [M.slices_IndexFunc_int_int]) (fun k hk hF next hn => ?_) fun hF next => ?_
 ·rw [firstIx_from g l k hk] at hF
  refine bcase_t (by simp; omega) ⟨by omega, h2 _ (rd_mem hk), fun r hr => bcase_mk (fun e => ?_) fun e => ?_⟩
  ·rw [hF, if_pos (by rw [← hr]; exact e)]
  ·rw [up64 hk h1]
   exact hn (by rw [hF, if_neg (by rw [← hr, e]; simp)])
 ·refine bcase_f (by simp) ?_
  rw [hF]; simp [M.firstIx]
theorem firstIx_nonneg {α : Type} (g : α → Bool) : ∀ (l : List α) (k : Nat), decide (M.firstIx g l k ≥ 0) = l.any g
 | [], k => by simp [M.firstIx]
 | x :: l, k => by
  simp only [M.firstIx, List.any_cons]
  by_cases hx : g x = true
  ·simp [hx]
  ·simp only [hx, Bool.false_eq_true, if_false, Bool.false_or]; simpa [hx] using firstIx_nonneg g l (k + 1)
theorem wp.slices_ContainsFunc_int_int.math (l : List Int) (g : Int → Bool) (D : Int → Prop) (h : M.slices_ContainsFunc_int_int_pre l g D) : wp.slices_ContainsFunc_int_int l g D (fun r => r = M.slices_ContainsFunc_int_int l g) :=
 ⟨h, fun r hr => by rw [hr]; exact firstIx_nonneg g l 0⟩
theorem wp.impl_AreWords_1.math (x : Int) : wp.impl_AreWords_1 x (fun r => r = M.impl_AreWords_1 x) := fun r hr => by rw [hr]; rfl
theorem wp.impl_AreWords.math (l : List Int) (h : M.impl_AreWords_pre l) : wp.impl_AreWords l (fun r => r = M.impl_AreWords l) := by
 refine ⟨⟨h, fun _ _ => trivial⟩, fun r hr => ?_⟩
 rw [hr]
 simp only [M.slices_ContainsFunc_int_int, M.impl_AreWords, M.impl_AreWords_1]
 rw [← List.all_eq_not_any_not]
theorem wp.spec_IsMask.math (x : Int) : wp.spec_IsMask x (fun r => r = M.spec_IsMask x) := fun r hr => hr
theorem wp.spec_HasLane.math (m l : Int) : wp.spec_HasLane m l (fun r => r = M.spec_HasLane m l) := by
 intro r1 h1
 refine bcase_mk (fun e1 r2 h2 => bcase_mk (fun e2 => ?_) fun e2 => ?_) fun e1 => ?_
 ·have : M.isLane l = true := by rw [← e2, h2]; rfl
  have h0 : 0 ≤ l := (isLane_iff.1 this).1
  refine ⟨h0, ?_⟩
  have e1' : M.isMask m = true := by rw [← e1, h1]; rfl
  simp [M.spec_HasLane, M.hasLane, e1', this]
 ·have : M.isLane l = false := by rw [← e2, h2]; rfl
  simp [M.spec_HasLane, M.hasLane, this]
 ·have : M.isMask m = false := by rw [← e1, h1]; rfl
  simp [M.spec_HasLane, M.hasLane, this]
theorem isWord_mod (x : Int) : M.isWord (x % 65536) = true := isWord_iff.2 ⟨by omega, by omega⟩
end Go.V
namespace Go.V
open IntKind (wrap)
def wp.spec_IsLocal (s0 : D.Ins) (Q : Bool → Prop) : Prop :=
 (∀ r23, r23 = M.spec_l01In s0.Op 0 12 → Q r23)
def wp.spec_l04Reg (x0 : Int) (Q : Bool → Prop) : Prop :=
 (∀ r21, r21 = M.spec_l01In x0 0 3 → Q r21)
def wp.spec_InsOk (s0 : D.Ins) (x1 : Int) (Q : Bool → Prop) : Prop :=
 (∀ r23, r23 = M.spec_l01In x1 0 32 → bcase (!r23) (Q false) (JoinP (σ := Bool × Unit) (fun J29 => bcase (s0.Op == 0) (J29 (true, ())) (bcase (s0.Op == 12) (J29 (true, ())) (J29 ((s0.Op == 16), ())))) (fun (p124 : Bool × Unit) => match p124 with | (b28, _) => bcase b28 (bcase (s0.A == 0) (bcase (s0.B == 0) (Q (s0.C == 0)) (Q false)) (Q false)) (bcase (s0.Op == 1) ((∀ r36, r36 = M.spec_l04Reg s0.A → bcase r36 ((∀ r41, r41 = M.spec_IsWord s0.B → bcase r41 (Q (s0.C == 0)) (Q false))) (Q false))) (JoinP (σ := Bool × Unit) (fun J49 => bcase (s0.Op == 2) (J49 (true, ())) (bcase (s0.Op == 13) (J49 (true, ())) (bcase (s0.Op == 14) (J49 (true, ())) (J49 ((s0.Op == 15), ()))))) (fun (p120 : Bool × Unit) => match p120 with | (b48, _) => bcase b48 ((∀ r55, r55 = M.spec_l04Reg s0.A → bcase r55 ((∀ r60, r60 = M.spec_l04Reg s0.B → bcase r60 (Q (s0.C == 0)) (Q false))) (Q false))) (bcase (s0.Op == 8) ((∀ r67, r67 = M.spec_l04Reg s0.A → bcase r67 (bcase (s0.B == 0) (Q (s0.C == 0)) (Q false)) (Q false))) (bcase (s0.Op == 10) ((∀ r74, r74 = M.spec_l04Reg s0.A → bcase r74 ((∀ r79, r79 = M.spec_l01In s0.B 0 x1 → bcase r79 (Q (s0.C == 0)) (Q false))) (Q false))) (bcase (s0.Op == 11) (bcase (s0.A == 0) ((∀ r86, r86 = M.spec_l01In s0.B 0 x1 → bcase r86 (Q (s0.C == 0)) (Q false))) (Q false)) ((∀ r93, r93 = M.spec_l01In s0.Op 3 9 → bcase r93 ((∀ r98, r98 = M.spec_l04Reg s0.A → bcase r98 ((∀ r103, r103 = M.spec_l04Reg s0.B → bcase r103 ((∀ r108, r108 = M.spec_l04Reg s0.C → Q r108)) (Q false))) (Q false))) (Q false))))))))))))
def wp.spec_ProgramOk (xs0 : List D.Ins) (Q : Bool → Prop) : Prop :=
 LoopP (σ := Int × Unit) (fun (p42 : Int × Unit) next25 => match p42 with | (i21, _) => bcase (decide (i21 < (xs0.length : Int))) (((0 ≤ i21 ∧ i21 < (xs0.length : Int)) ∧ (∀ r32, r32 = M.spec_InsOk (rd xs0 i21) (xs0.length : Int) → bcase (!r32) (Q false) (next25 ((wrap .i64 (i21 + 1)), ()))))) (Q (decide ((xs0.length : Int) ≤ 32)))) (0, ())
def wp.spec_SubWords (x0 : Int) (x1 : Int) (Q : Int → Prop) : Prop :=
 (∀ r21, r21 = M.spec_IsWord x0 → bcase (!r21) (Q 0) ((∀ r26, r26 = M.spec_IsWord x1 → bcase (!r26) (Q 0) ((∀ r31, r31 = M.spec_WrapWord (wrap .i64 (x0 - x1)) → Q r31)))))
def wp.spec_MulWords (x0 : Int) (x1 : Int) (Q : Int → Prop) : Prop :=
 (∀ r21, r21 = M.spec_IsWord x0 → bcase (!r21) (Q 0) ((∀ r26, r26 = M.spec_IsWord x1 → bcase (!r26) (Q 0) ((∀ r31, r31 = M.spec_WrapWord (wrap .i64 (x0 * x1)) → Q r31)))))
def wp.spec_LessWords (x0 : Int) (x1 : Int) (Q : Int → Prop) : Prop :=
 (∀ r21, r21 = M.spec_IsWord x0 → bcase r21 ((∀ r26, r26 = M.spec_IsWord x1 → bcase r26 (bcase (decide (x0 < x1)) (Q 1) (Q 0)) (Q 0))) (Q 0))
def wp.spec_l10Apply (s0 : D.Ins) (x1 : Int) (xs2 : List Int) (Q : (List Int) → Prop) : Prop :=
 ((([] : List Int).length + xs2.length ≤ 17179869184) ∧ bcase (s0.Op == 1) (((0 ≤ s0.A ∧ s0.A < ((([] : List Int) ++ xs2).length : Int)) ∧ Q (List.set (([] : List Int) ++ xs2) (s0.A.toNat) s0.B))) (bcase (s0.Op == 2) (((0 ≤ s0.B ∧ s0.B < (xs2.length : Int)) ∧ ((0 ≤ s0.A ∧ s0.A < ((([] : List Int) ++ xs2).length : Int)) ∧ Q (List.set (([] : List Int) ++ xs2) (s0.A.toNat) (rd xs2 s0.B))))) (bcase (s0.Op == 3) (((0 ≤ s0.B ∧ s0.B < (xs2.length : Int)) ∧ ((0 ≤ s0.C ∧ s0.C < (xs2.length : Int)) ∧ (∀ r84, r84 = M.spec_AddWords (rd xs2 s0.B) (rd xs2 s0.C) → ((0 ≤ s0.A ∧ s0.A < ((([] : List Int) ++ xs2).length : Int)) ∧ Q (List.set (([] : List Int) ++ xs2) (s0.A.toNat) r84)))))) (bcase (s0.Op == 4) (((0 ≤ s0.B ∧ s0.B < (xs2.length : Int)) ∧ ((0 ≤ s0.C ∧ s0.C < (xs2.length : Int)) ∧ (∀ r128, r128 = M.spec_SubWords (rd xs2 s0.B) (rd xs2 s0.C) → ((0 ≤ s0.A ∧ s0.A < ((([] : List Int) ++ xs2).length : Int)) ∧ Q (List.set (([] : List Int) ++ xs2) (s0.A.toNat) r128)))))) (bcase (s0.Op == 5) (((0 ≤ s0.B ∧ s0.B < (xs2.length : Int)) ∧ ((0 ≤ s0.C ∧ s0.C < (xs2.length : Int)) ∧ (∀ r172, r172 = M.spec_MulWords (rd xs2 s0.B) (rd xs2 s0.C) → ((0 ≤ s0.A ∧ s0.A < ((([] : List Int) ++ xs2).length : Int)) ∧ Q (List.set (([] : List Int) ++ xs2) (s0.A.toNat) r172)))))) (bcase (s0.Op == 6) (((0 ≤ s0.B ∧ s0.B < (xs2.length : Int)) ∧ ((0 ≤ s0.C ∧ s0.C < (xs2.length : Int)) ∧ ((0 ≤ s0.A ∧ s0.A < ((([] : List Int) ++ xs2).length : Int)) ∧ Q (List.set (([] : List Int) ++ xs2) (s0.A.toNat) (bitXor .i64 (rd xs2 s0.B) (rd xs2 s0.C))))))) (bcase (s0.Op == 7) (((0 ≤ s0.B ∧ s0.B < (xs2.length : Int)) ∧ ((0 ≤ s0.C ∧ s0.C < (xs2.length : Int)) ∧ (∀ r235, r235 = M.spec_LessWords (rd xs2 s0.B) (rd xs2 s0.C) → ((0 ≤ s0.A ∧ s0.A < ((([] : List Int) ++ xs2).length : Int)) ∧ Q (List.set (([] : List Int) ++ xs2) (s0.A.toNat) r235)))))) (bcase (s0.Op == 8) (((0 ≤ s0.A ∧ s0.A < ((([] : List Int) ++ xs2).length : Int)) ∧ Q (List.set (([] : List Int) ++ xs2) (s0.A.toNat) x1))) (bcase (s0.Op == 9) (((0 ≤ s0.C ∧ s0.C < (xs2.length : Int)) ∧ bcase ((rd xs2 s0.C) != 0) (((0 ≤ s0.B ∧ s0.B < (xs2.length : Int)) ∧ ((0 ≤ s0.A ∧ s0.A < ((([] : List Int) ++ xs2).length : Int)) ∧ Q (List.set (([] : List Int) ++ xs2) (s0.A.toNat) (rd xs2 s0.B))))) (Q (([] : List Int) ++ xs2)))) (Q (([] : List Int) ++ xs2)))))))))))
def wp.impl_formOf (x0 : Int) (Q : ByteArray → Prop) : Prop :=
 (∀ r21, r21 = M.impl_within x0 0 16 → bcase (!r21) (Q (⟨#[]⟩)) (((0 ≤ x0 ∧ x0 < (([⟨#[45, 45, 45]⟩, ⟨#[82, 87, 45]⟩, ⟨#[82, 82, 45]⟩, ⟨#[82, 82, 82]⟩, ⟨#[82, 82, 82]⟩, ⟨#[82, 82, 82]⟩, ⟨#[82, 82, 82]⟩, ⟨#[82, 82, 82]⟩, ⟨#[82, 45, 45]⟩, ⟨#[82, 82, 82]⟩, ⟨#[82, 84, 45]⟩, ⟨#[45, 84, 45]⟩, ⟨#[45, 45, 45]⟩, ⟨#[82, 82, 45]⟩, ⟨#[82, 82, 45]⟩, ⟨#[82, 82, 45]⟩, ⟨#[45, 45, 45]⟩] : List ByteArray).length : Int)) ∧ Q (rd ([⟨#[45, 45, 45]⟩, ⟨#[82, 87, 45]⟩, ⟨#[82, 82, 45]⟩, ⟨#[82, 82, 82]⟩, ⟨#[82, 82, 82]⟩, ⟨#[82, 82, 82]⟩, ⟨#[82, 82, 82]⟩, ⟨#[82, 82, 82]⟩, ⟨#[82, 45, 45]⟩, ⟨#[82, 82, 82]⟩, ⟨#[82, 84, 45]⟩, ⟨#[45, 84, 45]⟩, ⟨#[45, 45, 45]⟩, ⟨#[82, 82, 45]⟩, ⟨#[82, 82, 45]⟩, ⟨#[82, 82, 45]⟩, ⟨#[45, 45, 45]⟩] : List ByteArray) x0))))
def wp.impl_isReg (x0 : Int) (Q : Bool → Prop) : Prop :=
 (∀ r21, r21 = M.impl_within x0 0 3 → Q r21)
def wp.impl_isField (x0 : Int) (x1 : Int) (x2 : Int) (Q : Bool → Prop) : Prop :=
 bcase (x0 == 82) ((∀ r21, r21 = M.impl_isReg x1 → Q r21)) (bcase (x0 == 87) ((∀ r26, r26 = M.impl_IsWord x1 → Q r26)) (bcase (x0 == 84) ((∀ r31, r31 = M.impl_within x1 0 x2 → Q r31)) (Q (x1 == 0))))
def wp.impl_InsOk (s0 : D.Ins) (x1 : Int) (Q : Bool → Prop) : Prop :=
 (∀ r23, r23 = M.impl_formOf s0.Op → bcase (!(ByteArray.toList r23 == ByteArray.toList (⟨#[]⟩))) ((∀ r28, r28 = M.impl_within x1 0 32 → bcase r28 (((0 ≤ (0 : Int) ∧ (0 : Int) < ((ByteArray.size r23 : Nat) : Int)) ∧ (M.impl_isField_pre (bt r23 0) s0.A x1 ∧ ∀ r38, r38 = M.impl_isField (bt r23 0) s0.A x1 → bcase r38 (((0 ≤ (1 : Int) ∧ (1 : Int) < ((ByteArray.size r23 : Nat) : Int)) ∧ (M.impl_isField_pre (bt r23 1) s0.B x1 ∧ ∀ r48, r48 = M.impl_isField (bt r23 1) s0.B x1 → bcase r48 (((0 ≤ (2 : Int) ∧ (2 : Int) < ((ByteArray.size r23 : Nat) : Int)) ∧ (M.impl_isField_pre (bt r23 2) s0.C x1 ∧ ∀ r58, r58 = M.impl_isField (bt r23 2) s0.C x1 → Q r58))) (Q false)))) (Q false)))) (Q false))) (Q false))
def wp.impl_ProgramOk_1 (s0 : D.Ins) (xs1 : List D.Ins) (Q : Bool → Prop) : Prop :=
 (∀ r23, r23 = M.impl_InsOk s0 (xs1.length : Int) → Q (!r23))
def wp.slices_IndexFunc_impl_Ins_impl_Ins (xs0 : List D.Ins) (g1 : D.Ins → Bool) (D1 : D.Ins → Prop) (Q : Int → Prop) : Prop :=
 LoopP (σ := Int × Unit) (fun (p42 : Int × Unit) next25 => match p42 with | (i21, _) => bcase (decide (i21 < (xs0.length : Int))) (((0 ≤ i21 ∧ i21 < (xs0.length : Int)) ∧ (D1 (rd xs0 i21) ∧ ∀ r32, r32 = g1 (rd xs0 i21) → bcase r32 (Q i21) (next25 ((wrap .i64 (i21 + 1)), ()))))) (Q (-1))) (0, ())
def wp.slices_ContainsFunc_impl_Ins_impl_Ins (xs0 : List D.Ins) (g1 : D.Ins → Bool) (D1 : D.Ins → Prop) (Q : Bool → Prop) : Prop :=
 (M.slices_IndexFunc_impl_Ins_impl_Ins_pre xs0 g1 D1 ∧ ∀ r21, r21 = M.slices_IndexFunc_impl_Ins_impl_Ins xs0 g1 → Q (decide (r21 ≥ 0)))
def wp.impl_ProgramOk (xs0 : List D.Ins) (Q : Bool → Prop) : Prop :=
 bcase (decide ((xs0.length : Int) ≤ 32)) ((M.slices_ContainsFunc_impl_Ins_impl_Ins_pre xs0 (fun z0_ => M.impl_ProgramOk_1 z0_ xs0) (fun _ => True) ∧ ∀ r23, r23 = M.slices_ContainsFunc_impl_Ins_impl_Ins xs0 (fun z0_ => M.impl_ProgramOk_1 z0_ xs0) → Q (!r23))) (Q false)
def wp.impl_IsLocal (s0 : D.Ins) (Q : Bool → Prop) : Prop :=
 (∀ r23, r23 = M.impl_within s0.Op 0 12 → Q r23)
end Go.V
namespace Go.V
open IntKind (wrap)
theorem bcq {b x z : Bool} : bcase b (x = z) (false = z) ↔ (b && x) = z := by cases b <;> simp [bcase]
theorem wp.spec_IsLocal.math (i : D.Ins) : wp.spec_IsLocal i (fun r => r = M.spec_IsLocal i) := fun r hr => hr
theorem wp.impl_IsLocal.math (i : D.Ins) : wp.impl_IsLocal i (fun r => r = M.impl_IsLocal i) := fun r hr => hr
theorem wp.spec_l04Reg.math (x : Int) : wp.spec_l04Reg x (fun r => r = M.spec_l04Reg x) := fun r hr => hr
theorem wp.impl_isReg.math (x : Int) : wp.impl_isReg x (fun r => r = M.impl_isReg x) := fun r hr => hr
theorem wp.spec_InsOk.math (i : D.Ins) (n : Int) : wp.spec_InsOk i n (fun r => r = M.spec_InsOk i n) := by
 simp only [wp.spec_InsOk, JoinP, forall_eq, M.spec_l01In, M.spec_l04Reg, M.spec_IsWord, bcq, M.spec_InsOk, M.insOk]
 refine bcase_mk (fun e => ?_) fun e => ?_
 ·have hn : M.isIn n 0 32 = false := by simpa using e
  simp [hn]
 have hn : M.isIn n 0 32 = true := by simpa using e
 rw [hn, Bool.true_and]
 by_cases h0 : i.Op = 0
 ·simp [h0, bcase, Bool.and_assoc]
 by_cases h12 : i.Op = 12
 ·simp [h12, bcase, Bool.and_assoc]
 by_cases h16 : i.Op = 16
 ·simp [h16, bcase, Bool.and_assoc]
 by_cases h1 : i.Op = 1
 ·simp [h1, bcase, Bool.and_assoc]
 by_cases h2 : i.Op = 2
 ·simp [h2, bcase, Bool.and_assoc]
 by_cases h13 : i.Op = 13
 ·simp [h13, bcase, Bool.and_assoc]
 by_cases h14 : i.Op = 14
 ·simp [h14, bcase, Bool.and_assoc]
 by_cases h15 : i.Op = 15
 ·simp [h15, bcase, Bool.and_assoc]
 by_cases h8 : i.Op = 8
 ·simp [h8, bcase, Bool.and_assoc]
 by_cases h10 : i.Op = 10
 ·simp [h10, bcase, Bool.and_assoc]
 by_cases h11 : i.Op = 11
 ·simp [h11, bcase, Bool.and_assoc]
 have b0 : (i.Op == 0) = false := by simp [h0]
 have b12 : (i.Op == 12) = false := by simp [h12]
 have b16 : (i.Op == 16) = false := by simp [h16]
 have b1 : (i.Op == 1) = false := by simp [h1]
 have b2 : (i.Op == 2) = false := by simp [h2]
 have b13 : (i.Op == 13) = false := by simp [h13]
 have b14 : (i.Op == 14) = false := by simp [h14]
 have b15 : (i.Op == 15) = false := by simp [h15]
 have b8 : (i.Op == 8) = false := by simp [h8]
 have b10 : (i.Op == 10) = false := by simp [h10]
 have b11 : (i.Op == 11) = false := by simp [h11]
 simp only [b0, b12, b16, b1, b2, b13, b14, b15, b8, b10, b11, bcase, h0, h12, h16, h1, h2, h13, h14, h15, h8, h10, h11, or_self, if_false]
theorem all_loop {α : Type} [Inhabited α] {l : List α} {g : α → Bool} (hl : M.Long l) {B : (Int × Unit) → ((Int × Unit) → Prop) → Prop} {Q : Bool → Prop}
    (hb : ∀ (k : Nat) (next : (Int × Unit) → Prop), k < l.length → (g (rd l (k : Int)) = false → l.all g = false → Q false) → (g (rd l (k : Int)) = true → next (((k + 1 : Nat) : Int), ())) → B ((k : Int), ()) next)
    (he : ∀ (next : (Int × Unit) → Prop), l.all g = true → B ((l.length : Int), ()) next) (hQ : l.all g = false → Q false) : LoopP B (0, ()) := by
 refine loop_n l.length (fun k => ((k : Int), ())) (fun k => (l.take k).all g = true) rfl (by simp) (fun k hk hF next hn => ?_) fun hF next => ?_
 ·refine hb k next hk (fun e h => hQ h) fun e => ?_
  rw [rd_nat hk] at e
  exact hn (take_all_succ hk hF e)
 ·rw [List.take_length] at hF
  exact he next hF
theorem all_false {α : Type} [Inhabited α] {l : List α} {g : α → Bool} {k : Nat} (hk : k < l.length) (e : g (rd l (k : Int)) = false) : l.all g = false := by
 rw [rd_nat hk] at e; exact all_at hk e
theorem wp.spec_ProgramOk.math (p : List D.Ins) (h : M.spec_ProgramOk_pre p) : wp.spec_ProgramOk p (fun r => r = M.spec_ProgramOk p) := by
 unfold wp.spec_ProgramOk
 refine all_loop (g := fun i => M.insOk i p.length) (Q := fun r => r = M.programOk p) h (fun k next hk h1 h2 => ?_) (fun next ha => ?_) fun ha => by simp only [M.programOk, ha, Bool.and_false]
 ·refine bcase_t (by simp; omega) ⟨by omega, fun r hr => bcase_mk (fun e => ?_) fun e => ?_⟩
  ·have := nt e hr
   exact h1 this (all_false (g := fun i => M.insOk i p.length) hk this)
  ·rw [up64 hk h]; exact h2 (nf e hr)
 ·refine bcase_f (by simp) ?_
  simp only [M.spec_ProgramOk, M.programOk, ha, Bool.and_true]
  by_cases h32 : p.length ≤ 32
  ·simp [h32]; omega
  ·simp [h32]; omega
theorem wp.impl_formOf.math (op : Int) : wp.impl_formOf op (fun r => r = M.impl_formOf op) := by
 intro r hr
 refine bcase_mk (fun e => ?_) fun e => ?_
 ·have : M.isIn op 0 16 = false := nt e hr
  have h' : ¬ (0 ≤ op ∧ op ≤ 16) := by simpa [M.isIn] using this
  have h2 : M.isIn op 3 9 = false := by simp [M.isIn]; omega
  simp only [M.impl_formOf, M.formOf, h2]
  rw [if_neg (by omega), if_neg (by omega), if_neg (by omega), if_neg (by omega), if_neg (by omega), if_neg (by omega)]
  rfl
 ·have : M.isIn op 0 16 = true := nf e hr
  have h' : 0 ≤ op ∧ op ≤ 16 := by simpa [M.isIn] using this
  refine ⟨by simp; omega, ?_⟩
  have : op = 0 ∨ op = 1 ∨ op = 2 ∨ op = 3 ∨ op = 4 ∨ op = 5 ∨ op = 6 ∨ op = 7 ∨ op = 8 ∨ op = 9 ∨ op = 10 ∨ op = 11 ∨ op = 12 ∨ op = 13 ∨ op = 14 ∨ op = 15 ∨ op = 16 := by omega
  rcases this with rfl | rfl | rfl | rfl | rfl | rfl | rfl | rfl | rfl | rfl | rfl | rfl | rfl | rfl | rfl | rfl | rfl <;> rfl
theorem wp.impl_isField.math (f x n : Int) (h : M.impl_isField_pre f x n) : wp.impl_isField f x n (fun r => r = M.impl_isField f x n) := by
 refine bcase_mk (fun e r hr => ?_) fun e1 => bcase_mk (fun e r hr => ?_) fun e2 => bcase_mk (fun e r hr => ?_) fun e3 => ?_
 ·simp at e; simp [M.impl_isField, e, hr, M.impl_isReg]
 ·simp at e; simp [M.impl_isField, e, hr, M.impl_IsWord]
 ·simp at e; simp [M.impl_isField, e, hr, M.impl_within]
 ·simp at e1 e2 e3; simp [M.impl_isField, e1, e2, e3]
theorem str_ne {a b : ByteArray} (h : ByteArray.toList a ≠ ByteArray.toList b) : (!(ByteArray.toList a == ByteArray.toList b)) = true := by simp [h]
theorem formOf_cases (op : Int) : (M.formOf op = ⟨#[45, 45, 45]⟩ ∧ (op = 0 ∨ op = 12 ∨ op = 16)) ∨ (M.formOf op = ⟨#[82, 87, 45]⟩ ∧ op = 1) ∨ (M.formOf op = ⟨#[82, 82, 45]⟩ ∧ (op = 2 ∨ op = 13 ∨ op = 14 ∨ op = 15)) ∨
    (M.formOf op = ⟨#[82, 45, 45]⟩ ∧ op = 8) ∨ (M.formOf op = ⟨#[82, 84, 45]⟩ ∧ op = 10) ∨ (M.formOf op = ⟨#[45, 84, 45]⟩ ∧ op = 11) ∨ (M.formOf op = ⟨#[82, 82, 82]⟩ ∧ (3 ≤ op ∧ op ≤ 7 ∨ op = 9)) ∨
    (M.formOf op = ⟨#[]⟩ ∧ (op < 0 ∨ op > 16)) := by
 unfold M.formOf
 by_cases a1 : op = 0 ∨ op = 12 ∨ op = 16
 ·rw [if_pos a1]; exact .inl ⟨rfl, a1⟩
 rw [if_neg a1]
 by_cases a2 : op = 1
 ·rw [if_pos a2]; exact .inr (.inl ⟨rfl, a2⟩)
 rw [if_neg a2]
 by_cases a3 : op = 2 ∨ op = 13 ∨ op = 14 ∨ op = 15
 ·rw [if_pos a3]; exact .inr (.inr (.inl ⟨rfl, a3⟩))
 rw [if_neg a3]
 by_cases a4 : op = 8
 ·rw [if_pos a4]; exact .inr (.inr (.inr (.inl ⟨rfl, a4⟩)))
 rw [if_neg a4]
 by_cases a5 : op = 10
 ·rw [if_pos a5]; exact .inr (.inr (.inr (.inr (.inl ⟨rfl, a5⟩))))
 rw [if_neg a5]
 by_cases a6 : op = 11
 ·rw [if_pos a6]; exact .inr (.inr (.inr (.inr (.inr (.inl ⟨rfl, a6⟩)))))
 rw [if_neg a6]
 by_cases a7 : 3 ≤ op ∧ op ≤ 9
 ·rw [if_pos (by simp [M.isIn]; omega)]; exact .inr (.inr (.inr (.inr (.inr (.inr (.inl ⟨rfl, by omega⟩))))))
 rw [if_neg (by simp [M.isIn]; omega)]; exact .inr (.inr (.inr (.inr (.inr (.inr (.inr ⟨rfl, by omega⟩))))))
theorem ins_core {i : D.Ins} {n : Int} {f : ByteArray} {x y z : Int} (hx : bt f 0 = x) (hy : bt f 1 = y) (hz : bt f 2 = z) (hs : f.size = 3) (hf : ByteArray.toList f ≠ ByteArray.toList (⟨#[]⟩)) {P : Bool → Prop} (hin : M.isIn n 0 32 = false → P false)
    (h : M.isIn n 0 32 = true → P (M.impl_isField x i.A n && (M.impl_isField y i.B n && M.impl_isField z i.C n))) :
    bcase (!(ByteArray.toList f == ByteArray.toList (⟨#[]⟩))) ((∀ r28, r28 = M.impl_within n 0 32 → bcase r28 (((0 ≤ (0 : Int) ∧ (0 : Int) < ((ByteArray.size f : Nat) : Int)) ∧ (M.impl_isField_pre (bt f 0) i.A n ∧ ∀ r38, r38 = M.impl_isField (bt f 0) i.A n → bcase r38 (((0 ≤ (1 : Int) ∧ (1 : Int) < ((ByteArray.size f : Nat) : Int)) ∧ (M.impl_isField_pre (bt f 1) i.B n ∧ ∀ r48, r48 = M.impl_isField (bt f 1) i.B n → bcase r48 (((0 ≤ (2 : Int) ∧ (2 : Int) < ((ByteArray.size f : Nat) : Int)) ∧ (M.impl_isField_pre (bt f 2) i.C n ∧ ∀ r58, r58 = M.impl_isField (bt f 2) i.C n → P r58))) (P false)))) (P false)))) (P false))) (P false) := by
 refine bcase_t (str_ne hf) fun r1 h1 => bcase_mk (fun e1 => ⟨by omega, trivial, fun r2 h2 => bcase_mk (fun e2 => ⟨by omega, trivial, fun r3 h3 => bcase_mk (fun e3 => ⟨by omega, trivial, fun r4 h4 => ?_⟩) fun e3 => ?_⟩) fun e2 => ?_⟩) fun e1 => hin (h1.symm.trans e1)
 all_goals have hh := h (h1.symm.trans e1)
 ·rw [hx] at h2; rw [hy] at h3; rw [hz] at h4
  rw [← h2, ← h3, ← h4, e2, e3] at hh; exact hh
 ·rw [hx] at h2; rw [hy] at h3
  rw [← h2, ← h3, e2, e3] at hh; exact hh
 ·rw [hx] at h2
  rw [← h2, e2] at hh; exact hh
theorem wp.impl_InsOk.math (i : D.Ins) (n : Int) : wp.impl_InsOk i n (fun r => r = M.impl_InsOk i n) := by
 intro r hr
 have hr' : r = M.formOf i.Op := hr
 rcases formOf_cases i.Op with ⟨e, h⟩ | ⟨e, h⟩ | ⟨e, h⟩ | ⟨e, h⟩ | ⟨e, h⟩ | ⟨e, h⟩ | ⟨e, h⟩ | ⟨e, h⟩
 case inr.inr.inr.inr.inr.inr.inr =>
  rw [hr', e]
  refine bcase_f (by simp) ?_
  simp only [M.impl_InsOk, M.insOk]
  rw [if_neg (by omega), if_neg (by omega), if_neg (by omega), if_neg (by omega), if_neg (by omega), if_neg (by omega)]
  have : M.isIn i.Op 3 9 = false := by simp [M.isIn]; omega
  simp [this]
 ·rw [hr', e]
  refine ins_core (x := 45) (y := 45) (z := 45) (P := fun r => r = M.impl_InsOk i n) (by decide +kernel) (by decide +kernel) (by decide +kernel) rfl (by decide +kernel) (fun hn => by simp [M.impl_InsOk, M.insOk, hn]) fun hn => ?_
  simp only [M.impl_InsOk, M.insOk, hn, Bool.true_and]
  rw [if_pos h]
  simp [M.impl_isField]
 ·rw [hr', e]
  refine ins_core (x := 82) (y := 87) (z := 45) (P := fun r => r = M.impl_InsOk i n) (by decide +kernel) (by decide +kernel) (by decide +kernel) rfl (by decide +kernel) (fun hn => by simp [M.impl_InsOk, M.insOk, hn]) fun hn => ?_
  simp only [M.impl_InsOk, M.insOk, hn, Bool.true_and]
  rw [if_neg (by omega), if_pos h]
  simp [M.impl_isField]
 ·rw [hr', e]
  refine ins_core (x := 82) (y := 82) (z := 45) (P := fun r => r = M.impl_InsOk i n) (by decide +kernel) (by decide +kernel) (by decide +kernel) rfl (by decide +kernel) (fun hn => by simp [M.impl_InsOk, M.insOk, hn]) fun hn => ?_
  simp only [M.impl_InsOk, M.insOk, hn, Bool.true_and]
  rw [if_neg (by omega), if_neg (by omega), if_pos h]
  simp [M.impl_isField]
 ·rw [hr', e]
  refine ins_core (x := 82) (y := 45) (z := 45) (P := fun r => r = M.impl_InsOk i n) (by decide +kernel) (by decide +kernel) (by decide +kernel) rfl (by decide +kernel) (fun hn => by simp [M.impl_InsOk, M.insOk, hn]) fun hn => ?_
  simp only [M.impl_InsOk, M.insOk, hn, Bool.true_and]
  rw [if_neg (by omega), if_neg (by omega), if_neg (by omega), if_pos h]
  simp [M.impl_isField]
 ·rw [hr', e]
  refine ins_core (x := 82) (y := 84) (z := 45) (P := fun r => r = M.impl_InsOk i n) (by decide +kernel) (by decide +kernel) (by decide +kernel) rfl (by decide +kernel) (fun hn => by simp [M.impl_InsOk, M.insOk, hn]) fun hn => ?_
  simp only [M.impl_InsOk, M.insOk, hn, Bool.true_and]
  rw [if_neg (by omega), if_neg (by omega), if_neg (by omega), if_neg (by omega), if_pos h]
  simp [M.impl_isField]
 ·rw [hr', e]
  refine ins_core (x := 45) (y := 84) (z := 45) (P := fun r => r = M.impl_InsOk i n) (by decide +kernel) (by decide +kernel) (by decide +kernel) rfl (by decide +kernel) (fun hn => by simp [M.impl_InsOk, M.insOk, hn]) fun hn => ?_
  simp only [M.impl_InsOk, M.insOk, hn, Bool.true_and]
  rw [if_neg (by omega), if_neg (by omega), if_neg (by omega), if_neg (by omega), if_neg (by omega), if_pos h]
  simp [M.impl_isField]
 ·rw [hr', e]
  refine ins_core (x := 82) (y := 82) (z := 82) (P := fun r => r = M.impl_InsOk i n) (by decide +kernel) (by decide +kernel) (by decide +kernel) rfl (by decide +kernel) (fun hn => by simp [M.impl_InsOk, M.insOk, hn]) fun hn => ?_
  simp only [M.impl_InsOk, M.insOk, hn, Bool.true_and]
  rw [if_neg (by omega), if_neg (by omega), if_neg (by omega), if_neg (by omega), if_neg (by omega), if_neg (by omega)]
  have : M.isIn i.Op 3 9 = true := by simp [M.isIn]; omega
  simp [M.impl_isField, this]
theorem wp.impl_ProgramOk_1.math (i : D.Ins) (p : List D.Ins) : wp.impl_ProgramOk_1 i p (fun r => r = M.impl_ProgramOk_1 i p) := fun r hr => by rw [hr]; rfl
theorem wp.slices_IndexFunc_impl_Ins_impl_Ins.math (l : List D.Ins) (g : D.Ins → Bool) (D : D.Ins → Prop) (h : M.slices_IndexFunc_impl_Ins_impl_Ins_pre l g D) : wp.slices_IndexFunc_impl_Ins_impl_Ins l g D (fun r => r = M.slices_IndexFunc_impl_Ins_impl_Ins l g) := by
 unfold wp.slices_IndexFunc_impl_Ins_impl_Ins
 obtain ⟨h1, h2⟩ := h
 refine loop_n l.length (fun k => ((k : Int), ())) (fun k => M.slices_IndexFunc_impl_Ins_impl_Ins l g = M.firstIx g (l.drop k) k) rfl (by simp [M.slices_IndexFunc_impl_Ins_impl_Ins]) (fun k hk hF next hn => ?_) fun hF next => ?_
 ·rw [firstIx_from g l k hk] at hF
  refine bcase_t (by simp; omega) ⟨by omega, h2 _ (rd_mem hk), fun r hr => bcase_mk (fun e => ?_) fun e => ?_⟩
  ·rw [hF, if_pos (by rw [← hr]; exact e)]
  ·rw [up64 hk h1]
   exact hn (by rw [hF, if_neg (by rw [← hr, e]; simp)])
 ·refine bcase_f (by simp) ?_
  rw [hF]; simp [M.firstIx]
theorem wp.slices_ContainsFunc_impl_Ins_impl_Ins.math (l : List D.Ins) (g : D.Ins → Bool) (D : D.Ins → Prop) (h : M.slices_ContainsFunc_impl_Ins_impl_Ins_pre l g D) : wp.slices_ContainsFunc_impl_Ins_impl_Ins l g D (fun r => r = M.slices_ContainsFunc_impl_Ins_impl_Ins l g) :=
 ⟨h, fun r hr => by rw [hr]; exact firstIx_nonneg g l 0⟩
theorem wp.impl_ProgramOk.math (p : List D.Ins) (h : M.impl_ProgramOk_pre p) : wp.impl_ProgramOk p (fun r => r = M.impl_ProgramOk p) := by
 refine bcase_mk (fun e => ⟨⟨h, fun _ _ => trivial⟩, fun r hr => ?_⟩) fun e => ?_
 ·have h32 : p.length ≤ 32 := by simp at e; omega
  rw [hr]
  simp only [M.slices_ContainsFunc_impl_Ins_impl_Ins, M.impl_ProgramOk, M.programOk, M.impl_ProgramOk_1, ← List.all_eq_not_any_not, h32, decide_true, Bool.true_and]
 ·have h32 : ¬ p.length ≤ 32 := by simp at e; omega
  simp [M.impl_ProgramOk, M.programOk, h32]
theorem wp.spec_SubWords.math (a b : Int) : wp.spec_SubWords a b (fun r => r = M.spec_SubWords a b) := by
 intro r1 h1
 refine bcase_mk (fun e1 => ?_) fun e1 r2 h2 => bcase_mk (fun e2 => ?_) fun e2 r3 h3 => ?_
 ·have : M.isWord a = false := nt e1 h1
  simp [M.spec_SubWords, M.subW, this]
 ·have : M.isWord b = false := nt e2 h2
  simp [M.spec_SubWords, M.subW, this]
 ·have ha : M.isWord a = true := nf e1 h1
  have hb : M.isWord b = true := nf e2 h2
  have := isWord_iff.1 ha
  have := isWord_iff.1 hb
  rw [h3, w64 (by omega) (by omega)]
  simp [M.spec_SubWords, M.subW, M.spec_WrapWord, ha, hb]
theorem mul_bound {a b : Int} (ha : 0 ≤ a ∧ a ≤ 65535) (hb : 0 ≤ b ∧ b ≤ 65535) : 0 ≤ a * b ∧ a * b ≤ 4294836225 :=
 ⟨Int.mul_nonneg ha.1 hb.1, by have := Int.mul_le_mul ha.2 hb.2 hb.1 (by omega : (0 : Int) ≤ 65535); omega⟩
theorem wp.spec_MulWords.math (a b : Int) : wp.spec_MulWords a b (fun r => r = M.spec_MulWords a b) := by
 intro r1 h1
 refine bcase_mk (fun e1 => ?_) fun e1 r2 h2 => bcase_mk (fun e2 => ?_) fun e2 r3 h3 => ?_
 ·have : M.isWord a = false := nt e1 h1
  simp [M.spec_MulWords, M.mulW, this]
 ·have : M.isWord b = false := nt e2 h2
  simp [M.spec_MulWords, M.mulW, this]
 ·have ha : M.isWord a = true := nf e1 h1
  have hb : M.isWord b = true := nf e2 h2
  have := mul_bound (isWord_iff.1 ha) (isWord_iff.1 hb)
  rw [h3, w64 (by omega) (by omega)]
  simp [M.spec_MulWords, M.mulW, M.spec_WrapWord, ha, hb]
theorem wp.spec_LessWords.math (a b : Int) : wp.spec_LessWords a b (fun r => r = M.spec_LessWords a b) := by
 intro r1 h1
 refine bcase_mk (fun e1 r2 h2 => bcase_mk (fun e2 => bcase_mk (fun e3 => ?_) fun e3 => ?_) fun e2 => ?_) fun e1 => ?_
 ·have ha : M.isWord a = true := h1.symm.trans e1
  have hb : M.isWord b = true := h2.symm.trans e2
  simp at e3; simp [M.spec_LessWords, M.lessW, ha, hb, e3]
 ·simp at e3; simp [M.spec_LessWords, M.lessW]; omega
 ·have hb : M.isWord b = false := h2.symm.trans e2
  simp [M.spec_LessWords, M.lessW, hb]
 ·have ha : M.isWord a = false := h1.symm.trans e1
  simp [M.spec_LessWords, M.lessW, ha]
theorem isReg_iff {x : Int} : M.isReg x = true ↔ 0 ≤ x ∧ x ≤ 3 := by simp [M.isReg, M.isIn]
theorem fits_regs {i : D.Ins} {r : List Int} (h : M.Fits i r) : r.length = 4 ∧ (1 ≤ i.Op ∧ i.Op ≤ 10 → 0 ≤ i.A ∧ i.A ≤ 3) ∧ (2 ≤ i.Op ∧ i.Op ≤ 7 ∨ i.Op = 9 → 0 ≤ i.B ∧ i.B ≤ 3) ∧ (3 ≤ i.Op ∧ i.Op ≤ 7 ∨ i.Op = 9 → 0 ≤ i.C ∧ i.C ≤ 3) := by
 obtain ⟨hl, n, hok⟩ := h
 simp only [M.insOk, Bool.and_eq_true] at hok
 have hok := hok.2
 split at hok
 ·exact ⟨hl, by omega, by omega, by omega⟩
 split at hok
 ·simp only [Bool.and_eq_true, isReg_iff] at hok
  exact ⟨hl, fun _ => hok.1, by omega, by omega⟩
 split at hok
 ·simp only [Bool.and_eq_true, isReg_iff] at hok
  exact ⟨hl, fun _ => hok.1, fun _ => hok.2.1, by omega⟩
 split at hok
 ·simp only [Bool.and_eq_true, isReg_iff] at hok
  exact ⟨hl, fun _ => hok.1, by omega, by omega⟩
 split at hok
 ·simp only [Bool.and_eq_true, isReg_iff] at hok
  exact ⟨hl, fun _ => hok.1, by omega, by omega⟩
 split at hok
 ·exact ⟨hl, by omega, by omega, by omega⟩
 ·simp only [Bool.and_eq_true, isReg_iff] at hok
  exact ⟨hl, fun _ => hok.2.1, fun _ => hok.2.2.1, fun _ => hok.2.2.2⟩
theorem rd_reg {r : List Int} {x : Int} (hl : r.length = 4) (h : 0 ≤ x ∧ x ≤ 3) : 0 ≤ x ∧ x < (r.length : Int) := by omega
theorem wp.spec_l10Apply.math (i : D.Ins) (t : Int) (r : List Int) (h : M.spec_l10Apply_pre i t r) : wp.spec_l10Apply i t r (fun x => x = M.spec_l10Apply i t r) := by
 obtain ⟨hl, hA, hB, hC⟩ := fits_regs h
 simp only [wp.spec_l10Apply, List.nil_append, List.length_nil, forall_eq]
 refine ⟨by omega, ?_⟩
 refine bcase_mk (fun e => ?_) fun n1 => bcase_mk (fun e => ?_) fun n2 => bcase_mk (fun e => ?_) fun n3 => bcase_mk (fun e => ?_) fun n4 => bcase_mk (fun e => ?_) fun n5 => bcase_mk (fun e => ?_) fun n6 => bcase_mk (fun e => ?_) fun n7 => bcase_mk (fun e => ?_) fun n8 => bcase_mk (fun e => ?_) fun n9 => ?_
 ·have hk : i.Op = 1 := by simpa using e
  exact ⟨rd_reg hl (hA (by omega)), by simp [M.spec_l10Apply, M.apply, hk]⟩
 ·have hk : i.Op = 2 := by simpa using e
  exact ⟨rd_reg hl (hB (by omega)), rd_reg hl (hA (by omega)), by simp [M.spec_l10Apply, M.apply, hk]⟩
 ·have hk : i.Op = 3 := by simpa using e
  exact ⟨rd_reg hl (hB (by omega)), rd_reg hl (hC (by omega)), rd_reg hl (hA (by omega)), by simp [M.spec_l10Apply, M.apply, hk, M.spec_AddWords, M.impl_AddWords]⟩
 ·have hk : i.Op = 4 := by simpa using e
  exact ⟨rd_reg hl (hB (by omega)), rd_reg hl (hC (by omega)), rd_reg hl (hA (by omega)), by simp [M.spec_l10Apply, M.apply, hk, M.spec_SubWords, M.impl_SubWords]⟩
 ·have hk : i.Op = 5 := by simpa using e
  exact ⟨rd_reg hl (hB (by omega)), rd_reg hl (hC (by omega)), rd_reg hl (hA (by omega)), by simp [M.spec_l10Apply, M.apply, hk, M.spec_MulWords, M.impl_MulWords]⟩
 ·have hk : i.Op = 6 := by simpa using e
  exact ⟨rd_reg hl (hB (by omega)), rd_reg hl (hC (by omega)), rd_reg hl (hA (by omega)), by simp [M.spec_l10Apply, M.apply, hk]⟩
 ·have hk : i.Op = 7 := by simpa using e
  exact ⟨rd_reg hl (hB (by omega)), rd_reg hl (hC (by omega)), rd_reg hl (hA (by omega)), by simp [M.spec_l10Apply, M.apply, hk, M.spec_LessWords, M.impl_LessWords]⟩
 ·have hk : i.Op = 8 := by simpa using e
  exact ⟨rd_reg hl (hA (by omega)), by simp [M.spec_l10Apply, M.apply, hk]⟩
 ·have hk : i.Op = 9 := by simpa using e
  refine ⟨rd_reg hl (hC (by omega)), bcase_mk (fun e2 => ⟨rd_reg hl (hB (by omega)), rd_reg hl (hA (by omega)), ?_⟩) fun e2 => ?_⟩
  ·have h2 : ¬ rd r i.C = 0 := by simpa using e2
   simp [M.spec_l10Apply, M.apply, hk, h2]
  ·have h2 : rd r i.C = 0 := by simpa using e2
   simp [M.spec_l10Apply, M.apply, hk, h2]
 ·simp at n1 n2 n3 n4 n5 n6 n7 n8 n9
  simp [M.spec_l10Apply, M.apply, n1, n2, n3, n4, n5, n6, n7, n8, n9]
def Inv (p : List D.Ins) (l : D.Lane) : Prop := 0 ≤ l.Pc ∧ l.Pc ≤ p.length ∧ l.Regs.length = 4
theorem rd_of {α : Type} [Inhabited α] {xs : List α} {i : Int} (h0 : 0 ≤ i) (h1 : i < (xs.length : Int)) : rd xs i ∈ xs := by
 obtain ⟨k, rfl⟩ := Int.eq_ofNat_of_zero_le h0
 exact rd_mem (by omega)
theorem fits_at {p : List D.Ins} (hp : M.programOk p = true) {l : D.Lane} (hi : Inv p l) (hlt : l.Pc < p.length) : M.At p l.Pc l.Regs := by
 obtain ⟨h0, h1, h2⟩ := hi
 simp only [M.programOk, Bool.and_eq_true, decide_eq_true_eq, List.all_eq_true] at hp
 exact ⟨by unfold M.Long; omega, h0, hlt, h2, _, hp.2 _ (rd_of h0 hlt)⟩
theorem apply_len (i : D.Ins) (t : Int) (r : List Int) : (M.apply i t r).length = r.length := by
 unfold M.apply
 (repeat' split) <;> simp
theorem next_in {p : List D.Ins} {l : D.Lane} (hp : M.programOk p = true) (hi : Inv p l) (hlt : l.Pc < p.length) : 0 ≤ M.next p l.Pc l.Regs ∧ M.next p l.Pc l.Regs ≤ p.length := by
 obtain ⟨h0, h1, h2⟩ := hi
 simp only [M.programOk, Bool.and_eq_true, decide_eq_true_eq, List.all_eq_true] at hp
 have hok := hp.2 _ (rd_of h0 hlt)
 simp only [M.insOk, Bool.and_eq_true] at hok
 have hok := hok.2
 unfold M.next
 split
 ·omega
 split
 ·rename_i h12 h11
  rw [if_neg (by omega), if_neg (by omega), if_neg (by omega), if_neg (by omega), if_neg (by omega), if_pos h11] at hok
  simp only [Bool.and_eq_true, M.isIn, decide_eq_true_eq] at hok
  exact hok.2.1
 split
 ·rename_i h12 h11 h10
  rw [if_neg (by omega), if_neg (by omega), if_neg (by omega), if_neg (by omega), if_pos h10] at hok
  simp only [Bool.and_eq_true, M.isIn, decide_eq_true_eq] at hok
  split
  ·exact hok.2.1
  ·omega
 ·omega
theorem inv_step {p : List D.Ins} {l : D.Lane} (hp : M.programOk p = true) (hi : Inv p l) (hlt : l.Pc < p.length) : Inv p (M.step p l) := by
 have h := next_in hp hi hlt
 exact ⟨h.1, h.2, by simp only [M.step, apply_len]; exact hi.2.2⟩
theorem laneOk_inv {p : List D.Ins} {l : D.Lane} (h : M.laneOk p l = true) : M.programOk p = true ∧ Inv p l := by
 simp only [M.laneOk, M.laneOf, M.areRegs, M.isIn, Bool.and_eq_true, decide_eq_true_eq, beq_iff_eq] at h
 exact ⟨h.1, h.2.2.1.1, h.2.2.1.2, h.2.2.2.1⟩
theorem quiet_local {p : List D.Ins} (h : M.isQuiet p = true) {i : Int} (h0 : 0 ≤ i) (h1 : i < (p.length : Int)) : M.isLocal (rd p i) = true := by
 simp only [M.isQuiet, Bool.and_eq_true, List.all_eq_true] at h
 exact h.2 _ (rd_of h0 h1)
end Go.V
namespace Go.V
open IntKind (wrap)
def wp.impl_isWarpNumber (x0 : Int) (Q : Bool → Prop) : Prop :=
 (∀ r21, r21 = M.impl_within x0 0 2 → Q r21)
end Go.V
namespace Go.V
open IntKind (wrap)
theorem wp.impl_isWarpNumber.math (x : Int) : wp.impl_isWarpNumber x (fun r => r = M.impl_isWarpNumber x) := fun r hr => hr
end Go.V
namespace Go.V
open IntKind (wrap)
def wp.spec_l01New (xs0 : List Int) (Q : D.Cur → Prop) : Prop :=
 LoopP (σ := Int × Int × Unit) (fun (p42 : Int × Int × Unit) next26 => match p42 with | (i21, i22, _) => bcase (decide (i22 < (xs0.length : Int))) (bcase (decide (i22 < 4000)) (((0 ≤ i22 ∧ i22 < (xs0.length : Int)) ∧ next26 ((bitAnd .i64 (wrap .i64 ((wrap .i64 ((wrap .i64 (i21 * 131)) + (wrap .i64 (rd xs0 i22)))) + 7)) 1073741823), (wrap .i64 (i22 + 1)), ()))) (Q (⟨xs0, 0, i21⟩ : D.Cur))) (Q (⟨xs0, 0, i21⟩ : D.Cur))) ((wrap .i64 (98561 + (xs0.length : Int))), 0, ())
def wp.spec_l01Byte (s0 : D.Cur) (Q : (Int × D.Cur) → Prop) : Prop :=
 bcase (decide (s0.i < (s0.b.length : Int))) (((0 ≤ s0.i ∧ s0.i < (s0.b.length : Int)) ∧ Q ((bitAnd .i64 (wrap .i64 ((bitAnd .i64 (bitXor .i64 (Int.fdiv (wrap .i64 ((wrap .i64 (s0.h * 6364136223846793005)) + 1442695040888963407)) (2 ^ (min ((33 : Int).toNat) (IntKind.bits .i64)))) (Int.fdiv (wrap .i64 ((wrap .i64 (s0.h * 6364136223846793005)) + 1442695040888963407)) (2 ^ (min ((45 : Int).toNat) (IntKind.bits .i64))))) 255) + (wrap .i64 (rd s0.b s0.i)))) 255), (⟨s0.b, (wrap .i64 (s0.i + 1)), (wrap .i64 ((wrap .i64 (s0.h * 6364136223846793005)) + 1442695040888963407))⟩ : D.Cur)))) (Q ((bitAnd .i64 (bitXor .i64 (Int.fdiv (wrap .i64 ((wrap .i64 (s0.h * 6364136223846793005)) + 1442695040888963407)) (2 ^ (min ((33 : Int).toNat) (IntKind.bits .i64)))) (Int.fdiv (wrap .i64 ((wrap .i64 (s0.h * 6364136223846793005)) + 1442695040888963407)) (2 ^ (min ((45 : Int).toNat) (IntKind.bits .i64))))) 255), (⟨s0.b, s0.i, (wrap .i64 ((wrap .i64 (s0.h * 6364136223846793005)) + 1442695040888963407))⟩ : D.Cur)))
def wp.spec_l01Below (s0 : D.Cur) (x1 : Int) (Q : (Int × D.Cur) → Prop) : Prop :=
 bcase (decide (x1 ≤ 0)) (Q (0, (⟨s0.b, s0.i, s0.h⟩ : D.Cur))) (bcase (decide (x1 ≤ 256)) ((M.spec_l01Byte_pre s0 ∧ ∀ r21, r21 = M.spec_l01Byte s0 → (((x1 : Int) ≠ 0) ∧ Q ((Int.tmod r21.1 x1), (⟨s0.b, r21.2.i, r21.2.h⟩ : D.Cur))))) ((M.spec_l01Byte_pre s0 ∧ ∀ r28, r28 = M.spec_l01Byte s0 → (M.spec_l01Byte_pre (⟨s0.b, r28.2.i, r28.2.h⟩ : D.Cur) ∧ ∀ r34, r34 = M.spec_l01Byte (⟨s0.b, r28.2.i, r28.2.h⟩ : D.Cur) → (M.spec_l01Byte_pre (⟨s0.b, r34.2.i, r34.2.h⟩ : D.Cur) ∧ ∀ r40, r40 = M.spec_l01Byte (⟨s0.b, r34.2.i, r34.2.h⟩ : D.Cur) → (M.spec_l01Byte_pre (⟨s0.b, r40.2.i, r40.2.h⟩ : D.Cur) ∧ ∀ r46, r46 = M.spec_l01Byte (⟨s0.b, r40.2.i, r40.2.h⟩ : D.Cur) → (((x1 : Int) ≠ 0) ∧ Q ((Int.tmod (wrap .i64 ((wrap .i64 ((wrap .i64 ((wrap .i64 (r28.1 * 16777216)) + (wrap .i64 (r34.1 * 65536)))) + (wrap .i64 (r40.1 * 256)))) + r46.1)) x1), (⟨s0.b, r46.2.i, r46.2.h⟩ : D.Cur)))))))))
def wp.spec_l01PickInt (s0 : D.Cur) (xs1 : List Int) (Q : (Int × D.Cur) → Prop) : Prop :=
 (M.spec_l01Below_pre s0 (xs1.length : Int) ∧ ∀ r21, r21 = M.spec_l01Below s0 (xs1.length : Int) → ((0 ≤ r21.1 ∧ r21.1 < (xs1.length : Int)) ∧ Q ((rd xs1 r21.1), (⟨s0.b, r21.2.i, r21.2.h⟩ : D.Cur))))
def wp.spec_l04Plain (s0 : D.Cur) (Q : (D.Ins × D.Cur) → Prop) : Prop :=
 (M.spec_l01Below_pre s0 9 ∧ ∀ r23, r23 = M.spec_l01Below s0 9 → (M.spec_l01Below_pre (⟨s0.b, r23.2.i, r23.2.h⟩ : D.Cur) 4 ∧ ∀ r29, r29 = M.spec_l01Below (⟨s0.b, r23.2.i, r23.2.h⟩ : D.Cur) 4 → bcase ((wrap .i64 (1 + r23.1)) == 1) ((M.spec_l01Below_pre (⟨s0.b, r29.2.i, r29.2.h⟩ : D.Cur) 6 ∧ ∀ r39, r39 = M.spec_l01Below (⟨s0.b, r29.2.i, r29.2.h⟩ : D.Cur) 6 → Q ((⟨(wrap .i64 (1 + r23.1)), r29.1, r39.1, 0⟩ : D.Ins), (⟨s0.b, r39.2.i, r39.2.h⟩ : D.Cur)))) (bcase ((wrap .i64 (1 + r23.1)) == 8) (Q ((⟨(wrap .i64 (1 + r23.1)), r29.1, 0, 0⟩ : D.Ins), (⟨s0.b, r29.2.i, r29.2.h⟩ : D.Cur))) (bcase ((wrap .i64 (1 + r23.1)) == 2) ((M.spec_l01Below_pre (⟨s0.b, r29.2.i, r29.2.h⟩ : D.Cur) 4 ∧ ∀ r51, r51 = M.spec_l01Below (⟨s0.b, r29.2.i, r29.2.h⟩ : D.Cur) 4 → Q ((⟨(wrap .i64 (1 + r23.1)), r29.1, r51.1, 0⟩ : D.Ins), (⟨s0.b, r51.2.i, r51.2.h⟩ : D.Cur)))) ((M.spec_l01Below_pre (⟨s0.b, r29.2.i, r29.2.h⟩ : D.Cur) 4 ∧ ∀ r61, r61 = M.spec_l01Below (⟨s0.b, r29.2.i, r29.2.h⟩ : D.Cur) 4 → (M.spec_l01Below_pre (⟨s0.b, r61.2.i, r61.2.h⟩ : D.Cur) 4 ∧ ∀ r69, r69 = M.spec_l01Below (⟨s0.b, r61.2.i, r61.2.h⟩ : D.Cur) 4 → Q ((⟨(wrap .i64 (1 + r23.1)), r29.1, r61.1, r69.1⟩ : D.Ins), (⟨s0.b, r69.2.i, r69.2.h⟩ : D.Cur)))))))))
def wp.spec_l02Word (s0 : D.Cur) (Q : (Int × D.Cur) → Prop) : Prop :=
 (M.spec_l01Below_pre s0 9 ∧ ∀ r21, r21 = M.spec_l01Below s0 9 → (M.spec_l01Below_pre (⟨s0.b, r21.2.i, r21.2.h⟩ : D.Cur) 9000 ∧ ∀ r27, r27 = M.spec_l01Below (⟨s0.b, r21.2.i, r21.2.h⟩ : D.Cur) 9000 → (M.spec_l01PickInt_pre (⟨s0.b, r27.2.i, r27.2.h⟩ : D.Cur) ([0, 1, 2, 7, 100, 65535, 32768, r21.1, r27.1] : List Int) ∧ ∀ r36, r36 = M.spec_l01PickInt (⟨s0.b, r27.2.i, r27.2.h⟩ : D.Cur) ([0, 1, 2, 7, 100, 65535, 32768, r21.1, r27.1] : List Int) → Q (r36.1, (⟨s0.b, r36.2.i, r36.2.h⟩ : D.Cur)))))
def wp.spec_l02Words (s0 : D.Cur) (x1 : Int) (Q : ((List Int) × D.Cur) → Prop) : Prop :=
 LoopP (σ := (List Int) × Int × Int × Int × Unit) (fun (p76 : (List Int) × Int × Int × Int × Unit) next56 => match p76 with | (xs47, i50, i51, i52, _) => bcase (decide (i50 < x1)) ((M.spec_l02Word_pre (⟨s0.b, i51, i52⟩ : D.Cur) ∧ ∀ r58, r58 = M.spec_l02Word (⟨s0.b, i51, i52⟩ : D.Cur) → ((xs47.length + ([r58.1] : List Int).length ≤ 17179869184) ∧ next56 ((xs47 ++ ([r58.1] : List Int)), (wrap .i64 (i50 + 1)), r58.2.i, r58.2.h, ())))) (Q (xs47, (⟨s0.b, i51, i52⟩ : D.Cur)))) (([] : List Int), 0, s0.i, s0.h, ())
def wp.laws_big (xs0 : List Int) (Q : Bool → Prop) : Prop :=
 Q (decide ((xs0.length : Int) > 1048576))
end Go.V
namespace Go.V
open IntKind (wrap)
theorem bitAnd_255 (x : Int) : bitAnd .i64 x 255 = x % 256 := by
 unfold bitAnd
 have e1 : (BitVec.ofInt (IntKind.bits .i64) x &&& BitVec.ofInt (IntKind.bits .i64) 255).toNat = (x % 256).toNat := by
  show (BitVec.ofInt 64 x &&& BitVec.ofInt 64 255).toNat = _
  rw [BitVec.toNat_and, BitVec.toNat_ofInt, show (BitVec.ofInt 64 255).toNat = 2 ^ 8 - 1 from rfl, Nat.and_two_pow_sub_one_eq_mod]
  rw [show ((2 ^ 64 : Nat) : Int) = 18446744073709551616 from rfl]
  omega
 rw [e1, w64 (by omega) (by omega)]
 omega
theorem byte_in (c : D.Cur) : 0 ≤ (M.spec_l01Byte c).1 ∧ (M.spec_l01Byte c).1 ≤ 255 := by
 unfold M.spec_l01Byte
 split
 ·show 0 ≤ bitAnd .i64 _ 255 ∧ bitAnd .i64 _ 255 ≤ 255
  rw [bitAnd_255]; omega
 ·show 0 ≤ M.curX _ ∧ M.curX _ ≤ 255
  unfold M.curX
  rw [bitAnd_255]; omega
theorem byte_b (c : D.Cur) : (M.spec_l01Byte c).2.b = c.b := by unfold M.spec_l01Byte; split <;> rfl
theorem byte_ok {c : D.Cur} (h : M.CurOk c) : M.CurOk (M.spec_l01Byte c).2 := by
 obtain ⟨h1, h2⟩ := h
 refine ⟨?_, by rw [byte_b]; exact h2⟩
 unfold M.Long at h2
 unfold M.spec_l01Byte
 split
 ·rename_i hlt
  show 0 ≤ wrap .i64 (c.i + 1)
  rw [w64 (by omega) (by omega)]; omega
 ·exact h1
theorem below_b (c : D.Cur) (n : Int) : (M.spec_l01Below c n).2.b = c.b := by
 unfold M.spec_l01Below
 (repeat' split) <;> simp only [byte_b]
theorem below_ok {c : D.Cur} (h : M.CurOk c) (n : Int) : M.CurOk (M.spec_l01Below c n).2 := by
 unfold M.spec_l01Below
 split
 ·exact h
 split
 ·exact byte_ok h
 ·exact byte_ok (byte_ok (byte_ok (byte_ok h)))
theorem tmod_in {x n : Int} (hx : 0 ≤ x) (hn : 0 < n) : 0 ≤ Int.tmod x n ∧ Int.tmod x n < n :=
 ⟨Int.tmod_nonneg _ hx, Int.tmod_lt_of_pos _ hn⟩
theorem below_in (c : D.Cur) {n : Int} (hn : 0 < n) : 0 ≤ (M.spec_l01Below c n).1 ∧ (M.spec_l01Below c n).1 < n := by
 unfold M.spec_l01Below
 rw [if_neg (by omega)]
 split
 ·exact tmod_in (byte_in c).1 hn
 ·refine tmod_in ?_ hn
  have h1 := byte_in c
  have h2 := byte_in (M.spec_l01Byte c).2
  have h3 := byte_in (M.spec_l01Byte (M.spec_l01Byte c).2).2
  have h4 := byte_in (M.spec_l01Byte (M.spec_l01Byte (M.spec_l01Byte c).2).2).2
  rw [w64 (x := (M.spec_l01Byte c).1 * 16777216) (by omega) (by omega), w64 (x := (M.spec_l01Byte (M.spec_l01Byte c).2).1 * 65536) (by omega) (by omega),
   w64 (x := (M.spec_l01Byte (M.spec_l01Byte (M.spec_l01Byte c).2).2).1 * 256) (by omega) (by omega), w64 (x := _ + (M.spec_l01Byte (M.spec_l01Byte c).2).1 * 65536) (by omega) (by omega),
   w64 (x := _ + (M.spec_l01Byte (M.spec_l01Byte (M.spec_l01Byte c).2).2).1 * 256) (by omega) (by omega), w64 (by omega) (by omega)]
  omega
set_option maxRecDepth 20000 in
theorem wp.spec_l01New.math (b : List Int) (h : M.spec_l01New_pre b) : wp.spec_l01New b (fun r => r = M.spec_l01New b) := by
 unfold wp.spec_l01New
 have hl : b.length ≤ 9223372036854775807 := h
 let h0 := wrap .i64 (98561 + (b.length : Int))
 refine loop_n (min b.length 4000) (fun k => ((b.take k).foldl M.curNext h0, (k : Int), ())) (fun _ => True) rfl trivial (fun k hk _ next hn => ?_) fun _ next => ?_
 ·have hk1 : k < b.length := by omega
  have hn := hn trivial
  rw [List.take_add_one, List.getElem?_eq_getElem hk1, Option.toList_some, List.foldl_append] at hn
  refine bcase_t (by simp; omega) (bcase_t (by simp; omega) ⟨by omega, ?_⟩)
  rw [up64 hk1 hl, rd_nat hk1]
  exact hn
 ·have fin : (⟨b, 0, (b.take (min b.length 4000)).foldl M.curNext h0⟩ : D.Cur) = M.spec_l01New b := by
    unfold M.spec_l01New
    congr 2
    rcases Nat.le_total b.length 4000 with g | g
    ·rw [Nat.min_eq_left g, List.take_length, List.take_of_length_le g]
    ·rw [Nat.min_eq_right g]
  by_cases g : b.length ≤ 4000
  ·exact bcase_f (by simp; omega) fin
  ·exact bcase_t (by simp; omega) (bcase_f (by simp; omega) fin)
theorem wp.spec_l01Byte.math (c : D.Cur) (h : M.spec_l01Byte_pre c) : wp.spec_l01Byte c (fun r => r = M.spec_l01Byte c) := by
 obtain ⟨h1, h2⟩ := h
 refine bcase_mk (fun e => ⟨⟨h1, by simpa using e⟩, ?_⟩) fun e => ?_
 ·have e : c.i < (c.b.length : Int) := by simpa using e
  unfold M.spec_l01Byte
  rw [if_pos e]; rfl
 ·have e : ¬ c.i < (c.b.length : Int) := by simpa using e
  unfold M.spec_l01Byte
  rw [if_neg e]; rfl
theorem cur_eta {c d : D.Cur} (h : d.b = c.b) : (⟨c.b, d.i, d.h⟩ : D.Cur) = d := by rw [← h]
theorem wp.spec_l01PickInt.math (c : D.Cur) (l : List Int) (h : M.spec_l01PickInt_pre c l) : wp.spec_l01PickInt c l (fun r => r = M.spec_l01PickInt c l) := by
 obtain ⟨h1, h2, h3⟩ := h
 have hpos : (0 : Int) < (l.length : Int) := by have := List.length_pos_iff.2 h2; omega
 refine ⟨h1, fun r hr => ?_⟩
 have := below_in c hpos
 refine ⟨by rw [hr]; exact this, ?_⟩
 rw [hr, cur_eta (below_b c _)]; rfl
theorem wp.spec_l01Below.math (c : D.Cur) (n : Int) (h : M.spec_l01Below_pre c n) : wp.spec_l01Below c n (fun r => r = M.spec_l01Below c n) := by
 refine bcase_mk (fun e => ?_) fun e => bcase_mk (fun e2 => ⟨h, fun r hr => ⟨?_, ?_⟩⟩) fun e2 => ?_
 ·have e : n ≤ 0 := by simpa using e
  unfold M.spec_l01Below; rw [if_pos e]
 ·simp at e; omega
 ·have e : ¬ n ≤ 0 := by simpa using e
  have e2 : n ≤ 256 := by simpa using e2
  unfold M.spec_l01Below; rw [if_neg e, if_pos e2, hr, cur_eta (byte_b c)]
 ·have e : ¬ n ≤ 0 := by simpa using e
  have e2 : ¬ n ≤ 256 := by simpa using e2
  have h1 := byte_ok h
  have h2 := byte_ok h1
  have h3 := byte_ok h2
  have b1 := byte_b c
  have b2 : (M.spec_l01Byte (M.spec_l01Byte c).2).2.b = c.b := (byte_b _).trans b1
  have b3 : (M.spec_l01Byte (M.spec_l01Byte (M.spec_l01Byte c).2).2).2.b = c.b := (byte_b _).trans b2
  have b4 : (M.spec_l01Byte (M.spec_l01Byte (M.spec_l01Byte (M.spec_l01Byte c).2).2).2).2.b = c.b := (byte_b _).trans b3
  refine ⟨h, fun r1 g1 => ?_⟩
  subst g1
  rw [cur_eta b1]
  refine ⟨h1, fun r2 g2 => ?_⟩
  subst g2
  rw [cur_eta b2]
  refine ⟨h2, fun r3 g3 => ?_⟩
  subst g3
  rw [cur_eta b3]
  refine ⟨h3, fun r4 g4 => ⟨by omega, ?_⟩⟩
  subst g4
  rw [cur_eta b4]
  unfold M.spec_l01Below; rw [if_neg e, if_neg e2]
theorem wp.spec_l04Plain.math (c : D.Cur) (h : M.spec_l04Plain_pre c) : wp.spec_l04Plain c (fun r => r = M.spec_l04Plain c) := by
 refine ⟨h, fun r1 g1 => ?_⟩
 subst g1
 rw [cur_eta (below_b c 9)]
 refine ⟨below_ok h 9, fun r2 g2 => ?_⟩
 subst g2
 have b2 : (M.spec_l01Below (M.spec_l01Below c 9).2 4).2.b = c.b := (below_b _ _).trans (below_b _ _)
 have h2 := below_ok (below_ok h 9) 4
 rw [cur_eta b2]
 have cut : ∀ (n : Int), (⟨c.b, (M.spec_l01Below (M.spec_l01Below (M.spec_l01Below c 9).2 4).2 n).2.i, (M.spec_l01Below (M.spec_l01Below (M.spec_l01Below c 9).2 4).2 n).2.h⟩ : D.Cur) = (M.spec_l01Below (M.spec_l01Below (M.spec_l01Below c 9).2 4).2 n).2 := fun n => cur_eta ((below_b _ _).trans b2)
 refine bcase_mk (fun e => ⟨h2, fun r3 g3 => ?_⟩) fun e1 => bcase_mk (fun e => ?_) fun e8 => bcase_mk (fun e => ⟨h2, fun r3 g3 => ?_⟩) fun e2 => ⟨h2, fun r3 g3 => ?_⟩
 ·subst g3
  rw [cut]
  have e : wrap .i64 (1 + (M.spec_l01Below c 9).1) = 1 := by simpa using e
  simp only [M.spec_l04Plain]; rw [if_pos e]
 ·have e1 : ¬ wrap .i64 (1 + (M.spec_l01Below c 9).1) = 1 := by simpa using e1
  have e : wrap .i64 (1 + (M.spec_l01Below c 9).1) = 8 := by simpa using e
  simp only [M.spec_l04Plain]; rw [if_neg e1, if_pos e]
 ·subst g3
  rw [cut]
  have e1 : ¬ wrap .i64 (1 + (M.spec_l01Below c 9).1) = 1 := by simpa using e1
  have e8 : ¬ wrap .i64 (1 + (M.spec_l01Below c 9).1) = 8 := by simpa using e8
  have e : wrap .i64 (1 + (M.spec_l01Below c 9).1) = 2 := by simpa using e
  simp only [M.spec_l04Plain]; rw [if_neg e1, if_neg e8, if_pos e]
 ·subst g3
  rw [cut]
  refine ⟨below_ok h2 4, fun r4 g4 => ?_⟩
  subst g4
  rw [cur_eta ((below_b _ _).trans ((below_b _ _).trans b2))]
  have e1 : ¬ wrap .i64 (1 + (M.spec_l01Below c 9).1) = 1 := by simpa using e1
  have e8 : ¬ wrap .i64 (1 + (M.spec_l01Below c 9).1) = 8 := by simpa using e8
  have e2 : ¬ wrap .i64 (1 + (M.spec_l01Below c 9).1) = 2 := by simpa using e2
  simp only [M.spec_l04Plain]; rw [if_neg e1, if_neg e8, if_neg e2]
theorem pick_b (c : D.Cur) (l : List Int) : (M.spec_l01PickInt c l).2.b = c.b := below_b _ _
theorem pick_ok {c : D.Cur} (h : M.CurOk c) (l : List Int) : M.CurOk (M.spec_l01PickInt c l).2 := below_ok h _
theorem word_b (c : D.Cur) : (M.spec_l02Word c).2.b = c.b := by
 simp only [M.spec_l02Word]; rw [pick_b, below_b, below_b]
theorem word_ok {c : D.Cur} (h : M.CurOk c) : M.CurOk (M.spec_l02Word c).2 := pick_ok (below_ok (below_ok h _) _) _
theorem wp.spec_l02Word.math (c : D.Cur) (h : M.spec_l02Word_pre c) : wp.spec_l02Word c (fun r => r = M.spec_l02Word c) := by
 refine ⟨h, fun r1 g1 => ?_⟩
 subst g1
 rw [cur_eta (below_b c 9)]
 refine ⟨below_ok h 9, fun r2 g2 => ?_⟩
 subst g2
 have b2 : (M.spec_l01Below (M.spec_l01Below c 9).2 9000).2.b = c.b := (below_b _ _).trans (below_b _ _)
 rw [cur_eta b2]
 refine ⟨⟨below_ok (below_ok h 9) 9000, by simp, by simp⟩, fun r3 g3 => ?_⟩
 subst g3
 rw [cur_eta ((pick_b _ _).trans b2)]
 rfl
theorem words_b : ∀ (k : Nat) (c : D.Cur), (M.wordsN k c).2.b = c.b
 | 0, c => rfl
 | k + 1, c => by simp only [M.wordsN]; rw [word_b, words_b k c]
theorem words_ok : ∀ (k : Nat) {c : D.Cur}, M.CurOk c → M.CurOk (M.wordsN k c).2
 | 0, c, h => h
 | k + 1, c, h => word_ok (words_ok k h)
theorem words_len : ∀ (k : Nat) (c : D.Cur), (M.wordsN k c).1.length = k
 | 0, c => rfl
 | k + 1, c => by simp only [M.wordsN, List.length_append, words_len k c]; rfl
theorem wp.spec_l02Words.math (c : D.Cur) (n : Int) (h : M.spec_l02Words_pre c n) : wp.spec_l02Words c n (fun r => r = M.spec_l02Words c n) := by
 obtain ⟨h1, h2, h3⟩ := h
 refine loop_n n.toNat (fun k => ((M.wordsN k c).1, (k : Int), (M.wordsN k c).2.i, (M.wordsN k c).2.h, ())) (fun _ => True) rfl trivial (fun k hk _ next hn => ?_) fun _ next => ?_
 ·have hn := hn trivial
  refine bcase_t (by simp; omega) ?_
  rw [cur_eta (words_b k c)]
  refine ⟨words_ok k h1, fun r hr => ⟨by rw [words_len]; simp; omega, ?_⟩⟩
  subst hr
  rw [up64 (n := n.toNat) hk (by omega)]
  exact hn
 ·refine bcase_f (by simp; omega) ?_
  rw [cur_eta (words_b _ c)]; rfl
theorem lwords_b (c : D.Cur) (n : Int) : (M.spec_l02Words c n).2.b = c.b := words_b _ _
theorem wp.laws_big.math (b : List Int) : wp.laws_big b (fun r => r = M.laws_big b) := rfl
theorem plain_b (c : D.Cur) : (M.spec_l04Plain c).2.b = c.b := by
 simp only [M.spec_l04Plain]
 (repeat' split) <;> simp only [below_b]
theorem plain_ok {c : D.Cur} (h : M.CurOk c) : M.CurOk (M.spec_l04Plain c).2 := by
 simp only [M.spec_l04Plain]
 have h2 := below_ok (below_ok h 9) 4
 (repeat' split)
 ·exact below_ok h2 _
 ·exact h2
 ·exact below_ok h2 _
 ·exact below_ok (below_ok h2 _) _
theorem new_ok {b : List Int} (h : M.Long b) : M.CurOk (M.spec_l01New b) := ⟨by simp [M.spec_l01New], h⟩
theorem runN_end (p : List D.Ins) (k : Nat) (l : D.Lane) (n : Int) (h : ¬ l.Pc < p.length) : M.runN p k l n = (l, n) := by
 cases k with
 | zero => rfl
 | succ k => rw [M.runN, if_neg h]
theorem reg_below (c : D.Cur) : M.isReg (M.spec_l01Below c 4).1 = true := by
 have := below_in c (n := 4) (by omega)
 rw [isReg_iff]; omega
theorem plain_good (c : D.Cur) {n : Int} (hn : 0 ≤ n ∧ n ≤ 32) : M.insOk (M.spec_l04Plain c).1 n = true ∧ M.isLocal (M.spec_l04Plain c).1 = true := by
 have h9 := below_in c (n := 9) (by omega)
 have hw : wrap .i64 (1 + (M.spec_l01Below c 9).1) = 1 + (M.spec_l01Below c 9).1 := w64 (by omega) (by omega)
 have hin : M.isIn n 0 32 = true := by simp [M.isIn]; omega
 have h6 := fun d : D.Cur => below_in d (n := 6) (by omega)
 have hw6 : ∀ d : D.Cur, M.isWord (M.spec_l01Below d 6).1 = true := fun d => by rw [isWord_iff]; have := h6 d; omega
 simp only [M.spec_l04Plain, hw]
 generalize (M.spec_l01Below c 9).1 = o at *
 split
 ·rename_i e
  refine ⟨?_, by simp [M.isLocal, M.isIn]; omega⟩
  simp only [M.insOk, hin, Bool.true_and]
  rw [if_neg (by omega), if_pos (by omega)]
  simp [reg_below, hw6]
 split
 ·rename_i e
  refine ⟨?_, by simp [M.isLocal, M.isIn]; omega⟩
  simp only [M.insOk, hin, Bool.true_and]
  rw [if_neg (by omega), if_neg (by omega), if_neg (by omega), if_pos (by omega)]
  simp [reg_below]
 split
 ·rename_i e
  refine ⟨?_, by simp [M.isLocal, M.isIn]; omega⟩
  simp only [M.insOk, hin, Bool.true_and]
  rw [if_neg (by omega), if_neg (by omega), if_pos (by omega)]
  simp [reg_below]
 ·refine ⟨?_, by simp [M.isLocal, M.isIn]; omega⟩
  simp only [M.insOk, hin, Bool.true_and]
  rw [if_neg (by omega), if_neg (by omega), if_neg (by omega), if_neg (by omega), if_neg (by omega), if_neg (by omega)]
  have : M.isIn (1 + o) 3 9 = true := by simp [M.isIn]; omega
  simp [reg_below, this]
theorem word_good (c : D.Cur) : M.isWord (M.spec_l02Word c).1 = true := by
 have h9 := below_in c (n := 9) (by omega)
 have h9000 := below_in (M.spec_l01Below c 9).2 (n := 9000) (by omega)
 simp only [M.spec_l02Word, M.spec_l01PickInt]
 generalize (M.spec_l01Below c 9).1 = a at *
 generalize M.spec_l01Below (M.spec_l01Below c 9).2 9000 = b at *
 have hi := below_in b.2 (n := (([0, 1, 2, 7, 100, 65535, 32768, a, b.1] : List Int).length : Int)) (by simp)
 have hm := rd_of hi.1 hi.2
 rw [isWord_iff]
 generalize rd ([0, 1, 2, 7, 100, 65535, 32768, a, b.1] : List Int) _ = x at *
 simp only [List.mem_cons, List.not_mem_nil, or_false] at hm
 omega
theorem words_good : ∀ (k : Nat) (c : D.Cur), (M.wordsN k c).1.all M.isWord = true
 | 0, c => rfl
 | k + 1, c => by simp only [M.wordsN, List.all_append, words_good k c, List.all_cons, List.all_nil, word_good, Bool.and_self]
theorem lessW_word (a b : Int) : M.isWord (M.lessW a b) = true := by unfold M.lessW; split <;> rfl
theorem zero_or_mod (c : Bool) (x : Int) : M.isWord (if c then x % 65536 else 0) = true := by split; exact isWord_mod x; rfl
theorem addW_word (a b : Int) : M.isWord (M.addW a b) = true := zero_or_mod _ _
theorem subW_word (a b : Int) : M.isWord (M.subW a b) = true := zero_or_mod _ _
theorem mulW_word (a b : Int) : M.isWord (M.mulW a b) = true := zero_or_mod _ _
theorem xorW_word {a b : Int} (ha : M.isWord a = true) (hb : M.isWord b = true) : M.isWord (bitXor .i64 a b) = true := by
 rw [isWord_iff] at *
 unfold bitXor
 have e1 : (BitVec.ofInt (IntKind.bits .i64) a ^^^ BitVec.ofInt (IntKind.bits .i64) b).toNat = a.toNat ^^^ b.toNat := by
  show (BitVec.ofInt 64 a ^^^ BitVec.ofInt 64 b).toNat = _
  rw [BitVec.toNat_xor, BitVec.toNat_ofInt, BitVec.toNat_ofInt, show ((2 ^ 64 : Nat) : Int) = 18446744073709551616 from rfl]
  congr 1 <;> omega
 have e2 : a.toNat ^^^ b.toNat < 2 ^ 16 := Nat.xor_lt_two_pow (by omega) (by omega)
 rw [e1, w64 (by omega) (by omega)]
 omega
theorem set_words {r : List Int} (h : r.all M.isWord = true) (k : Nat) {x : Int} (hx : M.isWord x = true) : (r.set k x).all M.isWord = true := by
 rw [List.all_eq_true] at *
 intro y hy
 rcases List.mem_or_eq_of_mem_set hy with h' | rfl
 ·exact h y h'
 ·exact hx
theorem apply_words {i : D.Ins} {n : Int} {t : Int} {r : List Int} (hok : M.insOk i n = true) (ht : 0 ≤ t ∧ t ≤ 23) (hl : r.length = 4) (h : r.all M.isWord = true) : (M.apply i t r).all M.isWord = true := by
 obtain ⟨_, hA, hB, hC⟩ := fits_regs (i := i) (r := r) ⟨hl, n, hok⟩
 have hw := List.all_eq_true.1 h
 have rdw : ∀ x, 0 ≤ x ∧ x ≤ 3 → M.isWord (rd r x) = true := fun x hx => hw _ (rd_of hx.1 (by omega))
 unfold M.apply
 split
 ·rename_i e
  refine set_words h _ ?_
  simp only [M.insOk, Bool.and_eq_true] at hok
  have hok := hok.2
  rw [if_neg (by omega), if_pos e] at hok
  simp only [Bool.and_eq_true] at hok
  exact hok.2.1
 split
 ·exact set_words h _ (rdw _ (hB (by omega)))
 split
 ·exact set_words h _ (addW_word _ _)
 split
 ·exact set_words h _ (subW_word _ _)
 split
 ·exact set_words h _ (mulW_word _ _)
 split
 ·exact set_words h _ (xorW_word (rdw _ (hB (by omega))) (rdw _ (hC (by omega))))
 split
 ·exact set_words h _ (lessW_word _ _)
 split
 ·exact set_words h _ (isWord_iff.2 (by omega))
 split
 ·split
  ·exact set_words h _ (rdw _ (hB (by omega)))
  ·exact h
 ·exact h
theorem laneOk_step {p : List D.Ins} {l : D.Lane} (h : M.laneOk p l = true) (hlt : l.Pc < p.length) : M.laneOk p (M.step p l) = true := by
 obtain ⟨hp, hI⟩ := laneOk_inv h
 have hI' := inv_step hp hI hlt
 have hins := fits_at hp hI hlt
 simp only [M.laneOk, M.laneOf, M.areRegs, M.isIn, Bool.and_eq_true, decide_eq_true_eq, beq_iff_eq] at h ⊢
 have hok : M.insOk (rd p l.Pc) p.length = true := by
  simp only [M.programOk, Bool.and_eq_true, decide_eq_true_eq, List.all_eq_true] at hp
  exact hp.2 _ (rd_of hI.1 hlt)
 exact ⟨hp, h.2.1, ⟨hI'.1, hI'.2.1⟩, hI'.2.2, apply_words hok h.2.1 h.2.2.2.1 h.2.2.2.2⟩
end Go.V
namespace Go.V
open IntKind (wrap)
def wp.spec_WarpOk (xs0 : List D.Ins) (s1 : D.Warp) (Q : Bool → Prop) : Prop :=
 (M.spec_ProgramOk_pre xs0 ∧ ∀ r23, r23 = M.spec_ProgramOk xs0 → bcase (!r23) (Q false) ((∀ r28, r28 = M.spec_l01In s1.Number 0 2 → bcase (!r28) (Q false) (bcase ((s1.Regs.length : Int) != 32) (Q false) ((M.spec_AreWords_pre s1.Regs ∧ ∀ r33, r33 = M.spec_AreWords s1.Regs → bcase (!r33) (Q false) (bcase (decide ((s1.Frames.length : Int) > 24)) (Q false) (LoopP (σ := Int × Unit) (fun (p94 : Int × Unit) next42 => match p94 with | (i38, _) => bcase (decide (i38 < (s1.Frames.length : Int))) (((0 ≤ i38 ∧ i38 < (s1.Frames.length : Int)) ∧ (∀ r53, r53 = M.spec_l01In ((rd s1.Frames i38).Pc) 0 (xs0.length : Int) → bcase (!r53) (Q false) ((∀ r58, r58 = M.spec_l01In ((rd s1.Frames i38).Stop) 0 (xs0.length : Int) → bcase (!r58) (Q false) ((∀ r63, r63 = M.spec_IsMask ((rd s1.Frames i38).Mask) → bcase (!r63) (Q false) (bcase ((rd s1.Frames i38).Mask == 0) (Q false) (bcase (i38 == 0) (bcase ((rd s1.Frames i38).Stop != (xs0.length : Int)) (Q false) (bcase ((rd s1.Frames i38).Mask != 255) (Q false) (bcase (i38 == (wrap .i64 ((s1.Frames.length : Int) - 1))) (bcase ((rd s1.Frames i38).Pc == (rd s1.Frames i38).Stop) (Q false) (bcase ((rd s1.Frames i38).Pc == (xs0.length : Int)) (Q false) (next42 ((wrap .i64 (i38 + 1)), ())))) (next42 ((wrap .i64 (i38 + 1)), ()))))) (bcase (i38 == (wrap .i64 ((s1.Frames.length : Int) - 1))) (bcase ((rd s1.Frames i38).Pc == (rd s1.Frames i38).Stop) (Q false) (bcase ((rd s1.Frames i38).Pc == (xs0.length : Int)) (Q false) (next42 ((wrap .i64 (i38 + 1)), ())))) (next42 ((wrap .i64 (i38 + 1)), ())))))))))))) (Q true)) (0, ())))))))))
def wp.spec_BlockOk (s0 : D.Block) (Q : Bool → Prop) : Prop :=
 (M.spec_ProgramOk_pre s0.Code ∧ ∀ r29, r29 = M.spec_ProgramOk s0.Code → bcase (!r29) (Q false) ((∀ r34, r34 = M.spec_l01In (s0.Warps.length : Int) 1 3 → bcase (!r34) (Q false) (bcase ((s0.Memory.length : Int) != 32) (Q false) ((M.spec_AreWords_pre s0.Memory ∧ ∀ r39, r39 = M.spec_AreWords s0.Memory → bcase (!r39) (Q false) (((0 ≤ (s0.Warps.length : Int)) ∧ (∀ r45, r45 = M.spec_l01In s0.Waiting 0 (wrap .i64 ((wrap .i64 (1 * 2 ^ (min ((s0.Warps.length : Int).toNat) (IntKind.bits .i64)))) - 2)) → bcase (!r45) (Q false) ((∀ r50, r50 = M.spec_l01In s0.Phase 0 100000 → bcase (!r50) (Q false) (LoopP (σ := Int × Unit) (fun (p126 : Int × Unit) next59 => match p126 with | (i55, _) => bcase (decide (i55 < (s0.Warps.length : Int))) (((0 ≤ i55 ∧ i55 < (s0.Warps.length : Int)) ∧ (M.spec_WarpOk_pre s0.Code (rd s0.Warps i55) ∧ ∀ r99, r99 = M.spec_WarpOk s0.Code (rd s0.Warps i55) → bcase (!r99) (Q false) (((0 ≤ i55 ∧ i55 < (s0.Warps.length : Int)) ∧ bcase ((rd s0.Warps i55).Number != i55) (Q false) (next59 ((wrap .i64 (i55 + 1)), ()))))))) (Q true)) (0, ())))))))))))))
def wp.spec_l30Ok (s0 : D.Block) (x1 : Int) (Q : Bool → Prop) : Prop :=
 (M.spec_BlockOk_pre s0 ∧ ∀ r23, r23 = M.spec_BlockOk s0 → bcase r23 ((∀ r28, r28 = M.spec_l01In x1 0 (wrap .i64 ((s0.Warps.length : Int) - 1)) → Q r28)) (Q false))
def wp.impl_isWarpCount (x0 : Int) (Q : Bool → Prop) : Prop :=
 (∀ r21, r21 = M.impl_within x0 1 3 → Q r21)
def wp.impl_isMemory (xs0 : List Int) (Q : Bool → Prop) : Prop :=
 bcase ((xs0.length : Int) == 32) ((M.impl_AreWords_pre xs0 ∧ ∀ r21, r21 = M.impl_AreWords xs0 → Q r21)) (Q false)
def wp.impl_areAllRegs (xs0 : List Int) (Q : Bool → Prop) : Prop :=
 Q ((xs0.length : Int) == 32)
def wp.impl_areFrames (xs0 : List D.Frame) (x1 : Int) (Q : Bool → Prop) : Prop :=
 LoopP (σ := Int × Unit) (fun (p83 : Int × Unit) next25 => match p83 with | (i21, _) => bcase (decide (i21 < (xs0.length : Int))) (((0 ≤ i21 ∧ i21 < (xs0.length : Int)) ∧ (∀ r36, r36 = M.impl_within ((rd xs0 i21).Pc) 0 x1 → bcase (!r36) (Q false) ((∀ r41, r41 = M.impl_within ((rd xs0 i21).Stop) 0 x1 → bcase (!r41) (Q false) ((∀ r46, r46 = M.impl_IsMask ((rd xs0 i21).Mask) → bcase (!r46) (Q false) (bcase ((rd xs0 i21).Mask == 0) (Q false) (next25 ((wrap .i64 (i21 + 1)), ())))))))))) (bcase ((xs0.length : Int) == 0) (Q true) (((0 ≤ (wrap .i64 ((xs0.length : Int) - 1)) ∧ (wrap .i64 ((xs0.length : Int) - 1)) < (xs0.length : Int)) ∧ bcase (decide ((xs0.length : Int) ≤ 24)) (bcase ((rd xs0 (wrap .i64 ((xs0.length : Int) - 1))).Pc != (rd xs0 (wrap .i64 ((xs0.length : Int) - 1))).Stop) (bcase ((rd xs0 (wrap .i64 ((xs0.length : Int) - 1))).Pc != x1) (((0 ≤ (0 : Int) ∧ (0 : Int) < (xs0.length : Int)) ∧ bcase ((rd xs0 0).Stop == x1) (((0 ≤ (0 : Int) ∧ (0 : Int) < (xs0.length : Int)) ∧ Q ((rd xs0 0).Mask == 255))) (Q false))) (Q false)) (Q false)) (Q false))))) (0, ())
def wp.impl_isWarpOf (xs0 : List D.Ins) (s1 : D.Warp) (Q : Bool → Prop) : Prop :=
 (∀ r23, r23 = M.impl_isWarpNumber s1.Number → bcase r23 ((∀ r28, r28 = M.impl_areAllRegs s1.Regs → bcase r28 ((M.impl_AreWords_pre s1.Regs ∧ ∀ r33, r33 = M.impl_AreWords s1.Regs → bcase r33 ((M.impl_areFrames_pre s1.Frames (xs0.length : Int) ∧ ∀ r38, r38 = M.impl_areFrames s1.Frames (xs0.length : Int) → Q r38)) (Q false))) (Q false))) (Q false))
def wp.impl_BlockOk (s0 : D.Block) (Q : Bool → Prop) : Prop :=
 (M.impl_ProgramOk_pre s0.Code ∧ ∀ r29, r29 = M.impl_ProgramOk s0.Code → bcase (!r29) (Q false) ((∀ r34, r34 = M.impl_isWarpCount (s0.Warps.length : Int) → bcase (!r34) (Q false) ((M.impl_isMemory_pre s0.Memory ∧ ∀ r39, r39 = M.impl_isMemory s0.Memory → bcase (!r39) (Q false) (((0 ≤ (s0.Warps.length : Int)) ∧ (∀ r45, r45 = M.impl_within s0.Waiting 0 (wrap .i64 ((wrap .i64 (1 * 2 ^ (min ((s0.Warps.length : Int).toNat) (IntKind.bits .i64)))) - 2)) → bcase (!r45) (Q false) ((∀ r50, r50 = M.impl_within s0.Phase 0 100000 → bcase (!r50) (Q false) (LoopP (σ := Int × Unit) (fun (p92 : Int × Unit) next59 => match p92 with | (i55, _) => bcase (decide (i55 < (s0.Warps.length : Int))) (((0 ≤ i55 ∧ i55 < (s0.Warps.length : Int)) ∧ bcase ((rd s0.Warps i55).Number != i55) (Q false) ((M.impl_isWarpOf_pre s0.Code (rd s0.Warps i55) ∧ ∀ r81, r81 = M.impl_isWarpOf s0.Code (rd s0.Warps i55) → bcase (!r81) (Q false) (next59 ((wrap .i64 (i55 + 1)), ())))))) (Q true)) (0, ()))))))))))))
def wp.impl_hasWarp (s0 : D.Block) (x1 : Int) (Q : Bool → Prop) : Prop :=
 (M.impl_BlockOk_pre s0 ∧ ∀ r23, r23 = M.impl_BlockOk s0 → bcase r23 ((∀ r28, r28 = M.impl_within x1 0 (wrap .i64 ((s0.Warps.length : Int) - 1)) → Q r28)) (Q false))
def wp.impl_Block_waits (s0 : D.Block) (x1 : Int) (Q : Bool → Prop) : Prop :=
 ((0 ≤ x1) ∧ Q ((bitAnd .i64 (Int.fdiv s0.Waiting (2 ^ (min (x1.toNat) (IntKind.bits .i64)))) 1) == 1))
def wp.impl_IsWaiting (s0 : D.Block) (x1 : Int) (Q : Bool → Prop) : Prop :=
 (M.impl_hasWarp_pre s0 x1 ∧ ∀ r23, r23 = M.impl_hasWarp s0 x1 → bcase r23 ((M.impl_Block_waits_pre s0 x1 ∧ ∀ r28, r28 = M.impl_Block_waits s0 x1 → Q r28)) (Q false))
end Go.V
namespace Go.V
open IntKind (wrap)
theorem last_wrap {n : Nat} (h : n ≤ 9223372036854775807) : wrap .i64 ((n : Int) - 1) = (n : Int) - 1 := w64 (by omega) (by omega)
theorem frames_false {fs : List D.Frame} {n : Int} {k : Nat} (hk : k < fs.length) (h : M.frameOk n (rd fs (k : Int)) = false) : M.areFrames fs n = false := by
 have := all_false (g := M.frameOk n) hk h
 simp [M.areFrames, this]
theorem ends_false {fs : List D.Frame} {n : Int} (h0 : fs ≠ []) (h : M.endsOk fs n = false) : M.areFrames fs n = false := by
 have : fs.isEmpty = false := by simpa using h0
 simp [M.areFrames, h, this]
theorem wp.impl_areFrames.math (fs : List D.Frame) (n : Int) (h : M.impl_areFrames_pre fs n) : wp.impl_areFrames fs n (fun r => r = M.impl_areFrames fs n) := by
 unfold wp.impl_areFrames
 have hl : fs.length ≤ 9223372036854775807 := h
 refine all_loop (g := M.frameOk n) (Q := fun r => r = M.areFrames fs n) h (fun k next hk h1 h2 => ?_) (fun next ha => ?_) fun ha => by simp [M.areFrames, ha]
 ·refine bcase_t (by simp; omega) ⟨by omega, fun r hr => bcase_mk (fun e => ?_) fun e r2 hr2 => bcase_mk (fun e2 => ?_) fun e2 r3 hr3 => bcase_mk (fun e3 => ?_) fun e3 => bcase_mk (fun e4 => ?_) fun e4 => ?_⟩
  all_goals simp only [M.impl_within, M.impl_IsMask] at *
  ·have := nt e hr
   exact (frames_false hk (by simp [M.frameOk, this])).symm
  ·have := nt e2 hr2
   exact (frames_false hk (by simp [M.frameOk, this])).symm
  ·have := nt e3 hr3
   exact (frames_false hk (by simp [M.frameOk, this])).symm
  ·have e4 : (rd fs (k : Int)).Mask = 0 := by simpa using e4
   exact (frames_false hk (by simp [M.frameOk, e4])).symm
  ·rw [up64 hk h]
   refine h2 ?_
   have e4 : (rd fs (k : Int)).Mask ≠ 0 := by simpa using e4
   simp [M.frameOk, nf e hr, nf e2 hr2, nf e3 hr3, e4]
 ·refine bcase_f (by simp) (bcase_mk (fun e => ?_) fun e => ?_)
  ·have : fs = [] := by simpa using e
   subst this; rfl
  have h0 : fs ≠ [] := by rintro rfl; simp at e
  have hpos : 0 < fs.length := List.length_pos_iff.2 h0
  have hA : M.areFrames fs n = M.endsOk fs n := by
   have : fs.isEmpty = false := by simpa using h0
   simp [M.areFrames, ha, this]
  show _
  simp only [M.impl_areFrames, hA, last_wrap hl]
  refine ⟨by omega, bcase_mk (fun e1 => bcase_mk (fun e2 => bcase_mk (fun e3 => ⟨by omega, bcase_mk (fun e4 => ⟨by omega, ?_⟩) fun e4 => ?_⟩) fun e3 => ?_) fun e2 => ?_) fun e1 => ?_⟩
  all_goals simp only [M.endsOk]
  all_goals change _ = (_ && ((rd fs ((fs.length : Int) - 1)).Pc != (rd fs ((fs.length : Int) - 1)).Stop && ((rd fs ((fs.length : Int) - 1)).Pc != n && _)))
  ·have e1 : fs.length ≤ 24 := by simp at e1; omega
   rw [e2, e3, e4]; simp [e1]
  ·rw [e4]; simp
  ·rw [e3]; simp
  ·rw [e2]; simp
  ·have e1 : ¬ fs.length ≤ 24 := by simp at e1; omega
   simp [e1]
theorem lenE {r : List Int} : ((r.length : Int) == 32) = (r.length == 32) := by
 rw [Bool.eq_iff_iff]; simp; omega
theorem wp.impl_areAllRegs.math (r : List Int) : wp.impl_areAllRegs r (fun x => x = M.impl_areAllRegs r) := lenE
theorem wp.impl_isWarpCount.math (n : Int) : wp.impl_isWarpCount n (fun x => x = M.impl_isWarpCount n) := fun r hr => hr
theorem wp.impl_isMemory.math (m : List Int) (h : M.impl_isMemory_pre m) : wp.impl_isMemory m (fun x => x = M.impl_isMemory m) := by
 refine bcase_mk (fun e => ⟨h, fun r hr => ?_⟩) fun e => ?_
 ·have : m.length = 32 := by simp at e; omega
  rw [hr]; simp [M.impl_isMemory, this, M.impl_AreWords]
 ·have : ¬ m.length = 32 := by simp at e; omega
  simp [M.impl_isMemory, this]
theorem wp.impl_isWarpOf.math (p : List D.Ins) (x : D.Warp) (h : M.impl_isWarpOf_pre p x) : wp.impl_isWarpOf p x (fun r => r = M.impl_isWarpOf p x) := by
 obtain ⟨h1, h2⟩ := h
 refine fun r hr => bcase_mk (fun e r2 hr2 => bcase_mk (fun e2 => ⟨h2, fun r3 hr3 => bcase_mk (fun e3 => ⟨h1, fun r4 hr4 => ?_⟩) fun e3 => ?_⟩) fun e2 => ?_) fun e => ?_
 all_goals try simp only [M.impl_isWarpNumber, M.impl_areAllRegs, M.impl_AreWords, M.impl_areFrames, M.impl_isWarpOf, M.warpOf] at *
 ·subst hr hr2 hr3 hr4; simp [e, e2, e3]
 ·subst hr hr2 hr3; simp [e, e2, e3]
 ·subst hr hr2; simp [e, e2]
 ·subst hr; simp [e]
theorem lenB {r : List Int} : ((r.length : Int) != 32) = !(r.length == 32) := by rw [← lenE]; rfl
theorem wp.spec_WarpOk.math (p : List D.Ins) (x : D.Warp) (h : M.spec_WarpOk_pre p x) : wp.spec_WarpOk p x (fun r => r = M.spec_WarpOk p x) := by
 obtain ⟨hp, h1, h2⟩ := h
 have hl : x.Frames.length ≤ 9223372036854775807 := h1
 unfold wp.spec_WarpOk
 simp only [lenB]
 refine ⟨hp, fun r hr => bcase_mk (fun e => ?_) fun e r2 hr2 => bcase_mk (fun e2 => ?_) fun e2 => bcase_mk (fun e3 => ?_) fun e3 => ⟨h2, fun r4 hr4 => bcase_mk (fun e4 => ?_) fun e4 => bcase_mk (fun e5 => ?_) fun e5 => ?_⟩⟩
 all_goals try simp only [M.spec_ProgramOk, M.spec_l01In, M.spec_AreWords] at *
 all_goals try simp only [M.spec_WarpOk, M.warpOf]
 ·rw [nt e hr]; rfl
 ·rw [nt e2 hr2]; simp
 ·have : (x.Regs.length == 32) = false := by simpa using e3
  rw [this]; simp
 ·rw [nt e4 hr4]; simp
 ·have h24 : ¬ x.Frames.length ≤ 24 := by simp at e5; omega
  have h0 : x.Frames ≠ [] := by rintro h; rw [h] at h24; simp at h24
  rw [ends_false h0 (by simp [M.endsOk, h24])]; simp
 have h24 : x.Frames.length ≤ 24 := by simp at e5; omega
 have h32 : (x.Regs.length == 32) = true := by simpa using e3
 rw [nf e hr, nf e2 hr2, nf e4 hr4, h32]
 simp only [Bool.true_and]
 have hR : ∀ k : Nat, k < x.Frames.length → rd x.Frames ((k : Int)) = rd x.Frames (k : Int) := fun _ _ => rfl
 rw [last_wrap hl]
 refine loop_n x.Frames.length (fun k => ((k : Int), ())) (fun k => (x.Frames.take k).all (M.frameOk p.length) = true ∧ (0 < k → (rd x.Frames 0).Stop = p.length ∧ (rd x.Frames 0).Mask = 255) ∧ (k = x.Frames.length → 0 < k → (M.lastF x.Frames).Pc ≠ (M.lastF x.Frames).Stop ∧ (M.lastF x.Frames).Pc ≠ p.length)) rfl ⟨by simp, by simp, by simp⟩ (fun k hk hF next hn => ?_) fun hF next => ?_
 ·obtain ⟨g1, g2, g3⟩ := hF
  have h0 : x.Frames ≠ [] := by rintro h; rw [h] at hk; simp at hk
  refine bcase_t (by simp; omega) ⟨by omega, fun r hr => bcase_mk (fun e => ?_) fun e r2 hr2 => bcase_mk (fun e2 => ?_) fun e2 r3 hr3 => bcase_mk (fun e3 => ?_) fun e3 => bcase_mk (fun e4 => ?_) fun e4 => ?_⟩
  all_goals simp only [M.spec_IsMask] at *
  ·have := nt e hr
   exact (frames_false hk (by simp [M.frameOk, this])).symm
  ·have := nt e2 hr2
   exact (frames_false hk (by simp [M.frameOk, this])).symm
  ·have := nt e3 hr3
   exact (frames_false hk (by simp [M.frameOk, this])).symm
  ·have e4 : (rd x.Frames (k : Int)).Mask = 0 := by simpa using e4
   exact (frames_false hk (by simp [M.frameOk, e4])).symm
  have e4 : (rd x.Frames (k : Int)).Mask ≠ 0 := by simpa using e4
  have hok : M.frameOk p.length (rd x.Frames (k : Int)) = true := by simp [M.frameOk, nf e hr, nf e2 hr2, nf e3 hr3, e4]
  rw [rd_nat hk] at hok
  have gk := take_all_succ hk g1 hok
  have tail : ((rd x.Frames 0).Stop = p.length ∧ (rd x.Frames 0).Mask = 255) → bcase ((k : Int) == (x.Frames.length : Int) - 1) (bcase ((rd x.Frames (k : Int)).Pc == (rd x.Frames (k : Int)).Stop) (false = M.areFrames x.Frames p.length) (bcase ((rd x.Frames (k : Int)).Pc == (p.length : Int)) (false = M.areFrames x.Frames p.length) (next ((wrap .i64 ((k : Int) + 1)), ())))) (next ((wrap .i64 ((k : Int) + 1)), ())) := by
   intro hz
   rw [up64 hk hl]
   refine bcase_mk (fun e5 => ?_) fun e5 => ?_
   ·have e5 : (k : Int) = (x.Frames.length : Int) - 1 := by simpa using e5
    have hlast : M.lastF x.Frames = rd x.Frames (k : Int) := by rw [e5]; rfl
    refine bcase_mk (fun e6 => ?_) fun e6 => bcase_mk (fun e7 => ?_) fun e7 => ?_
    ·have e6 : (rd x.Frames (k : Int)).Pc = (rd x.Frames (k : Int)).Stop := by simpa using e6
     exact (ends_false h0 (by simp [M.endsOk, hlast, e6])).symm
    ·have e7 : (rd x.Frames (k : Int)).Pc = p.length := by simpa using e7
     exact (ends_false h0 (by simp [M.endsOk, hlast, e7])).symm
    ·exact hn ⟨gk, fun _ => hz, fun _ _ => by rw [hlast]; exact ⟨by simpa using e6, by simpa using e7⟩⟩
   ·have e5 : ¬ (k : Int) = (x.Frames.length : Int) - 1 := by simpa using e5
    exact hn ⟨gk, fun _ => hz, fun h _ => by omega⟩
  refine bcase_mk (fun e5 => ?_) fun e5 => ?_
  ·have e5 : k = 0 := by simp at e5; omega
   subst e5
   refine bcase_mk (fun e6 => ?_) fun e6 => bcase_mk (fun e7 => ?_) fun e7 => ?_
   ·have e6 : (rd x.Frames 0).Stop ≠ p.length := by simpa using e6
    exact (ends_false h0 (by simp [M.endsOk, e6])).symm
   ·have e7 : (rd x.Frames 0).Mask ≠ 255 := by simpa using e7
    exact (ends_false h0 (by simp [M.endsOk, e7])).symm
   ·exact tail ⟨by simpa using e6, by simpa using e7⟩
  ·have e5 : 0 < k := by simp at e5; omega
   exact tail (g2 e5)
 ·obtain ⟨g1, g2, g3⟩ := hF
  refine bcase_f (by simp) ?_
  rw [List.take_length] at g1
  rcases Nat.eq_zero_or_pos x.Frames.length with h0 | h0
  ·have : x.Frames = [] := List.eq_nil_of_length_eq_zero h0
   rw [this]; rfl
  ·have hne : x.Frames.isEmpty = false := by simpa using List.length_pos_iff.1 h0
   obtain ⟨a1, a2⟩ := g2 h0
   obtain ⟨b1, b2⟩ := g3 rfl h0
   have : M.endsOk x.Frames p.length = true := by simp [M.endsOk, h24, a1, a2, b1, b2]
   simp [M.areFrames, g1, this]
theorem warps_from (p : List D.Ins) (l : List D.Warp) (k : Nat) (hk : k < l.length) : M.warpsOk p k (l.drop k) = (M.warpAt p k (rd l (k : Int)) && M.warpsOk p (k + 1) (l.drop (k + 1))) := by
 rw [List.drop_eq_getElem_cons hk, rd_nat hk]; rfl
theorem warps_loop {p : List D.Ins} {l : List D.Warp} (hl : M.Long l) {B : (Int × Unit) → ((Int × Unit) → Prop) → Prop}
    (hb : ∀ (k : Nat) (next : (Int × Unit) → Prop), k < l.length → (M.warpAt p k (rd l (k : Int)) = false → false = M.warpsOk p 0 l) → (M.warpAt p k (rd l (k : Int)) = true → next (((k + 1 : Nat) : Int), ())) → B ((k : Int), ()) next)
    (he : ∀ (next : (Int × Unit) → Prop), true = M.warpsOk p 0 l → B ((l.length : Int), ()) next) : LoopP B (0, ()) := by
 refine loop_n l.length (fun k => ((k : Int), ())) (fun k => M.warpsOk p 0 l = M.warpsOk p k (l.drop k)) rfl rfl (fun k hk hF next hn => ?_) fun hF next => ?_
 ·rw [warps_from p l k hk] at hF
  refine hb k next hk (fun e => by rw [hF, e]; rfl) fun e => hn (by rw [hF, e]; rfl)
 ·refine he next ?_
  rw [hF, List.drop_length]; rfl
theorem wp.spec_BlockOk.math (b : D.Block) (h : M.spec_BlockOk_pre b) : wp.spec_BlockOk b (fun r => r = M.spec_BlockOk b) := by
 obtain ⟨h1, ⟨h2, hW⟩, h3⟩ := h
 unfold wp.spec_BlockOk
 simp only [lenB]
 refine ⟨h1, fun r hr => bcase_mk (fun e => ?_) fun e r2 hr2 => bcase_mk (fun e2 => ?_) fun e2 => bcase_mk (fun e3 => ?_) fun e3 => ⟨h3, fun r4 hr4 => bcase_mk (fun e4 => ?_) fun e4 => ⟨by omega, fun r5 hr5 => bcase_mk (fun e5 => ?_) fun e5 r6 hr6 => bcase_mk (fun e6 => ?_) fun e6 => ?_⟩⟩⟩
 all_goals try simp only [M.spec_ProgramOk, M.spec_l01In, M.spec_AreWords] at *
 all_goals simp only [M.spec_BlockOk, M.blockOk, M.impl_isMemory]
 ·rw [nt e hr]; rfl
 ·rw [nt e2 hr2]; simp
 ·have : (b.Memory.length == 32) = false := by simpa using e3
  rw [this]; simp
 ·rw [nt e4 hr4]; simp
 ·have := nt e5 hr5
  unfold M.waitTop; rw [this]; simp
 ·rw [nt e6 hr6]; simp
 have h32 : (b.Memory.length == 32) = true := by simpa using e3
 have h5 := nf e5 hr5
 have hp := nf e hr
 unfold M.waitTop
 rw [hp, nf e2 hr2, nf e4 hr4, h32, h5, nf e6 hr6]
 simp only [Bool.true_and]
 refine warps_loop h2 (fun k next hk g1 g2 => ?_) fun next hh => bcase_f (by simp) hh
 refine bcase_t (by simp; omega) ⟨by omega, ⟨h1, hW _ (rd_mem hk)⟩, fun r hr => bcase_mk (fun e => ?_) fun e => ⟨by omega, bcase_mk (fun e2 => ?_) fun e2 => ?_⟩⟩
 all_goals simp only [M.spec_WarpOk, hp, Bool.true_and] at *
 ·exact g1 (by simp [M.warpAt, nt e hr])
 ·have e2 : (rd b.Warps (k : Int)).Number ≠ (k : Int) := by simpa using e2
  exact g1 (by simp [M.warpAt, e2])
 ·have e2 : (rd b.Warps (k : Int)).Number = (k : Int) := by simpa using e2
  rw [up64 hk h2]; exact g2 (by simp [M.warpAt, e2, nf e hr])
theorem wp.impl_BlockOk.math (b : D.Block) (h : M.impl_BlockOk_pre b) : wp.impl_BlockOk b (fun r => r = M.impl_BlockOk b) := by
 obtain ⟨h1, ⟨h2, hW⟩, h3⟩ := h
 refine ⟨h1, fun r hr => bcase_mk (fun e => ?_) fun e r2 hr2 => bcase_mk (fun e2 => ?_) fun e2 => ⟨h3, fun r4 hr4 => bcase_mk (fun e4 => ?_) fun e4 => ⟨by omega, fun r5 hr5 => bcase_mk (fun e5 => ?_) fun e5 r6 hr6 => bcase_mk (fun e6 => ?_) fun e6 => ?_⟩⟩⟩
 all_goals simp only [M.impl_ProgramOk, M.impl_isWarpCount, M.impl_within] at *
 all_goals simp only [M.impl_BlockOk, M.blockOk]
 ·rw [nt e hr]; rfl
 ·rw [nt e2 hr2]; simp
 ·rw [nt e4 hr4]; simp
 ·have := nt e5 hr5
  unfold M.waitTop; rw [this]; simp
 ·rw [nt e6 hr6]; simp
 have h5 := nf e5 hr5
 unfold M.waitTop
 rw [nf e hr, nf e2 hr2, nf e4 hr4, h5, nf e6 hr6]
 simp only [Bool.true_and]
 refine warps_loop h2 (fun k next hk g1 g2 => ?_) fun next hh => bcase_f (by simp) hh
 refine bcase_t (by simp; omega) ⟨by omega, bcase_mk (fun e2 => ?_) fun e2 => ⟨hW _ (rd_mem hk), fun r hr => bcase_mk (fun e => ?_) fun e => ?_⟩⟩
 all_goals simp only [M.impl_isWarpOf] at *
 ·have e2 : (rd b.Warps (k : Int)).Number ≠ (k : Int) := by simpa using e2
  exact g1 (by simp [M.warpAt, e2])
 ·exact g1 (by simp [M.warpAt, nt e hr])
 ·have e2 : (rd b.Warps (k : Int)).Number = (k : Int) := by simpa using e2
  rw [up64 hk h2]; exact g2 (by simp [M.warpAt, e2, nf e hr])
theorem wp.spec_l30Ok.math (b : D.Block) (w : Int) (h : M.spec_l30Ok_pre b w) : wp.spec_l30Ok b w (fun r => r = M.spec_l30Ok b w) := by
 refine ⟨h, fun r hr => bcase_mk (fun e r2 hr2 => ?_) fun e => ?_⟩
 all_goals simp only [M.spec_BlockOk, M.spec_l01In, M.spec_l30Ok, M.hasWarp] at *
 ·rw [hr2, ← hr, e]; rfl
 ·rw [← hr, e]; rfl
theorem wp.impl_hasWarp.math (b : D.Block) (w : Int) (h : M.impl_hasWarp_pre b w) : wp.impl_hasWarp b w (fun r => r = M.impl_hasWarp b w) := by
 refine ⟨h, fun r hr => bcase_mk (fun e r2 hr2 => ?_) fun e => ?_⟩
 all_goals simp only [M.impl_BlockOk, M.impl_within, M.impl_hasWarp, M.hasWarp] at *
 ·rw [hr2, ← hr, e]; rfl
 ·rw [← hr, e]; rfl
theorem wp.impl_Block_waits.math (b : D.Block) (w : Int) (h : M.impl_Block_waits_pre b w) : wp.impl_Block_waits b w (fun r => r = M.impl_Block_waits b w) := ⟨h, rfl⟩
theorem has_in {b : D.Block} {w : Int} (hb : M.Long b.Warps) (h : M.hasWarp b w = true) : 0 ≤ w ∧ w < (b.Warps.length : Int) ∧ M.blockOk b = true := by
 have hl : b.Warps.length ≤ 9223372036854775807 := hb
 simp only [M.hasWarp, Bool.and_eq_true, M.isIn, decide_eq_true_eq, last_wrap hl] at h
 exact ⟨h.2.1, by omega, h.1⟩
theorem wp.impl_IsWaiting.math (b : D.Block) (w : Int) (h : M.impl_IsWaiting_pre b w) : wp.impl_IsWaiting b w (fun r => r = M.impl_IsWaiting b w) := by
 refine ⟨h, fun r hr => bcase_mk (fun e => ⟨?_, fun r2 hr2 => ?_⟩) fun e => ?_⟩
 ·exact (has_in h.2.1.1 (hr.symm.trans e)).1
 ·have : M.hasWarp b w = true := hr.symm.trans e
  rw [hr2]
  simp only [M.impl_IsWaiting, M.isWaiting, this, M.impl_Block_waits, Bool.true_and]
 ·have : M.hasWarp b w = false := hr.symm.trans e
  simp only [M.impl_IsWaiting, M.isWaiting, this, Bool.false_and]
theorem small_long {b : D.Block} (h : M.BSmall b) : M.BLong b := by
 obtain ⟨h1, ⟨h2, h3⟩, h4⟩ := h
 unfold M.BLong M.WsLong M.WLong M.Long
 exact ⟨by omega, ⟨by omega, fun x hx => by have := h3 x hx; unfold M.WSmall at this; omega⟩, by omega⟩
end Go.V
namespace Go.V
open IntKind (wrap)
def wp.slices_IndexFunc_impl_Warp_impl_Warp (xs0 : List D.Warp) (g1 : D.Warp → Bool) (D1 : D.Warp → Prop) (Q : Int → Prop) : Prop :=
 LoopP (σ := Int × Unit) (fun (p53 : Int × Unit) next25 => match p53 with | (i21, _) => bcase (decide (i21 < (xs0.length : Int))) (((0 ≤ i21 ∧ i21 < (xs0.length : Int)) ∧ (D1 (rd xs0 i21) ∧ ∀ r43, r43 = g1 (rd xs0 i21) → bcase r43 (Q i21) (next25 ((wrap .i64 (i21 + 1)), ()))))) (Q (-1))) (0, ())
def wp.slices_ContainsFunc_impl_Warp_impl_Warp (xs0 : List D.Warp) (g1 : D.Warp → Bool) (D1 : D.Warp → Prop) (Q : Bool → Prop) : Prop :=
 (M.slices_IndexFunc_impl_Warp_impl_Warp_pre xs0 g1 D1 ∧ ∀ r21, r21 = M.slices_IndexFunc_impl_Warp_impl_Warp xs0 g1 → Q (decide (r21 ≥ 0)))
def wp.impl_Block_ended_1 (s0 : D.Warp) (Q : Bool → Prop) : Prop :=
 Q (decide ((s0.Frames.length : Int) > 0))
def wp.impl_Block_ended (s0 : D.Block) (Q : Bool → Prop) : Prop :=
 (M.slices_ContainsFunc_impl_Warp_impl_Warp_pre s0.Warps (fun z0_ => M.impl_Block_ended_1 z0_) (fun z0_ => M.impl_Block_ended_1_pre z0_) ∧ ∀ r23, r23 = M.slices_ContainsFunc_impl_Warp_impl_Warp s0.Warps (fun z0_ => M.impl_Block_ended_1 z0_) → Q (!r23))
def wp.impl_BlockEnded (s0 : D.Block) (Q : Bool → Prop) : Prop :=
 (M.impl_BlockOk_pre s0 ∧ ∀ r23, r23 = M.impl_BlockOk s0 → bcase r23 ((M.impl_Block_ended_pre s0 ∧ ∀ r28, r28 = M.impl_Block_ended s0 → Q r28)) (Q false))
def wp.spec_l30Next (s0 : D.Block) (x1 : Int) (Q : D.Ins → Prop) : Prop :=
 ((0 ≤ x1 ∧ x1 < (s0.Warps.length : Int)) ∧ ((0 ≤ (wrap .i64 (((rd s0.Warps x1).Frames.length : Int) - 1)) ∧ (wrap .i64 (((rd s0.Warps x1).Frames.length : Int) - 1)) < (((rd s0.Warps x1).Frames).length : Int)) ∧ ((0 ≤ (rd ((rd s0.Warps x1).Frames) (wrap .i64 (((rd s0.Warps x1).Frames.length : Int) - 1))).Pc ∧ (rd ((rd s0.Warps x1).Frames) (wrap .i64 (((rd s0.Warps x1).Frames.length : Int) - 1))).Pc < (s0.Code.length : Int)) ∧ Q (⟨(rd s0.Code ((rd ((rd s0.Warps x1).Frames) (wrap .i64 (((rd s0.Warps x1).Frames.length : Int) - 1))).Pc)).Op, (rd s0.Code ((rd ((rd s0.Warps x1).Frames) (wrap .i64 (((rd s0.Warps x1).Frames.length : Int) - 1))).Pc)).A, (rd s0.Code ((rd ((rd s0.Warps x1).Frames) (wrap .i64 (((rd s0.Warps x1).Frames.length : Int) - 1))).Pc)).B, (rd s0.Code ((rd ((rd s0.Warps x1).Frames) (wrap .i64 (((rd s0.Warps x1).Frames.length : Int) - 1))).Pc)).C⟩ : D.Ins))))
def wp.impl_Block_nextIns (s0 : D.Block) (x1 : Int) (Q : (D.Ins × Bool) → Prop) : Prop :=
 ((0 ≤ x1 ∧ x1 < (s0.Warps.length : Int)) ∧ bcase (((rd s0.Warps x1).Frames.length : Int) == 0) (Q ((⟨0, 0, 0, 0⟩ : D.Ins), false)) (((0 ≤ (wrap .i64 (((rd s0.Warps x1).Frames.length : Int) - 1)) ∧ (wrap .i64 (((rd s0.Warps x1).Frames.length : Int) - 1)) < (((rd s0.Warps x1).Frames).length : Int)) ∧ ((0 ≤ (rd ((rd s0.Warps x1).Frames) (wrap .i64 (((rd s0.Warps x1).Frames.length : Int) - 1))).Pc ∧ (rd ((rd s0.Warps x1).Frames) (wrap .i64 (((rd s0.Warps x1).Frames.length : Int) - 1))).Pc < (s0.Code.length : Int)) ∧ Q ((⟨(rd s0.Code ((rd ((rd s0.Warps x1).Frames) (wrap .i64 (((rd s0.Warps x1).Frames.length : Int) - 1))).Pc)).Op, (rd s0.Code ((rd ((rd s0.Warps x1).Frames) (wrap .i64 (((rd s0.Warps x1).Frames.length : Int) - 1))).Pc)).A, (rd s0.Code ((rd ((rd s0.Warps x1).Frames) (wrap .i64 (((rd s0.Warps x1).Frames.length : Int) - 1))).Pc)).B, (rd s0.Code ((rd ((rd s0.Warps x1).Frames) (wrap .i64 (((rd s0.Warps x1).Frames.length : Int) - 1))).Pc)).C⟩ : D.Ins), true)))))
def wp.impl_NextOp (s0 : D.Block) (x1 : Int) (Q : Int → Prop) : Prop :=
 (M.impl_hasWarp_pre s0 x1 ∧ ∀ r23, r23 = M.impl_hasWarp s0 x1 → bcase (!r23) (Q (-1)) ((M.impl_Block_nextIns_pre s0 x1 ∧ ∀ r28, r28 = M.impl_Block_nextIns s0 x1 → bcase (!r28.2) (Q (-1)) (Q r28.1.Op))))
def wp.impl_AtBarrier (s0 : D.Block) (x1 : Int) (Q : Bool → Prop) : Prop :=
 (M.impl_NextOp_pre s0 x1 ∧ ∀ r23, r23 = M.impl_NextOp s0 x1 → Q (r23 == 16))
def wp.impl_IsSplitBarrier (s0 : D.Block) (x1 : Int) (Q : Bool → Prop) : Prop :=
 (M.impl_AtBarrier_pre s0 x1 ∧ ∀ r23, r23 = M.impl_AtBarrier s0 x1 → bcase r23 (((0 ≤ x1 ∧ x1 < (s0.Warps.length : Int)) ∧ Q (decide (((rd s0.Warps x1).Frames.length : Int) > 1)))) (Q false))
end Go.V
namespace Go.V
open IntKind (wrap)
theorem empty_len {α : Type} {l : List α} : decide ((l.length : Int) > 0) = !l.isEmpty := by
 cases l with
 | nil => rfl
 | cons x l =>
  have : ((x :: l).length : Int) > 0 := by simp only [List.length_cons]; omega
  rw [decide_eq_true this]; rfl
theorem empty_len0 {α : Type} {l : List α} : ((l.length : Int) == 0) = l.isEmpty := by
 cases l with
 | nil => rfl
 | cons x l =>
  have : ¬ ((x :: l).length : Int) = 0 := by simp only [List.length_cons]; omega
  rw [beq_eq_false_iff_ne.2 this]; rfl
theorem wp.slices_IndexFunc_impl_Warp_impl_Warp.math (l : List D.Warp) (g : D.Warp → Bool) (D : D.Warp → Prop) (h : M.slices_IndexFunc_impl_Warp_impl_Warp_pre l g D) : wp.slices_IndexFunc_impl_Warp_impl_Warp l g D (fun r => r = M.slices_IndexFunc_impl_Warp_impl_Warp l g) := by
 unfold wp.slices_IndexFunc_impl_Warp_impl_Warp
 obtain ⟨h1, h2⟩ := h
 refine loop_n l.length (fun k => ((k : Int), ())) (fun k => M.slices_IndexFunc_impl_Warp_impl_Warp l g = M.firstIx g (l.drop k) k) rfl (by simp [M.slices_IndexFunc_impl_Warp_impl_Warp]) (fun k hk hF next hn => ?_) fun hF next => ?_
 ·rw [firstIx_from g l k hk] at hF
  refine bcase_t (by simp; omega) ⟨by omega, h2 _ (rd_mem hk), fun r hr => bcase_mk (fun e => ?_) fun e => ?_⟩
  ·rw [hF, if_pos (by rw [← hr]; exact e)]
  ·rw [up64 hk h1]
   exact hn (by rw [hF, if_neg (by rw [← hr, e]; simp)])
 ·refine bcase_f (by simp) ?_
  rw [hF]; simp [M.firstIx]
theorem wp.slices_ContainsFunc_impl_Warp_impl_Warp.math (l : List D.Warp) (g : D.Warp → Bool) (D : D.Warp → Prop) (h : M.slices_ContainsFunc_impl_Warp_impl_Warp_pre l g D) : wp.slices_ContainsFunc_impl_Warp_impl_Warp l g D (fun r => r = M.slices_ContainsFunc_impl_Warp_impl_Warp l g) :=
 ⟨h, fun r hr => by rw [hr]; exact firstIx_nonneg g l 0⟩
theorem wp.impl_Block_ended_1.math (x : D.Warp) (h : M.impl_Block_ended_1_pre x) : wp.impl_Block_ended_1 x (fun r => r = M.impl_Block_ended_1 x) := empty_len
theorem wp.impl_Block_ended.math (b : D.Block) (h : M.impl_Block_ended_pre b) : wp.impl_Block_ended b (fun r => r = M.impl_Block_ended b) := by
 refine ⟨⟨h, fun _ _ => trivial⟩, fun r hr => ?_⟩
 rw [hr]
 simp only [M.slices_ContainsFunc_impl_Warp_impl_Warp, M.impl_Block_ended, M.ended, M.impl_Block_ended_1, ← List.all_eq_not_any_not]
theorem wp.impl_BlockEnded.math (b : D.Block) (h : M.impl_BlockEnded_pre b) : wp.impl_BlockEnded b (fun r => r = M.impl_BlockEnded b) := by
 refine ⟨h, fun r hr => bcase_mk (fun e => ⟨h.2.1.1, fun r2 hr2 => ?_⟩) fun e => ?_⟩
 ·have : M.blockOk b = true := hr.symm.trans e
  rw [hr2]; simp [M.impl_BlockEnded, M.blockEnded, this, M.impl_Block_ended]
 ·have : M.blockOk b = false := hr.symm.trans e
  simp [M.impl_BlockEnded, M.blockEnded, this]
theorem warp_at {p : List D.Ins} : ∀ {l : List D.Warp} {k n : Nat}, M.warpsOk p k l = true → n < l.length → M.warpAt p (k + n) (rd l (n : Int)) = true
 | [], k, n, h, hn => absurd hn (by simp)
 | x :: l, k, 0, h, hn => by
  simp only [M.warpsOk, Bool.and_eq_true] at h
  exact h.1
 | x :: l, k, n + 1, h, hn => by
  simp only [M.warpsOk, Bool.and_eq_true] at h
  have := warp_at (n := n) h.2 (by simpa using hn)
  rw [show k + (n + 1) = k + 1 + n by omega]
  have e : rd (x :: l) ((n + 1 : Nat) : Int) = rd l (n : Int) := by
   have hn' : n < l.length := by simpa using hn
   rw [rd_nat hn, rd_nat hn']; rfl
  rw [e]; exact this
theorem has_warp {b : D.Block} {w : Int} (h : M.Has b w) : 0 ≤ w ∧ w < (b.Warps.length : Int) ∧ M.programOk b.Code = true ∧ M.warpOf b.Code (rd b.Warps w) = true ∧ (rd b.Warps w).Number = w ∧ M.blockOk b = true := by
 obtain ⟨hb, hh⟩ := h
 obtain ⟨h0, h1, hok⟩ := has_in hb.2.1.1 hh
 have hok' := hok
 simp only [M.blockOk, Bool.and_eq_true] at hok
 obtain ⟨k, rfl⟩ := Int.eq_ofNat_of_zero_le h0
 have := warp_at (n := k) hok.2.2.2.2.2 (by omega)
 rw [Nat.zero_add] at this
 simp only [M.warpAt, Bool.and_eq_true, beq_iff_eq] at this
 exact ⟨h0, h1, hok.1, this.2, this.1, hok'⟩
theorem frames_last {p : List D.Ins} {x : D.Warp} (h : M.warpOf p x = true) (hx : x.Frames ≠ []) : x.Frames.length ≤ 24 ∧ 0 ≤ (M.lastF x.Frames).Pc ∧ (M.lastF x.Frames).Pc < (p.length : Int) := by
 simp only [M.warpOf, M.areFrames, Bool.and_eq_true, Bool.or_eq_true] at h
 obtain ⟨h1, h2, h3, h4, h5⟩ := h
 have h5 := h5.resolve_left (by simpa using hx)
 have hpos : 0 < x.Frames.length := List.length_pos_iff.2 hx
 have hm : M.lastF x.Frames ∈ x.Frames := rd_of (by omega) (by omega)
 have hf := List.all_eq_true.1 h4 _ hm
 simp only [M.endsOk, M.frameOk, M.isIn, Bool.and_eq_true, decide_eq_true_eq, bne_iff_ne] at h5 hf
 exact ⟨h5.1, hf.1.1, by omega⟩
theorem wp.spec_l30Next.math (b : D.Block) (w : Int) (h : M.spec_l30Next_pre b w) : wp.spec_l30Next b w (fun r => r = M.spec_l30Next b w) := by
 obtain ⟨hh, hx⟩ := h
 obtain ⟨h0, h1, hp, hw, hn, hok⟩ := has_warp hh
 obtain ⟨k1, k2, k3⟩ := frames_last hw hx
 have hpos : 0 < (rd b.Warps w).Frames.length := List.length_pos_iff.2 hx
 unfold wp.spec_l30Next
 rw [last_wrap (by omega)]
 exact ⟨⟨h0, h1⟩, ⟨by omega, by omega⟩, ⟨k2, k3⟩, rfl⟩
theorem wp.impl_Block_nextIns.math (b : D.Block) (w : Int) (h : M.impl_Block_nextIns_pre b w) : wp.impl_Block_nextIns b w (fun r => r = M.impl_Block_nextIns b w) := by
 obtain ⟨h0, h1, hp, hw, hn, hok⟩ := has_warp h
 unfold wp.impl_Block_nextIns
 rw [empty_len0]
 refine ⟨⟨h0, h1⟩, bcase_mk (fun e => ?_) fun e => ?_⟩
 ·simp [M.impl_Block_nextIns, e]
 ·have hx : (rd b.Warps w).Frames ≠ [] := by simpa using e
  obtain ⟨k1, k2, k3⟩ := frames_last hw hx
  have hpos : 0 < (rd b.Warps w).Frames.length := List.length_pos_iff.2 hx
  rw [last_wrap (by omega)]
  refine ⟨⟨by omega, by omega⟩, ⟨k2, k3⟩, ?_⟩
  simp only [M.impl_Block_nextIns, e]; rfl
theorem wp.impl_NextOp.math (b : D.Block) (w : Int) (h : M.impl_NextOp_pre b w) : wp.impl_NextOp b w (fun r => r = M.impl_NextOp b w) := by
 refine ⟨h, fun r hr => bcase_mk (fun e => ?_) fun e => ?_⟩
 ·have : M.hasWarp b w = false := nt e hr
  simp [M.impl_NextOp, M.nextOp, this]
 have hw : M.hasWarp b w = true := nf e hr
 refine ⟨⟨h, hw⟩, fun r2 hr2 => ?_⟩
 subst hr2
 unfold M.impl_Block_nextIns
 by_cases e2 : (rd b.Warps w).Frames.isEmpty = true
 ·rw [if_pos e2]
  exact bcase_t rfl (by simp [M.impl_NextOp, M.nextOp, e2])
 ·rw [if_neg e2]
  have e2 : (rd b.Warps w).Frames.isEmpty = false := by simpa using e2
  exact bcase_f rfl (by simp [M.impl_NextOp, M.nextOp, e2, hw])
theorem wp.impl_AtBarrier.math (b : D.Block) (w : Int) (h : M.impl_AtBarrier_pre b w) : wp.impl_AtBarrier b w (fun r => r = M.impl_AtBarrier b w) := ⟨h, fun r hr => by rw [hr]; rfl⟩
theorem atBarrier_has {b : D.Block} {w : Int} (h : M.atBarrier b w = true) : M.hasWarp b w = true := by
 unfold M.atBarrier M.nextOp at h
 by_cases e : M.hasWarp b w = true
 ·exact e
 ·simp [e] at h
theorem wp.impl_IsSplitBarrier.math (b : D.Block) (w : Int) (h : M.impl_IsSplitBarrier_pre b w) : wp.impl_IsSplitBarrier b w (fun r => r = M.impl_IsSplitBarrier b w) := by
 refine ⟨h, fun r hr => bcase_mk (fun e => ?_) fun e => ?_⟩
 ·have e : M.atBarrier b w = true := hr.symm.trans e
  obtain ⟨h0, h1, _⟩ := has_warp ⟨h, atBarrier_has e⟩
  refine ⟨⟨h0, h1⟩, ?_⟩
  simp only [M.impl_IsSplitBarrier, M.isSplitBarrier, e, Bool.true_and]
 ·have e : M.atBarrier b w = false := hr.symm.trans e
  simp only [M.impl_IsSplitBarrier, M.isSplitBarrier, e, Bool.false_and]
end Go.V
namespace Go.V
open IntKind (wrap)
def wp.spec_WarpNew (xs0 : List D.Ins) (x1 : Int) (Q : (D.Warp × Bool) → Prop) : Prop :=
 (M.spec_ProgramOk_pre xs0 ∧ ∀ r23, r23 = M.spec_ProgramOk xs0 → bcase (!r23) (Q ((⟨0, ([] : List D.Frame), ([] : List Int)⟩ : D.Warp), false)) ((∀ r30, r30 = M.spec_l01In x1 0 2 → bcase (!r30) (Q ((⟨0, ([] : List D.Frame), ([] : List Int)⟩ : D.Warp), false)) (((0 ≤ (32 : Int) ∧ (32 : Int) ≤ 17179869184) ∧ bcase (decide ((xs0.length : Int) > 0)) (Q ((⟨x1, ([(⟨0, (xs0.length : Int), 255⟩ : D.Frame)] : List D.Frame), (List.replicate ((32 : Int).toNat) (default : Int))⟩ : D.Warp), true)) (Q ((⟨x1, ([] : List D.Frame), (List.replicate ((32 : Int).toNat) (default : Int))⟩ : D.Warp), true)))))))
def wp.spec_BlockNew (xs0 : List D.Ins) (x1 : Int) (Q : (D.Block × Bool) → Prop) : Prop :=
 (M.spec_ProgramOk_pre xs0 ∧ ∀ r23, r23 = M.spec_ProgramOk xs0 → bcase (!r23) (Q ((⟨([] : List D.Ins), ([] : List D.Warp), ([] : List Int), 0, 0⟩ : D.Block), false)) ((∀ r30, r30 = M.spec_l01In x1 1 3 → bcase (!r30) (Q ((⟨([] : List D.Ins), ([] : List D.Warp), ([] : List Int), 0, 0⟩ : D.Block), false)) (JoinP (σ := (List D.Ins) × (List D.Warp) × (List Int) × Int × Int × Unit) (fun J49 => ((((((([] : List D.Ins).length + xs0.length ≤ 17179869184) ∧ ((((0 ≤ (32 : Int) ∧ (32 : Int) ≤ 17179869184) ∧ J49 ((([] : List D.Ins) ++ xs0), [], (List.replicate ((32 : Int).toNat) (default : Int)), 0, 0, ()))) ∧ (((0 ≤ (32 : Int) ∧ (32 : Int) ≤ 17179869184) ∧ J49 ((([] : List D.Ins) ++ xs0), [], (List.replicate ((32 : Int).toNat) (default : Int)), 0, 0, ()))) ∧ True))) ∧ (((0 ≤ (32 : Int) ∧ (32 : Int) ≤ 17179869184) ∧ ((((([] : List D.Ins).length + xs0.length ≤ 17179869184) ∧ J49 ((([] : List D.Ins) ++ xs0), [], (List.replicate ((32 : Int).toNat) (default : Int)), 0, 0, ()))) ∧ (((([] : List D.Ins).length + xs0.length ≤ 17179869184) ∧ J49 ((([] : List D.Ins) ++ xs0), [], (List.replicate ((32 : Int).toNat) (default : Int)), 0, 0, ()))) ∧ True))) ∧ (((((([] : List D.Ins).length + xs0.length ≤ 17179869184) ∧ ((0 ≤ (32 : Int) ∧ (32 : Int) ≤ 17179869184) ∧ J49 ((([] : List D.Ins) ++ xs0), [], (List.replicate ((32 : Int).toNat) (default : Int)), 0, 0, ())))) ∧ (((0 ≤ (32 : Int) ∧ (32 : Int) ≤ 17179869184) ∧ ((([] : List D.Ins).length + xs0.length ≤ 17179869184) ∧ J49 ((([] : List D.Ins) ++ xs0), [], (List.replicate ((32 : Int).toNat) (default : Int)), 0, 0, ())))) ∧ True)) ∧ True)) ∧ (((0 ≤ (32 : Int) ∧ (32 : Int) ≤ 17179869184) ∧ ((((((([] : List D.Ins).length + xs0.length ≤ 17179869184) ∧ J49 ((([] : List D.Ins) ++ xs0), [], (List.replicate ((32 : Int).toNat) (default : Int)), 0, 0, ()))) ∧ (((([] : List D.Ins).length + xs0.length ≤ 17179869184) ∧ J49 ((([] : List D.Ins) ++ xs0), [], (List.replicate ((32 : Int).toNat) (default : Int)), 0, 0, ()))) ∧ True)) ∧ (((([] : List D.Ins).length + xs0.length ≤ 17179869184) ∧ J49 ((([] : List D.Ins) ++ xs0), [], (List.replicate ((32 : Int).toNat) (default : Int)), 0, 0, ()))) ∧ True))) ∧ (((((((([] : List D.Ins).length + xs0.length ≤ 17179869184) ∧ ((0 ≤ (32 : Int) ∧ (32 : Int) ≤ 17179869184) ∧ J49 ((([] : List D.Ins) ++ xs0), [], (List.replicate ((32 : Int).toNat) (default : Int)), 0, 0, ())))) ∧ (((0 ≤ (32 : Int) ∧ (32 : Int) ≤ 17179869184) ∧ ((([] : List D.Ins).length + xs0.length ≤ 17179869184) ∧ J49 ((([] : List D.Ins) ++ xs0), [], (List.replicate ((32 : Int).toNat) (default : Int)), 0, 0, ())))) ∧ True)) ∧ (((0 ≤ (32 : Int) ∧ (32 : Int) ≤ 17179869184) ∧ ((([] : List D.Ins).length + xs0.length ≤ 17179869184) ∧ J49 ((([] : List D.Ins) ++ xs0), [], (List.replicate ((32 : Int).toNat) (default : Int)), 0, 0, ())))) ∧ True)) ∧ True)) (fun (p333 : (List D.Ins) × (List D.Warp) × (List Int) × Int × Int × Unit) => match p333 with | (xs37, xs41, xs44, i47, i48, _) => LoopP (σ := Int × (List D.Warp) × Int × Int × Unit) (fun (p329 : Int × (List D.Warp) × Int × Int × Unit) next293 => match p329 with | (i283, xs285, i288, i289, _) => bcase (decide (i283 < x1)) ((M.spec_WarpNew_pre xs0 i283 ∧ ∀ r295, r295 = M.spec_WarpNew xs0 i283 → ((xs285.length + ([r295.1] : List D.Warp).length ≤ 17179869184) ∧ next293 ((wrap .i64 (i283 + 1)), (xs285 ++ ([r295.1] : List D.Warp)), i288, i289, ())))) (Q ((⟨xs37, xs285, xs44, i288, i289⟩ : D.Block), true))) (0, xs41, i47, i48, ()))))))
def wp.spec_l12Copy (s0 : D.Warp) (Q : D.Warp → Prop) : Prop :=
 ((((((([] : List D.Frame).length + s0.Frames.length ≤ 17179869184) ∧ ((([] : List Int).length + s0.Regs.length ≤ 17179869184) ∧ Q (⟨s0.Number, (([] : List D.Frame) ++ s0.Frames), (([] : List Int) ++ s0.Regs)⟩ : D.Warp)))) ∧ (((([] : List D.Frame).length + s0.Frames.length ≤ 17179869184) ∧ ((([] : List Int).length + s0.Regs.length ≤ 17179869184) ∧ Q (⟨s0.Number, (([] : List D.Frame) ++ s0.Frames), (([] : List Int) ++ s0.Regs)⟩ : D.Warp)))) ∧ True)) ∧ (((([] : List D.Frame).length + s0.Frames.length ≤ 17179869184) ∧ ((([] : List Int).length + s0.Regs.length ≤ 17179869184) ∧ Q (⟨s0.Number, (([] : List D.Frame) ++ s0.Frames), (([] : List Int) ++ s0.Regs)⟩ : D.Warp)))) ∧ True)
def wp.spec_l29Copy (s0 : D.Block) (Q : D.Block → Prop) : Prop :=
 JoinP (σ := (List D.Ins) × (List D.Warp) × (List Int) × Int × Int × Unit) (fun J37 => ((((((([] : List D.Ins).length + s0.Code.length ≤ 17179869184) ∧ ((((((([] : List Int).length + s0.Memory.length ≤ 17179869184) ∧ J37 ((([] : List D.Ins) ++ s0.Code), [], (([] : List Int) ++ s0.Memory), s0.Waiting, s0.Phase, ()))) ∧ (((([] : List Int).length + s0.Memory.length ≤ 17179869184) ∧ J37 ((([] : List D.Ins) ++ s0.Code), [], (([] : List Int) ++ s0.Memory), s0.Waiting, s0.Phase, ()))) ∧ True)) ∧ (((([] : List Int).length + s0.Memory.length ≤ 17179869184) ∧ J37 ((([] : List D.Ins) ++ s0.Code), [], (([] : List Int) ++ s0.Memory), s0.Waiting, s0.Phase, ()))) ∧ True))) ∧ (((((([] : List D.Ins).length + s0.Code.length ≤ 17179869184) ∧ ((((([] : List Int).length + s0.Memory.length ≤ 17179869184) ∧ J37 ((([] : List D.Ins) ++ s0.Code), [], (([] : List Int) ++ s0.Memory), s0.Waiting, s0.Phase, ()))) ∧ (((([] : List Int).length + s0.Memory.length ≤ 17179869184) ∧ J37 ((([] : List D.Ins) ++ s0.Code), [], (([] : List Int) ++ s0.Memory), s0.Waiting, s0.Phase, ()))) ∧ True))) ∧ (((([] : List D.Ins).length + s0.Code.length ≤ 17179869184) ∧ ((([] : List Int).length + s0.Memory.length ≤ 17179869184) ∧ J37 ((([] : List D.Ins) ++ s0.Code), [], (([] : List Int) ++ s0.Memory), s0.Waiting, s0.Phase, ())))) ∧ True)) ∧ (((((([] : List D.Ins).length + s0.Code.length ≤ 17179869184) ∧ ((([] : List Int).length + s0.Memory.length ≤ 17179869184) ∧ J37 ((([] : List D.Ins) ++ s0.Code), [], (([] : List Int) ++ s0.Memory), s0.Waiting, s0.Phase, ())))) ∧ (((([] : List D.Ins).length + s0.Code.length ≤ 17179869184) ∧ ((([] : List Int).length + s0.Memory.length ≤ 17179869184) ∧ J37 ((([] : List D.Ins) ++ s0.Code), [], (([] : List Int) ++ s0.Memory), s0.Waiting, s0.Phase, ())))) ∧ True)) ∧ True)) ∧ (((((((([] : List D.Ins).length + s0.Code.length ≤ 17179869184) ∧ ((((([] : List Int).length + s0.Memory.length ≤ 17179869184) ∧ J37 ((([] : List D.Ins) ++ s0.Code), [], (([] : List Int) ++ s0.Memory), s0.Waiting, s0.Phase, ()))) ∧ (((([] : List Int).length + s0.Memory.length ≤ 17179869184) ∧ J37 ((([] : List D.Ins) ++ s0.Code), [], (([] : List Int) ++ s0.Memory), s0.Waiting, s0.Phase, ()))) ∧ True))) ∧ (((([] : List D.Ins).length + s0.Code.length ≤ 17179869184) ∧ ((([] : List Int).length + s0.Memory.length ≤ 17179869184) ∧ J37 ((([] : List D.Ins) ++ s0.Code), [], (([] : List Int) ++ s0.Memory), s0.Waiting, s0.Phase, ())))) ∧ True)) ∧ (((([] : List D.Ins).length + s0.Code.length ≤ 17179869184) ∧ ((([] : List Int).length + s0.Memory.length ≤ 17179869184) ∧ J37 ((([] : List D.Ins) ++ s0.Code), [], (([] : List Int) ++ s0.Memory), s0.Waiting, s0.Phase, ())))) ∧ True)) ∧ (((((((([] : List D.Ins).length + s0.Code.length ≤ 17179869184) ∧ ((([] : List Int).length + s0.Memory.length ≤ 17179869184) ∧ J37 ((([] : List D.Ins) ++ s0.Code), [], (([] : List Int) ++ s0.Memory), s0.Waiting, s0.Phase, ())))) ∧ (((([] : List D.Ins).length + s0.Code.length ≤ 17179869184) ∧ ((([] : List Int).length + s0.Memory.length ≤ 17179869184) ∧ J37 ((([] : List D.Ins) ++ s0.Code), [], (([] : List Int) ++ s0.Memory), s0.Waiting, s0.Phase, ())))) ∧ True)) ∧ (((([] : List D.Ins).length + s0.Code.length ≤ 17179869184) ∧ ((([] : List Int).length + s0.Memory.length ≤ 17179869184) ∧ J37 ((([] : List D.Ins) ++ s0.Code), [], (([] : List Int) ++ s0.Memory), s0.Waiting, s0.Phase, ())))) ∧ True)) ∧ True)) (fun (p543 : (List D.Ins) × (List D.Warp) × (List Int) × Int × Int × Unit) => match p543 with | (xs25, xs29, xs32, i35, i36, _) => LoopP (σ := Int × (List D.Warp) × Int × Int × Unit) (fun (p539 : Int × (List D.Warp) × Int × Int × Unit) next452 => match p539 with | (i442, xs444, i447, i448, _) => bcase (decide (i442 < (s0.Warps.length : Int))) (((0 ≤ i442 ∧ i442 < (s0.Warps.length : Int)) ∧ (M.spec_l12Copy_pre (rd s0.Warps i442) ∧ ∀ r509, r509 = M.spec_l12Copy (rd s0.Warps i442) → ((xs444.length + ([r509] : List D.Warp).length ≤ 17179869184) ∧ next452 ((wrap .i64 (i442 + 1)), (xs444 ++ ([r509] : List D.Warp)), i447, i448, ()))))) (Q (⟨xs25, xs444, xs32, i447, i448⟩ : D.Block))) (0, xs29, i35, i36, ()))
end Go.V
namespace Go.V
open IntKind (wrap)
theorem newWarp_eq (p : List D.Ins) (n : Int) : bcase (decide ((p.length : Int) > 0)) ((⟨n, [⟨0, (p.length : Int), 255⟩], List.replicate ((32 : Int).toNat) (default : Int)⟩ : D.Warp) = M.newWarp p n) ((⟨n, [], List.replicate ((32 : Int).toNat) (default : Int)⟩ : D.Warp) = M.newWarp p n) := by
 refine bcase_mk (fun e => ?_) fun e => ?_
 ·have e3 : p.length > 0 := by simp only [decide_eq_true_eq] at e; omega
  unfold M.newWarp; rw [if_pos e3]; rfl
 ·have e3 : ¬ p.length > 0 := by simp only [decide_eq_false_iff_not] at e; omega
  unfold M.newWarp; rw [if_neg e3]; rfl
theorem wp.spec_WarpNew.math (p : List D.Ins) (n : Int) (h : M.spec_WarpNew_pre p n) : wp.spec_WarpNew p n (fun r => r = M.spec_WarpNew p n) := by
 refine ⟨h, fun r hr => bcase_mk (fun e => ?_) fun e r2 hr2 => bcase_mk (fun e2 => ?_) fun e2 => ⟨by omega, ?_⟩⟩
 all_goals simp only [M.spec_ProgramOk, M.spec_l01In] at *
 ·simp [M.spec_WarpNew, nt e hr, M.noWarp]
 ·simp [M.spec_WarpNew, nt e2 hr2, M.noWarp]
 ·have hM : M.spec_WarpNew p n = (M.newWarp p n, true) := by simp [M.spec_WarpNew, nf e hr, nf e2 hr2]
  rw [hM]
  have := bcase_iff.1 (newWarp_eq p n)
  exact bcase_mk (fun e3 => by rw [this.1 e3]) fun e3 => by rw [this.2 e3]
theorem joinP_of {σ : Type} {A : (σ → Prop) → Prop} {B : σ → Prop} (v : σ) (h : B v) (hA : ∀ J : σ → Prop, J v → A J) : JoinP A B := hA B h
theorem range_succ_map {α : Type} (g : Nat → α) (k : Nat) : (List.range (k + 1)).map g = (List.range k).map g ++ [g k] := by simp [List.range_succ]
theorem prog_short {p : List D.Ins} (h : M.programOk p = true) : p.length ≤ 32 := by
 simp only [M.programOk, Bool.and_eq_true, decide_eq_true_eq] at h
 exact h.1
theorem wp.spec_BlockNew.math (p : List D.Ins) (c : Int) (h : M.spec_BlockNew_pre p c) : wp.spec_BlockNew p c (fun r => r = M.spec_BlockNew p c) := by
 refine ⟨h, fun r hr => bcase_mk (fun e => ?_) fun e r2 hr2 => bcase_mk (fun e2 => ?_) fun e2 => ?_⟩
 all_goals simp only [M.spec_ProgramOk, M.spec_l01In] at *
 ·simp [M.spec_BlockNew, M.blockNew, nt e hr, M.noBlock]
 ·simp [M.spec_BlockNew, M.blockNew, nt e2 hr2, M.noBlock]
 have h1 := nf e hr
 have h2 := nf e2 hr2
 have h3 := prog_short h1
 have h4 : 1 ≤ c ∧ c ≤ 3 := by simpa [M.isIn] using h2
 have hM : M.spec_BlockNew p c = (M.newBlock p c, true) := by simp [M.spec_BlockNew, M.blockNew, h1, h2]
 rw [hM]
 have hm : (0 ≤ (32 : Int) ∧ (32 : Int) ≤ 17179869184) := by omega
 have hl : ([] : List D.Ins).length + p.length ≤ 17179869184 := by simp; omega
 refine joinP_of (p, [], List.replicate 32 0, 0, 0, ()) ?_ fun J hJ => ?_
 ·refine loop_n c.toNat (fun k => ((k : Int), (List.range k).map (fun j : Nat => M.newWarp p (j : Int)), 0, 0, ())) (fun _ => True) rfl trivial (fun k hk _ next hn => ?_) fun _ next => ?_
  ·refine bcase_t (by simp; omega) ⟨h, fun r hr => ⟨by simp; omega, ?_⟩⟩
   have hin : M.isIn (k : Int) 0 2 = true := by simp [M.isIn]; omega
   have : r = (M.newWarp p (k : Int), true) := by rw [hr]; simp [M.spec_WarpNew, h1, hin]
   rw [up64 hk (by omega), this]
   have := hn trivial
   rwa [range_succ_map] at this
  ·exact bcase_f (by simp; omega) rfl
 ·have hJ' : J ((([] : List D.Ins) ++ p), [], (List.replicate ((32 : Int).toNat) (default : Int)), 0, 0, ()) := hJ
  simp only [and_true]
  simp only [hl, hm, hJ', and_self]
theorem rd_app {α : Type} [Inhabited α] {l m : List α} {y : α} {k : Nat} (h : l.length = k) : rd (l ++ y :: m) (k : Int) = y := by
 subst h
 rw [rd_nat (by simp)]; simp
theorem wp.spec_l12Copy.math (x : D.Warp) (h : M.spec_l12Copy_pre x) : wp.spec_l12Copy x (fun r => r = M.spec_l12Copy x) := by
 obtain ⟨h1, h2⟩ := h
 unfold wp.spec_l12Copy
 simp only [List.nil_append, List.length_nil, Nat.zero_add, h1, h2, true_and, and_true, and_self, M.spec_l12Copy]
theorem wp.spec_l29Copy.math (b : D.Block) (h : M.spec_l29Copy_pre b) : wp.spec_l29Copy b (fun r => r = M.spec_l29Copy b) := by
 obtain ⟨h1, ⟨h2, hW⟩, h3⟩ := h
 unfold wp.spec_l29Copy
 simp only [List.nil_append, List.length_nil, Nat.zero_add]
 refine joinP_of (b.Code, [], b.Memory, b.Waiting, b.Phase, ()) ?_ fun J hJ => by simp only [h1, h3, hJ, true_and, and_true, and_self]
 refine loop_n b.Warps.length (fun k => ((k : Int), b.Warps.take k, b.Waiting, b.Phase, ())) (fun _ => True) rfl trivial (fun k hk _ next hn => ?_) fun _ next => ?_
 ·refine bcase_t (by simp; omega) ⟨by omega, hW _ (rd_mem hk), fun r hr => ⟨by simp; omega, ?_⟩⟩
  rw [up64 hk (by omega), hr]
  have := hn trivial
  rw [List.take_add_one, List.getElem?_eq_getElem hk, Option.toList_some] at this
  rw [rd_nat hk]; exact this
 ·refine bcase_f (by simp) ?_
  rw [List.take_length]; rfl
theorem small_fit {b : D.Block} (h : M.BSmall b) : M.BFit b := by
 obtain ⟨h1, ⟨h2, hW⟩, h3⟩ := h
 exact ⟨by omega, ⟨by omega, fun x hx => by have := hW x hx; unfold M.WSmall at this; unfold M.WFit; omega⟩, by omega⟩
end Go.V
namespace Go.V
open IntKind (wrap)
def wp.spec_ActiveMask (s0 : D.Warp) (Q : Int → Prop) : Prop :=
 bcase ((s0.Frames.length : Int) == 0) (Q 0) (((0 ≤ (wrap .i64 ((s0.Frames.length : Int) - 1)) ∧ (wrap .i64 ((s0.Frames.length : Int) - 1)) < (s0.Frames.length : Int)) ∧ Q ((rd s0.Frames (wrap .i64 ((s0.Frames.length : Int) - 1))).Mask)))
def wp.spec_ZeroMask (s0 : D.Warp) (x1 : Int) (Q : Int → Prop) : Prop :=
 (∀ r23, r23 = M.spec_l04Reg x1 → bcase (!r23) (Q 0) (bcase ((s0.Regs.length : Int) != 32) (Q 0) (LoopP (σ := Int × Int × Unit) (fun (p63 : Int × Int × Unit) next33 => match p63 with | (i28, i29, _) => bcase (decide (i29 < 8)) ((M.spec_ActiveMask_pre s0 ∧ ∀ r35, r35 = M.spec_ActiveMask s0 → (∀ r40, r40 = M.spec_HasLane r35 i29 → bcase r40 (((0 ≤ (wrap .i64 ((wrap .i64 (i29 * 4)) + x1)) ∧ (wrap .i64 ((wrap .i64 (i29 * 4)) + x1)) < (s0.Regs.length : Int)) ∧ bcase ((rd s0.Regs (wrap .i64 ((wrap .i64 (i29 * 4)) + x1))) == 0) (((0 ≤ i29) ∧ next33 ((bitOr .i64 i28 (wrap .i64 (1 * 2 ^ (min (i29.toNat) (IntKind.bits .i64))))), (wrap .i64 (i29 + 1)), ()))) (next33 (i28, (wrap .i64 (i29 + 1)), ())))) (next33 (i28, (wrap .i64 (i29 + 1)), ()))))) (Q i28)) (0, 0, ()))))
def wp.spec_l13Splits (xs0 : List D.Ins) (s1 : D.Warp) (Q : Bool → Prop) : Prop :=
 ((0 ≤ (wrap .i64 ((s1.Frames.length : Int) - 1)) ∧ (wrap .i64 ((s1.Frames.length : Int) - 1)) < (s1.Frames.length : Int)) ∧ ((0 ≤ (rd s1.Frames (wrap .i64 ((s1.Frames.length : Int) - 1))).Pc ∧ (rd s1.Frames (wrap .i64 ((s1.Frames.length : Int) - 1))).Pc < (xs0.length : Int)) ∧ bcase ((rd xs0 ((rd s1.Frames (wrap .i64 ((s1.Frames.length : Int) - 1))).Pc)).Op != 10) (Q false) (((0 ≤ (rd s1.Frames (wrap .i64 ((s1.Frames.length : Int) - 1))).Pc ∧ (rd s1.Frames (wrap .i64 ((s1.Frames.length : Int) - 1))).Pc < (xs0.length : Int)) ∧ bcase ((rd xs0 ((rd s1.Frames (wrap .i64 ((s1.Frames.length : Int) - 1))).Pc)).B == (wrap .i64 ((rd s1.Frames (wrap .i64 ((s1.Frames.length : Int) - 1))).Pc + 1))) (Q false) (((0 ≤ (rd s1.Frames (wrap .i64 ((s1.Frames.length : Int) - 1))).Pc ∧ (rd s1.Frames (wrap .i64 ((s1.Frames.length : Int) - 1))).Pc < (xs0.length : Int)) ∧ (M.spec_ZeroMask_pre s1 ((rd xs0 ((rd s1.Frames (wrap .i64 ((s1.Frames.length : Int) - 1))).Pc)).A) ∧ ∀ r49, r49 = M.spec_ZeroMask s1 ((rd xs0 ((rd s1.Frames (wrap .i64 ((s1.Frames.length : Int) - 1))).Pc)).A) → bcase (r49 != 0) (Q (r49 != (rd s1.Frames (wrap .i64 ((s1.Frames.length : Int) - 1))).Mask)) (Q false))))))))
def wp.spec_l13Local (xs0 : List D.Ins) (s1 : D.Warp) (Q : Bool → Prop) : Prop :=
 bcase ((s1.Frames.length : Int) == 0) (Q false) (((0 ≤ (wrap .i64 ((s1.Frames.length : Int) - 1)) ∧ (wrap .i64 ((s1.Frames.length : Int) - 1)) < (s1.Frames.length : Int)) ∧ ((0 ≤ (rd s1.Frames (wrap .i64 ((s1.Frames.length : Int) - 1))).Pc ∧ (rd s1.Frames (wrap .i64 ((s1.Frames.length : Int) - 1))).Pc < (xs0.length : Int)) ∧ (∀ r33, r33 = M.spec_IsLocal (rd xs0 ((rd s1.Frames (wrap .i64 ((s1.Frames.length : Int) - 1))).Pc)) → bcase (!r33) (Q false) ((M.spec_l13Splits_pre xs0 s1 ∧ ∀ r38, r38 = M.spec_l13Splits xs0 s1 → bcase (!r38) (Q true) (Q (decide ((s1.Frames.length : Int) ≤ 22)))))))))
def wp.spec_l30Can (s0 : D.Block) (x1 : Int) (Q : Bool → Prop) : Prop :=
 ((0 ≤ x1 ∧ x1 < (s0.Warps.length : Int)) ∧ bcase (((rd s0.Warps x1).Frames.length : Int) == 0) (Q false) (((0 ≤ x1) ∧ bcase ((bitAnd .i64 (Int.fdiv s0.Waiting (2 ^ (min (x1.toNat) (IntKind.bits .i64)))) 1) == 1) (Q false) ((M.spec_l30Next_pre s0 x1 ∧ ∀ r44, r44 = M.spec_l30Next s0 x1 → (∀ r53, r53 = M.spec_IsLocal r44 → bcase r53 ((M.spec_l13Local_pre s0.Code (rd s0.Warps x1) ∧ ∀ r58, r58 = M.spec_l13Local s0.Code (rd s0.Warps x1) → Q r58)) (bcase (r44.Op != 16) (Q true) (Q (((rd s0.Warps x1).Frames.length : Int) == 1)))))))))
def wp.spec_CanStep (s0 : D.Block) (x1 : Int) (Q : Bool → Prop) : Prop :=
 (M.spec_l30Ok_pre s0 x1 ∧ ∀ r23, r23 = M.spec_l30Ok s0 x1 → bcase r23 ((M.spec_l30Can_pre s0 x1 ∧ ∀ r28, r28 = M.spec_l30Can s0 x1 → Q r28)) (Q false))
def wp.impl_ActiveMask (s0 : D.Warp) (Q : Int → Prop) : Prop :=
 bcase ((s0.Frames.length : Int) == 0) (Q 0) (((0 ≤ (wrap .i64 ((s0.Frames.length : Int) - 1)) ∧ (wrap .i64 ((s0.Frames.length : Int) - 1)) < (s0.Frames.length : Int)) ∧ Q ((rd s0.Frames (wrap .i64 ((s0.Frames.length : Int) - 1))).Mask)))
def wp.impl_Warp_zeroMask (s0 : D.Warp) (x1 : Int) (Q : Int → Prop) : Prop :=
 (M.impl_ActiveMask_pre s0 ∧ ∀ r23, r23 = M.impl_ActiveMask s0 → (∀ r28, r28 = M.impl_LanesOf r23 → LoopP (σ := Int × Int × Unit) (fun (p64 : Int × Int × Unit) next40 => match p64 with | (i35, i36, _) => bcase (decide (i36 < (r28.length : Int))) (((0 ≤ i36 ∧ i36 < (r28.length : Int)) ∧ (M.impl_Warp_lane_pre s0 (rd r28 i36) ∧ ((0 ≤ x1 ∧ x1 < ((List.drop ((wrap .i64 ((rd r28 i36) * 4)).toNat) (List.take ((wrap .i64 ((wrap .i64 ((rd r28 i36) + 1)) * 4)).toNat) s0.Regs)).length : Int)) ∧ bcase ((rd (List.drop ((wrap .i64 ((rd r28 i36) * 4)).toNat) (List.take ((wrap .i64 ((wrap .i64 ((rd r28 i36) + 1)) * 4)).toNat) s0.Regs)) x1) == 0) (((0 ≤ (rd r28 i36)) ∧ next40 ((bitOr .i64 i35 (wrap .i64 (1 * 2 ^ (min ((rd r28 i36).toNat) (IntKind.bits .i64))))), (wrap .i64 (i36 + 1)), ()))) (next40 (i35, (wrap .i64 (i36 + 1)), ())))))) (Q i35)) (0, 0, ())))
def wp.impl_Warp_splits (s0 : D.Warp) (xs1 : List D.Ins) (Q : Bool → Prop) : Prop :=
 ((0 ≤ (wrap .i64 ((s0.Frames.length : Int) - 1)) ∧ (wrap .i64 ((s0.Frames.length : Int) - 1)) < (s0.Frames.length : Int)) ∧ ((0 ≤ (rd s0.Frames (wrap .i64 ((s0.Frames.length : Int) - 1))).Pc ∧ (rd s0.Frames (wrap .i64 ((s0.Frames.length : Int) - 1))).Pc < (xs1.length : Int)) ∧ bcase ((rd xs1 ((rd s0.Frames (wrap .i64 ((s0.Frames.length : Int) - 1))).Pc)).Op != 10) (Q false) (((0 ≤ (rd s0.Frames (wrap .i64 ((s0.Frames.length : Int) - 1))).Pc ∧ (rd s0.Frames (wrap .i64 ((s0.Frames.length : Int) - 1))).Pc < (xs1.length : Int)) ∧ bcase ((rd xs1 ((rd s0.Frames (wrap .i64 ((s0.Frames.length : Int) - 1))).Pc)).B == (wrap .i64 ((rd s0.Frames (wrap .i64 ((s0.Frames.length : Int) - 1))).Pc + 1))) (Q false) (((0 ≤ (rd s0.Frames (wrap .i64 ((s0.Frames.length : Int) - 1))).Pc ∧ (rd s0.Frames (wrap .i64 ((s0.Frames.length : Int) - 1))).Pc < (xs1.length : Int)) ∧ (M.impl_Warp_zeroMask_pre s0 ((rd xs1 ((rd s0.Frames (wrap .i64 ((s0.Frames.length : Int) - 1))).Pc)).A) ∧ ∀ r44, r44 = M.impl_Warp_zeroMask s0 ((rd xs1 ((rd s0.Frames (wrap .i64 ((s0.Frames.length : Int) - 1))).Pc)).A) → bcase (r44 != 0) ((M.impl_ActiveMask_pre s0 ∧ ∀ r49, r49 = M.impl_ActiveMask s0 → Q (r44 != r49))) (Q false))))))))
def wp.impl_Block_canStep (s0 : D.Block) (x1 : Int) (Q : Bool → Prop) : Prop :=
 (M.impl_Block_nextIns_pre s0 x1 ∧ ∀ r23, r23 = M.impl_Block_nextIns s0 x1 → JoinP (σ := Bool × Unit) (fun J33 => bcase (!r23.2) (J33 (true, ())) ((M.impl_Block_waits_pre s0 x1 ∧ ∀ r36, r36 = M.impl_Block_waits s0 x1 → J33 (r36, ())))) (fun (p126 : Bool × Unit) => match p126 with | (b32, _) => bcase b32 (Q false) (bcase (r23.1.Op == 16) (((0 ≤ x1 ∧ x1 < (s0.Warps.length : Int)) ∧ Q (((rd s0.Warps x1).Frames.length : Int) == 1))) ((∀ r58, r58 = M.impl_IsLocal r23.1 → bcase r58 (((0 ≤ x1 ∧ x1 < (s0.Warps.length : Int)) ∧ (M.impl_Warp_splits_pre (rd s0.Warps x1) s0.Code ∧ ∀ r101, r101 = M.impl_Warp_splits (rd s0.Warps x1) s0.Code → bcase (!r101) (Q true) (((0 ≤ x1 ∧ x1 < (s0.Warps.length : Int)) ∧ Q (decide ((wrap .i64 (((rd s0.Warps x1).Frames.length : Int) + 2)) ≤ 24))))))) (Q true))))))
def wp.impl_CanStep (s0 : D.Block) (x1 : Int) (Q : Bool → Prop) : Prop :=
 (M.impl_hasWarp_pre s0 x1 ∧ ∀ r23, r23 = M.impl_hasWarp s0 x1 → bcase r23 ((M.impl_Block_canStep_pre s0 x1 ∧ ∀ r28, r28 = M.impl_Block_canStep s0 x1 → Q r28)) (Q false))
def wp.spec_l32Pick (s0 : D.Block) (x1 : Int) (Q : Int → Prop) : Prop :=
 ((((s0.Warps.length : Int) : Int) ≠ 0) ∧ LoopP (σ := Int × Unit) (fun (p41 : Int × Unit) next28 => match p41 with | (i24, _) => bcase (decide (i24 < (s0.Warps.length : Int))) (((((s0.Warps.length : Int) : Int) ≠ 0) ∧ (M.spec_l30Can_pre s0 (Int.tmod (wrap .i64 ((Int.tmod x1 (s0.Warps.length : Int)) + i24)) (s0.Warps.length : Int)) ∧ ∀ r31, r31 = M.spec_l30Can s0 (Int.tmod (wrap .i64 ((Int.tmod x1 (s0.Warps.length : Int)) + i24)) (s0.Warps.length : Int)) → bcase r31 (Q (Int.tmod (wrap .i64 ((Int.tmod x1 (s0.Warps.length : Int)) + i24)) (s0.Warps.length : Int))) (next28 ((wrap .i64 (i24 + 1)), ()))))) (Q (-1))) (0, ()))
def wp.impl_IsStuck (s0 : D.Block) (Q : Bool → Prop) : Prop :=
 (M.impl_BlockOk_pre s0 ∧ ∀ r23, r23 = M.impl_BlockOk s0 → bcase (!r23) (Q false) ((M.impl_Block_ended_pre s0 ∧ ∀ r28, r28 = M.impl_Block_ended s0 → bcase r28 (Q false) (LoopP (σ := Int × Unit) (fun (p49 : Int × Unit) next37 => match p49 with | (i33, _) => bcase (decide (i33 < (s0.Warps.length : Int))) ((M.impl_Block_canStep_pre s0 i33 ∧ ∀ r39, r39 = M.impl_Block_canStep s0 i33 → bcase r39 (Q false) (next37 ((wrap .i64 (i33 + 1)), ())))) (Q true)) (0, ())))))
def wp.impl_StuckReason (s0 : D.Block) (Q : ByteArray → Prop) : Prop :=
 (M.impl_IsStuck_pre s0 ∧ ∀ r23, r23 = M.impl_IsStuck s0 → bcase (!r23) (Q (⟨#[]⟩)) (LoopP (σ := Int × Unit) (fun (p44 : Int × Unit) next32 => match p44 with | (i28, _) => bcase (decide (i28 < (s0.Warps.length : Int))) ((M.impl_IsSplitBarrier_pre s0 i28 ∧ ∀ r34, r34 = M.impl_IsSplitBarrier s0 i28 → bcase r34 (Q (⟨#[115, 112, 108, 105, 116]⟩)) (next32 ((wrap .i64 (i28 + 1)), ())))) (Q (⟨#[102, 114, 97, 109, 101, 115]⟩))) (0, ())))
end Go.V
namespace Go.V
open IntKind (wrap)
theorem activeMask_wp {x : D.Warp} (h : M.Long x.Frames) {Q : Int → Prop} (hQ : Q (M.activeMask x)) : bcase ((x.Frames.length : Int) == 0) (Q 0) (((0 ≤ (wrap .i64 ((x.Frames.length : Int) - 1)) ∧ (wrap .i64 ((x.Frames.length : Int) - 1)) < (x.Frames.length : Int)) ∧ Q ((rd x.Frames (wrap .i64 ((x.Frames.length : Int) - 1))).Mask))) := by
 rw [empty_len0]
 refine bcase_mk (fun e => ?_) fun e => ?_
 ·unfold M.activeMask at hQ; rw [if_pos e] at hQ; exact hQ
 ·have hx : x.Frames ≠ [] := by simpa using e
  have hpos : 0 < x.Frames.length := List.length_pos_iff.2 hx
  rw [last_wrap h]
  unfold M.activeMask at hQ
  rw [if_neg (by rw [e]; simp)] at hQ
  exact ⟨by omega, hQ⟩
theorem wp.spec_ActiveMask.math (x : D.Warp) (h : M.spec_ActiveMask_pre x) : wp.spec_ActiveMask x (fun r => r = M.spec_ActiveMask x) := activeMask_wp (Q := fun r => r = M.activeMask x) h rfl
theorem wp.impl_ActiveMask.math (x : D.Warp) (h : M.impl_ActiveMask_pre x) : wp.impl_ActiveMask x (fun r => r = M.impl_ActiveMask x) := activeMask_wp (Q := fun r => r = M.activeMask x) h rfl
theorem zeroMask_range (x : D.Warp) (reg : Int) : M.zeroMask x reg = (List.range 8).foldl (fun m (k : Nat) => if M.hasLane (M.activeMask x) (k : Int) = true then M.zeroStep x reg m (k : Int) else m) 0 := by
 unfold M.zeroMask M.lanesOf
 rw [List.foldl_filter]
 rfl
theorem reg_in {reg k : Int} (hr : M.isReg reg = true) (h0 : 0 ≤ k) (h7 : k ≤ 7) : 0 ≤ k * 4 + reg ∧ k * 4 + reg < 32 := by rw [isReg_iff] at hr; omega
theorem wp.spec_ZeroMask.math (x : D.Warp) (reg : Int) (h : M.spec_ZeroMask_pre x reg) : wp.spec_ZeroMask x reg (fun r => r = M.spec_ZeroMask x reg) := by
 unfold wp.spec_ZeroMask
 simp only [lenB]
 refine fun r hr => bcase_mk (fun e => ?_) fun e => bcase_mk (fun e2 => ?_) fun e2 => ?_
 all_goals simp only [M.spec_l04Reg] at hr
 ·simp [M.spec_ZeroMask, nt e hr]
 ·have : (x.Regs.length == 32) = false := by simpa using e2
  simp [M.spec_ZeroMask, this]
 have hreg := nf e hr
 have h32 : (x.Regs.length == 32) = true := by simpa using e2
 have h32' : x.Regs.length = 32 := by simpa using h32
 have hM : M.spec_ZeroMask x reg = M.zeroMask x reg := by simp [M.spec_ZeroMask, hreg, h32]
 rw [hM, zeroMask_range]
 let F : Nat → Int := fun k => (List.range k).foldl (fun m (k : Nat) => if M.hasLane (M.activeMask x) (k : Int) = true then M.zeroStep x reg m (k : Int) else m) 0
 have hF : ∀ k, F (k + 1) = if M.hasLane (M.activeMask x) (k : Int) = true then M.zeroStep x reg (F k) (k : Int) else F k := fun k => by simp [F, List.range_succ]
 refine loop_n 8 (fun k => (F k, (k : Int), ())) (fun _ => True) rfl trivial (fun k hk _ next hn => ?_) fun _ next => bcase_f (by simp) rfl
 have hn := hn trivial
 rw [hF] at hn
 have hw : wrap .i64 (wrap .i64 ((k : Int) * 4) + reg) = (k : Int) * 4 + reg := by
  have := reg_in hreg (k := (k : Int)) (by omega) (by omega)
  rw [w64 (x := (k : Int) * 4) (by omega) (by omega), w64 (by omega) (by omega)]
 have hin := reg_in hreg (k := (k : Int)) (by omega) (by omega)
 refine bcase_t (by simp; omega) ⟨h, fun r2 hr2 r3 hr3 => bcase_mk (fun e3 => ?_) fun e3 => ?_⟩
 all_goals simp only [M.spec_ActiveMask] at hr2
 all_goals simp only [M.spec_HasLane, hr2] at hr3
 ·rw [hw, h32']
  rw [if_pos (hr3.symm.trans e3)] at hn
  refine ⟨⟨hin.1, by omega⟩, bcase_mk (fun e4 => ⟨Int.natCast_nonneg k, ?_⟩) fun e4 => ?_⟩
  ·have e4 : rd x.Regs ((k : Int) * 4 + reg) = 0 := by simpa using e4
   unfold M.zeroStep at hn
   rw [if_pos e4] at hn
   rw [up64 (n := 8) hk (by omega)]; exact hn
  ·have e4 : ¬ rd x.Regs ((k : Int) * 4 + reg) = 0 := by simpa using e4
   unfold M.zeroStep at hn
   rw [if_neg e4] at hn
   rw [up64 (n := 8) hk (by omega)]; exact hn
 ·have e3 : ¬ M.hasLane (M.activeMask x) (k : Int) = true := by rw [← hr3, e3]; simp
  rw [if_neg e3] at hn
  rw [up64 (n := 8) hk (by omega)]; exact hn
theorem lanes_in {m l : Int} (h : l ∈ M.lanesOf m) : 0 ≤ l ∧ l ≤ 7 := by
 have := (List.mem_filter.1 h).1
 simp only [List.mem_cons, List.not_mem_nil, or_false] at this
 omega
theorem lanes_len (m : Int) : (M.lanesOf m).length ≤ 8 := by
 have := List.length_filter_le (M.hasLane m) [0, 1, 2, 3, 4, 5, 6, 7]
 exact this
theorem rd_cut {α : Type} [Inhabited α] {l : List α} {a b : Nat} {i : Int} (h0 : 0 ≤ i) (hi : a + i.toNat < b) (hb : b ≤ l.length) : rd ((l.take b).drop a) i = rd l ((a : Int) + i) := by
 have e : ((a : Int) + i).toNat = a + i.toNat := by omega
 unfold rd
 rw [e, List.getD_eq_getElem?_getD, List.getD_eq_getElem?_getD, List.getElem?_drop, List.getElem?_take, if_pos hi]
theorem wp.impl_Warp_zeroMask.math (x : D.Warp) (reg : Int) (h : M.impl_Warp_zeroMask_pre x reg) : wp.impl_Warp_zeroMask x reg (fun r => r = M.impl_Warp_zeroMask x reg) := by
 obtain ⟨h1, h32, hreg⟩ := h
 refine ⟨h1, fun r hr r2 hr2 => ?_⟩
 have hr2' : r2 = M.lanesOf (M.activeMask x) := by rw [hr2, hr]; rfl
 show LoopP _ _
 have hl := lanes_len (M.activeMask x)
 have hmem : ∀ k : Nat, k < r2.length → 0 ≤ rd r2 (k : Int) ∧ rd r2 (k : Int) ≤ 7 := fun k hk => lanes_in (m := M.activeMask x) (by rw [← hr2']; exact rd_mem hk)
 have hM : M.impl_Warp_zeroMask x reg = r2.foldl (M.zeroStep x reg) 0 := by rw [hr2']; rfl
 rw [hM]
 have hlen : r2.length ≤ 8 := by rw [hr2']; exact hl
 clear hr2 hr2' hM
 refine loop_n r2.length (fun k => ((r2.take k).foldl (M.zeroStep x reg) 0, (k : Int), ())) (fun _ => True) rfl trivial (fun k hk _ next hn => ?_) fun _ next => bcase_f (by simp) (by rw [List.take_length])
 have hn := hn trivial
 rw [List.take_add_one, List.getElem?_eq_getElem hk, Option.toList_some, List.foldl_append, ← rd_nat hk] at hn
 simp only [List.foldl_cons, List.foldl_nil] at hn
 have hm := hmem k hk
 dsimp only
 generalize rd r2 (k : Int) = l at *
 have hin := reg_in hreg hm.1 hm.2
 rw [isReg_iff] at hreg
 have a1 : wrap .i64 (l * 4) = l * 4 := w64 (by omega) (by omega)
 have a2 : wrap .i64 ((wrap .i64 (l + 1)) * 4) = l * 4 + 4 := by rw [w64 (x := l + 1) (by omega) (by omega), w64 (by omega) (by omega)]; omega
 rw [a1, a2]
 have hc : rd ((x.Regs.take (l * 4 + 4).toNat).drop (l * 4).toNat) reg = rd x.Regs (l * 4 + reg) := by
  rw [rd_cut hreg.1 (by omega) (by omega)]
  congr 1; omega
 rw [hc, up64 hk (by omega)]
 refine bcase_t (by simp; omega) ⟨by omega, ⟨h32, hm⟩, ⟨by omega, by simp; omega⟩, bcase_mk (fun e => ⟨by omega, ?_⟩) fun e => ?_⟩
 ·have e : rd x.Regs (l * 4 + reg) = 0 := by simpa using e
  unfold M.zeroStep at hn
  rw [if_pos e] at hn
  exact hn
 ·have e : ¬ rd x.Regs (l * 4 + reg) = 0 := by simpa using e
  unfold M.zeroStep at hn
  rw [if_neg e] at hn
  exact hn
theorem runs_top {p : List D.Ins} {x : D.Warp} (h : M.Runs p x) : p.length ≤ 32 ∧ 0 < x.Frames.length ∧ x.Frames.length ≤ 24 ∧ x.Regs.length = 32 ∧ 0 ≤ M.topPc x ∧ M.topPc x < (p.length : Int) ∧ M.insOk (M.topIns p x) p.length = true ∧ 0 ≤ x.Number ∧ x.Number ≤ 2 := by
 obtain ⟨hp, hw, hx⟩ := h
 obtain ⟨k1, k2, k3⟩ := frames_last hw hx
 have hp' := hp
 simp only [M.programOk, Bool.and_eq_true, decide_eq_true_eq, List.all_eq_true] at hp
 simp only [M.warpOf, Bool.and_eq_true, M.isIn, decide_eq_true_eq, beq_iff_eq] at hw
 exact ⟨hp.1, List.length_pos_iff.2 hx, k1, hw.2.1, k2, k3, hp.2 _ (rd_of k2 k3), hw.1.1, hw.1.2⟩
theorem zero_reg {i : D.Ins} {n : Int} (h : M.insOk i n = true) (e : i.Op = 10) : M.isReg i.A = true := by
 simp only [M.insOk, Bool.and_eq_true] at h
 have h := h.2
 rw [if_neg (by omega), if_neg (by omega), if_neg (by omega), if_neg (by omega), if_pos e] at h
 simp only [Bool.and_eq_true] at h
 exact h.1
theorem activeMask_top {x : D.Warp} (h : x.Frames ≠ []) : M.activeMask x = (M.lastF x.Frames).Mask := by
 unfold M.activeMask
 rw [if_neg (by simpa using h)]
theorem wp.spec_l13Splits.math (p : List D.Ins) (x : D.Warp) (h : M.spec_l13Splits_pre p x) : wp.spec_l13Splits p x (fun r => r = M.spec_l13Splits p x) := by
 obtain ⟨t1, t2, t3, t4, t5, t6, t7, _⟩ := runs_top h
 unfold wp.spec_l13Splits
 rw [last_wrap (by omega)]
 change (_ ∧ _) ∧ (0 ≤ M.topPc x ∧ M.topPc x < _) ∧ bcase ((M.topIns p x).Op != 10) _ ((0 ≤ M.topPc x ∧ M.topPc x < _) ∧ bcase ((M.topIns p x).B == wrap .i64 (M.topPc x + 1)) _ ((0 ≤ M.topPc x ∧ M.topPc x < _) ∧ (M.spec_ZeroMask_pre x (M.topIns p x).A ∧ ∀ r, r = M.spec_ZeroMask x (M.topIns p x).A → bcase (r != 0) ((r != (M.lastF x.Frames).Mask) = _) _)))
 rw [w64 (x := M.topPc x + 1) (by omega) (by omega)]
 refine ⟨by omega, ⟨t5, t6⟩, bcase_mk (fun e => ?_) fun e => ⟨⟨t5, t6⟩, bcase_mk (fun e2 => ?_) fun e2 => ⟨⟨t5, t6⟩, by show x.Frames.length ≤ 9223372036854775807; omega, fun r hr => bcase_mk (fun e3 => ?_) fun e3 => ?_⟩⟩⟩
 ·have e : ¬ (M.topIns p x).Op = 10 := by simpa using e
  simp [M.spec_l13Splits, M.splits, e]
 ·have e2 : (M.topIns p x).B = M.topPc x + 1 := by simpa using e2
  simp [M.spec_l13Splits, M.splits, e2]
 all_goals
  have e : (M.topIns p x).Op = 10 := by simpa using e
  have e2 : ¬ (M.topIns p x).B = M.topPc x + 1 := by simpa using e2
  have hz : r = M.zeroMask x (M.topIns p x).A := by
   rw [hr]
   simp [M.spec_ZeroMask, zero_reg t7 e, t4]
  rw [hz] at e3
  try rw [hz]
 ·simp only [M.spec_l13Splits, M.splits, e, e3, Bool.true_and]
  have : ((M.topIns p x).B != M.topPc x + 1) = true := by simpa using e2
  rw [this]; rfl
 ·simp only [M.spec_l13Splits, M.splits, e3, Bool.false_and, Bool.and_false]
theorem wp.impl_Warp_splits.math (x : D.Warp) (p : List D.Ins) (h : M.impl_Warp_splits_pre x p) : wp.impl_Warp_splits x p (fun r => r = M.impl_Warp_splits x p) := by
 obtain ⟨t1, t2, t3, t4, t5, t6, t7, _⟩ := runs_top h
 have hL : M.Long x.Frames := by unfold M.Long; omega
 unfold wp.impl_Warp_splits
 rw [last_wrap (by omega)]
 change (_ ∧ _) ∧ (0 ≤ M.topPc x ∧ M.topPc x < _) ∧ bcase ((M.topIns p x).Op != 10) _ ((0 ≤ M.topPc x ∧ M.topPc x < _) ∧ bcase ((M.topIns p x).B == wrap .i64 (M.topPc x + 1)) _ ((0 ≤ M.topPc x ∧ M.topPc x < _) ∧ (M.impl_Warp_zeroMask_pre x (M.topIns p x).A ∧ ∀ r, r = M.impl_Warp_zeroMask x (M.topIns p x).A → bcase (r != 0) (M.impl_ActiveMask_pre x ∧ ∀ r49, r49 = M.impl_ActiveMask x → (r != r49) = _) _)))
 rw [w64 (x := M.topPc x + 1) (by omega) (by omega)]
 refine ⟨by omega, ⟨t5, t6⟩, bcase_mk (fun e => ?_) fun e => ⟨⟨t5, t6⟩, bcase_mk (fun e2 => ?_) fun e2 => ⟨⟨t5, t6⟩, ⟨hL, t4, zero_reg t7 (by simpa using e)⟩, fun r hr => bcase_mk (fun e3 => ⟨hL, fun r4 hr4 => ?_⟩) fun e3 => ?_⟩⟩⟩
 ·have e : ¬ (M.topIns p x).Op = 10 := by simpa using e
  simp [M.impl_Warp_splits, M.splits, e]
 ·have e2 : (M.topIns p x).B = M.topPc x + 1 := by simpa using e2
  simp [M.impl_Warp_splits, M.splits, e2]
 all_goals
  have e : (M.topIns p x).Op = 10 := by simpa using e
  have e2 : ¬ (M.topIns p x).B = M.topPc x + 1 := by simpa using e2
  have hz : r = M.zeroMask x (M.topIns p x).A := hr
  rw [hz] at e3
  try rw [hz]
 ·have hr4' : r4 = (M.lastF x.Frames).Mask := by rw [hr4]; exact activeMask_top h.2.2
  rw [hr4']
  simp only [M.impl_Warp_splits, M.splits, e, e3, Bool.true_and]
  have : ((M.topIns p x).B != M.topPc x + 1) = true := by simpa using e2
  rw [this]; rfl
 ·simp only [M.impl_Warp_splits, M.splits, e3, Bool.false_and, Bool.and_false]
theorem wp.spec_l13Local.math (p : List D.Ins) (x : D.Warp) (h : M.spec_l13Local_pre p x) : wp.spec_l13Local p x (fun r => r = M.spec_l13Local p x) := by
 unfold wp.spec_l13Local
 rw [empty_len0]
 refine bcase_mk (fun e => ?_) fun e => ?_
 ·simp [M.spec_l13Local, e]
 have hx : x.Frames ≠ [] := by simpa using e
 obtain ⟨t1, t2, t3, t4, t5, t6, t7, _⟩ := runs_top ⟨h.1, h.2, hx⟩
 rw [last_wrap (by omega)]
 refine ⟨by omega, ⟨t5, t6⟩, fun r hr => bcase_mk (fun e2 => ?_) fun e2 => ⟨⟨h.1, h.2, hx⟩, fun r2 hr2 => bcase_mk (fun e3 => ?_) fun e3 => ?_⟩⟩
 all_goals have hr' : r = M.isLocal (M.topIns p x) := hr
 ·have := nt e2 hr'
  simp [M.spec_l13Local, this]
 ·have := nt e3 (show r2 = M.splits p x from hr2)
  simp [M.spec_l13Local, e, nf e2 hr', this]
 ·have := nf e3 (show r2 = M.splits p x from hr2)
  simp only [M.spec_l13Local, e, nf e2 hr', this, Bool.not_false, Bool.not_true, Bool.true_and, Bool.false_or]
  congr 1; exact propext (by omega)
theorem has_runs {b : D.Block} {w : Int} (h : M.Has b w) (hx : (rd b.Warps w).Frames ≠ []) : M.Runs b.Code (rd b.Warps w) := by
 obtain ⟨_, _, hp, hw, _⟩ := has_warp h
 exact ⟨hp, hw, hx⟩
theorem one_len {α : Type} {l : List α} : ((l.length : Int) == 1) = (l.length == 1) := by
 rw [Bool.eq_iff_iff]; simp; omega
theorem wp.spec_l30Can.math (b : D.Block) (w : Int) (h : M.spec_l30Can_pre b w) : wp.spec_l30Can b w (fun r => r = M.spec_l30Can b w) := by
 obtain ⟨h0, h1, hp, hw, hn, hok⟩ := has_warp h
 unfold wp.spec_l30Can
 rw [empty_len0, one_len]
 refine ⟨⟨h0, h1⟩, bcase_mk (fun e => ?_) fun e => ⟨h0, bcase_mk (fun e2 => ?_) fun e2 => ?_⟩⟩
 ·simp [M.spec_l30Can, M.canGo, e]
 ·have : M.waits b w = true := e2
  simp [M.spec_l30Can, M.canGo, this]
 have hx : (rd b.Warps w).Frames ≠ [] := by simpa using e
 have e2 : M.waits b w = false := e2
 refine ⟨⟨h, hx⟩, fun r hr r2 hr2 => bcase_mk (fun e3 => ⟨⟨hp, hw⟩, fun r3 hr3 => ?_⟩) fun e3 => bcase_mk (fun e4 => ?_) fun e4 => ?_⟩
 all_goals
  have hr' : r = M.topIns b.Code (rd b.Warps w) := hr
  have hr2' : r2 = M.isLocal (M.topIns b.Code (rd b.Warps w)) := by rw [hr2, hr']; rfl
 ·have hl := hr2'.symm.trans e3
  rw [hr3]
  simp only [M.spec_l13Local, M.spec_l30Can, M.canGo, e, e2, hl, if_true, Bool.not_false, Bool.true_and]
 ·have hl := hr2'.symm.trans e3
  rw [hr'] at e4
  simp [M.spec_l30Can, M.canGo, e, e2, hl, e4]
 ·have hl := hr2'.symm.trans e3
  rw [hr'] at e4
  simp [M.spec_l30Can, M.canGo, e, e2, hl, e4]
theorem wp.impl_Block_canStep.math (b : D.Block) (w : Int) (h : M.impl_Block_canStep_pre b w) : wp.impl_Block_canStep b w (fun r => r = M.impl_Block_canStep b w) := by
 obtain ⟨h0, h1, hp, hw, hn, hok⟩ := has_warp h
 refine ⟨h, fun r hr => ?_⟩
 by_cases e : (rd b.Warps w).Frames.isEmpty = true
 ·have hr' : r = (⟨0, 0, 0, 0⟩, false) := by rw [hr]; simp [M.impl_Block_nextIns, e]
  rw [hr']
  unfold JoinP
  refine bcase_t rfl (bcase_t rfl ?_)
  simp [M.impl_Block_canStep, M.canGo, e]
 have e : (rd b.Warps w).Frames.isEmpty = false := by simpa using e
 have hx : (rd b.Warps w).Frames ≠ [] := by simpa using e
 have hr' : r = (M.topIns b.Code (rd b.Warps w), true) := by
  rw [hr]; simp only [M.impl_Block_nextIns]; rw [if_neg (by rw [e]; simp)]; rfl
 have hruns := has_runs h hx
 obtain ⟨t1, t2, t3, t4, t5, t6, t7, _⟩ := runs_top hruns
 rw [hr']
 unfold JoinP
 refine bcase_f rfl ⟨h0, fun r2 hr2 => ?_⟩
 have hr2' : r2 = M.waits b w := hr2
 refine bcase_mk (fun e2 => ?_) fun e2 => bcase_mk (fun e3 => ?_) fun e3 => ?_
 ·have := hr2'.symm.trans e2
  simp [M.impl_Block_canStep, M.canGo, this]
 ·have e2 := hr2'.symm.trans e2
  have e3 : (M.topIns b.Code (rd b.Warps w)).Op = 16 := by simpa using e3
  have hl : M.isLocal (M.topIns b.Code (rd b.Warps w)) = false := by simp [M.isLocal, M.isIn, e3]
  refine ⟨⟨h0, h1⟩, ?_⟩
  rw [one_len]
  simp only [M.impl_Block_canStep, M.canGo, e, e2, hl, e3, Bool.not_false, Bool.true_and, bne_self_eq_false, Bool.false_or, Bool.false_eq_true, if_false]
 ·have e2 := hr2'.symm.trans e2
  have e3 : ¬ (M.topIns b.Code (rd b.Warps w)).Op = 16 := by simpa using e3
  intro r3 hr3
  refine bcase_mk (fun e4 => ⟨⟨h0, h1⟩, hruns, fun r4 hr4 => bcase_mk (fun e5 => ?_) fun e5 => ⟨⟨h0, h1⟩, ?_⟩⟩) fun e4 => ?_
  ·have e4 := (show r3 = M.isLocal (M.topIns b.Code (rd b.Warps w)) from hr3).symm.trans e4
   have := nt e5 (show r4 = M.splits b.Code (rd b.Warps w) from hr4)
   simp [M.impl_Block_canStep, M.canGo, e, e2, e4, this]
  ·have e4 := (show r3 = M.isLocal (M.topIns b.Code (rd b.Warps w)) from hr3).symm.trans e4
   have := nf e5 (show r4 = M.splits b.Code (rd b.Warps w) from hr4)
   rw [w64 (by omega) (by omega)]
   simp only [M.impl_Block_canStep, M.canGo, e, e2, e4, this, Bool.not_false, Bool.not_true, Bool.true_and, Bool.false_or, if_true]
   congr 1; exact propext (by omega)
  ·have e4 := (show r3 = M.isLocal (M.topIns b.Code (rd b.Warps w)) from hr3).symm.trans e4
   simp [M.impl_Block_canStep, M.canGo, e, e2, e4, e3]
theorem wp.spec_CanStep.math (b : D.Block) (w : Int) (h : M.spec_CanStep_pre b w) : wp.spec_CanStep b w (fun r => r = M.spec_CanStep b w) := by
 refine ⟨h, fun r hr => bcase_mk (fun e => ⟨⟨h, hr.symm.trans e⟩, fun r2 hr2 => ?_⟩) fun e => ?_⟩
 all_goals have hr' : r = M.hasWarp b w := hr
 ·rw [hr2]; simp [M.spec_CanStep, M.canStep, ← hr', e, M.spec_l30Can]
 ·simp [M.spec_CanStep, M.canStep, ← hr', e]
theorem wp.impl_CanStep.math (b : D.Block) (w : Int) (h : M.impl_CanStep_pre b w) : wp.impl_CanStep b w (fun r => r = M.impl_CanStep b w) := by
 refine ⟨h, fun r hr => bcase_mk (fun e => ⟨⟨h, hr.symm.trans e⟩, fun r2 hr2 => ?_⟩) fun e => ?_⟩
 all_goals have hr' : r = M.hasWarp b w := hr
 ·rw [hr2]; simp [M.impl_CanStep, M.canStep, ← hr', e, M.impl_Block_canStep]
 ·simp [M.impl_CanStep, M.canStep, ← hr', e]
theorem good_count {b : D.Block} (h : M.Good b) : 1 ≤ b.Warps.length ∧ b.Warps.length ≤ 3 := by
 have := h.2
 simp only [M.blockOk, Bool.and_eq_true, M.isIn, decide_eq_true_eq] at this
 omega
theorem good_has {b : D.Block} (h : M.Good b) {w : Int} (h0 : 0 ≤ w) (h1 : w < (b.Warps.length : Int)) : M.Has b w := by
 have hc := good_count h
 refine ⟨h.1, ?_⟩
 simp only [M.hasWarp, h.2, Bool.true_and, M.isIn, last_wrap (n := b.Warps.length) (by omega), Bool.and_eq_true, decide_eq_true_eq]
 omega
theorem tmod_in2 {x n : Int} (hx : 0 ≤ x) (hn : 0 < n) : 0 ≤ Int.tmod x n ∧ Int.tmod x n < n :=
 ⟨Int.tmod_nonneg _ hx, Int.tmod_lt_of_pos _ hn⟩
theorem pick_loop {b : D.Block} (h : M.Good b) {q : Int} (h0 : 0 ≤ q) (hq : q ≤ 9223372036854775807) {B : (Int × Unit) → ((Int × Unit) → Prop) → Prop} {Q : Int → Prop} (hQ : Q (M.pick b q))
    (hb : ∀ (k : Nat) (next : (Int × Unit) → Prop), k < b.Warps.length → M.Has b (Int.tmod (Int.tmod q b.Warps.length + k) b.Warps.length) → (M.canGo b (Int.tmod (Int.tmod q b.Warps.length + k) b.Warps.length) = true → Q (Int.tmod (Int.tmod q b.Warps.length + k) b.Warps.length)) →
     (M.canGo b (Int.tmod (Int.tmod q b.Warps.length + k) b.Warps.length) = false → next (((k + 1 : Nat) : Int), ())) → wrap .i64 (Int.tmod q b.Warps.length + k) = Int.tmod q b.Warps.length + k → B ((k : Int), ()) next)
    (he : ∀ next : (Int × Unit) → Prop, Q (-1) → B ((b.Warps.length : Int), ()) next) : LoopP B (0, ()) := by
 have hc := good_count h
 have ht := tmod_in2 (x := q) (n := b.Warps.length) h0 (by omega)
 refine loop_n b.Warps.length (fun k => ((k : Int), ())) (fun k => M.pick b q = M.pickFrom b b.Warps.length (Int.tmod q b.Warps.length) (b.Warps.length - k) (k : Int)) rfl rfl (fun k hk hF next hn => ?_) fun hF next => ?_
 ·rw [show b.Warps.length - k = (b.Warps.length - (k + 1)) + 1 by omega, M.pickFrom] at hF
  have ht2 := tmod_in2 (x := Int.tmod q b.Warps.length + k) (n := b.Warps.length) (by omega) (by omega)
  refine hb k next hk (good_has h ht2.1 ht2.2) (fun e => ?_) (fun e => hn ?_) (w64 (by omega) (by omega))
  ·rw [if_pos e] at hF; rw [← hF]; exact hQ
  ·rw [if_neg (by rw [e]; simp)] at hF; rw [hF]; rfl
 ·refine he next ?_
  rw [Nat.sub_self, M.pickFrom] at hF
  rw [← hF]; exact hQ
theorem wp.spec_l32Pick.math (b : D.Block) (q : Int) (h : M.spec_l32Pick_pre b q) : wp.spec_l32Pick b q (fun r => r = M.spec_l32Pick b q) := by
 obtain ⟨hg, h0, hq⟩ := h
 have hc := good_count hg
 refine ⟨by omega, pick_loop hg h0 hq (Q := fun r => r = M.pick b q) rfl (fun k next hk hh h1 h2 hw => ?_) fun next hh => bcase_f (by simp) hh⟩
 refine bcase_t (by simp; omega) ⟨by omega, ?_⟩
 simp only [hw]
 refine ⟨hh, fun r hr => bcase_mk (fun e => h1 (hr.symm.trans e)) fun e => ?_⟩
 rw [up64 hk (by omega)]; exact h2 (hr.symm.trans e)
theorem warps_all {b : D.Block} (hl : b.Warps.length ≤ 3) {g : Nat → Bool} {B : (Int × Unit) → ((Int × Unit) → Prop) → Prop}
    (hb : ∀ (k : Nat) (next : (Int × Unit) → Prop), k < b.Warps.length → (g k = false → (List.range b.Warps.length).all g = false) → (g k = true → next (((k + 1 : Nat) : Int), ())) → B ((k : Int), ()) next)
    (he : ∀ next : (Int × Unit) → Prop, (List.range b.Warps.length).all g = true → B ((b.Warps.length : Int), ()) next) : LoopP B (0, ()) := by
 refine loop_n b.Warps.length (fun k => ((k : Int), ())) (fun k => (List.range k).all g = true) rfl rfl (fun k hk hF next hn => ?_) fun hF next => he next hF
 refine hb k next hk (fun e => ?_) fun e => hn (by rw [List.range_succ, List.all_append, hF]; simp [e])
 refine Bool.eq_false_iff.2 fun hh => ?_
 rw [List.all_eq_true] at hh
 have := hh k (List.mem_range.2 hk)
 rw [e] at this; cases this
theorem wp.impl_IsStuck.math (b : D.Block) (h : M.impl_IsStuck_pre b) : wp.impl_IsStuck b (fun r => r = M.impl_IsStuck b) := by
 refine ⟨h, fun r hr => bcase_mk (fun e => ?_) fun e => ⟨h.2.1.1, fun r2 hr2 => bcase_mk (fun e2 => ?_) fun e2 => ?_⟩⟩
 ·simp [M.impl_IsStuck, M.isStuck, nt e (show r = M.blockOk b from hr)]
 ·have := (show r2 = M.ended b from hr2).symm.trans e2
  simp [M.impl_IsStuck, M.isStuck, this]
 ·have e := nf e (show r = M.blockOk b from hr)
  have e2 := (show r2 = M.ended b from hr2).symm.trans e2
  have hg : M.Good b := ⟨h, e⟩
  have hc := good_count hg
  have hM : M.impl_IsStuck b = (List.range b.Warps.length).all fun k : Nat => !M.canGo b (k : Int) := by simp only [M.impl_IsStuck, M.isStuck, e, e2, Bool.true_and, Bool.not_false]
  rw [hM]
  refine warps_all hc.2 (g := fun k : Nat => !M.canGo b (k : Int)) (fun k next hk h1 h2 => ?_) fun next hh => bcase_f (by simp) hh.symm
  refine bcase_t (by simp; omega) ⟨good_has hg (by omega) (by omega), fun r3 hr3 => bcase_mk (fun e3 => (h1 ?_).symm) fun e3 => ?_⟩
  ·have := (show r3 = M.canGo b (k : Int) from hr3).symm.trans e3
   simp [this]
  ·have := (show r3 = M.canGo b (k : Int) from hr3).symm.trans e3
   rw [up64 hk (by omega)]; exact h2 (by simp [this])
theorem stuck_good {b : D.Block} (h : M.BLong b) (e : M.isStuck b = true) : M.Good b := by
 simp only [M.isStuck, Bool.and_eq_true] at e
 exact ⟨h, e.1⟩
theorem wp.impl_StuckReason.math (b : D.Block) (h : M.impl_StuckReason_pre b) : wp.impl_StuckReason b (fun r => r = M.impl_StuckReason b) := by
 refine ⟨h, fun r hr => bcase_mk (fun e => ?_) fun e => ?_⟩
 ·have := nt e (show r = M.isStuck b from hr)
  simp [M.impl_StuckReason, M.stuckReason, this]
 ·have e := nf e (show r = M.isStuck b from hr)
  have hc := good_count (stuck_good h e)
  refine warps_all hc.2 (g := fun k : Nat => !M.isSplitBarrier b (k : Int)) (fun k next hk h1 h2 => ?_) fun next hh => bcase_f (by simp) ?_
  ·refine bcase_t (by simp; omega) ⟨h, fun r3 hr3 => bcase_mk (fun e3 => ?_) fun e3 => ?_⟩
   ·have e3 := (show r3 = M.isSplitBarrier b (k : Int) from hr3).symm.trans e3
    have := h1 (by simp [e3])
    simp only [M.impl_StuckReason, M.stuckReason, e, this, if_true, Bool.false_eq_true, if_false]
   ·have e3 := (show r3 = M.isSplitBarrier b (k : Int) from hr3).symm.trans e3
    rw [up64 hk (by omega)]; exact h2 (by simp [e3])
  ·simp only [M.impl_StuckReason, M.stuckReason, e, hh, if_true]
end Go.V
namespace Go.V
open IntKind (wrap)
def wp.spec_l08Others (xs0 : List Int) (x1 : Int) (Q : (List Int) → Prop) : Prop :=
 LoopP (σ := (List Int) × Int × Unit) (fun (p59 : (List Int) × Int × Unit) next31 => match p59 with | (xs24, i27, _) => bcase (decide (i27 < (xs0.length : Int))) (((0 ≤ i27 ∧ i27 < (xs0.length : Int)) ∧ bcase ((rd xs0 i27) != x1) (((0 ≤ i27 ∧ i27 < (xs0.length : Int)) ∧ ((xs24.length + ([(rd xs0 i27)] : List Int).length ≤ 17179869184) ∧ next31 ((xs24 ++ ([(rd xs0 i27)] : List Int)), (wrap .i64 (i27 + 1)), ())))) (next31 (xs24, (wrap .i64 (i27 + 1)), ())))) (Q xs24)) (([] : List Int), 0, ())
def wp.spec_l07Ok (xs0 : List D.Ins) (x1 : Int) (Q : Bool → Prop) : Prop :=
 (M.spec_ProgramOk_pre xs0 ∧ ∀ r21, r21 = M.spec_ProgramOk xs0 → bcase r21 ((∀ r26, r26 = M.spec_l01In x1 0 (xs0.length : Int) → Q r26)) (Q false))
def wp.spec_l04Put (xs0 : List Int) (x1 : Int) (Q : (List Int) → Prop) : Prop :=
 JoinP (σ := Int × Unit) (fun J22 => LoopP (σ := Int × Unit) (fun (p41 : Int × Unit) next29 => match p41 with | (i25, _) => bcase (decide (i25 > 0)) (((0 ≤ (wrap .i64 (i25 - 1)) ∧ (wrap .i64 (i25 - 1)) < (xs0.length : Int)) ∧ bcase (decide ((rd xs0 (wrap .i64 (i25 - 1))) > x1)) (next29 ((wrap .i64 (i25 - 1)), ())) (J22 (i25, ())))) (J22 (i25, ()))) ((xs0.length : Int), ())) (fun (p82 : Int × Unit) => match p82 with | (i21, _) => JoinP (σ := Unit) (fun J45 => bcase (decide (i21 > 0)) (((0 ≤ (wrap .i64 (i21 - 1)) ∧ (wrap .i64 (i21 - 1)) < (xs0.length : Int)) ∧ bcase ((rd xs0 (wrap .i64 (i21 - 1))) == x1) (Q xs0) (J45 (())))) (J45 (()))) (fun (p80 : Unit) => match p80 with | (_) => ((0 ≤ i21 ∧ i21 ≤ (xs0.length : Int)) ∧ ((([] : List Int).length + (List.take (i21.toNat) xs0).length ≤ 17179869184) ∧ (((([] : List Int) ++ (List.take (i21.toNat) xs0)).length + ([x1] : List Int).length ≤ 17179869184) ∧ ((0 ≤ i21 ∧ i21 ≤ (xs0.length : Int)) ∧ ((((([] : List Int) ++ (List.take (i21.toNat) xs0)) ++ ([x1] : List Int)).length + (List.drop (i21.toNat) xs0).length ≤ 17179869184) ∧ Q (((([] : List Int) ++ (List.take (i21.toNat) xs0)) ++ ([x1] : List Int)) ++ (List.drop (i21.toNat) xs0)))))))))
def wp.spec_l07Next (xs0 : List D.Ins) (x1 : Int) (Q : (List Int) → Prop) : Prop :=
 bcase (x1 == (xs0.length : Int)) (Q ([] : List Int)) (((0 ≤ x1 ∧ x1 < (xs0.length : Int)) ∧ bcase ((rd xs0 x1).Op == 12) (Q ([(xs0.length : Int)] : List Int)) (bcase ((rd xs0 x1).Op == 11) (((0 ≤ x1 ∧ x1 < (xs0.length : Int)) ∧ Q ([(rd xs0 x1).B] : List Int))) (bcase ((rd xs0 x1).Op == 10) (((0 ≤ x1 ∧ x1 < (xs0.length : Int)) ∧ (M.spec_l04Put_pre ([(wrap .i64 (x1 + 1))] : List Int) ((rd xs0 x1).B) ∧ ∀ r48, r48 = M.spec_l04Put ([(wrap .i64 (x1 + 1))] : List Int) ((rd xs0 x1).B) → Q r48))) (Q ([(wrap .i64 (x1 + 1))] : List Int))))))
def wp.spec_l07Reach (xs0 : List D.Ins) (xs1 : List Int) (Q : (List Bool) → Prop) : Prop :=
 ((0 ≤ (wrap .i64 ((xs0.length : Int) + 1)) ∧ (wrap .i64 ((xs0.length : Int) + 1)) ≤ 17179869184) ∧ ((([] : List Int).length + xs1.length ≤ 17179869184) ∧ LoopP (σ := (List Int) × (List Bool) × Unit) (fun (p127 : (List Int) × (List Bool) × Unit) next85 => match p127 with | (xs77, xs80, _) => bcase (decide ((xs77.length : Int) > 0)) (((0 ≤ (0 : Int) ∧ (0 : Int) < (xs77.length : Int)) ∧ ((0 ≤ (1 : Int) ∧ (1 : Int) ≤ (xs77.length : Int)) ∧ ((0 ≤ (rd xs77 0) ∧ (rd xs77 0) < (xs80.length : Int)) ∧ bcase (rd xs80 (rd xs77 0)) (next85 ((List.drop ((1 : Int).toNat) xs77), xs80, ())) (((0 ≤ (rd xs77 0) ∧ (rd xs77 0) < (xs80.length : Int)) ∧ (M.spec_l07Next_pre xs0 (rd xs77 0) ∧ ∀ r110, r110 = M.spec_l07Next xs0 (rd xs77 0) → (((List.drop ((1 : Int).toNat) xs77).length + r110.length ≤ 17179869184) ∧ next85 (((List.drop ((1 : Int).toNat) xs77) ++ r110), (List.set xs80 ((rd xs77 0).toNat) true), ()))))))))) (Q xs80)) ((([] : List Int) ++ xs1), (List.replicate ((wrap .i64 ((xs0.length : Int) + 1)).toNat) (default : Bool)), ())))
def wp.spec_ReachesExit (xs0 : List D.Ins) (x1 : Int) (Q : Bool → Prop) : Prop :=
 (M.spec_l07Ok_pre xs0 x1 ∧ ∀ r21, r21 = M.spec_l07Ok xs0 x1 → bcase r21 ((M.spec_l07Reach_pre xs0 ([x1] : List Int) ∧ ∀ r29, r29 = M.spec_l07Reach xs0 ([x1] : List Int) → ((0 ≤ (xs0.length : Int) ∧ (xs0.length : Int) < (r29.length : Int)) ∧ Q (rd r29 (xs0.length : Int))))) (Q false))
def wp.spec_l08After (xs0 : List D.Ins) (x1 : Int) (x2 : Int) (Q : Bool → Prop) : Prop :=
 bcase (x1 == x2) (Q true) (((0 ≤ (wrap .i64 ((xs0.length : Int) + 1)) ∧ (wrap .i64 ((xs0.length : Int) + 1)) ≤ 17179869184) ∧ LoopP (σ := (List Int) × (List Bool) × Unit) (fun (p130 : (List Int) × (List Bool) × Unit) next83 => match p130 with | (xs75, xs78, _) => bcase (decide ((xs75.length : Int) > 0)) (((0 ≤ (0 : Int) ∧ (0 : Int) < (xs75.length : Int)) ∧ ((0 ≤ (1 : Int) ∧ (1 : Int) ≤ (xs75.length : Int)) ∧ ((0 ≤ (rd xs75 0) ∧ (rd xs75 0) < (xs78.length : Int)) ∧ bcase (rd xs78 (rd xs75 0)) (next83 ((List.drop ((1 : Int).toNat) xs75), xs78, ())) (bcase ((rd xs75 0) == x2) (next83 ((List.drop ((1 : Int).toNat) xs75), xs78, ())) (bcase ((rd xs75 0) == (xs0.length : Int)) (Q false) (((0 ≤ (rd xs75 0) ∧ (rd xs75 0) < (xs78.length : Int)) ∧ (M.spec_l07Next_pre xs0 (rd xs75 0) ∧ ∀ r111, r111 = M.spec_l07Next xs0 (rd xs75 0) → (((List.drop ((1 : Int).toNat) xs75).length + r111.length ≤ 17179869184) ∧ next83 (((List.drop ((1 : Int).toNat) xs75) ++ r111), (List.set xs78 ((rd xs75 0).toNat) true), ()))))))))))) (Q true)) (([x1] : List Int), (List.replicate ((wrap .i64 ((xs0.length : Int) + 1)).toNat) (default : Bool)), ())))
def wp.spec_AftersOf (xs0 : List D.Ins) (x1 : Int) (Q : (List Int) → Prop) : Prop :=
 (M.spec_ReachesExit_pre xs0 x1 ∧ ∀ r24, r24 = M.spec_ReachesExit xs0 x1 → bcase (!r24) (Q ([] : List Int)) (LoopP (σ := (List Int) × Int × Unit) (fun (p59 : (List Int) × Int × Unit) next36 => match p59 with | (xs29, i32, _) => bcase (decide (i32 ≤ (xs0.length : Int))) ((M.spec_l08After_pre xs0 x1 i32 ∧ ∀ r38, r38 = M.spec_l08After xs0 x1 i32 → bcase r38 (((xs29.length + ([i32] : List Int).length ≤ 17179869184) ∧ next36 ((xs29 ++ ([i32] : List Int)), (wrap .i64 (i32 + 1)), ()))) (next36 (xs29, (wrap .i64 (i32 + 1)), ())))) (Q xs29)) (([] : List Int), 0, ())))
def wp.spec_l08First (xs0 : List D.Ins) (xs1 : List Int) (Q : Int → Prop) : Prop :=
 LoopP (σ := Int × Unit) (fun (p72 : Int × Unit) next25 => match p72 with | (i21, _) => bcase (decide (i21 < (xs1.length : Int))) (LoopP (σ := Bool × Int × Unit) (fun (p67 : Bool × Int × Unit) next32 => match p67 with | (b27, i28, _) => bcase (decide (i28 < (xs1.length : Int))) (bcase b27 (((0 ≤ i21 ∧ i21 < (xs1.length : Int)) ∧ ((0 ≤ i28 ∧ i28 < (xs1.length : Int)) ∧ (M.spec_l08After_pre xs0 (rd xs1 i21) (rd xs1 i28) ∧ ∀ r45, r45 = M.spec_l08After xs0 (rd xs1 i21) (rd xs1 i28) → next32 (r45, (wrap .i64 (i28 + 1)), ()))))) (next32 (false, (wrap .i64 (i28 + 1)), ()))) (bcase b27 (((0 ≤ i21 ∧ i21 < (xs1.length : Int)) ∧ Q (rd xs1 i21))) (next25 ((wrap .i64 (i21 + 1)), ())))) (true, 0, ())) (Q (-1))) (0, ())
def wp.spec_FirstAfter (xs0 : List D.Ins) (x1 : Int) (Q : Int → Prop) : Prop :=
 (M.spec_AftersOf_pre xs0 x1 ∧ ∀ r21, r21 = M.spec_AftersOf xs0 x1 → (M.spec_l08Others_pre r21 x1 ∧ ∀ r28, r28 = M.spec_l08Others r21 x1 → (M.spec_l08First_pre xs0 r28 ∧ ∀ r35, r35 = M.spec_l08First xs0 r28 → Q r35)))
def wp.spec_l09Join (xs0 : List D.Ins) (x1 : Int) (Q : Int → Prop) : Prop :=
 (M.spec_ReachesExit_pre xs0 (wrap .i64 (x1 + 1)) ∧ ∀ r21, r21 = M.spec_ReachesExit xs0 (wrap .i64 (x1 + 1)) → bcase (!r21) (Q (xs0.length : Int)) (((0 ≤ x1 ∧ x1 < (xs0.length : Int)) ∧ (M.spec_ReachesExit_pre xs0 ((rd xs0 x1).B) ∧ ∀ r31, r31 = M.spec_ReachesExit xs0 ((rd xs0 x1).B) → bcase (!r31) (Q (xs0.length : Int)) ((M.spec_FirstAfter_pre xs0 x1 ∧ ∀ r36, r36 = M.spec_FirstAfter xs0 x1 → Q r36))))))
end Go.V
namespace Go.V
open IntKind (wrap)
theorem mem_idx {g : Int → Bool} {x : Int} : ∀ {n : Nat}, x ∈ M.idx g n ↔ ∃ k : Nat, k < n ∧ x = (k : Int) ∧ g x = true
 | 0 => by simp [M.idx]
 | n + 1 => by
  have ih := mem_idx (g := g) (x := x) (n := n)
  unfold M.idx
  constructor
  ·intro h
   split at h
   ·rename_i e
    rcases List.mem_append.1 h with h | h
    ·obtain ⟨k, hk, h1, h2⟩ := ih.1 h; exact ⟨k, by omega, h1, h2⟩
    ·obtain rfl := List.mem_singleton.1 h; exact ⟨n, by omega, rfl, e⟩
   ·obtain ⟨k, hk, h1, h2⟩ := ih.1 h; exact ⟨k, by omega, h1, h2⟩
  ·rintro ⟨k, hk, rfl, h2⟩
   by_cases hkn : k = n
   ·subst hkn; rw [if_pos h2]; simp
   ·have := ih.2 ⟨k, by omega, rfl, h2⟩
    split
    ·exact List.mem_append_left _ this
    ·exact this
theorem idx_len (g : Int → Bool) : ∀ n, (M.idx g n).length ≤ n
 | 0 => by simp [M.idx]
 | n + 1 => by
  have := idx_len g n
  unfold M.idx
  split <;> simp <;> omega
theorem idx_loop {n : Nat} {g : Int → Bool} {B : (List Int × Int × Unit) → ((List Int × Int × Unit) → Prop) → Prop}
    (hb : ∀ (k : Nat) (xs : List Int) (next : (List Int × Int × Unit) → Prop), k < n → xs = M.idx g k → xs.length ≤ k → (g (k : Int) = true → next (xs ++ [(k : Int)], ((k + 1 : Nat) : Int), ())) → (g (k : Int) = false → next (xs, ((k + 1 : Nat) : Int), ())) → B (xs, (k : Int), ()) next)
    (he : ∀ next : (List Int × Int × Unit) → Prop, B (M.idx g n, (n : Int), ()) next) : LoopP B ([], 0, ()) := by
 refine loop_n n (fun k => (M.idx g k, (k : Int), ())) (fun _ => True) rfl trivial (fun k hk _ next hn => ?_) fun _ next => he next
 have hn := hn trivial
 unfold M.idx at hn
 exact hb k _ next hk rfl (idx_len g k) (fun e => by rwa [if_pos e] at hn) fun e => by rwa [if_neg (by rw [e]; simp)] at hn
theorem nodeOk {p : List D.Ins} (hp : M.programOk p = true) {k : Int} (h0 : 0 ≤ k) (h1 : k < (p.length : Int)) : M.insOk (rd p k) p.length = true := by
 simp only [M.programOk, Bool.and_eq_true, decide_eq_true_eq, List.all_eq_true] at hp
 exact hp.2 _ (rd_of h0 h1)
theorem progLen {p : List D.Ins} (hp : M.programOk p = true) : p.length ≤ 32 := by
 simp only [M.programOk, Bool.and_eq_true, decide_eq_true_eq] at hp
 exact hp.1
theorem target_in {i : D.Ins} {n : Int} (h : M.insOk i n = true) (e : i.Op = 10 ∨ i.Op = 11) : 0 ≤ i.B ∧ i.B ≤ n := by
 simp only [M.insOk, Bool.and_eq_true] at h
 have h := h.2
 rcases e with e | e
 ·rw [if_neg (by omega), if_neg (by omega), if_neg (by omega), if_neg (by omega), if_pos e] at h
  simp only [Bool.and_eq_true, M.isIn, decide_eq_true_eq] at h
  exact h.2.1
 ·rw [if_neg (by omega), if_neg (by omega), if_neg (by omega), if_neg (by omega), if_neg (by omega), if_pos e] at h
  simp only [Bool.and_eq_true, M.isIn, decide_eq_true_eq] at h
  exact h.2.1
theorem putTwo_mem {a b x : Int} : x ∈ M.putTwo a b ↔ x = a ∨ x = b := by
 unfold M.putTwo
 split
 ·simp [or_comm]
 split
 ·rename_i h1 h2; subst h2; simp
 ·simp
theorem putTwo_len (a b : Int) : (M.putTwo a b).length ≤ 2 := by
 unfold M.putTwo
 (repeat' split) <;> simp
theorem next_ok {p : List D.Ins} {k : Int} (h : M.Node p k) : (∀ x ∈ M.nextOf p k, M.nodeIn p x) ∧ (M.nextOf p k).length ≤ 2 := by
 obtain ⟨hp, h0, h1⟩ := h
 unfold M.nextOf
 split
 ·exact ⟨fun x hx => absurd hx List.not_mem_nil, by simp⟩
 rename_i hne
 have hlt : k < (p.length : Int) := by omega
 have hi := nodeOk hp h0 hlt
 split
 ·exact ⟨fun x hx => by obtain rfl := List.mem_singleton.1 hx; exact ⟨by omega, by omega⟩, by simp⟩
 split
 ·rename_i e
  exact ⟨fun x hx => by obtain rfl := List.mem_singleton.1 hx; exact target_in hi (.inr e), by simp⟩
 split
 ·rename_i e
  refine ⟨fun x hx => ?_, putTwo_len _ _⟩
  rcases putTwo_mem.1 hx with rfl | rfl
  ·exact ⟨by omega, by omega⟩
  ·exact target_in hi (.inl e)
 ·exact ⟨fun x hx => by obtain rfl := List.mem_singleton.1 hx; exact ⟨by omega, by omega⟩, by simp⟩
def falses (l : List Bool) : Nat := l.count false
theorem falses_set : ∀ {l : List Bool} {k : Nat}, k < l.length → l[k]? = some false → falses (l.set k true) + 1 = falses l
 | [], k, hk, _ => absurd hk (by simp)
 | b :: l, 0, hk, h => by
  simp at h; subst h
  simp [falses]
 | b :: l, k + 1, hk, h => by
  have := falses_set (l := l) (k := k) (by simpa using hk) (by simpa using h)
  unfold falses at *
  simp only [List.set_cons_succ, List.count_cons]
  omega
theorem rdB {l : List Bool} {k : Int} (h0 : 0 ≤ k) (h1 : k < (l.length : Int)) : l[k.toNat]? = some (rd l k) := by
 have : k.toNat < l.length := by omega
 simp [rd, List.getD_eq_getElem?_getD, this]
theorem rd_setB {l : List Bool} {k j : Int} (h0 : 0 ≤ k) (h1 : k < (l.length : Int)) (hj : 0 ≤ j) : rd (l.set k.toNat true) j = if j = k then true else rd l j := by
 unfold rd
 rw [List.getD_eq_getElem?_getD, List.getD_eq_getElem?_getD, List.getElem?_set]
 by_cases e : j = k
 ·subst e
  have : j.toNat < l.length := by omega
  simp [this]
 ·have : ¬ k.toNat = j.toNat := by omega
  rw [if_neg this, if_neg e]
theorem bfs_len (p : List D.Ins) (wo : Int) : ∀ (f : Nat) (work : List Int) (seen : List Bool), (M.bfs p wo f work seen).length = seen.length
 | 0, _, _ => rfl
 | f + 1, [], _ => rfl
 | f + 1, k :: work, seen => by
  unfold M.bfs
  split
  ·exact bfs_len p wo f _ _
  ·rw [bfs_len p wo f]; simp
theorem bfs_mono (p : List D.Ins) (wo : Int) {j : Int} (hj : 0 ≤ j) : ∀ (f : Nat) (work : List Int) (seen : List Bool), (∀ x ∈ work, M.Node p x) → seen.length = p.length + 1 → rd seen j = true → rd (M.bfs p wo f work seen) j = true
 | 0, _, _, _, _, h => h
 | f + 1, [], _, _, _, h => h
 | f + 1, k :: work, seen, hw, hl, h => by
  have hk := hw k List.mem_cons_self
  have hr : ∀ x ∈ work, M.Node p x := fun x hx => hw x (List.mem_cons_of_mem _ hx)
  unfold M.bfs
  split
  ·exact bfs_mono p wo hj f _ _ hr hl h
  ·refine bfs_mono p wo hj f _ _ (fun x hx => (List.mem_append.1 hx).elim (hr x) fun h' => ⟨hk.1, (next_ok hk).1 x h'⟩) (by simpa using hl) ?_
   have hk2 := hk.2
   unfold M.nodeIn at hk2
   rw [rd_setB hk2.1 (by omega) hj]
   split
   ·rfl
   ·exact h
theorem bfs_loop {p : List D.Ins} {wo : Int} {I : List Bool → Prop} {B : (List Int × List Bool × Unit) → ((List Int × List Bool × Unit) → Prop) → Prop} {work0 : List Int} {seen0 R : List Bool} {fuel : Nat}
    (hs : M.Starts p work0) (hl0 : seen0.length = p.length + 1) (hI0 : I seen0) (hR : M.bfs p wo fuel work0 seen0 = R) (hf : 3 * falses seen0 + work0.length ≤ fuel)
    (hb0 : ∀ (k : Int) (rest : List Int) (seen : List Bool) (next : (List Int × List Bool × Unit) → Prop), M.Node p k → seen.length = p.length + 1 → I seen → (k = wo ∨ rd seen k = true) → next (rest, seen, ()) → B (k :: rest, seen, ()) next)
    (hb1 : ∀ (k : Int) (rest : List Int) (seen : List Bool) (next : (List Int × List Bool × Unit) → Prop), M.Node p k → seen.length = p.length + 1 → I seen → ¬ k = wo → rd seen k = false → rd R k = true → rest.length + (M.nextOf p k).length ≤ 17179869184 → (I (seen.set k.toNat true) → next (rest ++ M.nextOf p k, seen.set k.toNat true, ())) → B (k :: rest, seen, ()) next)
    (he : ∀ (next : (List Int × List Bool × Unit) → Prop), I R → B ([], R, ()) next) : LoopP B (work0, seen0, ()) := by
 obtain ⟨hp, hw, h4⟩ := hs
 have h32 := progLen hp
 have hc0 : falses seen0 ≤ p.length + 1 := by unfold falses; rw [← hl0]; exact List.count_le_length
 refine ⟨fun m z => ∃ work seen f, z = (work, seen, ()) ∧ m = 3 * falses seen + work.length ∧ m ≤ f ∧ M.bfs p wo f work seen = R ∧ seen.length = p.length + 1 ∧ (∀ x ∈ work, M.Node p x) ∧ m ≤ 200 ∧ I seen,
  ⟨_, work0, seen0, fuel, rfl, rfl, hf, hR, hl0, fun x hx => ⟨hp, hw x hx⟩, by omega, hI0⟩, ?_⟩
 rintro m z ⟨work, seen, f, rfl, rfl, hmf, hbf, hl, hwk, hm, hI⟩
 cases work with
 | nil =>
  have : seen = R := by
   cases f with
   | zero => exact hbf
   | succ f => exact hbf
  subst this
  exact he _ hI
 | cons k rest =>
  have hk := hwk k List.mem_cons_self
  have hr : ∀ x ∈ rest, M.Node p x := fun x hx => hwk x (List.mem_cons_of_mem _ hx)
  cases f with
  | zero => simp at hmf
  | succ f =>
   by_cases hc : k = wo ∨ rd seen k = true
   ·refine hb0 k rest seen _ hk hl hI hc ⟨_, ?_, rest, seen, f, rfl, rfl, ?_, ?_, hl, hr, ?_, hI⟩
    ·simp
    ·simp at hmf; omega
    ·rw [M.bfs, if_pos hc] at hbf; exact hbf
    ·simp at hm; omega
   ·have h1 : ¬ k = wo := fun e => hc (.inl e)
    have h2 : rd seen k = false := by simpa using fun e => hc (.inr e)
    have hk2 := hk.2
    unfold M.nodeIn at hk2
    have hn := next_ok hk
    have hfs := falses_set (l := seen) (k := k.toNat) (by omega) (by rw [rdB hk2.1 (by omega), h2])
    rw [M.bfs, if_neg hc] at hbf
    have hw' : ∀ x ∈ rest ++ M.nextOf p k, M.Node p x := fun x hx => (List.mem_append.1 hx).elim (hr x) fun h' => ⟨hk.1, hn.1 x h'⟩
    have hR' : rd R k = true := by
     rw [← hbf]
     refine bfs_mono p wo hk2.1 f _ _ hw' (by simpa using hl) ?_
     rw [rd_setB hk2.1 (by omega) hk2.1, if_pos rfl]
    refine hb1 k rest seen _ hk hl hI h1 h2 hR' ?_ fun hI' => ⟨_, ?_, _, _, f, rfl, rfl, ?_, hbf, by simpa using hl, hw', ?_, hI'⟩
    ·simp at hm; omega
    ·simp only [List.length_append, List.length_cons]; omega
    ·simp only [List.length_append, List.length_cons] at *; omega
    ·simp only [List.length_append, List.length_cons] at *; omega
theorem seen0_len (n : Nat) : (List.replicate (n + 1) false).length = n + 1 := by simp
theorem seen0_falses (n : Nat) : falses (List.replicate (n + 1) false) = n + 1 := by simp [falses]
theorem seen0_rd (n : Nat) (k : Int) : rd (List.replicate (n + 1) false) k = false := by
 unfold rd
 rw [List.getD_eq_getElem?_getD, List.getElem?_replicate]
 split <;> rfl
inductive Rch (p : List D.Ins) (wo : Int) (frm : List Int) : Int → Prop
 | base {s : Int} : s ∈ frm → s ≠ wo → Rch p wo frm s
 | step {k s : Int} : Rch p wo frm k → s ∈ M.nextOf p k → s ≠ wo → Rch p wo frm s
theorem bfs_sound {p : List D.Ins} {wo : Int} {frm : List Int} : ∀ (f : Nat) (work : List Int) (seen : List Bool), (∀ x ∈ work, M.Node p x) → seen.length = p.length + 1 → (∀ x ∈ work, x = wo ∨ Rch p wo frm x) → (∀ x, 0 ≤ x → rd seen x = true → Rch p wo frm x) →
    ∀ x, 0 ≤ x → rd (M.bfs p wo f work seen) x = true → Rch p wo frm x
 | 0, _, _, _, _, _, h => h
 | f + 1, [], _, _, _, _, h => h
 | f + 1, k :: work, seen, hw, hl, hwr, h => by
  have hk := hw k List.mem_cons_self
  have hk2 := hk.2
  unfold M.nodeIn at hk2
  have hr : ∀ x ∈ work, M.Node p x := fun x hx => hw x (List.mem_cons_of_mem _ hx)
  have hwr' : ∀ x ∈ work, x = wo ∨ Rch p wo frm x := fun x hx => hwr x (List.mem_cons_of_mem _ hx)
  unfold M.bfs
  split
  ·exact bfs_sound f work seen hr hl hwr' h
  ·rename_i hc
   have hkR : Rch p wo frm k := (hwr k List.mem_cons_self).resolve_left fun e => hc (.inl e)
   refine bfs_sound f _ _ (fun x hx => (List.mem_append.1 hx).elim (hr x) fun h' => ⟨hk.1, (next_ok hk).1 x h'⟩) (by simpa using hl) (fun x hx => (List.mem_append.1 hx).elim (hwr' x) fun h' => ?_) fun x hx hs => ?_
   ·by_cases e : x = wo
    ·exact .inl e
    ·exact .inr (.step hkR h' e)
   ·rw [rd_setB hk2.1 (by omega) hx] at hs
    split at hs
    ·rename_i e; rw [e]; exact hkR
    ·exact h x hx hs
def Closed (p : List D.Ins) (wo : Int) (frm work : List Int) (seen : List Bool) : Prop :=
 (∀ s ∈ frm, s ≠ wo → rd seen s = true ∨ s ∈ work) ∧ ∀ k, M.nodeIn p k → rd seen k = true → ∀ s ∈ M.nextOf p k, s ≠ wo → rd seen s = true ∨ s ∈ work
theorem bfs_closed {p : List D.Ins} {wo : Int} {frm : List Int} : ∀ (f : Nat) (work : List Int) (seen : List Bool), (∀ x ∈ work, M.Node p x) → (∀ x ∈ frm, M.nodeIn p x) → seen.length = p.length + 1 → 3 * falses seen + work.length ≤ f → Closed p wo frm work seen → Closed p wo frm [] (M.bfs p wo f work seen)
 | 0, work, seen, _, _, _, hf, hc => by
  have : work = [] := List.eq_nil_of_length_eq_zero (by omega)
  subst this; exact hc
 | f + 1, [], seen, _, _, _, _, hc => hc
 | f + 1, k :: work, seen, hw, hfr, hl, hf, hc => by
  have hk := hw k List.mem_cons_self
  have hk2 := hk.2
  have hk3 := hk.2
  unfold M.nodeIn at hk2
  have hr : ∀ x ∈ work, M.Node p x := fun x hx => hw x (List.mem_cons_of_mem _ hx)
  simp only [List.length_cons] at hf
  obtain ⟨c1, c2⟩ := hc
  unfold M.bfs
  split
  ·rename_i hd
   have drop : ∀ s, s ≠ wo → (rd seen s = true ∨ s ∈ k :: work) → rd seen s = true ∨ s ∈ work := by
    intro s hs h
    rcases h with h | h
    ·exact .inl h
    rcases List.mem_cons.1 h with rfl | h
    ·exact .inl (hd.resolve_left hs)
    ·exact .inr h
   exact bfs_closed f work seen hr hfr hl (by omega) ⟨fun s hs hne => drop s hne (c1 s hs hne), fun j hj hsj s hs hne => drop s hne (c2 j hj hsj s hs hne)⟩
  ·rename_i hd
   have h2 : rd seen k = false := by simpa using fun e => hd (.inr e)
   have hfs := falses_set (l := seen) (k := k.toNat) (by omega) (by rw [rdB hk2.1 (by omega), h2])
   have hn := next_ok hk
   have up : ∀ s, M.nodeIn p s → (rd seen s = true ∨ s ∈ k :: work) → rd (seen.set k.toNat true) s = true ∨ s ∈ work ++ M.nextOf p k := by
    intro s hs h
    have hs2 := hs
    unfold M.nodeIn at hs2
    rw [rd_setB hk2.1 (by omega) hs2.1]
    rcases h with h | h
    ·left; split; rfl; exact h
    rcases List.mem_cons.1 h with rfl | h
    ·left; rw [if_pos rfl]
    ·exact .inr (List.mem_append_left _ h)
   refine bfs_closed f _ _ (fun x hx => (List.mem_append.1 hx).elim (hr x) fun h' => ⟨hk.1, hn.1 x h'⟩) hfr (by simpa using hl) (by simp only [List.length_append]; omega)
    ⟨fun s hs hne => up s (hfr s hs) (c1 s hs hne), fun j hj hsj s hs hne => ?_⟩
   have hj2 := hj
   unfold M.nodeIn at hj2
   rw [rd_setB hk2.1 (by omega) hj2.1] at hsj
   split at hsj
   ·rename_i e; subst e
    exact .inr (List.mem_append_right _ hs)
   ·exact up s ((next_ok ⟨hk.1, hj⟩).1 s hs) (c2 j hj hsj s hs hne)
theorem rch_node {p : List D.Ins} {wo : Int} {frm : List Int} (hp : M.programOk p = true) (hf : ∀ x ∈ frm, M.nodeIn p x) {x : Int} (h : Rch p wo frm x) : M.nodeIn p x := by
 induction h with
 | base h _ => exact hf _ h
 | step _ hs _ ih => exact (next_ok ⟨hp, ih⟩).1 _ hs
theorem reached_iff {p : List D.Ins} {wo : Int} {frm : List Int} (hp : M.programOk p = true) (hf : ∀ x ∈ frm, M.nodeIn p x) {x : Int} (hx : M.nodeIn p x) : rd (M.reached p frm wo) x = true ↔ Rch p wo frm x := by
 constructor
 ·intro h
  refine bfs_sound (frm := frm) _ frm _ (fun y hy => ⟨hp, hf y hy⟩) (seen0_len _) (fun y hy => ?_) (fun y _ hs => by rw [seen0_rd] at hs; cases hs) x hx.1 h
  by_cases e : y = wo
  ·exact .inl e
  ·exact .inr (.base hy e)
 ·intro h
  have hc := bfs_closed (p := p) (wo := wo) (frm := frm) (3 * (p.length + 1) + frm.length) frm (List.replicate (p.length + 1) false) (fun y hy => ⟨hp, hf y hy⟩) hf (seen0_len _) (by rw [seen0_falses]; omega)
   ⟨fun s hs _ => .inr hs, fun k _ hs => by rw [seen0_rd] at hs; cases hs⟩
  clear hx
  induction h with
  | base h hne => exact (hc.1 _ h hne).resolve_right List.not_mem_nil
  | step hk hs hne ih => exact (hc.2 _ (rch_node hp hf hk) ih _ hs hne).resolve_right List.not_mem_nil
theorem reached_len (p : List D.Ins) (frm : List Int) (wo : Int) : (M.reached p frm wo).length = p.length + 1 := by
 unfold M.reached; rw [bfs_len]; simp
theorem small64 {p : List D.Ins} (h : M.PSmall p) : wrap .i64 ((p.length : Int) + 1) = ((p.length + 1 : Nat) : Int) := by
 unfold M.PSmall at h
 rw [w64 (by omega) (by omega)]; push_cast; rfl
theorem prog_small {p : List D.Ins} (hp : M.programOk p = true) : M.PSmall p := by have := progLen hp; unfold M.PSmall; omega
theorem small_longP {p : List D.Ins} (h : M.PSmall p) : M.Long p := by unfold M.PSmall at h; unfold M.Long; omega
theorem filter_take {l : List Int} {g : Int → Bool} {k : Nat} (hk : k < l.length) : (l.take (k + 1)).filter g = if g (rd l (k : Int)) then (l.take k).filter g ++ [rd l (k : Int)] else (l.take k).filter g := by
 rw [List.take_add_one, List.getElem?_eq_getElem hk, rd_nat hk, List.filter_append]
 by_cases e : g l[k] = true
 ·simp [e]
 ·simp [e]
theorem wp.spec_l08Others.math (l : List Int) (n : Int) (h : M.spec_l08Others_pre l n) : wp.spec_l08Others l n (fun r => r = M.spec_l08Others l n) := by
 have hl : l.length ≤ 17179869183 := h
 refine loop_n l.length (fun k => ((l.take k).filter (fun x => x != n), (k : Int), ())) (fun _ => True) rfl trivial (fun k hk _ next hn => ?_) fun _ next => ?_
 ·have hn := hn trivial
  rw [filter_take hk] at hn
  have hle := List.length_filter_le (fun x => x != n) (l.take k)
  have hle2 : (l.take k).length ≤ k := by simp; omega
  refine bcase_t (by simp; omega) ⟨by omega, bcase_mk (fun e => ⟨by omega, ?_, ?_⟩) fun e => ?_⟩
  ·simp only [List.length_singleton]; omega
  ·rw [if_pos e] at hn; rw [up64 hk (by omega)]; exact hn
  ·rw [if_neg (by rw [e]; simp)] at hn; rw [up64 hk (by omega)]; exact hn
 ·refine bcase_f (by simp) ?_
  rw [List.take_length]; rfl
theorem wp.spec_l07Ok.math (p : List D.Ins) (k : Int) (h : M.spec_l07Ok_pre p k) : wp.spec_l07Ok p k (fun r => r = M.spec_l07Ok p k) := by
 refine ⟨small_longP h, fun r hr => bcase_mk (fun e r2 hr2 => ?_) fun e => ?_⟩
 all_goals have hr' : r = M.programOk p := hr
 ·rw [hr2]; simp [M.spec_l07Ok, M.isNode, ← hr', e, M.spec_l01In]
 ·simp [M.spec_l07Ok, M.isNode, ← hr', e]
theorem putAt_le (l : List Int) (n : Int) : ∀ k, M.putAt l n k ≤ k
 | 0 => Nat.le_refl _
 | k + 1 => by
  unfold M.putAt
  split
  ·have := putAt_le l n k; omega
  ·exact Nat.le_refl _
theorem joinP_of19 {σ : Type} {A : (σ → Prop) → Prop} {B : σ → Prop} (v : σ) (h : B v) (hA : ∀ J : σ → Prop, J v → A J) : JoinP A B := hA B h
theorem wp.spec_l04Put.math (l : List Int) (n : Int) (h : M.spec_l04Put_pre l n) : wp.spec_l04Put l n (fun r => r = M.spec_l04Put l n) := by
 have hl : l.length ≤ 17179869183 := h
 have hle := putAt_le l n l.length
 have wd : ∀ k : Nat, 0 < k → k ≤ l.length → wrap .i64 ((k : Int) - 1) = ((k - 1 : Nat) : Int) := fun k h0 hk => by rw [w64 (by omega) (by omega)]; omega
 refine joinP_of19 (((M.putAt l n l.length : Nat) : Int), ()) ?_ fun J hJ => ?_
 ·generalize hq : M.putAt l n l.length = q at *
  have hd : ((q : Int)).toNat = q := by simp
  have tail : ¬ (q > 0 ∧ rd l ((q : Int) - 1) = n) → (0 ≤ (q : Int) ∧ (q : Int) ≤ (l.length : Int)) ∧ (([] : List Int).length + (List.take ((q : Int).toNat) l).length ≤ 17179869184) ∧ ((([] : List Int) ++ List.take ((q : Int).toNat) l).length + ([n] : List Int).length ≤ 17179869184) ∧ (0 ≤ (q : Int) ∧ (q : Int) ≤ (l.length : Int)) ∧ (((([] : List Int) ++ List.take ((q : Int).toNat) l) ++ [n]).length + (List.drop ((q : Int).toNat) l).length ≤ 17179869184) ∧ ((([] : List Int) ++ List.take ((q : Int).toNat) l) ++ [n]) ++ List.drop ((q : Int).toNat) l = M.spec_l04Put l n := by
   intro hn
   rw [hd]
   refine ⟨by omega, by simp; omega, by simp; omega, by omega, by simp; omega, ?_⟩
   simp only [M.spec_l04Put, hq]
   rw [if_neg hn]; simp
  show JoinP (σ := Unit) _ _
  refine bcase_mk (fun e => ⟨?_, bcase_mk (fun e2 => ?_) fun e2 => ?_⟩) fun e => ?_
  ·have e : q > 0 := by simp at e; omega
   rw [wd q e hle]; omega
  ·have e : q > 0 := by simp at e; omega
   rw [wd q e hle] at e2
   have e2 : rd l ((q : Int) - 1) = n := by rw [show (q : Int) - 1 = ((q - 1 : Nat) : Int) by omega]; simpa using e2
   simp only [M.spec_l04Put, hq]
   rw [if_pos ⟨e, e2⟩]
  ·have e : q > 0 := by simp at e; omega
   rw [wd q e hle] at e2
   refine tail fun hh => ?_
   rw [show (q : Int) - 1 = ((q - 1 : Nat) : Int) by omega] at hh
   have := hh.2
   simp [this] at e2
  ·have e : ¬ q > 0 := by simp at e; omega
   exact tail fun hh => e hh.1
 ·refine ⟨fun m z => ∃ k : Nat, z = ((k : Int), ()) ∧ m = k ∧ k ≤ l.length ∧ M.putAt l n k = M.putAt l n l.length, ⟨l.length, l.length, rfl, rfl, Nat.le_refl _, rfl⟩, ?_⟩
  rintro k z ⟨_, rfl, rfl, hk, hput⟩
  refine bcase_mk (fun e => ⟨?_, bcase_mk (fun e2 => ?_) fun e2 => ?_⟩) fun e => ?_
  ·have e : k > 0 := by simp at e; omega
   rw [wd k e hk]; omega
  ·have e : k > 0 := by simp at e; omega
   rw [wd k e hk] at e2 ⊢
   refine ⟨k - 1, by omega, k - 1, rfl, rfl, by omega, ?_⟩
   rw [← hput]
   obtain ⟨j, rfl⟩ : ∃ j, k = j + 1 := ⟨k - 1, by omega⟩
   rw [M.putAt, if_pos (by simpa using e2)]; rfl
  ·have e : k > 0 := by simp at e; omega
   rw [wd k e hk] at e2
   obtain ⟨j, rfl⟩ : ∃ j, k = j + 1 := ⟨k - 1, by omega⟩
   rw [M.putAt, if_neg (by simpa using e2)] at hput
   rw [← hput] at hJ; exact hJ
  ·have e : k = 0 := by simp at e; omega
   subst e
   rw [← hput] at hJ; exact hJ
theorem put_one (a b : Int) : M.spec_l04Put [a] b = M.putTwo a b := by
 unfold M.spec_l04Put M.putTwo
 have hq : M.putAt [a] b 1 = if a > b then 0 else 1 := by
  unfold M.putAt
  have : rd [a] ((0 : Nat) : Int) = a := rfl
  rw [this]
  split <;> rfl
 have h1l : ([a] : List Int).length = 1 := rfl
 by_cases h1 : b < a
 ·have hq' : M.putAt [a] b ([a] : List Int).length = 0 := by rw [h1l, hq, if_pos h1]
  rw [hq', if_pos h1, if_neg (by omega)]; simp
 ·have hq' : M.putAt [a] b ([a] : List Int).length = 1 := by rw [h1l, hq, if_neg h1]
  rw [hq', if_neg h1]
  have : rd [a] (((1 : Nat) : Int) - 1) = a := rfl
  rw [this]
  by_cases h2 : b = a
  ·rw [if_pos h2, if_pos ⟨by omega, h2.symm⟩]
  ·rw [if_neg h2, if_neg (fun h => h2 h.2.symm)]; simp
theorem wp.spec_l07Next.math (p : List D.Ins) (k : Int) (h : M.spec_l07Next_pre p k) : wp.spec_l07Next p k (fun r => r = M.spec_l07Next p k) := by
 obtain ⟨hp, h0, h1⟩ := h
 have h32 := progLen hp
 have hw : wrap .i64 (k + 1) = k + 1 := w64 (by omega) (by omega)
 unfold wp.spec_l07Next
 rw [hw]
 refine bcase_mk (fun e => ?_) fun e => ?_
 ·have e : k = p.length := by simpa using e
  simp [M.spec_l07Next, M.nextOf, e]
 have e : ¬ k = p.length := by simpa using e
 refine ⟨by omega, bcase_mk (fun e1 => ?_) fun e1 => bcase_mk (fun e2 => ⟨by omega, ?_⟩) fun e2 => bcase_mk (fun e3 => ⟨by omega, by show (1 : Nat) ≤ 17179869183; omega, fun r hr => ?_⟩) fun e3 => ?_⟩
 all_goals simp only [M.spec_l07Next, M.nextOf]
 all_goals rw [if_neg e]
 ·rw [if_pos (by simpa using e1)]
 ·rw [if_neg (by simpa using e1), if_pos (by simpa using e2)]
 ·rw [if_neg (by simpa using e1), if_neg (by simpa using e2), if_pos (by simpa using e3), hr, put_one]
 ·rw [if_neg (by simpa using e1), if_neg (by simpa using e2), if_neg (by simpa using e3)]
theorem cons_facts {k : Int} {rest : List Int} : rd (k :: rest) 0 = k ∧ List.drop ((1 : Int).toNat) (k :: rest) = rest ∧ (0 ≤ (0 : Int) ∧ (0 : Int) < ((k :: rest).length : Int)) ∧ (0 ≤ (1 : Int) ∧ (1 : Int) ≤ ((k :: rest).length : Int)) ∧ decide (((k :: rest).length : Int) > 0) = true := by
 refine ⟨rfl, rfl, by simp only [List.length_cons]; omega, by simp only [List.length_cons]; omega, ?_⟩
 simp only [List.length_cons, decide_eq_true_eq]; omega
theorem repl_eq {p : List D.Ins} (hp : M.programOk p = true) : List.replicate ((wrap .i64 ((p.length : Int) + 1)).toNat) (default : Bool) = List.replicate (p.length + 1) false := by
 rw [small64 (prog_small hp)]; rfl
theorem node_seen {p : List D.Ins} {k : Int} {seen : List Bool} (h : M.Node p k) (hl : seen.length = p.length + 1) : 0 ≤ k ∧ k < (seen.length : Int) := by
 obtain ⟨_, h0, h1⟩ := h
 omega
theorem wp.spec_l07Reach.math (p : List D.Ins) (l : List Int) (h : M.spec_l07Reach_pre p l) : wp.spec_l07Reach p l (fun r => r = M.spec_l07Reach p l) := by
 have hp := h.1
 have h32 := progLen hp
 have h4 := h.2.2
 unfold wp.spec_l07Reach
 rw [repl_eq hp, small64 (prog_small hp)]
 refine ⟨by omega, by simp; omega, ?_⟩
 rw [List.nil_append]
 refine bfs_loop (wo := -1) (I := fun _ => True) h (seen0_len _) trivial (R := M.spec_l07Reach p l) rfl (by rw [seen0_falses]; omega) (fun k rest seen next hk hl _ hc hn => ?_) (fun k rest seen next hk hl _ h1 h2 _ h5 hn => ?_) fun next _ => bcase_f rfl rfl
 ·obtain ⟨f1, f2, f3, f4, f5⟩ := cons_facts (k := k) (rest := rest)
  refine bcase_t f5 ⟨f3, f4, ?_⟩
  rw [f1, f2]
  have hk1 : ¬ k = -1 := by have := hk.2.1; omega
  exact ⟨node_seen hk hl, bcase_t (hc.resolve_left hk1) hn⟩
 ·obtain ⟨f1, f2, f3, f4, f5⟩ := cons_facts (k := k) (rest := rest)
  refine bcase_t f5 ⟨f3, f4, ?_⟩
  rw [f1, f2]
  refine ⟨node_seen hk hl, bcase_f h2 ⟨node_seen hk hl, hk, fun r hr => ?_⟩⟩
  have hr' : r = M.nextOf p k := hr
  rw [hr']
  exact ⟨h5, hn trivial⟩
theorem start1 {p : List D.Ins} {k : Int} (h : M.Node p k) : M.Starts p [k] := ⟨h.1, fun x hx => by obtain rfl := List.mem_singleton.1 hx; exact h.2, by simp⟩
theorem isNode_iff {p : List D.Ins} {k : Int} : M.isNode p k = true ↔ M.Node p k := by
 simp only [M.isNode, M.Node, M.nodeIn, Bool.and_eq_true, M.isIn, decide_eq_true_eq]
theorem wp.spec_ReachesExit.math (p : List D.Ins) (k : Int) (h : M.spec_ReachesExit_pre p k) : wp.spec_ReachesExit p k (fun r => r = M.spec_ReachesExit p k) := by
 refine ⟨h, fun r hr => bcase_mk (fun e => ?_) fun e => ?_⟩
 all_goals have hr' : r = M.isNode p k := hr
 ·have hN := isNode_iff.1 (hr'.symm.trans e)
  refine ⟨start1 hN, fun r2 hr2 => ⟨?_, ?_⟩⟩
  ·rw [hr2]; show _ ∧ _ < ((M.reached p [k] (-1)).length : Int); rw [reached_len]; omega
  ·rw [hr2]; simp only [M.spec_ReachesExit, ← hr', e, Bool.true_and]; rfl
 ·simp [M.spec_ReachesExit, ← hr', e]
theorem wp.spec_l08After.math (p : List D.Ins) (k later : Int) (h : M.spec_l08After_pre p k later) : wp.spec_l08After p k later (fun r => r = M.spec_l08After p k later) := by
 have hp := h.1
 have h32 := progLen hp
 have hs := start1 h
 have hn : M.nodeIn p (p.length : Int) := ⟨by omega, by omega⟩
 refine bcase_mk (fun e => ?_) fun e => ?_
 ·have e : k = later := by simpa using e
  show true = M.afterB p k later
  have : rd (M.reached p [k] later) (p.length : Int) = false := by
   refine Bool.eq_false_iff.2 fun hr => ?_
   have hr := (reached_iff hp hs.2.1 hn).1 hr
   have none : ∀ x, ¬ Rch p later [k] x := by
    intro x hx
    induction hx with
    | base h1 h2 => obtain rfl := List.mem_singleton.1 h1; exact h2 e
    | step _ _ _ ih => exact ih
   exact none _ hr
  unfold M.afterB; rw [this]; rfl
 rw [repl_eq hp, small64 (prog_small hp)]
 refine ⟨by omega, ?_⟩
 refine bfs_loop (wo := later) (I := fun seen => rd seen (p.length : Int) = false) hs (seen0_len _) (seen0_rd _ _) (R := M.reached p [k] later) rfl (by rw [seen0_falses]; simp) (fun j rest seen next hk hl _ hc hn => ?_) (fun j rest seen next hk hl hI h1 h2 h3 h5 hn => ?_) fun next hI => bcase_f rfl ?_
 ·obtain ⟨f1, f2, f3, f4, f5⟩ := cons_facts (k := j) (rest := rest)
  refine bcase_t f5 ⟨f3, f4, ?_⟩
  rw [f1, f2]
  refine ⟨node_seen hk hl, bcase_mk (fun _ => hn) fun e1 => bcase_t ?_ hn⟩
  rcases hc with hc | hc
  ·simpa using hc
  ·rw [hc] at e1; cases e1
 ·obtain ⟨f1, f2, f3, f4, f5⟩ := cons_facts (k := j) (rest := rest)
  refine bcase_t f5 ⟨f3, f4, ?_⟩
  rw [f1, f2]
  refine ⟨node_seen hk hl, bcase_f h2 (bcase_f (by simpa using h1) (bcase_mk (fun e1 => ?_) fun e1 => ⟨node_seen hk hl, hk, fun r hr => ?_⟩))⟩
  ·have e1 : j = (p.length : Int) := by simpa using e1
   show false = M.afterB p k later
   unfold M.afterB
   rw [← e1, h3]; rfl
  ·have e1 : ¬ j = (p.length : Int) := by simpa using e1
   have hr' : r = M.nextOf p j := hr
   rw [hr']
   refine ⟨h5, hn ?_⟩
   have hj := hk.2
   unfold M.nodeIn at hj
   rw [rd_setB hj.1 (by omega) (by omega), if_neg (fun e => e1 e.symm)]
   exact hI
 ·show true = M.afterB p k later
  unfold M.afterB; rw [hI]; rfl
theorem wp.spec_AftersOf.math (p : List D.Ins) (k : Int) (h : M.spec_AftersOf_pre p k) : wp.spec_AftersOf p k (fun r => r = M.spec_AftersOf p k) := by
 refine ⟨h, fun r hr => bcase_mk (fun e => ?_) fun e => ?_⟩
 ·have := nt e (show r = (M.isNode p k && M.exitB p k) from hr)
  simp [M.spec_AftersOf, M.aftersOf, this]
 ·have he := nf e (show r = (M.isNode p k && M.exitB p k) from hr)
  have hN : M.Node p k := isNode_iff.1 (by simp only [Bool.and_eq_true] at he; exact he.1)
  have h32 := progLen hN.1
  have hM : M.spec_AftersOf p k = M.idx (M.afterB p k) (p.length + 1) := by simp only [M.spec_AftersOf, M.aftersOf, he, if_true]
  rw [hM]
  refine idx_loop (fun j xs next hj hxs hle h1 h2 => ?_) fun next => bcase_f (by simp; omega) rfl
  refine bcase_t (by simp; omega) ⟨hN, fun r2 hr2 => bcase_mk (fun e2 => ⟨by simp; omega, ?_⟩) fun e2 => ?_⟩
  ·rw [up64 (n := p.length + 1) hj (by omega)]; exact h1 ((show r2 = M.afterB p k (j : Int) from hr2).symm.trans e2)
  ·rw [up64 (n := p.length + 1) hj (by omega)]; exact h2 ((show r2 = M.afterB p k (j : Int) from hr2).symm.trans e2)
theorem firstS_from (p : List D.Ins) (all l : List Int) (k : Nat) (hk : k < l.length) : M.firstS p all (l.drop k) = if all.all (M.afterB p (rd l (k : Int))) then rd l (k : Int) else M.firstS p all (l.drop (k + 1)) := by
 rw [List.drop_eq_getElem_cons hk, rd_nat hk]; rfl
theorem wp.spec_l08First.math (p : List D.Ins) (l : List Int) (h : M.spec_l08First_pre p l) : wp.spec_l08First p l (fun r => r = M.spec_l08First p l) := by
 obtain ⟨h1, h2⟩ := h
 have hl : l.length ≤ 17179869183 := h1
 refine loop_n l.length (fun k => ((k : Int), ())) (fun k => M.firstS p l l = M.firstS p l (l.drop k)) rfl rfl (fun k hk hF next hn => ?_) fun hF next => bcase_f (by simp) ?_
 ·rw [firstS_from p l l k hk] at hF
  refine bcase_t (by simp; omega) ?_
  have hN := h2 _ (rd_mem hk)
  refine loop_n l.length (fun j => ((l.take j).all (M.afterB p (rd l (k : Int))), (j : Int), ())) (fun _ => True) rfl trivial (fun j hj _ next2 hn2 => ?_) fun _ next2 => ?_
  ·have hn2 := hn2 trivial
   have ht : (l.take (j + 1)).all (M.afterB p (rd l (k : Int))) = ((l.take j).all (M.afterB p (rd l (k : Int))) && M.afterB p (rd l (k : Int)) (rd l (j : Int))) := by
    rw [List.take_add_one, List.getElem?_eq_getElem hj, rd_nat hj, List.all_append]; simp
   rw [ht] at hn2
   refine bcase_t (by simp; omega) (bcase_mk (fun e => ⟨by omega, by omega, hN, fun r hr => ?_⟩) fun e => ?_)
   ·rw [e, Bool.true_and] at hn2
    rw [hr, up64 hj (by omega)]; exact hn2
   ·rw [e, Bool.false_and] at hn2
    rw [up64 hj (by omega)]; exact hn2
  ·refine bcase_f (by simp) ?_
   rw [List.take_length]
   refine bcase_mk (fun e => ⟨by omega, ?_⟩) fun e => ?_
   ·rw [if_pos e] at hF; exact hF.symm
   ·rw [if_neg (by rw [e]; simp)] at hF
    rw [up64 hk (by omega)]; exact hn hF
 ·rw [List.drop_length] at hF; exact hF.symm
theorem afters_nodes {p : List D.Ins} {k x : Int} (h : x ∈ M.others (M.aftersOf p k) k) : M.Node p x ∧ M.Node p k ∧ M.exitB p k = true ∧ M.afterB p k x = true := by
 have h := (List.mem_filter.1 h).1
 unfold M.aftersOf at h
 split at h
 ·rename_i e
  simp only [Bool.and_eq_true] at e
  have hN := isNode_iff.1 e.1
  obtain ⟨j, hj, rfl, hg⟩ := mem_idx.1 h
  exact ⟨⟨hN.1, by omega, by omega⟩, hN, e.2, hg⟩
 ·exact absurd h List.not_mem_nil
theorem afters_len (p : List D.Ins) (k : Int) : (M.aftersOf p k).length ≤ p.length + 1 := by
 unfold M.aftersOf
 split
 ·exact idx_len _ _
 ·simp
theorem afters_ok {p : List D.Ins} (hp : M.PSmall p) (k : Int) : M.Nodes p (M.others (M.aftersOf p k) k) := by
 have h1 := afters_len p k
 have h2 := List.length_filter_le (fun x => x != k) (M.aftersOf p k)
 unfold M.PSmall at hp
 refine ⟨?_, fun x hx => (afters_nodes hx).1⟩
 show (M.others (M.aftersOf p k) k).length ≤ 17179869183
 unfold M.others; omega
theorem wp.spec_FirstAfter.math (p : List D.Ins) (k : Int) (h : M.spec_FirstAfter_pre p k) : wp.spec_FirstAfter p k (fun r => r = M.spec_FirstAfter p k) := by
 have h1 := afters_len p k
 have hs : p.length ≤ 2097152 := h
 refine ⟨h, fun r hr => ⟨?_, fun r2 hr2 => ⟨?_, fun r3 hr3 => ?_⟩⟩⟩
 ·rw [hr]; show (M.aftersOf p k).length ≤ 17179869183; omega
 ·rw [hr2, hr]; exact afters_ok h k
 ·rw [hr3, hr2, hr]; rfl
theorem br_in {p : List D.Ins} {b : Int} (h : M.Branch p b) : M.Node p (b + 1) ∧ M.Node p (rd p b).B ∧ M.Node p b ∧ b + 1 < 9223372036854775807 := by
 obtain ⟨hp, h0, h1, hb⟩ := h
 have h32 := progLen hp
 simp only [M.isBr, Bool.and_eq_true, beq_iff_eq] at hb
 have ht := target_in (nodeOk hp h0 h1) (.inl hb.1)
 exact ⟨⟨hp, by omega, by omega⟩, ⟨hp, ht⟩, ⟨hp, by omega, by omega⟩, by omega⟩
theorem wp.spec_l09Join.math (p : List D.Ins) (b : Int) (h : M.spec_l09Join_pre p b) : wp.spec_l09Join p b (fun r => r = M.spec_l09Join p b) := by
 obtain ⟨n1, n2, n3, n4⟩ := br_in h
 have hs := prog_small h.1
 have hw : wrap .i64 (b + 1) = b + 1 := w64 (by have := h.2.1; omega) (by omega)
 have hb := h.2
 unfold wp.spec_l09Join
 rw [hw]
 have m1 : M.spec_ReachesExit p (b + 1) = M.exitB p (b + 1) := by simp [M.spec_ReachesExit, isNode_iff.2 n1]
 have m2 : M.spec_ReachesExit p (rd p b).B = M.exitB p (rd p b).B := by simp [M.spec_ReachesExit, isNode_iff.2 n2]
 refine ⟨hs, fun r hr => bcase_mk (fun e => ?_) fun e => ⟨⟨hb.1, hb.2.1⟩, hs, fun r2 hr2 => bcase_mk (fun e2 => ?_) fun e2 => ⟨hs, fun r3 hr3 => ?_⟩⟩⟩
 all_goals rw [m1] at hr
 ·simp [M.spec_l09Join, M.joinB, nt e hr]
 ·rw [m2] at hr2
  simp [M.spec_l09Join, M.joinB, nt e2 hr2]
 ·rw [m2] at hr2
  rw [hr3]; simp [M.spec_l09Join, M.joinB, nf e hr, nf e2 hr2, M.spec_FirstAfter]
end Go.V
namespace Go.V
open IntKind (wrap)
def wp.spec_DropFrames (xs0 : List D.Ins) (s1 : D.Warp) (Q : D.Warp → Prop) : Prop :=
 (M.spec_l12Copy_pre s1 ∧ ∀ r25, r25 = M.spec_l12Copy s1 → LoopP (σ := Int × Int × (List D.Frame) × Unit) (fun (p121 : Int × Int × (List D.Frame) × Unit) next89 => match p121 with | (i81, i82, xs83, _) => bcase (decide (i81 ≥ 0)) (((0 ≤ i81 ∧ i81 < (xs83.length : Int)) ∧ bcase ((rd xs83 i81).Pc != (rd xs83 i81).Stop) (bcase ((rd xs83 i81).Pc != (xs0.length : Int)) (Q (⟨i82, xs83, r25.Regs⟩ : D.Warp)) (((0 ≤ i81 ∧ i81 ≤ (xs83.length : Int)) ∧ next89 ((wrap .i64 (i81 - 1)), i82, (List.take (i81.toNat) xs83), ())))) (((0 ≤ i81 ∧ i81 ≤ (xs83.length : Int)) ∧ next89 ((wrap .i64 (i81 - 1)), i82, (List.take (i81.toNat) xs83), ()))))) (Q (⟨i82, xs83, r25.Regs⟩ : D.Warp))) ((wrap .i64 ((r25.Frames.length : Int) - 1)), r25.Number, r25.Frames, ()))
def wp.spec_l13Apply (xs0 : List D.Ins) (s1 : D.Warp) (Q : (List Int) → Prop) : Prop :=
 ((([] : List Int).length + s1.Regs.length ≤ 17179869184) ∧ ((0 ≤ (wrap .i64 ((s1.Frames.length : Int) - 1)) ∧ (wrap .i64 ((s1.Frames.length : Int) - 1)) < (s1.Frames.length : Int)) ∧ LoopP (σ := Int × (List Int) × Unit) (fun (p197 : Int × (List Int) × Unit) next117 => match p197 with | (i111, xs112, _) => bcase (decide (i111 < 8)) ((∀ r119, r119 = M.spec_HasLane ((rd s1.Frames (wrap .i64 ((s1.Frames.length : Int) - 1))).Mask) i111 → bcase r119 (((0 ≤ (rd s1.Frames (wrap .i64 ((s1.Frames.length : Int) - 1))).Pc ∧ (rd s1.Frames (wrap .i64 ((s1.Frames.length : Int) - 1))).Pc < (xs0.length : Int)) ∧ ((0 ≤ (wrap .i64 ((wrap .i64 (i111 + 1)) * 4)) ∧ (wrap .i64 ((wrap .i64 (i111 + 1)) * 4)) ≤ (s1.Regs.length : Int) ∧ 0 ≤ (wrap .i64 (i111 * 4)) ∧ (wrap .i64 (i111 * 4)) ≤ (wrap .i64 ((wrap .i64 (i111 + 1)) * 4))) ∧ (M.spec_l10Apply_pre (rd xs0 ((rd s1.Frames (wrap .i64 ((s1.Frames.length : Int) - 1))).Pc)) (wrap .i64 ((wrap .i64 (s1.Number * 8)) + i111)) (List.drop ((wrap .i64 (i111 * 4)).toNat) (List.take ((wrap .i64 ((wrap .i64 (i111 + 1)) * 4)).toNat) s1.Regs)) ∧ ∀ r134, r134 = M.spec_l10Apply (rd xs0 ((rd s1.Frames (wrap .i64 ((s1.Frames.length : Int) - 1))).Pc)) (wrap .i64 ((wrap .i64 (s1.Number * 8)) + i111)) (List.drop ((wrap .i64 (i111 * 4)).toNat) (List.take ((wrap .i64 ((wrap .i64 (i111 + 1)) * 4)).toNat) s1.Regs)) → LoopP (σ := Int × (List Int) × Unit) (fun (p188 : Int × (List Int) × Unit) next166 => match p188 with | (i160, xs161, _) => bcase (decide (i160 < 4)) (((0 ≤ i160 ∧ i160 < (r134.length : Int)) ∧ ((0 ≤ (wrap .i64 ((wrap .i64 (i111 * 4)) + i160)) ∧ (wrap .i64 ((wrap .i64 (i111 * 4)) + i160)) < (xs161.length : Int)) ∧ next166 ((wrap .i64 (i160 + 1)), (List.set xs161 ((wrap .i64 ((wrap .i64 (i111 * 4)) + i160)).toNat) (rd r134 i160)), ())))) (next117 ((wrap .i64 (i111 + 1)), xs161, ()))) (0, xs112, ()))))) (next117 ((wrap .i64 (i111 + 1)), xs112, ())))) (Q xs112)) (0, (([] : List Int) ++ s1.Regs), ())))
def wp.spec_l13Step (xs0 : List D.Ins) (s1 : D.Warp) (Q : D.Warp → Prop) : Prop :=
 (M.spec_l12Copy_pre s1 ∧ ∀ r25, r25 = M.spec_l12Copy s1 → ((0 ≤ (wrap .i64 ((s1.Frames.length : Int) - 1)) ∧ (wrap .i64 ((s1.Frames.length : Int) - 1)) < (s1.Frames.length : Int)) ∧ ((0 ≤ (rd s1.Frames (wrap .i64 ((s1.Frames.length : Int) - 1))).Pc ∧ (rd s1.Frames (wrap .i64 ((s1.Frames.length : Int) - 1))).Pc < (xs0.length : Int)) ∧ (M.spec_l13Splits_pre xs0 s1 ∧ ∀ r56, r56 = M.spec_l13Splits xs0 s1 → bcase r56 ((M.spec_ZeroMask_pre s1 ((rd xs0 ((rd s1.Frames (wrap .i64 ((s1.Frames.length : Int) - 1))).Pc)).A) ∧ ∀ r61, r61 = M.spec_ZeroMask s1 ((rd xs0 ((rd s1.Frames (wrap .i64 ((s1.Frames.length : Int) - 1))).Pc)).A) → (M.spec_l09Join_pre xs0 ((rd s1.Frames (wrap .i64 ((s1.Frames.length : Int) - 1))).Pc) ∧ ∀ r66, r66 = M.spec_l09Join xs0 ((rd s1.Frames (wrap .i64 ((s1.Frames.length : Int) - 1))).Pc) → ((0 ≤ (wrap .i64 ((s1.Frames.length : Int) - 1)) ∧ (wrap .i64 ((s1.Frames.length : Int) - 1)) < (r25.Frames.length : Int)) ∧ (((List.set r25.Frames ((wrap .i64 ((s1.Frames.length : Int) - 1)).toNat) (⟨r66, (rd r25.Frames (wrap .i64 ((s1.Frames.length : Int) - 1))).Stop, (rd r25.Frames (wrap .i64 ((s1.Frames.length : Int) - 1))).Mask⟩ : D.Frame)).length + ([(⟨(wrap .i64 ((rd s1.Frames (wrap .i64 ((s1.Frames.length : Int) - 1))).Pc + 1)), r66, (wrap .i64 ((rd s1.Frames (wrap .i64 ((s1.Frames.length : Int) - 1))).Mask - r61))⟩ : D.Frame), (⟨(rd xs0 ((rd s1.Frames (wrap .i64 ((s1.Frames.length : Int) - 1))).Pc)).B, r66, r61⟩ : D.Frame)] : List D.Frame).length ≤ 17179869184) ∧ (M.spec_DropFrames_pre xs0 (⟨r25.Number, ((List.set r25.Frames ((wrap .i64 ((s1.Frames.length : Int) - 1)).toNat) (⟨r66, (rd r25.Frames (wrap .i64 ((s1.Frames.length : Int) - 1))).Stop, (rd r25.Frames (wrap .i64 ((s1.Frames.length : Int) - 1))).Mask⟩ : D.Frame)) ++ ([(⟨(wrap .i64 ((rd s1.Frames (wrap .i64 ((s1.Frames.length : Int) - 1))).Pc + 1)), r66, (wrap .i64 ((rd s1.Frames (wrap .i64 ((s1.Frames.length : Int) - 1))).Mask - r61))⟩ : D.Frame), (⟨(rd xs0 ((rd s1.Frames (wrap .i64 ((s1.Frames.length : Int) - 1))).Pc)).B, r66, r61⟩ : D.Frame)] : List D.Frame)), r25.Regs⟩ : D.Warp) ∧ ∀ r89, r89 = M.spec_DropFrames xs0 (⟨r25.Number, ((List.set r25.Frames ((wrap .i64 ((s1.Frames.length : Int) - 1)).toNat) (⟨r66, (rd r25.Frames (wrap .i64 ((s1.Frames.length : Int) - 1))).Stop, (rd r25.Frames (wrap .i64 ((s1.Frames.length : Int) - 1))).Mask⟩ : D.Frame)) ++ ([(⟨(wrap .i64 ((rd s1.Frames (wrap .i64 ((s1.Frames.length : Int) - 1))).Pc + 1)), r66, (wrap .i64 ((rd s1.Frames (wrap .i64 ((s1.Frames.length : Int) - 1))).Mask - r61))⟩ : D.Frame), (⟨(rd xs0 ((rd s1.Frames (wrap .i64 ((s1.Frames.length : Int) - 1))).Pc)).B, r66, r61⟩ : D.Frame)] : List D.Frame)), r25.Regs⟩ : D.Warp) → Q (⟨r89.Number, r89.Frames, r89.Regs⟩ : D.Warp))))))) ((M.spec_l13Apply_pre xs0 s1 ∧ ∀ r100, r100 = M.spec_l13Apply xs0 s1 → bcase ((rd xs0 ((rd s1.Frames (wrap .i64 ((s1.Frames.length : Int) - 1))).Pc)).Op == 12) (((0 ≤ (wrap .i64 ((s1.Frames.length : Int) - 1)) ∧ (wrap .i64 ((s1.Frames.length : Int) - 1)) < (r25.Frames.length : Int)) ∧ (M.spec_DropFrames_pre xs0 (⟨r25.Number, (List.set r25.Frames ((wrap .i64 ((s1.Frames.length : Int) - 1)).toNat) (⟨(xs0.length : Int), (rd r25.Frames (wrap .i64 ((s1.Frames.length : Int) - 1))).Stop, (rd r25.Frames (wrap .i64 ((s1.Frames.length : Int) - 1))).Mask⟩ : D.Frame)), r100⟩ : D.Warp) ∧ ∀ r117, r117 = M.spec_DropFrames xs0 (⟨r25.Number, (List.set r25.Frames ((wrap .i64 ((s1.Frames.length : Int) - 1)).toNat) (⟨(xs0.length : Int), (rd r25.Frames (wrap .i64 ((s1.Frames.length : Int) - 1))).Stop, (rd r25.Frames (wrap .i64 ((s1.Frames.length : Int) - 1))).Mask⟩ : D.Frame)), r100⟩ : D.Warp) → Q (⟨r117.Number, r117.Frames, r117.Regs⟩ : D.Warp)))) (bcase ((rd xs0 ((rd s1.Frames (wrap .i64 ((s1.Frames.length : Int) - 1))).Pc)).Op == 11) (((0 ≤ (wrap .i64 ((s1.Frames.length : Int) - 1)) ∧ (wrap .i64 ((s1.Frames.length : Int) - 1)) < (r25.Frames.length : Int)) ∧ (M.spec_DropFrames_pre xs0 (⟨r25.Number, (List.set r25.Frames ((wrap .i64 ((s1.Frames.length : Int) - 1)).toNat) (⟨(rd xs0 ((rd s1.Frames (wrap .i64 ((s1.Frames.length : Int) - 1))).Pc)).B, (rd r25.Frames (wrap .i64 ((s1.Frames.length : Int) - 1))).Stop, (rd r25.Frames (wrap .i64 ((s1.Frames.length : Int) - 1))).Mask⟩ : D.Frame)), r100⟩ : D.Warp) ∧ ∀ r136, r136 = M.spec_DropFrames xs0 (⟨r25.Number, (List.set r25.Frames ((wrap .i64 ((s1.Frames.length : Int) - 1)).toNat) (⟨(rd xs0 ((rd s1.Frames (wrap .i64 ((s1.Frames.length : Int) - 1))).Pc)).B, (rd r25.Frames (wrap .i64 ((s1.Frames.length : Int) - 1))).Stop, (rd r25.Frames (wrap .i64 ((s1.Frames.length : Int) - 1))).Mask⟩ : D.Frame)), r100⟩ : D.Warp) → Q (⟨r136.Number, r136.Frames, r136.Regs⟩ : D.Warp)))) (((0 ≤ (wrap .i64 ((s1.Frames.length : Int) - 1)) ∧ (wrap .i64 ((s1.Frames.length : Int) - 1)) < (r25.Frames.length : Int)) ∧ JoinP (σ := Bool × Unit) (fun J156 => bcase ((rd xs0 ((rd s1.Frames (wrap .i64 ((s1.Frames.length : Int) - 1))).Pc)).Op == 10) ((M.spec_ZeroMask_pre s1 ((rd xs0 ((rd s1.Frames (wrap .i64 ((s1.Frames.length : Int) - 1))).Pc)).A) ∧ ∀ r160, r160 = M.spec_ZeroMask s1 ((rd xs0 ((rd s1.Frames (wrap .i64 ((s1.Frames.length : Int) - 1))).Pc)).A) → J156 ((r160 == (rd s1.Frames (wrap .i64 ((s1.Frames.length : Int) - 1))).Mask), ()))) (J156 (false, ()))) (fun (p198 : Bool × Unit) => match p198 with | (b155, _) => bcase b155 (((0 ≤ (wrap .i64 ((s1.Frames.length : Int) - 1)) ∧ (wrap .i64 ((s1.Frames.length : Int) - 1)) < ((List.set r25.Frames ((wrap .i64 ((s1.Frames.length : Int) - 1)).toNat) (⟨(wrap .i64 ((rd s1.Frames (wrap .i64 ((s1.Frames.length : Int) - 1))).Pc + 1)), (rd r25.Frames (wrap .i64 ((s1.Frames.length : Int) - 1))).Stop, (rd r25.Frames (wrap .i64 ((s1.Frames.length : Int) - 1))).Mask⟩ : D.Frame)).length : Int)) ∧ (M.spec_DropFrames_pre xs0 (⟨r25.Number, (List.set r25.Frames ((wrap .i64 ((s1.Frames.length : Int) - 1)).toNat) (⟨(rd xs0 ((rd s1.Frames (wrap .i64 ((s1.Frames.length : Int) - 1))).Pc)).B, (rd r25.Frames (wrap .i64 ((s1.Frames.length : Int) - 1))).Stop, (rd r25.Frames (wrap .i64 ((s1.Frames.length : Int) - 1))).Mask⟩ : D.Frame)), r100⟩ : D.Warp) ∧ ∀ r175, r175 = M.spec_DropFrames xs0 (⟨r25.Number, (List.set r25.Frames ((wrap .i64 ((s1.Frames.length : Int) - 1)).toNat) (⟨(rd xs0 ((rd s1.Frames (wrap .i64 ((s1.Frames.length : Int) - 1))).Pc)).B, (rd r25.Frames (wrap .i64 ((s1.Frames.length : Int) - 1))).Stop, (rd r25.Frames (wrap .i64 ((s1.Frames.length : Int) - 1))).Mask⟩ : D.Frame)), r100⟩ : D.Warp) → Q (⟨r175.Number, r175.Frames, r175.Regs⟩ : D.Warp)))) ((M.spec_DropFrames_pre xs0 (⟨r25.Number, (List.set r25.Frames ((wrap .i64 ((s1.Frames.length : Int) - 1)).toNat) (⟨(wrap .i64 ((rd s1.Frames (wrap .i64 ((s1.Frames.length : Int) - 1))).Pc + 1)), (rd r25.Frames (wrap .i64 ((s1.Frames.length : Int) - 1))).Stop, (rd r25.Frames (wrap .i64 ((s1.Frames.length : Int) - 1))).Mask⟩ : D.Frame)), r100⟩ : D.Warp) ∧ ∀ r186, r186 = M.spec_DropFrames xs0 (⟨r25.Number, (List.set r25.Frames ((wrap .i64 ((s1.Frames.length : Int) - 1)).toNat) (⟨(wrap .i64 ((rd s1.Frames (wrap .i64 ((s1.Frames.length : Int) - 1))).Pc + 1)), (rd r25.Frames (wrap .i64 ((s1.Frames.length : Int) - 1))).Stop, (rd r25.Frames (wrap .i64 ((s1.Frames.length : Int) - 1))).Mask⟩ : D.Frame)), r100⟩ : D.Warp) → Q (⟨r186.Number, r186.Frames, r186.Regs⟩ : D.Warp)))))))))))))
end Go.V
namespace Go.V
open IntKind (wrap)
theorem afterB_iff {p : List D.Ins} {k later : Int} (h : M.Node p k) : M.afterB p k later = true ↔ ¬ Rch p later [k] (p.length : Int) := by
 have hn : M.nodeIn p (p.length : Int) := ⟨by omega, by omega⟩
 have := reached_iff (wo := later) h.1 (fun x hx => by obtain rfl := List.mem_singleton.1 hx; exact h.2) hn
 unfold M.afterB
 rw [← this]
 cases rd (M.reached p [k] later) (p.length : Int) <;> simp
theorem firstS_mem {p : List D.Ins} {all : List Int} : ∀ (l : List Int), (∃ x ∈ l, all.all (M.afterB p x) = true) → M.firstS p all l ∈ l ∧ all.all (M.afterB p (M.firstS p all l)) = true
 | [], h => by obtain ⟨x, hx, _⟩ := h; cases hx
 | y :: l, h => by
  by_cases hy : all.all (M.afterB p y) = true
  ·simp only [M.firstS, hy, if_true]; exact ⟨List.mem_cons_self, trivial⟩
  ·have : ∃ x ∈ l, all.all (M.afterB p x) = true := by
     obtain ⟨x, hx, hg⟩ := h
     rcases List.mem_cons.1 hx with rfl | hx
     ·exact absurd hg hy
     ·exact ⟨x, hx, hg⟩
   have ih := firstS_mem l this
   simp only [M.firstS, hy]
   exact ⟨List.mem_cons_of_mem _ ih.1, ih.2⟩
theorem rch_via {p : List D.Ins} {y b : Int} {v : Int} (h : Rch p y [b] v) {x : Int} (hx : Rch p y [v] x) : Rch p y [b] x := by
 induction hx with
 | base hs hne => obtain rfl := List.mem_singleton.1 hs; exact h
 | step _ hs hne ih => exact .step ih hs hne
theorem first_in {p : List D.Ins} {b : Int} (hb : M.Node p b) (hbn : b ≠ (p.length : Int)) (he : M.exitB p b = true) : M.firstAfter p b ∈ M.others (M.aftersOf p b) b := by
 have hn : M.nodeIn p (p.length : Int) := ⟨by omega, by omega⟩
 have hR := (reached_iff hb.1 (fun x hx => by obtain rfl := List.mem_singleton.1 hx; exact hb.2) hn).1 he
 have hmem : ∀ x, M.nodeIn p x → x ≠ b → M.afterB p b x = true → x ∈ M.others (M.aftersOf p b) b := by
  intro x hx hxb ha
  unfold M.others M.aftersOf
  rw [if_pos (by simp only [Bool.and_eq_true]; exact ⟨isNode_iff.2 hb, he⟩)]
  refine List.mem_filter.2 ⟨mem_idx.2 ⟨x.toNat, by unfold M.nodeIn at hx; omega, by unfold M.nodeIn at hx; omega, ha⟩, by simpa using hxb⟩
 refine (firstS_mem _ ?_).1
 have good : ∀ x ∈ M.others (M.aftersOf p b) b, ∀ v, (∀ y ∈ M.others (M.aftersOf p b) b, Rch p y [b] v) → x ∈ M.nextOf p v → (M.others (M.aftersOf p b) b).all (M.afterB p x) = true := by
  intro x hx v hv hvx
  rw [List.all_eq_true]
  intro y hy
  obtain ⟨hxN, _, _, _⟩ := afters_nodes hx
  obtain ⟨hyN, _, _, hya⟩ := afters_nodes hy
  rw [afterB_iff hxN]
  intro hr
  refine (afterB_iff hb).1 hya ?_
  have hxy : x ≠ y := by
   rintro rfl
   have : ∀ z, Rch p x [x] z → False := fun z hz => by
    induction hz with
    | base hs hne => exact hne (List.mem_singleton.1 hs)
    | step _ _ _ ih => exact ih
   exact this _ hr
  exact rch_via (.step (hv y hy) hvx hxy) hr
 have hbL : ∀ y ∈ M.others (M.aftersOf p b) b, b ≠ y := fun y hy e => by
  have := (List.mem_filter.1 hy).2
  simp [e] at this
 have key : ∀ v, Rch p (-1) [b] v → (∃ x ∈ M.others (M.aftersOf p b) b, (M.others (M.aftersOf p b) b).all (M.afterB p x) = true) ∨ (v ∉ M.others (M.aftersOf p b) b ∧ ∀ y ∈ M.others (M.aftersOf p b) b, Rch p y [b] v) := by
  intro v hv
  induction hv with
  | base hs hne =>
   obtain rfl := List.mem_singleton.1 hs
   exact .inr ⟨fun h => hbL _ h rfl, fun y hy => .base (List.mem_singleton.2 rfl) (hbL y hy)⟩
  | @step k s _ hs hne ih =>
   rcases ih with ih | ⟨_, ih⟩
   ·exact .inl ih
   ·by_cases hsL : s ∈ M.others (M.aftersOf p b) b
    ·exact .inl ⟨s, hsL, good s hsL k ih hs⟩
    ·exact .inr ⟨hsL, fun y hy => .step (ih y hy) hs (fun e => hsL (e ▸ hy))⟩
 rcases key _ hR with h | ⟨h, _⟩
 ·exact h
 ·refine absurd (hmem _ hn (Ne.symm hbn) ((afterB_iff hb).2 fun hr => ?_)) h
  have : ∀ z, Rch p (p.length : Int) [b] z → z ≠ (p.length : Int) := fun z hz => by
   cases hz with
   | base _ hne => exact hne
   | step _ _ hne => exact hne
  exact this _ hr rfl
theorem join_in {p : List D.Ins} {b : Int} (h : M.Branch p b) : M.nodeIn p (M.joinB p b) := by
 obtain ⟨h1, h2, hb, _⟩ := br_in h
 have hn : M.nodeIn p (p.length : Int) := ⟨by omega, by omega⟩
 unfold M.joinB
 split
 ·rename_i e
  simp only [Bool.and_eq_true] at e
  have hx1 := (reached_iff hb.1 (fun x hx => by obtain rfl := List.mem_singleton.1 hx; exact h1.2) hn).1 e.1
  have hbr := h.2.2.2
  simp only [M.isBr, Bool.and_eq_true, beq_iff_eq, bne_iff_ne] at hbr
  have hnx : b + 1 ∈ M.nextOf p b := by
   unfold M.nextOf
   have := h.2.2.1
   rw [if_neg (by omega), if_neg (by omega), if_neg (by omega), if_pos hbr.1]
   exact putTwo_mem.2 (.inl rfl)
  have he : M.exitB p b = true := by
   refine (reached_iff hb.1 (fun x hx => by obtain rfl := List.mem_singleton.1 hx; exact hb.2) hn).2 ?_
   have hb0 := h.2.1
   exact rch_via (b := b) (y := -1) (.step (.base (List.mem_singleton.2 rfl) (by omega)) hnx (by omega)) hx1
  exact (afters_nodes (first_in hb (by have := h.2.2.1; omega) he)).1.2
 ·exact hn
theorem sub_check : ((List.range 256).all fun m => (List.range 256).all fun z => !(m &&& z == z) || (m &&& (2 ^ 64 - 1 - z) == m - z)) = true := by kernel_rfl
theorem lane_check : ((List.range 256).all fun m => (List.range 8).all fun l => !(M.hasLane ((m : Nat) : Int) ((l : Nat) : Int)) || (m &&& 2 ^ l == 2 ^ l)) = true := by kernel_rfl
theorem bit_check : ((List.range 8).all fun l => M.bitAt ((l : Nat) : Int) == ((2 ^ l : Nat) : Int)) = true := by kernel_rfl
theorem bitOr_nat {a b : Nat} (ha : a < 256) (hb : b < 256) : bitOr .i64 ((a : Nat) : Int) ((b : Nat) : Int) = ((a ||| b : Nat) : Int) := by
 have hlt : a ||| b < 256 := Nat.or_lt_two_pow (n := 8) ha hb
 have e : (BitVec.ofInt (IntKind.bits .i64) ((a : Nat) : Int) ||| BitVec.ofInt (IntKind.bits .i64) ((b : Nat) : Int)).toNat = a ||| b := by
  show (BitVec.ofInt 64 ((a : Nat) : Int) ||| BitVec.ofInt 64 ((b : Nat) : Int)).toNat = a ||| b
  rw [BitVec.ofInt_natCast, BitVec.ofInt_natCast, BitVec.toNat_or, BitVec.toNat_ofNat, BitVec.toNat_ofNat, Nat.mod_eq_of_lt (by omega), Nat.mod_eq_of_lt (by omega)]
 unfold bitOr
 rw [e]
 exact w64 (by omega) (by omega)
theorem bitNot_nat {a b : Nat} (ha : a < 256) (hb : b < 256) (hs : a &&& b = b) : bitNot .i64 ((a : Nat) : Int) ((b : Nat) : Int) = ((a - b : Nat) : Int) := by
 have hc := List.all_eq_true.1 (List.all_eq_true.1 sub_check a (List.mem_range.2 ha)) b (List.mem_range.2 hb)
 simp only [hs, BEq.rfl, Bool.not_true, Bool.false_or, beq_iff_eq] at hc
 have e : (BitVec.ofInt (IntKind.bits .i64) ((a : Nat) : Int) &&& ~~~(BitVec.ofInt (IntKind.bits .i64) ((b : Nat) : Int))).toNat = a - b := by
  show (BitVec.ofInt 64 ((a : Nat) : Int) &&& ~~~(BitVec.ofInt 64 ((b : Nat) : Int))).toNat = a - b
  rw [BitVec.ofInt_natCast, BitVec.ofInt_natCast, BitVec.toNat_and, BitVec.toNat_not, BitVec.toNat_ofNat, BitVec.toNat_ofNat, Nat.mod_eq_of_lt (by omega), Nat.mod_eq_of_lt (by omega)]
  exact hc
 unfold bitNot
 rw [e]
 exact w64 (by omega) (by omega)
theorem isMask_nat {m : Int} (h : M.isMask m = true) : ∃ k : Nat, m = (k : Int) ∧ k < 256 := by
 simp only [M.isMask, M.isIn, Bool.and_eq_true, decide_eq_true_eq] at h
 exact ⟨m.toNat, by omega, by omega⟩
theorem zero_fold {x : D.Warp} {reg : Int} {m : Nat} (hm : m < 256) : ∀ (l : List Int), (∀ k ∈ l, k ∈ M.lanesOf (m : Int)) → ∀ z : Nat, z < 256 → m &&& z = z → ∃ z' : Nat, l.foldl (M.zeroStep x reg) (z : Int) = (z' : Int) ∧ z' < 256 ∧ m &&& z' = z'
 | [], _, z, hz, hs => ⟨z, rfl, hz, hs⟩
 | k :: l, hl, z, hz, hs => by
  have hk := hl k List.mem_cons_self
  have hrest := fun j hj => hl j (List.mem_cons_of_mem _ hj)
  simp only [List.foldl_cons]
  by_cases e : rd x.Regs (k * 4 + reg) = 0
  ·obtain ⟨h0, h7⟩ := lanes_in hk
   have hkn : ((k.toNat : Nat) : Int) = k := by omega
   have hh : M.hasLane (m : Int) k = true := (List.mem_filter.1 hk).2
   have hc := List.all_eq_true.1 (List.all_eq_true.1 lane_check m (List.mem_range.2 hm)) k.toNat (List.mem_range.2 (by omega))
   rw [hkn, hh] at hc
   simp only [Bool.not_true, Bool.false_or, beq_iff_eq] at hc
   have hb := List.all_eq_true.1 bit_check k.toNat (List.mem_range.2 (by omega))
   rw [hkn] at hb
   have hb := eq_of_beq hb
   have hp : 2 ^ k.toNat < 256 := Nat.lt_of_lt_of_le (Nat.pow_lt_pow_right (by omega) (show k.toNat < 8 by omega)) (Nat.le_refl _)
   have hst : M.zeroStep x reg (z : Int) k = ((z ||| 2 ^ k.toNat : Nat) : Int) := by
    unfold M.zeroStep
    rw [if_pos e, hb, bitOr_nat hz hp]
   rw [hst]
   exact zero_fold hm l hrest _ (Nat.or_lt_two_pow (n := 8) hz hp) (by rw [Nat.and_or_distrib_left, hs, hc])
  ·have hst : M.zeroStep x reg (z : Int) k = (z : Int) := by unfold M.zeroStep; rw [if_neg e]
   rw [hst]
   exact zero_fold hm l hrest z hz hs
theorem zeroMask_sub {x : D.Warp} {reg : Int} (h : M.isMask (M.activeMask x) = true) : ∃ m z : Nat, M.activeMask x = (m : Int) ∧ M.zeroMask x reg = (z : Int) ∧ m < 256 ∧ z < 256 ∧ m &&& z = z := by
 obtain ⟨m, hm, hlt⟩ := isMask_nat h
 obtain ⟨z, hz, hzl, hs⟩ := zero_fold (x := x) (reg := reg) hlt (M.lanesOf (m : Int)) (fun _ hk => hk) 0 (by omega) (by simp)
 refine ⟨m, z, hm, ?_, hlt, hzl, hs⟩
 unfold M.zeroMask
 rw [hm]
 exact hz
theorem mask_part {x : D.Warp} {reg : Int} (h : M.isMask (M.activeMask x) = true) :
    M.isMask (M.zeroMask x reg) = true ∧ bitNot .i64 (M.activeMask x) (M.zeroMask x reg) = M.activeMask x - M.zeroMask x reg ∧ M.isMask (M.activeMask x - M.zeroMask x reg) = true := by
 obtain ⟨m, z, hm, hz, h1, h2, hs⟩ := zeroMask_sub (reg := reg) h
 have hle : z ≤ m := by rw [← hs]; exact Nat.and_le_left
 rw [hm, hz, bitNot_nat h1 h2 hs]
 refine ⟨?_, by omega, ?_⟩ <;> (simp only [M.isMask, M.isIn, Bool.and_eq_true, decide_eq_true_eq]; omega)
end Go.V
namespace Go.V
open IntKind (wrap)
theorem rd_take {α : Type} [Inhabited α] {l : List α} {k m : Nat} (h : k < m) : rd (l.take m) (k : Int) = rd l (k : Int) := by
 unfold rd
 rw [List.getD_eq_getElem?_getD, List.getD_eq_getElem?_getD, List.getElem?_take, if_pos (by simpa using h)]
theorem take_take' {α : Type} {l : List α} {k m : Nat} (h : k ≤ m) : (l.take m).take k = l.take k := by rw [List.take_take, Nat.min_eq_left h]
theorem wp.spec_DropFrames.math (p : List D.Ins) (x : D.Warp) (h : M.spec_DropFrames_pre p x) : wp.spec_DropFrames p x (fun r => r = M.spec_DropFrames p x) := by
 unfold wp.spec_DropFrames
 have hL : x.Frames.length ≤ 17179869184 := h.1
 refine ⟨h, fun r hr => ?_⟩
 have hr : r = x := hr
 subst hr
 rw [last_wrap (by omega)]
 refine loop_n r.Frames.length (fun j => ((r.Frames.length : Int) - 1 - (j : Int), r.Number, r.Frames.take (r.Frames.length - j), ())) (fun j => M.dropF r.Frames p.length = M.dropN r.Frames p.length (r.Frames.length - j)) (by simp) (by simp [M.dropF]) (fun j hj hF next hn => ?_) (fun hF next => ?_)
 ·obtain ⟨m, hm⟩ : ∃ m, r.Frames.length - j = m + 1 := ⟨r.Frames.length - j - 1, by omega⟩
  have hm1 : r.Frames.length - (j + 1) = m := by omega
  rw [hm1] at hn
  rw [hm] at hF
  dsimp only
  rw [hm, show ((r.Frames.length : Int) - 1 - (j : Int)) = (m : Int) by omega]
  rw [show ((r.Frames.length : Int) - 1 - ((j + 1 : Nat) : Int)) = wrap .i64 ((m : Int) - 1) by rw [w64 (by omega) (by omega)]; omega] at hn
  have hl : (r.Frames.take (m + 1)).length = m + 1 := by rw [List.length_take]; omega
  rw [hl, rd_take (Nat.lt_succ_self m), Int.toNat_natCast, take_take' (by omega)]
  have go : ¬ ((rd r.Frames (m : Int)).Pc ≠ (rd r.Frames (m : Int)).Stop ∧ (rd r.Frames (m : Int)).Pc ≠ (p.length : Int)) → next (wrap .i64 ((m : Int) - 1), r.Number, r.Frames.take m, ()) := fun hc => hn (by rw [hF]; simp only [M.dropN]; rw [if_neg hc])
  refine bcase_t (by simp) ⟨by omega, ?_⟩
  refine bcase_mk (fun e1 => bcase_mk (fun e2 => ?_) fun e2 => ?_) fun e1 => ?_
  ·simp only [M.dropN] at hF
   rw [if_pos ⟨by simpa using e1, by simpa using e2⟩] at hF
   show _ = M.dropW r p.length
   unfold M.dropW
   rw [hF]
  ·exact ⟨by omega, go (fun hc => hc.2 (by simpa using e2))⟩
  ·exact ⟨by omega, go (fun hc => hc.1 (by simpa using e1))⟩
 ·rw [Nat.sub_self] at hF
  dsimp only
  rw [Nat.sub_self, List.take_zero]
  refine bcase_f (by simp; omega) ?_
  show _ = M.dropW r p.length
  unfold M.dropW
  rw [hF]; rfl
end Go.V
namespace Go.V
open IntKind (wrap)
theorem laneCut_len {r : List Int} {l : Nat} (h : r.length = 32) (hl : l < 8) : (M.laneCut r l).length = 4 := by unfold M.laneCut; simp; omega
theorem putLane_len {r x : List Int} {l : Nat} (h : r.length = 32) (hl : l < 8) (hx : x.length = 4) : (M.putLane r l x).length = 32 := by unfold M.putLane; simp; omega
theorem putLane_get {r x : List Int} {l : Nat} (h : r.length = 32) (hl : l < 8) (hx : x.length = 4) (i : Nat) : (M.putLane r l x)[i]? = if l * 4 ≤ i ∧ i < l * 4 + 4 then x[i - l * 4]? else r[i]? := by
 unfold M.putLane
 rw [List.getElem?_append, List.length_append, List.length_take, Nat.min_eq_left (by omega), hx, List.getElem?_append, List.length_take, Nat.min_eq_left (by omega)]
 by_cases h1 : i < l * 4
 ·rw [if_pos (by omega), if_pos h1, if_neg (by omega), List.getElem?_take, if_pos h1]
 ·by_cases h2 : i < l * 4 + 4
  ·rw [if_pos h2, if_neg h1, if_pos (by omega)]
  ·rw [if_neg h2, if_neg (by omega), List.getElem?_drop]
   congr 1; omega
theorem laneCut_get (r : List Int) (l i : Nat) : (M.laneCut r l)[i]? = if i < 4 then r[l * 4 + i]? else none := by
 unfold M.laneCut
 rw [List.getElem?_drop, List.getElem?_take]
 by_cases h : i < 4
 ·rw [if_pos h, if_pos (by omega)]
 ·rw [if_neg h, if_neg (by omega)]
theorem cut_put_other {r x : List Int} {l j : Nat} (h : r.length = 32) (hl : l < 8) (hx : x.length = 4) (hne : j ≠ l) : M.laneCut (M.putLane r l x) j = M.laneCut r j := by
 apply List.ext_getElem?
 intro i
 rw [laneCut_get, laneCut_get]
 by_cases hi : i < 4
 ·rw [if_pos hi, if_pos hi, putLane_get h hl hx, if_neg (by omega)]
 ·rw [if_neg hi, if_neg hi]
theorem applyTo_len {i : D.Ins} {num m : Int} {r : List Int} (h : r.length = 32) : ∀ k, k ≤ 8 → (M.applyTo i num m r k).length = 32
 | 0, _ => h
 | k + 1, hk => by
  have ih := applyTo_len (i := i) (num := num) (m := m) h k (by omega)
  simp only [M.applyTo]
  split
  ·exact putLane_len ih (by omega) (by rw [apply_len, laneCut_len h (by omega)])
  ·exact ih
theorem applyTo_cut {i : D.Ins} {num m : Int} {r : List Int} (h : r.length = 32) : ∀ k, k ≤ 8 → ∀ j, k ≤ j → M.laneCut (M.applyTo i num m r k) j = M.laneCut r j
 | 0, _, _, _ => rfl
 | k + 1, hk, j, hj => by
  have ih := applyTo_cut (i := i) (num := num) (m := m) h k (by omega) j (by omega)
  simp only [M.applyTo]
  split
  ·rw [cut_put_other (applyTo_len h k (by omega)) (by omega) (by rw [apply_len, laneCut_len h (by omega)]) (by omega), ih]
  ·exact ih
theorem applyAll_len {i : D.Ins} {num m : Int} {r : List Int} (h : r.length = 32) : (M.applyAll i num m r).length = 32 := applyTo_len h 8 (Nat.le_refl _)
theorem words_put {r x : List Int} {l : Nat} (h : r.all M.isWord = true) (hx : x.all M.isWord = true) : (M.putLane r l x).all M.isWord = true := by
 rw [List.all_eq_true] at h hx ⊢
 intro y hy
 unfold M.putLane at hy
 rcases List.mem_append.1 hy with hy | hy
 ·rcases List.mem_append.1 hy with hy | hy
  ·exact h y (List.mem_of_mem_take hy)
  ·exact hx y hy
 ·exact h y (List.mem_of_mem_drop hy)
theorem words_cut {r : List Int} {l : Nat} (h : r.all M.isWord = true) : (M.laneCut r l).all M.isWord = true := by
 rw [List.all_eq_true] at h ⊢
 intro y hy
 exact h y (List.mem_of_mem_take (List.mem_of_mem_drop hy))
theorem applyTo_words {i : D.Ins} {n num m : Int} {r : List Int} (hok : M.insOk i n = true) (hn : 0 ≤ num ∧ num ≤ 2) (hl : r.length = 32) (h : r.all M.isWord = true) : ∀ k, k ≤ 8 → (M.applyTo i num m r k).all M.isWord = true
 | 0, _ => h
 | k + 1, hk => by
  have ih := applyTo_words (m := m) hok hn hl h k (by omega)
  simp only [M.applyTo]
  split
  ·exact words_put ih (apply_words hok (by omega) (laneCut_len hl (by omega)) (words_cut h))
  ·exact ih
theorem lastF_set {fs : List D.Frame} (h : fs ≠ []) (pc : Int) : M.lastF (M.setTop fs pc) = ⟨pc, (M.lastF fs).Stop, (M.lastF fs).Mask⟩ := by
 have hpos : 0 < fs.length := List.length_pos_iff.2 h
 have e : ((fs.length : Int) - 1) = ((fs.length - 1 : Nat) : Int) := by omega
 unfold M.lastF M.setTop
 rw [List.length_set, e, rd_nat (by rw [List.length_set]; omega), List.getElem_set_self]
 unfold M.lastF
 rw [e]
theorem mem_lastF {fs : List D.Frame} (h : fs ≠ []) : M.lastF fs ∈ fs := by
 have hpos : 0 < fs.length := List.length_pos_iff.2 h
 exact rd_of (by omega) (by omega)
theorem setTop_all {fs : List D.Frame} {n pc : Int} (h : fs.all (M.frameOk n) = true) (hx : fs ≠ []) (hp : 0 ≤ pc ∧ pc ≤ n) : (M.setTop fs pc).all (M.frameOk n) = true := by
 rw [List.all_eq_true] at h ⊢
 intro f hf
 rcases List.mem_or_eq_of_mem_set hf with hf | rfl
 ·exact h f hf
 ·have := h _ (mem_lastF hx)
  simp only [M.frameOk, M.isIn, Bool.and_eq_true, decide_eq_true_eq] at this ⊢
  exact ⟨hp, this.2⟩
theorem drop_spec (fs : List D.Frame) (n : Int) : ∀ k, k ≤ fs.length → M.dropN fs n k = [] ∨ ∃ j : Nat, 0 < j ∧ j ≤ k ∧ M.dropN fs n k = fs.take j ∧ (rd fs ((j - 1 : Nat) : Int)).Pc ≠ (rd fs ((j - 1 : Nat) : Int)).Stop ∧ (rd fs ((j - 1 : Nat) : Int)).Pc ≠ n
 | 0, _ => .inl rfl
 | k + 1, hk => by
  simp only [M.dropN]
  split
  ·rename_i e
   exact .inr ⟨k + 1, by omega, Nat.le_refl _, rfl, e⟩
  ·rcases drop_spec fs n k (by omega) with h | ⟨j, h0, h1, h2⟩
   ·exact .inl h
   ·exact .inr ⟨j, h0, by omega, h2⟩
theorem drop_fine {fs : List D.Frame} {n : Int} (hall : fs.all (M.frameOk n) = true) (hl : fs.length ≤ 24) (h0 : fs ≠ [] → (rd fs 0).Stop = n ∧ (rd fs 0).Mask = 255) : M.areFrames (M.dropF fs n) n = true := by
 unfold M.dropF
 rcases drop_spec fs n fs.length (Nat.le_refl _) with h | ⟨j, hj0, hj1, h2, h3, h4⟩
 ·rw [h]; rfl
 ·rw [h2]
  have hne : fs ≠ [] := by intro e; rw [e] at hj1; simp at hj1; omega
  have hlen : (fs.take j).length = j := by rw [List.length_take]; omega
  have hall' : (fs.take j).all (M.frameOk n) = true := by
   rw [List.all_eq_true] at hall ⊢
   exact fun f hf => hall f (List.mem_of_mem_take hf)
  have hlast : M.lastF (fs.take j) = rd fs ((j - 1 : Nat) : Int) := by
   unfold M.lastF
   rw [hlen, show ((j : Int) - 1) = ((j - 1 : Nat) : Int) by omega, rd_take (by omega)]
  have hz : rd (fs.take j) 0 = rd fs 0 := by
   have := rd_take (l := fs) (k := 0) (m := j) (by omega)
   exact this
  unfold M.areFrames
  rw [hall', Bool.true_and, Bool.or_eq_true]
  right
  unfold M.endsOk
  rw [hlast, hz, hlen]
  obtain ⟨k1, k2⟩ := h0 hne
  simp only [Bool.and_eq_true, decide_eq_true_eq, bne_iff_ne, beq_iff_eq]
  exact ⟨by omega, h3, h4, k1, k2⟩
theorem setTop_first {fs : List D.Frame} (h : fs ≠ []) (pc : Int) : (rd (M.setTop fs pc) 0).Stop = (rd fs 0).Stop ∧ (rd (M.setTop fs pc) 0).Mask = (rd fs 0).Mask := by
 have hpos : 0 < fs.length := List.length_pos_iff.2 h
 have z : (0 : Int) = ((0 : Nat) : Int) := rfl
 by_cases h1 : fs.length = 1
 ·have hl := lastF_set h pc
  have e1 : M.lastF (M.setTop fs pc) = rd (M.setTop fs pc) 0 := by unfold M.lastF M.setTop; rw [List.length_set, h1]; rfl
  have e2 : M.lastF fs = rd fs 0 := by unfold M.lastF; rw [h1]; rfl
  rw [← e1, hl, e2]; exact ⟨rfl, rfl⟩
 ·have e : rd (M.setTop fs pc) 0 = rd fs 0 := by
    unfold M.setTop rd
    rw [List.getD_eq_getElem?_getD, List.getD_eq_getElem?_getD, List.getElem?_set_ne (by simp; omega)]
  rw [e]; exact ⟨rfl, rfl⟩
theorem runs_frames {p : List D.Ins} {x : D.Warp} (h : M.Runs p x) : x.Frames.all (M.frameOk p.length) = true ∧ x.Frames.length ≤ 24 ∧ (rd x.Frames 0).Stop = p.length ∧ (rd x.Frames 0).Mask = 255 ∧ M.isMask (M.lastF x.Frames).Mask = true ∧ x.Regs.all M.isWord = true := by
 obtain ⟨hp, hw, hx⟩ := h
 simp only [M.warpOf, M.areFrames, Bool.and_eq_true, Bool.or_eq_true] at hw
 obtain ⟨h1, h2, h3, h4, h5⟩ := hw
 have h5 := h5.resolve_left (by simpa using hx)
 have hf := List.all_eq_true.1 h4 _ (mem_lastF hx)
 simp only [M.endsOk, M.frameOk, Bool.and_eq_true, decide_eq_true_eq, beq_iff_eq] at h5 hf
 exact ⟨h4, h5.1, h5.2.2.2.1, h5.2.2.2.2, hf.2.2.1, h3⟩
theorem split_branch {p : List D.Ins} {x : D.Warp} (h : M.Runs p x) (hs : M.isSplit p x) : M.Branch p (M.topPc x) := by
 obtain ⟨_, _, _, _, t5, t6, _⟩ := runs_top h
 refine ⟨h.1, t5, t6, ?_⟩
 unfold M.isBr
 simp only [Bool.and_eq_true, beq_iff_eq, bne_iff_ne]
 exact hs
theorem splits_iff {p : List D.Ins} {x : D.Warp} (h : M.splits p x = true) : M.isSplit p x ∧ M.zeroMask x (M.topIns p x).A ≠ 0 ∧ M.zeroMask x (M.topIns p x).A ≠ (M.lastF x.Frames).Mask := by
 simp only [M.splits, Bool.and_eq_true, beq_iff_eq, bne_iff_ne] at h
 exact ⟨h.1, h.2.1, h.2.2⟩
theorem turn_in {p : List D.Ins} {x : D.Warp} (h : M.Runs p x) : 0 ≤ M.turnPc p x ∧ M.turnPc p x ≤ (p.length : Int) := by
 obtain ⟨_, _, _, _, t5, t6, t7, _⟩ := runs_top h
 unfold M.turnPc
 split
 ·omega
 ·split
  ·exact target_in t7 (.inr (by assumption))
  ·split
   ·rename_i e; exact target_in t7 (.inl e.1)
   ·omega
theorem stepW_fine {p : List D.Ins} {x : D.Warp} (h : M.Goes p x) : M.Fine p (M.stepW p x) := by
 obtain ⟨hr, hl⟩ := h
 obtain ⟨t1, t2, t3, t4, t5, t6, t7, t8, t9⟩ := runs_top hr
 obtain ⟨f1, f2, f3, f4, f5, f6⟩ := runs_frames hr
 have hx := hr.2.2
 refine ⟨hr.1, ?_⟩
 have fin : ∀ (fs : List D.Frame) (rg : List Int), rg.length = 32 → rg.all M.isWord = true → fs.all (M.frameOk p.length) = true → fs.length ≤ 24 → (fs ≠ [] → (rd fs 0).Stop = p.length ∧ (rd fs 0).Mask = 255) → M.warpOf p (M.dropW ⟨x.Number, fs, rg⟩ p.length) = true := by
  intro fs rg g1 g2 g3 g4 g5
  simp only [M.warpOf, M.dropW, Bool.and_eq_true, beq_iff_eq]
  exact ⟨by simp only [M.isIn, Bool.and_eq_true, decide_eq_true_eq]; exact ⟨t8, t9⟩, g1, g2, drop_fine g3 g4 g5⟩
 have s0 := fun pc => setTop_first hx pc
 unfold M.stepW
 by_cases hs : M.splits p x = true
 ·rw [if_pos hs]
  obtain ⟨hsp, hz0, hzm⟩ := splits_iff hs
  have hb := split_branch hr hsp
  have hj := join_in hb
  have hact : M.activeMask x = (M.lastF x.Frames).Mask := activeMask_top hx
  obtain ⟨m1, m2, m3⟩ := mask_part (x := x) (reg := (M.topIns p x).A) (by rw [hact]; exact f5)
  rw [hact] at m2 m3
  have h22 : x.Frames.length ≤ 22 := by
   simp only [M.spec_l13Local, hs, Bool.and_eq_true, Bool.not_true, Bool.false_or, decide_eq_true_eq] at hl
   exact hl.2.2
  have hB := target_in t7 (.inl hsp.1)
  unfold M.separated
  refine fin _ _ t4 f6 ?_ ?_ fun _ => ?_
  ·rw [List.all_append, setTop_all f1 hx hj, Bool.true_and]
   simp only [List.all_cons, List.all_nil, Bool.and_true, M.frameOk, Bool.and_eq_true, M.isIn, decide_eq_true_eq, bne_iff_ne]
   unfold M.nodeIn at hj
   rw [m2]
   exact ⟨⟨by omega, hj, m3, by omega⟩, hB, hj, m1, hz0⟩
  ·simp only [List.length_append, M.setTop, List.length_set, List.length_cons, List.length_nil]; omega
  ·have e : rd (M.setTop x.Frames (M.joinB p (M.topPc x)) ++ [⟨M.topPc x + 1, M.joinB p (M.topPc x), bitNot .i64 (M.lastF x.Frames).Mask (M.zeroMask x (M.topIns p x).A)⟩, ⟨(M.topIns p x).B, M.joinB p (M.topPc x), M.zeroMask x (M.topIns p x).A⟩]) 0 = rd (M.setTop x.Frames (M.joinB p (M.topPc x))) 0 := by
     unfold rd
     rw [List.getD_eq_getElem?_getD, List.getD_eq_getElem?_getD, List.getElem?_append_left (by simp [M.setTop]; omega)]
   rw [e, (s0 _).1, (s0 _).2]
   exact ⟨f3, f4⟩
 ·rw [if_neg hs]
  unfold M.advance
  refine fin _ _ (applyAll_len t4) (applyTo_words t7 ⟨t8, t9⟩ t4 f6 8 (Nat.le_refl _)) (setTop_all f1 hx (turn_in hr)) (by simp only [M.setTop, List.length_set]; exact f2) fun _ => ?_
  rw [(s0 _).1, (s0 _).2]
  exact ⟨f3, f4⟩
end Go.V
namespace Go.V
open IntKind (wrap)
theorem fits_cut {i : D.Ins} {n : Int} {r : List Int} {k : Nat} (h : M.insOk i n = true) (hr : r.length = 32) (hk : k < 8) : M.Fits i (M.laneCut r k) := ⟨laneCut_len hr hk, n, h⟩
end Go.V
namespace Go.V
open IntKind (wrap)
def putSome (r x : List Int) (l j : Nat) : List Int := r.take (l * 4) ++ x.take j ++ r.drop (l * 4 + j)
theorem putSome_len {r x : List Int} {l j : Nat} (h : r.length = 32) (hl : l < 8) (hx : x.length = 4) (hj : j ≤ 4) : (putSome r x l j).length = 32 := by unfold putSome; simp; omega
theorem putSome_get {r x : List Int} {l j : Nat} (h : r.length = 32) (hl : l < 8) (hx : x.length = 4) (hj : j ≤ 4) (i : Nat) : (putSome r x l j)[i]? = if l * 4 ≤ i ∧ i < l * 4 + j then x[i - l * 4]? else r[i]? := by
 unfold putSome
 rw [List.getElem?_append, List.length_append, List.length_take, List.length_take, hx, Nat.min_eq_left (by omega), Nat.min_eq_left hj, List.getElem?_append, List.length_take, Nat.min_eq_left (by omega)]
 by_cases h1 : i < l * 4
 ·rw [if_pos (by omega), if_pos h1, if_neg (by omega), List.getElem?_take, if_pos h1]
 ·by_cases h2 : i < l * 4 + j
  ·rw [if_pos h2, if_neg h1, if_pos (by omega), List.getElem?_take, if_pos (by omega)]
  ·rw [if_neg h2, if_neg (by omega), List.getElem?_drop]
   congr 1; omega
theorem putSome_zero (r x : List Int) (l : Nat) : putSome r x l 0 = r := by unfold putSome; simp
theorem putSome_all {r x : List Int} {l : Nat} (hx : x.length = 4) : putSome r x l 4 = M.putLane r l x := by unfold putSome M.putLane; rw [List.take_of_length_le (l := x) (by omega)]
theorem putSome_set {r x : List Int} {l j : Nat} (h : r.length = 32) (hl : l < 8) (hx : x.length = 4) (hj : j < 4) : (putSome r x l j).set (l * 4 + j) (rd x (j : Int)) = putSome r x l (j + 1) := by
 apply List.ext_getElem?
 intro i
 rw [putSome_get h hl hx (by omega)]
 by_cases e : l * 4 + j = i
 ·subst e
  rw [List.getElem?_set_self (by rw [putSome_len h hl hx (by omega)]; omega), if_pos (by omega), show l * 4 + j - l * 4 = j by omega, rd_nat (by omega), List.getElem?_eq_getElem (by omega)]
 ·rw [List.getElem?_set_ne e, putSome_get h hl hx (by omega)]
  by_cases h1 : l * 4 ≤ i ∧ i < l * 4 + j
  ·rw [if_pos h1, if_pos (by omega)]
  ·rw [if_neg h1, if_neg (by omega)]
theorem wp.spec_l13Apply.math (p : List D.Ins) (x : D.Warp) (h : M.spec_l13Apply_pre p x) : wp.spec_l13Apply p x (fun r => r = M.spec_l13Apply p x) := by
 obtain ⟨t1, t2, t3, t4, t5, t6, t7, t8, t9⟩ := runs_top h
 unfold wp.spec_l13Apply
 rw [last_wrap (by omega), List.nil_append]
 refine ⟨by simp; omega, by omega, ?_⟩
 let G : Nat → List Int := M.applyTo (M.topIns p x) x.Number (M.lastF x.Frames).Mask x.Regs
 have hG : ∀ k, k ≤ 8 → (G k).length = 32 := fun k hk => applyTo_len t4 k hk
 refine loop_n 8 (fun k => ((k : Int), G k, ())) (fun _ => True) rfl trivial (fun k hk _ next hn => ?_) fun _ next => bcase_f (by simp) rfl
 have hn := hn trivial
 have hGk := hG k (by omega)
 have hnext : G (k + 1) = if M.hasLane (M.lastF x.Frames).Mask (k : Int) then M.putLane (G k) k (M.apply (M.topIns p x) (x.Number * 8 + (k : Int)) (M.laneCut x.Regs k)) else G k := rfl
 rw [hnext] at hn
 dsimp only
 generalize G k = g at *
 refine bcase_t (by simp; omega) fun b hb => ?_
 have hb : b = M.hasLane (M.lastF x.Frames).Mask (k : Int) := hb
 have a1 : wrap .i64 ((k : Int) * 4) = (k : Int) * 4 := w64 (by omega) (by omega)
 have a2 : wrap .i64 ((wrap .i64 ((k : Int) + 1)) * 4) = (k : Int) * 4 + 4 := by rw [w64 (x := (k : Int) + 1) (by omega) (by omega), w64 (by omega) (by omega)]; omega
 have a3 : wrap .i64 ((wrap .i64 (x.Number * 8)) + (k : Int)) = x.Number * 8 + (k : Int) := by rw [w64 (x := x.Number * 8) (by omega) (by omega), w64 (by omega) (by omega)]
 refine bcase_mk (fun e => ?_) fun e => ?_
 ·rw [if_pos (hb.symm.trans e)] at hn
  rw [a1, a2, a3, t4, show ((k : Int) * 4 + 4).toNat = k * 4 + 4 by omega, show ((k : Int) * 4).toNat = k * 4 by omega]
  refine ⟨⟨t5, t6⟩, ⟨by omega, by omega, by omega, by omega⟩, fits_cut t7 t4 hk, fun y hy => ?_⟩
  have hy : y = M.apply (M.topIns p x) (x.Number * 8 + (k : Int)) (M.laneCut x.Regs k) := hy
  have hyl : y.length = 4 := by rw [hy, apply_len, laneCut_len t4 hk]
  rw [← hy] at hn
  refine loop_n 4 (fun j => ((j : Int), putSome g y k j, ())) (fun _ => True) (by rw [putSome_zero]; rfl) trivial (fun j hj _ next2 hn2 => ?_) fun _ next2 => ?_
  ·have hn2 := hn2 trivial
   rw [← putSome_set hGk hk hyl hj] at hn2
   dsimp only
   have a4 : wrap .i64 ((k : Int) * 4 + (j : Int)) = (k : Int) * 4 + (j : Int) := w64 (by omega) (by omega)
   rw [a4, hyl, putSome_len hGk hk hyl (by omega), show ((k : Int) * 4 + (j : Int)).toNat = k * 4 + j by omega, up64 (n := 4) hj (by omega)]
   exact bcase_t (by simp; omega) ⟨by omega, by omega, hn2⟩
  ·dsimp only
   rw [putSome_all hyl, up64 (n := 8) hk (by omega)]
   exact bcase_f (by simp) hn
 ·rw [if_neg (by rw [← hb, e]; simp)] at hn
  rw [up64 (n := 8) hk (by omega)]
  exact hn
theorem wp.spec_l13Step.math (p : List D.Ins) (x : D.Warp) (h : M.spec_l13Step_pre p x) : wp.spec_l13Step p x (fun r => r = M.spec_l13Step p x) := by
 obtain ⟨hr, hl⟩ := h
 obtain ⟨t1, t2, t3, t4, t5, t6, t7, t8, t9⟩ := runs_top hr
 obtain ⟨f1, f2, f3, f4, f5, f6⟩ := runs_frames hr
 have hx := hr.2.2
 unfold wp.spec_l13Step
 rw [last_wrap (by omega)]
 refine ⟨⟨by omega, by omega⟩, fun y hy => ?_⟩
 have hy : y = x := hy
 subst hy
 have e1 : ((y.Frames.length : Int) - 1).toNat = y.Frames.length - 1 := by omega
 refine ⟨by omega, ⟨t5, t6⟩, hr, fun s hs => ?_⟩
 have hs : s = M.splits p y := hs
 have hw : wrap .i64 (M.topPc y + 1) = M.topPc y + 1 := w64 (by omega) (by omega)
 refine bcase_mk (fun e => ⟨by show y.Frames.length ≤ 9223372036854775807; omega, fun z hz => ?_⟩) fun e => ⟨hr, fun rg hrg => ?_⟩
 ·have hsp := hs.symm.trans e
  obtain ⟨hsp', hz0, hzm⟩ := splits_iff hsp
  have hb := split_branch hr hsp'
  have hz : z = M.zeroMask y (M.topIns p y).A := by
   have hz : z = M.spec_ZeroMask y (M.topIns p y).A := hz
   rw [hz]
   unfold M.spec_ZeroMask
   rw [if_pos (by rw [zero_reg t7 hsp'.1, t4]; rfl)]
  have hact : M.activeMask y = (M.lastF y.Frames).Mask := activeMask_top hx
  obtain ⟨m1, m2, m3⟩ := mask_part (x := y) (reg := (M.topIns p y).A) (by rw [hact]; exact f5)
  rw [hact] at m2 m3
  have hm : wrap .i64 ((M.lastF y.Frames).Mask - z) = bitNot .i64 (M.lastF y.Frames).Mask (M.zeroMask y (M.topIns p y).A) := by
   rw [m2, hz]
   simp only [M.isMask, M.isIn, Bool.and_eq_true, decide_eq_true_eq] at m3
   exact w64 (by omega) (by omega)
  refine ⟨hb, fun j hj => ⟨by omega, ⟨by simp; omega, ⟨by refine ⟨?_, ?_⟩ <;> simp <;> omega, fun d hd => ?_⟩⟩⟩⟩
  have hj : j = M.joinB p (M.topPc y) := hj
  have hd : d = M.dropW (M.separated p y) p.length := by
   rw [hd]
   show M.dropW _ _ = M.dropW _ _
   congr 1
   unfold M.separated M.setTop
   rw [← hm, ← hj, ← hz, e1, ← hw]; rfl
  show d = M.stepW p y
  unfold M.stepW
  rw [if_pos hsp]; exact hd
 ·have hns : ¬ M.splits p y = true := by rw [← hs, e]; simp
  have hrg : rg = M.applyAll (M.topIns p y) y.Number (M.lastF y.Frames).Mask y.Regs := hrg
  have hfit : ∀ pc, M.WFit ⟨y.Number, y.Frames.set ((y.Frames.length : Int) - 1).toNat ⟨pc, (M.lastF y.Frames).Stop, (M.lastF y.Frames).Mask⟩, rg⟩ := fun pc => by
   refine ⟨?_, ?_⟩
   ·show (y.Frames.set _ _).length ≤ _
    rw [List.length_set]; omega
   ·show rg.length ≤ _
    rw [hrg, applyAll_len t4]; omega
  have fin : ∀ pc, pc = M.turnPc p y → ∀ d, d = M.spec_DropFrames p ⟨y.Number, y.Frames.set ((y.Frames.length : Int) - 1).toNat ⟨pc, (M.lastF y.Frames).Stop, (M.lastF y.Frames).Mask⟩, rg⟩ → d = M.stepW p y := by
   rintro _ rfl d hd
   rw [hd, hrg]
   show M.dropW _ _ = _
   unfold M.stepW
   rw [if_neg hns, e1]; rfl
  show bcase ((M.topIns p y).Op == 12) _ (bcase ((M.topIns p y).Op == 11) _ (_ ∧ bcase ((M.topIns p y).Op == 10) _ (bcase false _ _)))
  refine bcase_mk (fun c1 => ⟨by omega, hfit _, fun d hd => fin _ ?_ d hd⟩) fun c1 => bcase_mk (fun c2 => ⟨by omega, hfit _, fun d hd => fin _ ?_ d hd⟩) fun c2 => ⟨by omega, bcase_mk (fun c3 => ⟨by show y.Frames.length ≤ 9223372036854775807; omega, fun z hz => ?_⟩) fun c3 => bcase_f rfl ⟨hfit _, fun d hd => fin _ ?_ d hd⟩⟩
  ·have c1 : (M.topIns p y).Op = 12 := by simpa using c1
   simp [M.turnPc, c1]
  ·have c2 : (M.topIns p y).Op = 11 := by simpa using c2
   simp only [M.turnPc, c2]
   rfl
  ·have c3 : (M.topIns p y).Op = 10 := by simpa using c3
   have hz : z = M.zeroMask y (M.topIns p y).A := by
    have hz : z = M.spec_ZeroMask y (M.topIns p y).A := hz
    rw [hz]
    unfold M.spec_ZeroMask
    rw [if_pos (by rw [zero_reg t7 c3, t4]; rfl)]
   show bcase (z == (M.lastF y.Frames).Mask) _ _
   rw [hz]
   refine bcase_mk (fun c4 => ⟨by rw [List.length_set]; omega, hfit _, fun d hd => fin _ ?_ d hd⟩) fun c4 => ⟨hfit _, fun d hd => fin _ ?_ d hd⟩
   ·have c4 : M.zeroMask y (M.topIns p y).A = (M.lastF y.Frames).Mask := by simpa using c4
    unfold M.turnPc
    rw [if_neg (by omega), if_neg (by omega), if_pos ⟨c3, c4⟩]; rfl
   ·have c4 : ¬ M.zeroMask y (M.topIns p y).A = (M.lastF y.Frames).Mask := by simpa using c4
    unfold M.turnPc
    rw [if_neg (by omega), if_neg (by omega), if_neg (fun hc => c4 hc.2)]
    exact hw
  ·have c1 : ¬ (M.topIns p y).Op = 12 := by simpa using c1
   have c2 : ¬ (M.topIns p y).Op = 11 := by simpa using c2
   have c3 : ¬ (M.topIns p y).Op = 10 := by simpa using c3
   unfold M.turnPc
   rw [if_neg c1, if_neg c2, if_neg (fun hc => c3 hc.1)]
   exact hw
end Go.V
namespace Go.V
open IntKind (wrap)
theorem goes_of {p : List D.Ins} {x : D.Warp} (h : M.Fine p x) (hl : M.spec_l13Local p x = true) : M.Goes p x := by
 refine ⟨⟨h.1, h.2, ?_⟩, hl⟩
 simp only [M.spec_l13Local, Bool.and_eq_true] at hl
 intro e
 rw [e] at hl
 simp at hl
theorem quiet_prog {p : List D.Ins} (h : M.isQuiet p = true) : M.programOk p = true := by
 simp only [M.isQuiet, Bool.and_eq_true] at h; exact h.1
theorem newWarp_fine {p : List D.Ins} (hp : M.programOk p = true) {w : Int} (hw : M.isIn w 0 2 = true) : M.Fine p (M.newWarp p w) := by
 refine ⟨hp, ?_⟩
 have hz : (List.replicate 32 (0 : Int)).all M.isWord = true := by rfl
 unfold M.warpOf
 have hN : (M.newWarp p w).Number = w := rfl
 have hR : (M.newWarp p w).Regs = List.replicate 32 0 := rfl
 have hF : (M.newWarp p w).Frames = if p.length > 0 then [⟨0, p.length, 255⟩] else [] := rfl
 rw [hN, hR, hF, hw, hz, List.length_replicate]
 by_cases h0 : p.length > 0
 ·rw [if_pos h0]
  have hn : (p.length : Int) ≠ 0 := by omega
  have h1 : M.frameOk p.length ⟨0, p.length, 255⟩ = true := by
   simp only [M.frameOk, M.isIn, M.isMask, Bool.and_eq_true, decide_eq_true_eq, bne_iff_ne]; omega
  have hl : M.lastF [(⟨0, p.length, 255⟩ : D.Frame)] = ⟨0, p.length, 255⟩ := rfl
  have hr : rd [(⟨0, p.length, 255⟩ : D.Frame)] 0 = ⟨0, p.length, 255⟩ := rfl
  have h2 : M.endsOk [(⟨0, p.length, 255⟩ : D.Frame)] p.length = true := by
   unfold M.endsOk
   rw [hl, hr]
   simp only [Bool.and_eq_true, decide_eq_true_eq, bne_iff_ne, beq_iff_eq, List.length_cons, List.length_nil]
   exact ⟨by omega, fun h => hn h.symm, fun h => hn h.symm, trivial, trivial⟩
  have : M.areFrames [(⟨0, p.length, 255⟩ : D.Frame)] p.length = true := by
   unfold M.areFrames
   rw [h2]; simp [h1]
  rw [this]; rfl
 ·rw [if_neg h0]; rfl
end Go.V
namespace Go.V
open IntKind (wrap)
def wp.spec_l01Once (s0 : D.Cur) (x1 : Int) (Q : (Bool × D.Cur) → Prop) : Prop :=
 (M.spec_l01Below_pre s0 x1 ∧ ∀ r21, r21 = M.spec_l01Below s0 x1 → Q ((r21.1 == 0), (⟨s0.b, r21.2.i, r21.2.h⟩ : D.Cur)))
def wp.spec_l05Body (s0 : D.Cur) (xs1 : List D.Ins) (x2 : Int) (Q : ((List D.Ins) × D.Cur) → Prop) : Prop :=
 (M.spec_l01Below_pre s0 4 ∧ ∀ r21, r21 = M.spec_l01Below s0 4 → LoopP (σ := (List D.Ins) × Int × Int × Int × Unit) (fun (p210 : (List D.Ins) × Int × Int × Int × Unit) next51 => match p210 with | (xs42, i45, i46, i47, _) => bcase (decide (i45 > 0)) (bcase (decide ((xs42.length : Int) < 20)) ((M.spec_l01Below_pre (⟨s0.b, i46, i47⟩ : D.Cur) 5 ∧ ∀ r53, r53 = M.spec_l01Below (⟨s0.b, i46, i47⟩ : D.Cur) 5 → bcase (r53.1 == 0) (bcase (x2 == 0) (next51 (xs42, (wrap .i64 (i45 - 1)), r53.2.i, r53.2.h, ())) ((M.spec_l01Below_pre (⟨s0.b, r53.2.i, r53.2.h⟩ : D.Cur) 4 ∧ ∀ r62, r62 = M.spec_l01Below (⟨s0.b, r53.2.i, r53.2.h⟩ : D.Cur) 4 → ((xs42.length + ([(⟨10, r62.1, 0, 0⟩ : D.Ins)] : List D.Ins).length ≤ 17179869184) ∧ (M.spec_l05Body_pre (⟨s0.b, r62.2.i, r62.2.h⟩ : D.Cur) (xs42 ++ ([(⟨10, r62.1, 0, 0⟩ : D.Ins)] : List D.Ins)) (wrap .i64 (x2 - 1)) ∧ ∀ r76, r76 = M.spec_l05Body (⟨s0.b, r62.2.i, r62.2.h⟩ : D.Cur) (xs42 ++ ([(⟨10, r62.1, 0, 0⟩ : D.Ins)] : List D.Ins)) (wrap .i64 (x2 - 1)) → (M.spec_l01Once_pre (⟨s0.b, r76.2.i, r76.2.h⟩ : D.Cur) 2 ∧ ∀ r84, r84 = M.spec_l01Once (⟨s0.b, r76.2.i, r76.2.h⟩ : D.Cur) 2 → bcase r84.1 (((0 ≤ (xs42.length : Int) ∧ (xs42.length : Int) < (r76.1.length : Int)) ∧ next51 ((List.set r76.1 ((xs42.length : Int).toNat) (⟨(rd r76.1 (xs42.length : Int)).Op, (rd r76.1 (xs42.length : Int)).A, (r76.1.length : Int), (rd r76.1 (xs42.length : Int)).C⟩ : D.Ins)), (wrap .i64 (i45 - 1)), r84.2.i, r84.2.h, ()))) (((r76.1.length + ([(⟨11, 0, 0, 0⟩ : D.Ins)] : List D.Ins).length ≤ 17179869184) ∧ ((0 ≤ (xs42.length : Int) ∧ (xs42.length : Int) < ((r76.1 ++ ([(⟨11, 0, 0, 0⟩ : D.Ins)] : List D.Ins)).length : Int)) ∧ (M.spec_l05Body_pre (⟨s0.b, r84.2.i, r84.2.h⟩ : D.Cur) (List.set (r76.1 ++ ([(⟨11, 0, 0, 0⟩ : D.Ins)] : List D.Ins)) ((xs42.length : Int).toNat) (⟨(rd (r76.1 ++ ([(⟨11, 0, 0, 0⟩ : D.Ins)] : List D.Ins)) (xs42.length : Int)).Op, (rd (r76.1 ++ ([(⟨11, 0, 0, 0⟩ : D.Ins)] : List D.Ins)) (xs42.length : Int)).A, (((r76.1 ++ ([(⟨11, 0, 0, 0⟩ : D.Ins)] : List D.Ins))).length : Int), (rd (r76.1 ++ ([(⟨11, 0, 0, 0⟩ : D.Ins)] : List D.Ins)) (xs42.length : Int)).C⟩ : D.Ins)) (wrap .i64 (x2 - 1)) ∧ ∀ r117, r117 = M.spec_l05Body (⟨s0.b, r84.2.i, r84.2.h⟩ : D.Cur) (List.set (r76.1 ++ ([(⟨11, 0, 0, 0⟩ : D.Ins)] : List D.Ins)) ((xs42.length : Int).toNat) (⟨(rd (r76.1 ++ ([(⟨11, 0, 0, 0⟩ : D.Ins)] : List D.Ins)) (xs42.length : Int)).Op, (rd (r76.1 ++ ([(⟨11, 0, 0, 0⟩ : D.Ins)] : List D.Ins)) (xs42.length : Int)).A, (((r76.1 ++ ([(⟨11, 0, 0, 0⟩ : D.Ins)] : List D.Ins))).length : Int), (rd (r76.1 ++ ([(⟨11, 0, 0, 0⟩ : D.Ins)] : List D.Ins)) (xs42.length : Int)).C⟩ : D.Ins)) (wrap .i64 (x2 - 1)) → ((0 ≤ (r76.1.length : Int) ∧ (r76.1.length : Int) < (r117.1.length : Int)) ∧ next51 ((List.set r117.1 ((r76.1.length : Int).toNat) (⟨(rd r117.1 (r76.1.length : Int)).Op, (rd r117.1 (r76.1.length : Int)).A, (r117.1.length : Int), (rd r117.1 (r76.1.length : Int)).C⟩ : D.Ins)), (wrap .i64 (i45 - 1)), r117.2.i, r117.2.h, ())))))))))))) (bcase (r53.1 == 1) (bcase (x2 == 0) (next51 (xs42, (wrap .i64 (i45 - 1)), r53.2.i, r53.2.h, ())) (bcase (decide ((xs42.length : Int) > 14)) (next51 (xs42, (wrap .i64 (i45 - 1)), r53.2.i, r53.2.h, ())) (((xs42.length + ([(⟨8, 3, 0, 0⟩ : D.Ins)] : List D.Ins).length ≤ 17179869184) ∧ (((xs42 ++ ([(⟨8, 3, 0, 0⟩ : D.Ins)] : List D.Ins)).length + ([(⟨10, 3, 0, 0⟩ : D.Ins)] : List D.Ins).length ≤ 17179869184) ∧ ((((xs42 ++ ([(⟨8, 3, 0, 0⟩ : D.Ins)] : List D.Ins)) ++ ([(⟨10, 3, 0, 0⟩ : D.Ins)] : List D.Ins)).length + ([(⟨3, 0, 0, 1⟩ : D.Ins), (⟨1, 2, 1, 0⟩ : D.Ins), (⟨4, 3, 3, 2⟩ : D.Ins)] : List D.Ins).length ≤ 17179869184) ∧ (((((xs42 ++ ([(⟨8, 3, 0, 0⟩ : D.Ins)] : List D.Ins)) ++ ([(⟨10, 3, 0, 0⟩ : D.Ins)] : List D.Ins)) ++ ([(⟨3, 0, 0, 1⟩ : D.Ins), (⟨1, 2, 1, 0⟩ : D.Ins), (⟨4, 3, 3, 2⟩ : D.Ins)] : List D.Ins)).length + ([(⟨11, 0, (((xs42 ++ ([(⟨8, 3, 0, 0⟩ : D.Ins)] : List D.Ins))).length : Int), 0⟩ : D.Ins)] : List D.Ins).length ≤ 17179869184) ∧ ((0 ≤ (((xs42 ++ ([(⟨8, 3, 0, 0⟩ : D.Ins)] : List D.Ins))).length : Int) ∧ (((xs42 ++ ([(⟨8, 3, 0, 0⟩ : D.Ins)] : List D.Ins))).length : Int) < (((((xs42 ++ ([(⟨8, 3, 0, 0⟩ : D.Ins)] : List D.Ins)) ++ ([(⟨10, 3, 0, 0⟩ : D.Ins)] : List D.Ins)) ++ ([(⟨3, 0, 0, 1⟩ : D.Ins), (⟨1, 2, 1, 0⟩ : D.Ins), (⟨4, 3, 3, 2⟩ : D.Ins)] : List D.Ins)) ++ ([(⟨11, 0, (((xs42 ++ ([(⟨8, 3, 0, 0⟩ : D.Ins)] : List D.Ins))).length : Int), 0⟩ : D.Ins)] : List D.Ins)).length : Int)) ∧ next51 ((List.set ((((xs42 ++ ([(⟨8, 3, 0, 0⟩ : D.Ins)] : List D.Ins)) ++ ([(⟨10, 3, 0, 0⟩ : D.Ins)] : List D.Ins)) ++ ([(⟨3, 0, 0, 1⟩ : D.Ins), (⟨1, 2, 1, 0⟩ : D.Ins), (⟨4, 3, 3, 2⟩ : D.Ins)] : List D.Ins)) ++ ([(⟨11, 0, (((xs42 ++ ([(⟨8, 3, 0, 0⟩ : D.Ins)] : List D.Ins))).length : Int), 0⟩ : D.Ins)] : List D.Ins)) ((((xs42 ++ ([(⟨8, 3, 0, 0⟩ : D.Ins)] : List D.Ins))).length : Int).toNat) (⟨(rd ((((xs42 ++ ([(⟨8, 3, 0, 0⟩ : D.Ins)] : List D.Ins)) ++ ([(⟨10, 3, 0, 0⟩ : D.Ins)] : List D.Ins)) ++ ([(⟨3, 0, 0, 1⟩ : D.Ins), (⟨1, 2, 1, 0⟩ : D.Ins), (⟨4, 3, 3, 2⟩ : D.Ins)] : List D.Ins)) ++ ([(⟨11, 0, (((xs42 ++ ([(⟨8, 3, 0, 0⟩ : D.Ins)] : List D.Ins))).length : Int), 0⟩ : D.Ins)] : List D.Ins)) (((xs42 ++ ([(⟨8, 3, 0, 0⟩ : D.Ins)] : List D.Ins))).length : Int)).Op, (rd ((((xs42 ++ ([(⟨8, 3, 0, 0⟩ : D.Ins)] : List D.Ins)) ++ ([(⟨10, 3, 0, 0⟩ : D.Ins)] : List D.Ins)) ++ ([(⟨3, 0, 0, 1⟩ : D.Ins), (⟨1, 2, 1, 0⟩ : D.Ins), (⟨4, 3, 3, 2⟩ : D.Ins)] : List D.Ins)) ++ ([(⟨11, 0, (((xs42 ++ ([(⟨8, 3, 0, 0⟩ : D.Ins)] : List D.Ins))).length : Int), 0⟩ : D.Ins)] : List D.Ins)) (((xs42 ++ ([(⟨8, 3, 0, 0⟩ : D.Ins)] : List D.Ins))).length : Int)).A, ((((((xs42 ++ ([(⟨8, 3, 0, 0⟩ : D.Ins)] : List D.Ins)) ++ ([(⟨10, 3, 0, 0⟩ : D.Ins)] : List D.Ins)) ++ ([(⟨3, 0, 0, 1⟩ : D.Ins), (⟨1, 2, 1, 0⟩ : D.Ins), (⟨4, 3, 3, 2⟩ : D.Ins)] : List D.Ins)) ++ ([(⟨11, 0, (((xs42 ++ ([(⟨8, 3, 0, 0⟩ : D.Ins)] : List D.Ins))).length : Int), 0⟩ : D.Ins)] : List D.Ins))).length : Int), (rd ((((xs42 ++ ([(⟨8, 3, 0, 0⟩ : D.Ins)] : List D.Ins)) ++ ([(⟨10, 3, 0, 0⟩ : D.Ins)] : List D.Ins)) ++ ([(⟨3, 0, 0, 1⟩ : D.Ins), (⟨1, 2, 1, 0⟩ : D.Ins), (⟨4, 3, 3, 2⟩ : D.Ins)] : List D.Ins)) ++ ([(⟨11, 0, (((xs42 ++ ([(⟨8, 3, 0, 0⟩ : D.Ins)] : List D.Ins))).length : Int), 0⟩ : D.Ins)] : List D.Ins)) (((xs42 ++ ([(⟨8, 3, 0, 0⟩ : D.Ins)] : List D.Ins))).length : Int)).C⟩ : D.Ins)), (wrap .i64 (i45 - 1)), r53.2.i, r53.2.h, ()))))))))) ((M.spec_l04Plain_pre (⟨s0.b, r53.2.i, r53.2.h⟩ : D.Cur) ∧ ∀ r189, r189 = M.spec_l04Plain (⟨s0.b, r53.2.i, r53.2.h⟩ : D.Cur) → ((xs42.length + ([r189.1] : List D.Ins).length ≤ 17179869184) ∧ next51 ((xs42 ++ ([r189.1] : List D.Ins)), (wrap .i64 (i45 - 1)), r189.2.i, r189.2.h, ()))))))) (Q (xs42, (⟨s0.b, i46, i47⟩ : D.Cur)))) (Q (xs42, (⟨s0.b, i46, i47⟩ : D.Cur)))) (xs1, r21.1, r21.2.i, r21.2.h, ()))
end Go.V
