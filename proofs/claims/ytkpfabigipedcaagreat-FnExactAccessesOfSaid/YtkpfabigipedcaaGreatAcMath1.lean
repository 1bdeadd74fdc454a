import Derived.Test.YtkpfabigipedcaaGreatAcVBase
import Derived.Test.YtkpfabigipedcaaGreatAcVWords
import Derived.Test.YtkpfabigipedcaaGreatAcVOwn
import Derived.Test.YtkpfabigipedcaaGreatAcVLoop
import Derived.Test.YtkpfabigipedcaaGreatAcVDeep
import Derived.Test.YtkpfabigipedcaaGreatAcVEq
import Derived.Test.YtkpfabigipedcaaGreatAcVCut
import Derived.Test.YtkpfabigipedcaaGreatAcVPlc
import Derived.Test.YtkpfabigipedcaaGreatAcVFoc
import Derived.Test.YtkpfabigipedcaaGreatAcPure2
set_option linter.unusedVariables false
set_option linter.unusedSimpArgs false
set_option maxRecDepth 20000
namespace Go.V.M
open IntKind (wrap)
def seqFrame (k : Int) (n : Nat) : List D.Frame := (List.range n).map fun i : Nat => ⟨k + 3 * (i : Int), k + 3 * (i : Int) + 1, k + 3 * (i : Int) + 2⟩
def laws_markFrameS (a : List D.Frame) (k : Int) : Int × List D.Frame := (k + 3 * a.length, seqFrame k a.length)
def laws_markFrameS_pre (a : List D.Frame) (k : Int) : Prop := Small k ∧ Few a.length
def wsz (x : D.Warp) : Int := 1 + 3 * x.Frames.length + x.Regs.length
def markW (x : D.Warp) (k : Int) : D.Warp := ⟨k, seqFrame (k + 1) x.Frames.length, seqInt (k + 1 + 3 * x.Frames.length) x.Regs.length⟩
def markWs : List D.Warp → Int → List D.Warp
 | [], _ => []
 | x :: l, k => markW x k :: markWs l (k + wsz x)
def wssz : List D.Warp → Int
 | [] => 0
 | x :: l => wsz x + wssz l
def laws_markWarpS (a : List D.Warp) (k : Int) : Int × List D.Warp := (k + wssz a, markWs a k)
def laws_markWarpS_pre (a : List D.Warp) (k : Int) : Prop := 0 ≤ k ∧ k + wssz a ≤ 576460752303423488
def markB (b : D.Block) (k : Int) : D.Block := ⟨seqIns k b.Code.length, markWs b.Warps (k + 4 * b.Code.length), seqInt (k + 4 * b.Code.length + wssz b.Warps) b.Memory.length, b.Waiting, b.Phase⟩
def bsz (b : D.Block) : Int := 4 * b.Code.length + wssz b.Warps + b.Memory.length
def laws_markBlock (b : D.Block) (k : Int) : Int × List D.Ins × List D.Warp × List Int := (k + bsz b, (markB b k).Code, (markB b k).Warps, (markB b k).Memory)
def laws_markBlock_pre (b : D.Block) (k : Int) : Prop := 0 ≤ k ∧ k + bsz b ≤ 576460752303423488
end Go.V.M
namespace Go.V.M
open IntKind (wrap)
def impl_Warp_lane_pre (x : D.Warp) (l : Int) : Prop := x.Regs.length = 32 ∧ 0 ≤ l ∧ l ≤ 7
def activeMask (x : D.Warp) : Int := if x.Frames.isEmpty then 0 else (lastF x.Frames).Mask
def spec_ActiveMask := activeMask
def spec_ActiveMask_pre (x : D.Warp) : Prop := Long x.Frames
def impl_ActiveMask := activeMask
def impl_ActiveMask_pre (x : D.Warp) : Prop := Long x.Frames
def bitAt (k : Int) : Int := wrap .i64 (1 * 2 ^ (min (k.toNat) (IntKind.bits .i64)))
def zeroStep (x : D.Warp) (reg : Int) (m : Int) (k : Int) : Int := if rd x.Regs (k * 4 + reg) = 0 then bitOr .i64 m (bitAt k) else m
def zeroMask (x : D.Warp) (reg : Int) : Int := (lanesOf (activeMask x)).foldl (zeroStep x reg) 0
def impl_Warp_zeroMask := zeroMask
def impl_Warp_zeroMask_pre (x : D.Warp) (reg : Int) : Prop := Long x.Frames ∧ x.Regs.length = 32 ∧ isReg reg = true
def spec_ZeroMask (x : D.Warp) (reg : Int) : Int := if isReg reg && x.Regs.length == 32 then zeroMask x reg else 0
def spec_ZeroMask_pre (x : D.Warp) (reg : Int) : Prop := Long x.Frames
def Runs (p : List D.Ins) (x : D.Warp) : Prop := programOk p = true ∧ warpOf p x = true ∧ x.Frames ≠ []
def topPc (x : D.Warp) : Int := (lastF x.Frames).Pc
def topIns (p : List D.Ins) (x : D.Warp) : D.Ins := rd p (topPc x)
def splits (p : List D.Ins) (x : D.Warp) : Bool :=
 ((topIns p x).Op == 10 && (topIns p x).B != topPc x + 1) && (zeroMask x (topIns p x).A != 0 && zeroMask x (topIns p x).A != (lastF x.Frames).Mask)
def spec_l13Splits := splits
def spec_l13Splits_pre (p : List D.Ins) (x : D.Warp) : Prop := Runs p x
def impl_Warp_splits (x : D.Warp) (p : List D.Ins) : Bool := splits p x
def impl_Warp_splits_pre (x : D.Warp) (p : List D.Ins) : Prop := Runs p x
def spec_l13Local (p : List D.Ins) (x : D.Warp) : Bool := !x.Frames.isEmpty && (isLocal (topIns p x) && (!splits p x || decide (x.Frames.length ≤ 22)))
def spec_l13Local_pre (p : List D.Ins) (x : D.Warp) : Prop := programOk p = true ∧ warpOf p x = true
def canGo (b : D.Block) (w : Int) : Bool :=
 let x := rd b.Warps w
 !x.Frames.isEmpty && (!waits b w && (if isLocal (topIns b.Code x) then !splits b.Code x || decide (x.Frames.length ≤ 22) else (topIns b.Code x).Op != 16 || x.Frames.length == 1))
def spec_l30Can := canGo
def spec_l30Can_pre (b : D.Block) (w : Int) : Prop := Has b w
def impl_Block_canStep := canGo
def impl_Block_canStep_pre (b : D.Block) (w : Int) : Prop := Has b w
def canStep (b : D.Block) (w : Int) : Bool := hasWarp b w && canGo b w
def spec_CanStep := canStep
def spec_CanStep_pre (b : D.Block) (w : Int) : Prop := BLong b
def impl_CanStep := canStep
def impl_CanStep_pre (b : D.Block) (w : Int) : Prop := BLong b
def pickFrom (b : D.Block) (n f : Int) : Nat → Int → Int
 | 0, _ => -1
 | r + 1, k => if canGo b (Int.tmod (f + k) n) then Int.tmod (f + k) n else pickFrom b n f r (k + 1)
def pick (b : D.Block) (q : Int) : Int := pickFrom b b.Warps.length (Int.tmod q b.Warps.length) b.Warps.length 0
def Good (b : D.Block) : Prop := BLong b ∧ blockOk b = true
end Go.V.M
namespace Go.V.M
open IntKind (wrap)
def Row34 {α : Type} (l : List α) : Prop := l.length ≤ 17179869183
def idx (g : Int → Bool) : Nat → List Int
 | 0 => []
 | k + 1 => if g (k : Int) then idx g k ++ [(k : Int)] else idx g k
def isBr (p : List D.Ins) (k : Int) : Bool := (rd p k).Op == 10 && (rd p k).B != k + 1
def others (l : List Int) (n : Int) : List Int := l.filter fun x => x != n
def has (l : List Int) (n : Int) : Bool := l.any fun y => n == y
def nodeIn (p : List D.Ins) (k : Int) : Prop := 0 ≤ k ∧ k ≤ (p.length : Int)
def Node (p : List D.Ins) (k : Int) : Prop := programOk p = true ∧ nodeIn p k
def isNode (p : List D.Ins) (k : Int) : Bool := programOk p && isIn k 0 p.length
def putTwo (a b : Int) : List Int := if b < a then [b, a] else if b = a then [a] else [a, b]
def nextOf (p : List D.Ins) (k : Int) : List Int :=
 if k = p.length then [] else if (rd p k).Op = 12 then [(p.length : Int)] else if (rd p k).Op = 11 then [(rd p k).B] else if (rd p k).Op = 10 then putTwo (k + 1) (rd p k).B else [k + 1]
def bfs (p : List D.Ins) (wo : Int) : Nat → List Int → List Bool → List Bool
 | 0, _, seen => seen
 | _ + 1, [], seen => seen
 | f + 1, k :: work, seen => if k = wo ∨ rd seen k = true then bfs p wo f work seen else bfs p wo f (work ++ nextOf p k) (seen.set k.toNat true)
def reached (p : List D.Ins) (frm : List Int) (wo : Int) : List Bool := bfs p wo (3 * (p.length + 1) + frm.length) frm (List.replicate (p.length + 1) false)
def exitB (p : List D.Ins) (k : Int) : Bool := rd (reached p [k] (-1)) p.length
def afterB (p : List D.Ins) (k later : Int) : Bool := !rd (reached p [k] later) p.length
def aftersOf (p : List D.Ins) (k : Int) : List Int := if isNode p k && exitB p k then idx (afterB p k) (p.length + 1) else []
def firstS (p : List D.Ins) (all : List Int) : List Int → Int
 | [] => -1
 | x :: l => if all.all (afterB p x) then x else firstS p all l
def firstAfter (p : List D.Ins) (k : Int) : Int := firstS p (others (aftersOf p k) k) (others (aftersOf p k) k)
def joinB (p : List D.Ins) (b : Int) : Int := if exitB p (b + 1) && exitB p (rd p b).B then firstAfter p b else p.length
def putAt (l : List Int) (n : Int) : Nat → Nat
 | 0 => 0
 | k + 1 => if rd l (k : Int) > n then putAt l n k else k + 1
def spec_l04Put (l : List Int) (n : Int) : List Int :=
 if putAt l n l.length > 0 ∧ rd l (((putAt l n l.length : Nat) : Int) - 1) = n then l else l.take (putAt l n l.length) ++ [n] ++ l.drop (putAt l n l.length)
def spec_l04Put_pre (l : List Int) (n : Int) : Prop := Row34 l
def Branch (p : List D.Ins) (b : Int) : Prop := programOk p = true ∧ 0 ≤ b ∧ b < (p.length : Int) ∧ isBr p b = true
def cmp_isNaN_int (x : Int) : Bool := false
def math_bits_Len64 (x : Int) : Int := if x ≤ 0 then 0 else if x ≤ 1 then 1 else if x ≤ 3 then 2 else if x ≤ 7 then 3 else 4
def math_bits_Len64_pre (x : Int) : Prop := 0 ≤ x ∧ x ≤ 12
def math_bits_Len (x : Int) : Int := math_bits_Len64 x
def math_bits_Len_pre (x : Int) : Prop := 0 ≤ x ∧ x ≤ 12
end Go.V.M
namespace Go.V.M
open IntKind (wrap)
def dropN (fs : List D.Frame) (n : Int) : Nat → List D.Frame
 | 0 => []
 | k + 1 => if (rd fs (k : Int)).Pc ≠ (rd fs (k : Int)).Stop ∧ (rd fs (k : Int)).Pc ≠ n then fs.take (k + 1) else dropN fs n k
def dropF (fs : List D.Frame) (n : Int) : List D.Frame := dropN fs n fs.length
def dropW (x : D.Warp) (n : Int) : D.Warp := ⟨x.Number, dropF x.Frames n, x.Regs⟩
def laneCut (r : List Int) (l : Nat) : List Int := (r.take (l * 4 + 4)).drop (l * 4)
def putLane (r : List Int) (l : Nat) (x : List Int) : List Int := r.take (l * 4) ++ x ++ r.drop (l * 4 + 4)
def applyTo (i : D.Ins) (num m : Int) (r : List Int) : Nat → List Int
 | 0 => r
 | k + 1 => if hasLane m (k : Int) then putLane (applyTo i num m r k) k (apply i (num * 8 + (k : Int)) (laneCut r k)) else applyTo i num m r k
def applyAll (i : D.Ins) (num m : Int) (r : List Int) : List Int := applyTo i num m r 8
def turnPc (p : List D.Ins) (x : D.Warp) : Int :=
 if (topIns p x).Op = 12 then (p.length : Int) else if (topIns p x).Op = 11 then (topIns p x).B else if (topIns p x).Op = 10 ∧ zeroMask x (topIns p x).A = (lastF x.Frames).Mask then (topIns p x).B else topPc x + 1
def setTop (fs : List D.Frame) (pc : Int) : List D.Frame := fs.set (fs.length - 1) ⟨pc, (lastF fs).Stop, (lastF fs).Mask⟩
def advance (p : List D.Ins) (x : D.Warp) : D.Warp := ⟨x.Number, setTop x.Frames (turnPc p x), applyAll (topIns p x) x.Number (lastF x.Frames).Mask x.Regs⟩
def isSplit (p : List D.Ins) (x : D.Warp) : Prop := (topIns p x).Op = 10 ∧ (topIns p x).B ≠ topPc x + 1
def separated (p : List D.Ins) (x : D.Warp) : D.Warp :=
 ⟨x.Number, setTop x.Frames (joinB p (topPc x)) ++ [⟨topPc x + 1, joinB p (topPc x), bitNot .i64 (lastF x.Frames).Mask (zeroMask x (topIns p x).A)⟩, ⟨(topIns p x).B, joinB p (topPc x), zeroMask x (topIns p x).A⟩], x.Regs⟩
def stepW (p : List D.Ins) (x : D.Warp) : D.Warp := dropW (if splits p x then separated p x else advance p x) p.length
def Goes (p : List D.Ins) (x : D.Warp) : Prop := Runs p x ∧ spec_l13Local p x = true
def Fine (p : List D.Ins) (x : D.Warp) : Prop := programOk p = true ∧ warpOf p x = true
end Go.V.M
namespace Go.V.M
open IntKind (wrap)
def once (c : D.Cur) (n : Int) : Bool × D.Cur := ((spec_l01Below c n).1 == 0, (spec_l01Below c n).2)
def setB (p : List D.Ins) (k : Nat) (v : Int) : List D.Ins := p.set k ⟨(rd p (k : Int)).Op, (rd p (k : Int)).A, v, (rd p (k : Int)).C⟩
def loopHead (p : List D.Ins) : List D.Ins := p ++ [(⟨8, 3, 0, 0⟩ : D.Ins)]
def loopAll (p : List D.Ins) : List D.Ins := ((loopHead p ++ [(⟨10, 3, 0, 0⟩ : D.Ins)]) ++ [(⟨3, 0, 0, 1⟩ : D.Ins), (⟨1, 2, 1, 0⟩ : D.Ins), (⟨4, 3, 3, 2⟩ : D.Ins)]) ++ [(⟨11, 0, ((loopHead p).length : Int), 0⟩ : D.Ins)]
def countLoop (p : List D.Ins) : List D.Ins := setB (loopAll p) (loopHead p).length ((loopAll p).length : Int)
def branchIn (rec : D.Cur → List D.Ins → List D.Ins × D.Cur) (c : D.Cur) (p : List D.Ins) : List D.Ins × D.Cur := rec (spec_l01Below c 4).2 (p ++ [⟨10, (spec_l01Below c 4).1, 0, 0⟩])
def elseIn (rec : D.Cur → List D.Ins → List D.Ins × D.Cur) (c : D.Cur) (p q : List D.Ins) : List D.Ins × D.Cur := rec c (setB (q ++ [⟨11, 0, 0, 0⟩]) p.length ((q ++ [(⟨11, 0, 0, 0⟩ : D.Ins)]).length : Int))
def ifIn (rec : D.Cur → List D.Ins → List D.Ins × D.Cur) (c : D.Cur) (p : List D.Ins) : List D.Ins × D.Cur :=
 if (once (branchIn rec c p).2 2).1 then (setB (branchIn rec c p).1 p.length ((branchIn rec c p).1.length : Int), (once (branchIn rec c p).2 2).2)
 else (setB (elseIn rec (once (branchIn rec c p).2 2).2 p (branchIn rec c p).1).1 (branchIn rec c p).1.length ((elseIn rec (once (branchIn rec c p).2 2).2 p (branchIn rec c p).1).1.length : Int), (elseIn rec (once (branchIn rec c p).2 2).2 p (branchIn rec c p).1).2)
def bodyOne (rec : D.Cur → List D.Ins → List D.Ins × D.Cur) (deep : Bool) (c : D.Cur) (p : List D.Ins) : List D.Ins × D.Cur :=
 if (spec_l01Below c 5).1 = 0 then (if deep then ifIn rec (spec_l01Below c 5).2 p else (p, (spec_l01Below c 5).2))
 else if (spec_l01Below c 5).1 = 1 then (if deep ∧ ¬ (p.length : Int) > 14 then (countLoop p, (spec_l01Below c 5).2) else (p, (spec_l01Below c 5).2))
 else (p ++ [(spec_l04Plain (spec_l01Below c 5).2).1], (spec_l04Plain (spec_l01Below c 5).2).2)
def bodyN (rec : D.Cur → List D.Ins → List D.Ins × D.Cur) (deep : Bool) : Nat → D.Cur → List D.Ins → List D.Ins × D.Cur
 | 0, c, p => (p, c)
 | n + 1, c, p => if (p.length : Int) < 20 then bodyN rec deep n (bodyOne rec deep c p).2 (bodyOne rec deep c p).1 else (p, c)
def body : Nat → D.Cur → List D.Ins → List D.Ins × D.Cur
 | 0, c, p => bodyN (fun c p => (p, c)) false (spec_l01Below c 4).1.toNat (spec_l01Below c 4).2 p
 | d + 1, c, p => bodyN (body d) true (spec_l01Below c 4).1.toNat (spec_l01Below c 4).2 p
end Go.V.M
namespace Go.V.M
open IntKind (wrap)
def memStep (i : D.Ins) (s : List Int × List Int) (k : Int) : List Int × List Int :=
 if i.Op = 13 then (s.1.set (k * 4 + i.A).toNat (rd s.2 (Int.tmod (rd s.1 (k * 4 + i.B)) 32)), s.2)
 else if i.Op = 14 then (s.1, s.2.set (Int.tmod (rd s.1 (k * 4 + i.A)) 32).toNat (rd s.1 (k * 4 + i.B)))
 else if i.Op = 15 then (s.1, s.2.set (Int.tmod (rd s.1 (k * 4 + i.A)) 32).toNat (addW (rd s.2 (Int.tmod (rd s.1 (k * 4 + i.A)) 32)) (rd s.1 (k * 4 + i.B))))
 else s
def memTo (i : D.Ins) (m : Int) (s : List Int × List Int) : Nat → List Int × List Int
 | 0 => s
 | k + 1 => if hasLane m (k : Int) then memStep i (memTo i m s k) (k : Int) else memTo i m s k
def memAll (i : D.Ins) (x : D.Warp) (mem : List Int) : List Int × List Int := memTo i (activeMask x) (x.Regs, mem) 8
def setWarp (b : D.Block) (w : Int) (x : D.Warp) : D.Block := ⟨b.Code, b.Warps.set w.toNat x, b.Memory, b.Waiting, b.Phase⟩
def accessB (b : D.Block) (w : Int) (i : D.Ins) : D.Block :=
 ⟨b.Code, b.Warps.set w.toNat ⟨(rd b.Warps w).Number, (rd b.Warps w).Frames, (memAll i (rd b.Warps w) b.Memory).1⟩, (memAll i (rd b.Warps w) b.Memory).2, b.Waiting, b.Phase⟩
def Live (b : D.Block) (w : Int) : Prop := Has b w ∧ (rd b.Warps w).Frames ≠ []
def allWait (b : D.Block) : Nat → Bool
 | 0 => true
 | k + 1 => allWait b k && ((rd b.Warps (k : Int)).Frames.isEmpty || waits b (k : Int))
def spec_l30All (b : D.Block) : Bool := allWait b b.Warps.length && b.Waiting != 0
def passTop (p : List D.Ins) (x : D.Warp) : D.Warp := dropW ⟨x.Number, setTop x.Frames (topPc x + 1), x.Regs⟩ p.length
def actB (b : D.Block) (w : Int) : D.Block :=
 if isLocal (nextI b w) then setWarp b w (stepW b.Code (rd b.Warps w))
 else ⟨b.Code, b.Warps.set w.toNat (passTop b.Code (rd (accessB b w (nextI b w)).Warps w)), (accessB b w (nextI b w)).Memory, if (nextI b w).Op = 16 then bitOr .i64 b.Waiting (bitAt w) else b.Waiting, b.Phase⟩
def closeB (b : D.Block) : D.Block := if spec_l30All b then ⟨b.Code, b.Warps, b.Memory, 0, b.Phase + 1⟩ else b
def stepB (b : D.Block) (w : Int) : D.Block := closeB (actB b w)
def CanGo (b : D.Block) (w : Int) : Prop := Has b w ∧ canGo b w = true
end Go.V.M
namespace Go.V.M
open IntKind (wrap)
def stops (f : Nat → Int) (x : D.Block) (k : Nat) : Bool := decide (f k < 0) || (x.Phase == 100000 || decide (pick x (f k) < 0))
def goTo (f : Nat → Int) : Nat → D.Block → Nat → D.Block × Int
 | 0, x, k => (x, (k : Int))
 | m + 1, x, k => if stops f x k then (x, (k : Int)) else goTo f m (stepB x (pick x (f k))) (k + 1)
def goAt (f : Nat → Int) (b : D.Block) : Nat → D.Block
 | 0 => b
 | k + 1 => stepB (goAt f b k) (pick (goAt f b k) (f k))
end Go.V.M
namespace Go.V.M
open IntKind (wrap)
def cmpInt (x y : Int) : Int := if x < y then -1 else if x > y then 1 else 0
def cmp_Compare_int := cmpInt
def cmp_Compare_int_pre (x y : Int) : Prop := True
def impl_Block_accesses_1 (a b : D.Access) : Int := cmpInt a.Address b.Address
def impl_Block_accesses_1_pre (a b : D.Access) : Prop := True
def insG {α : Type} (g : α → α → Int) (x : α) : List α → List α
 | [] => [x]
 | y :: r => if g x y < 0 then y :: insG g x r else x :: y :: r
def sortG {α : Type} (g : α → α → Int) (l : List α) : List α := (l.foldl (fun r x => insG g x r) []).reverse
def SortOk (l : List D.Access) (D : D.Access → D.Access → Prop) : Prop := l.length ≤ 12 ∧ ∀ x ∈ l, ∀ y ∈ l, D x y
def slices_insertionSortCmpFunc_impl_Access (l : List D.Access) (a b : Int) (g : D.Access → D.Access → Int) : List D.Access := sortG g l
def slices_insertionSortCmpFunc_impl_Access_pre (l : List D.Access) (a b : Int) (g : D.Access → D.Access → Int) (D : D.Access → D.Access → Prop) : Prop := a = 0 ∧ b = (l.length : Int) ∧ SortOk l D
def slices_pdqsortCmpFunc_impl_Access (l : List D.Access) (a b c : Int) (g : D.Access → D.Access → Int) : List D.Access := sortG g l
def slices_pdqsortCmpFunc_impl_Access_pre (l : List D.Access) (a b c : Int) (g : D.Access → D.Access → Int) (D : D.Access → D.Access → Prop) : Prop := a = 0 ∧ b = (l.length : Int) ∧ SortOk l D
def slices_SortFunc_impl_Access_impl_Access (l : List D.Access) (g : D.Access → D.Access → Int) : List D.Access := sortG g l
def slices_SortFunc_impl_Access_impl_Access_pre (l : List D.Access) (g : D.Access → D.Access → Int) (D : D.Access → D.Access → Prop) : Prop := SortOk l D
def sqz {α : Type} [DecidableEq α] (x : α) : List α → List α
 | [] => []
 | y :: l => if y = x then sqz x l else y :: sqz y l
def squeeze {α : Type} [DecidableEq α] : List α → List α
 | [] => []
 | x :: l => x :: sqz x l
def slices_Compact_impl_Access_impl_Access (l : List D.Access) : List D.Access := squeeze l
def slices_Compact_impl_Access_impl_Access_pre (l : List D.Access) : Prop := l.length ≤ 17179869184
def regAt (i : D.Ins) : Int := if i.Op = 13 then i.B else i.A
def addrAt (b : D.Block) (w k : Int) : Int := Int.tmod (rd (rd b.Warps w).Regs (k * 4 + regAt (nextI b w))) 32
def accAt (b : D.Block) (w a : Int) : D.Access := ⟨b.Phase, w, a, (nextI b w).Op⟩
def putAll (l : List Int) : List Int := l.foldl spec_l04Put []
def accesses (b : D.Block) (w : Int) : List D.Access :=
 if isIn (nextI b w).Op 13 15 then (putAll ((lanesOf (activeMask (rd b.Warps w))).map (addrAt b w))).map (accAt b w) else []
def spec_l33Of := accesses
def spec_l33Of_pre (b : D.Block) (w : Int) : Prop := Live b w
def impl_Block_accesses := accesses
def impl_Block_accesses_pre (b : D.Block) (w : Int) : Prop := Live b w
def accessesOf (b : D.Block) (w : Int) : List D.Access := if canStep b w then accesses b w else []
def spec_AccessesOf := accessesOf
def spec_AccessesOf_pre (b : D.Block) (w : Int) : Prop := BLong b
def impl_AccessesOf := accessesOf
def impl_AccessesOf_pre (b : D.Block) (w : Int) : Prop := BLong b
def laws_FnExactAccessesOf (b : D.Block) (w : Int) : Bool := true
def laws_FnExactAccessesOf_pre (b : D.Block) (w : Int) : Prop := BLong b
end Go.V.M
namespace Go.V
open IntKind (wrap)
def wp.impl_within (x0 : Int) (x1 : Int) (x2 : Int) (Q : Bool → Prop) : Prop :=
 bcase (decide (x0 ≥ x1)) (Q (decide (x0 ≤ x2))) (Q false)
def wp.spec_l01In (x0 : Int) (x1 : Int) (x2 : Int) (Q : Bool → Prop) : Prop :=
 bcase (decide (x0 ≥ x1)) (Q (decide (x0 ≤ x2))) (Q false)
def wp.impl_IsWord (x0 : Int) (Q : Bool → Prop) : Prop :=
 (∀ r21, r21 = M.impl_within x0 0 65535 → Q r21)
def wp.spec_IsWord (x0 : Int) (Q : Bool → Prop) : Prop :=
 (∀ r21, r21 = M.spec_l01In x0 0 65535 → Q r21)
def wp.impl_IsMask (x0 : Int) (Q : Bool → Prop) : Prop :=
 (∀ r21, r21 = M.impl_within x0 0 255 → Q r21)
def wp.impl_isLane (x0 : Int) (Q : Bool → Prop) : Prop :=
 (∀ r21, r21 = M.impl_within x0 0 7 → Q r21)
def wp.impl_HasLane (x0 : Int) (x1 : Int) (Q : Bool → Prop) : Prop :=
 (∀ r21, r21 = M.impl_IsMask x0 → bcase r21 ((∀ r26, r26 = M.impl_isLane x1 → bcase r26 (((0 ≤ x1) ∧ Q ((bitAnd .i64 (Int.fdiv x0 (2 ^ (min (x1.toNat) (IntKind.bits .i64)))) 1) == 1))) (Q false))) (Q false))
def wp.impl_LanesOf (x0 : Int) (Q : (List Int) → Prop) : Prop :=
 LoopP (σ := (List Int) × Int × Unit) (fun (p54 : (List Int) × Int × Unit) next31 => match p54 with | (xs24, i27, _) => bcase (decide (i27 < 8)) ((∀ r33, r33 = M.impl_HasLane x0 i27 → bcase r33 (((xs24.length + ([i27] : List Int).length ≤ 17179869184) ∧ next31 ((xs24 ++ ([i27] : List Int)), (wrap .i64 (i27 + 1)), ()))) (next31 (xs24, (wrap .i64 (i27 + 1)), ())))) (Q xs24)) (([] : List Int), 0, ())
def wp.spec_AreWords (xs0 : List Int) (Q : Bool → Prop) : Prop :=
 LoopP (σ := Int × Unit) (fun (p42 : Int × Unit) next25 => match p42 with | (i21, _) => bcase (decide (i21 < (xs0.length : Int))) (((0 ≤ i21 ∧ i21 < (xs0.length : Int)) ∧ (∀ r32, r32 = M.spec_IsWord (rd xs0 i21) → bcase (!r32) (Q false) (next25 ((wrap .i64 (i21 + 1)), ()))))) (Q true)) (0, ())
def wp.laws_eqIntS (xs0 : List Int) (xs1 : List Int) (Q : Bool → Prop) : Prop :=
 bcase ((xs0.length : Int) != (xs1.length : Int)) (Q false) (LoopP (σ := Int × Unit) (fun (p43 : Int × Unit) next25 => match p43 with | (i21, _) => bcase (decide (i21 < (xs0.length : Int))) (((0 ≤ i21 ∧ i21 < (xs0.length : Int)) ∧ ((0 ≤ i21 ∧ i21 < (xs1.length : Int)) ∧ bcase ((rd xs0 i21) != (rd xs1 i21)) (Q false) (next25 ((wrap .i64 (i21 + 1)), ()))))) (Q true)) (0, ()))
def wp.laws_toIntS (xs0 : List Int) (Q : (List Int) → Prop) : Prop :=
 ((0 ≤ (xs0.length : Int) ∧ (xs0.length : Int) ≤ 17179869184) ∧ LoopP (σ := Int × (List Int) × Unit) (fun (p70 : Int × (List Int) × Unit) next51 => match p70 with | (i45, xs46, _) => bcase (decide (i45 < (xs0.length : Int))) (((0 ≤ i45 ∧ i45 < (xs0.length : Int)) ∧ ((0 ≤ i45 ∧ i45 < (xs46.length : Int)) ∧ next51 ((wrap .i64 (i45 + 1)), (List.set xs46 (i45.toNat) (rd xs0 i45)), ())))) (Q xs46)) (0, (List.replicate ((xs0.length : Int).toNat) (default : Int)), ()))
end Go.V
namespace Go.V
open IntKind (wrap)
theorem wp.impl_within.math (x a b : Int) : wp.impl_within x a b (fun r => r = M.impl_within x a b) := by
 simp only [wp.impl_within, bcase_iff, M.impl_within, M.isIn]
 exact ⟨fun h => by simp at h; simp [h], fun h => by simp at h; simp; omega⟩
theorem wp.spec_l01In.math (x a b : Int) : wp.spec_l01In x a b (fun r => r = M.spec_l01In x a b) := wp.impl_within.math x a b
theorem wp.impl_IsWord.math (x : Int) : wp.impl_IsWord x (fun r => r = M.impl_IsWord x) := fun r h => h
theorem wp.spec_IsWord.math (x : Int) : wp.spec_IsWord x (fun r => r = M.spec_IsWord x) := fun r h => h
theorem wp.impl_IsMask.math (x : Int) : wp.impl_IsMask x (fun r => r = M.impl_IsMask x) := fun r h => h
theorem wp.impl_isLane.math (x : Int) : wp.impl_isLane x (fun r => r = M.impl_isLane x) := fun r h => h
theorem wp.impl_HasLane.math (m l : Int) : wp.impl_HasLane m l (fun r => r = M.impl_HasLane m l) := by
 intro r1 h1
 refine bcase_mk (fun e1 r2 h2 => bcase_mk (fun e2 => ?_) fun e2 => ?_) fun e1 => ?_
 ·have : M.isLane l = true := by rw [← e2, h2]; rfl
  have h0 : 0 ≤ l := by simp [M.isLane, M.isIn] at this; omega
  refine ⟨h0, ?_⟩
  have e1' : M.isMask m = true := by rw [← e1, h1]; rfl
  simp [M.impl_HasLane, M.hasLane, e1', this]
 ·have : M.isLane l = false := by rw [← e2, h2]; rfl
  simp [M.impl_HasLane, M.hasLane, this]
 ·have : M.isMask m = false := by rw [← e1, h1]; rfl
  simp [M.impl_HasLane, M.hasLane, this]
theorem wp.impl_LanesOf.math (m : Int) : wp.impl_LanesOf m (fun r => r = M.impl_LanesOf m) := by
 unfold wp.impl_LanesOf
 refine ⟨fun k p => (k : Int) = 8 - p.2.1 ∧ 0 ≤ p.2.1 ∧ p.2.1 ≤ 8 ∧ p.1 = ([0, 1, 2, 3, 4, 5, 6, 7].take p.2.1.toNat).filter (M.hasLane m), ⟨8, by simp⟩, ?_⟩
 rintro k ⟨xs, i, _⟩ ⟨hk, h0, h8, hx⟩
 simp only at hk h0 h8 hx ⊢
 refine bcase_mk (fun e => ?_) fun e => ?_
 ·have hlt : i < 8 := by simpa using e
  intro r hr
  have hs : (([0, 1, 2, 3, 4, 5, 6, 7] : List Int).take (i + 1).toNat) = ([0, 1, 2, 3, 4, 5, 6, 7] : List Int).take i.toNat ++ [i] := by
   have : i = 0 ∨ i = 1 ∨ i = 2 ∨ i = 3 ∨ i = 4 ∨ i = 5 ∨ i = 6 ∨ i = 7 := by omega
   rcases this with rfl | rfl | rfl | rfl | rfl | rfl | rfl | rfl <;> rfl
  have hw : wrap .i64 (i + 1) = i + 1 := w64 (by omega) (by omega)
  refine bcase_mk (fun e2 => ⟨?_, (k - 1), by omega, ?_⟩) fun e2 => ⟨k - 1, by omega, ?_⟩
  ·rw [hx]
   have := List.length_filter_le (M.hasLane m) (([0, 1, 2, 3, 4, 5, 6, 7] : List Int).take i.toNat)
   simp at this ⊢; omega
  ·simp only [hw, hs, List.filter_append]
   refine ⟨by omega, by omega, by omega, ?_⟩
   rw [hx, List.filter_cons, if_pos (by rw [← e2, hr]; rfl)]; rfl
  ·simp only [hw, hs, List.filter_append]
   refine ⟨by omega, by omega, by omega, ?_⟩
   rw [hx, List.filter_cons, if_neg (by rw [show M.hasLane m i = r from hr.symm, e2]; simp)]; simp
 ·have : i = 8 := by simp at e; omega
  subst this
  rw [hx]; rfl
theorem wp.spec_AreWords.math (l : List Int) (h : M.spec_AreWords_pre l) : wp.spec_AreWords l (fun r => r = M.spec_AreWords l) := by
 unfold wp.spec_AreWords
 have hb : l.length ≤ 9223372036854775807 := by unfold M.spec_AreWords_pre at h; omega
 refine loop_n l.length (fun k => ((k : Int), ())) (fun k => (l.take k).all M.isWord = true) rfl (by simp) (fun k hk hF next hn => ?_) fun hF next => ?_
 ·refine bcase_t (by simp; omega) ⟨by omega, fun r hr => ?_⟩
  rw [rd_nat hk] at hr
  refine bcase_mk (fun e => ?_) fun e => ?_
  ·have e' : M.isWord l[k] = false := by rw [hr] at e; simpa [M.spec_IsWord] using e
   exact (all_at hk e').symm
  ·have e' : M.isWord l[k] = true := by rw [hr] at e; simpa [M.spec_IsWord] using e
   rw [up64 hk hb]
   exact hn (take_all_succ hk hF e')
 ·refine bcase_f (by simp) ?_
  rw [List.take_length] at hF
  exact hF.symm
theorem wp.laws_eqIntS.math (a b : List Int) (h : M.laws_eqIntS_pre a b) : wp.laws_eqIntS a b (fun r => r = M.laws_eqIntS a b) := by
 unfold wp.laws_eqIntS
 have hb : a.length ≤ 9223372036854775807 := by unfold M.laws_eqIntS_pre at h; omega
 refine bcase_mk (fun e => ?_) fun e => ?_
 ·simp [M.laws_eqIntS]; rintro rfl; simp at e
 have hl : a.length = b.length := by simp at e; omega
 refine loop_n a.length (fun k => ((k : Int), ())) (fun k => ∀ j : Nat, j < k → rd a j = rd b j) rfl (by simp) (fun k hk hF next hn => ?_) fun hF next => ?_
 ·refine bcase_t (by simp; omega) ⟨by omega, by omega, bcase_mk (fun e => ?_) fun e => ?_⟩
  ·simp [M.laws_eqIntS]; rintro rfl; simp at e
  ·rw [up64 hk hb]
   refine hn fun j hj => ?_
   by_cases hjk : j = k
   ·subst hjk; simpa using e
   ·exact hF j (by omega)
 ·refine bcase_f (by simp) ?_
  have := eq_of_takes hl hF
  simp [M.laws_eqIntS, this]
theorem wp.laws_toIntS.math (a : List Int) (h : M.laws_toIntS_pre a) : wp.laws_toIntS a (fun r => r = M.laws_toIntS a) := by
 unfold wp.laws_toIntS
 unfold M.laws_toIntS_pre at h
 refine ⟨by omega, ?_⟩
 refine loop_n a.length (fun k => ((k : Int), cp id a k, ())) (fun _ => True) (by simp [cp_zero]) trivial (fun k hk hF next hn => ?_) fun hF next => ?_
 ·refine bcase_t (by simp; omega) ⟨by omega, ⟨by omega, by simp only [cp_len id a (Nat.le_of_lt hk)]; omega⟩, ?_⟩
  rw [up64 hk (by omega), rd_nat hk]
  have := cp_set id a hk
  simp only [id] at this
  simp only [Int.toNat_natCast]
  rw [this]
  exact hn trivial
 ·exact bcase_f (by simp) (by rw [cp_all]; simp [M.laws_toIntS])
end Go.V
namespace Go.V
open IntKind (wrap)
def wp.laws_markIntS (xs0 : List Int) (x1 : Int) (Q : (Int × (List Int)) → Prop) : Prop :=
 LoopP (σ := Int × Int × (List Int) × Unit) (fun (p57 : Int × Int × (List Int) × Unit) next43 => match p57 with | (i36, i37, xs38, _) => bcase (decide (i37 < (xs0.length : Int))) (((0 ≤ i37 ∧ i37 < (xs38.length : Int)) ∧ next43 ((wrap .i64 (i36 + 1)), (wrap .i64 (i37 + 1)), (List.set xs38 (i37.toNat) i36), ()))) (Q (i36, xs38))) (x1, 0, xs0, ())
def wp.laws_markAccessS (xs0 : List D.Access) (x1 : Int) (Q : (Int × (List D.Access)) → Prop) : Prop :=
 LoopP (σ := Int × Int × (List D.Access) × Unit) (fun (p111 : Int × Int × (List D.Access) × Unit) next70 => match p111 with | (i63, i64, xs65, _) => bcase (decide (i64 < (xs0.length : Int))) (((0 ≤ i64 ∧ i64 < (xs65.length : Int)) ∧ ((0 ≤ i64 ∧ i64 < ((List.set xs65 (i64.toNat) (⟨i63, (rd xs65 i64).Warp, (rd xs65 i64).Address, (rd xs65 i64).Kind⟩ : D.Access)).length : Int)) ∧ ((0 ≤ i64 ∧ i64 < ((List.set xs65 (i64.toNat) (⟨i63, (wrap .i64 (i63 + 1)), (rd xs65 i64).Address, (rd xs65 i64).Kind⟩ : D.Access)).length : Int)) ∧ ((0 ≤ i64 ∧ i64 < ((List.set xs65 (i64.toNat) (⟨i63, (wrap .i64 (i63 + 1)), (wrap .i64 ((wrap .i64 (i63 + 1)) + 1)), (rd xs65 i64).Kind⟩ : D.Access)).length : Int)) ∧ next70 ((wrap .i64 ((wrap .i64 ((wrap .i64 ((wrap .i64 (i63 + 1)) + 1)) + 1)) + 1)), (wrap .i64 (i64 + 1)), (List.set xs65 (i64.toNat) (⟨i63, (wrap .i64 (i63 + 1)), (wrap .i64 ((wrap .i64 (i63 + 1)) + 1)), (wrap .i64 ((wrap .i64 ((wrap .i64 (i63 + 1)) + 1)) + 1))⟩ : D.Access)), ())))))) (Q (i63, xs65))) (x1, 0, xs0, ())
def wp.laws_heldAccessS (xs0 : List D.Access) (x1 : Int) (Q : Int → Prop) : Prop :=
 LoopP (σ := Int × Int × Unit) (fun (p56 : Int × Int × Unit) next26 => match p56 with | (i21, i22, _) => bcase (decide (i22 < (xs0.length : Int))) (((0 ≤ i22 ∧ i22 < (xs0.length : Int)) ∧ bcase ((rd xs0 i22).Phase != i21) (Q (-1)) (((0 ≤ i22 ∧ i22 < (xs0.length : Int)) ∧ bcase ((rd xs0 i22).Warp != (wrap .i64 (i21 + 1))) (Q (-1)) (((0 ≤ i22 ∧ i22 < (xs0.length : Int)) ∧ bcase ((rd xs0 i22).Address != (wrap .i64 ((wrap .i64 (i21 + 1)) + 1))) (Q (-1)) (((0 ≤ i22 ∧ i22 < (xs0.length : Int)) ∧ bcase ((rd xs0 i22).Kind != (wrap .i64 ((wrap .i64 ((wrap .i64 (i21 + 1)) + 1)) + 1))) (Q (-1)) (next26 ((wrap .i64 ((wrap .i64 ((wrap .i64 ((wrap .i64 (i21 + 1)) + 1)) + 1)) + 1)), (wrap .i64 (i22 + 1)), ())))))))))) (Q i21)) (x1, 0, ())
def wp.laws_eqAccess (s0 : D.Access) (s1 : D.Access) (Q : Bool → Prop) : Prop :=
 bcase (s0.Phase != s1.Phase) (Q false) (bcase (s0.Warp != s1.Warp) (Q false) (bcase (s0.Address != s1.Address) (Q false) (bcase (s0.Kind != s1.Kind) (Q false) (Q true))))
def wp.laws_eqAccessS (xs0 : List D.Access) (xs1 : List D.Access) (Q : Bool → Prop) : Prop :=
 bcase ((xs0.length : Int) != (xs1.length : Int)) (Q false) (LoopP (σ := Int × Unit) (fun (p48 : Int × Unit) next25 => match p48 with | (i21, _) => bcase (decide (i21 < (xs0.length : Int))) (((0 ≤ i21 ∧ i21 < (xs0.length : Int)) ∧ ((0 ≤ i21 ∧ i21 < (xs1.length : Int)) ∧ (∀ r38, r38 = M.laws_eqAccess (rd xs0 i21) (rd xs1 i21) → bcase (!r38) (Q false) (next25 ((wrap .i64 (i21 + 1)), ())))))) (Q true)) (0, ()))
end Go.V
namespace Go.V
open IntKind (wrap)
theorem wp.laws_markIntS.math (a : List Int) (x : Int) (h : M.laws_markIntS_pre a x) : wp.laws_markIntS a x (fun r => r = M.laws_markIntS a x) := by
 unfold wp.laws_markIntS
 obtain ⟨⟨h1, h2⟩, h3⟩ := h
 unfold M.Few at h3
 refine loop_n a.length (fun k => (x + k, (k : Int), mk (fun i => x + (i : Int)) a k, ())) (fun _ => True) (by simp [mk_zero]) trivial (fun k hk hF next hn => ?_) fun hF next => ?_
 ·refine bcase_t (by simp; omega) ⟨⟨by omega, by simp only [mk_len _ a (Nat.le_of_lt hk)]; omega⟩, ?_⟩
  have e1 : wrap .i64 (x + (k : Int) + 1) = x + ((k + 1 : Nat) : Int) := by rw [w64 (by omega) (by omega)]; push_cast; omega
  have e2 := mk_set (fun i : Nat => x + (i : Int)) a hk
  simp only [Int.toNat_natCast]
  rw [up64 hk (by omega), e1, e2]
  exact hn trivial
 ·exact bcase_f (by simp) (by rw [mk_all]; rfl)
theorem wp.laws_markAccessS.math (a : List D.Access) (x : Int) (h : M.laws_markAccessS_pre a x) : wp.laws_markAccessS a x (fun r => r = M.laws_markAccessS a x) := by
 unfold wp.laws_markAccessS
 obtain ⟨⟨h1, h2⟩, h3⟩ := h
 unfold M.Few at h3
 let g : Nat → D.Access := fun i => ⟨x + 4 * (i : Int), x + 4 * (i : Int) + 1, x + 4 * (i : Int) + 2, x + 4 * (i : Int) + 3⟩
 refine loop_n a.length (fun k => (x + 4 * k, (k : Int), mk g a k, ())) (fun _ => True) (by simp [mk_zero]) trivial (fun k hk hF next hn => ?_) fun hF next => ?_
 ·have hl := mk_len g a (Nat.le_of_lt hk)
  have e1 : wrap .i64 (x + 4 * (k : Int) + 1) = x + 4 * (k : Int) + 1 := w64 (by omega) (by omega)
  have e2 : wrap .i64 (x + 4 * (k : Int) + 1 + 1) = x + 4 * (k : Int) + 2 := by rw [w64 (by omega) (by omega)]; omega
  have e3 : wrap .i64 (x + 4 * (k : Int) + 2 + 1) = x + 4 * (k : Int) + 3 := by rw [w64 (by omega) (by omega)]; omega
  have e4 : wrap .i64 (x + 4 * (k : Int) + 3 + 1) = x + 4 * ((k + 1 : Nat) : Int) := by rw [w64 (by omega) (by omega)]; push_cast; omega
  have hs := mk_set g a hk
  refine bcase_t (by simp; omega) ?_
  simp only [e1, e2, e3, e4, List.length_set, hl, Int.toNat_natCast, up64 hk (show a.length ≤ 9223372036854775807 by omega)]
  refine ⟨by omega, by omega, by omega, by omega, ?_⟩
  rw [show (⟨x + 4 * (k : Int), x + 4 * (k : Int) + 1, x + 4 * (k : Int) + 2, x + 4 * (k : Int) + 3⟩ : D.Access) = g k from rfl, hs]
  exact hn trivial
 ·exact bcase_f (by simp) (by rw [mk_all]; rfl)
theorem wp.laws_heldAccessS.math (a : List D.Access) (x : Int) (h : M.laws_heldAccessS_pre a x) : wp.laws_heldAccessS a x (fun r => r = M.laws_heldAccessS a x) := by
 unfold wp.laws_heldAccessS
 obtain ⟨⟨h1, h2⟩, h3⟩ := h
 unfold M.Few at h3
 let g : Nat → D.Access := fun i => ⟨x + 4 * (i : Int), x + 4 * (i : Int) + 1, x + 4 * (i : Int) + 2, x + 4 * (i : Int) + 3⟩
 refine loop_n a.length (fun k => (x + 4 * k, (k : Int), ())) (fun k => ∀ j : Nat, j < k → rd a j = g j) (by simp) (by simp) (fun k hk hF next hn => ?_) fun hF next => ?_
 ·have e1 : wrap .i64 (x + 4 * (k : Int) + 1) = x + 4 * (k : Int) + 1 := w64 (by omega) (by omega)
  have e2 : wrap .i64 (x + 4 * (k : Int) + 1 + 1) = x + 4 * (k : Int) + 2 := by rw [w64 (by omega) (by omega)]; omega
  have e3 : wrap .i64 (x + 4 * (k : Int) + 2 + 1) = x + 4 * (k : Int) + 3 := by rw [w64 (by omega) (by omega)]; omega
  have e4 : wrap .i64 (x + 4 * (k : Int) + 3 + 1) = x + 4 * ((k + 1 : Nat) : Int) := by rw [w64 (by omega) (by omega)]; push_cast; omega
  have bad : ∀ (P : Prop), (rd a k = g k → P) → ¬ P → -1 = M.laws_heldAccessS a x := fun P hp hn => (if_neg (ne_seq g hk (fun e => hn (hp e)))).symm
  refine bcase_t (by simp; omega) ?_
  simp only [e1, e2, e3, e4, up64 hk (show a.length ≤ 9223372036854775807 by omega)]
  refine ⟨by omega, bcase_mk (fun f1 => ?_) fun f1 => ⟨by omega, bcase_mk (fun f2 => ?_) fun f2 => ⟨by omega, bcase_mk (fun f3 => ?_) fun f3 => ⟨by omega, bcase_mk (fun f4 => ?_) fun f4 => ?_⟩⟩⟩⟩
  ·exact bad ((rd a k).Phase = x + 4 * (k : Int)) (fun e => by rw [e]) (by simpa using f1)
  ·exact bad ((rd a k).Warp = x + 4 * (k : Int) + 1) (fun e => by rw [e]) (by simpa using f2)
  ·exact bad ((rd a k).Address = x + 4 * (k : Int) + 2) (fun e => by rw [e]) (by simpa using f3)
  ·exact bad ((rd a k).Kind = x + 4 * (k : Int) + 3) (fun e => by rw [e]) (by simpa using f4)
  ·refine hn fun j hj => ?_
   by_cases hjk : j = k
   ·subst hjk
    simp only [bne_eq_false_iff_eq] at f1 f2 f3 f4
    show rd a (j : Int) = (⟨x + 4 * (j : Int), x + 4 * (j : Int) + 1, x + 4 * (j : Int) + 2, x + 4 * (j : Int) + 3⟩ : D.Access)
    rw [← f4, ← f3, ← f2, ← f1]
   ·exact hF j (by omega)
 ·exact bcase_f (by simp) (if_pos (eq_seq g hF)).symm
theorem wp.laws_eqAccess.math (a b : D.Access) : wp.laws_eqAccess a b (fun r => r = M.laws_eqAccess a b) := by
 obtain ⟨a1, a2, a3, a4⟩ := a
 obtain ⟨b1, b2, b3, b4⟩ := b
 simp only [wp.laws_eqAccess, M.laws_eqAccess]
 refine bcase_mk (fun e => ?_) fun e1 => bcase_mk (fun e => ?_) fun e2 => bcase_mk (fun e => ?_) fun e3 => bcase_mk (fun e => ?_) fun e4 => ?_ <;> simp_all
theorem wp.laws_eqAccessS.math (a b : List D.Access) (h : M.laws_eqAccessS_pre a b) : wp.laws_eqAccessS a b (fun r => r = M.laws_eqAccessS a b) := by
 unfold wp.laws_eqAccessS
 have hb : a.length ≤ 9223372036854775807 := by unfold M.laws_eqAccessS_pre at h; omega
 refine bcase_mk (fun e => ?_) fun e => ?_
 ·simp [M.laws_eqAccessS]; rintro rfl; simp at e
 have hl : a.length = b.length := by simp at e; omega
 refine loop_n a.length (fun k => ((k : Int), ())) (fun k => ∀ j : Nat, j < k → rd a j = rd b j) rfl (by simp) (fun k hk hF next hn => ?_) fun hF next => ?_
 ·refine bcase_t (by simp; omega) ⟨by omega, by omega, fun r hr => bcase_mk (fun e => ?_) fun e => ?_⟩
  ·subst hr; simp [M.laws_eqAccessS]; rintro rfl; simp [M.laws_eqAccess] at e
  ·subst hr
   rw [up64 hk hb]
   refine hn fun j hj => ?_
   by_cases hjk : j = k
   ·subst hjk; simpa [M.laws_eqAccess] using e
   ·exact hF j (by omega)
 ·refine bcase_f (by simp) ?_
  have := eq_of_takes hl hF
  simp [M.laws_eqAccessS, this]
end Go.V
namespace Go.V
open IntKind (wrap)
def wp.slices_IndexFunc_int_int (xs0 : List Int) (g1 : Int → Bool) (D1 : Int → Prop) (Q : Int → Prop) : Prop :=
 LoopP (σ := Int × Unit) (fun (p42 : Int × Unit) next25 => match p42 with | (i21, _) => bcase (decide (i21 < (xs0.length : Int))) (((0 ≤ i21 ∧ i21 < (xs0.length : Int)) ∧ (D1 (rd xs0 i21) ∧ ∀ r32, r32 = g1 (rd xs0 i21) → bcase r32 (Q i21) (next25 ((wrap .i64 (i21 + 1)), ()))))) (Q (-1))) (0, ())
def wp.slices_ContainsFunc_int_int (xs0 : List Int) (g1 : Int → Bool) (D1 : Int → Prop) (Q : Bool → Prop) : Prop :=
 (M.slices_IndexFunc_int_int_pre xs0 g1 D1 ∧ ∀ r21, r21 = M.slices_IndexFunc_int_int xs0 g1 → Q (decide (r21 ≥ 0)))
def wp.impl_AreWords_1 (x0 : Int) (Q : Bool → Prop) : Prop :=
 (∀ r21, r21 = M.impl_IsWord x0 → Q (!r21))
def wp.impl_AreWords (xs0 : List Int) (Q : Bool → Prop) : Prop :=
 (M.slices_ContainsFunc_int_int_pre xs0 (fun z0_ => M.impl_AreWords_1 z0_) (fun _ => True) ∧ ∀ r21, r21 = M.slices_ContainsFunc_int_int xs0 (fun z0_ => M.impl_AreWords_1 z0_) → Q (!r21))
def wp.spec_IsMask (x0 : Int) (Q : Bool → Prop) : Prop :=
 (∀ r21, r21 = M.spec_l01In x0 0 255 → Q r21)
def wp.spec_HasLane (x0 : Int) (x1 : Int) (Q : Bool → Prop) : Prop :=
 (∀ r21, r21 = M.spec_IsMask x0 → bcase r21 ((∀ r26, r26 = M.spec_l01In x1 0 7 → bcase r26 (((0 ≤ x1) ∧ Q ((bitAnd .i64 (Int.fdiv x0 (2 ^ (min (x1.toNat) (IntKind.bits .i64)))) 1) == 1))) (Q false))) (Q false))
end Go.V
namespace Go.V
open IntKind (wrap)
theorem isWord_iff {x : Int} : M.isWord x = true ↔ 0 ≤ x ∧ x ≤ 65535 := by simp [M.isWord, M.isIn]
theorem isLane_iff {x : Int} : M.isLane x = true ↔ 0 ≤ x ∧ x ≤ 7 := by simp [M.isLane, M.isIn]
theorem rd_mem {α : Type} [Inhabited α] {xs : List α} {k : Nat} (h : k < xs.length) : rd xs (k : Int) ∈ xs := by rw [rd_nat h]; exact List.getElem_mem h
theorem nt {r x : Bool} (e : (!r) = true) (h : r = x) : x = false := by subst h; simpa using e
theorem nf {r x : Bool} (e : (!r) = false) (h : r = x) : x = true := by subst h; simpa using e
theorem firstIx_from {α : Type} [Inhabited α] (g : α → Bool) (l : List α) : ∀ (k : Nat), k < l.length → M.firstIx g (l.drop k) k = if g (rd l (k : Int)) then (k : Int) else M.firstIx g (l.drop (k + 1)) (k + 1) := by
 intro k hk
 rw [List.drop_eq_getElem_cons hk, rd_nat hk]; rfl
theorem wp.slices_IndexFunc_int_int.math (l : List Int) (g : Int → Bool) (D : Int → Prop) (h : M.slices_IndexFunc_int_int_pre l g D) : wp.slices_IndexFunc_int_int l g D (fun r => r = M.slices_IndexFunc_int_int l g) := by
 unfold wp.slices_IndexFunc_int_int
 obtain ⟨h1, h2⟩ := h
 refine loop_n l.length (fun k => ((k : Int), ())) (fun k => M.slices_IndexFunc_int_int l g = M.firstIx g (l.drop k) k) rfl (by simp [M.slices_IndexFunc_int_int]) (fun k hk hF next hn => ?_) fun hF next => ?_
 ·rw [firstIx_from g l k hk] at hF
  refine bcase_t (by simp; omega) ⟨by omega, h2 _ (rd_mem hk), fun r hr => bcase_mk (fun e => ?_) fun e => ?_⟩
  ·rw [hF, if_pos (by rw [← hr]; exact e)]
  ·rw [up64 hk h1]
   exact hn (by rw [hF, if_neg (by rw [← hr, e]; simp)])
 ·refine bcase_f (by simp) ?_
  rw [hF]; simp [M.firstIx]
theorem firstIx_nonneg {α : Type} (g : α → Bool) : ∀ (l : List α) (k : Nat), decide (M.firstIx g l k ≥ 0) = l.any g
 | [], k => by simp [M.firstIx]
 | x :: l, k => by
  simp only [M.firstIx, List.any_cons]
  by_cases hx : g x = true
  ·simp [hx]
  ·simp only [hx, Bool.false_eq_true, if_false, Bool.false_or]; simpa [hx] using firstIx_nonneg g l (k + 1)
theorem wp.slices_ContainsFunc_int_int.math (l : List Int) (g : Int → Bool) (D : Int → Prop) (h : M.slices_ContainsFunc_int_int_pre l g D) : wp.slices_ContainsFunc_int_int l g D (fun r => r = M.slices_ContainsFunc_int_int l g) :=
 ⟨h, fun r hr => by rw [hr]; exact firstIx_nonneg g l 0⟩
theorem wp.impl_AreWords_1.math (x : Int) : wp.impl_AreWords_1 x (fun r => r = M.impl_AreWords_1 x) := fun r hr => by rw [hr]; rfl
theorem wp.impl_AreWords.math (l : List Int) (h : M.impl_AreWords_pre l) : wp.impl_AreWords l (fun r => r = M.impl_AreWords l) := by
 refine ⟨⟨h, fun _ _ => trivial⟩, fun r hr => ?_⟩
 rw [hr]
 simp only [M.slices_ContainsFunc_int_int, M.impl_AreWords, M.impl_AreWords_1]
 rw [← List.all_eq_not_any_not]
theorem wp.spec_IsMask.math (x : Int) : wp.spec_IsMask x (fun r => r = M.spec_IsMask x) := fun r hr => hr
theorem wp.spec_HasLane.math (m l : Int) : wp.spec_HasLane m l (fun r => r = M.spec_HasLane m l) := by
 intro r1 h1
 refine bcase_mk (fun e1 r2 h2 => bcase_mk (fun e2 => ?_) fun e2 => ?_) fun e1 => ?_
 ·have : M.isLane l = true := by rw [← e2, h2]; rfl
  have h0 : 0 ≤ l := (isLane_iff.1 this).1
  refine ⟨h0, ?_⟩
  have e1' : M.isMask m = true := by rw [← e1, h1]; rfl
  simp [M.spec_HasLane, M.hasLane, e1', this]
 ·have : M.isLane l = false := by rw [← e2, h2]; rfl
  simp [M.spec_HasLane, M.hasLane, this]
 ·have : M.isMask m = false := by rw [← e1, h1]; rfl
  simp [M.spec_HasLane, M.hasLane, this]
theorem isWord_mod (x : Int) : M.isWord (x % 65536) = true := isWord_iff.2 ⟨by omega, by omega⟩
end Go.V
namespace Go.V
open IntKind (wrap)
def wp.laws_szInsS (xs0 : List D.Ins) (x1 : Int) (Q : Int → Prop) : Prop :=
 bcase (decide ((wrap .i64 (x1 - (xs0.length : Int))) < 0)) (Q (-1)) (Q (wrap .i64 (x1 - (xs0.length : Int))))
def wp.laws_toIns (s0 : D.Ins) (Q : D.Ins → Prop) : Prop :=
 Q (⟨s0.Op, s0.A, s0.B, s0.C⟩ : D.Ins)
def wp.laws_toInsS (xs0 : List D.Ins) (Q : (List D.Ins) → Prop) : Prop :=
 ((0 ≤ (xs0.length : Int) ∧ (xs0.length : Int) ≤ 17179869184) ∧ LoopP (σ := Int × (List D.Ins) × Unit) (fun (p80 : Int × (List D.Ins) × Unit) next56 => match p80 with | (i50, xs51, _) => bcase (decide (i50 < (xs0.length : Int))) (((0 ≤ i50 ∧ i50 < (xs0.length : Int)) ∧ (∀ r63, r63 = M.laws_toIns (rd xs0 i50) → ((0 ≤ i50 ∧ i50 < (xs51.length : Int)) ∧ next56 ((wrap .i64 (i50 + 1)), (List.set xs51 (i50.toNat) (⟨r63.Op, r63.A, r63.B, r63.C⟩ : D.Ins)), ()))))) (Q xs51)) (0, (List.replicate ((xs0.length : Int).toNat) (default : D.Ins)), ()))
def wp.laws_eqIns (s0 : D.Ins) (s1 : D.Ins) (Q : Bool → Prop) : Prop :=
 bcase (s0.Op != s1.Op) (Q false) (bcase (s0.A != s1.A) (Q false) (bcase (s0.B != s1.B) (Q false) (bcase (s0.C != s1.C) (Q false) (Q true))))
def wp.laws_eqInsS (xs0 : List D.Ins) (xs1 : List D.Ins) (Q : Bool → Prop) : Prop :=
 bcase ((xs0.length : Int) != (xs1.length : Int)) (Q false) (LoopP (σ := Int × Unit) (fun (p48 : Int × Unit) next25 => match p48 with | (i21, _) => bcase (decide (i21 < (xs0.length : Int))) (((0 ≤ i21 ∧ i21 < (xs0.length : Int)) ∧ ((0 ≤ i21 ∧ i21 < (xs1.length : Int)) ∧ (∀ r38, r38 = M.laws_eqIns (rd xs0 i21) (rd xs1 i21) → bcase (!r38) (Q false) (next25 ((wrap .i64 (i21 + 1)), ())))))) (Q true)) (0, ()))
def wp.spec_IsLocal (s0 : D.Ins) (Q : Bool → Prop) : Prop :=
 (∀ r23, r23 = M.spec_l01In s0.Op 0 12 → Q r23)
def wp.spec_l04Reg (x0 : Int) (Q : Bool → Prop) : Prop :=
 (∀ r21, r21 = M.spec_l01In x0 0 3 → Q r21)
def wp.spec_InsOk (s0 : D.Ins) (x1 : Int) (Q : Bool → Prop) : Prop :=
 (∀ r23, r23 = M.spec_l01In x1 0 32 → bcase (!r23) (Q false) (JoinP (σ := Bool × Unit) (fun J29 => bcase (s0.Op == 0) (J29 (true, ())) (bcase (s0.Op == 12) (J29 (true, ())) (J29 ((s0.Op == 16), ())))) (fun (p124 : Bool × Unit) => match p124 with | (b28, _) => bcase b28 (bcase (s0.A == 0) (bcase (s0.B == 0) (Q (s0.C == 0)) (Q false)) (Q false)) (bcase (s0.Op == 1) ((∀ r36, r36 = M.spec_l04Reg s0.A → bcase r36 ((∀ r41, r41 = M.spec_IsWord s0.B → bcase r41 (Q (s0.C == 0)) (Q false))) (Q false))) (JoinP (σ := Bool × Unit) (fun J49 => bcase (s0.Op == 2) (J49 (true, ())) (bcase (s0.Op == 13) (J49 (true, ())) (bcase (s0.Op == 14) (J49 (true, ())) (J49 ((s0.Op == 15), ()))))) (fun (p120 : Bool × Unit) => match p120 with | (b48, _) => bcase b48 ((∀ r55, r55 = M.spec_l04Reg s0.A → bcase r55 ((∀ r60, r60 = M.spec_l04Reg s0.B → bcase r60 (Q (s0.C == 0)) (Q false))) (Q false))) (bcase (s0.Op == 8) ((∀ r67, r67 = M.spec_l04Reg s0.A → bcase r67 (bcase (s0.B == 0) (Q (s0.C == 0)) (Q false)) (Q false))) (bcase (s0.Op == 10) ((∀ r74, r74 = M.spec_l04Reg s0.A → bcase r74 ((∀ r79, r79 = M.spec_l01In s0.B 0 x1 → bcase r79 (Q (s0.C == 0)) (Q false))) (Q false))) (bcase (s0.Op == 11) (bcase (s0.A == 0) ((∀ r86, r86 = M.spec_l01In s0.B 0 x1 → bcase r86 (Q (s0.C == 0)) (Q false))) (Q false)) ((∀ r93, r93 = M.spec_l01In s0.Op 3 9 → bcase r93 ((∀ r98, r98 = M.spec_l04Reg s0.A → bcase r98 ((∀ r103, r103 = M.spec_l04Reg s0.B → bcase r103 ((∀ r108, r108 = M.spec_l04Reg s0.C → Q r108)) (Q false))) (Q false))) (Q false))))))))))))
def wp.spec_ProgramOk (xs0 : List D.Ins) (Q : Bool → Prop) : Prop :=
 LoopP (σ := Int × Unit) (fun (p42 : Int × Unit) next25 => match p42 with | (i21, _) => bcase (decide (i21 < (xs0.length : Int))) (((0 ≤ i21 ∧ i21 < (xs0.length : Int)) ∧ (∀ r32, r32 = M.spec_InsOk (rd xs0 i21) (xs0.length : Int) → bcase (!r32) (Q false) (next25 ((wrap .i64 (i21 + 1)), ()))))) (Q (decide ((xs0.length : Int) ≤ 32)))) (0, ())
def wp.impl_formOf (x0 : Int) (Q : ByteArray → Prop) : Prop :=
 (∀ r21, r21 = M.impl_within x0 0 16 → bcase (!r21) (Q (⟨#[]⟩)) (((0 ≤ x0 ∧ x0 < (([⟨#[45, 45, 45]⟩, ⟨#[82, 87, 45]⟩, ⟨#[82, 82, 45]⟩, ⟨#[82, 82, 82]⟩, ⟨#[82, 82, 82]⟩, ⟨#[82, 82, 82]⟩, ⟨#[82, 82, 82]⟩, ⟨#[82, 82, 82]⟩, ⟨#[82, 45, 45]⟩, ⟨#[82, 82, 82]⟩, ⟨#[82, 84, 45]⟩, ⟨#[45, 84, 45]⟩, ⟨#[45, 45, 45]⟩, ⟨#[82, 82, 45]⟩, ⟨#[82, 82, 45]⟩, ⟨#[82, 82, 45]⟩, ⟨#[45, 45, 45]⟩] : List ByteArray).length : Int)) ∧ Q (rd ([⟨#[45, 45, 45]⟩, ⟨#[82, 87, 45]⟩, ⟨#[82, 82, 45]⟩, ⟨#[82, 82, 82]⟩, ⟨#[82, 82, 82]⟩, ⟨#[82, 82, 82]⟩, ⟨#[82, 82, 82]⟩, ⟨#[82, 82, 82]⟩, ⟨#[82, 45, 45]⟩, ⟨#[82, 82, 82]⟩, ⟨#[82, 84, 45]⟩, ⟨#[45, 84, 45]⟩, ⟨#[45, 45, 45]⟩, ⟨#[82, 82, 45]⟩, ⟨#[82, 82, 45]⟩, ⟨#[82, 82, 45]⟩, ⟨#[45, 45, 45]⟩] : List ByteArray) x0))))
def wp.impl_isReg (x0 : Int) (Q : Bool → Prop) : Prop :=
 (∀ r21, r21 = M.impl_within x0 0 3 → Q r21)
def wp.impl_isField (x0 : Int) (x1 : Int) (x2 : Int) (Q : Bool → Prop) : Prop :=
 bcase (x0 == 82) ((∀ r21, r21 = M.impl_isReg x1 → Q r21)) (bcase (x0 == 87) ((∀ r26, r26 = M.impl_IsWord x1 → Q r26)) (bcase (x0 == 84) ((∀ r31, r31 = M.impl_within x1 0 x2 → Q r31)) (Q (x1 == 0))))
def wp.impl_InsOk (s0 : D.Ins) (x1 : Int) (Q : Bool → Prop) : Prop :=
 (∀ r23, r23 = M.impl_formOf s0.Op → bcase (!(ByteArray.toList r23 == ByteArray.toList (⟨#[]⟩))) ((∀ r28, r28 = M.impl_within x1 0 32 → bcase r28 (((0 ≤ (0 : Int) ∧ (0 : Int) < ((ByteArray.size r23 : Nat) : Int)) ∧ (M.impl_isField_pre (bt r23 0) s0.A x1 ∧ ∀ r38, r38 = M.impl_isField (bt r23 0) s0.A x1 → bcase r38 (((0 ≤ (1 : Int) ∧ (1 : Int) < ((ByteArray.size r23 : Nat) : Int)) ∧ (M.impl_isField_pre (bt r23 1) s0.B x1 ∧ ∀ r48, r48 = M.impl_isField (bt r23 1) s0.B x1 → bcase r48 (((0 ≤ (2 : Int) ∧ (2 : Int) < ((ByteArray.size r23 : Nat) : Int)) ∧ (M.impl_isField_pre (bt r23 2) s0.C x1 ∧ ∀ r58, r58 = M.impl_isField (bt r23 2) s0.C x1 → Q r58))) (Q false)))) (Q false)))) (Q false))) (Q false))
def wp.impl_ProgramOk_1 (s0 : D.Ins) (xs1 : List D.Ins) (Q : Bool → Prop) : Prop :=
 (∀ r23, r23 = M.impl_InsOk s0 (xs1.length : Int) → Q (!r23))
def wp.slices_IndexFunc_impl_Ins_impl_Ins (xs0 : List D.Ins) (g1 : D.Ins → Bool) (D1 : D.Ins → Prop) (Q : Int → Prop) : Prop :=
 LoopP (σ := Int × Unit) (fun (p42 : Int × Unit) next25 => match p42 with | (i21, _) => bcase (decide (i21 < (xs0.length : Int))) (((0 ≤ i21 ∧ i21 < (xs0.length : Int)) ∧ (D1 (rd xs0 i21) ∧ ∀ r32, r32 = g1 (rd xs0 i21) → bcase r32 (Q i21) (next25 ((wrap .i64 (i21 + 1)), ()))))) (Q (-1))) (0, ())
def wp.slices_ContainsFunc_impl_Ins_impl_Ins (xs0 : List D.Ins) (g1 : D.Ins → Bool) (D1 : D.Ins → Prop) (Q : Bool → Prop) : Prop :=
 (M.slices_IndexFunc_impl_Ins_impl_Ins_pre xs0 g1 D1 ∧ ∀ r21, r21 = M.slices_IndexFunc_impl_Ins_impl_Ins xs0 g1 → Q (decide (r21 ≥ 0)))
def wp.impl_ProgramOk (xs0 : List D.Ins) (Q : Bool → Prop) : Prop :=
 bcase (decide ((xs0.length : Int) ≤ 32)) ((M.slices_ContainsFunc_impl_Ins_impl_Ins_pre xs0 (fun z0_ => M.impl_ProgramOk_1 z0_ xs0) (fun _ => True) ∧ ∀ r23, r23 = M.slices_ContainsFunc_impl_Ins_impl_Ins xs0 (fun z0_ => M.impl_ProgramOk_1 z0_ xs0) → Q (!r23))) (Q false)
def wp.impl_IsLocal (s0 : D.Ins) (Q : Bool → Prop) : Prop :=
 (∀ r23, r23 = M.impl_within s0.Op 0 12 → Q r23)
end Go.V
namespace Go.V
open IntKind (wrap)
theorem bcq {b x z : Bool} : bcase b (x = z) (false = z) ↔ (b && x) = z := by cases b <;> simp [bcase]
theorem wp.laws_szInsS.math (a : List D.Ins) (x : Int) (h : M.laws_szInsS_pre a x) : wp.laws_szInsS a x (fun r => r = M.laws_szInsS a x) := by
 unfold wp.laws_szInsS M.laws_szInsS
 obtain ⟨h1, h2, h3⟩ := h
 unfold M.Long at h3
 rw [w64 (by omega) (by omega)]
 refine bcase_mk (fun e => ?_) fun e => ?_
 ·rw [if_pos (by simpa using e)]
 ·rw [if_neg (by simpa using e)]
theorem wp.laws_toIns.math (a : D.Ins) : wp.laws_toIns a (fun r => r = M.laws_toIns a) := rfl
theorem wp.laws_toInsS.math (a : List D.Ins) (h : M.laws_toInsS_pre a) : wp.laws_toInsS a (fun r => r = M.laws_toInsS a) := by
 unfold wp.laws_toInsS
 unfold M.laws_toInsS_pre at h
 refine ⟨by omega, ?_⟩
 refine loop_n a.length (fun k => ((k : Int), cp id a k, ())) (fun _ => True) (by simp [cp_zero]) trivial (fun k hk hF next hn => ?_) fun hF next => ?_
 ·refine bcase_t (by simp; omega) ⟨by omega, fun r hr => ⟨⟨by omega, by simp only [cp_len id a (Nat.le_of_lt hk)]; omega⟩, ?_⟩⟩
  rw [rd_nat hk] at hr
  subst hr
  rw [up64 hk (by omega)]
  have := cp_set id a hk
  simp only [id] at this
  simp only [Int.toNat_natCast]
  rw [show (⟨(M.laws_toIns a[k]).Op, (M.laws_toIns a[k]).A, (M.laws_toIns a[k]).B, (M.laws_toIns a[k]).C⟩ : D.Ins) = a[k] from rfl, this]
  exact hn trivial
 ·exact bcase_f (by simp) (by rw [cp_all]; simp [M.laws_toInsS])
theorem wp.laws_eqIns.math (a b : D.Ins) : wp.laws_eqIns a b (fun r => r = M.laws_eqIns a b) := by
 obtain ⟨a1, a2, a3, a4⟩ := a
 obtain ⟨b1, b2, b3, b4⟩ := b
 simp only [wp.laws_eqIns, M.laws_eqIns]
 refine bcase_mk (fun e => ?_) fun e1 => bcase_mk (fun e => ?_) fun e2 => bcase_mk (fun e => ?_) fun e3 => bcase_mk (fun e => ?_) fun e4 => ?_ <;> simp_all
theorem wp.laws_eqInsS.math (a b : List D.Ins) (h : M.laws_eqInsS_pre a b) : wp.laws_eqInsS a b (fun r => r = M.laws_eqInsS a b) := by
 unfold wp.laws_eqInsS
 have hb : a.length ≤ 9223372036854775807 := h
 refine bcase_mk (fun e => ?_) fun e => ?_
 ·simp [M.laws_eqInsS]; rintro rfl; simp at e
 have hl : a.length = b.length := by simp at e; omega
 refine loop_n a.length (fun k => ((k : Int), ())) (fun k => ∀ j : Nat, j < k → rd a j = rd b j) rfl (by simp) (fun k hk hF next hn => ?_) fun hF next => ?_
 ·refine bcase_t (by simp; omega) ⟨by omega, by omega, fun r hr => bcase_mk (fun e => ?_) fun e => ?_⟩
  ·subst hr; simp [M.laws_eqInsS]; rintro rfl; simp [M.laws_eqIns] at e
  ·subst hr
   rw [up64 hk hb]
   refine hn fun j hj => ?_
   by_cases hjk : j = k
   ·subst hjk; simpa [M.laws_eqIns] using e
   ·exact hF j (by omega)
 ·refine bcase_f (by simp) ?_
  have := eq_of_takes hl hF
  simp [M.laws_eqInsS, this]
theorem wp.spec_IsLocal.math (i : D.Ins) : wp.spec_IsLocal i (fun r => r = M.spec_IsLocal i) := fun r hr => hr
theorem wp.impl_IsLocal.math (i : D.Ins) : wp.impl_IsLocal i (fun r => r = M.impl_IsLocal i) := fun r hr => hr
theorem wp.spec_l04Reg.math (x : Int) : wp.spec_l04Reg x (fun r => r = M.spec_l04Reg x) := fun r hr => hr
theorem wp.impl_isReg.math (x : Int) : wp.impl_isReg x (fun r => r = M.impl_isReg x) := fun r hr => hr
theorem wp.spec_InsOk.math (i : D.Ins) (n : Int) : wp.spec_InsOk i n (fun r => r = M.spec_InsOk i n) := by
 simp only [wp.spec_InsOk, JoinP, forall_eq, M.spec_l01In, M.spec_l04Reg, M.spec_IsWord, bcq, M.spec_InsOk, M.insOk]
 refine bcase_mk (fun e => ?_) fun e => ?_
 ·have hn : M.isIn n 0 32 = false := by simpa using e
  simp [hn]
 have hn : M.isIn n 0 32 = true := by simpa using e
 rw [hn, Bool.true_and]
 by_cases h0 : i.Op = 0
 ·simp [h0, bcase, Bool.and_assoc]
 by_cases h12 : i.Op = 12
 ·simp [h12, bcase, Bool.and_assoc]
 by_cases h16 : i.Op = 16
 ·simp [h16, bcase, Bool.and_assoc]
 by_cases h1 : i.Op = 1
 ·simp [h1, bcase, Bool.and_assoc]
 by_cases h2 : i.Op = 2
 ·simp [h2, bcase, Bool.and_assoc]
 by_cases h13 : i.Op = 13
 ·simp [h13, bcase, Bool.and_assoc]
 by_cases h14 : i.Op = 14
 ·simp [h14, bcase, Bool.and_assoc]
 by_cases h15 : i.Op = 15
 ·simp [h15, bcase, Bool.and_assoc]
 by_cases h8 : i.Op = 8
 ·simp [h8, bcase, Bool.and_assoc]
 by_cases h10 : i.Op = 10
 ·simp [h10, bcase, Bool.and_assoc]
 by_cases h11 : i.Op = 11
 ·simp [h11, bcase, Bool.and_assoc]
 have b0 : (i.Op == 0) = false := by simp [h0]
 have b12 : (i.Op == 12) = false := by simp [h12]
 have b16 : (i.Op == 16) = false := by simp [h16]
 have b1 : (i.Op == 1) = false := by simp [h1]
 have b2 : (i.Op == 2) = false := by simp [h2]
 have b13 : (i.Op == 13) = false := by simp [h13]
 have b14 : (i.Op == 14) = false := by simp [h14]
 have b15 : (i.Op == 15) = false := by simp [h15]
 have b8 : (i.Op == 8) = false := by simp [h8]
 have b10 : (i.Op == 10) = false := by simp [h10]
 have b11 : (i.Op == 11) = false := by simp [h11]
 simp only [b0, b12, b16, b1, b2, b13, b14, b15, b8, b10, b11, bcase, h0, h12, h16, h1, h2, h13, h14, h15, h8, h10, h11, or_self, if_false]
theorem all_loop {α : Type} [Inhabited α] {l : List α} {g : α → Bool} (hl : M.Long l) {B : (Int × Unit) → ((Int × Unit) → Prop) → Prop} {Q : Bool → Prop}
    (hb : ∀ (k : Nat) (next : (Int × Unit) → Prop), k < l.length → (g (rd l (k : Int)) = false → l.all g = false → Q false) → (g (rd l (k : Int)) = true → next (((k + 1 : Nat) : Int), ())) → B ((k : Int), ()) next)
    (he : ∀ (next : (Int × Unit) → Prop), l.all g = true → B ((l.length : Int), ()) next) (hQ : l.all g = false → Q false) : LoopP B (0, ()) := by
 refine loop_n l.length (fun k => ((k : Int), ())) (fun k => (l.take k).all g = true) rfl (by simp) (fun k hk hF next hn => ?_) fun hF next => ?_
 ·refine hb k next hk (fun e h => hQ h) fun e => ?_
  rw [rd_nat hk] at e
  exact hn (take_all_succ hk hF e)
 ·rw [List.take_length] at hF
  exact he next hF
theorem all_false {α : Type} [Inhabited α] {l : List α} {g : α → Bool} {k : Nat} (hk : k < l.length) (e : g (rd l (k : Int)) = false) : l.all g = false := by
 rw [rd_nat hk] at e; exact all_at hk e
theorem wp.spec_ProgramOk.math (p : List D.Ins) (h : M.spec_ProgramOk_pre p) : wp.spec_ProgramOk p (fun r => r = M.spec_ProgramOk p) := by
 unfold wp.spec_ProgramOk
 refine all_loop (g := fun i => M.insOk i p.length) (Q := fun r => r = M.programOk p) h (fun k next hk h1 h2 => ?_) (fun next ha => ?_) fun ha => by simp only [M.programOk, ha, Bool.and_false]
 ·refine bcase_t (by simp; omega) ⟨by omega, fun r hr => bcase_mk (fun e => ?_) fun e => ?_⟩
  ·have := nt e hr
   exact h1 this (all_false (g := fun i => M.insOk i p.length) hk this)
  ·rw [up64 hk h]; exact h2 (nf e hr)
 ·refine bcase_f (by simp) ?_
  simp only [M.spec_ProgramOk, M.programOk, ha, Bool.and_true]
  by_cases h32 : p.length ≤ 32
  ·simp [h32]; omega
  ·simp [h32]; omega
theorem wp.impl_formOf.math (op : Int) : wp.impl_formOf op (fun r => r = M.impl_formOf op) := by
 intro r hr
 refine bcase_mk (fun e => ?_) fun e => ?_
 ·have : M.isIn op 0 16 = false := nt e hr
  have h' : ¬ (0 ≤ op ∧ op ≤ 16) := by simpa [M.isIn] using this
  have h2 : M.isIn op 3 9 = false := by simp [M.isIn]; omega
  simp only [M.impl_formOf, M.formOf, h2]
  rw [if_neg (by omega), if_neg (by omega), if_neg (by omega), if_neg (by omega), if_neg (by omega), if_neg (by omega)]
  rfl
 ·have : M.isIn op 0 16 = true := nf e hr
  have h' : 0 ≤ op ∧ op ≤ 16 := by simpa [M.isIn] using this
  refine ⟨by simp; omega, ?_⟩
  have : op = 0 ∨ op = 1 ∨ op = 2 ∨ op = 3 ∨ op = 4 ∨ op = 5 ∨ op = 6 ∨ op = 7 ∨ op = 8 ∨ op = 9 ∨ op = 10 ∨ op = 11 ∨ op = 12 ∨ op = 13 ∨ op = 14 ∨ op = 15 ∨ op = 16 := by omega
  rcases this with rfl | rfl | rfl | rfl | rfl | rfl | rfl | rfl | rfl | rfl | rfl | rfl | rfl | rfl | rfl | rfl | rfl <;> rfl
theorem wp.impl_isField.math (f x n : Int) (h : M.impl_isField_pre f x n) : wp.impl_isField f x n (fun r => r = M.impl_isField f x n) := by
 refine bcase_mk (fun e r hr => ?_) fun e1 => bcase_mk (fun e r hr => ?_) fun e2 => bcase_mk (fun e r hr => ?_) fun e3 => ?_
 ·simp at e; simp [M.impl_isField, e, hr, M.impl_isReg]
 ·simp at e; simp [M.impl_isField, e, hr, M.impl_IsWord]
 ·simp at e; simp [M.impl_isField, e, hr, M.impl_within]
 ·simp at e1 e2 e3; simp [M.impl_isField, e1, e2, e3]
theorem str_ne {a b : ByteArray} (h : ByteArray.toList a ≠ ByteArray.toList b) : (!(ByteArray.toList a == ByteArray.toList b)) = true := by simp [h]
theorem formOf_cases (op : Int) : (M.formOf op = ⟨#[45, 45, 45]⟩ ∧ (op = 0 ∨ op = 12 ∨ op = 16)) ∨ (M.formOf op = ⟨#[82, 87, 45]⟩ ∧ op = 1) ∨ (M.formOf op = ⟨#[82, 82, 45]⟩ ∧ (op = 2 ∨ op = 13 ∨ op = 14 ∨ op = 15)) ∨
    (M.formOf op = ⟨#[82, 45, 45]⟩ ∧ op = 8) ∨ (M.formOf op = ⟨#[82, 84, 45]⟩ ∧ op = 10) ∨ (M.formOf op = ⟨#[45, 84, 45]⟩ ∧ op = 11) ∨ (M.formOf op = ⟨#[82, 82, 82]⟩ ∧ (3 ≤ op ∧ op ≤ 7 ∨ op = 9)) ∨
    (M.formOf op = ⟨#[]⟩ ∧ (op < 0 ∨ op > 16)) := by
 unfold M.formOf
 by_cases a1 : op = 0 ∨ op = 12 ∨ op = 16
 ·rw [if_pos a1]; exact .inl ⟨rfl, a1⟩
 rw [if_neg a1]
 by_cases a2 : op = 1
 ·rw [if_pos a2]; exact .inr (.inl ⟨rfl, a2⟩)
 rw [if_neg a2]
 by_cases a3 : op = 2 ∨ op = 13 ∨ op = 14 ∨ op = 15
 ·rw [if_pos a3]; exact .inr (.inr (.inl ⟨rfl, a3⟩))
 rw [if_neg a3]
 by_cases a4 : op = 8
 ·rw [if_pos a4]; exact .inr (.inr (.inr (.inl ⟨rfl, a4⟩)))
 rw [if_neg a4]
 by_cases a5 : op = 10
 ·rw [if_pos a5]; exact .inr (.inr (.inr (.inr (.inl ⟨rfl, a5⟩))))
 rw [if_neg a5]
 by_cases a6 : op = 11
 ·rw [if_pos a6]; exact .inr (.inr (.inr (.inr (.inr (.inl ⟨rfl, a6⟩)))))
 rw [if_neg a6]
 by_cases a7 : 3 ≤ op ∧ op ≤ 9
 ·rw [if_pos (by simp [M.isIn]; omega)]; exact .inr (.inr (.inr (.inr (.inr (.inr (.inl ⟨rfl, by omega⟩))))))
 rw [if_neg (by simp [M.isIn]; omega)]; exact .inr (.inr (.inr (.inr (.inr (.inr (.inr ⟨rfl, by omega⟩))))))
theorem ins_core {i : D.Ins} {n : Int} {f : ByteArray} {x y z : Int} (hx : bt f 0 = x) (hy : bt f 1 = y) (hz : bt f 2 = z) (hs : f.size = 3) (hf : ByteArray.toList f ≠ ByteArray.toList (⟨#[]⟩)) {P : Bool → Prop} (hin : M.isIn n 0 32 = false → P false)
    (h : M.isIn n 0 32 = true → P (M.impl_isField x i.A n && (M.impl_isField y i.B n && M.impl_isField z i.C n))) :
    bcase (!(ByteArray.toList f == ByteArray.toList (⟨#[]⟩))) ((∀ r28, r28 = M.impl_within n 0 32 → bcase r28 (((0 ≤ (0 : Int) ∧ (0 : Int) < ((ByteArray.size f : Nat) : Int)) ∧ (M.impl_isField_pre (bt f 0) i.A n ∧ ∀ r38, r38 = M.impl_isField (bt f 0) i.A n → bcase r38 (((0 ≤ (1 : Int) ∧ (1 : Int) < ((ByteArray.size f : Nat) : Int)) ∧ (M.impl_isField_pre (bt f 1) i.B n ∧ ∀ r48, r48 = M.impl_isField (bt f 1) i.B n → bcase r48 (((0 ≤ (2 : Int) ∧ (2 : Int) < ((ByteArray.size f : Nat) : Int)) ∧ (M.impl_isField_pre (bt f 2) i.C n ∧ ∀ r58, r58 = M.impl_isField (bt f 2) i.C n → P r58))) (P false)))) (P false)))) (P false))) (P false) := by
 refine bcase_t (str_ne hf) fun r1 h1 => bcase_mk (fun e1 => ⟨by omega, trivial, fun r2 h2 => bcase_mk (fun e2 => ⟨by omega, trivial, fun r3 h3 => bcase_mk (fun e3 => ⟨by omega, trivial, fun r4 h4 => ?_⟩) fun e3 => ?_⟩) fun e2 => ?_⟩) fun e1 => hin (h1.symm.trans e1)
 all_goals have hh := h (h1.symm.trans e1)
 ·rw [hx] at h2; rw [hy] at h3; rw [hz] at h4
  rw [← h2, ← h3, ← h4, e2, e3] at hh; exact hh
 ·rw [hx] at h2; rw [hy] at h3
  rw [← h2, ← h3, e2, e3] at hh; exact hh
 ·rw [hx] at h2
  rw [← h2, e2] at hh; exact hh
theorem wp.impl_InsOk.math (i : D.Ins) (n : Int) : wp.impl_InsOk i n (fun r => r = M.impl_InsOk i n) := by
 intro r hr
 have hr' : r = M.formOf i.Op := hr
 rcases formOf_cases i.Op with ⟨e, h⟩ | ⟨e, h⟩ | ⟨e, h⟩ | ⟨e, h⟩ | ⟨e, h⟩ | ⟨e, h⟩ | ⟨e, h⟩ | ⟨e, h⟩
 case inr.inr.inr.inr.inr.inr.inr =>
  rw [hr', e]
  refine bcase_f (by simp) ?_
  simp only [M.impl_InsOk, M.insOk]
  rw [if_neg (by omega), if_neg (by omega), if_neg (by omega), if_neg (by omega), if_neg (by omega), if_neg (by omega)]
  have : M.isIn i.Op 3 9 = false := by simp [M.isIn]; omega
  simp [this]
 ·rw [hr', e]
  refine ins_core (x := 45) (y := 45) (z := 45) (P := fun r => r = M.impl_InsOk i n) (by decide +kernel) (by decide +kernel) (by decide +kernel) rfl (by decide +kernel) (fun hn => by simp [M.impl_InsOk, M.insOk, hn]) fun hn => ?_
  simp only [M.impl_InsOk, M.insOk, hn, Bool.true_and]
  rw [if_pos h]
  simp [M.impl_isField]
 ·rw [hr', e]
  refine ins_core (x := 82) (y := 87) (z := 45) (P := fun r => r = M.impl_InsOk i n) (by decide +kernel) (by decide +kernel) (by decide +kernel) rfl (by decide +kernel) (fun hn => by simp [M.impl_InsOk, M.insOk, hn]) fun hn => ?_
  simp only [M.impl_InsOk, M.insOk, hn, Bool.true_and]
  rw [if_neg (by omega), if_pos h]
  simp [M.impl_isField]
 ·rw [hr', e]
  refine ins_core (x := 82) (y := 82) (z := 45) (P := fun r => r = M.impl_InsOk i n) (by decide +kernel) (by decide +kernel) (by decide +kernel) rfl (by decide +kernel) (fun hn => by simp [M.impl_InsOk, M.insOk, hn]) fun hn => ?_
  simp only [M.impl_InsOk, M.insOk, hn, Bool.true_and]
  rw [if_neg (by omega), if_neg (by omega), if_pos h]
  simp [M.impl_isField]
 ·rw [hr', e]
  refine ins_core (x := 82) (y := 45) (z := 45) (P := fun r => r = M.impl_InsOk i n) (by decide +kernel) (by decide +kernel) (by decide +kernel) rfl (by decide +kernel) (fun hn => by simp [M.impl_InsOk, M.insOk, hn]) fun hn => ?_
  simp only [M.impl_InsOk, M.insOk, hn, Bool.true_and]
  rw [if_neg (by omega), if_neg (by omega), if_neg (by omega), if_pos h]
  simp [M.impl_isField]
 ·rw [hr', e]
  refine ins_core (x := 82) (y := 84) (z := 45) (P := fun r => r = M.impl_InsOk i n) (by decide +kernel) (by decide +kernel) (by decide +kernel) rfl (by decide +kernel) (fun hn => by simp [M.impl_InsOk, M.insOk, hn]) fun hn => ?_
  simp only [M.impl_InsOk, M.insOk, hn, Bool.true_and]
  rw [if_neg (by omega), if_neg (by omega), if_neg (by omega), if_neg (by omega), if_pos h]
  simp [M.impl_isField]
 ·rw [hr', e]
  refine ins_core (x := 45) (y := 84) (z := 45) (P := fun r => r = M.impl_InsOk i n) (by decide +kernel) (by decide +kernel) (by decide +kernel) rfl (by decide +kernel) (fun hn => by simp [M.impl_InsOk, M.insOk, hn]) fun hn => ?_
  simp only [M.impl_InsOk, M.insOk, hn, Bool.true_and]
  rw [if_neg (by omega), if_neg (by omega), if_neg (by omega), if_neg (by omega), if_neg (by omega), if_pos h]
  simp [M.impl_isField]
 ·rw [hr', e]
  refine ins_core (x := 82) (y := 82) (z := 82) (P := fun r => r = M.impl_InsOk i n) (by decide +kernel) (by decide +kernel) (by decide +kernel) rfl (by decide +kernel) (fun hn => by simp [M.impl_InsOk, M.insOk, hn]) fun hn => ?_
  simp only [M.impl_InsOk, M.insOk, hn, Bool.true_and]
  rw [if_neg (by omega), if_neg (by omega), if_neg (by omega), if_neg (by omega), if_neg (by omega), if_neg (by omega)]
  have : M.isIn i.Op 3 9 = true := by simp [M.isIn]; omega
  simp [M.impl_isField, this]
theorem wp.impl_ProgramOk_1.math (i : D.Ins) (p : List D.Ins) : wp.impl_ProgramOk_1 i p (fun r => r = M.impl_ProgramOk_1 i p) := fun r hr => by rw [hr]; rfl
theorem wp.slices_IndexFunc_impl_Ins_impl_Ins.math (l : List D.Ins) (g : D.Ins → Bool) (D : D.Ins → Prop) (h : M.slices_IndexFunc_impl_Ins_impl_Ins_pre l g D) : wp.slices_IndexFunc_impl_Ins_impl_Ins l g D (fun r => r = M.slices_IndexFunc_impl_Ins_impl_Ins l g) := by
 unfold wp.slices_IndexFunc_impl_Ins_impl_Ins
 obtain ⟨h1, h2⟩ := h
 refine loop_n l.length (fun k => ((k : Int), ())) (fun k => M.slices_IndexFunc_impl_Ins_impl_Ins l g = M.firstIx g (l.drop k) k) rfl (by simp [M.slices_IndexFunc_impl_Ins_impl_Ins]) (fun k hk hF next hn => ?_) fun hF next => ?_
 ·rw [firstIx_from g l k hk] at hF
  refine bcase_t (by simp; omega) ⟨by omega, h2 _ (rd_mem hk), fun r hr => bcase_mk (fun e => ?_) fun e => ?_⟩
  ·rw [hF, if_pos (by rw [← hr]; exact e)]
  ·rw [up64 hk h1]
   exact hn (by rw [hF, if_neg (by rw [← hr, e]; simp)])
 ·refine bcase_f (by simp) ?_
  rw [hF]; simp [M.firstIx]
theorem wp.slices_ContainsFunc_impl_Ins_impl_Ins.math (l : List D.Ins) (g : D.Ins → Bool) (D : D.Ins → Prop) (h : M.slices_ContainsFunc_impl_Ins_impl_Ins_pre l g D) : wp.slices_ContainsFunc_impl_Ins_impl_Ins l g D (fun r => r = M.slices_ContainsFunc_impl_Ins_impl_Ins l g) :=
 ⟨h, fun r hr => by rw [hr]; exact firstIx_nonneg g l 0⟩
theorem wp.impl_ProgramOk.math (p : List D.Ins) (h : M.impl_ProgramOk_pre p) : wp.impl_ProgramOk p (fun r => r = M.impl_ProgramOk p) := by
 refine bcase_mk (fun e => ⟨⟨h, fun _ _ => trivial⟩, fun r hr => ?_⟩) fun e => ?_
 ·have h32 : p.length ≤ 32 := by simp at e; omega
  rw [hr]
  simp only [M.slices_ContainsFunc_impl_Ins_impl_Ins, M.impl_ProgramOk, M.programOk, M.impl_ProgramOk_1, ← List.all_eq_not_any_not, h32, decide_true, Bool.true_and]
 ·have h32 : ¬ p.length ≤ 32 := by simp at e; omega
  simp [M.impl_ProgramOk, M.programOk, h32]
theorem isReg_iff {x : Int} : M.isReg x = true ↔ 0 ≤ x ∧ x ≤ 3 := by simp [M.isReg, M.isIn]
theorem fits_regs {i : D.Ins} {r : List Int} (h : M.Fits i r) : r.length = 4 ∧ (1 ≤ i.Op ∧ i.Op ≤ 10 → 0 ≤ i.A ∧ i.A ≤ 3) ∧ (2 ≤ i.Op ∧ i.Op ≤ 7 ∨ i.Op = 9 → 0 ≤ i.B ∧ i.B ≤ 3) ∧ (3 ≤ i.Op ∧ i.Op ≤ 7 ∨ i.Op = 9 → 0 ≤ i.C ∧ i.C ≤ 3) := by
 obtain ⟨hl, n, hok⟩ := h
 simp only [M.insOk, Bool.and_eq_true] at hok
 have hok := hok.2
 split at hok
 ·exact ⟨hl, by omega, by omega, by omega⟩
 split at hok
 ·simp only [Bool.and_eq_true, isReg_iff] at hok
  exact ⟨hl, fun _ => hok.1, by omega, by omega⟩
 split at hok
 ·simp only [Bool.and_eq_true, isReg_iff] at hok
  exact ⟨hl, fun _ => hok.1, fun _ => hok.2.1, by omega⟩
 split at hok
 ·simp only [Bool.and_eq_true, isReg_iff] at hok
  exact ⟨hl, fun _ => hok.1, by omega, by omega⟩
 split at hok
 ·simp only [Bool.and_eq_true, isReg_iff] at hok
  exact ⟨hl, fun _ => hok.1, by omega, by omega⟩
 split at hok
 ·exact ⟨hl, by omega, by omega, by omega⟩
 ·simp only [Bool.and_eq_true, isReg_iff] at hok
  exact ⟨hl, fun _ => hok.2.1, fun _ => hok.2.2.1, fun _ => hok.2.2.2⟩
theorem rd_of {α : Type} [Inhabited α] {xs : List α} {i : Int} (h0 : 0 ≤ i) (h1 : i < (xs.length : Int)) : rd xs i ∈ xs := by
 obtain ⟨k, rfl⟩ := Int.eq_ofNat_of_zero_le h0
 exact rd_mem (by omega)
theorem apply_len (i : D.Ins) (t : Int) (r : List Int) : (M.apply i t r).length = r.length := by
 unfold M.apply
 (repeat' split) <;> simp
end Go.V
namespace Go.V
open IntKind (wrap)
def wp.laws_szIntS (xs0 : List Int) (x1 : Int) (Q : Int → Prop) : Prop :=
 bcase (decide ((wrap .i64 (x1 - (xs0.length : Int))) < 0)) (Q (-1)) (Q (wrap .i64 (x1 - (xs0.length : Int))))
def wp.laws_markInsS (xs0 : List D.Ins) (x1 : Int) (Q : (Int × (List D.Ins)) → Prop) : Prop :=
 LoopP (σ := Int × Int × (List D.Ins) × Unit) (fun (p111 : Int × Int × (List D.Ins) × Unit) next70 => match p111 with | (i63, i64, xs65, _) => bcase (decide (i64 < (xs0.length : Int))) (((0 ≤ i64 ∧ i64 < (xs65.length : Int)) ∧ ((0 ≤ i64 ∧ i64 < ((List.set xs65 (i64.toNat) (⟨i63, (rd xs65 i64).A, (rd xs65 i64).B, (rd xs65 i64).C⟩ : D.Ins)).length : Int)) ∧ ((0 ≤ i64 ∧ i64 < ((List.set xs65 (i64.toNat) (⟨i63, (wrap .i64 (i63 + 1)), (rd xs65 i64).B, (rd xs65 i64).C⟩ : D.Ins)).length : Int)) ∧ ((0 ≤ i64 ∧ i64 < ((List.set xs65 (i64.toNat) (⟨i63, (wrap .i64 (i63 + 1)), (wrap .i64 ((wrap .i64 (i63 + 1)) + 1)), (rd xs65 i64).C⟩ : D.Ins)).length : Int)) ∧ next70 ((wrap .i64 ((wrap .i64 ((wrap .i64 ((wrap .i64 (i63 + 1)) + 1)) + 1)) + 1)), (wrap .i64 (i64 + 1)), (List.set xs65 (i64.toNat) (⟨i63, (wrap .i64 (i63 + 1)), (wrap .i64 ((wrap .i64 (i63 + 1)) + 1)), (wrap .i64 ((wrap .i64 ((wrap .i64 (i63 + 1)) + 1)) + 1))⟩ : D.Ins)), ())))))) (Q (i63, xs65))) (x1, 0, xs0, ())
end Go.V
namespace Go.V
open IntKind (wrap)
theorem wp.laws_szIntS.math (a : List Int) (x : Int) (h : M.laws_szIntS_pre a x) : wp.laws_szIntS a x (fun r => r = M.laws_szIntS a x) := by
 unfold wp.laws_szIntS M.laws_szIntS
 obtain ⟨h1, h2, h3⟩ := h
 unfold M.Long at h3
 rw [w64 (by omega) (by omega)]
 refine bcase_mk (fun e => ?_) fun e => ?_
 ·rw [if_pos (by simpa using e)]
 ·rw [if_neg (by simpa using e)]
theorem wp.laws_markInsS.math (a : List D.Ins) (x : Int) (h : M.laws_markInsS_pre a x) : wp.laws_markInsS a x (fun r => r = M.laws_markInsS a x) := by
 unfold wp.laws_markInsS
 obtain ⟨⟨h1, h2⟩, h3⟩ := h
 unfold M.Few at h3
 let g : Nat → D.Ins := fun i => ⟨x + 4 * (i : Int), x + 4 * (i : Int) + 1, x + 4 * (i : Int) + 2, x + 4 * (i : Int) + 3⟩
 refine loop_n a.length (fun k => (x + 4 * k, (k : Int), mk g a k, ())) (fun _ => True) (by simp [mk_zero]) trivial (fun k hk hF next hn => ?_) fun hF next => ?_
 ·have hl := mk_len g a (Nat.le_of_lt hk)
  have e1 : wrap .i64 (x + 4 * (k : Int) + 1) = x + 4 * (k : Int) + 1 := w64 (by omega) (by omega)
  have e2 : wrap .i64 (x + 4 * (k : Int) + 1 + 1) = x + 4 * (k : Int) + 2 := by rw [w64 (by omega) (by omega)]; omega
  have e3 : wrap .i64 (x + 4 * (k : Int) + 2 + 1) = x + 4 * (k : Int) + 3 := by rw [w64 (by omega) (by omega)]; omega
  have e4 : wrap .i64 (x + 4 * (k : Int) + 3 + 1) = x + 4 * ((k + 1 : Nat) : Int) := by rw [w64 (by omega) (by omega)]; push_cast; omega
  have hs := mk_set g a hk
  refine bcase_t (by simp; omega) ?_
  simp only [e1, e2, e3, e4, List.length_set, hl, Int.toNat_natCast, up64 hk (show a.length ≤ 9223372036854775807 by omega)]
  refine ⟨by omega, by omega, by omega, by omega, ?_⟩
  rw [show (⟨x + 4 * (k : Int), x + 4 * (k : Int) + 1, x + 4 * (k : Int) + 2, x + 4 * (k : Int) + 3⟩ : D.Ins) = g k from rfl, hs]
  exact hn trivial
 ·exact bcase_f (by simp) (by rw [mk_all]; rfl)
end Go.V
namespace Go.V
open IntKind (wrap)
def wp.impl_isWarpNumber (x0 : Int) (Q : Bool → Prop) : Prop :=
 (∀ r21, r21 = M.impl_within x0 0 2 → Q r21)
end Go.V
namespace Go.V
open IntKind (wrap)
theorem wp.impl_isWarpNumber.math (x : Int) : wp.impl_isWarpNumber x (fun r => r = M.impl_isWarpNumber x) := fun r hr => hr
end Go.V
namespace Go.V
open IntKind (wrap)
def wp.laws_szFrameS (xs0 : List D.Frame) (x1 : Int) (Q : Int → Prop) : Prop :=
 bcase (decide ((wrap .i64 (x1 - (xs0.length : Int))) < 0)) (Q (-1)) (Q (wrap .i64 (x1 - (xs0.length : Int))))
def wp.laws_szWarp (s0 : D.Warp) (x1 : Int) (Q : Int → Prop) : Prop :=
 (M.laws_szFrameS_pre s0.Frames x1 ∧ ∀ r23, r23 = M.laws_szFrameS s0.Frames x1 → bcase (decide (r23 < 0)) (Q (-1)) ((M.laws_szIntS_pre s0.Regs r23 ∧ ∀ r28, r28 = M.laws_szIntS s0.Regs r23 → bcase (decide (r28 < 0)) (Q (-1)) (Q r28))))
def wp.laws_szWarpS (xs0 : List D.Warp) (x1 : Int) (Q : Int → Prop) : Prop :=
 bcase (decide ((wrap .i64 (x1 - (xs0.length : Int))) < 0)) (Q (-1)) (LoopP (σ := Int × Int × Unit) (fun (p54 : Int × Int × Unit) next26 => match p54 with | (i21, i22, _) => bcase (decide (i22 < (xs0.length : Int))) (((0 ≤ i22 ∧ i22 < (xs0.length : Int)) ∧ (M.laws_szWarp_pre (rd xs0 i22) i21 ∧ ∀ r44, r44 = M.laws_szWarp (rd xs0 i22) i21 → bcase (decide (r44 < 0)) (Q (-1)) (next26 (r44, (wrap .i64 (i22 + 1)), ()))))) (Q i21)) ((wrap .i64 (x1 - (xs0.length : Int))), 0, ()))
def wp.laws_szBlock (s0 : D.Block) (x1 : Int) (Q : Int → Prop) : Prop :=
 (M.laws_szInsS_pre s0.Code x1 ∧ ∀ r23, r23 = M.laws_szInsS s0.Code x1 → bcase (decide (r23 < 0)) (Q (-1)) ((M.laws_szWarpS_pre s0.Warps r23 ∧ ∀ r28, r28 = M.laws_szWarpS s0.Warps r23 → bcase (decide (r28 < 0)) (Q (-1)) ((M.laws_szIntS_pre s0.Memory r28 ∧ ∀ r33, r33 = M.laws_szIntS s0.Memory r28 → bcase (decide (r33 < 0)) (Q (-1)) (Q r33))))))
def wp.laws_toFrame (s0 : D.Frame) (Q : D.Frame → Prop) : Prop :=
 Q (⟨s0.Pc, s0.Stop, s0.Mask⟩ : D.Frame)
def wp.laws_toFrameS (xs0 : List D.Frame) (Q : (List D.Frame) → Prop) : Prop :=
 ((0 ≤ (xs0.length : Int) ∧ (xs0.length : Int) ≤ 17179869184) ∧ LoopP (σ := Int × (List D.Frame) × Unit) (fun (p80 : Int × (List D.Frame) × Unit) next56 => match p80 with | (i50, xs51, _) => bcase (decide (i50 < (xs0.length : Int))) (((0 ≤ i50 ∧ i50 < (xs0.length : Int)) ∧ (∀ r63, r63 = M.laws_toFrame (rd xs0 i50) → ((0 ≤ i50 ∧ i50 < (xs51.length : Int)) ∧ next56 ((wrap .i64 (i50 + 1)), (List.set xs51 (i50.toNat) (⟨r63.Pc, r63.Stop, r63.Mask⟩ : D.Frame)), ()))))) (Q xs51)) (0, (List.replicate ((xs0.length : Int).toNat) (default : D.Frame)), ()))
def wp.laws_toWarp (s0 : D.Warp) (Q : D.Warp → Prop) : Prop :=
 (M.laws_toFrameS_pre s0.Frames ∧ ∀ r29, r29 = M.laws_toFrameS s0.Frames → (M.laws_toIntS_pre s0.Regs ∧ ∀ r38, r38 = M.laws_toIntS s0.Regs → Q (⟨s0.Number, r29, r38⟩ : D.Warp)))
def wp.laws_toWarpS (xs0 : List D.Warp) (Q : (List D.Warp) → Prop) : Prop :=
 ((0 ≤ (xs0.length : Int) ∧ (xs0.length : Int) ≤ 17179869184) ∧ LoopP (σ := Int × (List D.Warp) × Unit) (fun (p111 : Int × (List D.Warp) × Unit) next72 => match p111 with | (i65, xs66, _) => bcase (decide (i65 < (xs0.length : Int))) (((0 ≤ i65 ∧ i65 < (xs0.length : Int)) ∧ (M.laws_toWarp_pre (rd xs0 i65) ∧ ∀ r90, r90 = M.laws_toWarp (rd xs0 i65) → ((0 ≤ i65 ∧ i65 < (xs66.length : Int)) ∧ next72 ((wrap .i64 (i65 + 1)), (List.set xs66 (i65.toNat) r90), ()))))) (Q xs66)) (0, (List.replicate ((xs0.length : Int).toNat) (default : D.Warp)), ()))
def wp.laws_toBlock (s0 : D.Block) (Q : D.Block → Prop) : Prop :=
 (M.laws_toInsS_pre s0.Code ∧ ∀ r27, r27 = M.laws_toInsS s0.Code → (M.laws_toWarpS_pre s0.Warps ∧ ∀ r36, r36 = M.laws_toWarpS s0.Warps → (M.laws_toIntS_pre s0.Memory ∧ ∀ r46, r46 = M.laws_toIntS s0.Memory → Q (⟨r27, r36, r46, s0.Waiting, s0.Phase⟩ : D.Block))))
def wp.laws_eqFrame (s0 : D.Frame) (s1 : D.Frame) (Q : Bool → Prop) : Prop :=
 bcase (s0.Pc != s1.Pc) (Q false) (bcase (s0.Stop != s1.Stop) (Q false) (bcase (s0.Mask != s1.Mask) (Q false) (Q true)))
def wp.laws_eqFrameS (xs0 : List D.Frame) (xs1 : List D.Frame) (Q : Bool → Prop) : Prop :=
 bcase ((xs0.length : Int) != (xs1.length : Int)) (Q false) (LoopP (σ := Int × Unit) (fun (p48 : Int × Unit) next25 => match p48 with | (i21, _) => bcase (decide (i21 < (xs0.length : Int))) (((0 ≤ i21 ∧ i21 < (xs0.length : Int)) ∧ ((0 ≤ i21 ∧ i21 < (xs1.length : Int)) ∧ (∀ r38, r38 = M.laws_eqFrame (rd xs0 i21) (rd xs1 i21) → bcase (!r38) (Q false) (next25 ((wrap .i64 (i21 + 1)), ())))))) (Q true)) (0, ()))
def wp.laws_eqWarp (s0 : D.Warp) (s1 : D.Warp) (Q : Bool → Prop) : Prop :=
 bcase (s0.Number != s1.Number) (Q false) ((M.laws_eqFrameS_pre s0.Frames s1.Frames ∧ ∀ r25, r25 = M.laws_eqFrameS s0.Frames s1.Frames → bcase (!r25) (Q false) ((M.laws_eqIntS_pre s0.Regs s1.Regs ∧ ∀ r30, r30 = M.laws_eqIntS s0.Regs s1.Regs → bcase (!r30) (Q false) (Q true)))))
def wp.laws_eqWarpS (xs0 : List D.Warp) (xs1 : List D.Warp) (Q : Bool → Prop) : Prop :=
 bcase ((xs0.length : Int) != (xs1.length : Int)) (Q false) (LoopP (σ := Int × Unit) (fun (p70 : Int × Unit) next25 => match p70 with | (i21, _) => bcase (decide (i21 < (xs0.length : Int))) (((0 ≤ i21 ∧ i21 < (xs0.length : Int)) ∧ ((0 ≤ i21 ∧ i21 < (xs1.length : Int)) ∧ (M.laws_eqWarp_pre (rd xs0 i21) (rd xs1 i21) ∧ ∀ r60, r60 = M.laws_eqWarp (rd xs0 i21) (rd xs1 i21) → bcase (!r60) (Q false) (next25 ((wrap .i64 (i21 + 1)), ())))))) (Q true)) (0, ()))
def wp.laws_eqBlock (s0 : D.Block) (s1 : D.Block) (Q : Bool → Prop) : Prop :=
 (M.laws_eqInsS_pre s0.Code s1.Code ∧ ∀ r25, r25 = M.laws_eqInsS s0.Code s1.Code → bcase (!r25) (Q false) ((M.laws_eqWarpS_pre s0.Warps s1.Warps ∧ ∀ r30, r30 = M.laws_eqWarpS s0.Warps s1.Warps → bcase (!r30) (Q false) ((M.laws_eqIntS_pre s0.Memory s1.Memory ∧ ∀ r35, r35 = M.laws_eqIntS s0.Memory s1.Memory → bcase (!r35) (Q false) (bcase (s0.Waiting != s1.Waiting) (Q false) (bcase (s0.Phase != s1.Phase) (Q false) (Q true))))))))
end Go.V
namespace Go.V
open IntKind (wrap)
theorem wp.laws_szFrameS.math (a : List D.Frame) (x : Int) (h : M.laws_szFrameS_pre a x) : wp.laws_szFrameS a x (fun r => r = M.laws_szFrameS a x) := by
 unfold wp.laws_szFrameS M.laws_szFrameS
 obtain ⟨h1, h2, h3⟩ := h
 unfold M.Long at h3
 rw [w64 (by omega) (by omega)]
 refine bcase_mk (fun e => ?_) fun e => ?_
 ·rw [if_pos (by simpa using e)]
 ·rw [if_neg (by simpa using e)]
theorem szF_le {a : List D.Frame} {x : Int} (hx : M.Left x) (h : ¬ M.laws_szFrameS a x < 0) : M.Left (M.laws_szFrameS a x) ∧ a.length ≤ 2097152 := by
 unfold M.Left M.laws_szFrameS at *
 split at h
 ·exact absurd (show (-1 : Int) < 0 by decide) h
 ·rename_i h'; rw [if_neg h']; omega
theorem szI_le {a : List Int} {x : Int} (hx : M.Left x) (h : ¬ M.laws_szIntS a x < 0) : M.Left (M.laws_szIntS a x) ∧ a.length ≤ 2097152 := by
 unfold M.Left M.laws_szIntS at *
 split at h
 ·exact absurd (show (-1 : Int) < 0 by decide) h
 ·rename_i h'; rw [if_neg h']; omega
theorem szP_le {a : List D.Ins} {x : Int} (hx : M.Left x) (h : ¬ M.laws_szInsS a x < 0) : M.Left (M.laws_szInsS a x) ∧ a.length ≤ 2097152 := by
 unfold M.Left M.laws_szInsS at *
 split at h
 ·exact absurd (show (-1 : Int) < 0 by decide) h
 ·rename_i h'; rw [if_neg h']; omega
theorem szW_le {a : D.Warp} {x : Int} (hx : M.Left x) (h : ¬ M.laws_szWarp a x < 0) : M.Left (M.laws_szWarp a x) ∧ M.WSmall a := by
 unfold M.laws_szWarp at *
 split at h
 ·exact absurd (show (-1 : Int) < 0 by decide) h
 rename_i h1
 split at h
 ·exact absurd (show (-1 : Int) < 0 by decide) h
 rename_i h2
 rw [if_neg h1, if_neg h2]
 have k1 := szF_le hx h1
 have k2 := szI_le k1.1 h2
 exact ⟨k2.1, k1.2, k2.2⟩
theorem szWs_le : ∀ {a : List D.Warp} {x : Int}, M.Left x → ¬ M.szWs a x < 0 → M.Left (M.szWs a x) ∧ ∀ y ∈ a, M.WSmall y
 | [], x, hx, h => ⟨hx, fun y hy => absurd hy List.not_mem_nil⟩
 | y :: a, x, hx, h => by
  unfold M.szWs at h ⊢
  split at h
  ·exact absurd (show (-1 : Int) < 0 by decide) h
  rename_i h1
  rw [if_neg h1]
  have k1 := szW_le hx h1
  have k2 := szWs_le k1.1 h
  exact ⟨k2.1, fun z hz => (List.mem_cons.1 hz).elim (fun e => e ▸ k1.2) (k2.2 z)⟩
theorem szWS_le {a : List D.Warp} {x : Int} (hx : M.Left x) (h : ¬ M.laws_szWarpS a x < 0) : M.Left (M.laws_szWarpS a x) ∧ M.WsSmall a := by
 unfold M.laws_szWarpS at *
 split at h
 ·exact absurd (show (-1 : Int) < 0 by decide) h
 rename_i h1
 rw [if_neg h1]
 have hx' : M.Left (x - a.length) := by unfold M.Left at *; omega
 have k := szWs_le hx' h
 exact ⟨k.1, by unfold M.Left at hx; omega, k.2⟩
theorem szB_le {b : D.Block} {x : Int} (hx : M.Left x) (h : ¬ M.laws_szBlock b x < 0) : M.Left (M.laws_szBlock b x) ∧ M.BSmall b := by
 unfold M.laws_szBlock at *
 split at h
 ·exact absurd (show (-1 : Int) < 0 by decide) h
 rename_i h1
 split at h
 ·exact absurd (show (-1 : Int) < 0 by decide) h
 rename_i h2
 split at h
 ·exact absurd (show (-1 : Int) < 0 by decide) h
 rename_i h3
 rw [if_neg h1, if_neg h2, if_neg h3]
 have k1 := szP_le hx h1
 have k2 := szWS_le k1.1 h2
 have k3 := szI_le k2.1 h3
 exact ⟨k3.1, k1.2, k2.2, k3.2⟩
theorem wp.laws_szWarp.math (a : D.Warp) (x : Int) (h : M.laws_szWarp_pre a x) : wp.laws_szWarp a x (fun r => r = M.laws_szWarp a x) := by
 obtain ⟨hx, h1, h2⟩ := h
 refine ⟨⟨hx.1, hx.2, h1⟩, fun r hr => bcase_mk (fun e => ?_) fun e => ?_⟩
 ·subst hr; simp at e; simp [M.laws_szWarp, e]
 have e1 : ¬ M.laws_szFrameS a.Frames x < 0 := by subst hr; simpa using e
 have k := szF_le hx e1
 subst hr
 refine ⟨⟨k.1.1, k.1.2, h2⟩, fun r hr => bcase_mk (fun e2 => ?_) fun e2 => ?_⟩
 ·subst hr; simp at e2; simp [M.laws_szWarp, e1, e2]
 ·subst hr
  have e2 : ¬ M.laws_szIntS a.Regs (M.laws_szFrameS a.Frames x) < 0 := by simpa using e2
  simp only [M.laws_szWarp, if_neg e1, if_neg e2]
theorem szWs_from (a : List D.Warp) (k : Nat) (hk : k < a.length) (n : Int) : M.szWs (a.drop k) n = if M.laws_szWarp (rd a (k : Int)) n < 0 then -1 else M.szWs (a.drop (k + 1)) (M.laws_szWarp (rd a (k : Int)) n) := by
 rw [List.drop_eq_getElem_cons hk, rd_nat hk]; rfl
theorem loop_st {σ τ : Type} {B : σ → (σ → Prop) → Prop} {x : σ} (n : Nat) (s0 : τ) (inv : Nat → τ → σ) (F : Nat → τ → Prop) (hx : x = inv 0 s0) (h0 : F 0 s0)
    (hs : ∀ k s, k < n → F k s → ∀ next : σ → Prop, (∀ s', F (k + 1) s' → next (inv (k + 1) s')) → B (inv k s) next)
    (he : ∀ s, F n s → ∀ next : σ → Prop, B (inv n s) next) : LoopP B x := by
 refine ⟨fun m p => ∃ k s, k ≤ n ∧ m = n - k ∧ p = inv k s ∧ F k s, ⟨n, 0, s0, by omega, by omega, hx, h0⟩, ?_⟩
 rintro m p ⟨k, s, hk, rfl, rfl, hF⟩
 by_cases h : k < n
 ·exact hs k s h hF _ fun s' hF' => ⟨n - (k + 1), by omega, k + 1, s', by omega, rfl, rfl, hF'⟩
 ·have : k = n := by omega
  subst this
  exact he s hF _
theorem wp.laws_szWarpS.math (a : List D.Warp) (x : Int) (h : M.laws_szWarpS_pre a x) : wp.laws_szWarpS a x (fun r => r = M.laws_szWarpS a x) := by
 obtain ⟨hx, h1, h2⟩ := h
 have hx' := hx
 unfold M.Left at hx'
 have h1' : a.length ≤ 9223372036854775807 := h1
 unfold wp.laws_szWarpS M.laws_szWarpS
 rw [w64 (by omega) (by omega)]
 refine bcase_mk (fun e => ?_) fun e => ?_
 ·rw [if_pos (by simpa using e)]
 have e : ¬ x - (a.length : Int) < 0 := by simpa using e
 rw [if_neg e]
 refine loop_st (τ := Int) a.length (x - a.length) (fun k n => (n, (k : Int), ())) (fun k n => M.Left n ∧ M.szWs (a.drop k) n = M.szWs a (x - a.length)) rfl ⟨by unfold M.Left; omega, rfl⟩ (fun k n hk hF next hn => ?_) fun n hF next => ?_
 ·obtain ⟨hL, hE⟩ := hF
  rw [szWs_from a k hk] at hE
  refine bcase_t (by simp; omega) ⟨by omega, ⟨hL, h2 _ (rd_mem hk)⟩, fun r hr => bcase_mk (fun e2 => ?_) fun e2 => ?_⟩
  ·subst hr
   have e2 : M.laws_szWarp (rd a (k : Int)) n < 0 := by simpa using e2
   rw [if_pos e2] at hE; exact hE
  ·subst hr
   have e2 : ¬ M.laws_szWarp (rd a (k : Int)) n < 0 := by simpa using e2
   rw [if_neg e2] at hE
   rw [up64 hk h1']
   exact hn _ ⟨(szW_le hL e2).1, hE⟩
 ·refine bcase_f (by simp) ?_
  have := hF.2
  rw [List.drop_length] at this
  exact this
theorem wp.laws_szBlock.math (b : D.Block) (x : Int) (h : M.laws_szBlock_pre b x) : wp.laws_szBlock b x (fun r => r = M.laws_szBlock b x) := by
 obtain ⟨hx, h1, h2, h3⟩ := h
 refine ⟨⟨hx.1, hx.2, h1⟩, fun r hr => bcase_mk (fun e => ?_) fun e => ?_⟩
 ·subst hr; simp at e; simp [M.laws_szBlock, e]
 subst hr
 have e : ¬ M.laws_szInsS b.Code x < 0 := by simpa using e
 have k := (szP_le hx e).1
 refine ⟨⟨k, h2⟩, fun r hr => bcase_mk (fun e2 => ?_) fun e2 => ?_⟩
 ·subst hr; simp at e2; simp [M.laws_szBlock, e, e2]
 subst hr
 have e2 : ¬ M.laws_szWarpS b.Warps (M.laws_szInsS b.Code x) < 0 := by simpa using e2
 have k2 := (szWS_le k e2).1
 refine ⟨⟨k2.1, k2.2, h3⟩, fun r hr => bcase_mk (fun e3 => ?_) fun e3 => ?_⟩
 ·subst hr; simp at e3; simp [M.laws_szBlock, e, e2, e3]
 subst hr
 have e3 : ¬ M.laws_szIntS b.Memory (M.laws_szWarpS b.Warps (M.laws_szInsS b.Code x)) < 0 := by simpa using e3
 simp only [M.laws_szBlock, if_neg e, if_neg e2, if_neg e3]
theorem wp.laws_toFrame.math (a : D.Frame) : wp.laws_toFrame a (fun r => r = M.laws_toFrame a) := rfl
theorem wp.laws_toFrameS.math (a : List D.Frame) (h : M.laws_toFrameS_pre a) : wp.laws_toFrameS a (fun r => r = M.laws_toFrameS a) := by
 unfold wp.laws_toFrameS
 unfold M.laws_toFrameS_pre at h
 refine ⟨by omega, ?_⟩
 refine loop_n a.length (fun k => ((k : Int), cp id a k, ())) (fun _ => True) (by simp [cp_zero]) trivial (fun k hk hF next hn => ?_) fun hF next => ?_
 ·refine bcase_t (by simp; omega) ⟨by omega, fun r hr => ⟨⟨by omega, by simp only [cp_len id a (Nat.le_of_lt hk)]; omega⟩, ?_⟩⟩
  rw [rd_nat hk] at hr
  subst hr
  rw [up64 hk (by omega)]
  have := cp_set id a hk
  simp only [id] at this
  simp only [Int.toNat_natCast]
  rw [show (⟨(M.laws_toFrame a[k]).Pc, (M.laws_toFrame a[k]).Stop, (M.laws_toFrame a[k]).Mask⟩ : D.Frame) = a[k] from rfl, this]
  exact hn trivial
 ·exact bcase_f (by simp) (by rw [cp_all]; simp [M.laws_toFrameS])
theorem wp.laws_toWarp.math (a : D.Warp) (h : M.laws_toWarp_pre a) : wp.laws_toWarp a (fun r => r = M.laws_toWarp a) :=
 ⟨h.1, fun r hr => ⟨h.2, fun r2 hr2 => by rw [hr, hr2]; rfl⟩⟩
theorem wp.laws_toWarpS.math (a : List D.Warp) (h : M.laws_toWarpS_pre a) : wp.laws_toWarpS a (fun r => r = M.laws_toWarpS a) := by
 unfold wp.laws_toWarpS
 obtain ⟨h1, h2⟩ := h
 refine ⟨by omega, ?_⟩
 refine loop_n a.length (fun k => ((k : Int), cp id a k, ())) (fun _ => True) (by simp [cp_zero]) trivial (fun k hk hF next hn => ?_) fun hF next => ?_
 ·refine bcase_t (by simp; omega) ⟨by omega, h2 _ (rd_mem hk), fun r hr => ⟨⟨by omega, by simp only [cp_len id a (Nat.le_of_lt hk)]; omega⟩, ?_⟩⟩
  rw [rd_nat hk] at hr
  subst hr
  rw [up64 hk (by omega)]
  have := cp_set id a hk
  simp only [id] at this
  simp only [Int.toNat_natCast]
  rw [show M.laws_toWarp a[k] = a[k] from rfl, this]
  exact hn trivial
 ·exact bcase_f (by simp) (by rw [cp_all]; simp [M.laws_toWarpS])
theorem wp.laws_toBlock.math (a : D.Block) (h : M.laws_toBlock_pre a) : wp.laws_toBlock a (fun r => r = M.laws_toBlock a) :=
 ⟨h.1, fun r hr => ⟨h.2.1, fun r2 hr2 => ⟨h.2.2, fun r3 hr3 => by rw [hr, hr2, hr3]; rfl⟩⟩⟩
theorem wp.laws_eqFrame.math (a b : D.Frame) : wp.laws_eqFrame a b (fun r => r = M.laws_eqFrame a b) := by
 cases a; cases b
 unfold wp.laws_eqFrame M.laws_eqFrame
 refine bcase_mk (fun e => ?_) fun e => bcase_mk (fun e2 => ?_) fun e2 => bcase_mk (fun e3 => ?_) fun e3 => ?_
 all_goals simp at *
 ·intro h; exact absurd h e
 ·intro _ h; exact absurd h e2
 ·intro _ _ h; exact absurd h e3
 ·exact ⟨e, e2, e3⟩
theorem eq_loop {α : Type} [Inhabited α] [BEq α] [LawfulBEq α] {a b : List α} (ha : M.Long a) (hl : a.length = b.length) {B : (Int × Unit) → ((Int × Unit) → Prop) → Prop} {Q : Bool → Prop}
    (hb : ∀ (k : Nat) (next : (Int × Unit) → Prop), k < a.length → k < b.length → (rd a (k : Int) ≠ rd b (k : Int) → Q false) → (rd a (k : Int) = rd b (k : Int) → next (((k + 1 : Nat) : Int), ())) → B ((k : Int), ()) next)
    (he : ∀ (next : (Int × Unit) → Prop), a = b → B ((a.length : Int), ()) next) (hQ : a ≠ b → Q false) : LoopP B (0, ()) := by
 refine loop_n a.length (fun k => ((k : Int), ())) (fun k => ∀ j : Nat, j < k → rd a j = rd b j) rfl (by simp) (fun k hk hF next hn => ?_) fun hF next => ?_
 ·refine hb k next hk (by omega) (fun e => hQ (fun h => e (by rw [h]))) fun e => hn fun j hj => ?_
  by_cases hjk : j = k
  ·subst hjk; exact e
  ·exact hF j (by omega)
 ·exact he next (eq_of_takes hl hF)
theorem wp.laws_eqFrameS.math (a b : List D.Frame) (h : M.laws_eqFrameS_pre a b) : wp.laws_eqFrameS a b (fun r => r = M.laws_eqFrameS a b) := by
 unfold wp.laws_eqFrameS
 refine bcase_mk (fun e => ?_) fun e => ?_
 ·simp [M.laws_eqFrameS]; rintro rfl; simp at e
 have hl : a.length = b.length := by simp at e; omega
 refine eq_loop h hl (Q := fun r => r = M.laws_eqFrameS a b) (fun k next hk hk' h1 h2 => ?_) (fun next e => bcase_f (by simp) (by simp [M.laws_eqFrameS, e])) fun hne => by simp [M.laws_eqFrameS, hne]
 refine bcase_t (by simp; omega) ⟨by omega, by omega, fun r hr => bcase_mk (fun e => ?_) fun e => ?_⟩
 ·exact h1 (by subst hr; simpa [M.laws_eqFrame] using e)
 ·rw [up64 hk h]; exact h2 (by subst hr; simpa [M.laws_eqFrame] using e)
theorem wp.laws_eqWarp.math (a b : D.Warp) (h : M.laws_eqWarp_pre a b) : wp.laws_eqWarp a b (fun r => r = M.laws_eqWarp a b) := by
 obtain ⟨h1, h2⟩ := h
 cases a; cases b
 refine bcase_mk (fun e => ?_) fun e => ⟨h1, fun r hr => bcase_mk (fun e2 => ?_) fun e2 => ⟨h2, fun r2 hr2 => bcase_mk (fun e3 => ?_) fun e3 => ?_⟩⟩
 all_goals simp [M.laws_eqWarp, M.laws_eqFrameS, M.laws_eqIntS] at *
 ·intro h; exact absurd h e
 ·subst hr; intro _ h; simp [h] at e2
 ·subst hr hr2; intro _ _ h; simp [h] at e3
 ·subst hr hr2; simp at e2 e3; exact ⟨e, e2, e3⟩
theorem wp.laws_eqWarpS.math (a b : List D.Warp) (h : M.laws_eqWarpS_pre a b) : wp.laws_eqWarpS a b (fun r => r = M.laws_eqWarpS a b) := by
 unfold wp.laws_eqWarpS
 obtain ⟨h, hW⟩ := h
 refine bcase_mk (fun e => ?_) fun e => ?_
 ·simp [M.laws_eqWarpS]; rintro rfl; simp at e
 have hl : a.length = b.length := by simp at e; omega
 refine eq_loop h hl (Q := fun r => r = M.laws_eqWarpS a b) (fun k next hk hk' h1 h2 => ?_) (fun next e => bcase_f (by simp) (by simp [M.laws_eqWarpS, e])) fun hne => by simp [M.laws_eqWarpS, hne]
 refine bcase_t (by simp; omega) ⟨by omega, by omega, hW _ (rd_mem hk), fun r hr => bcase_mk (fun e => ?_) fun e => ?_⟩
 ·exact h1 (by subst hr; simpa [M.laws_eqWarp] using e)
 ·rw [up64 hk h]; exact h2 (by subst hr; simpa [M.laws_eqWarp] using e)
theorem wp.laws_eqBlock.math (a b : D.Block) (h : M.laws_eqBlock_pre a b) : wp.laws_eqBlock a b (fun r => r = M.laws_eqBlock a b) := by
 obtain ⟨h1, h2, h3⟩ := h
 cases a; cases b
 refine ⟨h1, fun r hr => bcase_mk (fun e => ?_) fun e => ⟨h2, fun r2 hr2 => bcase_mk (fun e2 => ?_) fun e2 => ⟨h3, fun r3 hr3 => bcase_mk (fun e3 => ?_) fun e3 => bcase_mk (fun e4 => ?_) fun e4 => bcase_mk (fun e5 => ?_) fun e5 => ?_⟩⟩⟩
 all_goals simp [M.laws_eqBlock, M.laws_eqInsS, M.laws_eqWarpS, M.laws_eqIntS] at *
 ·subst hr; intro h; simp [h] at e
 ·subst hr hr2; intro _ h; simp [h] at e2
 ·subst hr hr2 hr3; intro _ _ h; simp [h] at e3
 ·intro _ _ _ h; exact absurd h e4
 ·intro _ _ _ _ h; exact absurd h e5
 ·subst hr hr2 hr3; simp at e e2 e3; exact ⟨e, e2, e3, e4, e5⟩
end Go.V
namespace Go.V
open IntKind (wrap)
def wp.spec_WarpOk (xs0 : List D.Ins) (s1 : D.Warp) (Q : Bool → Prop) : Prop :=
 (M.spec_ProgramOk_pre xs0 ∧ ∀ r23, r23 = M.spec_ProgramOk xs0 → bcase (!r23) (Q false) ((∀ r28, r28 = M.spec_l01In s1.Number 0 2 → bcase (!r28) (Q false) (bcase ((s1.Regs.length : Int) != 32) (Q false) ((M.spec_AreWords_pre s1.Regs ∧ ∀ r33, r33 = M.spec_AreWords s1.Regs → bcase (!r33) (Q false) (bcase (decide ((s1.Frames.length : Int) > 24)) (Q false) (LoopP (σ := Int × Unit) (fun (p94 : Int × Unit) next42 => match p94 with | (i38, _) => bcase (decide (i38 < (s1.Frames.length : Int))) (((0 ≤ i38 ∧ i38 < (s1.Frames.length : Int)) ∧ (∀ r53, r53 = M.spec_l01In ((rd s1.Frames i38).Pc) 0 (xs0.length : Int) → bcase (!r53) (Q false) ((∀ r58, r58 = M.spec_l01In ((rd s1.Frames i38).Stop) 0 (xs0.length : Int) → bcase (!r58) (Q false) ((∀ r63, r63 = M.spec_IsMask ((rd s1.Frames i38).Mask) → bcase (!r63) (Q false) (bcase ((rd s1.Frames i38).Mask == 0) (Q false) (bcase (i38 == 0) (bcase ((rd s1.Frames i38).Stop != (xs0.length : Int)) (Q false) (bcase ((rd s1.Frames i38).Mask != 255) (Q false) (bcase (i38 == (wrap .i64 ((s1.Frames.length : Int) - 1))) (bcase ((rd s1.Frames i38).Pc == (rd s1.Frames i38).Stop) (Q false) (bcase ((rd s1.Frames i38).Pc == (xs0.length : Int)) (Q false) (next42 ((wrap .i64 (i38 + 1)), ())))) (next42 ((wrap .i64 (i38 + 1)), ()))))) (bcase (i38 == (wrap .i64 ((s1.Frames.length : Int) - 1))) (bcase ((rd s1.Frames i38).Pc == (rd s1.Frames i38).Stop) (Q false) (bcase ((rd s1.Frames i38).Pc == (xs0.length : Int)) (Q false) (next42 ((wrap .i64 (i38 + 1)), ())))) (next42 ((wrap .i64 (i38 + 1)), ())))))))))))) (Q true)) (0, ())))))))))
def wp.spec_BlockOk (s0 : D.Block) (Q : Bool → Prop) : Prop :=
 (M.spec_ProgramOk_pre s0.Code ∧ ∀ r29, r29 = M.spec_ProgramOk s0.Code → bcase (!r29) (Q false) ((∀ r34, r34 = M.spec_l01In (s0.Warps.length : Int) 1 3 → bcase (!r34) (Q false) (bcase ((s0.Memory.length : Int) != 32) (Q false) ((M.spec_AreWords_pre s0.Memory ∧ ∀ r39, r39 = M.spec_AreWords s0.Memory → bcase (!r39) (Q false) (((0 ≤ (s0.Warps.length : Int)) ∧ (∀ r45, r45 = M.spec_l01In s0.Waiting 0 (wrap .i64 ((wrap .i64 (1 * 2 ^ (min ((s0.Warps.length : Int).toNat) (IntKind.bits .i64)))) - 2)) → bcase (!r45) (Q false) ((∀ r50, r50 = M.spec_l01In s0.Phase 0 100000 → bcase (!r50) (Q false) (LoopP (σ := Int × Unit) (fun (p126 : Int × Unit) next59 => match p126 with | (i55, _) => bcase (decide (i55 < (s0.Warps.length : Int))) (((0 ≤ i55 ∧ i55 < (s0.Warps.length : Int)) ∧ (M.spec_WarpOk_pre s0.Code (rd s0.Warps i55) ∧ ∀ r99, r99 = M.spec_WarpOk s0.Code (rd s0.Warps i55) → bcase (!r99) (Q false) (((0 ≤ i55 ∧ i55 < (s0.Warps.length : Int)) ∧ bcase ((rd s0.Warps i55).Number != i55) (Q false) (next59 ((wrap .i64 (i55 + 1)), ()))))))) (Q true)) (0, ())))))))))))))
def wp.spec_l30Ok (s0 : D.Block) (x1 : Int) (Q : Bool → Prop) : Prop :=
 (M.spec_BlockOk_pre s0 ∧ ∀ r23, r23 = M.spec_BlockOk s0 → bcase r23 ((∀ r28, r28 = M.spec_l01In x1 0 (wrap .i64 ((s0.Warps.length : Int) - 1)) → Q r28)) (Q false))
def wp.impl_isWarpCount (x0 : Int) (Q : Bool → Prop) : Prop :=
 (∀ r21, r21 = M.impl_within x0 1 3 → Q r21)
def wp.impl_isMemory (xs0 : List Int) (Q : Bool → Prop) : Prop :=
 bcase ((xs0.length : Int) == 32) ((M.impl_AreWords_pre xs0 ∧ ∀ r21, r21 = M.impl_AreWords xs0 → Q r21)) (Q false)
def wp.impl_areAllRegs (xs0 : List Int) (Q : Bool → Prop) : Prop :=
 Q ((xs0.length : Int) == 32)
def wp.impl_areFrames (xs0 : List D.Frame) (x1 : Int) (Q : Bool → Prop) : Prop :=
 LoopP (σ := Int × Unit) (fun (p83 : Int × Unit) next25 => match p83 with | (i21, _) => bcase (decide (i21 < (xs0.length : Int))) (((0 ≤ i21 ∧ i21 < (xs0.length : Int)) ∧ (∀ r36, r36 = M.impl_within ((rd xs0 i21).Pc) 0 x1 → bcase (!r36) (Q false) ((∀ r41, r41 = M.impl_within ((rd xs0 i21).Stop) 0 x1 → bcase (!r41) (Q false) ((∀ r46, r46 = M.impl_IsMask ((rd xs0 i21).Mask) → bcase (!r46) (Q false) (bcase ((rd xs0 i21).Mask == 0) (Q false) (next25 ((wrap .i64 (i21 + 1)), ())))))))))) (bcase ((xs0.length : Int) == 0) (Q true) (((0 ≤ (wrap .i64 ((xs0.length : Int) - 1)) ∧ (wrap .i64 ((xs0.length : Int) - 1)) < (xs0.length : Int)) ∧ bcase (decide ((xs0.length : Int) ≤ 24)) (bcase ((rd xs0 (wrap .i64 ((xs0.length : Int) - 1))).Pc != (rd xs0 (wrap .i64 ((xs0.length : Int) - 1))).Stop) (bcase ((rd xs0 (wrap .i64 ((xs0.length : Int) - 1))).Pc != x1) (((0 ≤ (0 : Int) ∧ (0 : Int) < (xs0.length : Int)) ∧ bcase ((rd xs0 0).Stop == x1) (((0 ≤ (0 : Int) ∧ (0 : Int) < (xs0.length : Int)) ∧ Q ((rd xs0 0).Mask == 255))) (Q false))) (Q false)) (Q false)) (Q false))))) (0, ())
def wp.impl_isWarpOf (xs0 : List D.Ins) (s1 : D.Warp) (Q : Bool → Prop) : Prop :=
 (∀ r23, r23 = M.impl_isWarpNumber s1.Number → bcase r23 ((∀ r28, r28 = M.impl_areAllRegs s1.Regs → bcase r28 ((M.impl_AreWords_pre s1.Regs ∧ ∀ r33, r33 = M.impl_AreWords s1.Regs → bcase r33 ((M.impl_areFrames_pre s1.Frames (xs0.length : Int) ∧ ∀ r38, r38 = M.impl_areFrames s1.Frames (xs0.length : Int) → Q r38)) (Q false))) (Q false))) (Q false))
def wp.impl_BlockOk (s0 : D.Block) (Q : Bool → Prop) : Prop :=
 (M.impl_ProgramOk_pre s0.Code ∧ ∀ r29, r29 = M.impl_ProgramOk s0.Code → bcase (!r29) (Q false) ((∀ r34, r34 = M.impl_isWarpCount (s0.Warps.length : Int) → bcase (!r34) (Q false) ((M.impl_isMemory_pre s0.Memory ∧ ∀ r39, r39 = M.impl_isMemory s0.Memory → bcase (!r39) (Q false) (((0 ≤ (s0.Warps.length : Int)) ∧ (∀ r45, r45 = M.impl_within s0.Waiting 0 (wrap .i64 ((wrap .i64 (1 * 2 ^ (min ((s0.Warps.length : Int).toNat) (IntKind.bits .i64)))) - 2)) → bcase (!r45) (Q false) ((∀ r50, r50 = M.impl_within s0.Phase 0 100000 → bcase (!r50) (Q false) (LoopP (σ := Int × Unit) (fun (p92 : Int × Unit) next59 => match p92 with | (i55, _) => bcase (decide (i55 < (s0.Warps.length : Int))) (((0 ≤ i55 ∧ i55 < (s0.Warps.length : Int)) ∧ bcase ((rd s0.Warps i55).Number != i55) (Q false) ((M.impl_isWarpOf_pre s0.Code (rd s0.Warps i55) ∧ ∀ r81, r81 = M.impl_isWarpOf s0.Code (rd s0.Warps i55) → bcase (!r81) (Q false) (next59 ((wrap .i64 (i55 + 1)), ())))))) (Q true)) (0, ()))))))))))))
def wp.impl_hasWarp (s0 : D.Block) (x1 : Int) (Q : Bool → Prop) : Prop :=
 (M.impl_BlockOk_pre s0 ∧ ∀ r23, r23 = M.impl_BlockOk s0 → bcase r23 ((∀ r28, r28 = M.impl_within x1 0 (wrap .i64 ((s0.Warps.length : Int) - 1)) → Q r28)) (Q false))
def wp.impl_Block_waits (s0 : D.Block) (x1 : Int) (Q : Bool → Prop) : Prop :=
 ((0 ≤ x1) ∧ Q ((bitAnd .i64 (Int.fdiv s0.Waiting (2 ^ (min (x1.toNat) (IntKind.bits .i64)))) 1) == 1))
end Go.V
namespace Go.V
open IntKind (wrap)
theorem last_wrap {n : Nat} (h : n ≤ 9223372036854775807) : wrap .i64 ((n : Int) - 1) = (n : Int) - 1 := w64 (by omega) (by omega)
theorem frames_false {fs : List D.Frame} {n : Int} {k : Nat} (hk : k < fs.length) (h : M.frameOk n (rd fs (k : Int)) = false) : M.areFrames fs n = false := by
 have := all_false (g := M.frameOk n) hk h
 simp [M.areFrames, this]
theorem ends_false {fs : List D.Frame} {n : Int} (h0 : fs ≠ []) (h : M.endsOk fs n = false) : M.areFrames fs n = false := by
 have : fs.isEmpty = false := by simpa using h0
 simp [M.areFrames, h, this]
theorem wp.impl_areFrames.math (fs : List D.Frame) (n : Int) (h : M.impl_areFrames_pre fs n) : wp.impl_areFrames fs n (fun r => r = M.impl_areFrames fs n) := by
 unfold wp.impl_areFrames
 have hl : fs.length ≤ 9223372036854775807 := h
 refine all_loop (g := M.frameOk n) (Q := fun r => r = M.areFrames fs n) h (fun k next hk h1 h2 => ?_) (fun next ha => ?_) fun ha => by simp [M.areFrames, ha]
 ·refine bcase_t (by simp; omega) ⟨by omega, fun r hr => bcase_mk (fun e => ?_) fun e r2 hr2 => bcase_mk (fun e2 => ?_) fun e2 r3 hr3 => bcase_mk (fun e3 => ?_) fun e3 => bcase_mk (fun e4 => ?_) fun e4 => ?_⟩
  all_goals simp only [M.impl_within, M.impl_IsMask] at *
  ·have := nt e hr
   exact (frames_false hk (by simp [M.frameOk, this])).symm
  ·have := nt e2 hr2
   exact (frames_false hk (by simp [M.frameOk, this])).symm
  ·have := nt e3 hr3
   exact (frames_false hk (by simp [M.frameOk, this])).symm
  ·have e4 : (rd fs (k : Int)).Mask = 0 := by simpa using e4
   exact (frames_false hk (by simp [M.frameOk, e4])).symm
  ·rw [up64 hk h]
   refine h2 ?_
   have e4 : (rd fs (k : Int)).Mask ≠ 0 := by simpa using e4
   simp [M.frameOk, nf e hr, nf e2 hr2, nf e3 hr3, e4]
 ·refine bcase_f (by simp) (bcase_mk (fun e => ?_) fun e => ?_)
  ·have : fs = [] := by simpa using e
   subst this; rfl
  have h0 : fs ≠ [] := by rintro rfl; simp at e
  have hpos : 0 < fs.length := List.length_pos_iff.2 h0
  have hA : M.areFrames fs n = M.endsOk fs n := by
   have : fs.isEmpty = false := by simpa using h0
   simp [M.areFrames, ha, this]
  show _
  simp only [M.impl_areFrames, hA, last_wrap hl]
  refine ⟨by omega, bcase_mk (fun e1 => bcase_mk (fun e2 => bcase_mk (fun e3 => ⟨by omega, bcase_mk (fun e4 => ⟨by omega, ?_⟩) fun e4 => ?_⟩) fun e3 => ?_) fun e2 => ?_) fun e1 => ?_⟩
  all_goals simp only [M.endsOk]
  all_goals change _ = (_ && ((rd fs ((fs.length : Int) - 1)).Pc != (rd fs ((fs.length : Int) - 1)).Stop && ((rd fs ((fs.length : Int) - 1)).Pc != n && _)))
  ·have e1 : fs.length ≤ 24 := by simp at e1; omega
   rw [e2, e3, e4]; simp [e1]
  ·rw [e4]; simp
  ·rw [e3]; simp
  ·rw [e2]; simp
  ·have e1 : ¬ fs.length ≤ 24 := by simp at e1; omega
   simp [e1]
theorem lenE {r : List Int} : ((r.length : Int) == 32) = (r.length == 32) := by
 rw [Bool.eq_iff_iff]; simp; omega
theorem wp.impl_areAllRegs.math (r : List Int) : wp.impl_areAllRegs r (fun x => x = M.impl_areAllRegs r) := lenE
theorem wp.impl_isWarpCount.math (n : Int) : wp.impl_isWarpCount n (fun x => x = M.impl_isWarpCount n) := fun r hr => hr
theorem wp.impl_isMemory.math (m : List Int) (h : M.impl_isMemory_pre m) : wp.impl_isMemory m (fun x => x = M.impl_isMemory m) := by
 refine bcase_mk (fun e => ⟨h, fun r hr => ?_⟩) fun e => ?_
 ·have : m.length = 32 := by simp at e; omega
  rw [hr]; simp [M.impl_isMemory, this, M.impl_AreWords]
 ·have : ¬ m.length = 32 := by simp at e; omega
  simp [M.impl_isMemory, this]
theorem wp.impl_isWarpOf.math (p : List D.Ins) (x : D.Warp) (h : M.impl_isWarpOf_pre p x) : wp.impl_isWarpOf p x (fun r => r = M.impl_isWarpOf p x) := by
 obtain ⟨h1, h2⟩ := h
 refine fun r hr => bcase_mk (fun e r2 hr2 => bcase_mk (fun e2 => ⟨h2, fun r3 hr3 => bcase_mk (fun e3 => ⟨h1, fun r4 hr4 => ?_⟩) fun e3 => ?_⟩) fun e2 => ?_) fun e => ?_
 all_goals try simp only [M.impl_isWarpNumber, M.impl_areAllRegs, M.impl_AreWords, M.impl_areFrames, M.impl_isWarpOf, M.warpOf] at *
 ·subst hr hr2 hr3 hr4; simp [e, e2, e3]
 ·subst hr hr2 hr3; simp [e, e2, e3]
 ·subst hr hr2; simp [e, e2]
 ·subst hr; simp [e]
theorem lenB {r : List Int} : ((r.length : Int) != 32) = !(r.length == 32) := by rw [← lenE]; rfl
theorem wp.spec_WarpOk.math (p : List D.Ins) (x : D.Warp) (h : M.spec_WarpOk_pre p x) : wp.spec_WarpOk p x (fun r => r = M.spec_WarpOk p x) := by
 obtain ⟨hp, h1, h2⟩ := h
 have hl : x.Frames.length ≤ 9223372036854775807 := h1
 unfold wp.spec_WarpOk
 simp only [lenB]
 refine ⟨hp, fun r hr => bcase_mk (fun e => ?_) fun e r2 hr2 => bcase_mk (fun e2 => ?_) fun e2 => bcase_mk (fun e3 => ?_) fun e3 => ⟨h2, fun r4 hr4 => bcase_mk (fun e4 => ?_) fun e4 => bcase_mk (fun e5 => ?_) fun e5 => ?_⟩⟩
 all_goals try simp only [M.spec_ProgramOk, M.spec_l01In, M.spec_AreWords] at *
 all_goals try simp only [M.spec_WarpOk, M.warpOf]
 ·rw [nt e hr]; rfl
 ·rw [nt e2 hr2]; simp
 ·have : (x.Regs.length == 32) = false := by simpa using e3
  rw [this]; simp
 ·rw [nt e4 hr4]; simp
 ·have h24 : ¬ x.Frames.length ≤ 24 := by simp at e5; omega
  have h0 : x.Frames ≠ [] := by rintro h; rw [h] at h24; simp at h24
  rw [ends_false h0 (by simp [M.endsOk, h24])]; simp
 have h24 : x.Frames.length ≤ 24 := by simp at e5; omega
 have h32 : (x.Regs.length == 32) = true := by simpa using e3
 rw [nf e hr, nf e2 hr2, nf e4 hr4, h32]
 simp only [Bool.true_and]
 have hR : ∀ k : Nat, k < x.Frames.length → rd x.Frames ((k : Int)) = rd x.Frames (k : Int) := fun _ _ => rfl
 rw [last_wrap hl]
 refine loop_n x.Frames.length (fun k => ((k : Int), ())) (fun k => (x.Frames.take k).all (M.frameOk p.length) = true ∧ (0 < k → (rd x.Frames 0).Stop = p.length ∧ (rd x.Frames 0).Mask = 255) ∧ (k = x.Frames.length → 0 < k → (M.lastF x.Frames).Pc ≠ (M.lastF x.Frames).Stop ∧ (M.lastF x.Frames).Pc ≠ p.length)) rfl ⟨by simp, by simp, by simp⟩ (fun k hk hF next hn => ?_) fun hF next => ?_
 ·obtain ⟨g1, g2, g3⟩ := hF
  have h0 : x.Frames ≠ [] := by rintro h; rw [h] at hk; simp at hk
  refine bcase_t (by simp; omega) ⟨by omega, fun r hr => bcase_mk (fun e => ?_) fun e r2 hr2 => bcase_mk (fun e2 => ?_) fun e2 r3 hr3 => bcase_mk (fun e3 => ?_) fun e3 => bcase_mk (fun e4 => ?_) fun e4 => ?_⟩
  all_goals simp only [M.spec_IsMask] at *
  ·have := nt e hr
   exact (frames_false hk (by simp [M.frameOk, this])).symm
  ·have := nt e2 hr2
   exact (frames_false hk (by simp [M.frameOk, this])).symm
  ·have := nt e3 hr3
   exact (frames_false hk (by simp [M.frameOk, this])).symm
  ·have e4 : (rd x.Frames (k : Int)).Mask = 0 := by simpa using e4
   exact (frames_false hk (by simp [M.frameOk, e4])).symm
  have e4 : (rd x.Frames (k : Int)).Mask ≠ 0 := by simpa using e4
  have hok : M.frameOk p.length (rd x.Frames (k : Int)) = true := by simp [M.frameOk, nf e hr, nf e2 hr2, nf e3 hr3, e4]
  rw [rd_nat hk] at hok
  have gk := take_all_succ hk g1 hok
  have tail : ((rd x.Frames 0).Stop = p.length ∧ (rd x.Frames 0).Mask = 255) → bcase ((k : Int) == (x.Frames.length : Int) - 1) (bcase ((rd x.Frames (k : Int)).Pc == (rd x.Frames (k : Int)).Stop) (false = M.areFrames x.Frames p.length) (bcase ((rd x.Frames (k : Int)).Pc == (p.length : Int)) (false = M.areFrames x.Frames p.length) (next ((wrap .i64 ((k : Int) + 1)), ())))) (next ((wrap .i64 ((k : Int) + 1)), ())) := by
   intro hz
   rw [up64 hk hl]
   refine bcase_mk (fun e5 => ?_) fun e5 => ?_
   ·have e5 : (k : Int) = (x.Frames.length : Int) - 1 := by simpa using e5
    have hlast : M.lastF x.Frames = rd x.Frames (k : Int) := by rw [e5]; rfl
    refine bcase_mk (fun e6 => ?_) fun e6 => bcase_mk (fun e7 => ?_) fun e7 => ?_
    ·have e6 : (rd x.Frames (k : Int)).Pc = (rd x.Frames (k : Int)).Stop := by simpa using e6
     exact (ends_false h0 (by simp [M.endsOk, hlast, e6])).symm
    ·have e7 : (rd x.Frames (k : Int)).Pc = p.length := by simpa using e7
     exact (ends_false h0 (by simp [M.endsOk, hlast, e7])).symm
    ·exact hn ⟨gk, fun _ => hz, fun _ _ => by rw [hlast]; exact ⟨by simpa using e6, by simpa using e7⟩⟩
   ·have e5 : ¬ (k : Int) = (x.Frames.length : Int) - 1 := by simpa using e5
    exact hn ⟨gk, fun _ => hz, fun h _ => by omega⟩
  refine bcase_mk (fun e5 => ?_) fun e5 => ?_
  ·have e5 : k = 0 := by simp at e5; omega
   subst e5
   refine bcase_mk (fun e6 => ?_) fun e6 => bcase_mk (fun e7 => ?_) fun e7 => ?_
   ·have e6 : (rd x.Frames 0).Stop ≠ p.length := by simpa using e6
    exact (ends_false h0 (by simp [M.endsOk, e6])).symm
   ·have e7 : (rd x.Frames 0).Mask ≠ 255 := by simpa using e7
    exact (ends_false h0 (by simp [M.endsOk, e7])).symm
   ·exact tail ⟨by simpa using e6, by simpa using e7⟩
  ·have e5 : 0 < k := by simp at e5; omega
   exact tail (g2 e5)
 ·obtain ⟨g1, g2, g3⟩ := hF
  refine bcase_f (by simp) ?_
  rw [List.take_length] at g1
  rcases Nat.eq_zero_or_pos x.Frames.length with h0 | h0
  ·have : x.Frames = [] := List.eq_nil_of_length_eq_zero h0
   rw [this]; rfl
  ·have hne : x.Frames.isEmpty = false := by simpa using List.length_pos_iff.1 h0
   obtain ⟨a1, a2⟩ := g2 h0
   obtain ⟨b1, b2⟩ := g3 rfl h0
   have : M.endsOk x.Frames p.length = true := by simp [M.endsOk, h24, a1, a2, b1, b2]
   simp [M.areFrames, g1, this]
theorem warps_from (p : List D.Ins) (l : List D.Warp) (k : Nat) (hk : k < l.length) : M.warpsOk p k (l.drop k) = (M.warpAt p k (rd l (k : Int)) && M.warpsOk p (k + 1) (l.drop (k + 1))) := by
 rw [List.drop_eq_getElem_cons hk, rd_nat hk]; rfl
theorem warps_loop {p : List D.Ins} {l : List D.Warp} (hl : M.Long l) {B : (Int × Unit) → ((Int × Unit) → Prop) → Prop}
    (hb : ∀ (k : Nat) (next : (Int × Unit) → Prop), k < l.length → (M.warpAt p k (rd l (k : Int)) = false → false = M.warpsOk p 0 l) → (M.warpAt p k (rd l (k : Int)) = true → next (((k + 1 : Nat) : Int), ())) → B ((k : Int), ()) next)
    (he : ∀ (next : (Int × Unit) → Prop), true = M.warpsOk p 0 l → B ((l.length : Int), ()) next) : LoopP B (0, ()) := by
 refine loop_n l.length (fun k => ((k : Int), ())) (fun k => M.warpsOk p 0 l = M.warpsOk p k (l.drop k)) rfl rfl (fun k hk hF next hn => ?_) fun hF next => ?_
 ·rw [warps_from p l k hk] at hF
  refine hb k next hk (fun e => by rw [hF, e]; rfl) fun e => hn (by rw [hF, e]; rfl)
 ·refine he next ?_
  rw [hF, List.drop_length]; rfl
theorem wp.spec_BlockOk.math (b : D.Block) (h : M.spec_BlockOk_pre b) : wp.spec_BlockOk b (fun r => r = M.spec_BlockOk b) := by
 obtain ⟨h1, ⟨h2, hW⟩, h3⟩ := h
 unfold wp.spec_BlockOk
 simp only [lenB]
 refine ⟨h1, fun r hr => bcase_mk (fun e => ?_) fun e r2 hr2 => bcase_mk (fun e2 => ?_) fun e2 => bcase_mk (fun e3 => ?_) fun e3 => ⟨h3, fun r4 hr4 => bcase_mk (fun e4 => ?_) fun e4 => ⟨by omega, fun r5 hr5 => bcase_mk (fun e5 => ?_) fun e5 r6 hr6 => bcase_mk (fun e6 => ?_) fun e6 => ?_⟩⟩⟩
 all_goals try simp only [M.spec_ProgramOk, M.spec_l01In, M.spec_AreWords] at *
 all_goals simp only [M.spec_BlockOk, M.blockOk, M.impl_isMemory]
 ·rw [nt e hr]; rfl
 ·rw [nt e2 hr2]; simp
 ·have : (b.Memory.length == 32) = false := by simpa using e3
  rw [this]; simp
 ·rw [nt e4 hr4]; simp
 ·have := nt e5 hr5
  unfold M.waitTop; rw [this]; simp
 ·rw [nt e6 hr6]; simp
 have h32 : (b.Memory.length == 32) = true := by simpa using e3
 have h5 := nf e5 hr5
 have hp := nf e hr
 unfold M.waitTop
 rw [hp, nf e2 hr2, nf e4 hr4, h32, h5, nf e6 hr6]
 simp only [Bool.true_and]
 refine warps_loop h2 (fun k next hk g1 g2 => ?_) fun next hh => bcase_f (by simp) hh
 refine bcase_t (by simp; omega) ⟨by omega, ⟨h1, hW _ (rd_mem hk)⟩, fun r hr => bcase_mk (fun e => ?_) fun e => ⟨by omega, bcase_mk (fun e2 => ?_) fun e2 => ?_⟩⟩
 all_goals simp only [M.spec_WarpOk, hp, Bool.true_and] at *
 ·exact g1 (by simp [M.warpAt, nt e hr])
 ·have e2 : (rd b.Warps (k : Int)).Number ≠ (k : Int) := by simpa using e2
  exact g1 (by simp [M.warpAt, e2])
 ·have e2 : (rd b.Warps (k : Int)).Number = (k : Int) := by simpa using e2
  rw [up64 hk h2]; exact g2 (by simp [M.warpAt, e2, nf e hr])
theorem wp.impl_BlockOk.math (b : D.Block) (h : M.impl_BlockOk_pre b) : wp.impl_BlockOk b (fun r => r = M.impl_BlockOk b) := by
 obtain ⟨h1, ⟨h2, hW⟩, h3⟩ := h
 refine ⟨h1, fun r hr => bcase_mk (fun e => ?_) fun e r2 hr2 => bcase_mk (fun e2 => ?_) fun e2 => ⟨h3, fun r4 hr4 => bcase_mk (fun e4 => ?_) fun e4 => ⟨by omega, fun r5 hr5 => bcase_mk (fun e5 => ?_) fun e5 r6 hr6 => bcase_mk (fun e6 => ?_) fun e6 => ?_⟩⟩⟩
 all_goals simp only [M.impl_ProgramOk, M.impl_isWarpCount, M.impl_within] at *
 all_goals simp only [M.impl_BlockOk, M.blockOk]
 ·rw [nt e hr]; rfl
 ·rw [nt e2 hr2]; simp
 ·rw [nt e4 hr4]; simp
 ·have := nt e5 hr5
  unfold M.waitTop; rw [this]; simp
 ·rw [nt e6 hr6]; simp
 have h5 := nf e5 hr5
 unfold M.waitTop
 rw [nf e hr, nf e2 hr2, nf e4 hr4, h5, nf e6 hr6]
 simp only [Bool.true_and]
 refine warps_loop h2 (fun k next hk g1 g2 => ?_) fun next hh => bcase_f (by simp) hh
 refine bcase_t (by simp; omega) ⟨by omega, bcase_mk (fun e2 => ?_) fun e2 => ⟨hW _ (rd_mem hk), fun r hr => bcase_mk (fun e => ?_) fun e => ?_⟩⟩
 all_goals simp only [M.impl_isWarpOf] at *
 ·have e2 : (rd b.Warps (k : Int)).Number ≠ (k : Int) := by simpa using e2
  exact g1 (by simp [M.warpAt, e2])
 ·exact g1 (by simp [M.warpAt, nt e hr])
 ·have e2 : (rd b.Warps (k : Int)).Number = (k : Int) := by simpa using e2
  rw [up64 hk h2]; exact g2 (by simp [M.warpAt, e2, nf e hr])
theorem wp.spec_l30Ok.math (b : D.Block) (w : Int) (h : M.spec_l30Ok_pre b w) : wp.spec_l30Ok b w (fun r => r = M.spec_l30Ok b w) := by
 refine ⟨h, fun r hr => bcase_mk (fun e r2 hr2 => ?_) fun e => ?_⟩
 all_goals simp only [M.spec_BlockOk, M.spec_l01In, M.spec_l30Ok, M.hasWarp] at *
 ·rw [hr2, ← hr, e]; rfl
 ·rw [← hr, e]; rfl
theorem wp.impl_hasWarp.math (b : D.Block) (w : Int) (h : M.impl_hasWarp_pre b w) : wp.impl_hasWarp b w (fun r => r = M.impl_hasWarp b w) := by
 refine ⟨h, fun r hr => bcase_mk (fun e r2 hr2 => ?_) fun e => ?_⟩
 all_goals simp only [M.impl_BlockOk, M.impl_within, M.impl_hasWarp, M.hasWarp] at *
 ·rw [hr2, ← hr, e]; rfl
 ·rw [← hr, e]; rfl
theorem wp.impl_Block_waits.math (b : D.Block) (w : Int) (h : M.impl_Block_waits_pre b w) : wp.impl_Block_waits b w (fun r => r = M.impl_Block_waits b w) := ⟨h, rfl⟩
theorem has_in {b : D.Block} {w : Int} (hb : M.Long b.Warps) (h : M.hasWarp b w = true) : 0 ≤ w ∧ w < (b.Warps.length : Int) ∧ M.blockOk b = true := by
 have hl : b.Warps.length ≤ 9223372036854775807 := hb
 simp only [M.hasWarp, Bool.and_eq_true, M.isIn, decide_eq_true_eq, last_wrap hl] at h
 exact ⟨h.2.1, by omega, h.1⟩
theorem small_long {b : D.Block} (h : M.BSmall b) : M.BLong b := by
 obtain ⟨h1, ⟨h2, h3⟩, h4⟩ := h
 unfold M.BLong M.WsLong M.WLong M.Long
 exact ⟨by omega, ⟨by omega, fun x hx => by have := h3 x hx; unfold M.WSmall at this; omega⟩, by omega⟩
theorem sz_small {b : D.Block} {r : Int} (hr : r = M.laws_szBlock b 1048576) (e : decide (r < 0) = false) : M.BSmall b ∧ M.BLong b := by
 have hb := (szB_le (b := b) (x := 1048576) (by unfold M.Left; omega) (by rw [← hr]; simpa using e)).2
 exact ⟨hb, small_long hb⟩
end Go.V
namespace Go.V
open IntKind (wrap)
def wp.spec_l30Next (s0 : D.Block) (x1 : Int) (Q : D.Ins → Prop) : Prop :=
 ((0 ≤ x1 ∧ x1 < (s0.Warps.length : Int)) ∧ ((0 ≤ (wrap .i64 (((rd s0.Warps x1).Frames.length : Int) - 1)) ∧ (wrap .i64 (((rd s0.Warps x1).Frames.length : Int) - 1)) < (((rd s0.Warps x1).Frames).length : Int)) ∧ ((0 ≤ (rd ((rd s0.Warps x1).Frames) (wrap .i64 (((rd s0.Warps x1).Frames.length : Int) - 1))).Pc ∧ (rd ((rd s0.Warps x1).Frames) (wrap .i64 (((rd s0.Warps x1).Frames.length : Int) - 1))).Pc < (s0.Code.length : Int)) ∧ Q (⟨(rd s0.Code ((rd ((rd s0.Warps x1).Frames) (wrap .i64 (((rd s0.Warps x1).Frames.length : Int) - 1))).Pc)).Op, (rd s0.Code ((rd ((rd s0.Warps x1).Frames) (wrap .i64 (((rd s0.Warps x1).Frames.length : Int) - 1))).Pc)).A, (rd s0.Code ((rd ((rd s0.Warps x1).Frames) (wrap .i64 (((rd s0.Warps x1).Frames.length : Int) - 1))).Pc)).B, (rd s0.Code ((rd ((rd s0.Warps x1).Frames) (wrap .i64 (((rd s0.Warps x1).Frames.length : Int) - 1))).Pc)).C⟩ : D.Ins))))
def wp.impl_Block_nextIns (s0 : D.Block) (x1 : Int) (Q : (D.Ins × Bool) → Prop) : Prop :=
 ((0 ≤ x1 ∧ x1 < (s0.Warps.length : Int)) ∧ bcase (((rd s0.Warps x1).Frames.length : Int) == 0) (Q ((⟨0, 0, 0, 0⟩ : D.Ins), false)) (((0 ≤ (wrap .i64 (((rd s0.Warps x1).Frames.length : Int) - 1)) ∧ (wrap .i64 (((rd s0.Warps x1).Frames.length : Int) - 1)) < (((rd s0.Warps x1).Frames).length : Int)) ∧ ((0 ≤ (rd ((rd s0.Warps x1).Frames) (wrap .i64 (((rd s0.Warps x1).Frames.length : Int) - 1))).Pc ∧ (rd ((rd s0.Warps x1).Frames) (wrap .i64 (((rd s0.Warps x1).Frames.length : Int) - 1))).Pc < (s0.Code.length : Int)) ∧ Q ((⟨(rd s0.Code ((rd ((rd s0.Warps x1).Frames) (wrap .i64 (((rd s0.Warps x1).Frames.length : Int) - 1))).Pc)).Op, (rd s0.Code ((rd ((rd s0.Warps x1).Frames) (wrap .i64 (((rd s0.Warps x1).Frames.length : Int) - 1))).Pc)).A, (rd s0.Code ((rd ((rd s0.Warps x1).Frames) (wrap .i64 (((rd s0.Warps x1).Frames.length : Int) - 1))).Pc)).B, (rd s0.Code ((rd ((rd s0.Warps x1).Frames) (wrap .i64 (((rd s0.Warps x1).Frames.length : Int) - 1))).Pc)).C⟩ : D.Ins), true)))))
end Go.V
namespace Go.V
open IntKind (wrap)
theorem empty_len0 {α : Type} {l : List α} : ((l.length : Int) == 0) = l.isEmpty := by
 cases l with
 | nil => rfl
 | cons x l =>
  have : ¬ ((x :: l).length : Int) = 0 := by simp only [List.length_cons]; omega
  rw [beq_eq_false_iff_ne.2 this]; rfl
theorem warp_at {p : List D.Ins} : ∀ {l : List D.Warp} {k n : Nat}, M.warpsOk p k l = true → n < l.length → M.warpAt p (k + n) (rd l (n : Int)) = true
 | [], k, n, h, hn => absurd hn (by simp)
 | x :: l, k, 0, h, hn => by
  simp only [M.warpsOk, Bool.and_eq_true] at h
  exact h.1
 | x :: l, k, n + 1, h, hn => by
  simp only [M.warpsOk, Bool.and_eq_true] at h
  have := warp_at (n := n) h.2 (by simpa using hn)
  rw [show k + (n + 1) = k + 1 + n by omega]
  have e : rd (x :: l) ((n + 1 : Nat) : Int) = rd l (n : Int) := by
   have hn' : n < l.length := by simpa using hn
   rw [rd_nat hn, rd_nat hn']; rfl
  rw [e]; exact this
theorem has_warp {b : D.Block} {w : Int} (h : M.Has b w) : 0 ≤ w ∧ w < (b.Warps.length : Int) ∧ M.programOk b.Code = true ∧ M.warpOf b.Code (rd b.Warps w) = true ∧ (rd b.Warps w).Number = w ∧ M.blockOk b = true := by
 obtain ⟨hb, hh⟩ := h
 obtain ⟨h0, h1, hok⟩ := has_in hb.2.1.1 hh
 have hok' := hok
 simp only [M.blockOk, Bool.and_eq_true] at hok
 obtain ⟨k, rfl⟩ := Int.eq_ofNat_of_zero_le h0
 have := warp_at (n := k) hok.2.2.2.2.2 (by omega)
 rw [Nat.zero_add] at this
 simp only [M.warpAt, Bool.and_eq_true, beq_iff_eq] at this
 exact ⟨h0, h1, hok.1, this.2, this.1, hok'⟩
theorem frames_last {p : List D.Ins} {x : D.Warp} (h : M.warpOf p x = true) (hx : x.Frames ≠ []) : x.Frames.length ≤ 24 ∧ 0 ≤ (M.lastF x.Frames).Pc ∧ (M.lastF x.Frames).Pc < (p.length : Int) := by
 simp only [M.warpOf, M.areFrames, Bool.and_eq_true, Bool.or_eq_true] at h
 obtain ⟨h1, h2, h3, h4, h5⟩ := h
 have h5 := h5.resolve_left (by simpa using hx)
 have hpos : 0 < x.Frames.length := List.length_pos_iff.2 hx
 have hm : M.lastF x.Frames ∈ x.Frames := rd_of (by omega) (by omega)
 have hf := List.all_eq_true.1 h4 _ hm
 simp only [M.endsOk, M.frameOk, M.isIn, Bool.and_eq_true, decide_eq_true_eq, bne_iff_ne] at h5 hf
 exact ⟨h5.1, hf.1.1, by omega⟩
theorem wp.spec_l30Next.math (b : D.Block) (w : Int) (h : M.spec_l30Next_pre b w) : wp.spec_l30Next b w (fun r => r = M.spec_l30Next b w) := by
 obtain ⟨hh, hx⟩ := h
 obtain ⟨h0, h1, hp, hw, hn, hok⟩ := has_warp hh
 obtain ⟨k1, k2, k3⟩ := frames_last hw hx
 have hpos : 0 < (rd b.Warps w).Frames.length := List.length_pos_iff.2 hx
 unfold wp.spec_l30Next
 rw [last_wrap (by omega)]
 exact ⟨⟨h0, h1⟩, ⟨by omega, by omega⟩, ⟨k2, k3⟩, rfl⟩
theorem wp.impl_Block_nextIns.math (b : D.Block) (w : Int) (h : M.impl_Block_nextIns_pre b w) : wp.impl_Block_nextIns b w (fun r => r = M.impl_Block_nextIns b w) := by
 obtain ⟨h0, h1, hp, hw, hn, hok⟩ := has_warp h
 unfold wp.impl_Block_nextIns
 rw [empty_len0]
 refine ⟨⟨h0, h1⟩, bcase_mk (fun e => ?_) fun e => ?_⟩
 ·simp [M.impl_Block_nextIns, e]
 ·have hx : (rd b.Warps w).Frames ≠ [] := by simpa using e
  obtain ⟨k1, k2, k3⟩ := frames_last hw hx
  have hpos : 0 < (rd b.Warps w).Frames.length := List.length_pos_iff.2 hx
  rw [last_wrap (by omega)]
  refine ⟨⟨by omega, by omega⟩, ⟨k2, k3⟩, ?_⟩
  simp only [M.impl_Block_nextIns, e]; rfl
end Go.V
namespace Go.V
open IntKind (wrap)
def wp.laws_markFrameS (xs0 : List D.Frame) (x1 : Int) (Q : (Int × (List D.Frame)) → Prop) : Prop :=
 LoopP (σ := Int × Int × (List D.Frame) × Unit) (fun (p93 : Int × Int × (List D.Frame) × Unit) next61 => match p93 with | (i54, i55, xs56, _) => bcase (decide (i55 < (xs0.length : Int))) (((0 ≤ i55 ∧ i55 < (xs56.length : Int)) ∧ ((0 ≤ i55 ∧ i55 < ((List.set xs56 (i55.toNat) (⟨i54, (rd xs56 i55).Stop, (rd xs56 i55).Mask⟩ : D.Frame)).length : Int)) ∧ ((0 ≤ i55 ∧ i55 < ((List.set xs56 (i55.toNat) (⟨i54, (wrap .i64 (i54 + 1)), (rd xs56 i55).Mask⟩ : D.Frame)).length : Int)) ∧ next61 ((wrap .i64 ((wrap .i64 ((wrap .i64 (i54 + 1)) + 1)) + 1)), (wrap .i64 (i55 + 1)), (List.set xs56 (i55.toNat) (⟨i54, (wrap .i64 (i54 + 1)), (wrap .i64 ((wrap .i64 (i54 + 1)) + 1))⟩ : D.Frame)), ()))))) (Q (i54, xs56))) (x1, 0, xs0, ())
def wp.laws_markWarpS (xs0 : List D.Warp) (x1 : Int) (Q : (Int × (List D.Warp)) → Prop) : Prop :=
 LoopP (σ := Int × Int × (List D.Warp) × Unit) (fun (p130 : Int × Int × (List D.Warp) × Unit) next80 => match p130 with | (i72, i73, xs74, _) => bcase (decide (i73 < (xs0.length : Int))) (((0 ≤ i73 ∧ i73 < (xs74.length : Int)) ∧ ((0 ≤ i73 ∧ i73 < ((List.set xs74 (i73.toNat) (⟨i72, (rd xs74 i73).Frames, (rd xs74 i73).Regs⟩ : D.Warp)).length : Int)) ∧ (M.laws_markFrameS_pre ((rd (List.set xs74 (i73.toNat) (⟨i72, (rd xs74 i73).Frames, (rd xs74 i73).Regs⟩ : D.Warp)) i73).Frames) (wrap .i64 (i72 + 1)) ∧ ∀ r102, r102 = M.laws_markFrameS ((rd (List.set xs74 (i73.toNat) (⟨i72, (rd xs74 i73).Frames, (rd xs74 i73).Regs⟩ : D.Warp)) i73).Frames) (wrap .i64 (i72 + 1)) → ((0 ≤ i73 ∧ i73 < ((List.set (List.set xs74 (i73.toNat) (⟨i72, (rd xs74 i73).Frames, (rd xs74 i73).Regs⟩ : D.Warp)) (i73.toNat) (⟨(rd (List.set xs74 (i73.toNat) (⟨i72, (rd xs74 i73).Frames, (rd xs74 i73).Regs⟩ : D.Warp)) i73).Number, r102.2, (rd (List.set xs74 (i73.toNat) (⟨i72, (rd xs74 i73).Frames, (rd xs74 i73).Regs⟩ : D.Warp)) i73).Regs⟩ : D.Warp)).length : Int)) ∧ (M.laws_markIntS_pre ((rd (List.set (List.set xs74 (i73.toNat) (⟨i72, (rd xs74 i73).Frames, (rd xs74 i73).Regs⟩ : D.Warp)) (i73.toNat) (⟨(rd (List.set xs74 (i73.toNat) (⟨i72, (rd xs74 i73).Frames, (rd xs74 i73).Regs⟩ : D.Warp)) i73).Number, r102.2, (rd (List.set xs74 (i73.toNat) (⟨i72, (rd xs74 i73).Frames, (rd xs74 i73).Regs⟩ : D.Warp)) i73).Regs⟩ : D.Warp)) i73).Regs) r102.1 ∧ ∀ r120, r120 = M.laws_markIntS ((rd (List.set (List.set xs74 (i73.toNat) (⟨i72, (rd xs74 i73).Frames, (rd xs74 i73).Regs⟩ : D.Warp)) (i73.toNat) (⟨(rd (List.set xs74 (i73.toNat) (⟨i72, (rd xs74 i73).Frames, (rd xs74 i73).Regs⟩ : D.Warp)) i73).Number, r102.2, (rd (List.set xs74 (i73.toNat) (⟨i72, (rd xs74 i73).Frames, (rd xs74 i73).Regs⟩ : D.Warp)) i73).Regs⟩ : D.Warp)) i73).Regs) r102.1 → next80 (r120.1, (wrap .i64 (i73 + 1)), (List.set (List.set (List.set xs74 (i73.toNat) (⟨i72, (rd xs74 i73).Frames, (rd xs74 i73).Regs⟩ : D.Warp)) (i73.toNat) (⟨(rd (List.set xs74 (i73.toNat) (⟨i72, (rd xs74 i73).Frames, (rd xs74 i73).Regs⟩ : D.Warp)) i73).Number, r102.2, (rd (List.set xs74 (i73.toNat) (⟨i72, (rd xs74 i73).Frames, (rd xs74 i73).Regs⟩ : D.Warp)) i73).Regs⟩ : D.Warp)) (i73.toNat) (⟨(rd (List.set (List.set xs74 (i73.toNat) (⟨i72, (rd xs74 i73).Frames, (rd xs74 i73).Regs⟩ : D.Warp)) (i73.toNat) (⟨(rd (List.set xs74 (i73.toNat) (⟨i72, (rd xs74 i73).Frames, (rd xs74 i73).Regs⟩ : D.Warp)) i73).Number, r102.2, (rd (List.set xs74 (i73.toNat) (⟨i72, (rd xs74 i73).Frames, (rd xs74 i73).Regs⟩ : D.Warp)) i73).Regs⟩ : D.Warp)) i73).Number, (rd (List.set (List.set xs74 (i73.toNat) (⟨i72, (rd xs74 i73).Frames, (rd xs74 i73).Regs⟩ : D.Warp)) (i73.toNat) (⟨(rd (List.set xs74 (i73.toNat) (⟨i72, (rd xs74 i73).Frames, (rd xs74 i73).Regs⟩ : D.Warp)) i73).Number, r102.2, (rd (List.set xs74 (i73.toNat) (⟨i72, (rd xs74 i73).Frames, (rd xs74 i73).Regs⟩ : D.Warp)) i73).Regs⟩ : D.Warp)) i73).Frames, r120.2⟩ : D.Warp)), ()))))))) (Q (i72, xs74))) (x1, 0, xs0, ())
def wp.laws_markBlock (s0 : D.Block) (x1 : Int) (Q : (Int × (List D.Ins) × (List D.Warp) × (List Int)) → Prop) : Prop :=
 (M.laws_markInsS_pre s0.Code x1 ∧ ∀ r23, r23 = M.laws_markInsS s0.Code x1 → (M.laws_markWarpS_pre s0.Warps r23.1 ∧ ∀ r29, r29 = M.laws_markWarpS s0.Warps r23.1 → (M.laws_markIntS_pre s0.Memory r29.1 ∧ ∀ r35, r35 = M.laws_markIntS s0.Memory r29.1 → Q (r35.1, r23.2, r29.2, r35.2))))
end Go.V
namespace Go.V
open IntKind (wrap)
theorem joinP_of {σ : Type} {A : (σ → Prop) → Prop} {B : σ → Prop} (v : σ) (h : B v) (hA : ∀ J : σ → Prop, J v → A J) : JoinP A B := hA B h
theorem prog_short {p : List D.Ins} (h : M.programOk p = true) : p.length ≤ 32 := by
 simp only [M.programOk, Bool.and_eq_true, decide_eq_true_eq] at h
 exact h.1
theorem wp.laws_markFrameS.math (a : List D.Frame) (x : Int) (h : M.laws_markFrameS_pre a x) : wp.laws_markFrameS a x (fun r => r = M.laws_markFrameS a x) := by
 unfold wp.laws_markFrameS
 obtain ⟨⟨h1, h2⟩, h3⟩ := h
 unfold M.Few at h3
 let g : Nat → D.Frame := fun i => ⟨x + 3 * (i : Int), x + 3 * (i : Int) + 1, x + 3 * (i : Int) + 2⟩
 refine loop_n a.length (fun k => (x + 3 * k, (k : Int), mk g a k, ())) (fun _ => True) (by simp [mk_zero]) trivial (fun k hk hF next hn => ?_) fun hF next => ?_
 ·have hl := mk_len g a (Nat.le_of_lt hk)
  have e1 : wrap .i64 (x + 3 * (k : Int) + 1) = x + 3 * (k : Int) + 1 := w64 (by omega) (by omega)
  have e2 : wrap .i64 (x + 3 * (k : Int) + 1 + 1) = x + 3 * (k : Int) + 2 := by rw [w64 (by omega) (by omega)]; omega
  have e3 : wrap .i64 (x + 3 * (k : Int) + 2 + 1) = x + 3 * ((k + 1 : Nat) : Int) := by rw [w64 (by omega) (by omega)]; push_cast; omega
  have hs := mk_set g a hk
  refine bcase_t (by simp; omega) ?_
  simp only [e1, e2, e3, List.length_set, hl, Int.toNat_natCast, up64 hk (show a.length ≤ 9223372036854775807 by omega)]
  refine ⟨by omega, by omega, by omega, ?_⟩
  rw [show (⟨x + 3 * (k : Int), x + 3 * (k : Int) + 1, x + 3 * (k : Int) + 2⟩ : D.Frame) = g k from rfl, hs]
  exact hn trivial
 ·exact bcase_f (by simp) (by rw [mk_all]; rfl)
theorem wsz_pos (x : D.Warp) : 1 ≤ M.wsz x := by unfold M.wsz; omega
theorem wssz_nn : ∀ l : List D.Warp, 0 ≤ M.wssz l ∧ (l.length : Int) ≤ M.wssz l
 | [] => by simp [M.wssz]
 | x :: l => by
  have := wssz_nn l
  have := wsz_pos x
  simp only [M.wssz, List.length_cons]; omega
theorem wssz_app : ∀ (l m : List D.Warp), M.wssz (l ++ m) = M.wssz l + M.wssz m
 | [], m => by simp [M.wssz]
 | x :: l, m => by simp only [List.cons_append, M.wssz, wssz_app l m]; omega
theorem markWs_app : ∀ (l m : List D.Warp) (k : Int), M.markWs (l ++ m) k = M.markWs l k ++ M.markWs m (k + M.wssz l)
 | [], m, k => by simp [M.markWs, M.wssz]
 | x :: l, m, k => by
  simp only [List.cons_append, M.markWs, M.wssz, markWs_app l m]
  rw [show k + M.wsz x + M.wssz l = k + (M.wsz x + M.wssz l) by omega]
theorem markWs_len : ∀ (l : List D.Warp) (k : Int), (M.markWs l k).length = l.length
 | [], k => rfl
 | x :: l, k => by simp [M.markWs, markWs_len l]
theorem take_snoc {α : Type} [Inhabited α] {l : List α} {k : Nat} (hk : k < l.length) : l.take (k + 1) = l.take k ++ [rd l (k : Int)] := by
 rw [List.take_add_one, List.getElem?_eq_getElem hk, rd_nat hk]; rfl
theorem wssz_le {l : List D.Warp} {k : Nat} (hk : k < l.length) : M.wssz (l.take k) + M.wsz (rd l (k : Int)) ≤ M.wssz l := by
 have h : l.take (k + 1) ++ l.drop (k + 1) = l := List.take_append_drop _ _
 have h2 := congrArg M.wssz h
 rw [wssz_app, take_snoc hk, wssz_app] at h2
 have := (wssz_nn (l.drop (k + 1))).1
 simp only [M.wssz] at h2
 omega
theorem rd_app {α : Type} [Inhabited α] {l m : List α} {y : α} {k : Nat} (h : l.length = k) : rd (l ++ y :: m) (k : Int) = y := by
 subst h
 rw [rd_nat (by simp)]; simp
theorem set_app {α : Type} {l m : List α} {y z : α} {k : Nat} (h : l.length = k) : (l ++ y :: m).set k z = l ++ z :: m := by
 subst h; simp
theorem wp.laws_markWarpS.math (a : List D.Warp) (x : Int) (h : M.laws_markWarpS_pre a x) : wp.laws_markWarpS a x (fun r => r = M.laws_markWarpS a x) := by
 unfold wp.laws_markWarpS
 obtain ⟨h0, h1⟩ := h
 have hlen := (wssz_nn a).2
 refine loop_n a.length (fun k => (x + M.wssz (a.take k), (k : Int), M.markWs (a.take k) x ++ a.drop k, ())) (fun _ => True) (by simp [M.wssz, M.markWs]) trivial (fun k hk hF next hn => ?_) fun hF next => ?_
 ·have hle := wssz_le hk
  have hnn := (wssz_nn (a.take k)).1
  have hl : (M.markWs (a.take k) x).length = k := by rw [markWs_len]; simp; omega
  have hd : a.drop k = rd a (k : Int) :: a.drop (k + 1) := by rw [List.drop_eq_getElem_cons hk, rd_nat hk]
  have hn := hn trivial
  rw [take_snoc hk, wssz_app, markWs_app] at hn
  rw [hd]
  refine bcase_t (by simp; omega) ?_
  simp only [Int.toNat_natCast, set_app hl, rd_app hl]
  generalize rd a (k : Int) = y at *
  generalize a.drop (k + 1) = d at *
  simp only [M.wsz] at hle
  have hbase : M.markWs (a.take k) x ++ [M.markW y (x + M.wssz (a.take k))] ++ d = M.markWs (a.take k) x ++ M.markW y (x + M.wssz (a.take k)) :: d := by simp
  simp only [M.markWs, M.wssz] at hn
  rw [hbase] at hn
  have hL : ∀ z : D.Warp, 0 ≤ (k : Int) ∧ (k : Int) < ((M.markWs (a.take k) x ++ z :: d).length : Int) := fun z => by simp [hl]; omega
  refine ⟨hL _, hL _, ?_⟩
  rw [w64 (x := x + M.wssz (a.take k) + 1) (by omega) (by omega)]
  refine ⟨⟨⟨by omega, by omega⟩, by unfold M.Few; omega⟩, fun r hr => ⟨hL _, ?_⟩⟩
  have hr1 : r.1 = x + M.wssz (a.take k) + 1 + 3 * y.Frames.length := by rw [hr]; rfl
  have hr2 : r.2 = M.seqFrame (x + M.wssz (a.take k) + 1) y.Frames.length := by rw [hr]; rfl
  refine ⟨⟨⟨by omega, by omega⟩, by unfold M.Few; omega⟩, fun r' hr' => ?_⟩
  have hr1' : r'.1 = x + (M.wssz (a.take k) + (M.wsz y + 0)) := by rw [hr', hr1]; simp only [M.laws_markIntS, M.wsz]; omega
  have hr2' : r'.2 = M.seqInt (x + M.wssz (a.take k) + 1 + 3 * y.Frames.length) y.Regs.length := by rw [hr', hr1]; rfl
  rw [hr1', hr2', hr2, up64 hk (by omega)]
  exact hn
 ·refine bcase_f (by simp) ?_
  rw [List.take_length, List.drop_length, List.append_nil]; rfl
theorem wp.laws_markBlock.math (b : D.Block) (x : Int) (h : M.laws_markBlock_pre b x) : wp.laws_markBlock b x (fun r => r = M.laws_markBlock b x) := by
 obtain ⟨h0, h1⟩ := h
 have := wssz_nn b.Warps
 simp only [M.bsz] at h1
 refine ⟨⟨⟨by omega, by omega⟩, by unfold M.Few; omega⟩, fun r hr => ?_⟩
 subst hr
 refine ⟨⟨by simp only [M.laws_markInsS]; omega, by simp only [M.laws_markInsS]; omega⟩, fun r hr => ?_⟩
 subst hr
 refine ⟨⟨⟨by simp only [M.laws_markInsS, M.laws_markWarpS]; omega, by simp only [M.laws_markInsS, M.laws_markWarpS]; omega⟩, by unfold M.Few; omega⟩, fun r hr => ?_⟩
 subst hr
 simp only [M.laws_markInsS, M.laws_markWarpS, M.laws_markIntS, M.laws_markBlock, M.markB, M.bsz]
 rw [show x + 4 * (b.Code.length : Int) + M.wssz b.Warps + (b.Memory.length : Int) = x + (4 * (b.Code.length : Int) + M.wssz b.Warps + (b.Memory.length : Int)) by omega]
theorem wssz_bound : ∀ (l : List D.Warp), (∀ x ∈ l, M.WSmall x) → M.wssz l ≤ 8388609 * l.length
 | [], h => by simp [M.wssz]
 | x :: l, h => by
  have h1 := wssz_bound l fun y hy => h y (List.mem_cons_of_mem _ hy)
  have h2 := h x List.mem_cons_self
  unfold M.WSmall at h2
  simp only [M.wssz, M.wsz, List.length_cons]; omega
theorem bsz_bound {b : D.Block} (h : M.BSmall b) : 0 ≤ M.bsz b ∧ M.bsz b ≤ 17592190238720 + 10485760 + 2097152 := by
 obtain ⟨h1, ⟨h2, hW⟩, h3⟩ := h
 have := wssz_bound _ hW
 have := (wssz_nn b.Warps).1
 unfold M.bsz
 omega
end Go.V
namespace Go.V
open IntKind (wrap)
def wp.spec_ActiveMask (s0 : D.Warp) (Q : Int → Prop) : Prop :=
 bcase ((s0.Frames.length : Int) == 0) (Q 0) (((0 ≤ (wrap .i64 ((s0.Frames.length : Int) - 1)) ∧ (wrap .i64 ((s0.Frames.length : Int) - 1)) < (s0.Frames.length : Int)) ∧ Q ((rd s0.Frames (wrap .i64 ((s0.Frames.length : Int) - 1))).Mask)))
def wp.spec_ZeroMask (s0 : D.Warp) (x1 : Int) (Q : Int → Prop) : Prop :=
 (∀ r23, r23 = M.spec_l04Reg x1 → bcase (!r23) (Q 0) (bcase ((s0.Regs.length : Int) != 32) (Q 0) (LoopP (σ := Int × Int × Unit) (fun (p63 : Int × Int × Unit) next33 => match p63 with | (i28, i29, _) => bcase (decide (i29 < 8)) ((M.spec_ActiveMask_pre s0 ∧ ∀ r35, r35 = M.spec_ActiveMask s0 → (∀ r40, r40 = M.spec_HasLane r35 i29 → bcase r40 (((0 ≤ (wrap .i64 ((wrap .i64 (i29 * 4)) + x1)) ∧ (wrap .i64 ((wrap .i64 (i29 * 4)) + x1)) < (s0.Regs.length : Int)) ∧ bcase ((rd s0.Regs (wrap .i64 ((wrap .i64 (i29 * 4)) + x1))) == 0) (((0 ≤ i29) ∧ next33 ((bitOr .i64 i28 (wrap .i64 (1 * 2 ^ (min (i29.toNat) (IntKind.bits .i64))))), (wrap .i64 (i29 + 1)), ()))) (next33 (i28, (wrap .i64 (i29 + 1)), ())))) (next33 (i28, (wrap .i64 (i29 + 1)), ()))))) (Q i28)) (0, 0, ()))))
def wp.spec_l13Splits (xs0 : List D.Ins) (s1 : D.Warp) (Q : Bool → Prop) : Prop :=
 ((0 ≤ (wrap .i64 ((s1.Frames.length : Int) - 1)) ∧ (wrap .i64 ((s1.Frames.length : Int) - 1)) < (s1.Frames.length : Int)) ∧ ((0 ≤ (rd s1.Frames (wrap .i64 ((s1.Frames.length : Int) - 1))).Pc ∧ (rd s1.Frames (wrap .i64 ((s1.Frames.length : Int) - 1))).Pc < (xs0.length : Int)) ∧ bcase ((rd xs0 ((rd s1.Frames (wrap .i64 ((s1.Frames.length : Int) - 1))).Pc)).Op != 10) (Q false) (((0 ≤ (rd s1.Frames (wrap .i64 ((s1.Frames.length : Int) - 1))).Pc ∧ (rd s1.Frames (wrap .i64 ((s1.Frames.length : Int) - 1))).Pc < (xs0.length : Int)) ∧ bcase ((rd xs0 ((rd s1.Frames (wrap .i64 ((s1.Frames.length : Int) - 1))).Pc)).B == (wrap .i64 ((rd s1.Frames (wrap .i64 ((s1.Frames.length : Int) - 1))).Pc + 1))) (Q false) (((0 ≤ (rd s1.Frames (wrap .i64 ((s1.Frames.length : Int) - 1))).Pc ∧ (rd s1.Frames (wrap .i64 ((s1.Frames.length : Int) - 1))).Pc < (xs0.length : Int)) ∧ (M.spec_ZeroMask_pre s1 ((rd xs0 ((rd s1.Frames (wrap .i64 ((s1.Frames.length : Int) - 1))).Pc)).A) ∧ ∀ r49, r49 = M.spec_ZeroMask s1 ((rd xs0 ((rd s1.Frames (wrap .i64 ((s1.Frames.length : Int) - 1))).Pc)).A) → bcase (r49 != 0) (Q (r49 != (rd s1.Frames (wrap .i64 ((s1.Frames.length : Int) - 1))).Mask)) (Q false))))))))
def wp.spec_l13Local (xs0 : List D.Ins) (s1 : D.Warp) (Q : Bool → Prop) : Prop :=
 bcase ((s1.Frames.length : Int) == 0) (Q false) (((0 ≤ (wrap .i64 ((s1.Frames.length : Int) - 1)) ∧ (wrap .i64 ((s1.Frames.length : Int) - 1)) < (s1.Frames.length : Int)) ∧ ((0 ≤ (rd s1.Frames (wrap .i64 ((s1.Frames.length : Int) - 1))).Pc ∧ (rd s1.Frames (wrap .i64 ((s1.Frames.length : Int) - 1))).Pc < (xs0.length : Int)) ∧ (∀ r33, r33 = M.spec_IsLocal (rd xs0 ((rd s1.Frames (wrap .i64 ((s1.Frames.length : Int) - 1))).Pc)) → bcase (!r33) (Q false) ((M.spec_l13Splits_pre xs0 s1 ∧ ∀ r38, r38 = M.spec_l13Splits xs0 s1 → bcase (!r38) (Q true) (Q (decide ((s1.Frames.length : Int) ≤ 22)))))))))
def wp.spec_l30Can (s0 : D.Block) (x1 : Int) (Q : Bool → Prop) : Prop :=
 ((0 ≤ x1 ∧ x1 < (s0.Warps.length : Int)) ∧ bcase (((rd s0.Warps x1).Frames.length : Int) == 0) (Q false) (((0 ≤ x1) ∧ bcase ((bitAnd .i64 (Int.fdiv s0.Waiting (2 ^ (min (x1.toNat) (IntKind.bits .i64)))) 1) == 1) (Q false) ((M.spec_l30Next_pre s0 x1 ∧ ∀ r44, r44 = M.spec_l30Next s0 x1 → (∀ r53, r53 = M.spec_IsLocal r44 → bcase r53 ((M.spec_l13Local_pre s0.Code (rd s0.Warps x1) ∧ ∀ r58, r58 = M.spec_l13Local s0.Code (rd s0.Warps x1) → Q r58)) (bcase (r44.Op != 16) (Q true) (Q (((rd s0.Warps x1).Frames.length : Int) == 1)))))))))
def wp.spec_CanStep (s0 : D.Block) (x1 : Int) (Q : Bool → Prop) : Prop :=
 (M.spec_l30Ok_pre s0 x1 ∧ ∀ r23, r23 = M.spec_l30Ok s0 x1 → bcase r23 ((M.spec_l30Can_pre s0 x1 ∧ ∀ r28, r28 = M.spec_l30Can s0 x1 → Q r28)) (Q false))
def wp.impl_ActiveMask (s0 : D.Warp) (Q : Int → Prop) : Prop :=
 bcase ((s0.Frames.length : Int) == 0) (Q 0) (((0 ≤ (wrap .i64 ((s0.Frames.length : Int) - 1)) ∧ (wrap .i64 ((s0.Frames.length : Int) - 1)) < (s0.Frames.length : Int)) ∧ Q ((rd s0.Frames (wrap .i64 ((s0.Frames.length : Int) - 1))).Mask)))
def wp.impl_Warp_zeroMask (s0 : D.Warp) (x1 : Int) (Q : Int → Prop) : Prop :=
 (M.impl_ActiveMask_pre s0 ∧ ∀ r23, r23 = M.impl_ActiveMask s0 → (∀ r28, r28 = M.impl_LanesOf r23 → LoopP (σ := Int × Int × Unit) (fun (p64 : Int × Int × Unit) next40 => match p64 with | (i35, i36, _) => bcase (decide (i36 < (r28.length : Int))) (((0 ≤ i36 ∧ i36 < (r28.length : Int)) ∧ (M.impl_Warp_lane_pre s0 (rd r28 i36) ∧ ((0 ≤ x1 ∧ x1 < ((List.drop ((wrap .i64 ((rd r28 i36) * 4)).toNat) (List.take ((wrap .i64 ((wrap .i64 ((rd r28 i36) + 1)) * 4)).toNat) s0.Regs)).length : Int)) ∧ bcase ((rd (List.drop ((wrap .i64 ((rd r28 i36) * 4)).toNat) (List.take ((wrap .i64 ((wrap .i64 ((rd r28 i36) + 1)) * 4)).toNat) s0.Regs)) x1) == 0) (((0 ≤ (rd r28 i36)) ∧ next40 ((bitOr .i64 i35 (wrap .i64 (1 * 2 ^ (min ((rd r28 i36).toNat) (IntKind.bits .i64))))), (wrap .i64 (i36 + 1)), ()))) (next40 (i35, (wrap .i64 (i36 + 1)), ())))))) (Q i35)) (0, 0, ())))
def wp.impl_Warp_splits (s0 : D.Warp) (xs1 : List D.Ins) (Q : Bool → Prop) : Prop :=
 ((0 ≤ (wrap .i64 ((s0.Frames.length : Int) - 1)) ∧ (wrap .i64 ((s0.Frames.length : Int) - 1)) < (s0.Frames.length : Int)) ∧ ((0 ≤ (rd s0.Frames (wrap .i64 ((s0.Frames.length : Int) - 1))).Pc ∧ (rd s0.Frames (wrap .i64 ((s0.Frames.length : Int) - 1))).Pc < (xs1.length : Int)) ∧ bcase ((rd xs1 ((rd s0.Frames (wrap .i64 ((s0.Frames.length : Int) - 1))).Pc)).Op != 10) (Q false) (((0 ≤ (rd s0.Frames (wrap .i64 ((s0.Frames.length : Int) - 1))).Pc ∧ (rd s0.Frames (wrap .i64 ((s0.Frames.length : Int) - 1))).Pc < (xs1.length : Int)) ∧ bcase ((rd xs1 ((rd s0.Frames (wrap .i64 ((s0.Frames.length : Int) - 1))).Pc)).B == (wrap .i64 ((rd s0.Frames (wrap .i64 ((s0.Frames.length : Int) - 1))).Pc + 1))) (Q false) (((0 ≤ (rd s0.Frames (wrap .i64 ((s0.Frames.length : Int) - 1))).Pc ∧ (rd s0.Frames (wrap .i64 ((s0.Frames.length : Int) - 1))).Pc < (xs1.length : Int)) ∧ (M.impl_Warp_zeroMask_pre s0 ((rd xs1 ((rd s0.Frames (wrap .i64 ((s0.Frames.length : Int) - 1))).Pc)).A) ∧ ∀ r44, r44 = M.impl_Warp_zeroMask s0 ((rd xs1 ((rd s0.Frames (wrap .i64 ((s0.Frames.length : Int) - 1))).Pc)).A) → bcase (r44 != 0) ((M.impl_ActiveMask_pre s0 ∧ ∀ r49, r49 = M.impl_ActiveMask s0 → Q (r44 != r49))) (Q false))))))))
def wp.impl_Block_canStep (s0 : D.Block) (x1 : Int) (Q : Bool → Prop) : Prop :=
 (M.impl_Block_nextIns_pre s0 x1 ∧ ∀ r23, r23 = M.impl_Block_nextIns s0 x1 → JoinP (σ := Bool × Unit) (fun J33 => bcase (!r23.2) (J33 (true, ())) ((M.impl_Block_waits_pre s0 x1 ∧ ∀ r36, r36 = M.impl_Block_waits s0 x1 → J33 (r36, ())))) (fun (p126 : Bool × Unit) => match p126 with | (b32, _) => bcase b32 (Q false) (bcase (r23.1.Op == 16) (((0 ≤ x1 ∧ x1 < (s0.Warps.length : Int)) ∧ Q (((rd s0.Warps x1).Frames.length : Int) == 1))) ((∀ r58, r58 = M.impl_IsLocal r23.1 → bcase r58 (((0 ≤ x1 ∧ x1 < (s0.Warps.length : Int)) ∧ (M.impl_Warp_splits_pre (rd s0.Warps x1) s0.Code ∧ ∀ r101, r101 = M.impl_Warp_splits (rd s0.Warps x1) s0.Code → bcase (!r101) (Q true) (((0 ≤ x1 ∧ x1 < (s0.Warps.length : Int)) ∧ Q (decide ((wrap .i64 (((rd s0.Warps x1).Frames.length : Int) + 2)) ≤ 24))))))) (Q true))))))
def wp.impl_CanStep (s0 : D.Block) (x1 : Int) (Q : Bool → Prop) : Prop :=
 (M.impl_hasWarp_pre s0 x1 ∧ ∀ r23, r23 = M.impl_hasWarp s0 x1 → bcase r23 ((M.impl_Block_canStep_pre s0 x1 ∧ ∀ r28, r28 = M.impl_Block_canStep s0 x1 → Q r28)) (Q false))
end Go.V
namespace Go.V
open IntKind (wrap)
theorem activeMask_wp {x : D.Warp} (h : M.Long x.Frames) {Q : Int → Prop} (hQ : Q (M.activeMask x)) : bcase ((x.Frames.length : Int) == 0) (Q 0) (((0 ≤ (wrap .i64 ((x.Frames.length : Int) - 1)) ∧ (wrap .i64 ((x.Frames.length : Int) - 1)) < (x.Frames.length : Int)) ∧ Q ((rd x.Frames (wrap .i64 ((x.Frames.length : Int) - 1))).Mask))) := by
 rw [empty_len0]
 refine bcase_mk (fun e => ?_) fun e => ?_
 ·unfold M.activeMask at hQ; rw [if_pos e] at hQ; exact hQ
 ·have hx : x.Frames ≠ [] := by simpa using e
  have hpos : 0 < x.Frames.length := List.length_pos_iff.2 hx
  rw [last_wrap h]
  unfold M.activeMask at hQ
  rw [if_neg (by rw [e]; simp)] at hQ
  exact ⟨by omega, hQ⟩
theorem wp.spec_ActiveMask.math (x : D.Warp) (h : M.spec_ActiveMask_pre x) : wp.spec_ActiveMask x (fun r => r = M.spec_ActiveMask x) := activeMask_wp (Q := fun r => r = M.activeMask x) h rfl
theorem wp.impl_ActiveMask.math (x : D.Warp) (h : M.impl_ActiveMask_pre x) : wp.impl_ActiveMask x (fun r => r = M.impl_ActiveMask x) := activeMask_wp (Q := fun r => r = M.activeMask x) h rfl
theorem zeroMask_range (x : D.Warp) (reg : Int) : M.zeroMask x reg = (List.range 8).foldl (fun m (k : Nat) => if M.hasLane (M.activeMask x) (k : Int) = true then M.zeroStep x reg m (k : Int) else m) 0 := by
 unfold M.zeroMask M.lanesOf
 rw [List.foldl_filter]
 rfl
theorem reg_in {reg k : Int} (hr : M.isReg reg = true) (h0 : 0 ≤ k) (h7 : k ≤ 7) : 0 ≤ k * 4 + reg ∧ k * 4 + reg < 32 := by rw [isReg_iff] at hr; omega
theorem wp.spec_ZeroMask.math (x : D.Warp) (reg : Int) (h : M.spec_ZeroMask_pre x reg) : wp.spec_ZeroMask x reg (fun r => r = M.spec_ZeroMask x reg) := by
 unfold wp.spec_ZeroMask
 simp only [lenB]
 refine fun r hr => bcase_mk (fun e => ?_) fun e => bcase_mk (fun e2 => ?_) fun e2 => ?_
 all_goals simp only [M.spec_l04Reg] at hr
 ·simp [M.spec_ZeroMask, nt e hr]
 ·have : (x.Regs.length == 32) = false := by simpa using e2
  simp [M.spec_ZeroMask, this]
 have hreg := nf e hr
 have h32 : (x.Regs.length == 32) = true := by simpa using e2
 have h32' : x.Regs.length = 32 := by simpa using h32
 have hM : M.spec_ZeroMask x reg = M.zeroMask x reg := by simp [M.spec_ZeroMask, hreg, h32]
 rw [hM, zeroMask_range]
 let F : Nat → Int := fun k => (List.range k).foldl (fun m (k : Nat) => if M.hasLane (M.activeMask x) (k : Int) = true then M.zeroStep x reg m (k : Int) else m) 0
 have hF : ∀ k, F (k + 1) = if M.hasLane (M.activeMask x) (k : Int) = true then M.zeroStep x reg (F k) (k : Int) else F k := fun k => by simp [F, List.range_succ]
 refine loop_n 8 (fun k => (F k, (k : Int), ())) (fun _ => True) rfl trivial (fun k hk _ next hn => ?_) fun _ next => bcase_f (by simp) rfl
 have hn := hn trivial
 rw [hF] at hn
 have hw : wrap .i64 (wrap .i64 ((k : Int) * 4) + reg) = (k : Int) * 4 + reg := by
  have := reg_in hreg (k := (k : Int)) (by omega) (by omega)
  rw [w64 (x := (k : Int) * 4) (by omega) (by omega), w64 (by omega) (by omega)]
 have hin := reg_in hreg (k := (k : Int)) (by omega) (by omega)
 refine bcase_t (by simp; omega) ⟨h, fun r2 hr2 r3 hr3 => bcase_mk (fun e3 => ?_) fun e3 => ?_⟩
 all_goals simp only [M.spec_ActiveMask] at hr2
 all_goals simp only [M.spec_HasLane, hr2] at hr3
 ·rw [hw, h32']
  rw [if_pos (hr3.symm.trans e3)] at hn
  refine ⟨⟨hin.1, by omega⟩, bcase_mk (fun e4 => ⟨Int.natCast_nonneg k, ?_⟩) fun e4 => ?_⟩
  ·have e4 : rd x.Regs ((k : Int) * 4 + reg) = 0 := by simpa using e4
   unfold M.zeroStep at hn
   rw [if_pos e4] at hn
   rw [up64 (n := 8) hk (by omega)]; exact hn
  ·have e4 : ¬ rd x.Regs ((k : Int) * 4 + reg) = 0 := by simpa using e4
   unfold M.zeroStep at hn
   rw [if_neg e4] at hn
   rw [up64 (n := 8) hk (by omega)]; exact hn
 ·have e3 : ¬ M.hasLane (M.activeMask x) (k : Int) = true := by rw [← hr3, e3]; simp
  rw [if_neg e3] at hn
  rw [up64 (n := 8) hk (by omega)]; exact hn
theorem lanes_in {m l : Int} (h : l ∈ M.lanesOf m) : 0 ≤ l ∧ l ≤ 7 := by
 have := (List.mem_filter.1 h).1
 simp only [List.mem_cons, List.not_mem_nil, or_false] at this
 omega
theorem lanes_len (m : Int) : (M.lanesOf m).length ≤ 8 := by
 have := List.length_filter_le (M.hasLane m) [0, 1, 2, 3, 4, 5, 6, 7]
 exact this
theorem rd_cut {α : Type} [Inhabited α] {l : List α} {a b : Nat} {i : Int} (h0 : 0 ≤ i) (hi : a + i.toNat < b) (hb : b ≤ l.length) : rd ((l.take b).drop a) i = rd l ((a : Int) + i) := by
 have e : ((a : Int) + i).toNat = a + i.toNat := by omega
 unfold rd
 rw [e, List.getD_eq_getElem?_getD, List.getD_eq_getElem?_getD, List.getElem?_drop, List.getElem?_take, if_pos hi]
theorem wp.impl_Warp_zeroMask.math (x : D.Warp) (reg : Int) (h : M.impl_Warp_zeroMask_pre x reg) : wp.impl_Warp_zeroMask x reg (fun r => r = M.impl_Warp_zeroMask x reg) := by
 obtain ⟨h1, h32, hreg⟩ := h
 refine ⟨h1, fun r hr r2 hr2 => ?_⟩
 have hr2' : r2 = M.lanesOf (M.activeMask x) := by rw [hr2, hr]; rfl
 show LoopP _ _
 have hl := lanes_len (M.activeMask x)
 have hmem : ∀ k : Nat, k < r2.length → 0 ≤ rd r2 (k : Int) ∧ rd r2 (k : Int) ≤ 7 := fun k hk => lanes_in (m := M.activeMask x) (by rw [← hr2']; exact rd_mem hk)
 have hM : M.impl_Warp_zeroMask x reg = r2.foldl (M.zeroStep x reg) 0 := by rw [hr2']; rfl
 rw [hM]
 have hlen : r2.length ≤ 8 := by rw [hr2']; exact hl
 clear hr2 hr2' hM
 refine loop_n r2.length (fun k => ((r2.take k).foldl (M.zeroStep x reg) 0, (k : Int), ())) (fun _ => True) rfl trivial (fun k hk _ next hn => ?_) fun _ next => bcase_f (by simp) (by rw [List.take_length])
 have hn := hn trivial
 rw [List.take_add_one, List.getElem?_eq_getElem hk, Option.toList_some, List.foldl_append, ← rd_nat hk] at hn
 simp only [List.foldl_cons, List.foldl_nil] at hn
 have hm := hmem k hk
 dsimp only
 generalize rd r2 (k : Int) = l at *
 have hin := reg_in hreg hm.1 hm.2
 rw [isReg_iff] at hreg
 have a1 : wrap .i64 (l * 4) = l * 4 := w64 (by omega) (by omega)
 have a2 : wrap .i64 ((wrap .i64 (l + 1)) * 4) = l * 4 + 4 := by rw [w64 (x := l + 1) (by omega) (by omega), w64 (by omega) (by omega)]; omega
 rw [a1, a2]
 have hc : rd ((x.Regs.take (l * 4 + 4).toNat).drop (l * 4).toNat) reg = rd x.Regs (l * 4 + reg) := by
  rw [rd_cut hreg.1 (by omega) (by omega)]
  congr 1; omega
 rw [hc, up64 hk (by omega)]
 refine bcase_t (by simp; omega) ⟨by omega, ⟨h32, hm⟩, ⟨by omega, by simp; omega⟩, bcase_mk (fun e => ⟨by omega, ?_⟩) fun e => ?_⟩
 ·have e : rd x.Regs (l * 4 + reg) = 0 := by simpa using e
  unfold M.zeroStep at hn
  rw [if_pos e] at hn
  exact hn
 ·have e : ¬ rd x.Regs (l * 4 + reg) = 0 := by simpa using e
  unfold M.zeroStep at hn
  rw [if_neg e] at hn
  exact hn
theorem runs_top {p : List D.Ins} {x : D.Warp} (h : M.Runs p x) : p.length ≤ 32 ∧ 0 < x.Frames.length ∧ x.Frames.length ≤ 24 ∧ x.Regs.length = 32 ∧ 0 ≤ M.topPc x ∧ M.topPc x < (p.length : Int) ∧ M.insOk (M.topIns p x) p.length = true ∧ 0 ≤ x.Number ∧ x.Number ≤ 2 := by
 obtain ⟨hp, hw, hx⟩ := h
 obtain ⟨k1, k2, k3⟩ := frames_last hw hx
 have hp' := hp
 simp only [M.programOk, Bool.and_eq_true, decide_eq_true_eq, List.all_eq_true] at hp
 simp only [M.warpOf, Bool.and_eq_true, M.isIn, decide_eq_true_eq, beq_iff_eq] at hw
 exact ⟨hp.1, List.length_pos_iff.2 hx, k1, hw.2.1, k2, k3, hp.2 _ (rd_of k2 k3), hw.1.1, hw.1.2⟩
theorem zero_reg {i : D.Ins} {n : Int} (h : M.insOk i n = true) (e : i.Op = 10) : M.isReg i.A = true := by
 simp only [M.insOk, Bool.and_eq_true] at h
 have h := h.2
 rw [if_neg (by omega), if_neg (by omega), if_neg (by omega), if_neg (by omega), if_pos e] at h
 simp only [Bool.and_eq_true] at h
 exact h.1
theorem activeMask_top {x : D.Warp} (h : x.Frames ≠ []) : M.activeMask x = (M.lastF x.Frames).Mask := by
 unfold M.activeMask
 rw [if_neg (by simpa using h)]
theorem wp.spec_l13Splits.math (p : List D.Ins) (x : D.Warp) (h : M.spec_l13Splits_pre p x) : wp.spec_l13Splits p x (fun r => r = M.spec_l13Splits p x) := by
 obtain ⟨t1, t2, t3, t4, t5, t6, t7, _⟩ := runs_top h
 unfold wp.spec_l13Splits
 rw [last_wrap (by omega)]
 change (_ ∧ _) ∧ (0 ≤ M.topPc x ∧ M.topPc x < _) ∧ bcase ((M.topIns p x).Op != 10) _ ((0 ≤ M.topPc x ∧ M.topPc x < _) ∧ bcase ((M.topIns p x).B == wrap .i64 (M.topPc x + 1)) _ ((0 ≤ M.topPc x ∧ M.topPc x < _) ∧ (M.spec_ZeroMask_pre x (M.topIns p x).A ∧ ∀ r, r = M.spec_ZeroMask x (M.topIns p x).A → bcase (r != 0) ((r != (M.lastF x.Frames).Mask) = _) _)))
 rw [w64 (x := M.topPc x + 1) (by omega) (by omega)]
 refine ⟨by omega, ⟨t5, t6⟩, bcase_mk (fun e => ?_) fun e => ⟨⟨t5, t6⟩, bcase_mk (fun e2 => ?_) fun e2 => ⟨⟨t5, t6⟩, by show x.Frames.length ≤ 9223372036854775807; omega, fun r hr => bcase_mk (fun e3 => ?_) fun e3 => ?_⟩⟩⟩
 ·have e : ¬ (M.topIns p x).Op = 10 := by simpa using e
  simp [M.spec_l13Splits, M.splits, e]
 ·have e2 : (M.topIns p x).B = M.topPc x + 1 := by simpa using e2
  simp [M.spec_l13Splits, M.splits, e2]
 all_goals
  have e : (M.topIns p x).Op = 10 := by simpa using e
  have e2 : ¬ (M.topIns p x).B = M.topPc x + 1 := by simpa using e2
  have hz : r = M.zeroMask x (M.topIns p x).A := by
   rw [hr]
   simp [M.spec_ZeroMask, zero_reg t7 e, t4]
  rw [hz] at e3
  try rw [hz]
 ·simp only [M.spec_l13Splits, M.splits, e, e3, Bool.true_and]
  have : ((M.topIns p x).B != M.topPc x + 1) = true := by simpa using e2
  rw [this]; rfl
 ·simp only [M.spec_l13Splits, M.splits, e3, Bool.false_and, Bool.and_false]
theorem wp.impl_Warp_splits.math (x : D.Warp) (p : List D.Ins) (h : M.impl_Warp_splits_pre x p) : wp.impl_Warp_splits x p (fun r => r = M.impl_Warp_splits x p) := by
 obtain ⟨t1, t2, t3, t4, t5, t6, t7, _⟩ := runs_top h
 have hL : M.Long x.Frames := by unfold M.Long; omega
 unfold wp.impl_Warp_splits
 rw [last_wrap (by omega)]
 change (_ ∧ _) ∧ (0 ≤ M.topPc x ∧ M.topPc x < _) ∧ bcase ((M.topIns p x).Op != 10) _ ((0 ≤ M.topPc x ∧ M.topPc x < _) ∧ bcase ((M.topIns p x).B == wrap .i64 (M.topPc x + 1)) _ ((0 ≤ M.topPc x ∧ M.topPc x < _) ∧ (M.impl_Warp_zeroMask_pre x (M.topIns p x).A ∧ ∀ r, r = M.impl_Warp_zeroMask x (M.topIns p x).A → bcase (r != 0) (M.impl_ActiveMask_pre x ∧ ∀ r49, r49 = M.impl_ActiveMask x → (r != r49) = _) _)))
 rw [w64 (x := M.topPc x + 1) (by omega) (by omega)]
 refine ⟨by omega, ⟨t5, t6⟩, bcase_mk (fun e => ?_) fun e => ⟨⟨t5, t6⟩, bcase_mk (fun e2 => ?_) fun e2 => ⟨⟨t5, t6⟩, ⟨hL, t4, zero_reg t7 (by simpa using e)⟩, fun r hr => bcase_mk (fun e3 => ⟨hL, fun r4 hr4 => ?_⟩) fun e3 => ?_⟩⟩⟩
 ·have e : ¬ (M.topIns p x).Op = 10 := by simpa using e
  simp [M.impl_Warp_splits, M.splits, e]
 ·have e2 : (M.topIns p x).B = M.topPc x + 1 := by simpa using e2
  simp [M.impl_Warp_splits, M.splits, e2]
 all_goals
  have e : (M.topIns p x).Op = 10 := by simpa using e
  have e2 : ¬ (M.topIns p x).B = M.topPc x + 1 := by simpa using e2
  have hz : r = M.zeroMask x (M.topIns p x).A := hr
  rw [hz] at e3
  try rw [hz]
 ·have hr4' : r4 = (M.lastF x.Frames).Mask := by rw [hr4]; exact activeMask_top h.2.2
  rw [hr4']
  simp only [M.impl_Warp_splits, M.splits, e, e3, Bool.true_and]
  have : ((M.topIns p x).B != M.topPc x + 1) = true := by simpa using e2
  rw [this]; rfl
 ·simp only [M.impl_Warp_splits, M.splits, e3, Bool.false_and, Bool.and_false]
theorem wp.spec_l13Local.math (p : List D.Ins) (x : D.Warp) (h : M.spec_l13Local_pre p x) : wp.spec_l13Local p x (fun r => r = M.spec_l13Local p x) := by
 unfold wp.spec_l13Local
 rw [empty_len0]
 refine bcase_mk (fun e => ?_) fun e => ?_
 ·simp [M.spec_l13Local, e]
 have hx : x.Frames ≠ [] := by simpa using e
 obtain ⟨t1, t2, t3, t4, t5, t6, t7, _⟩ := runs_top ⟨h.1, h.2, hx⟩
 rw [last_wrap (by omega)]
 refine ⟨by omega, ⟨t5, t6⟩, fun r hr => bcase_mk (fun e2 => ?_) fun e2 => ⟨⟨h.1, h.2, hx⟩, fun r2 hr2 => bcase_mk (fun e3 => ?_) fun e3 => ?_⟩⟩
 all_goals have hr' : r = M.isLocal (M.topIns p x) := hr
 ·have := nt e2 hr'
  simp [M.spec_l13Local, this]
 ·have := nt e3 (show r2 = M.splits p x from hr2)
  simp [M.spec_l13Local, e, nf e2 hr', this]
 ·have := nf e3 (show r2 = M.splits p x from hr2)
  simp only [M.spec_l13Local, e, nf e2 hr', this, Bool.not_false, Bool.not_true, Bool.true_and, Bool.false_or]
  congr 1; exact propext (by omega)
theorem has_runs {b : D.Block} {w : Int} (h : M.Has b w) (hx : (rd b.Warps w).Frames ≠ []) : M.Runs b.Code (rd b.Warps w) := by
 obtain ⟨_, _, hp, hw, _⟩ := has_warp h
 exact ⟨hp, hw, hx⟩
theorem one_len {α : Type} {l : List α} : ((l.length : Int) == 1) = (l.length == 1) := by
 rw [Bool.eq_iff_iff]; simp; omega
theorem wp.spec_l30Can.math (b : D.Block) (w : Int) (h : M.spec_l30Can_pre b w) : wp.spec_l30Can b w (fun r => r = M.spec_l30Can b w) := by
 obtain ⟨h0, h1, hp, hw, hn, hok⟩ := has_warp h
 unfold wp.spec_l30Can
 rw [empty_len0, one_len]
 refine ⟨⟨h0, h1⟩, bcase_mk (fun e => ?_) fun e => ⟨h0, bcase_mk (fun e2 => ?_) fun e2 => ?_⟩⟩
 ·simp [M.spec_l30Can, M.canGo, e]
 ·have : M.waits b w = true := e2
  simp [M.spec_l30Can, M.canGo, this]
 have hx : (rd b.Warps w).Frames ≠ [] := by simpa using e
 have e2 : M.waits b w = false := e2
 refine ⟨⟨h, hx⟩, fun r hr r2 hr2 => bcase_mk (fun e3 => ⟨⟨hp, hw⟩, fun r3 hr3 => ?_⟩) fun e3 => bcase_mk (fun e4 => ?_) fun e4 => ?_⟩
 all_goals
  have hr' : r = M.topIns b.Code (rd b.Warps w) := hr
  have hr2' : r2 = M.isLocal (M.topIns b.Code (rd b.Warps w)) := by rw [hr2, hr']; rfl
 ·have hl := hr2'.symm.trans e3
  rw [hr3]
  simp only [M.spec_l13Local, M.spec_l30Can, M.canGo, e, e2, hl, if_true, Bool.not_false, Bool.true_and]
 ·have hl := hr2'.symm.trans e3
  rw [hr'] at e4
  simp [M.spec_l30Can, M.canGo, e, e2, hl, e4]
 ·have hl := hr2'.symm.trans e3
  rw [hr'] at e4
  simp [M.spec_l30Can, M.canGo, e, e2, hl, e4]
theorem wp.impl_Block_canStep.math (b : D.Block) (w : Int) (h : M.impl_Block_canStep_pre b w) : wp.impl_Block_canStep b w (fun r => r = M.impl_Block_canStep b w) := by
 obtain ⟨h0, h1, hp, hw, hn, hok⟩ := has_warp h
 refine ⟨h, fun r hr => ?_⟩
 by_cases e : (rd b.Warps w).Frames.isEmpty = true
 ·have hr' : r = (⟨0, 0, 0, 0⟩, false) := by rw [hr]; simp [M.impl_Block_nextIns, e]
  rw [hr']
  unfold JoinP
  refine bcase_t rfl (bcase_t rfl ?_)
  simp [M.impl_Block_canStep, M.canGo, e]
 have e : (rd b.Warps w).Frames.isEmpty = false := by simpa using e
 have hx : (rd b.Warps w).Frames ≠ [] := by simpa using e
 have hr' : r = (M.topIns b.Code (rd b.Warps w), true) := by
  rw [hr]; simp only [M.impl_Block_nextIns]; rw [if_neg (by rw [e]; simp)]; rfl
 have hruns := has_runs h hx
 obtain ⟨t1, t2, t3, t4, t5, t6, t7, _⟩ := runs_top hruns
 rw [hr']
 unfold JoinP
 refine bcase_f rfl ⟨h0, fun r2 hr2 => ?_⟩
 have hr2' : r2 = M.waits b w := hr2
 refine bcase_mk (fun e2 => ?_) fun e2 => bcase_mk (fun e3 => ?_) fun e3 => ?_
 ·have := hr2'.symm.trans e2
  simp [M.impl_Block_canStep, M.canGo, this]
 ·have e2 := hr2'.symm.trans e2
  have e3 : (M.topIns b.Code (rd b.Warps w)).Op = 16 := by simpa using e3
  have hl : M.isLocal (M.topIns b.Code (rd b.Warps w)) = false := by simp [M.isLocal, M.isIn, e3]
  refine ⟨⟨h0, h1⟩, ?_⟩
  rw [one_len]
  simp only [M.impl_Block_canStep, M.canGo, e, e2, hl, e3, Bool.not_false, Bool.true_and, bne_self_eq_false, Bool.false_or, Bool.false_eq_true, if_false]
 ·have e2 := hr2'.symm.trans e2
  have e3 : ¬ (M.topIns b.Code (rd b.Warps w)).Op = 16 := by simpa using e3
  intro r3 hr3
  refine bcase_mk (fun e4 => ⟨⟨h0, h1⟩, hruns, fun r4 hr4 => bcase_mk (fun e5 => ?_) fun e5 => ⟨⟨h0, h1⟩, ?_⟩⟩) fun e4 => ?_
  ·have e4 := (show r3 = M.isLocal (M.topIns b.Code (rd b.Warps w)) from hr3).symm.trans e4
   have := nt e5 (show r4 = M.splits b.Code (rd b.Warps w) from hr4)
   simp [M.impl_Block_canStep, M.canGo, e, e2, e4, this]
  ·have e4 := (show r3 = M.isLocal (M.topIns b.Code (rd b.Warps w)) from hr3).symm.trans e4
   have := nf e5 (show r4 = M.splits b.Code (rd b.Warps w) from hr4)
   rw [w64 (by omega) (by omega)]
   simp only [M.impl_Block_canStep, M.canGo, e, e2, e4, this, Bool.not_false, Bool.not_true, Bool.true_and, Bool.false_or, if_true]
   congr 1; exact propext (by omega)
  ·have e4 := (show r3 = M.isLocal (M.topIns b.Code (rd b.Warps w)) from hr3).symm.trans e4
   simp [M.impl_Block_canStep, M.canGo, e, e2, e4, e3]
theorem wp.spec_CanStep.math (b : D.Block) (w : Int) (h : M.spec_CanStep_pre b w) : wp.spec_CanStep b w (fun r => r = M.spec_CanStep b w) := by
 refine ⟨h, fun r hr => bcase_mk (fun e => ⟨⟨h, hr.symm.trans e⟩, fun r2 hr2 => ?_⟩) fun e => ?_⟩
 all_goals have hr' : r = M.hasWarp b w := hr
 ·rw [hr2]; simp [M.spec_CanStep, M.canStep, ← hr', e, M.spec_l30Can]
 ·simp [M.spec_CanStep, M.canStep, ← hr', e]
theorem wp.impl_CanStep.math (b : D.Block) (w : Int) (h : M.impl_CanStep_pre b w) : wp.impl_CanStep b w (fun r => r = M.impl_CanStep b w) := by
 refine ⟨h, fun r hr => bcase_mk (fun e => ⟨⟨h, hr.symm.trans e⟩, fun r2 hr2 => ?_⟩) fun e => ?_⟩
 all_goals have hr' : r = M.hasWarp b w := hr
 ·rw [hr2]; simp [M.impl_CanStep, M.canStep, ← hr', e, M.impl_Block_canStep]
 ·simp [M.impl_CanStep, M.canStep, ← hr', e]
theorem good_count {b : D.Block} (h : M.Good b) : 1 ≤ b.Warps.length ∧ b.Warps.length ≤ 3 := by
 have := h.2
 simp only [M.blockOk, Bool.and_eq_true, M.isIn, decide_eq_true_eq] at this
 omega
theorem good_has {b : D.Block} (h : M.Good b) {w : Int} (h0 : 0 ≤ w) (h1 : w < (b.Warps.length : Int)) : M.Has b w := by
 have hc := good_count h
 refine ⟨h.1, ?_⟩
 simp only [M.hasWarp, h.2, Bool.true_and, M.isIn, last_wrap (n := b.Warps.length) (by omega), Bool.and_eq_true, decide_eq_true_eq]
 omega
theorem tmod_in2 {x n : Int} (hx : 0 ≤ x) (hn : 0 < n) : 0 ≤ Int.tmod x n ∧ Int.tmod x n < n :=
 ⟨Int.tmod_nonneg _ hx, Int.tmod_lt_of_pos _ hn⟩
end Go.V
namespace Go.V
open IntKind (wrap)
def wp.spec_l04Put (xs0 : List Int) (x1 : Int) (Q : (List Int) → Prop) : Prop :=
 JoinP (σ := Int × Unit) (fun J22 => LoopP (σ := Int × Unit) (fun (p41 : Int × Unit) next29 => match p41 with | (i25, _) => bcase (decide (i25 > 0)) (((0 ≤ (wrap .i64 (i25 - 1)) ∧ (wrap .i64 (i25 - 1)) < (xs0.length : Int)) ∧ bcase (decide ((rd xs0 (wrap .i64 (i25 - 1))) > x1)) (next29 ((wrap .i64 (i25 - 1)), ())) (J22 (i25, ())))) (J22 (i25, ()))) ((xs0.length : Int), ())) (fun (p82 : Int × Unit) => match p82 with | (i21, _) => JoinP (σ := Unit) (fun J45 => bcase (decide (i21 > 0)) (((0 ≤ (wrap .i64 (i21 - 1)) ∧ (wrap .i64 (i21 - 1)) < (xs0.length : Int)) ∧ bcase ((rd xs0 (wrap .i64 (i21 - 1))) == x1) (Q xs0) (J45 (())))) (J45 (()))) (fun (p80 : Unit) => match p80 with | (_) => ((0 ≤ i21 ∧ i21 ≤ (xs0.length : Int)) ∧ ((([] : List Int).length + (List.take (i21.toNat) xs0).length ≤ 17179869184) ∧ (((([] : List Int) ++ (List.take (i21.toNat) xs0)).length + ([x1] : List Int).length ≤ 17179869184) ∧ ((0 ≤ i21 ∧ i21 ≤ (xs0.length : Int)) ∧ ((((([] : List Int) ++ (List.take (i21.toNat) xs0)) ++ ([x1] : List Int)).length + (List.drop (i21.toNat) xs0).length ≤ 17179869184) ∧ Q (((([] : List Int) ++ (List.take (i21.toNat) xs0)) ++ ([x1] : List Int)) ++ (List.drop (i21.toNat) xs0)))))))))
end Go.V
namespace Go.V
open IntKind (wrap)
theorem mem_idx {g : Int → Bool} {x : Int} : ∀ {n : Nat}, x ∈ M.idx g n ↔ ∃ k : Nat, k < n ∧ x = (k : Int) ∧ g x = true
 | 0 => by simp [M.idx]
 | n + 1 => by
  have ih := mem_idx (g := g) (x := x) (n := n)
  unfold M.idx
  constructor
  ·intro h
   split at h
   ·rename_i e
    rcases List.mem_append.1 h with h | h
    ·obtain ⟨k, hk, h1, h2⟩ := ih.1 h; exact ⟨k, by omega, h1, h2⟩
    ·obtain rfl := List.mem_singleton.1 h; exact ⟨n, by omega, rfl, e⟩
   ·obtain ⟨k, hk, h1, h2⟩ := ih.1 h; exact ⟨k, by omega, h1, h2⟩
  ·rintro ⟨k, hk, rfl, h2⟩
   by_cases hkn : k = n
   ·subst hkn; rw [if_pos h2]; simp
   ·have := ih.2 ⟨k, by omega, rfl, h2⟩
    split
    ·exact List.mem_append_left _ this
    ·exact this
theorem nodeOk {p : List D.Ins} (hp : M.programOk p = true) {k : Int} (h0 : 0 ≤ k) (h1 : k < (p.length : Int)) : M.insOk (rd p k) p.length = true := by
 simp only [M.programOk, Bool.and_eq_true, decide_eq_true_eq, List.all_eq_true] at hp
 exact hp.2 _ (rd_of h0 h1)
theorem progLen {p : List D.Ins} (hp : M.programOk p = true) : p.length ≤ 32 := by
 simp only [M.programOk, Bool.and_eq_true, decide_eq_true_eq] at hp
 exact hp.1
theorem target_in {i : D.Ins} {n : Int} (h : M.insOk i n = true) (e : i.Op = 10 ∨ i.Op = 11) : 0 ≤ i.B ∧ i.B ≤ n := by
 simp only [M.insOk, Bool.and_eq_true] at h
 have h := h.2
 rcases e with e | e
 ·rw [if_neg (by omega), if_neg (by omega), if_neg (by omega), if_neg (by omega), if_pos e] at h
  simp only [Bool.and_eq_true, M.isIn, decide_eq_true_eq] at h
  exact h.2.1
 ·rw [if_neg (by omega), if_neg (by omega), if_neg (by omega), if_neg (by omega), if_neg (by omega), if_pos e] at h
  simp only [Bool.and_eq_true, M.isIn, decide_eq_true_eq] at h
  exact h.2.1
theorem putTwo_mem {a b x : Int} : x ∈ M.putTwo a b ↔ x = a ∨ x = b := by
 unfold M.putTwo
 split
 ·simp [or_comm]
 split
 ·rename_i h1 h2; subst h2; simp
 ·simp
theorem putTwo_len (a b : Int) : (M.putTwo a b).length ≤ 2 := by
 unfold M.putTwo
 (repeat' split) <;> simp
theorem next_ok {p : List D.Ins} {k : Int} (h : M.Node p k) : (∀ x ∈ M.nextOf p k, M.nodeIn p x) ∧ (M.nextOf p k).length ≤ 2 := by
 obtain ⟨hp, h0, h1⟩ := h
 unfold M.nextOf
 split
 ·exact ⟨fun x hx => absurd hx List.not_mem_nil, by simp⟩
 rename_i hne
 have hlt : k < (p.length : Int) := by omega
 have hi := nodeOk hp h0 hlt
 split
 ·exact ⟨fun x hx => by obtain rfl := List.mem_singleton.1 hx; exact ⟨by omega, by omega⟩, by simp⟩
 split
 ·rename_i e
  exact ⟨fun x hx => by obtain rfl := List.mem_singleton.1 hx; exact target_in hi (.inr e), by simp⟩
 split
 ·rename_i e
  refine ⟨fun x hx => ?_, putTwo_len _ _⟩
  rcases putTwo_mem.1 hx with rfl | rfl
  ·exact ⟨by omega, by omega⟩
  ·exact target_in hi (.inl e)
 ·exact ⟨fun x hx => by obtain rfl := List.mem_singleton.1 hx; exact ⟨by omega, by omega⟩, by simp⟩
def falses (l : List Bool) : Nat := l.count false
theorem falses_set : ∀ {l : List Bool} {k : Nat}, k < l.length → l[k]? = some false → falses (l.set k true) + 1 = falses l
 | [], k, hk, _ => absurd hk (by simp)
 | b :: l, 0, hk, h => by
  simp at h; subst h
  simp [falses]
 | b :: l, k + 1, hk, h => by
  have := falses_set (l := l) (k := k) (by simpa using hk) (by simpa using h)
  unfold falses at *
  simp only [List.set_cons_succ, List.count_cons]
  omega
theorem rdB {l : List Bool} {k : Int} (h0 : 0 ≤ k) (h1 : k < (l.length : Int)) : l[k.toNat]? = some (rd l k) := by
 have : k.toNat < l.length := by omega
 simp [rd, List.getD_eq_getElem?_getD, this]
theorem rd_setB {l : List Bool} {k j : Int} (h0 : 0 ≤ k) (h1 : k < (l.length : Int)) (hj : 0 ≤ j) : rd (l.set k.toNat true) j = if j = k then true else rd l j := by
 unfold rd
 rw [List.getD_eq_getElem?_getD, List.getD_eq_getElem?_getD, List.getElem?_set]
 by_cases e : j = k
 ·subst e
  have : j.toNat < l.length := by omega
  simp [this]
 ·have : ¬ k.toNat = j.toNat := by omega
  rw [if_neg this, if_neg e]
theorem seen0_len (n : Nat) : (List.replicate (n + 1) false).length = n + 1 := by simp
theorem seen0_falses (n : Nat) : falses (List.replicate (n + 1) false) = n + 1 := by simp [falses]
theorem seen0_rd (n : Nat) (k : Int) : rd (List.replicate (n + 1) false) k = false := by
 unfold rd
 rw [List.getD_eq_getElem?_getD, List.getElem?_replicate]
 split <;> rfl
inductive Rch (p : List D.Ins) (wo : Int) (frm : List Int) : Int → Prop
 | base {s : Int} : s ∈ frm → s ≠ wo → Rch p wo frm s
 | step {k s : Int} : Rch p wo frm k → s ∈ M.nextOf p k → s ≠ wo → Rch p wo frm s
theorem bfs_sound {p : List D.Ins} {wo : Int} {frm : List Int} : ∀ (f : Nat) (work : List Int) (seen : List Bool), (∀ x ∈ work, M.Node p x) → seen.length = p.length + 1 → (∀ x ∈ work, x = wo ∨ Rch p wo frm x) → (∀ x, 0 ≤ x → rd seen x = true → Rch p wo frm x) →
    ∀ x, 0 ≤ x → rd (M.bfs p wo f work seen) x = true → Rch p wo frm x
 | 0, _, _, _, _, _, h => h
 | f + 1, [], _, _, _, _, h => h
 | f + 1, k :: work, seen, hw, hl, hwr, h => by
  have hk := hw k List.mem_cons_self
  have hk2 := hk.2
  unfold M.nodeIn at hk2
  have hr : ∀ x ∈ work, M.Node p x := fun x hx => hw x (List.mem_cons_of_mem _ hx)
  have hwr' : ∀ x ∈ work, x = wo ∨ Rch p wo frm x := fun x hx => hwr x (List.mem_cons_of_mem _ hx)
  unfold M.bfs
  split
  ·exact bfs_sound f work seen hr hl hwr' h
  ·rename_i hc
   have hkR : Rch p wo frm k := (hwr k List.mem_cons_self).resolve_left fun e => hc (.inl e)
   refine bfs_sound f _ _ (fun x hx => (List.mem_append.1 hx).elim (hr x) fun h' => ⟨hk.1, (next_ok hk).1 x h'⟩) (by simpa using hl) (fun x hx => (List.mem_append.1 hx).elim (hwr' x) fun h' => ?_) fun x hx hs => ?_
   ·by_cases e : x = wo
    ·exact .inl e
    ·exact .inr (.step hkR h' e)
   ·rw [rd_setB hk2.1 (by omega) hx] at hs
    split at hs
    ·rename_i e; rw [e]; exact hkR
    ·exact h x hx hs
def Closed (p : List D.Ins) (wo : Int) (frm work : List Int) (seen : List Bool) : Prop :=
 (∀ s ∈ frm, s ≠ wo → rd seen s = true ∨ s ∈ work) ∧ ∀ k, M.nodeIn p k → rd seen k = true → ∀ s ∈ M.nextOf p k, s ≠ wo → rd seen s = true ∨ s ∈ work
theorem bfs_closed {p : List D.Ins} {wo : Int} {frm : List Int} : ∀ (f : Nat) (work : List Int) (seen : List Bool), (∀ x ∈ work, M.Node p x) → (∀ x ∈ frm, M.nodeIn p x) → seen.length = p.length + 1 → 3 * falses seen + work.length ≤ f → Closed p wo frm work seen → Closed p wo frm [] (M.bfs p wo f work seen)
 | 0, work, seen, _, _, _, hf, hc => by
  have : work = [] := List.eq_nil_of_length_eq_zero (by omega)
  subst this; exact hc
 | f + 1, [], seen, _, _, _, _, hc => hc
 | f + 1, k :: work, seen, hw, hfr, hl, hf, hc => by
  have hk := hw k List.mem_cons_self
  have hk2 := hk.2
  have hk3 := hk.2
  unfold M.nodeIn at hk2
  have hr : ∀ x ∈ work, M.Node p x := fun x hx => hw x (List.mem_cons_of_mem _ hx)
  simp only [List.length_cons] at hf
  obtain ⟨c1, c2⟩ := hc
  unfold M.bfs
  split
  ·rename_i hd
   have drop : ∀ s, s ≠ wo → (rd seen s = true ∨ s ∈ k :: work) → rd seen s = true ∨ s ∈ work := by
    intro s hs h
    rcases h with h | h
    ·exact .inl h
    rcases List.mem_cons.1 h with rfl | h
    ·exact .inl (hd.resolve_left hs)
    ·exact .inr h
   exact bfs_closed f work seen hr hfr hl (by omega) ⟨fun s hs hne => drop s hne (c1 s hs hne), fun j hj hsj s hs hne => drop s hne (c2 j hj hsj s hs hne)⟩
  ·rename_i hd
   have h2 : rd seen k = false := by simpa using fun e => hd (.inr e)
   have hfs := falses_set (l := seen) (k := k.toNat) (by omega) (by rw [rdB hk2.1 (by omega), h2])
   have hn := next_ok hk
   have up : ∀ s, M.nodeIn p s → (rd seen s = true ∨ s ∈ k :: work) → rd (seen.set k.toNat true) s = true ∨ s ∈ work ++ M.nextOf p k := by
    intro s hs h
    have hs2 := hs
    unfold M.nodeIn at hs2
    rw [rd_setB hk2.1 (by omega) hs2.1]
    rcases h with h | h
    ·left; split; rfl; exact h
    rcases List.mem_cons.1 h with rfl | h
    ·left; rw [if_pos rfl]
    ·exact .inr (List.mem_append_left _ h)
   refine bfs_closed f _ _ (fun x hx => (List.mem_append.1 hx).elim (hr x) fun h' => ⟨hk.1, hn.1 x h'⟩) hfr (by simpa using hl) (by simp only [List.length_append]; omega)
    ⟨fun s hs hne => up s (hfr s hs) (c1 s hs hne), fun j hj hsj s hs hne => ?_⟩
   have hj2 := hj
   unfold M.nodeIn at hj2
   rw [rd_setB hk2.1 (by omega) hj2.1] at hsj
   split at hsj
   ·rename_i e; subst e
    exact .inr (List.mem_append_right _ hs)
   ·exact up s ((next_ok ⟨hk.1, hj⟩).1 s hs) (c2 j hj hsj s hs hne)
theorem rch_node {p : List D.Ins} {wo : Int} {frm : List Int} (hp : M.programOk p = true) (hf : ∀ x ∈ frm, M.nodeIn p x) {x : Int} (h : Rch p wo frm x) : M.nodeIn p x := by
 induction h with
 | base h _ => exact hf _ h
 | step _ hs _ ih => exact (next_ok ⟨hp, ih⟩).1 _ hs
theorem reached_iff {p : List D.Ins} {wo : Int} {frm : List Int} (hp : M.programOk p = true) (hf : ∀ x ∈ frm, M.nodeIn p x) {x : Int} (hx : M.nodeIn p x) : rd (M.reached p frm wo) x = true ↔ Rch p wo frm x := by
 constructor
 ·intro h
  refine bfs_sound (frm := frm) _ frm _ (fun y hy => ⟨hp, hf y hy⟩) (seen0_len _) (fun y hy => ?_) (fun y _ hs => by rw [seen0_rd] at hs; cases hs) x hx.1 h
  by_cases e : y = wo
  ·exact .inl e
  ·exact .inr (.base hy e)
 ·intro h
  have hc := bfs_closed (p := p) (wo := wo) (frm := frm) (3 * (p.length + 1) + frm.length) frm (List.replicate (p.length + 1) false) (fun y hy => ⟨hp, hf y hy⟩) hf (seen0_len _) (by rw [seen0_falses]; omega)
   ⟨fun s hs _ => .inr hs, fun k _ hs => by rw [seen0_rd] at hs; cases hs⟩
  clear hx
  induction h with
  | base h hne => exact (hc.1 _ h hne).resolve_right List.not_mem_nil
  | step hk hs hne ih => exact (hc.2 _ (rch_node hp hf hk) ih _ hs hne).resolve_right List.not_mem_nil
theorem putAt_le (l : List Int) (n : Int) : ∀ k, M.putAt l n k ≤ k
 | 0 => Nat.le_refl _
 | k + 1 => by
  unfold M.putAt
  split
  ·have := putAt_le l n k; omega
  ·exact Nat.le_refl _
theorem joinP_of19 {σ : Type} {A : (σ → Prop) → Prop} {B : σ → Prop} (v : σ) (h : B v) (hA : ∀ J : σ → Prop, J v → A J) : JoinP A B := hA B h
theorem wp.spec_l04Put.math (l : List Int) (n : Int) (h : M.spec_l04Put_pre l n) : wp.spec_l04Put l n (fun r => r = M.spec_l04Put l n) := by
 have hl : l.length ≤ 17179869183 := h
 have hle := putAt_le l n l.length
 have wd : ∀ k : Nat, 0 < k → k ≤ l.length → wrap .i64 ((k : Int) - 1) = ((k - 1 : Nat) : Int) := fun k h0 hk => by rw [w64 (by omega) (by omega)]; omega
 refine joinP_of19 (((M.putAt l n l.length : Nat) : Int), ()) ?_ fun J hJ => ?_
 ·generalize hq : M.putAt l n l.length = q at *
  have hd : ((q : Int)).toNat = q := by simp
  have tail : ¬ (q > 0 ∧ rd l ((q : Int) - 1) = n) → (0 ≤ (q : Int) ∧ (q : Int) ≤ (l.length : Int)) ∧ (([] : List Int).length + (List.take ((q : Int).toNat) l).length ≤ 17179869184) ∧ ((([] : List Int) ++ List.take ((q : Int).toNat) l).length + ([n] : List Int).length ≤ 17179869184) ∧ (0 ≤ (q : Int) ∧ (q : Int) ≤ (l.length : Int)) ∧ (((([] : List Int) ++ List.take ((q : Int).toNat) l) ++ [n]).length + (List.drop ((q : Int).toNat) l).length ≤ 17179869184) ∧ ((([] : List Int) ++ List.take ((q : Int).toNat) l) ++ [n]) ++ List.drop ((q : Int).toNat) l = M.spec_l04Put l n := by
   intro hn
   rw [hd]
   refine ⟨by omega, by simp; omega, by simp; omega, by omega, by simp; omega, ?_⟩
   simp only [M.spec_l04Put, hq]
   rw [if_neg hn]; simp
  show JoinP (σ := Unit) _ _
  refine bcase_mk (fun e => ⟨?_, bcase_mk (fun e2 => ?_) fun e2 => ?_⟩) fun e => ?_
  ·have e : q > 0 := by simp at e; omega
   rw [wd q e hle]; omega
  ·have e : q > 0 := by simp at e; omega
   rw [wd q e hle] at e2
   have e2 : rd l ((q : Int) - 1) = n := by rw [show (q : Int) - 1 = ((q - 1 : Nat) : Int) by omega]; simpa using e2
   simp only [M.spec_l04Put, hq]
   rw [if_pos ⟨e, e2⟩]
  ·have e : q > 0 := by simp at e; omega
   rw [wd q e hle] at e2
   refine tail fun hh => ?_
   rw [show (q : Int) - 1 = ((q - 1 : Nat) : Int) by omega] at hh
   have := hh.2
   simp [this] at e2
  ·have e : ¬ q > 0 := by simp at e; omega
   exact tail fun hh => e hh.1
 ·refine ⟨fun m z => ∃ k : Nat, z = ((k : Int), ()) ∧ m = k ∧ k ≤ l.length ∧ M.putAt l n k = M.putAt l n l.length, ⟨l.length, l.length, rfl, rfl, Nat.le_refl _, rfl⟩, ?_⟩
  rintro k z ⟨_, rfl, rfl, hk, hput⟩
  refine bcase_mk (fun e => ⟨?_, bcase_mk (fun e2 => ?_) fun e2 => ?_⟩) fun e => ?_
  ·have e : k > 0 := by simp at e; omega
   rw [wd k e hk]; omega
  ·have e : k > 0 := by simp at e; omega
   rw [wd k e hk] at e2 ⊢
   refine ⟨k - 1, by omega, k - 1, rfl, rfl, by omega, ?_⟩
   rw [← hput]
   obtain ⟨j, rfl⟩ : ∃ j, k = j + 1 := ⟨k - 1, by omega⟩
   rw [M.putAt, if_pos (by simpa using e2)]; rfl
  ·have e : k > 0 := by simp at e; omega
   rw [wd k e hk] at e2
   obtain ⟨j, rfl⟩ : ∃ j, k = j + 1 := ⟨k - 1, by omega⟩
   rw [M.putAt, if_neg (by simpa using e2)] at hput
   rw [← hput] at hJ; exact hJ
  ·have e : k = 0 := by simp at e; omega
   subst e
   rw [← hput] at hJ; exact hJ
theorem isNode_iff {p : List D.Ins} {k : Int} : M.isNode p k = true ↔ M.Node p k := by
 simp only [M.isNode, M.Node, M.nodeIn, Bool.and_eq_true, M.isIn, decide_eq_true_eq]
theorem afters_nodes {p : List D.Ins} {k x : Int} (h : x ∈ M.others (M.aftersOf p k) k) : M.Node p x ∧ M.Node p k ∧ M.exitB p k = true ∧ M.afterB p k x = true := by
 have h := (List.mem_filter.1 h).1
 unfold M.aftersOf at h
 split at h
 ·rename_i e
  simp only [Bool.and_eq_true] at e
  have hN := isNode_iff.1 e.1
  obtain ⟨j, hj, rfl, hg⟩ := mem_idx.1 h
  exact ⟨⟨hN.1, by omega, by omega⟩, hN, e.2, hg⟩
 ·exact absurd h List.not_mem_nil
theorem br_in {p : List D.Ins} {b : Int} (h : M.Branch p b) : M.Node p (b + 1) ∧ M.Node p (rd p b).B ∧ M.Node p b ∧ b + 1 < 9223372036854775807 := by
 obtain ⟨hp, h0, h1, hb⟩ := h
 have h32 := progLen hp
 simp only [M.isBr, Bool.and_eq_true, beq_iff_eq] at hb
 have ht := target_in (nodeOk hp h0 h1) (.inl hb.1)
 exact ⟨⟨hp, by omega, by omega⟩, ⟨hp, ht⟩, ⟨hp, by omega, by omega⟩, by omega⟩
end Go.V
namespace Go.V
open IntKind (wrap)
def wp.cmp_isNaN_int (x0 : Int) (Q : Bool → Prop) : Prop :=
 Q (x0 != x0)
def wp.math_bits_Len64 (x0 : Int) (Q : Int → Prop) : Prop :=
 JoinP (σ := Int × Int × Unit) (fun J23 => bcase (decide (x0 ≥ 4294967296)) (J23 ((Int.fdiv x0 (2 ^ (min ((32 : Int).toNat) (IntKind.bits .u64)))), 32, ())) (J23 (x0, 0, ()))) (fun (p51 : Int × Int × Unit) => match p51 with | (i21, i22, _) => JoinP (σ := Int × Int × Unit) (fun J30 => bcase (decide (i21 ≥ 65536)) (J30 ((Int.fdiv i21 (2 ^ (min ((16 : Int).toNat) (IntKind.bits .u64)))), (wrap .i64 (i22 + 16)), ())) (J30 (i21, i22, ()))) (fun (p49 : Int × Int × Unit) => match p49 with | (i28, i29, _) => JoinP (σ := Int × Int × Unit) (fun J37 => bcase (decide (i28 ≥ 256)) (J37 ((Int.fdiv i28 (2 ^ (min ((8 : Int).toNat) (IntKind.bits .u64)))), (wrap .i64 (i29 + 8)), ())) (J37 (i28, i29, ()))) (fun (p47 : Int × Int × Unit) => match p47 with | (i35, i36, _) => ((0 ≤ IntKind.wrap .u8 i35 ∧ IntKind.wrap .u8 i35 < ((ByteArray.size (⟨#[0, 1, 2, 2, 3, 3, 3, 3, 4, 4, 4, 4, 4, 4, 4, 4, 5, 5, 5, 5, 5, 5, 5, 5, 5, 5, 5, 5, 5, 5, 5, 5, 6, 6, 6, 6, 6, 6, 6, 6, 6, 6, 6, 6, 6, 6, 6, 6, 6, 6, 6, 6, 6, 6, 6, 6, 6, 6, 6, 6, 6, 6, 6, 6, 7, 7, 7, 7, 7, 7, 7, 7, 7, 7, 7, 7, 7, 7, 7, 7, 7, 7, 7, 7, 7, 7, 7, 7, 7, 7, 7, 7, 7, 7, 7, 7, 7, 7, 7, 7, 7, 7, 7, 7, 7, 7, 7, 7, 7, 7, 7, 7, 7, 7, 7, 7, 7, 7, 7, 7, 7, 7, 7, 7, 7, 7, 7, 7, 8, 8, 8, 8, 8, 8, 8, 8, 8, 8, 8, 8, 8, 8, 8, 8, 8, 8, 8, 8, 8, 8, 8, 8, 8, 8, 8, 8, 8, 8, 8, 8, 8, 8, 8, 8, 8, 8, 8, 8, 8, 8, 8, 8, 8, 8, 8, 8, 8, 8, 8, 8, 8, 8, 8, 8, 8, 8, 8, 8, 8, 8, 8, 8, 8, 8, 8, 8, 8, 8, 8, 8, 8, 8, 8, 8, 8, 8, 8, 8, 8, 8, 8, 8, 8, 8, 8, 8, 8, 8, 8, 8, 8, 8, 8, 8, 8, 8, 8, 8, 8, 8, 8, 8, 8, 8, 8, 8, 8, 8, 8, 8, 8, 8, 8, 8, 8, 8, 8, 8, 8, 8, 8, 8, 8, 8, 8, 8]⟩) : Nat) : Int)) ∧ Q (wrap .i64 (i36 + (wrap .i64 (bt (⟨#[0, 1, 2, 2, 3, 3, 3, 3, 4, 4, 4, 4, 4, 4, 4, 4, 5, 5, 5, 5, 5, 5, 5, 5, 5, 5, 5, 5, 5, 5, 5, 5, 6, 6, 6, 6, 6, 6, 6, 6, 6, 6, 6, 6, 6, 6, 6, 6, 6, 6, 6, 6, 6, 6, 6, 6, 6, 6, 6, 6, 6, 6, 6, 6, 7, 7, 7, 7, 7, 7, 7, 7, 7, 7, 7, 7, 7, 7, 7, 7, 7, 7, 7, 7, 7, 7, 7, 7, 7, 7, 7, 7, 7, 7, 7, 7, 7, 7, 7, 7, 7, 7, 7, 7, 7, 7, 7, 7, 7, 7, 7, 7, 7, 7, 7, 7, 7, 7, 7, 7, 7, 7, 7, 7, 7, 7, 7, 7, 8, 8, 8, 8, 8, 8, 8, 8, 8, 8, 8, 8, 8, 8, 8, 8, 8, 8, 8, 8, 8, 8, 8, 8, 8, 8, 8, 8, 8, 8, 8, 8, 8, 8, 8, 8, 8, 8, 8, 8, 8, 8, 8, 8, 8, 8, 8, 8, 8, 8, 8, 8, 8, 8, 8, 8, 8, 8, 8, 8, 8, 8, 8, 8, 8, 8, 8, 8, 8, 8, 8, 8, 8, 8, 8, 8, 8, 8, 8, 8, 8, 8, 8, 8, 8, 8, 8, 8, 8, 8, 8, 8, 8, 8, 8, 8, 8, 8, 8, 8, 8, 8, 8, 8, 8, 8, 8, 8, 8, 8, 8, 8, 8, 8, 8, 8, 8, 8, 8, 8, 8, 8, 8, 8, 8, 8, 8, 8]⟩) (IntKind.wrap .u8 i35)))))))))
def wp.math_bits_Len (x0 : Int) (Q : Int → Prop) : Prop :=
 (M.math_bits_Len64_pre x0 ∧ ∀ r21, r21 = M.math_bits_Len64 x0 → Q r21)
end Go.V
namespace Go.V
open IntKind (wrap)
theorem wp.cmp_isNaN_int.math (x : Int) : wp.cmp_isNaN_int x (fun r => r = M.cmp_isNaN_int x) := by simp [wp.cmp_isNaN_int, M.cmp_isNaN_int]
set_option maxRecDepth 100000 in
theorem wp.math_bits_Len64.math (x : Int) (h : M.math_bits_Len64_pre x) : wp.math_bits_Len64 x (fun r => r = M.math_bits_Len64 x) := by
 obtain ⟨h0, h1⟩ := h
 have : x = 0 ∨ x = 1 ∨ x = 2 ∨ x = 3 ∨ x = 4 ∨ x = 5 ∨ x = 6 ∨ x = 7 ∨ x = 8 ∨ x = 9 ∨ x = 10 ∨ x = 11 ∨ x = 12 := by omega
 unfold wp.math_bits_Len64
 unfold JoinP
 rcases this with rfl | rfl | rfl | rfl | rfl | rfl | rfl | rfl | rfl | rfl | rfl | rfl | rfl
 all_goals
  refine bcase_f rfl (bcase_f rfl (bcase_f rfl ⟨by decide +kernel, ?_⟩))
  show _ = M.math_bits_Len64 _
  decide +kernel
theorem wp.math_bits_Len.math (x : Int) (h : M.math_bits_Len_pre x) : wp.math_bits_Len x (fun r => r = M.math_bits_Len x) := ⟨h, fun r hr => by rw [hr]; rfl⟩
end Go.V
namespace Go.V
open IntKind (wrap)
def wp.cmp_Compare_int (x0 : Int) (x1 : Int) (Q : Int → Prop) : Prop :=
 (∀ r21, r21 = M.cmp_isNaN_int x0 → (∀ r26, r26 = M.cmp_isNaN_int x1 → bcase r21 (bcase r26 (Q 0) (Q (-1))) (bcase r26 (Q 1) (bcase (decide (x0 < x1)) (Q (-1)) (bcase (decide (x0 > x1)) (Q 1) (Q 0))))))
def wp.impl_Block_accesses_1 (s0 : D.Access) (s1 : D.Access) (Q : Int → Prop) : Prop :=
 (M.cmp_Compare_int_pre s0.Address s1.Address ∧ ∀ r25, r25 = M.cmp_Compare_int s0.Address s1.Address → Q r25)
def wp.slices_insertionSortCmpFunc_impl_Access (xs0 : List D.Access) (x1 : Int) (x2 : Int) (g3 : D.Access → D.Access → Int) (D3 : D.Access → D.Access → Prop) (Q : ((List D.Access)) → Prop) : Prop :=
 LoopP (σ := Int × (List D.Access) × Unit) (fun (p299 : Int × (List D.Access) × Unit) next126 => match p299 with | (i120, xs121, _) => bcase (decide (i120 < x2)) (LoopP (σ := Int × (List D.Access) × Unit) (fun (p294 : Int × (List D.Access) × Unit) next204 => match p294 with | (i198, xs199, _) => JoinP (σ := Unit) (fun J206 => bcase (decide (i198 > x1)) (((0 ≤ i198 ∧ i198 < (xs199.length : Int)) ∧ ((0 ≤ (wrap .i64 (i198 - 1)) ∧ (wrap .i64 (i198 - 1)) < (xs199.length : Int)) ∧ (((D3 (rd xs199 i198) (rd xs199 (wrap .i64 (i198 - 1))) ∧ ∀ r219, r219 = g3 (rd xs199 i198) (rd xs199 (wrap .i64 (i198 - 1))) → bcase (decide (r219 < 0)) (J206 (())) (next126 ((wrap .i64 (i120 + 1)), xs199, ())))) ∧ ((D3 (rd xs199 i198) (rd xs199 (wrap .i64 (i198 - 1))) ∧ ∀ r228, r228 = g3 (rd xs199 i198) (rd xs199 (wrap .i64 (i198 - 1))) → bcase (decide (r228 < 0)) (J206 (())) (next126 ((wrap .i64 (i120 + 1)), xs199, ())))) ∧ True)))) (((next126 ((wrap .i64 (i120 + 1)), xs199, ())) ∧ (next126 ((wrap .i64 (i120 + 1)), xs199, ())) ∧ True))) (fun (p292 : Unit) => match p292 with | (_) => ((0 ≤ (wrap .i64 (i198 - 1)) ∧ (wrap .i64 (i198 - 1)) < (xs199.length : Int)) ∧ ((0 ≤ i198 ∧ i198 < (xs199.length : Int)) ∧ ((((0 ≤ i198 ∧ i198 < (xs199.length : Int)) ∧ ((0 ≤ (wrap .i64 (i198 - 1)) ∧ (wrap .i64 (i198 - 1)) < ((List.set xs199 (i198.toNat) (⟨(rd xs199 (wrap .i64 (i198 - 1))).Phase, (rd xs199 (wrap .i64 (i198 - 1))).Warp, (rd xs199 (wrap .i64 (i198 - 1))).Address, (rd xs199 (wrap .i64 (i198 - 1))).Kind⟩ : D.Access)).length : Int)) ∧ next204 ((wrap .i64 (i198 - 1)), (List.set (List.set xs199 (i198.toNat) (⟨(rd xs199 (wrap .i64 (i198 - 1))).Phase, (rd xs199 (wrap .i64 (i198 - 1))).Warp, (rd xs199 (wrap .i64 (i198 - 1))).Address, (rd xs199 (wrap .i64 (i198 - 1))).Kind⟩ : D.Access)) ((wrap .i64 (i198 - 1)).toNat) (⟨(rd xs199 i198).Phase, (rd xs199 i198).Warp, (rd xs199 i198).Address, (rd xs199 i198).Kind⟩ : D.Access)), ())))) ∧ (((0 ≤ i198 ∧ i198 < (xs199.length : Int)) ∧ ((0 ≤ (wrap .i64 (i198 - 1)) ∧ (wrap .i64 (i198 - 1)) < ((List.set xs199 (i198.toNat) (⟨(rd xs199 (wrap .i64 (i198 - 1))).Phase, (rd xs199 (wrap .i64 (i198 - 1))).Warp, (rd xs199 (wrap .i64 (i198 - 1))).Address, (rd xs199 (wrap .i64 (i198 - 1))).Kind⟩ : D.Access)).length : Int)) ∧ next204 ((wrap .i64 (i198 - 1)), (List.set (List.set xs199 (i198.toNat) (⟨(rd xs199 (wrap .i64 (i198 - 1))).Phase, (rd xs199 (wrap .i64 (i198 - 1))).Warp, (rd xs199 (wrap .i64 (i198 - 1))).Address, (rd xs199 (wrap .i64 (i198 - 1))).Kind⟩ : D.Access)) ((wrap .i64 (i198 - 1)).toNat) (⟨(rd xs199 i198).Phase, (rd xs199 i198).Warp, (rd xs199 i198).Address, (rd xs199 i198).Kind⟩ : D.Access)), ())))) ∧ True))))) (i120, xs121, ())) (Q xs121)) ((wrap .i64 (x1 + 1)), xs0, ())
def wp.slices_pdqsortCmpFunc_impl_Access (xs0 : List D.Access) (x1 : Int) (x2 : Int) (x3 : Int) (g4 : D.Access → D.Access → Int) (D4 : D.Access → D.Access → Prop) (Q : ((List D.Access)) → Prop) : Prop :=
 LoopP (σ := Int × Int × Int × Bool × Bool × Unit) (fun (p44 : Int × Int × Int × Bool × Bool × Unit) next29 => match p44 with | (i21, i22, i23, b24, b25, _) => bcase (decide ((wrap .i64 (i22 - i21)) ≤ 12)) ((M.slices_insertionSortCmpFunc_impl_Access_pre xs0 i21 i22 g4 D4 ∧ ∀ r31, r31 = M.slices_insertionSortCmpFunc_impl_Access xs0 i21 i22 g4 → Q r31)) (bcase (i23 == 0) (False) (False))) (x1, x2, x3, true, true, ())
def wp.slices_SortFunc_impl_Access_impl_Access (xs0 : List D.Access) (g1 : D.Access → D.Access → Int) (D1 : D.Access → D.Access → Prop) (Q : ((List D.Access)) → Prop) : Prop :=
 (M.math_bits_Len_pre (IntKind.wrap .u64 (xs0.length : Int)) ∧ ∀ r21, r21 = M.math_bits_Len (IntKind.wrap .u64 (xs0.length : Int)) → (M.slices_pdqsortCmpFunc_impl_Access_pre xs0 0 (xs0.length : Int) r21 g1 D1 ∧ ∀ r26, r26 = M.slices_pdqsortCmpFunc_impl_Access xs0 0 (xs0.length : Int) r21 g1 → Q r26))
end Go.V
namespace Go.V
open IntKind (wrap)
theorem wp.cmp_Compare_int.math (x y : Int) (h : M.cmp_Compare_int_pre x y) : wp.cmp_Compare_int x y (fun r => r = M.cmp_Compare_int x y) := by
 intro r1 h1 r2 h2
 have h1 : r1 = false := h1
 have h2 : r2 = false := h2
 subst h1 h2
 refine bcase_f rfl (bcase_f rfl (bcase_mk (fun e => ?_) fun e => bcase_mk (fun e2 => ?_) fun e2 => ?_))
 ·show _ = M.cmpInt x y
  unfold M.cmpInt; rw [if_pos (by simpa using e)]
 ·show _ = M.cmpInt x y
  unfold M.cmpInt; rw [if_neg (by simpa using e), if_pos (by simpa using e2)]
 ·show _ = M.cmpInt x y
  unfold M.cmpInt; rw [if_neg (by simpa using e), if_neg (by simpa using e2)]
theorem wp.impl_Block_accesses_1.math (a b : D.Access) (h : M.impl_Block_accesses_1_pre a b) : wp.impl_Block_accesses_1 a b (fun r => r = M.impl_Block_accesses_1 a b) := ⟨trivial, fun r hr => hr⟩
theorem joinP_of' {A : (Unit → Prop) → Prop} {B : Prop} (h : A fun _ => B) : JoinP (σ := Unit) A (fun p => match p with | (_) => B) := h
theorem ins_pass {α : Type} {g : α → α → Int} {x : α} : ∀ {b a : List α}, (∀ y ∈ b, g x y < 0) → M.insG g x (b ++ a) = b ++ M.insG g x a
 | [], a, _ => rfl
 | y :: b, a, h => by
  rw [List.cons_append, M.insG, if_pos (h y (by simp)), ins_pass fun z hz => h z (by simp [hz])]; rfl
theorem ins_stop {α : Type} {g : α → α → Int} {x : α} {a : List α} (h : ∀ y r, a = y :: r → ¬ g x y < 0) : M.insG g x a = x :: a := by
 cases a with
 | nil => rfl
 | cons y r => rw [M.insG, if_neg (h y r rfl)]
theorem ins_len {α : Type} {g : α → α → Int} {x : α} : ∀ r : List α, (M.insG g x r).length = r.length + 1
 | [] => rfl
 | y :: r => by
  unfold M.insG
  split
  ·simp [ins_len r]
  ·simp
theorem ins_mem {α : Type} {g : α → α → Int} {x z : α} : ∀ r : List α, z ∈ M.insG g x r ↔ z = x ∨ z ∈ r
 | [] => by simp [M.insG]
 | y :: r => by
  unfold M.insG
  split
  ·simp only [List.mem_cons, ins_mem r]
   constructor <;> rintro (h | h | h) <;> simp [h]
  ·simp
def back {α : Type} (g : α → α → Int) (l : List α) : List α := l.foldl (fun r x => M.insG g x r) []
theorem back_snoc {α : Type} (g : α → α → Int) (l : List α) (x : α) : back g (l ++ [x]) = M.insG g x (back g l) := by simp [back]
theorem srt_len {α : Type} (g : α → α → Int) : ∀ (l r : List α), (l.foldl (fun r x => M.insG g x r) r).length = l.length + r.length
 | [], r => by simp
 | x :: l, r => by simp only [List.foldl_cons]; rw [srt_len g l, ins_len]; simp; omega
theorem back_len {α : Type} (g : α → α → Int) (l : List α) : (back g l).length = l.length := by simp [back, srt_len]
theorem fold_mem {α : Type} {g : α → α → Int} {z : α} : ∀ (l r : List α), z ∈ l.foldl (fun r x => M.insG g x r) r ↔ z ∈ l ∨ z ∈ r
 | [], r => by simp
 | x :: l, r => by
  simp only [List.foldl_cons, fold_mem l, ins_mem, List.mem_cons]
  constructor
  ·rintro (h | h | h) <;> simp [h]
  ·rintro ((h | h) | h) <;> simp [h]
theorem back_mem {α : Type} {g : α → α → Int} {l : List α} {z : α} : z ∈ back g l ↔ z ∈ l := by simp [back, fold_mem]
theorem sort_len {α : Type} (g : α → α → Int) (l : List α) : (M.sortG g l).length = l.length := by
 show (back g l).reverse.length = _
 rw [List.length_reverse, back_len]
theorem sort_mem {α : Type} {g : α → α → Int} {l : List α} {z : α} : z ∈ M.sortG g l ↔ z ∈ l := by
 show z ∈ (back g l).reverse ↔ _
 rw [List.mem_reverse, back_mem]
theorem set_at2 {α : Type} {A B : List α} {x y : α} : ((A ++ y :: x :: B).set (A.length + 1) y).set A.length x = A ++ x :: y :: B := by
 rw [List.set_append_right _ _ (by omega), show A.length + 1 - A.length = 1 by omega, List.set_append_right _ _ (Nat.le_refl _), Nat.sub_self]; rfl
theorem rd_mid {α : Type} [Inhabited α] {A B : List α} {x : α} {k : Nat} (h : k = A.length) : rd (A ++ x :: B) (k : Int) = x := by
 subst h
 rw [rd_nat (by simp)]; simp
theorem wp.slices_insertionSortCmpFunc_impl_Access.math (l : List D.Access) (a b : Int) (g : D.Access → D.Access → Int) (Dm : D.Access → D.Access → Prop) (h : M.slices_insertionSortCmpFunc_impl_Access_pre l a b g Dm) : wp.slices_insertionSortCmpFunc_impl_Access l a b g Dm (fun r => r = M.slices_insertionSortCmpFunc_impl_Access l a b g) := by
 obtain ⟨rfl, rfl, hl, hD⟩ := h
 have w1 : wrap .i64 ((0 : Int) + 1) = 1 := by decide +kernel
 unfold wp.slices_insertionSortCmpFunc_impl_Access
 rw [w1]
 -- the outer loop; n elements are sorted
 refine ⟨fun m z => ∃ n : Nat, 1 ≤ n ∧ n ≤ max 1 l.length ∧ m = max 1 l.length - n ∧ z = ((n : Int), (back g (l.take n)).reverse ++ l.drop n, ()), ⟨_, 1, Nat.le_refl _, by omega, rfl, ?_⟩, ?_⟩
 ·cases l with
  | nil => rfl
  | cons x l => rfl
 rintro m _ ⟨n, hn1, hn, rfl, rfl⟩
 dsimp only
 refine bcase_mk (fun e => ?_) fun e => ?_
 ·have hn : n < l.length := by simp at e; omega
  have hx : l.drop n = rd l (n : Int) :: l.drop (n + 1) := by rw [rd_nat hn]; exact List.drop_eq_getElem_cons hn
  have ht : l.take (n + 1) = l.take n ++ [rd l (n : Int)] := by rw [rd_nat hn]; simp
  have hxm : rd l (n : Int) ∈ l := by rw [rd_nat hn]; exact List.getElem_mem hn
  have hbl : (back g (l.take n)).length = n := by rw [back_len, List.length_take]; omega
  have hbm : ∀ y ∈ back g (l.take n), y ∈ l := fun y hy => List.mem_of_mem_take (back_mem.1 hy)
  have hrest : (l.drop (n + 1)).length = l.length - (n + 1) := List.length_drop
  have goal : ∀ (z : List D.Access), z = (back g (l.take (n + 1))).reverse ++ l.drop (n + 1) → ∃ m', m' < max 1 l.length - n ∧ ∃ n' : Nat, 1 ≤ n' ∧ n' ≤ max 1 l.length ∧ m' = max 1 l.length - n' ∧ ((wrap .i64 ((n : Int) + 1), z, ()) : Int × List D.Access × Unit) = ((n' : Int), (back g (l.take n')).reverse ++ l.drop n', ()) :=
   fun z hz => ⟨_, by omega, n + 1, by omega, by omega, rfl, by rw [up64 hn (by omega), hz]⟩
  rw [hx]
  rw [ht, back_snoc] at goal
  generalize rd l (n : Int) = x at *
  generalize back g (l.take n) = R at *
  generalize l.drop (n + 1) = rest at *
  refine ⟨fun m z => ∃ (P B : List D.Access), m = P.length ∧ R = B ++ P ∧ (∀ y ∈ B, g x y < 0) ∧ z = ((P.length : Int), P.reverse ++ x :: (B.reverse ++ rest), ()), ⟨_, R, [], rfl, rfl, (fun y hy => by cases hy), by simp [hbl]⟩, ?_⟩
  rintro m _ ⟨P, B, rfl, rfl, hB, rfl⟩
  dsimp only
  have hlen : (P.reverse ++ x :: (B.reverse ++ rest)).length = l.length := by
   simp only [List.length_append, List.length_reverse, List.length_cons] at hbl ⊢
   omega
  have hPl : P.length < l.length := by simp only [List.length_append] at hbl; omega
  cases P with
  | nil =>
   refine joinP_of' ?_
   have gz := goal (x :: (B.reverse ++ rest)) (by
    rw [ins_pass hB, ins_stop (fun y r hy => by cases hy)]; simp)
   exact bcase_f rfl ⟨gz, gz, trivial⟩
  | cons y P =>
   have ej : ((y :: P).length : Int) = ((P.length + 1 : Nat) : Int) := by simp
   have w2 : wrap .i64 (((P.length + 1 : Nat) : Int) - 1) = (P.length : Int) := by
    rw [w64 (by omega) (by simp at hPl; omega)]; omega
   have eL : (y :: P).reverse ++ x :: (B.reverse ++ rest) = P.reverse ++ y :: x :: (B.reverse ++ rest) := by simp
   have r1 : rd (P.reverse ++ y :: x :: (B.reverse ++ rest)) ((P.length + 1 : Nat) : Int) = x := by
    have := rd_mid (A := P.reverse ++ [y]) (B := B.reverse ++ rest) (x := x) (k := P.length + 1) (by simp)
    simpa using this
   have r0 : rd (P.reverse ++ y :: x :: (B.reverse ++ rest)) (P.length : Int) = y := rd_mid (by simp)
   rw [eL] at hlen ⊢
   rw [ej, w2, r1, r0]
   have ix1 : 0 ≤ ((P.length + 1 : Nat) : Int) ∧ ((P.length + 1 : Nat) : Int) < ((P.reverse ++ y :: x :: (B.reverse ++ rest)).length : Int) := by rw [hlen]; simp at hPl; omega
   have ix0 : 0 ≤ (P.length : Int) ∧ (P.length : Int) < ((P.reverse ++ y :: x :: (B.reverse ++ rest)).length : Int) := by rw [hlen]; simp at hPl; omega
   have hy : y ∈ l := hbm y (by simp)
   have hd : Dm x y := hD _ hxm _ hy
   refine joinP_of' (bcase_t (by simp) ⟨ix1, ix0, ?_⟩)
   have one : Dm x y ∧ ∀ r, r = g x y → bcase (decide (r < 0)) ((0 ≤ (P.length : Int) ∧ (P.length : Int) < ((P.reverse ++ y :: x :: (B.reverse ++ rest)).length : Int)) ∧ ((0 ≤ ((P.length + 1 : Nat) : Int) ∧ ((P.length + 1 : Nat) : Int) < ((P.reverse ++ y :: x :: (B.reverse ++ rest)).length : Int)) ∧
       ((((0 ≤ ((P.length + 1 : Nat) : Int) ∧ ((P.length + 1 : Nat) : Int) < ((P.reverse ++ y :: x :: (B.reverse ++ rest)).length : Int)) ∧ ((0 ≤ (P.length : Int) ∧ (P.length : Int) < ((List.set (P.reverse ++ y :: x :: (B.reverse ++ rest)) (((P.length + 1 : Nat) : Int).toNat) y).length : Int)) ∧
        ∃ m', m' < (y :: P).length ∧ ∃ (P' B' : List D.Access), m' = P'.length ∧ B ++ y :: P = B' ++ P' ∧ (∀ y ∈ B', g x y < 0) ∧ (((P.length : Int), List.set (List.set (P.reverse ++ y :: x :: (B.reverse ++ rest)) (((P.length + 1 : Nat) : Int).toNat) y) ((P.length : Int).toNat) x, ()) : Int × List D.Access × Unit) = ((P'.length : Int), P'.reverse ++ x :: (B'.reverse ++ rest), ()))) ∧
        ((0 ≤ ((P.length + 1 : Nat) : Int) ∧ ((P.length + 1 : Nat) : Int) < ((P.reverse ++ y :: x :: (B.reverse ++ rest)).length : Int)) ∧ ((0 ≤ (P.length : Int) ∧ (P.length : Int) < ((List.set (P.reverse ++ y :: x :: (B.reverse ++ rest)) (((P.length + 1 : Nat) : Int).toNat) y).length : Int)) ∧
        ∃ m', m' < (y :: P).length ∧ ∃ (P' B' : List D.Access), m' = P'.length ∧ B ++ y :: P = B' ++ P' ∧ (∀ y ∈ B', g x y < 0) ∧ (((P.length : Int), List.set (List.set (P.reverse ++ y :: x :: (B.reverse ++ rest)) (((P.length + 1 : Nat) : Int).toNat) y) ((P.length : Int).toNat) x, ()) : Int × List D.Access × Unit) = ((P'.length : Int), P'.reverse ++ x :: (B'.reverse ++ rest), ()))) ∧ True))))
       (∃ m', m' < max 1 l.length - n ∧ ∃ n' : Nat, 1 ≤ n' ∧ n' ≤ max 1 l.length ∧ m' = max 1 l.length - n' ∧ ((wrap .i64 ((n : Int) + 1), P.reverse ++ y :: x :: (B.reverse ++ rest), ()) : Int × List D.Access × Unit) = ((n' : Int), (back g (l.take n')).reverse ++ l.drop n', ())) := by
    refine ⟨hd, fun r hr => bcase_mk (fun e3 => ?_) fun e3 => ?_⟩
    ·have hgy : g x y < 0 := by rw [← hr]; simpa using e3
     have fin : ∃ m', m' < (y :: P).length ∧ ∃ (P' B' : List D.Access), m' = P'.length ∧ B ++ y :: P = B' ++ P' ∧ (∀ y ∈ B', g x y < 0) ∧ (((P.length : Int), List.set (List.set (P.reverse ++ y :: x :: (B.reverse ++ rest)) (((P.length + 1 : Nat) : Int).toNat) y) ((P.length : Int).toNat) x, ()) : Int × List D.Access × Unit) = ((P'.length : Int), P'.reverse ++ x :: (B'.reverse ++ rest), ()) := by
      refine ⟨P.length, by simp, P, B ++ [y], rfl, by simp, fun z hz => ?_, ?_⟩
      ·rcases List.mem_append.1 hz with hz | hz
       ·exact hB z hz
       ·rw [List.mem_singleton.1 hz]; exact hgy
      ·rw [Int.toNat_natCast, Int.toNat_natCast]
       have := set_at2 (A := P.reverse) (B := B.reverse ++ rest) (x := x) (y := y)
       rw [List.length_reverse] at this
       rw [this]; simp
     have ix2 : 0 ≤ (P.length : Int) ∧ (P.length : Int) < ((List.set (P.reverse ++ y :: x :: (B.reverse ++ rest)) (((P.length + 1 : Nat) : Int).toNat) y).length : Int) := by rw [List.length_set]; exact ix0
     exact ⟨ix0, ix1, ⟨ix1, ix2, fin⟩, ⟨ix1, ix2, fin⟩, trivial⟩
    ·have hgy : ¬ g x y < 0 := by rw [← hr]; simpa using e3
     refine goal _ ?_
     rw [ins_pass hB, ins_stop (fun y' r' hy' => by cases hy'; exact hgy)]
     simp
   exact ⟨one, one, trivial⟩
 ·have hn : l.length ≤ n := by simp at e; omega
  rw [List.drop_of_length_le hn, List.take_of_length_le hn, List.append_nil]; rfl
theorem wp.slices_pdqsortCmpFunc_impl_Access.math (l : List D.Access) (a b c : Int) (g : D.Access → D.Access → Int) (Dm : D.Access → D.Access → Prop) (h : M.slices_pdqsortCmpFunc_impl_Access_pre l a b c g Dm) : wp.slices_pdqsortCmpFunc_impl_Access l a b c g Dm (fun r => r = M.slices_pdqsortCmpFunc_impl_Access l a b c g) := by
 obtain ⟨rfl, rfl, hl, hD⟩ := h
 refine loop_n 0 (fun _ => (0, (l.length : Int), c, true, true, ())) (fun _ => True) rfl trivial (fun k hk _ _ _ => absurd hk (by omega)) fun _ next => ?_
 exact bcase_t (by rw [w64 (by omega) (by omega)]; simp; omega) ⟨⟨rfl, rfl, hl, hD⟩, fun r hr => hr⟩
theorem wp.slices_SortFunc_impl_Access_impl_Access.math (l : List D.Access) (g : D.Access → D.Access → Int) (Dm : D.Access → D.Access → Prop) (h : M.slices_SortFunc_impl_Access_impl_Access_pre l g Dm) : wp.slices_SortFunc_impl_Access_impl_Access l g Dm (fun r => r = M.slices_SortFunc_impl_Access_impl_Access l g) := by
 obtain ⟨hl, hD⟩ := h
 have e : IntKind.wrap .u64 (l.length : Int) = (l.length : Int) := by
  have : l.length = 0 ∨ l.length = 1 ∨ l.length = 2 ∨ l.length = 3 ∨ l.length = 4 ∨ l.length = 5 ∨ l.length = 6 ∨ l.length = 7 ∨ l.length = 8 ∨ l.length = 9 ∨ l.length = 10 ∨ l.length = 11 ∨ l.length = 12 := by omega
  rcases this with e | e | e | e | e | e | e | e | e | e | e | e | e <;> rw [e] <;> decide +kernel
 rw [show wp.slices_SortFunc_impl_Access_impl_Access l g Dm (fun r => r = M.slices_SortFunc_impl_Access_impl_Access l g) = wp.slices_SortFunc_impl_Access_impl_Access l g Dm (fun r => r = M.sortG g l) from rfl]
 unfold wp.slices_SortFunc_impl_Access_impl_Access
 rw [e]
 exact ⟨⟨by omega, by omega⟩, fun r _ => ⟨⟨rfl, rfl, hl, hD⟩, fun r2 hr2 => hr2⟩⟩
end Go.V
namespace Go.V
open IntKind (wrap)
section
variable {α : Type} [DecidableEq α]
theorem sqz_snoc (a y : α) : ∀ (p : List α) (x : α), M.sqz x ((p ++ [a]) ++ [y]) = if y = a then M.sqz x (p ++ [a]) else M.sqz x (p ++ [a]) ++ [y]
 | [], x => by
  simp only [List.nil_append, List.cons_append, M.sqz]
  by_cases h : a = x
  ·subst h; by_cases h2 : y = a <;> simp [h2]
  ·by_cases h2 : y = a <;> simp [h, h2]
 | b :: p, x => by
  simp only [List.cons_append, M.sqz]
  split
  ·exact sqz_snoc a y p x
  ·have := sqz_snoc a y p b
   rw [this]
   split <;> simp
theorem squeeze_snoc (p : List α) (a y : α) : M.squeeze ((p ++ [a]) ++ [y]) = if y = a then M.squeeze (p ++ [a]) else M.squeeze (p ++ [a]) ++ [y] := by
 cases p with
 | nil =>
  simp only [List.nil_append, List.cons_append, M.squeeze, M.sqz]
  split <;> simp
 | cons x p =>
  simp only [List.cons_append, M.squeeze]
  have := sqz_snoc a y p x
  rw [this]
  split <;> simp
theorem squeeze_up [Inhabited α] {l : List α} {k : Nat} (h1 : 1 ≤ k) (h : k < l.length) : M.squeeze (l.take (k + 1)) = if rd l (k : Int) = rd l ((k - 1 : Nat) : Int) then M.squeeze (l.take k) else M.squeeze (l.take k) ++ [rd l (k : Int)] := by
 have e1 : l.take (k + 1) = l.take k ++ [rd l (k : Int)] := by rw [rd_nat h]; simp
 have e0 : l.take k = l.take (k - 1) ++ [rd l ((k - 1 : Nat) : Int)] := by
  have : l.take (k - 1 + 1) = l.take (k - 1) ++ [rd l ((k - 1 : Nat) : Int)] := by rw [rd_nat (by omega)]; simp
  rwa [show k - 1 + 1 = k by omega] at this
 rw [e1, e0, squeeze_snoc]
theorem squeeze_small {l : List α} (h : l.length < 2) : M.squeeze l = l := by
 match l, h with
 | [], _ => rfl
 | [x], _ => rfl
end
end Go.V
namespace Go.V
open IntKind (wrap)
theorem lessW_word (a b : Int) : M.isWord (M.lessW a b) = true := by unfold M.lessW; split <;> rfl
theorem zero_or_mod (c : Bool) (x : Int) : M.isWord (if c then x % 65536 else 0) = true := by split; exact isWord_mod x; rfl
theorem addW_word (a b : Int) : M.isWord (M.addW a b) = true := zero_or_mod _ _
theorem subW_word (a b : Int) : M.isWord (M.subW a b) = true := zero_or_mod _ _
theorem mulW_word (a b : Int) : M.isWord (M.mulW a b) = true := zero_or_mod _ _
theorem xorW_word {a b : Int} (ha : M.isWord a = true) (hb : M.isWord b = true) : M.isWord (bitXor .i64 a b) = true := by
 rw [isWord_iff] at *
 unfold bitXor
 have e1 : (BitVec.ofInt (IntKind.bits .i64) a ^^^ BitVec.ofInt (IntKind.bits .i64) b).toNat = a.toNat ^^^ b.toNat := by
  show (BitVec.ofInt 64 a ^^^ BitVec.ofInt 64 b).toNat = _
  rw [BitVec.toNat_xor, BitVec.toNat_ofInt, BitVec.toNat_ofInt, show ((2 ^ 64 : Nat) : Int) = 18446744073709551616 from rfl]
  congr 1 <;> omega
 have e2 : a.toNat ^^^ b.toNat < 2 ^ 16 := Nat.xor_lt_two_pow (by omega) (by omega)
 rw [e1, w64 (by omega) (by omega)]
 omega
theorem set_words {r : List Int} (h : r.all M.isWord = true) (k : Nat) {x : Int} (hx : M.isWord x = true) : (r.set k x).all M.isWord = true := by
 rw [List.all_eq_true] at *
 intro y hy
 rcases List.mem_or_eq_of_mem_set hy with h' | rfl
 ·exact h y h'
 ·exact hx
theorem apply_words {i : D.Ins} {n : Int} {t : Int} {r : List Int} (hok : M.insOk i n = true) (ht : 0 ≤ t ∧ t ≤ 23) (hl : r.length = 4) (h : r.all M.isWord = true) : (M.apply i t r).all M.isWord = true := by
 obtain ⟨_, hA, hB, hC⟩ := fits_regs (i := i) (r := r) ⟨hl, n, hok⟩
 have hw := List.all_eq_true.1 h
 have rdw : ∀ x, 0 ≤ x ∧ x ≤ 3 → M.isWord (rd r x) = true := fun x hx => hw _ (rd_of hx.1 (by omega))
 unfold M.apply
 split
 ·rename_i e
  refine set_words h _ ?_
  simp only [M.insOk, Bool.and_eq_true] at hok
  have hok := hok.2
  rw [if_neg (by omega), if_pos e] at hok
  simp only [Bool.and_eq_true] at hok
  exact hok.2.1
 split
 ·exact set_words h _ (rdw _ (hB (by omega)))
 split
 ·exact set_words h _ (addW_word _ _)
 split
 ·exact set_words h _ (subW_word _ _)
 split
 ·exact set_words h _ (mulW_word _ _)
 split
 ·exact set_words h _ (xorW_word (rdw _ (hB (by omega))) (rdw _ (hC (by omega))))
 split
 ·exact set_words h _ (lessW_word _ _)
 split
 ·exact set_words h _ (isWord_iff.2 (by omega))
 split
 ·split
  ·exact set_words h _ (rdw _ (hB (by omega)))
  ·exact h
 ·exact h
end Go.V
namespace Go.V
open IntKind (wrap)
theorem afterB_iff {p : List D.Ins} {k later : Int} (h : M.Node p k) : M.afterB p k later = true ↔ ¬ Rch p later [k] (p.length : Int) := by
 have hn : M.nodeIn p (p.length : Int) := ⟨by omega, by omega⟩
 have := reached_iff (wo := later) h.1 (fun x hx => by obtain rfl := List.mem_singleton.1 hx; exact h.2) hn
 unfold M.afterB
 rw [← this]
 cases rd (M.reached p [k] later) (p.length : Int) <;> simp
theorem firstS_mem {p : List D.Ins} {all : List Int} : ∀ (l : List Int), (∃ x ∈ l, all.all (M.afterB p x) = true) → M.firstS p all l ∈ l ∧ all.all (M.afterB p (M.firstS p all l)) = true
 | [], h => by obtain ⟨x, hx, _⟩ := h; cases hx
 | y :: l, h => by
  by_cases hy : all.all (M.afterB p y) = true
  ·simp only [M.firstS, hy, if_true]; exact ⟨List.mem_cons_self, trivial⟩
  ·have : ∃ x ∈ l, all.all (M.afterB p x) = true := by
     obtain ⟨x, hx, hg⟩ := h
     rcases List.mem_cons.1 hx with rfl | hx
     ·exact absurd hg hy
     ·exact ⟨x, hx, hg⟩
   have ih := firstS_mem l this
   simp only [M.firstS, hy]
   exact ⟨List.mem_cons_of_mem _ ih.1, ih.2⟩
theorem rch_via {p : List D.Ins} {y b : Int} {v : Int} (h : Rch p y [b] v) {x : Int} (hx : Rch p y [v] x) : Rch p y [b] x := by
 induction hx with
 | base hs hne => obtain rfl := List.mem_singleton.1 hs; exact h
 | step _ hs hne ih => exact .step ih hs hne
theorem first_in {p : List D.Ins} {b : Int} (hb : M.Node p b) (hbn : b ≠ (p.length : Int)) (he : M.exitB p b = true) : M.firstAfter p b ∈ M.others (M.aftersOf p b) b := by
 have hn : M.nodeIn p (p.length : Int) := ⟨by omega, by omega⟩
 have hR := (reached_iff hb.1 (fun x hx => by obtain rfl := List.mem_singleton.1 hx; exact hb.2) hn).1 he
 have hmem : ∀ x, M.nodeIn p x → x ≠ b → M.afterB p b x = true → x ∈ M.others (M.aftersOf p b) b := by
  intro x hx hxb ha
  unfold M.others M.aftersOf
  rw [if_pos (by simp only [Bool.and_eq_true]; exact ⟨isNode_iff.2 hb, he⟩)]
  refine List.mem_filter.2 ⟨mem_idx.2 ⟨x.toNat, by unfold M.nodeIn at hx; omega, by unfold M.nodeIn at hx; omega, ha⟩, by simpa using hxb⟩
 refine (firstS_mem _ ?_).1
 have good : ∀ x ∈ M.others (M.aftersOf p b) b, ∀ v, (∀ y ∈ M.others (M.aftersOf p b) b, Rch p y [b] v) → x ∈ M.nextOf p v → (M.others (M.aftersOf p b) b).all (M.afterB p x) = true := by
  intro x hx v hv hvx
  rw [List.all_eq_true]
  intro y hy
  obtain ⟨hxN, _, _, _⟩ := afters_nodes hx
  obtain ⟨hyN, _, _, hya⟩ := afters_nodes hy
  rw [afterB_iff hxN]
  intro hr
  refine (afterB_iff hb).1 hya ?_
  have hxy : x ≠ y := by
   rintro rfl
   have : ∀ z, Rch p x [x] z → False := fun z hz => by
    induction hz with
    | base hs hne => exact hne (List.mem_singleton.1 hs)
    | step _ _ _ ih => exact ih
   exact this _ hr
  exact rch_via (.step (hv y hy) hvx hxy) hr
 have hbL : ∀ y ∈ M.others (M.aftersOf p b) b, b ≠ y := fun y hy e => by
  have := (List.mem_filter.1 hy).2
  simp [e] at this
 have key : ∀ v, Rch p (-1) [b] v → (∃ x ∈ M.others (M.aftersOf p b) b, (M.others (M.aftersOf p b) b).all (M.afterB p x) = true) ∨ (v ∉ M.others (M.aftersOf p b) b ∧ ∀ y ∈ M.others (M.aftersOf p b) b, Rch p y [b] v) := by
  intro v hv
  induction hv with
  | base hs hne =>
   obtain rfl := List.mem_singleton.1 hs
   exact .inr ⟨fun h => hbL _ h rfl, fun y hy => .base (List.mem_singleton.2 rfl) (hbL y hy)⟩
  | @step k s _ hs hne ih =>
   rcases ih with ih | ⟨_, ih⟩
   ·exact .inl ih
   ·by_cases hsL : s ∈ M.others (M.aftersOf p b) b
    ·exact .inl ⟨s, hsL, good s hsL k ih hs⟩
    ·exact .inr ⟨hsL, fun y hy => .step (ih y hy) hs (fun e => hsL (e ▸ hy))⟩
 rcases key _ hR with h | ⟨h, _⟩
 ·exact h
 ·refine absurd (hmem _ hn (Ne.symm hbn) ((afterB_iff hb).2 fun hr => ?_)) h
  have : ∀ z, Rch p (p.length : Int) [b] z → z ≠ (p.length : Int) := fun z hz => by
   cases hz with
   | base _ hne => exact hne
   | step _ _ hne => exact hne
  exact this _ hr rfl
theorem join_in {p : List D.Ins} {b : Int} (h : M.Branch p b) : M.nodeIn p (M.joinB p b) := by
 obtain ⟨h1, h2, hb, _⟩ := br_in h
 have hn : M.nodeIn p (p.length : Int) := ⟨by omega, by omega⟩
 unfold M.joinB
 split
 ·rename_i e
  simp only [Bool.and_eq_true] at e
  have hx1 := (reached_iff hb.1 (fun x hx => by obtain rfl := List.mem_singleton.1 hx; exact h1.2) hn).1 e.1
  have hbr := h.2.2.2
  simp only [M.isBr, Bool.and_eq_true, beq_iff_eq, bne_iff_ne] at hbr
  have hnx : b + 1 ∈ M.nextOf p b := by
   unfold M.nextOf
   have := h.2.2.1
   rw [if_neg (by omega), if_neg (by omega), if_neg (by omega), if_pos hbr.1]
   exact putTwo_mem.2 (.inl rfl)
  have he : M.exitB p b = true := by
   refine (reached_iff hb.1 (fun x hx => by obtain rfl := List.mem_singleton.1 hx; exact hb.2) hn).2 ?_
   have hb0 := h.2.1
   exact rch_via (b := b) (y := -1) (.step (.base (List.mem_singleton.2 rfl) (by omega)) hnx (by omega)) hx1
  exact (afters_nodes (first_in hb (by have := h.2.2.1; omega) he)).1.2
 ·exact hn
theorem sub_check : ((List.range 256).all fun m => (List.range 256).all fun z => !(m &&& z == z) || (m &&& (2 ^ 64 - 1 - z) == m - z)) = true := by kernel_rfl
theorem lane_check : ((List.range 256).all fun m => (List.range 8).all fun l => !(M.hasLane ((m : Nat) : Int) ((l : Nat) : Int)) || (m &&& 2 ^ l == 2 ^ l)) = true := by kernel_rfl
theorem bit_check : ((List.range 8).all fun l => M.bitAt ((l : Nat) : Int) == ((2 ^ l : Nat) : Int)) = true := by kernel_rfl
theorem bitOr_nat {a b : Nat} (ha : a < 256) (hb : b < 256) : bitOr .i64 ((a : Nat) : Int) ((b : Nat) : Int) = ((a ||| b : Nat) : Int) := by
 have hlt : a ||| b < 256 := Nat.or_lt_two_pow (n := 8) ha hb
 have e : (BitVec.ofInt (IntKind.bits .i64) ((a : Nat) : Int) ||| BitVec.ofInt (IntKind.bits .i64) ((b : Nat) : Int)).toNat = a ||| b := by
  show (BitVec.ofInt 64 ((a : Nat) : Int) ||| BitVec.ofInt 64 ((b : Nat) : Int)).toNat = a ||| b
  rw [BitVec.ofInt_natCast, BitVec.ofInt_natCast, BitVec.toNat_or, BitVec.toNat_ofNat, BitVec.toNat_ofNat, Nat.mod_eq_of_lt (by omega), Nat.mod_eq_of_lt (by omega)]
 unfold bitOr
 rw [e]
 exact w64 (by omega) (by omega)
theorem bitNot_nat {a b : Nat} (ha : a < 256) (hb : b < 256) (hs : a &&& b = b) : bitNot .i64 ((a : Nat) : Int) ((b : Nat) : Int) = ((a - b : Nat) : Int) := by
 have hc := List.all_eq_true.1 (List.all_eq_true.1 sub_check a (List.mem_range.2 ha)) b (List.mem_range.2 hb)
 simp only [hs, BEq.rfl, Bool.not_true, Bool.false_or, beq_iff_eq] at hc
 have e : (BitVec.ofInt (IntKind.bits .i64) ((a : Nat) : Int) &&& ~~~(BitVec.ofInt (IntKind.bits .i64) ((b : Nat) : Int))).toNat = a - b := by
  show (BitVec.ofInt 64 ((a : Nat) : Int) &&& ~~~(BitVec.ofInt 64 ((b : Nat) : Int))).toNat = a - b
  rw [BitVec.ofInt_natCast, BitVec.ofInt_natCast, BitVec.toNat_and, BitVec.toNat_not, BitVec.toNat_ofNat, BitVec.toNat_ofNat, Nat.mod_eq_of_lt (by omega), Nat.mod_eq_of_lt (by omega)]
  exact hc
 unfold bitNot
 rw [e]
 exact w64 (by omega) (by omega)
theorem isMask_nat {m : Int} (h : M.isMask m = true) : ∃ k : Nat, m = (k : Int) ∧ k < 256 := by
 simp only [M.isMask, M.isIn, Bool.and_eq_true, decide_eq_true_eq] at h
 exact ⟨m.toNat, by omega, by omega⟩
theorem zero_fold {x : D.Warp} {reg : Int} {m : Nat} (hm : m < 256) : ∀ (l : List Int), (∀ k ∈ l, k ∈ M.lanesOf (m : Int)) → ∀ z : Nat, z < 256 → m &&& z = z → ∃ z' : Nat, l.foldl (M.zeroStep x reg) (z : Int) = (z' : Int) ∧ z' < 256 ∧ m &&& z' = z'
 | [], _, z, hz, hs => ⟨z, rfl, hz, hs⟩
 | k :: l, hl, z, hz, hs => by
  have hk := hl k List.mem_cons_self
  have hrest := fun j hj => hl j (List.mem_cons_of_mem _ hj)
  simp only [List.foldl_cons]
  by_cases e : rd x.Regs (k * 4 + reg) = 0
  ·obtain ⟨h0, h7⟩ := lanes_in hk
   have hkn : ((k.toNat : Nat) : Int) = k := by omega
   have hh : M.hasLane (m : Int) k = true := (List.mem_filter.1 hk).2
   have hc := List.all_eq_true.1 (List.all_eq_true.1 lane_check m (List.mem_range.2 hm)) k.toNat (List.mem_range.2 (by omega))
   rw [hkn, hh] at hc
   simp only [Bool.not_true, Bool.false_or, beq_iff_eq] at hc
   have hb := List.all_eq_true.1 bit_check k.toNat (List.mem_range.2 (by omega))
   rw [hkn] at hb
   have hb := eq_of_beq hb
   have hp : 2 ^ k.toNat < 256 := Nat.lt_of_lt_of_le (Nat.pow_lt_pow_right (by omega) (show k.toNat < 8 by omega)) (Nat.le_refl _)
   have hst : M.zeroStep x reg (z : Int) k = ((z ||| 2 ^ k.toNat : Nat) : Int) := by
    unfold M.zeroStep
    rw [if_pos e, hb, bitOr_nat hz hp]
   rw [hst]
   exact zero_fold hm l hrest _ (Nat.or_lt_two_pow (n := 8) hz hp) (by rw [Nat.and_or_distrib_left, hs, hc])
  ·have hst : M.zeroStep x reg (z : Int) k = (z : Int) := by unfold M.zeroStep; rw [if_neg e]
   rw [hst]
   exact zero_fold hm l hrest z hz hs
theorem zeroMask_sub {x : D.Warp} {reg : Int} (h : M.isMask (M.activeMask x) = true) : ∃ m z : Nat, M.activeMask x = (m : Int) ∧ M.zeroMask x reg = (z : Int) ∧ m < 256 ∧ z < 256 ∧ m &&& z = z := by
 obtain ⟨m, hm, hlt⟩ := isMask_nat h
 obtain ⟨z, hz, hzl, hs⟩ := zero_fold (x := x) (reg := reg) hlt (M.lanesOf (m : Int)) (fun _ hk => hk) 0 (by omega) (by simp)
 refine ⟨m, z, hm, ?_, hlt, hzl, hs⟩
 unfold M.zeroMask
 rw [hm]
 exact hz
theorem mask_part {x : D.Warp} {reg : Int} (h : M.isMask (M.activeMask x) = true) :
    M.isMask (M.zeroMask x reg) = true ∧ bitNot .i64 (M.activeMask x) (M.zeroMask x reg) = M.activeMask x - M.zeroMask x reg ∧ M.isMask (M.activeMask x - M.zeroMask x reg) = true := by
 obtain ⟨m, z, hm, hz, h1, h2, hs⟩ := zeroMask_sub (reg := reg) h
 have hle : z ≤ m := by rw [← hs]; exact Nat.and_le_left
 rw [hm, hz, bitNot_nat h1 h2 hs]
 refine ⟨?_, by omega, ?_⟩ <;> (simp only [M.isMask, M.isIn, Bool.and_eq_true, decide_eq_true_eq]; omega)
end Go.V
namespace Go.V
open IntKind (wrap)
theorem rd_take {α : Type} [Inhabited α] {l : List α} {k m : Nat} (h : k < m) : rd (l.take m) (k : Int) = rd l (k : Int) := by
 unfold rd
 rw [List.getD_eq_getElem?_getD, List.getD_eq_getElem?_getD, List.getElem?_take, if_pos (by simpa using h)]
end Go.V
namespace Go.V
open IntKind (wrap)
theorem laneCut_len {r : List Int} {l : Nat} (h : r.length = 32) (hl : l < 8) : (M.laneCut r l).length = 4 := by unfold M.laneCut; simp; omega
theorem putLane_len {r x : List Int} {l : Nat} (h : r.length = 32) (hl : l < 8) (hx : x.length = 4) : (M.putLane r l x).length = 32 := by unfold M.putLane; simp; omega
theorem applyTo_len {i : D.Ins} {num m : Int} {r : List Int} (h : r.length = 32) : ∀ k, k ≤ 8 → (M.applyTo i num m r k).length = 32
 | 0, _ => h
 | k + 1, hk => by
  have ih := applyTo_len (i := i) (num := num) (m := m) h k (by omega)
  simp only [M.applyTo]
  split
  ·exact putLane_len ih (by omega) (by rw [apply_len, laneCut_len h (by omega)])
  ·exact ih
theorem applyAll_len {i : D.Ins} {num m : Int} {r : List Int} (h : r.length = 32) : (M.applyAll i num m r).length = 32 := applyTo_len h 8 (Nat.le_refl _)
theorem words_put {r x : List Int} {l : Nat} (h : r.all M.isWord = true) (hx : x.all M.isWord = true) : (M.putLane r l x).all M.isWord = true := by
 rw [List.all_eq_true] at h hx ⊢
 intro y hy
 unfold M.putLane at hy
 rcases List.mem_append.1 hy with hy | hy
 ·rcases List.mem_append.1 hy with hy | hy
  ·exact h y (List.mem_of_mem_take hy)
  ·exact hx y hy
 ·exact h y (List.mem_of_mem_drop hy)
theorem words_cut {r : List Int} {l : Nat} (h : r.all M.isWord = true) : (M.laneCut r l).all M.isWord = true := by
 rw [List.all_eq_true] at h ⊢
 intro y hy
 exact h y (List.mem_of_mem_take (List.mem_of_mem_drop hy))
theorem applyTo_words {i : D.Ins} {n num m : Int} {r : List Int} (hok : M.insOk i n = true) (hn : 0 ≤ num ∧ num ≤ 2) (hl : r.length = 32) (h : r.all M.isWord = true) : ∀ k, k ≤ 8 → (M.applyTo i num m r k).all M.isWord = true
 | 0, _ => h
 | k + 1, hk => by
  have ih := applyTo_words (m := m) hok hn hl h k (by omega)
  simp only [M.applyTo]
  split
  ·exact words_put ih (apply_words hok (by omega) (laneCut_len hl (by omega)) (words_cut h))
  ·exact ih
theorem lastF_set {fs : List D.Frame} (h : fs ≠ []) (pc : Int) : M.lastF (M.setTop fs pc) = ⟨pc, (M.lastF fs).Stop, (M.lastF fs).Mask⟩ := by
 have hpos : 0 < fs.length := List.length_pos_iff.2 h
 have e : ((fs.length : Int) - 1) = ((fs.length - 1 : Nat) : Int) := by omega
 unfold M.lastF M.setTop
 rw [List.length_set, e, rd_nat (by rw [List.length_set]; omega), List.getElem_set_self]
 unfold M.lastF
 rw [e]
theorem mem_lastF {fs : List D.Frame} (h : fs ≠ []) : M.lastF fs ∈ fs := by
 have hpos : 0 < fs.length := List.length_pos_iff.2 h
 exact rd_of (by omega) (by omega)
theorem setTop_all {fs : List D.Frame} {n pc : Int} (h : fs.all (M.frameOk n) = true) (hx : fs ≠ []) (hp : 0 ≤ pc ∧ pc ≤ n) : (M.setTop fs pc).all (M.frameOk n) = true := by
 rw [List.all_eq_true] at h ⊢
 intro f hf
 rcases List.mem_or_eq_of_mem_set hf with hf | rfl
 ·exact h f hf
 ·have := h _ (mem_lastF hx)
  simp only [M.frameOk, M.isIn, Bool.and_eq_true, decide_eq_true_eq] at this ⊢
  exact ⟨hp, this.2⟩
theorem drop_spec (fs : List D.Frame) (n : Int) : ∀ k, k ≤ fs.length → M.dropN fs n k = [] ∨ ∃ j : Nat, 0 < j ∧ j ≤ k ∧ M.dropN fs n k = fs.take j ∧ (rd fs ((j - 1 : Nat) : Int)).Pc ≠ (rd fs ((j - 1 : Nat) : Int)).Stop ∧ (rd fs ((j - 1 : Nat) : Int)).Pc ≠ n
 | 0, _ => .inl rfl
 | k + 1, hk => by
  simp only [M.dropN]
  split
  ·rename_i e
   exact .inr ⟨k + 1, by omega, Nat.le_refl _, rfl, e⟩
  ·rcases drop_spec fs n k (by omega) with h | ⟨j, h0, h1, h2⟩
   ·exact .inl h
   ·exact .inr ⟨j, h0, by omega, h2⟩
theorem drop_fine {fs : List D.Frame} {n : Int} (hall : fs.all (M.frameOk n) = true) (hl : fs.length ≤ 24) (h0 : fs ≠ [] → (rd fs 0).Stop = n ∧ (rd fs 0).Mask = 255) : M.areFrames (M.dropF fs n) n = true := by
 unfold M.dropF
 rcases drop_spec fs n fs.length (Nat.le_refl _) with h | ⟨j, hj0, hj1, h2, h3, h4⟩
 ·rw [h]; rfl
 ·rw [h2]
  have hne : fs ≠ [] := by intro e; rw [e] at hj1; simp at hj1; omega
  have hlen : (fs.take j).length = j := by rw [List.length_take]; omega
  have hall' : (fs.take j).all (M.frameOk n) = true := by
   rw [List.all_eq_true] at hall ⊢
   exact fun f hf => hall f (List.mem_of_mem_take hf)
  have hlast : M.lastF (fs.take j) = rd fs ((j - 1 : Nat) : Int) := by
   unfold M.lastF
   rw [hlen, show ((j : Int) - 1) = ((j - 1 : Nat) : Int) by omega, rd_take (by omega)]
  have hz : rd (fs.take j) 0 = rd fs 0 := by
   have := rd_take (l := fs) (k := 0) (m := j) (by omega)
   exact this
  unfold M.areFrames
  rw [hall', Bool.true_and, Bool.or_eq_true]
  right
  unfold M.endsOk
  rw [hlast, hz, hlen]
  obtain ⟨k1, k2⟩ := h0 hne
  simp only [Bool.and_eq_true, decide_eq_true_eq, bne_iff_ne, beq_iff_eq]
  exact ⟨by omega, h3, h4, k1, k2⟩
theorem setTop_first {fs : List D.Frame} (h : fs ≠ []) (pc : Int) : (rd (M.setTop fs pc) 0).Stop = (rd fs 0).Stop ∧ (rd (M.setTop fs pc) 0).Mask = (rd fs 0).Mask := by
 have hpos : 0 < fs.length := List.length_pos_iff.2 h
 have z : (0 : Int) = ((0 : Nat) : Int) := rfl
 by_cases h1 : fs.length = 1
 ·have hl := lastF_set h pc
  have e1 : M.lastF (M.setTop fs pc) = rd (M.setTop fs pc) 0 := by unfold M.lastF M.setTop; rw [List.length_set, h1]; rfl
  have e2 : M.lastF fs = rd fs 0 := by unfold M.lastF; rw [h1]; rfl
  rw [← e1, hl, e2]; exact ⟨rfl, rfl⟩
 ·have e : rd (M.setTop fs pc) 0 = rd fs 0 := by
    unfold M.setTop rd
    rw [List.getD_eq_getElem?_getD, List.getD_eq_getElem?_getD, List.getElem?_set_ne (by simp; omega)]
  rw [e]; exact ⟨rfl, rfl⟩
theorem runs_frames {p : List D.Ins} {x : D.Warp} (h : M.Runs p x) : x.Frames.all (M.frameOk p.length) = true ∧ x.Frames.length ≤ 24 ∧ (rd x.Frames 0).Stop = p.length ∧ (rd x.Frames 0).Mask = 255 ∧ M.isMask (M.lastF x.Frames).Mask = true ∧ x.Regs.all M.isWord = true := by
 obtain ⟨hp, hw, hx⟩ := h
 simp only [M.warpOf, M.areFrames, Bool.and_eq_true, Bool.or_eq_true] at hw
 obtain ⟨h1, h2, h3, h4, h5⟩ := hw
 have h5 := h5.resolve_left (by simpa using hx)
 have hf := List.all_eq_true.1 h4 _ (mem_lastF hx)
 simp only [M.endsOk, M.frameOk, Bool.and_eq_true, decide_eq_true_eq, beq_iff_eq] at h5 hf
 exact ⟨h4, h5.1, h5.2.2.2.1, h5.2.2.2.2, hf.2.2.1, h3⟩
theorem split_branch {p : List D.Ins} {x : D.Warp} (h : M.Runs p x) (hs : M.isSplit p x) : M.Branch p (M.topPc x) := by
 obtain ⟨_, _, _, _, t5, t6, _⟩ := runs_top h
 refine ⟨h.1, t5, t6, ?_⟩
 unfold M.isBr
 simp only [Bool.and_eq_true, beq_iff_eq, bne_iff_ne]
 exact hs
theorem splits_iff {p : List D.Ins} {x : D.Warp} (h : M.splits p x = true) : M.isSplit p x ∧ M.zeroMask x (M.topIns p x).A ≠ 0 ∧ M.zeroMask x (M.topIns p x).A ≠ (M.lastF x.Frames).Mask := by
 simp only [M.splits, Bool.and_eq_true, beq_iff_eq, bne_iff_ne] at h
 exact ⟨h.1, h.2.1, h.2.2⟩
theorem turn_in {p : List D.Ins} {x : D.Warp} (h : M.Runs p x) : 0 ≤ M.turnPc p x ∧ M.turnPc p x ≤ (p.length : Int) := by
 obtain ⟨_, _, _, _, t5, t6, t7, _⟩ := runs_top h
 unfold M.turnPc
 split
 ·omega
 ·split
  ·exact target_in t7 (.inr (by assumption))
  ·split
   ·rename_i e; exact target_in t7 (.inl e.1)
   ·omega
theorem stepW_fine {p : List D.Ins} {x : D.Warp} (h : M.Goes p x) : M.Fine p (M.stepW p x) := by
 obtain ⟨hr, hl⟩ := h
 obtain ⟨t1, t2, t3, t4, t5, t6, t7, t8, t9⟩ := runs_top hr
 obtain ⟨f1, f2, f3, f4, f5, f6⟩ := runs_frames hr
 have hx := hr.2.2
 refine ⟨hr.1, ?_⟩
 have fin : ∀ (fs : List D.Frame) (rg : List Int), rg.length = 32 → rg.all M.isWord = true → fs.all (M.frameOk p.length) = true → fs.length ≤ 24 → (fs ≠ [] → (rd fs 0).Stop = p.length ∧ (rd fs 0).Mask = 255) → M.warpOf p (M.dropW ⟨x.Number, fs, rg⟩ p.length) = true := by
  intro fs rg g1 g2 g3 g4 g5
  simp only [M.warpOf, M.dropW, Bool.and_eq_true, beq_iff_eq]
  exact ⟨by simp only [M.isIn, Bool.and_eq_true, decide_eq_true_eq]; exact ⟨t8, t9⟩, g1, g2, drop_fine g3 g4 g5⟩
 have s0 := fun pc => setTop_first hx pc
 unfold M.stepW
 by_cases hs : M.splits p x = true
 ·rw [if_pos hs]
  obtain ⟨hsp, hz0, hzm⟩ := splits_iff hs
  have hb := split_branch hr hsp
  have hj := join_in hb
  have hact : M.activeMask x = (M.lastF x.Frames).Mask := activeMask_top hx
  obtain ⟨m1, m2, m3⟩ := mask_part (x := x) (reg := (M.topIns p x).A) (by rw [hact]; exact f5)
  rw [hact] at m2 m3
  have h22 : x.Frames.length ≤ 22 := by
   simp only [M.spec_l13Local, hs, Bool.and_eq_true, Bool.not_true, Bool.false_or, decide_eq_true_eq] at hl
   exact hl.2.2
  have hB := target_in t7 (.inl hsp.1)
  unfold M.separated
  refine fin _ _ t4 f6 ?_ ?_ fun _ => ?_
  ·rw [List.all_append, setTop_all f1 hx hj, Bool.true_and]
   simp only [List.all_cons, List.all_nil, Bool.and_true, M.frameOk, Bool.and_eq_true, M.isIn, decide_eq_true_eq, bne_iff_ne]
   unfold M.nodeIn at hj
   rw [m2]
   exact ⟨⟨by omega, hj, m3, by omega⟩, hB, hj, m1, hz0⟩
  ·simp only [List.length_append, M.setTop, List.length_set, List.length_cons, List.length_nil]; omega
  ·have e : rd (M.setTop x.Frames (M.joinB p (M.topPc x)) ++ [⟨M.topPc x + 1, M.joinB p (M.topPc x), bitNot .i64 (M.lastF x.Frames).Mask (M.zeroMask x (M.topIns p x).A)⟩, ⟨(M.topIns p x).B, M.joinB p (M.topPc x), M.zeroMask x (M.topIns p x).A⟩]) 0 = rd (M.setTop x.Frames (M.joinB p (M.topPc x))) 0 := by
     unfold rd
     rw [List.getD_eq_getElem?_getD, List.getD_eq_getElem?_getD, List.getElem?_append_left (by simp [M.setTop]; omega)]
   rw [e, (s0 _).1, (s0 _).2]
   exact ⟨f3, f4⟩
 ·rw [if_neg hs]
  unfold M.advance
  refine fin _ _ (applyAll_len t4) (applyTo_words t7 ⟨t8, t9⟩ t4 f6 8 (Nat.le_refl _)) (setTop_all f1 hx (turn_in hr)) (by simp only [M.setTop, List.length_set]; exact f2) fun _ => ?_
  rw [(s0 _).1, (s0 _).2]
  exact ⟨f3, f4⟩
end Go.V
namespace Go.V
open IntKind (wrap)
theorem fine_small {p : List D.Ins} {x : D.Warp} (h : M.Fine p x) : x.Frames.length ≤ 24 ∧ x.Regs.length = 32 := by
 have hw := h.2
 simp only [M.warpOf, M.areFrames, Bool.and_eq_true, Bool.or_eq_true, beq_iff_eq] at hw
 obtain ⟨h1, h2, h3, h4, h5⟩ := hw
 refine ⟨?_, h2⟩
 rcases h5 with h5 | h5
 ·have : x.Frames = [] := by simpa using h5
  rw [this]; simp
 ·simp only [M.endsOk, Bool.and_eq_true, decide_eq_true_eq] at h5
  exact h5.1
end Go.V
namespace Go.V
open IntKind (wrap)
def MemFit (i : D.Ins) : Prop := 0 ≤ i.A ∧ i.A ≤ 3 ∧ 0 ≤ i.B ∧ i.B ≤ 3
structure MemOk (s : List Int × List Int) : Prop where
 l1 : s.1.length = 32
 w1 : s.1.all M.isWord = true
 l2 : s.2.length = 32
 w2 : s.2.all M.isWord = true
theorem all_set {α : Type} {p : α → Bool} {l : List α} {k : Nat} {y : α} (h : l.all p = true) (hy : p y = true) : (l.set k y).all p = true := by
 rw [List.all_eq_true] at *
 intro x hx
 rcases List.mem_or_eq_of_mem_set hx with h1 | h1
 ·exact h _ h1
 ·rw [h1]; exact hy
theorem all_rdI {p : Int → Bool} {l : List Int} (h : l.all p = true) {z : Int} (h0 : 0 ≤ z) (h1 : z < (l.length : Int)) : p (rd l z) = true := List.all_eq_true.1 h _ (rd_of h0 h1)
theorem word_in {x : Int} (h : M.isWord x = true) : 0 ≤ x ∧ x ≤ 65535 := by
 simpa only [M.isWord, M.isIn, Bool.and_eq_true, decide_eq_true_eq] using h
theorem slot_in {x : Int} (h : M.isWord x = true) : 0 ≤ Int.tmod x 32 ∧ Int.tmod x 32 < 32 := tmod_in2 (word_in h).1 (by omega)
theorem memStep_ok {i : D.Ins} {s : List Int × List Int} {k : Int} (hi : MemFit i) (hs : MemOk s) (h0 : 0 ≤ k) (hk : k ≤ 7) : MemOk (M.memStep i s k) := by
 obtain ⟨a0, a1, b0, b1⟩ := hi
 obtain ⟨l1, w1, l2, w2⟩ := hs
 have wA := all_rdI w1 (z := k * 4 + i.A) (by omega) (by omega)
 have wB := all_rdI w1 (z := k * 4 + i.B) (by omega) (by omega)
 have pB := slot_in wB
 unfold M.memStep
 split
 ·exact ⟨by simpa using l1, all_set w1 (all_rdI w2 pB.1 (by omega)), l2, w2⟩
 ·split
  ·exact ⟨l1, w1, by simpa using l2, all_set w2 wB⟩
  ·split
   ·exact ⟨l1, w1, by simpa using l2, all_set w2 (addW_word _ _)⟩
   ·exact ⟨l1, w1, l2, w2⟩
theorem memTo_ok {i : D.Ins} {m : Int} {s : List Int × List Int} (hi : MemFit i) (hs : MemOk s) : ∀ k : Nat, k ≤ 8 → MemOk (M.memTo i m s k)
 | 0, _ => hs
 | k + 1, hk => by
  unfold M.memTo
  split
  ·exact memStep_ok hi (memTo_ok hi hs k (by omega)) (by omega) (by omega)
  ·exact memTo_ok hi hs k (by omega)
theorem far_ins {i : D.Ins} {n : Int} (h : M.insOk i n = true) (hl : M.isLocal i = false) : MemFit i ∧ (i.Op = 13 ∨ i.Op = 14 ∨ i.Op = 15 ∨ i.Op = 16) := by
 have hl' : ¬ (0 ≤ i.Op ∧ i.Op ≤ 12) := by
  intro hc
  rw [show M.isLocal i = true by simp only [M.isLocal, M.isIn, Bool.and_eq_true, decide_eq_true_eq]; exact hc] at hl
  cases hl
 unfold M.insOk at h
 rw [Bool.and_eq_true] at h
 have h := h.2
 unfold MemFit
 split at h
 ·rename_i e
  simp only [Bool.and_eq_true, beq_iff_eq] at h
  refine ⟨by omega, by omega⟩
 ·split at h
  ·omega
  ·split at h
   ·rename_i e
    simp only [M.isReg, M.isIn, Bool.and_eq_true, beq_iff_eq, decide_eq_true_eq] at h
    refine ⟨by omega, by omega⟩
   ·split at h
    ·omega
    ·split at h
     ·omega
     ·split at h
      ·omega
      ·simp only [M.isIn, Bool.and_eq_true, decide_eq_true_eq] at h
       omega
theorem memory_ok {b : D.Block} (h : M.blockOk b = true) : b.Memory.length = 32 ∧ b.Memory.all M.isWord = true := by
 simp only [M.blockOk, M.impl_isMemory, Bool.and_eq_true, beq_iff_eq] at h
 exact h.2.2.1
theorem live_mem {b : D.Block} {w : Int} (h : M.Live b w) : MemOk ((rd b.Warps w).Regs, b.Memory) := by
 have hr := has_runs h.1 h.2
 exact ⟨(runs_top hr).2.2.2.1, (runs_frames hr).2.2.2.2.2, (memory_ok (has_warp h.1).2.2.2.2.2).1, (memory_ok (has_warp h.1).2.2.2.2.2).2⟩
theorem live_far {b : D.Block} {w : Int} (h : M.Live b w) (hl : M.isLocal (M.nextI b w) = false) : MemFit (M.nextI b w) ∧ ((M.nextI b w).Op = 13 ∨ (M.nextI b w).Op = 14 ∨ (M.nextI b w).Op = 15 ∨ (M.nextI b w).Op = 16) :=
 far_ins (runs_top (has_runs h.1 h.2)).2.2.2.2.2.2.1 hl
theorem bitAnd_1 (x : Int) : bitAnd .i64 x 1 = x % 2 := by
 unfold bitAnd
 have e1 : (BitVec.ofInt (IntKind.bits .i64) x &&& BitVec.ofInt (IntKind.bits .i64) 1).toNat = (x % 2).toNat := by
  show (BitVec.ofInt 64 x &&& BitVec.ofInt 64 1).toNat = _
  rw [BitVec.toNat_and, BitVec.toNat_ofInt, show (BitVec.ofInt 64 1).toNat = 2 ^ 1 - 1 from rfl, Nat.and_two_pow_sub_one_eq_mod]
  rw [show ((2 ^ 64 : Nat) : Int) = 18446744073709551616 from rfl]
  omega
 rw [e1, w64 (by omega) (by omega)]
 omega
theorem or_check : ((List.range 8).all fun a => (List.range 4).all fun n => (List.range 3).all fun k => !(decide (1 ≤ n) && (decide (k < n) && decide (a < 2 ^ n))) || (decide (0 ≤ bitOr .i64 ((a : Nat) : Int) (M.bitAt ((k : Nat) : Int))) && decide (bitOr .i64 ((a : Nat) : Int) (M.bitAt ((k : Nat) : Int)) < 2 ^ n))) = true := by kernel_rfl
theorem full_check : ((List.range 4).all fun n => (List.range 3).all fun k => !decide (k < n) || (Int.fdiv (((2 ^ n - 1 : Nat)) : Int) (2 ^ (min (((k : Nat) : Int).toNat) (IntKind.bits .i64))) % 2 == 1)) = true := by kernel_rfl
theorem waitTop_check : ((List.range 4).all fun n => n == 0 || (M.waitTop n == (2 : Int) ^ n - 2)) = true := by kernel_rfl
theorem waitTop_eq {n : Nat} (h1 : 1 ≤ n) (h3 : n ≤ 3) : M.waitTop n = (2 : Int) ^ n - 2 := by
 have := List.all_eq_true.1 waitTop_check n (List.mem_range.2 (by omega))
 simp only [Bool.or_eq_true, beq_iff_eq] at this
 exact this.resolve_left (by omega)
theorem or_in {a : Int} {n k : Nat} (h1 : 1 ≤ n) (h3 : n ≤ 3) (hk : k < n) (h0 : 0 ≤ a) (ha : a ≤ M.waitTop n) : 0 ≤ bitOr .i64 a (M.bitAt (k : Int)) ∧ bitOr .i64 a (M.bitAt (k : Int)) < (2 : Int) ^ n := by
 rw [waitTop_eq h1 h3] at ha
 have hp : (2 : Int) ^ n ≤ 8 := by rcases (by omega : n = 1 ∨ n = 2 ∨ n = 3) with rfl | rfl | rfl <;> decide
 obtain ⟨m, rfl⟩ := Int.eq_ofNat_of_zero_le h0
 have hm : m < 2 ^ n := by have : ((m : Nat) : Int) < ((2 ^ n : Nat) : Int) := by push_cast; omega
                           omega
 have := List.all_eq_true.1 (List.all_eq_true.1 (List.all_eq_true.1 or_check m (List.mem_range.2 (by omega))) n (List.mem_range.2 (by omega))) k (List.mem_range.2 (by omega))
 simp only [Bool.or_eq_true, Bool.not_eq_true', Bool.and_eq_true, Bool.and_eq_false_iff, decide_eq_true_eq, decide_eq_false_iff_not] at this
 refine this.resolve_left fun hc => ?_
 rcases hc with hc | hc | hc
 ·exact hc h1
 ·exact hc hk
 ·exact hc hm
theorem full_waits {b : D.Block} {n k : Nat} (h3 : n ≤ 3) (hk : k < n) (h : b.Waiting = (2 : Int) ^ n - 1) : M.waits b (k : Int) = true := by
 unfold M.waits
 rw [bitAnd_1, beq_iff_eq, h]
 have := List.all_eq_true.1 (List.all_eq_true.1 full_check n (List.mem_range.2 (by omega))) k (List.mem_range.2 (by omega))
 simp only [Bool.or_eq_true, Bool.not_eq_true', decide_eq_false_iff_not, beq_iff_eq] at this
 have := this.resolve_left (by omega)
 have e : (((2 ^ n - 1 : Nat)) : Int) = (2 : Int) ^ n - 1 := by rcases (by omega : n = 0 ∨ n = 1 ∨ n = 2 ∨ n = 3) with rfl | rfl | rfl | rfl <;> rfl
 rw [← e]
 exact this
theorem allWait_full {b : D.Block} (h3 : b.Warps.length ≤ 3) (h : b.Waiting = (2 : Int) ^ b.Warps.length - 1) : ∀ k, k ≤ b.Warps.length → M.allWait b k = true
 | 0, _ => rfl
 | k + 1, hk => by
  unfold M.allWait
  rw [allWait_full h3 h k (by omega), full_waits h3 (by omega) h, Bool.or_true, Bool.true_and]
theorem ok_parts {b : D.Block} (h : M.blockOk b = true) : M.programOk b.Code = true ∧ 1 ≤ b.Warps.length ∧ b.Warps.length ≤ 3 ∧ 0 ≤ b.Waiting ∧ b.Waiting ≤ M.waitTop b.Warps.length ∧ 0 ≤ b.Phase ∧ b.Phase ≤ 100000 ∧ M.warpsOk b.Code 0 b.Warps = true := by
 simp only [M.blockOk, Bool.and_eq_true, M.isIn, decide_eq_true_eq] at h
 obtain ⟨h1, h2, h3, h4, h5, h6⟩ := h
 exact ⟨h1, by omega, by omega, h4.1, h4.2, h5.1, h5.2, h6⟩
theorem ok_of {b : D.Block} (h1 : M.programOk b.Code = true) (h2 : 1 ≤ b.Warps.length ∧ b.Warps.length ≤ 3) (h3 : b.Memory.length = 32 ∧ b.Memory.all M.isWord = true) (h4 : 0 ≤ b.Waiting ∧ b.Waiting ≤ M.waitTop b.Warps.length) (h5 : 0 ≤ b.Phase ∧ b.Phase ≤ 100000)
    (h6 : M.warpsOk b.Code 0 b.Warps = true) : M.blockOk b = true := by
 simp only [M.blockOk, M.impl_isMemory, Bool.and_eq_true, M.isIn, decide_eq_true_eq, beq_iff_eq]
 exact ⟨h1, ⟨by omega, by omega⟩, h3, h4, h5, h6⟩
theorem warpsOk_all {p : List D.Ins} : ∀ {l : List D.Warp} {k : Nat}, M.warpsOk p k l = true → ∀ x ∈ l, M.warpOf p x = true
 | [], _, _, _, hx => by cases hx
 | y :: l, k, h, x, hx => by
  simp only [M.warpsOk, M.warpAt, Bool.and_eq_true] at h
  rcases List.mem_cons.1 hx with rfl | hx
  ·exact h.1.2
  ·exact warpsOk_all h.2 x hx
theorem warpsOk_set {p : List D.Ins} {y : D.Warp} : ∀ {l : List D.Warp} {k n : Nat}, M.warpsOk p k l = true → M.warpAt p (k + n) y = true → M.warpsOk p k (l.set n y) = true
 | [], _, _, h, _ => by simp [M.warpsOk]
 | x :: l, k, 0, h, hy => by
  simp only [M.warpsOk, Bool.and_eq_true] at h
  simp only [List.set_cons_zero, M.warpsOk, Bool.and_eq_true]
  exact ⟨hy, h.2⟩
 | x :: l, k, n + 1, h, hy => by
  simp only [M.warpsOk, Bool.and_eq_true] at h
  simp only [List.set_cons_succ, M.warpsOk, Bool.and_eq_true]
  exact ⟨h.1, warpsOk_set h.2 (by rw [show k + 1 + n = k + (n + 1) by omega]; exact hy)⟩
theorem ok_small {b : D.Block} (h : M.blockOk b = true) : M.BSmall b := by
 obtain ⟨h1, h2, h3, _, _, _, _, h8⟩ := ok_parts h
 refine ⟨by have := prog_short h1; omega, ⟨by omega, fun x hx => ?_⟩, by have := (memory_ok h).1; omega⟩
 have := fine_small (x := x) ⟨h1, warpsOk_all h8 x hx⟩
 unfold M.WSmall; omega
theorem runs_regs {p : List D.Ins} {x : D.Warp} {rg : List Int} (h : M.Runs p x) (hl : rg.length = 32) (hw : rg.all M.isWord = true) : M.Runs p ⟨x.Number, x.Frames, rg⟩ := by
 obtain ⟨h1, h2, h3⟩ := h
 refine ⟨h1, ?_, h3⟩
 simp only [M.warpOf, Bool.and_eq_true, beq_iff_eq] at h2 ⊢
 exact ⟨h2.1, hl, hw, h2.2.2.2⟩
theorem pass_fine {p : List D.Ins} {x : D.Warp} (h : M.Runs p x) : M.Fine p (M.passTop p x) := by
 obtain ⟨t1, t2, t3, t4, t5, t6, t7, t8, t9⟩ := runs_top h
 obtain ⟨f1, f2, f3, f4, f5, f6⟩ := runs_frames h
 have hx := h.2.2
 refine ⟨h.1, ?_⟩
 simp only [M.passTop, M.warpOf, M.dropW, Bool.and_eq_true, beq_iff_eq]
 refine ⟨by simp only [M.isIn, Bool.and_eq_true, decide_eq_true_eq]; exact ⟨t8, t9⟩, t4, f6, drop_fine (setTop_all f1 hx ⟨by omega, by omega⟩) (by simp only [M.setTop, List.length_set]; exact f2) fun _ => ?_⟩
 rw [(setTop_first hx _).1, (setTop_first hx _).2]
 exact ⟨f3, f4⟩
theorem go_parts {b : D.Block} {w : Int} (h : M.CanGo b w) : M.Live b w ∧ M.waits b w = false ∧ (M.isLocal (M.nextI b w) = true → M.Goes b.Code (rd b.Warps w)) := by
 obtain ⟨hh, hg⟩ := h
 simp only [M.canGo, Bool.and_eq_true, Bool.not_eq_true'] at hg
 obtain ⟨g1, g2, g3⟩ := hg
 have hx : (rd b.Warps w).Frames ≠ [] := by simpa using g1
 refine ⟨⟨hh, hx⟩, g2, fun hl => ⟨has_runs hh hx, ?_⟩⟩
 have hl : M.isLocal (M.topIns b.Code (rd b.Warps w)) = true := hl
 rw [if_pos hl] at g3
 simp only [M.spec_l13Local, g1, hl, g3, Bool.not_false, Bool.and_self]
theorem stepW_number (p : List D.Ins) (x : D.Warp) : (M.stepW p x).Number = x.Number := by
 unfold M.stepW M.dropW
 split <;> rfl
theorem access_warp {b : D.Block} {w : Int} {i : D.Ins} (h0 : 0 ≤ w) (h1 : w < (b.Warps.length : Int)) : rd (M.accessB b w i).Warps w = ⟨(rd b.Warps w).Number, (rd b.Warps w).Frames, (M.memAll i (rd b.Warps w) b.Memory).1⟩ := by
 unfold M.accessB
 exact rd_set h0 (by simpa using h1)
theorem memAll_ok {b : D.Block} {w : Int} (h : M.Live b w) (hl : M.isLocal (M.nextI b w) = false) : MemOk (M.memAll (M.nextI b w) (rd b.Warps w) b.Memory) := memTo_ok (live_far h hl).1 (live_mem h) 8 (Nat.le_refl _)
def actW (b : D.Block) (w : Int) : D.Warp := if M.isLocal (M.nextI b w) then M.stepW b.Code (rd b.Warps w) else M.passTop b.Code (rd (M.accessB b w (M.nextI b w)).Warps w)
theorem actB_warps (b : D.Block) (w : Int) : (M.actB b w).Warps = b.Warps.set w.toNat (actW b w) := by
 unfold M.actB actW
 split <;> rfl
theorem actW_ok {b : D.Block} {w : Int} (h : M.CanGo b w) : M.Fine b.Code (actW b w) ∧ (actW b w).Number = w := by
 obtain ⟨hv, _, hg⟩ := go_parts h
 obtain ⟨h0, h1, hp, hw, hn, hok⟩ := has_warp hv.1
 unfold actW
 split
 ·rename_i e; exact ⟨stepW_fine (hg e), by rw [stepW_number, hn]⟩
 ·rename_i e
  have e := Bool.eq_false_iff.2 e
  rw [access_warp h0 h1]
  have hm := memAll_ok hv e
  exact ⟨pass_fine (runs_regs (has_runs hv.1 hv.2) hm.l1 hm.w1), hn⟩
theorem actB_code (b : D.Block) (w : Int) : (M.actB b w).Code = b.Code := by unfold M.actB; split <;> rfl
theorem actB_phase (b : D.Block) (w : Int) : (M.actB b w).Phase = b.Phase := by unfold M.actB; split <;> rfl
theorem actB_len (b : D.Block) (w : Int) : (M.actB b w).Warps.length = b.Warps.length := by rw [actB_warps, List.length_set]
theorem actB_mem {b : D.Block} {w : Int} (h : M.CanGo b w) : (M.actB b w).Memory.length = 32 ∧ (M.actB b w).Memory.all M.isWord = true := by
 obtain ⟨hv, _, hg⟩ := go_parts h
 unfold M.actB
 split
 ·have := memory_ok (has_warp hv.1).2.2.2.2.2; exact this
 ·rename_i e
  have hm := memAll_ok hv (Bool.eq_false_iff.2 e)
  exact ⟨hm.l2, hm.w2⟩
theorem actB_wait {b : D.Block} {w : Int} (h : M.CanGo b w) : 0 ≤ (M.actB b w).Waiting ∧ (M.actB b w).Waiting < (2 : Int) ^ b.Warps.length := by
 obtain ⟨hv, _, hg⟩ := go_parts h
 obtain ⟨h0, h1, hp, hw, hn, hok⟩ := has_warp hv.1
 obtain ⟨p1, p2, p3, p4, p5, p6, p7, p8⟩ := ok_parts hok
 have hb : b.Waiting < (2 : Int) ^ b.Warps.length := by rw [waitTop_eq p2 p3] at p5; omega
 obtain ⟨k, rfl⟩ := Int.eq_ofNat_of_zero_le h0
 unfold M.actB
 split
 ·exact ⟨p4, hb⟩
 ·show 0 ≤ (if (M.nextI b (k : Int)).Op = 16 then bitOr .i64 b.Waiting (M.bitAt (k : Int)) else b.Waiting) ∧ (if (M.nextI b (k : Int)).Op = 16 then bitOr .i64 b.Waiting (M.bitAt (k : Int)) else b.Waiting) < _
  split
  ·exact or_in p2 p3 (by omega) p4 p5
  ·exact ⟨p4, hb⟩
theorem actB_warpsOk {b : D.Block} {w : Int} (h : M.CanGo b w) : M.warpsOk b.Code 0 (M.actB b w).Warps = true := by
 obtain ⟨hv, _, hg⟩ := go_parts h
 obtain ⟨h0, h1, hp, hw, hn, hok⟩ := has_warp hv.1
 obtain ⟨q1, q2⟩ := actW_ok h
 rw [actB_warps]
 refine warpsOk_set (ok_parts hok).2.2.2.2.2.2.2 ?_
 simp only [M.warpAt, Bool.and_eq_true, beq_iff_eq]
 exact ⟨by rw [q2]; omega, q1.2⟩
theorem stepB_code (b : D.Block) (w : Int) : (M.stepB b w).Code = b.Code := by unfold M.stepB M.closeB; split <;> exact actB_code b w
theorem stepB_warps (b : D.Block) (w : Int) : (M.stepB b w).Warps = b.Warps.set w.toNat (actW b w) := by unfold M.stepB M.closeB; split <;> exact actB_warps b w
theorem stepB_mem (b : D.Block) (w : Int) : (M.stepB b w).Memory = (M.actB b w).Memory := by unfold M.stepB M.closeB; split <;> rfl
theorem stepB_phase (b : D.Block) (w : Int) : (M.stepB b w).Phase = b.Phase ∨ (M.stepB b w).Phase = b.Phase + 1 := by
 unfold M.stepB M.closeB
 split
 ·right; show (M.actB b w).Phase + 1 = _; rw [actB_phase]
 ·left; exact actB_phase b w
theorem stepB_ok {b : D.Block} {w : Int} (h : M.CanGo b w) (hp : (M.stepB b w).Phase ≤ 100000) : M.blockOk (M.stepB b w) = true := by
 obtain ⟨hv, _, hg⟩ := go_parts h
 obtain ⟨h0, h1, hpr, hw, hn, hok⟩ := has_warp hv.1
 obtain ⟨p1, p2, p3, p4, p5, p6, p7, p8⟩ := ok_parts hok
 have hlen : (M.stepB b w).Warps.length = b.Warps.length := by rw [stepB_warps, List.length_set]
 refine ok_of (by rw [stepB_code]; exact p1) (by rw [hlen]; exact ⟨p2, p3⟩) (by rw [stepB_mem]; exact actB_mem h) ?_ ⟨by rcases stepB_phase b w with e | e <;> omega, hp⟩ (by rw [stepB_code, stepB_warps, ← actB_warps]; exact actB_warpsOk h)
 rw [hlen, waitTop_eq p2 p3]
 have hpos : (2 : Int) ≤ (2 : Int) ^ b.Warps.length := by rcases (by omega : b.Warps.length = 1 ∨ b.Warps.length = 2 ∨ b.Warps.length = 3) with e | e | e <;> rw [e] <;> decide
 obtain ⟨w0, w1⟩ := actB_wait h
 unfold M.stepB M.closeB
 split
 ·exact ⟨Int.le_refl _, by show (0 : Int) ≤ _; omega⟩
 ·rename_i e
  refine ⟨w0, ?_⟩
  by_cases ef : (M.actB b w).Waiting = (2 : Int) ^ b.Warps.length - 1
  ·exfalso
   apply e
   unfold M.spec_l30All
   rw [allWait_full (by rw [actB_len]; exact p3) (by rw [actB_len]; exact ef) _ (Nat.le_refl _), Bool.true_and, bne_iff_ne]
   omega
  ·omega
end Go.V
namespace Go.V
open IntKind (wrap)
theorem pickFrom_can {b : D.Block} (h : M.Good b) {f : Int} (hf : 0 ≤ f) : ∀ (r : Nat) (k : Int), 0 ≤ k → ¬ M.pickFrom b b.Warps.length f r k < 0 → M.CanGo b (M.pickFrom b b.Warps.length f r k)
 | 0, k, _, hn => (hn (by show (-1 : Int) < 0; omega)).elim
 | r + 1, k, hk, hn => by
  have hc := good_count h
  have ht := tmod_in2 (x := f + k) (n := b.Warps.length) (by omega) (by omega)
  unfold M.pickFrom at hn ⊢
  by_cases e : M.canGo b (Int.tmod (f + k) b.Warps.length) = true
  ·rw [if_pos e]; exact ⟨good_has h ht.1 ht.2, e⟩
  ·rw [if_neg e] at hn ⊢
   exact pickFrom_can h hf r (k + 1) (by omega) hn
theorem pick_can {b : D.Block} (h : M.Good b) {q : Int} (hq : 0 ≤ q) (hn : ¬ M.pick b q < 0) : M.CanGo b (M.pick b q) := by
 have hc := good_count h
 exact pickFrom_can h (tmod_in2 (x := q) (n := b.Warps.length) hq (by omega)).1 _ _ (Int.le_refl _) hn
theorem stops_f {f : Nat → Int} {x : D.Block} {k : Nat} (h : M.stops f x k = false) : 0 ≤ f k ∧ x.Phase ≠ 100000 ∧ ¬ M.pick x (f k) < 0 := by
 simp only [M.stops, Bool.or_eq_false_iff, decide_eq_false_iff_not, beq_eq_false_iff_ne] at h
 exact ⟨by omega, h.2.1, h.2.2⟩
theorem good_step {f : Nat → Int} {x : D.Block} {k : Nat} (h : M.Good x) (hs : M.stops f x k = false) : M.CanGo x (M.pick x (f k)) ∧ M.Good (M.stepB x (M.pick x (f k))) := by
 obtain ⟨h0, h1, h2⟩ := stops_f hs
 have hc := pick_can h h0 h2
 have hp := (ok_parts h.2).2.2.2.2.2.2.1
 have hok := stepB_ok hc (by rcases stepB_phase x (M.pick x (f k)) with e | e <;> omega)
 exact ⟨hc, small_long (ok_small hok), hok⟩
theorem goAt_code (f : Nat → Int) (b : D.Block) : ∀ k, (M.goAt f b k).Code = b.Code
 | 0 => rfl
 | k + 1 => by unfold M.goAt; rw [stepB_code, goAt_code f b k]
structure GoI (f : Nat → Int) (b : D.Block) (n k : Nat) : Prop where
 good : M.Good (M.goAt f b k)
 code : (M.goAt f b k).Code = b.Code
 run : M.goTo f n b 0 = M.goTo f (n - k) (M.goAt f b k) k
theorem goI_go {f : Nat → Int} {b : D.Block} {n k : Nat} (h : GoI f b n k) (hk : k < n) (hs : M.stops f (M.goAt f b k) k = false) : GoI f b n (k + 1) := by
 refine ⟨(good_step h.good hs).2, goAt_code f b (k + 1), ?_⟩
 rw [h.run, show n - k = (n - (k + 1)) + 1 by omega, M.goTo, if_neg (by rw [hs]; simp)]
 rfl
theorem goI_stop {f : Nat → Int} {b : D.Block} {n k : Nat} (h : GoI f b n k) (hk : k < n) (hs : M.stops f (M.goAt f b k) k = true) : M.goTo f n b 0 = (M.goAt f b k, (k : Int)) := by
 rw [h.run, show n - k = (n - (k + 1)) + 1 by omega, M.goTo, if_pos hs]
end Go.V
namespace Go.V
open IntKind (wrap)
theorem round {f : Nat → Int} {b : D.Block} {n k : Nat} (hF : GoI f b n k) (hk : k < n) {R : D.Block → Int → Prop} {N : D.Block → Prop} (hR : R (M.goTo f n b 0).1 (M.goTo f n b 0).2) (hN : GoI f b n (k + 1) → N (M.goAt f b (k + 1))) :
    (M.stops f (M.goAt f b k) k = true → R (M.goAt f b k) (k : Int)) ∧ (M.stops f (M.goAt f b k) k = false → M.CanGo (M.goAt f b k) (M.pick (M.goAt f b k) (f k)) ∧ N (M.stepB (M.goAt f b k) (M.pick (M.goAt f b k) (f k)))) := by
 refine ⟨fun e => ?_, fun e => ⟨(good_step hF.good e).1, hN (goI_go hF hk e)⟩⟩
 rw [goI_stop hF hk e] at hR
 exact hR
end Go.V
namespace Go.V
open IntKind (wrap)
theorem take_up {α : Type} [Inhabited α] {l : List α} {k : Nat} (h : k < l.length) : l.take (k + 1) = l.take k ++ [rd l (k : Int)] := by
 rw [rd_nat h]; simp
theorem seqAccess_len (k : Int) (n : Nat) : (M.seqAccess k n).length = n := by simp [M.seqAccess]
end Go.V
namespace Go.V
open IntKind (wrap)
def wp.spec_l33Of (s0 : D.Block) (x1 : Int) (Q : (List D.Access) → Prop) : Prop :=
 (M.spec_l30Next_pre s0 x1 ∧ ∀ r26, r26 = M.spec_l30Next s0 x1 → (∀ r35, r35 = M.spec_l01In r26.Op 13 15 → bcase (!r35) (Q ([] : List D.Access)) (JoinP (σ := Int × Unit) (fun J41 => bcase (r26.Op == 13) (J41 (r26.B, ())) (J41 (r26.A, ()))) (fun (p168 : Int × Unit) => match p168 with | (i40, _) => ((0 ≤ x1 ∧ x1 < (s0.Warps.length : Int)) ∧ (M.spec_ActiveMask_pre (rd s0.Warps x1) ∧ ∀ r61, r61 = M.spec_ActiveMask (rd s0.Warps x1) → LoopP (σ := (List Int) × Int × Unit) (fun (p164 : (List Int) × Int × Unit) next76 => match p164 with | (xs69, i72, _) => bcase (decide (i72 < 8)) ((∀ r78, r78 = M.spec_HasLane r61 i72 → bcase r78 (((0 ≤ x1 ∧ x1 < (s0.Warps.length : Int)) ∧ ((0 ≤ (wrap .i64 ((wrap .i64 (i72 * 4)) + i40)) ∧ (wrap .i64 ((wrap .i64 (i72 * 4)) + i40)) < (((rd s0.Warps x1).Regs).length : Int)) ∧ (M.spec_l04Put_pre xs69 (Int.tmod (rd ((rd s0.Warps x1).Regs) (wrap .i64 ((wrap .i64 (i72 * 4)) + i40))) 32) ∧ ∀ r105, r105 = M.spec_l04Put xs69 (Int.tmod (rd ((rd s0.Warps x1).Regs) (wrap .i64 ((wrap .i64 (i72 * 4)) + i40))) 32) → next76 (r105, (wrap .i64 (i72 + 1)), ()))))) (next76 (xs69, (wrap .i64 (i72 + 1)), ())))) (LoopP (σ := (List D.Access) × Int × Unit) (fun (p159 : (List D.Access) × Int × Unit) next126 => match p159 with | (xs119, i122, _) => bcase (decide (i122 < (xs69.length : Int))) (((0 ≤ i122 ∧ i122 < (xs69.length : Int)) ∧ ((xs119.length + ([(⟨s0.Phase, x1, (rd xs69 i122), r26.Op⟩ : D.Access)] : List D.Access).length ≤ 17179869184) ∧ next126 ((xs119 ++ ([(⟨s0.Phase, x1, (rd xs69 i122), r26.Op⟩ : D.Access)] : List D.Access)), (wrap .i64 (i122 + 1)), ())))) (Q xs119)) (([] : List D.Access), 0, ()))) (([] : List Int), 0, ())))))))
def wp.spec_AccessesOf (s0 : D.Block) (x1 : Int) (Q : (List D.Access) → Prop) : Prop :=
 (M.spec_CanStep_pre s0 x1 ∧ ∀ r23, r23 = M.spec_CanStep s0 x1 → bcase (!r23) (Q ([] : List D.Access)) ((M.spec_l33Of_pre s0 x1 ∧ ∀ r31, r31 = M.spec_l33Of s0 x1 → Q r31)))
def wp.impl_Block_accesses (s0 : D.Block) (x1 : Int) (Q : (List D.Access) → Prop) : Prop :=
 (M.impl_Block_nextIns_pre s0 x1 ∧ ∀ r23, r23 = M.impl_Block_nextIns s0 x1 → ((0 ≤ x1 ∧ x1 < (s0.Warps.length : Int)) ∧ (M.impl_ActiveMask_pre (rd s0.Warps x1) ∧ ∀ r51, r51 = M.impl_ActiveMask (rd s0.Warps x1) → (∀ r56, r56 = M.impl_LanesOf r51 → LoopP (σ := (List D.Access) × Int × Unit) (fun (p161 : (List D.Access) × Int × Unit) next70 => match p161 with | (xs63, i66, _) => bcase (decide (i66 < (r56.length : Int))) (((0 ≤ i66 ∧ i66 < (r56.length : Int)) ∧ ((0 ≤ x1 ∧ x1 < (s0.Warps.length : Int)) ∧ (M.impl_Warp_lane_pre (rd s0.Warps x1) (rd r56 i66) ∧ bcase (r23.1.Op == 13) (((0 ≤ r23.1.B ∧ r23.1.B < ((List.drop ((wrap .i64 ((rd r56 i66) * 4)).toNat) (List.take ((wrap .i64 ((wrap .i64 ((rd r56 i66) + 1)) * 4)).toNat) ((rd s0.Warps x1).Regs))).length : Int)) ∧ ((xs63.length + ([(⟨s0.Phase, x1, (Int.tmod (rd (List.drop ((wrap .i64 ((rd r56 i66) * 4)).toNat) (List.take ((wrap .i64 ((wrap .i64 ((rd r56 i66) + 1)) * 4)).toNat) ((rd s0.Warps x1).Regs))) r23.1.B) 32), r23.1.Op⟩ : D.Access)] : List D.Access).length ≤ 17179869184) ∧ next70 ((xs63 ++ ([(⟨s0.Phase, x1, (Int.tmod (rd (List.drop ((wrap .i64 ((rd r56 i66) * 4)).toNat) (List.take ((wrap .i64 ((wrap .i64 ((rd r56 i66) + 1)) * 4)).toNat) ((rd s0.Warps x1).Regs))) r23.1.B) 32), r23.1.Op⟩ : D.Access)] : List D.Access)), (wrap .i64 (i66 + 1)), ())))) (JoinP (σ := Bool × Unit) (fun J120 => bcase (r23.1.Op == 14) (J120 (true, ())) (J120 ((r23.1.Op == 15), ()))) (fun (p144 : Bool × Unit) => match p144 with | (b119, _) => bcase b119 (((0 ≤ r23.1.A ∧ r23.1.A < ((List.drop ((wrap .i64 ((rd r56 i66) * 4)).toNat) (List.take ((wrap .i64 ((wrap .i64 ((rd r56 i66) + 1)) * 4)).toNat) ((rd s0.Warps x1).Regs))).length : Int)) ∧ ((xs63.length + ([(⟨s0.Phase, x1, (Int.tmod (rd (List.drop ((wrap .i64 ((rd r56 i66) * 4)).toNat) (List.take ((wrap .i64 ((wrap .i64 ((rd r56 i66) + 1)) * 4)).toNat) ((rd s0.Warps x1).Regs))) r23.1.A) 32), r23.1.Op⟩ : D.Access)] : List D.Access).length ≤ 17179869184) ∧ next70 ((xs63 ++ ([(⟨s0.Phase, x1, (Int.tmod (rd (List.drop ((wrap .i64 ((rd r56 i66) * 4)).toNat) (List.take ((wrap .i64 ((wrap .i64 ((rd r56 i66) + 1)) * 4)).toNat) ((rd s0.Warps x1).Regs))) r23.1.A) 32), r23.1.Op⟩ : D.Access)] : List D.Access)), (wrap .i64 (i66 + 1)), ())))) (Q xs63))))))) ((M.slices_SortFunc_impl_Access_impl_Access_pre xs63 (fun z0_ z1_ => M.impl_Block_accesses_1 z0_ z1_) (fun z0_ z1_ => M.impl_Block_accesses_1_pre z0_ z1_) ∧ ∀ r147, r147 = M.slices_SortFunc_impl_Access_impl_Access xs63 (fun z0_ z1_ => M.impl_Block_accesses_1 z0_ z1_) → (M.slices_Compact_impl_Access_impl_Access_pre r147 ∧ ∀ r153, r153 = M.slices_Compact_impl_Access_impl_Access r147 → Q r153)))) (([] : List D.Access), 0, ())))))
def wp.impl_AccessesOf (s0 : D.Block) (x1 : Int) (Q : (List D.Access) → Prop) : Prop :=
 (M.impl_CanStep_pre s0 x1 ∧ ∀ r23, r23 = M.impl_CanStep s0 x1 → bcase (!r23) (Q ([] : List D.Access)) ((M.impl_Block_accesses_pre s0 x1 ∧ ∀ r28, r28 = M.impl_Block_accesses s0 x1 → Q r28)))
def wp.laws_FnExactAccessesOf (s0 : D.Block) (x1 : Int) (Q : Bool → Prop) : Prop :=
 (M.laws_szBlock_pre s0 1048576 ∧ ∀ r23, r23 = M.laws_szBlock s0 1048576 → bcase (decide (r23 < 0)) (Q true) ((M.laws_toBlock_pre s0 ∧ ∀ r28, r28 = M.laws_toBlock s0 → (M.spec_AccessesOf_pre r28 x1 ∧ ∀ r40, r40 = M.spec_AccessesOf r28 x1 → (M.laws_toBlock_pre s0 ∧ ∀ r47, r47 = M.laws_toBlock s0 → (M.impl_AccessesOf_pre r47 x1 ∧ ∀ r63, r63 = M.impl_AccessesOf r47 x1 → (M.laws_eqAccessS_pre r63 r40 ∧ ∀ r70, r70 = M.laws_eqAccessS r63 r40 → bcase (!r70) (Q false) ((M.laws_toBlock_pre s0 ∧ ∀ r76, r76 = M.laws_toBlock s0 → (M.laws_eqBlock_pre r47 r76 ∧ ∀ r88, r88 = M.laws_eqBlock r47 r76 → bcase (!r88) (Q false) ((M.laws_markBlock_pre r47 1 ∧ ∀ r93, r93 = M.laws_markBlock r47 1 → bcase (decide (r93.1 < 0)) (Q false) ((M.laws_eqAccessS_pre r63 r40 ∧ ∀ r101, r101 = M.laws_eqAccessS r63 r40 → bcase (!r101) (Q false) ((M.laws_markAccessS_pre r63 1 ∧ ∀ r106, r106 = M.laws_markAccessS r63 1 → (M.laws_heldAccessS_pre r106.2 1 ∧ ∀ r112, r112 = M.laws_heldAccessS r106.2 1 → bcase (decide (r112 < 0)) (Q false) (bcase (r112 != r106.1) (Q false) ((M.laws_toBlock_pre s0 ∧ ∀ r117, r117 = M.laws_toBlock s0 → (M.impl_AccessesOf_pre r117 x1 ∧ ∀ r129, r129 = M.impl_AccessesOf r117 x1 → (M.laws_eqAccessS_pre r129 r40 ∧ ∀ r136, r136 = M.laws_eqAccessS r129 r40 → bcase (!r136) (Q false) ((M.laws_heldAccessS_pre r106.2 1 ∧ ∀ r141, r141 = M.laws_heldAccessS r106.2 1 → bcase (decide (r141 < 0)) (Q false) (bcase (r141 != r106.1) (Q false) (Q true))))))))))))))))))))))))))
end Go.V
namespace Go.V
open IntKind (wrap)
theorem cmpInt_neg {x y : Int} : M.cmpInt x y < 0 ↔ x < y := by
 unfold M.cmpInt
 split
 ·simp [*]
 ·split <;> omega
theorem ins_sorted {x : Int} : ∀ r : List Int, r.Pairwise (fun a b => b ≤ a) → (M.insG M.cmpInt x r).Pairwise (fun a b => b ≤ a)
 | [], _ => by simp [M.insG]
 | y :: r, h => by
  obtain ⟨h1, h2⟩ := List.pairwise_cons.1 h
  unfold M.insG
  split
  ·rename_i e
   rw [cmpInt_neg] at e
   refine List.pairwise_cons.2 ⟨fun z hz => ?_, ins_sorted r h2⟩
   rcases (ins_mem r).1 hz with rfl | hz
   ·omega
   ·exact h1 z hz
  ·rename_i e
   rw [cmpInt_neg] at e
   refine List.pairwise_cons.2 ⟨fun z hz => ?_, h⟩
   rcases List.mem_cons.1 hz with rfl | hz
   ·omega
   ·have := h1 z hz; omega
theorem fold_sorted : ∀ (l r : List Int), r.Pairwise (fun a b => b ≤ a) → (l.foldl (fun r x => M.insG M.cmpInt x r) r).Pairwise (fun a b => b ≤ a)
 | [], r, h => h
 | x :: l, r, h => by simp only [List.foldl_cons]; exact fold_sorted l _ (ins_sorted r h)
theorem sort_sorted (l : List Int) : (M.sortG M.cmpInt l).Pairwise (fun a b => a ≤ b) := by
 unfold M.sortG
 rw [List.pairwise_reverse]
 exact fold_sorted l [] List.Pairwise.nil
theorem sqz_strict : ∀ (l : List Int) (x : Int), (x :: l).Pairwise (fun a b => a ≤ b) → (x :: M.sqz x l).Pairwise (fun a b => a < b) ∧ ∀ z, z ∈ x :: M.sqz x l ↔ z ∈ x :: l
 | [], x, _ => by simp [M.sqz]
 | y :: l, x, h => by
  obtain ⟨h1, h2⟩ := List.pairwise_cons.1 h
  obtain ⟨h3, h4⟩ := List.pairwise_cons.1 h2
  unfold M.sqz
  by_cases e : y = x
  ·rw [if_pos e]
   subst e
   obtain ⟨g1, g2⟩ := sqz_strict l y h2
   exact ⟨g1, fun z => by rw [g2]; simp⟩
  ·rw [if_neg e]
   obtain ⟨g1, g2⟩ := sqz_strict l y h2
   refine ⟨List.pairwise_cons.2 ⟨fun z hz => ?_, g1⟩, fun z => by rw [List.mem_cons, g2 z, List.mem_cons (a := z) (b := x)]⟩
   have hxy := h1 y (by simp)
   rcases List.mem_cons.1 ((g2 z).1 hz) with rfl | hz
   ·omega
   ·have := h3 z hz; omega
theorem squeeze_strict {l : List Int} (h : l.Pairwise (fun a b => a ≤ b)) : (M.squeeze l).Pairwise (fun a b => a < b) ∧ ∀ z, z ∈ M.squeeze l ↔ z ∈ l := by
 cases l with
 | nil => exact ⟨List.Pairwise.nil, fun z => Iff.rfl⟩
 | cons x l => exact sqz_strict l x h
theorem strict_ext : ∀ {a b : List Int}, a.Pairwise (fun x y => x < y) → b.Pairwise (fun x y => x < y) → (∀ z, z ∈ a ↔ z ∈ b) → a = b
 | [], [], _, _, _ => rfl
 | [], y :: b, _, _, h => by have := (h y).2 (by simp); simp at this
 | x :: a, [], _, _, h => by have := (h x).1 (by simp); simp at this
 | x :: a, y :: b, ha, hb, h => by
  obtain ⟨a1, a2⟩ := List.pairwise_cons.1 ha
  obtain ⟨b1, b2⟩ := List.pairwise_cons.1 hb
  have e : x = y := by
   rcases List.mem_cons.1 ((h x).1 (by simp)) with e | hx
   ·exact e
   ·rcases List.mem_cons.1 ((h y).2 (by simp)) with e | hy
    ·exact e.symm
    ·have := a1 y hy; have := b1 x hx; omega
  subst e
  refine congrArg _ (strict_ext a2 b2 fun z => ⟨fun hz => ?_, fun hz => ?_⟩)
  ·rcases List.mem_cons.1 ((h z).1 (List.mem_cons_of_mem _ hz)) with e | h2
   ·have := a1 z hz; omega
   ·exact h2
  ·rcases List.mem_cons.1 ((h z).2 (List.mem_cons_of_mem _ hz)) with e | h2
   ·have := b1 z hz; omega
   ·exact h2
theorem putAt_top (l : List Int) (n : Int) : ∀ m, M.putAt l n m ≤ m
 | 0 => Nat.le_refl _
 | m + 1 => by
  unfold M.putAt
  split
  ·have := putAt_top l n m; omega
  ·omega
theorem putAt_big (l : List Int) (n : Int) : ∀ m i, M.putAt l n m ≤ i → i < m → rd l (i : Int) > n
 | 0, i, _, h => by omega
 | m + 1, i, h, hi => by
  unfold M.putAt at h
  split at h
  ·rename_i e
   by_cases ei : i = m
   ·rw [ei]; exact e
   ·exact putAt_big l n m i h (by omega)
  ·omega
theorem putAt_small (l : List Int) (n : Int) : ∀ m, 0 < M.putAt l n m → rd l ((M.putAt l n m - 1 : Nat) : Int) ≤ n
 | 0, h => by simp [M.putAt] at h
 | m + 1, h => by
  unfold M.putAt at h ⊢
  split
  ·rename_i e; rw [if_pos e] at h; exact putAt_small l n m h
  ·rename_i e; rw [Nat.add_sub_cancel]; omega
theorem put_strict {l : List Int} (h : l.Pairwise (fun a b => a < b)) (n : Int) : (M.spec_l04Put l n).Pairwise (fun a b => a < b) ∧ ∀ z, z ∈ M.spec_l04Put l n ↔ z ∈ l ∨ z = n := by
 have hk := putAt_top l n l.length
 have hb := putAt_big l n l.length
 have hs := putAt_small l n l.length
 unfold M.spec_l04Put
 generalize M.putAt l n l.length = k at *
 have hg := List.pairwise_iff_getElem.1 h
 by_cases e : k > 0 ∧ rd l (((k : Nat) : Int) - 1) = n
 ·rw [if_pos e]
  refine ⟨h, fun z => ⟨.inl, fun hz => ?_⟩⟩
  rcases hz with hz | rfl
  ·exact hz
  ·rw [← e.2]; exact rd_of (by omega) (by omega)
 ·rw [if_neg e]
  have low : ∀ z ∈ l.take k, z < n := fun z hz => by
   obtain ⟨i, hi, rfl⟩ := List.getElem_of_mem hz
   rw [List.length_take] at hi
   rw [List.getElem_take]
   have h0 : 0 < k := by omega
   have hs := hs h0
   have hne : ¬ rd l (((k : Nat) : Int) - 1) = n := fun hh => e ⟨h0, hh⟩
   rw [show ((k : Nat) : Int) - 1 = ((k - 1 : Nat) : Int) by omega] at hne
   rw [rd_nat (by omega)] at hs hne
   by_cases ei : i = k - 1
   ·subst ei; omega
   ·have := hg i (k - 1) (by omega) (by omega) (by omega); omega
  have high : ∀ z ∈ l.drop k, n < z := fun z hz => by
   obtain ⟨i, hi, rfl⟩ := List.getElem_of_mem hz
   rw [List.length_drop] at hi
   rw [List.getElem_drop]
   have := hb (k + i) (by omega) (by omega)
   rw [rd_nat (by omega)] at this
   omega
  have hp := h
  rw [← List.take_append_drop k l, List.pairwise_append] at hp
  refine ⟨?_, fun z => ?_⟩
  ·rw [List.append_assoc, List.pairwise_append]
   refine ⟨hp.1, ?_, fun x hx y hy => ?_⟩
   ·rw [List.pairwise_append]
    exact ⟨by simp, hp.2.1, fun x hx y hy => by rw [List.mem_singleton.1 hx]; exact high y hy⟩
   ·rcases List.mem_append.1 hy with hy | hy
    ·rw [List.mem_singleton.1 hy]; exact low x hx
    ·exact hp.2.2 x hx y hy
  ·have : z ∈ l ↔ z ∈ l.take k ∨ z ∈ l.drop k := by rw [← List.mem_append, List.take_append_drop]
   rw [this]
   simp only [List.mem_append, List.mem_singleton]
   constructor
   ·rintro ((h | h) | h) <;> simp [h]
   ·rintro ((h | h) | h) <;> simp [h]
theorem putAll_up (l : List Int) (x : Int) : M.putAll (l ++ [x]) = M.spec_l04Put (M.putAll l) x := by simp [M.putAll]
theorem foldPut : ∀ (l r : List Int), r.Pairwise (fun a b => a < b) → (l.foldl M.spec_l04Put r).Pairwise (fun a b => a < b) ∧ ∀ z, z ∈ l.foldl M.spec_l04Put r ↔ z ∈ r ∨ z ∈ l
 | [], r, h => ⟨h, fun z => by simp⟩
 | x :: l, r, h => by
  obtain ⟨p1, p2⟩ := put_strict h x
  obtain ⟨q1, q2⟩ := foldPut l _ p1
  simp only [List.foldl_cons]
  refine ⟨q1, fun z => ?_⟩
  rw [q2, p2, List.mem_cons]
  constructor
  ·rintro ((h | h) | h) <;> simp [h]
  ·rintro (h | h | h) <;> simp [h]
theorem putAll_strict (l : List Int) : (M.putAll l).Pairwise (fun a b => a < b) ∧ ∀ z, z ∈ M.putAll l ↔ z ∈ l := by
 obtain ⟨h1, h2⟩ := foldPut l [] List.Pairwise.nil
 exact ⟨h1, fun z => by rw [show M.putAll l = l.foldl M.spec_l04Put [] from rfl, h2]; simp⟩
theorem put_len (l : List Int) (n : Int) : (M.spec_l04Put l n).length ≤ l.length + 1 := by
 have hk := putAt_top l n l.length
 unfold M.spec_l04Put
 split
 ·omega
 ·simp; omega
theorem putAll_len : ∀ (l r : List Int), (l.foldl M.spec_l04Put r).length ≤ r.length + l.length
 | [], r => by simp
 | x :: l, r => by
  simp only [List.foldl_cons]
  have := putAll_len l (M.spec_l04Put r x)
  have := put_len r x
  simp; omega
theorem sort_put (l : List Int) : M.squeeze (M.sortG M.cmpInt l) = M.putAll l := by
 obtain ⟨h1, h2⟩ := squeeze_strict (sort_sorted l)
 obtain ⟨h3, h4⟩ := putAll_strict l
 exact strict_ext h1 h3 fun z => by rw [h2, sort_mem, h4]
theorem ins_map {α β : Type} {f : α → β} {g : β → β → Int} {h : α → α → Int} (hg : ∀ x y, g (f x) (f y) = h x y) (x : α) : ∀ r : List α, M.insG g (f x) (r.map f) = (M.insG h x r).map f
 | [] => rfl
 | y :: r => by
  simp only [List.map_cons, M.insG, hg]
  split
  ·rw [ins_map hg x r]; rfl
  ·rfl
theorem fold_map {α β : Type} {f : α → β} {g : β → β → Int} {h : α → α → Int} (hg : ∀ x y, g (f x) (f y) = h x y) : ∀ (l r : List α), (l.map f).foldl (fun r x => M.insG g x r) (r.map f) = (l.foldl (fun r x => M.insG h x r) r).map f
 | [], r => rfl
 | x :: l, r => by simp only [List.map_cons, List.foldl_cons]; rw [ins_map hg, fold_map hg l]
theorem sort_map {α β : Type} {f : α → β} {g : β → β → Int} {h : α → α → Int} (hg : ∀ x y, g (f x) (f y) = h x y) (l : List α) : M.sortG g (l.map f) = (M.sortG h l).map f := by
 unfold M.sortG
 have := fold_map hg l []
 rw [List.map_nil] at this
 rw [this, List.map_reverse]
theorem sqz_map {α β : Type} [DecidableEq α] [DecidableEq β] {f : α → β} (hf : ∀ x y, f x = f y → x = y) : ∀ (l : List α) (x : α), M.sqz (f x) (l.map f) = (M.sqz x l).map f
 | [], x => rfl
 | y :: l, x => by
  simp only [List.map_cons, M.sqz]
  by_cases e : y = x
  ·subst e; simp [sqz_map hf l]
  ·have : ¬ f y = f x := fun h => e (hf _ _ h)
   simp [e, this, sqz_map hf l]
theorem squeeze_map {α β : Type} [DecidableEq α] [DecidableEq β] {f : α → β} (hf : ∀ x y, f x = f y → x = y) (l : List α) : M.squeeze (l.map f) = (M.squeeze l).map f := by
 cases l with
 | nil => rfl
 | cons x l => simp only [List.map_cons, M.squeeze, sqz_map hf]
theorem acc_sorted (b : D.Block) (w : Int) (l : List Int) : M.squeeze (M.sortG (fun x y => M.impl_Block_accesses_1 x y) (l.map (M.accAt b w))) = (M.putAll l).map (M.accAt b w) := by
 rw [sort_map (f := M.accAt b w) (h := M.cmpInt) (fun x y => rfl), squeeze_map (fun x y h => by injection h), sort_put]
theorem far_op {b : D.Block} {w : Int} (h : M.Live b w) (hf : M.isIn (M.nextI b w).Op 13 15 = true) : MemFit (M.nextI b w) := by
 simp only [M.isIn, Bool.and_eq_true, decide_eq_true_eq] at hf
 have hl : M.isLocal (M.nextI b w) = false := by
  simp only [M.isLocal, M.isIn, Bool.and_eq_false_iff, decide_eq_false_iff_not]; omega
 exact (live_far h hl).1
theorem regAt_in {i : D.Ins} (h : MemFit i) : 0 ≤ M.regAt i ∧ M.regAt i ≤ 3 := by
 obtain ⟨h1, h2, h3, h4⟩ := h
 unfold M.regAt
 split <;> omega
theorem cut_at {r : List Int} (h : r.length = 32) {l j : Int} (l0 : 0 ≤ l) (l7 : l ≤ 7) (j0 : 0 ≤ j) (j3 : j ≤ 3) :
    rd (List.drop ((wrap .i64 (l * 4)).toNat) (List.take ((wrap .i64 ((wrap .i64 (l + 1)) * 4)).toNat) r)) j = rd r (l * 4 + j) ∧ (List.drop ((wrap .i64 (l * 4)).toNat) (List.take ((wrap .i64 ((wrap .i64 (l + 1)) * 4)).toNat) r)).length = 4 := by
 rw [w64 (x := l * 4) (by omega) (by omega), w64 (x := l + 1) (by omega) (by omega), w64 (by omega) (by omega)]
 obtain ⟨n, rfl⟩ := Int.eq_ofNat_of_zero_le l0
 obtain ⟨m, rfl⟩ := Int.eq_ofNat_of_zero_le j0
 have e1 : ((n : Int) * 4).toNat = n * 4 := by omega
 have e2 : (((n : Int) + 1) * 4).toNat = (n + 1) * 4 := by omega
 have hlen : (List.drop (n * 4) (List.take ((n + 1) * 4) r)).length = 4 := by rw [List.length_drop, List.length_take]; omega
 rw [e1, e2]
 refine ⟨?_, hlen⟩
 rw [show (n : Int) * 4 + (m : Int) = ((n * 4 + m : Nat) : Int) by omega, rd_nat (by omega), rd_nat (by omega), List.getElem_drop, List.getElem_take]
theorem map_take_up {α β : Type} [Inhabited α] (f : α → β) {l : List α} {k : Nat} (h : k < l.length) : (l.take (k + 1)).map f = (l.take k).map f ++ [f (rd l (k : Int))] := by
 rw [take_up h]; simp
theorem wp.spec_l33Of.math (b : D.Block) (w : Int) (h : M.spec_l33Of_pre b w) : wp.spec_l33Of b w (fun r => r = M.spec_l33Of b w) := by
 have h : M.Live b w := h
 obtain ⟨h0, h1, hp, hw, hn, hok⟩ := has_warp h.1
 have hruns := has_runs h.1 h.2
 obtain ⟨t1, t2, t3, t4, t5, t6, t7, _⟩ := runs_top hruns
 have hF : M.Long (rd b.Warps w).Frames := by unfold M.Long; omega
 refine ⟨h, fun i hi r hr => ?_⟩
 have hi : i = M.nextI b w := hi
 have hr : r = M.isIn i.Op 13 15 := hr
 refine bcase_mk (fun e => ?_) fun e => ?_
 ·show _ = M.accesses b w
  unfold M.accesses
  rw [← hi, nt e hr]; rfl
 ·have hfar := nf e hr
  have hm := far_op h (by rw [← hi]; exact hfar)
  have hreg := regAt_in hm
  have hR : (M.putAll ((M.lanesOf (M.activeMask (rd b.Warps w))).map (M.addrAt b w))).map (M.accAt b w) = M.spec_l33Of b w := by
   show _ = M.accesses b w
   unfold M.accesses
   rw [← hi, hfar]; rfl
  refine joinP_of (M.regAt i, ()) ?_ fun J hJ => ?_
  ·refine ⟨⟨h0, h1⟩, hF, fun m gm => ?_⟩
   have gm : m = M.activeMask (rd b.Warps w) := gm
   rw [← gm] at hR
   have hL : M.lanesOf m = ((List.range 8).filter fun k : Nat => M.hasLane m (k : Int)).map fun k : Nat => (k : Int) := by
    unfold M.lanesOf
    rw [show [0, 1, 2, 3, 4, 5, 6, 7] = (List.range 8).map (fun k : Nat => (k : Int)) from rfl, List.filter_map]; rfl
   let A : Nat → List Int := fun k => (((List.range k).filter fun k : Nat => M.hasLane m (k : Int)).map fun k : Nat => (k : Int)).map (M.addrAt b w)
   have hA : ∀ k, (A k).length ≤ k := fun k => by
    show ((((List.range k).filter fun k : Nat => M.hasLane m (k : Int)).map fun k : Nat => (k : Int)).map (M.addrAt b w)).length ≤ k
    rw [List.length_map, List.length_map]
    have := List.length_filter_le (fun k : Nat => M.hasLane m (k : Int)) (List.range k)
    simpa using this
   have hup : ∀ k : Nat, A (k + 1) = if M.hasLane m (k : Int) then A k ++ [M.addrAt b w (k : Int)] else A k := fun k => by
    show ((((List.range (k + 1)).filter fun k : Nat => M.hasLane m (k : Int)).map fun k : Nat => (k : Int)).map (M.addrAt b w)) = _
    rw [List.range_succ, List.filter_append, List.map_append, List.map_append]
    by_cases e : M.hasLane m (k : Int) = true
    ·rw [if_pos e]; simp [e, A]
    ·rw [if_neg e]; simp [e, A]
   have hA8 : A 8 = (M.lanesOf m).map (M.addrAt b w) := by rw [hL]
   rw [← hA8] at hR
   clear_value A
   refine loop_n 8 (fun k => (M.putAll (A k), (k : Int), ())) (fun _ => True) ?_ trivial (fun k hk _ next hn => ?_) fun _ next => ?_
   ·have : A 0 = [] := List.eq_nil_of_length_eq_zero (by have := hA 0; omega)
    rw [this]; rfl
   ·have hn := hn trivial
    rw [hup] at hn
    have hlen := putAll_len (A k) []
    have hAk := hA k
    dsimp only
    rw [w64 (x := (k : Int) * 4) (by omega) (by omega), w64 (x := (k : Int) * 4 + M.regAt i) (by rw [hi]; omega) (by rw [hi]; omega), up64 (n := 8) hk (by omega)]
    refine bcase_t (by simp; omega) (fun r hr => bcase_mk (fun e => ⟨⟨h0, h1⟩, ⟨by rw [hi]; omega, by rw [hi]; omega⟩, ?_, fun r2 hr2 => ?_⟩) fun e => ?_)
    ·show (M.putAll (A k)).length ≤ _
     show ((A k).foldl M.spec_l04Put []).length ≤ _
     simp only [List.length_nil] at hlen; omega
    ·have hr : r = M.hasLane m (k : Int) := hr
     rw [if_pos (hr.symm.trans e), putAll_up] at hn
     have hr2 : r2 = M.spec_l04Put (M.putAll (A k)) (M.addrAt b w (k : Int)) := by rw [hr2, hi]; rfl
     rw [hr2]; exact hn
    ·have hr : r = M.hasLane m (k : Int) := hr
     rw [if_neg (by rw [← hr, e]; simp)] at hn
     exact hn
   ·have hlen := putAll_len (A 8) []
    have hA8 := hA 8
    have hlen : (M.putAll (A 8)).length ≤ 8 := by
     show ((A 8).foldl M.spec_l04Put []).length ≤ 8
     simp only [List.length_nil] at hlen; omega
    generalize M.putAll (A 8) = P at *
    refine bcase_f (by simp) ?_
    refine loop_n P.length (fun k => ((P.take k).map (M.accAt b w), (k : Int), ())) (fun _ => True) rfl trivial (fun k hk _ next hn => ?_) fun _ next => ?_
    ·have hn := hn trivial
     rw [map_take_up _ hk] at hn
     dsimp only
     rw [up64 hk (by omega)]
     refine bcase_t (by simp; omega) ⟨⟨by omega, by omega⟩, by simp; omega, ?_⟩
     rw [hi]; exact hn
    ·refine bcase_f (by simp) ?_
     rw [List.take_length]; exact hR
  ·unfold M.regAt at hJ
   refine bcase_mk (fun e => ?_) fun e => ?_
   ·rw [if_pos (by simpa using e)] at hJ; exact hJ
   ·rw [if_neg (by simpa using e)] at hJ; exact hJ
theorem wp.impl_Block_accesses.math (b : D.Block) (w : Int) (h : M.impl_Block_accesses_pre b w) : wp.impl_Block_accesses b w (fun r => r = M.impl_Block_accesses b w) := by
 have h : M.Live b w := h
 obtain ⟨h0, h1, hp, hw, hn, hok⟩ := has_warp h.1
 have hruns := has_runs h.1 h.2
 obtain ⟨t1, t2, t3, t4, t5, t6, t7, _⟩ := runs_top hruns
 have hF : M.Long (rd b.Warps w).Frames := by unfold M.Long; omega
 refine ⟨h.1, fun i hi => ⟨⟨h0, h1⟩, hF, fun m gm L gL => ?_⟩⟩
 have gm : m = M.activeMask (rd b.Warps w) := gm
 have gL : L = M.lanesOf m := gL
 have hi : i = (M.nextI b w, true) := by
  rw [hi]; unfold M.impl_Block_nextIns
  rw [if_neg (by simpa using h.2)]
 subst hi
 have hLl : L.length ≤ 8 := by rw [gL]; exact lanes_len m
 have hLi : ∀ l ∈ L, 0 ≤ l ∧ l ≤ 7 := fun l hl => lanes_in (by rw [← gL]; exact hl)
 have fin : ∀ out : List D.Access, out.length ≤ 8 → M.squeeze (M.sortG (fun x y => M.impl_Block_accesses_1 x y) out) = M.impl_Block_accesses b w →
     (M.slices_SortFunc_impl_Access_impl_Access_pre out (fun z0_ z1_ => M.impl_Block_accesses_1 z0_ z1_) (fun z0_ z1_ => M.impl_Block_accesses_1_pre z0_ z1_) ∧ ∀ r147, r147 = M.slices_SortFunc_impl_Access_impl_Access out (fun z0_ z1_ => M.impl_Block_accesses_1 z0_ z1_) → (M.slices_Compact_impl_Access_impl_Access_pre r147 ∧ ∀ r153, r153 = M.slices_Compact_impl_Access_impl_Access r147 → r153 = M.impl_Block_accesses b w)) := fun out ho he => by
  refine ⟨⟨by omega, fun _ _ _ _ => trivial⟩, fun r hr => ?_⟩
  have hr : r = M.sortG (fun x y => M.impl_Block_accesses_1 x y) out := hr
  refine ⟨?_, fun r2 hr2 => ?_⟩
  ·show r.length ≤ _
   rw [hr, sort_len]; omega
  ·rw [hr2, hr]; exact he
 by_cases hfar : M.isIn (M.nextI b w).Op 13 15 = true
 ·have hm := far_op h hfar
  have hreg := regAt_in hm
  obtain ⟨a0, a3, b0, b3⟩ := hm
  have hR : (M.putAll (L.map (M.addrAt b w))).map (M.accAt b w) = M.impl_Block_accesses b w := by
   show _ = M.accesses b w
   unfold M.accesses
   rw [hfar, gL, gm]; rfl
  have hop : (M.nextI b w).Op = 13 ∨ (M.nextI b w).Op = 14 ∨ (M.nextI b w).Op = 15 := by
   simp only [M.isIn, Bool.and_eq_true, decide_eq_true_eq] at hfar; omega
  refine loop_n L.length (fun k => (((L.take k).map (M.addrAt b w)).map (M.accAt b w), (k : Int), ())) (fun _ => True) rfl trivial (fun k hk _ next hn => ?_) fun _ next => ?_
  ·have hn := hn trivial
   rw [map_take_up _ hk, List.map_append] at hn
   have hl := hLi _ (rd_mem hk)
   have hlen : (((L.take k).map (M.addrAt b w)).map (M.accAt b w)).length ≤ 8 := by rw [List.length_map, List.length_map, List.length_take]; omega
   dsimp only
   rw [up64 hk (by omega)]
   have hA := cut_at t4 hl.1 hl.2 a0 a3
   have hB := cut_at t4 hl.1 hl.2 b0 b3
   refine bcase_t (by simp; omega) ⟨⟨by omega, by omega⟩, ⟨h0, h1⟩, ⟨t4, hl.1, hl.2⟩, bcase_mk (fun e => ?_) fun e => ?_⟩
   ·have e : (M.nextI b w).Op = 13 := by simpa using e
    rw [hB.1, hB.2]
    refine ⟨⟨b0, by omega⟩, by simp at hlen ⊢; omega, ?_⟩
    have : M.accAt b w (M.addrAt b w (rd L (k : Int))) = (⟨b.Phase, w, Int.tmod (rd (rd b.Warps w).Regs (rd L (k : Int) * 4 + (M.nextI b w).B)) 32, (M.nextI b w).Op⟩ : D.Access) := by
     unfold M.accAt M.addrAt M.regAt; rw [if_pos e]
    rw [List.map_singleton, this] at hn
    exact hn
   ·have e : ¬ (M.nextI b w).Op = 13 := by simpa using e
    have hb : (M.nextI b w).Op = 14 ∨ (M.nextI b w).Op = 15 := hop.resolve_left e
    refine joinP_of (true, ()) ?_ fun J hJ => bcase_mk (fun _ => hJ) fun e2 => ?_
    ·dsimp only
     rw [hA.1, hA.2]
     refine bcase_t rfl ⟨⟨a0, by omega⟩, by simp at hlen ⊢; omega, ?_⟩
     have : M.accAt b w (M.addrAt b w (rd L (k : Int))) = (⟨b.Phase, w, Int.tmod (rd (rd b.Warps w).Regs (rd L (k : Int) * 4 + (M.nextI b w).A)) 32, (M.nextI b w).Op⟩ : D.Access) := by
      unfold M.accAt M.addrAt M.regAt; rw [if_neg e]
     rw [List.map_singleton, this] at hn
     exact hn
    ·have e2 : ¬ (M.nextI b w).Op = 14 := by simpa using e2
     rw [show ((M.nextI b w).Op == 15) = true by simp; omega]; exact hJ
  ·refine bcase_f (by simp) ?_
   rw [List.take_length]
   refine fin _ (by rw [List.length_map, List.length_map]; exact hLl) ?_
   rw [acc_sorted]; exact hR
 ·have hfar := Bool.eq_false_iff.2 hfar
  have hR : [] = M.impl_Block_accesses b w := by
   show _ = M.accesses b w
   unfold M.accesses
   rw [hfar]; rfl
  have hop : ¬ (M.nextI b w).Op = 13 ∧ ¬ (M.nextI b w).Op = 14 ∧ ¬ (M.nextI b w).Op = 15 := by
   simp only [M.isIn, Bool.and_eq_false_iff, decide_eq_false_iff_not] at hfar; omega
  refine loop_n L.length (fun k => ([], (k : Int), ())) (fun k => k = 0) rfl rfl (fun k hk hF0 next hn => ?_) fun hF0 next => ?_
  ·have hl := hLi _ (rd_mem hk)
   refine bcase_t (by simp; omega) ⟨⟨by omega, by omega⟩, ⟨h0, h1⟩, ⟨t4, hl.1, hl.2⟩, bcase_f (by simpa using hop.1) ?_⟩
   refine joinP_of (false, ()) (bcase_f rfl hR) fun J hJ => bcase_f (by simpa using hop.2.1) ?_
   rw [show ((M.nextI b w).Op == 15) = false by simpa using hop.2.2]; exact hJ
  ·refine bcase_f (by simp) (fin [] (by simp) hR)
theorem canStep_go {b : D.Block} {w : Int} (h : M.BLong b) (hc : M.canStep b w = true) : M.CanGo b w := by
 simp only [M.canStep, Bool.and_eq_true] at hc
 exact ⟨⟨h, hc.1⟩, hc.2⟩
theorem wp.spec_AccessesOf.math (b : D.Block) (w : Int) (h : M.spec_AccessesOf_pre b w) : wp.spec_AccessesOf b w (fun r => r = M.spec_AccessesOf b w) := by
 refine ⟨h, fun r hr => bcase_mk (fun e => ?_) fun e => ?_⟩
 all_goals have hr : r = M.canStep b w := hr
 ·show _ = M.accessesOf b w
  unfold M.accessesOf; rw [nt e hr]; rfl
 ·have hc := nf e hr
  refine ⟨(go_parts (canStep_go h hc)).1, fun r2 hr2 => ?_⟩
  show _ = M.accessesOf b w
  unfold M.accessesOf; rw [hc]; exact hr2
theorem wp.impl_AccessesOf.math (b : D.Block) (w : Int) (h : M.impl_AccessesOf_pre b w) : wp.impl_AccessesOf b w (fun r => r = M.impl_AccessesOf b w) := by
 refine ⟨h, fun r hr => bcase_mk (fun e => ?_) fun e => ?_⟩
 all_goals have hr : r = M.canStep b w := hr
 ·show _ = M.accessesOf b w
  unfold M.accessesOf; rw [nt e hr]; rfl
 ·have hc := nf e hr
  refine ⟨(go_parts (canStep_go h hc)).1, fun r2 hr2 => ?_⟩
  show _ = M.accessesOf b w
  unfold M.accessesOf; rw [hc]; exact hr2
theorem accesses_len (b : D.Block) (w : Int) : (M.accesses b w).length ≤ 8 := by
 unfold M.accesses
 split
 ·rw [List.length_map]
  have := putAll_len ((M.lanesOf (M.activeMask (rd b.Warps w))).map (M.addrAt b w)) []
  have h8 := lanes_len (M.activeMask (rd b.Warps w))
  show (((M.lanesOf (M.activeMask (rd b.Warps w))).map (M.addrAt b w)).foldl M.spec_l04Put []).length ≤ 8
  rw [List.length_map] at this
  simp only [List.length_nil] at this
  omega
 ·simp
theorem wp.laws_FnExactAccessesOf.math (b : D.Block) (w : Int) (h : M.laws_FnExactAccessesOf_pre b w) : wp.laws_FnExactAccessesOf b w (fun r => r = M.laws_FnExactAccessesOf b w) := by
 refine ⟨⟨by unfold M.Left; omega, h⟩, fun r hr => bcase_mk (fun _ => rfl) fun e => ?_⟩
 obtain ⟨hs, hl⟩ := sz_small hr e
 have s1 := bsz_bound hs
 have hw : (M.accessesOf b w).length ≤ 8 := by
  unfold M.accessesOf
  split
  ·exact accesses_len b w
  ·simp
 have q4 : M.laws_markBlock_pre b 1 := ⟨by omega, by omega⟩
 have b1 : decide (1 + M.bsz b < 0) = false := decide_eq_false (by omega)
 simp only [M.laws_toBlock, forall_eq, M.spec_AccessesOf, M.impl_AccessesOf, M.laws_eqBlock, M.laws_markBlock, M.laws_eqAccessS, M.laws_markAccessS, M.laws_heldAccessS, seqAccess_len, if_true]
 generalize M.accessesOf b w = g at *
 have b2 : decide (1 + 4 * (g.length : Int) < 0) = false := decide_eq_false (by omega)
 have q5 : M.laws_eqAccessS_pre g g := by show g.length ≤ _; omega
 have q6 : M.laws_markAccessS_pre g 1 := ⟨⟨by omega, by omega⟩, by unfold M.Few; omega⟩
 have q7 : M.laws_heldAccessS_pre (M.seqAccess 1 g.length) 1 := ⟨⟨by omega, by omega⟩, by unfold M.Few; rw [seqAccess_len]; omega⟩
 simp only [beq_self_eq_true, bne_self_eq_false, Bool.not_true, b1, b2, bcase]
 exact ⟨hs, hl, hs, hl, q5, hs, hl, q4, q5, q6, q7, hs, hl, q5, q7, rfl⟩
end Go.V
