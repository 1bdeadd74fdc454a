import Derived.Test.YtkacokecjojkoaaGreatKRVBase
import Derived.Test.YtkacokecjojkoaaGreatKRVWords
import Derived.Test.YtkacokecjojkoaaGreatKRVOwn
import Derived.Test.YtkacokecjojkoaaGreatKRVLoop
import Derived.Test.YtkacokecjojkoaaGreatKRVDeep
import Derived.Test.YtkacokecjojkoaaGreatKRVEq
import Derived.Test.YtkacokecjojkoaaGreatKRVCut
import Derived.Test.YtkacokecjojkoaaGreatKRVPlc
import Derived.Test.YtkacokecjojkoaaGreatKRVFoc
import Derived.Test.YtkacokecjojkoaaGreatKRPure2
set_option linter.unusedVariables false
set_option linter.unusedSimpArgs false
set_option maxRecDepth 20000
namespace Go.V.M
open IntKind (wrap)
def slices_Clone_impl_Ins_impl_Ins (l : List D.Ins) : List D.Ins := l
def slices_Clone_impl_Ins_impl_Ins_pre (l : List D.Ins) : Prop := l.length ≤ 17179869184
def slices_Clone_impl_Frame_impl_Frame (l : List D.Frame) : List D.Frame := l
def slices_Clone_impl_Frame_impl_Frame_pre (l : List D.Frame) : Prop := l.length ≤ 17179869184
def WFit (x : D.Warp) : Prop := x.Frames.length ≤ 17179869184 ∧ x.Regs.length ≤ 17179869184
def BFit (b : D.Block) : Prop := b.Code.length ≤ 17179869184 ∧ (b.Warps.length ≤ 17179869184 ∧ ∀ x ∈ b.Warps, WFit x) ∧ b.Memory.length ≤ 17179869184
def spec_l12Copy (x : D.Warp) : D.Warp := x
def spec_l12Copy_pre (x : D.Warp) : Prop := WFit x
def spec_l29Copy (b : D.Block) : D.Block := b
def spec_l29Copy_pre (b : D.Block) : Prop := BFit b
def impl_copyWarp (x : D.Warp) : D.Warp := x
def impl_copyWarp_pre (x : D.Warp) : Prop := WFit x
def impl_copyBlock (b : D.Block) : D.Block := b
def impl_copyBlock_pre (b : D.Block) : Prop := BFit b
def seqFrame (k : Int) (n : Nat) : List D.Frame := (List.range n).map fun i : Nat => ⟨k + 3 * (i : Int), k + 3 * (i : Int) + 1, k + 3 * (i : Int) + 2⟩
def laws_markFrameS (a : List D.Frame) (k : Int) : Int × List D.Frame := (k + 3 * a.length, seqFrame k a.length)
def laws_markFrameS_pre (a : List D.Frame) (k : Int) : Prop := Small k ∧ Few a.length
def wsz (x : D.Warp) : Int := 1 + 3 * x.Frames.length + x.Regs.length
def markW (x : D.Warp) (k : Int) : D.Warp := ⟨k, seqFrame (k + 1) x.Frames.length, seqInt (k + 1 + 3 * x.Frames.length) x.Regs.length⟩
def markWs : List D.Warp → Int → List D.Warp
 | [], _ => []
 | x :: l, k => markW x k :: markWs l (k + wsz x)
def wssz : List D.Warp → Int
 | [] => 0
 | x :: l => wsz x + wssz l
def laws_markWarpS (a : List D.Warp) (k : Int) : Int × List D.Warp := (k + wssz a, markWs a k)
def laws_markWarpS_pre (a : List D.Warp) (k : Int) : Prop := 0 ≤ k ∧ k + wssz a ≤ 576460752303423488
def markB (b : D.Block) (k : Int) : D.Block := ⟨seqIns k b.Code.length, markWs b.Warps (k + 4 * b.Code.length), seqInt (k + 4 * b.Code.length + wssz b.Warps) b.Memory.length, b.Waiting, b.Phase⟩
def bsz (b : D.Block) : Int := 4 * b.Code.length + wssz b.Warps + b.Memory.length
def laws_markBlock (b : D.Block) (k : Int) : Int × List D.Ins × List D.Warp × List Int := (k + bsz b, (markB b k).Code, (markB b k).Warps, (markB b k).Memory)
def laws_markBlock_pre (b : D.Block) (k : Int) : Prop := 0 ≤ k ∧ k + bsz b ≤ 576460752303423488
def laws_heldInsS (a : List D.Ins) (k : Int) : Int := if a = seqIns k a.length then k + 4 * a.length else -1
def laws_heldInsS_pre (a : List D.Ins) (k : Int) : Prop := Small k ∧ Few a.length
def laws_heldFrameS (a : List D.Frame) (k : Int) : Int := if a = seqFrame k a.length then k + 3 * a.length else -1
def laws_heldFrameS_pre (a : List D.Frame) (k : Int) : Prop := Small k ∧ Few a.length
def laws_heldWarpS (a : List D.Warp) (k : Int) : Int := if a = markWs a k then k + wssz a else -1
def laws_heldWarpS_pre (a : List D.Warp) (k : Int) : Prop := 0 ≤ k ∧ k + wssz a ≤ 576460752303423488
def laws_heldBlock (b : D.Block) (k : Int) : Int := if b = markB b k then k + bsz b else -1
def laws_heldBlock_pre (b : D.Block) (k : Int) : Prop := 0 ≤ k ∧ k + bsz b ≤ 576460752303423488
end Go.V.M
namespace Go.V.M
open IntKind (wrap)
def impl_Warp_lane_pre (x : D.Warp) (l : Int) : Prop := x.Regs.length = 32 ∧ 0 ≤ l ∧ l ≤ 7
def activeMask (x : D.Warp) : Int := if x.Frames.isEmpty then 0 else (lastF x.Frames).Mask
def spec_ActiveMask := activeMask
def spec_ActiveMask_pre (x : D.Warp) : Prop := Long x.Frames
def impl_ActiveMask := activeMask
def impl_ActiveMask_pre (x : D.Warp) : Prop := Long x.Frames
def bitAt (k : Int) : Int := wrap .i64 (1 * 2 ^ (min (k.toNat) (IntKind.bits .i64)))
def zeroStep (x : D.Warp) (reg : Int) (m : Int) (k : Int) : Int := if rd x.Regs (k * 4 + reg) = 0 then bitOr .i64 m (bitAt k) else m
def zeroMask (x : D.Warp) (reg : Int) : Int := (lanesOf (activeMask x)).foldl (zeroStep x reg) 0
def impl_Warp_zeroMask := zeroMask
def impl_Warp_zeroMask_pre (x : D.Warp) (reg : Int) : Prop := Long x.Frames ∧ x.Regs.length = 32 ∧ isReg reg = true
def spec_ZeroMask (x : D.Warp) (reg : Int) : Int := if isReg reg && x.Regs.length == 32 then zeroMask x reg else 0
def spec_ZeroMask_pre (x : D.Warp) (reg : Int) : Prop := Long x.Frames
def Runs (p : List D.Ins) (x : D.Warp) : Prop := programOk p = true ∧ warpOf p x = true ∧ x.Frames ≠ []
def topPc (x : D.Warp) : Int := (lastF x.Frames).Pc
def topIns (p : List D.Ins) (x : D.Warp) : D.Ins := rd p (topPc x)
def splits (p : List D.Ins) (x : D.Warp) : Bool :=
 ((topIns p x).Op == 10 && (topIns p x).B != topPc x + 1) && (zeroMask x (topIns p x).A != 0 && zeroMask x (topIns p x).A != (lastF x.Frames).Mask)
def spec_l13Splits := splits
def spec_l13Splits_pre (p : List D.Ins) (x : D.Warp) : Prop := Runs p x
def impl_Warp_splits (x : D.Warp) (p : List D.Ins) : Bool := splits p x
def impl_Warp_splits_pre (x : D.Warp) (p : List D.Ins) : Prop := Runs p x
def spec_l13Local (p : List D.Ins) (x : D.Warp) : Bool := !x.Frames.isEmpty && (isLocal (topIns p x) && (!splits p x || decide (x.Frames.length ≤ 22)))
def spec_l13Local_pre (p : List D.Ins) (x : D.Warp) : Prop := programOk p = true ∧ warpOf p x = true
def canGo (b : D.Block) (w : Int) : Bool :=
 let x := rd b.Warps w
 !x.Frames.isEmpty && (!waits b w && (if isLocal (topIns b.Code x) then !splits b.Code x || decide (x.Frames.length ≤ 22) else (topIns b.Code x).Op != 16 || x.Frames.length == 1))
def spec_l30Can := canGo
def spec_l30Can_pre (b : D.Block) (w : Int) : Prop := Has b w
def impl_Block_canStep := canGo
def impl_Block_canStep_pre (b : D.Block) (w : Int) : Prop := Has b w
def pickFrom (b : D.Block) (n f : Int) : Nat → Int → Int
 | 0, _ => -1
 | r + 1, k => if canGo b (Int.tmod (f + k) n) then Int.tmod (f + k) n else pickFrom b n f r (k + 1)
def pick (b : D.Block) (q : Int) : Int := pickFrom b b.Warps.length (Int.tmod q b.Warps.length) b.Warps.length 0
def Good (b : D.Block) : Prop := BLong b ∧ blockOk b = true
def spec_l32Pick := pick
def spec_l32Pick_pre (b : D.Block) (q : Int) : Prop := Good b ∧ 0 ≤ q ∧ q ≤ 9223372036854775807
def impl_Block_pickWarp := pick
def impl_Block_pickWarp_pre (b : D.Block) (q : Int) : Prop := Good b ∧ 0 ≤ q ∧ q ≤ 9223372036854775807
end Go.V.M
namespace Go.V.M
open IntKind (wrap)
def PSmall (p : List D.Ins) : Prop := p.length ≤ 2097152
def Row34 {α : Type} (l : List α) : Prop := l.length ≤ 17179869183
def idx (g : Int → Bool) : Nat → List Int
 | 0 => []
 | k + 1 => if g (k : Int) then idx g k ++ [(k : Int)] else idx g k
def isBr (p : List D.Ins) (k : Int) : Bool := (rd p k).Op == 10 && (rd p k).B != k + 1
def branches (p : List D.Ins) : List Int := if programOk p then idx (isBr p) p.length else []
def others (l : List Int) (n : Int) : List Int := l.filter fun x => x != n
def has (l : List Int) (n : Int) : Bool := l.any fun y => n == y
def nodeIn (p : List D.Ins) (k : Int) : Prop := 0 ≤ k ∧ k ≤ (p.length : Int)
def Node (p : List D.Ins) (k : Int) : Prop := programOk p = true ∧ nodeIn p k
def isNode (p : List D.Ins) (k : Int) : Bool := programOk p && isIn k 0 p.length
def putTwo (a b : Int) : List Int := if b < a then [b, a] else if b = a then [a] else [a, b]
def nextOf (p : List D.Ins) (k : Int) : List Int :=
 if k = p.length then [] else if (rd p k).Op = 12 then [(p.length : Int)] else if (rd p k).Op = 11 then [(rd p k).B] else if (rd p k).Op = 10 then putTwo (k + 1) (rd p k).B else [k + 1]
def bfs (p : List D.Ins) (wo : Int) : Nat → List Int → List Bool → List Bool
 | 0, _, seen => seen
 | _ + 1, [], seen => seen
 | f + 1, k :: work, seen => if k = wo ∨ rd seen k = true then bfs p wo f work seen else bfs p wo f (work ++ nextOf p k) (seen.set k.toNat true)
def reached (p : List D.Ins) (frm : List Int) (wo : Int) : List Bool := bfs p wo (3 * (p.length + 1) + frm.length) frm (List.replicate (p.length + 1) false)
def exitB (p : List D.Ins) (k : Int) : Bool := rd (reached p [k] (-1)) p.length
def afterB (p : List D.Ins) (k later : Int) : Bool := !rd (reached p [k] later) p.length
def aftersOf (p : List D.Ins) (k : Int) : List Int := if isNode p k && exitB p k then idx (afterB p k) (p.length + 1) else []
def firstS (p : List D.Ins) (all : List Int) : List Int → Int
 | [] => -1
 | x :: l => if all.all (afterB p x) then x else firstS p all l
def firstI (p : List D.Ins) (all : List Int) : List Int → Int
 | [] => -1
 | x :: l => if all.all (fun z => exitB p x && afterB p x z) then x else firstI p all l
def firstAfter (p : List D.Ins) (k : Int) : Int := firstS p (others (aftersOf p k) k) (others (aftersOf p k) k)
def joinB (p : List D.Ins) (b : Int) : Int := if exitB p (b + 1) && exitB p (rd p b).B then firstAfter p b else p.length
def spec_l08Others := others
def spec_l08Others_pre (l : List Int) (n : Int) : Prop := Row34 l
def spec_l07Ok := isNode
def spec_l07Ok_pre (p : List D.Ins) (k : Int) : Prop := PSmall p
def putAt (l : List Int) (n : Int) : Nat → Nat
 | 0 => 0
 | k + 1 => if rd l (k : Int) > n then putAt l n k else k + 1
def spec_l04Put (l : List Int) (n : Int) : List Int :=
 if putAt l n l.length > 0 ∧ rd l (((putAt l n l.length : Nat) : Int) - 1) = n then l else l.take (putAt l n l.length) ++ [n] ++ l.drop (putAt l n l.length)
def spec_l04Put_pre (l : List Int) (n : Int) : Prop := Row34 l
def spec_l07Next := nextOf
def spec_l07Next_pre (p : List D.Ins) (k : Int) : Prop := Node p k
def Starts (p : List D.Ins) (l : List Int) : Prop := programOk p = true ∧ (∀ x ∈ l, nodeIn p x) ∧ l.length ≤ 4
def spec_l07Reach (p : List D.Ins) (l : List Int) : List Bool := reached p l (-1)
def spec_l07Reach_pre (p : List D.Ins) (l : List Int) : Prop := Starts p l
def spec_ReachesExit (p : List D.Ins) (k : Int) : Bool := isNode p k && exitB p k
def spec_ReachesExit_pre (p : List D.Ins) (k : Int) : Prop := PSmall p
def spec_l08After := afterB
def spec_l08After_pre (p : List D.Ins) (k later : Int) : Prop := Node p k
def spec_AftersOf := aftersOf
def spec_AftersOf_pre (p : List D.Ins) (k : Int) : Prop := PSmall p
def Nodes (p : List D.Ins) (l : List Int) : Prop := Row34 l ∧ ∀ x ∈ l, Node p x
def spec_l08First (p : List D.Ins) (l : List Int) : Int := firstS p l l
def spec_l08First_pre (p : List D.Ins) (l : List Int) : Prop := Nodes p l
def spec_FirstAfter := firstAfter
def spec_FirstAfter_pre (p : List D.Ins) (k : Int) : Prop := PSmall p
def Branch (p : List D.Ins) (b : Int) : Prop := programOk p = true ∧ 0 ≤ b ∧ b < (p.length : Int) ∧ isBr p b = true
def spec_l09Join := joinB
def spec_l09Join_pre (p : List D.Ins) (b : Int) : Prop := Branch p b
def cmp_isNaN_int (x : Int) : Bool := false
def cmp_Less_int (x y : Int) : Bool := decide (x < y)
def sort2 (l : List Int) : List Int := if rd l 1 < rd l 0 then [rd l 1, rd l 0] else l
def slices_insertionSortOrdered_int (l : List Int) (a b : Int) : List Int := sort2 l
def slices_insertionSortOrdered_int_pre (l : List Int) (a b : Int) : Prop := l.length = 2 ∧ a = 0 ∧ b = 2
def math_bits_Len64 (x : Int) : Int := 2
def math_bits_Len64_pre (x : Int) : Prop := x = 2
def math_bits_Len (x : Int) : Int := 2
def math_bits_Len_pre (x : Int) : Prop := x = 2
def slices_pdqsortOrdered_int (l : List Int) (a b c : Int) : List Int := sort2 l
def slices_pdqsortOrdered_int_pre (l : List Int) (a b c : Int) : Prop := l.length = 2 ∧ a = 0 ∧ b = 2
def slices_Sort_int_int (l : List Int) : List Int := sort2 l
def slices_Sort_int_int_pre (l : List Int) : Prop := l.length = 2
def slices_Compact_int_int (l : List Int) : List Int := if rd l 1 = rd l 0 then l.take 1 else l
def slices_Compact_int_int_pre (l : List Int) : Prop := l.length = 2
def impl_next := nextOf
def impl_next_pre (p : List D.Ins) (k : Int) : Prop := Node p k
def impl_BranchesOf := branches
def impl_BranchesOf_pre (p : List D.Ins) : Prop := PSmall p
def impl_isBranch (p : List D.Ins) (b : Int) : Bool := has (branches p) b
def impl_isBranch_pre (p : List D.Ins) (b : Int) : Prop := PSmall p
def impl_reached := reached
def impl_reached_pre (p : List D.Ins) (l : List Int) (wo : Int) : Prop := Starts p l
def impl_reachesExit := exitB
def impl_reachesExit_pre (p : List D.Ins) (k : Int) : Prop := Node p k
def impl_isNode := isNode
def impl_isNode_pre (p : List D.Ins) (k : Int) : Prop := PSmall p
def impl_isAfter (p : List D.Ins) (k later : Int) : Bool := exitB p k && afterB p k later
def impl_isAfter_pre (p : List D.Ins) (k later : Int) : Prop := Node p k
def impl_IsAfter (p : List D.Ins) (k later : Int) : Bool := isNode p k && (isNode p later && (exitB p k && afterB p k later))
def impl_IsAfter_pre (p : List D.Ins) (k later : Int) : Prop := PSmall p
def impl_AftersOf := aftersOf
def impl_AftersOf_pre (p : List D.Ins) (k : Int) : Prop := PSmall p
def impl_FirstAfter_1 (x k : Int) : Bool := x == k
def impl_FirstAfter_1_pre (x k : Int) : Prop := True
def slices_DeleteFunc_int_int (l : List Int) (g : Int → Bool) : List Int := l.filter fun x => !g x
def slices_DeleteFunc_int_int_pre (l : List Int) (g : Int → Bool) (D : Int → Prop) : Prop := Long l ∧ ∀ x ∈ l, D x
def impl_firstOf_1 (z : Int) (p : List D.Ins) (x : Int) : Bool := !(exitB p x && afterB p x z)
def impl_firstOf_1_pre (z : Int) (p : List D.Ins) (x : Int) : Prop := Node p x
def impl_firstOf (p : List D.Ins) (l : List Int) : Int := firstI p l l
def impl_firstOf_pre (p : List D.Ins) (l : List Int) : Prop := Nodes p l
def impl_FirstAfter := firstAfter
def impl_FirstAfter_pre (p : List D.Ins) (k : Int) : Prop := PSmall p
def joinOf (p : List D.Ins) (b : Int) : Int := if has (branches p) b then joinB p b else -1
def impl_JoinOf := joinOf
def impl_JoinOf_pre (p : List D.Ins) (b : Int) : Prop := PSmall p
end Go.V.M
namespace Go.V.M
open IntKind (wrap)
def dropN (fs : List D.Frame) (n : Int) : Nat → List D.Frame
 | 0 => []
 | k + 1 => if (rd fs (k : Int)).Pc ≠ (rd fs (k : Int)).Stop ∧ (rd fs (k : Int)).Pc ≠ n then fs.take (k + 1) else dropN fs n k
def dropF (fs : List D.Frame) (n : Int) : List D.Frame := dropN fs n fs.length
def dropW (x : D.Warp) (n : Int) : D.Warp := ⟨x.Number, dropF x.Frames n, x.Regs⟩
def impl_Warp_drop := dropW
def impl_Warp_drop_pre (x : D.Warp) (n : Int) : Prop := Long x.Frames
def spec_DropFrames (p : List D.Ins) (x : D.Warp) : D.Warp := dropW x p.length
def spec_DropFrames_pre (p : List D.Ins) (x : D.Warp) : Prop := WFit x
def laneCut (r : List Int) (l : Nat) : List Int := (r.take (l * 4 + 4)).drop (l * 4)
def putLane (r : List Int) (l : Nat) (x : List Int) : List Int := r.take (l * 4) ++ x ++ r.drop (l * 4 + 4)
def applyTo (i : D.Ins) (num m : Int) (r : List Int) : Nat → List Int
 | 0 => r
 | k + 1 => if hasLane m (k : Int) then putLane (applyTo i num m r k) k (apply i (num * 8 + (k : Int)) (laneCut r k)) else applyTo i num m r k
def applyAll (i : D.Ins) (num m : Int) (r : List Int) : List Int := applyTo i num m r 8
def spec_l13Apply (p : List D.Ins) (x : D.Warp) : List Int := applyAll (topIns p x) x.Number (lastF x.Frames).Mask x.Regs
def spec_l13Apply_pre (p : List D.Ins) (x : D.Warp) : Prop := Runs p x
def impl_apply_v (i : D.Ins) (t : Int) (xs : List Int) (lo hi : Nat) : List Int := xs.take lo ++ apply i t ((xs.take hi).drop lo) ++ xs.drop hi
def impl_apply_v_pre (i : D.Ins) (t : Int) (xs : List Int) (lo hi : Nat) : Prop := Fits i ((xs.take hi).drop lo) ∧ lo ≤ hi ∧ hi ≤ xs.length
def turnPc (p : List D.Ins) (x : D.Warp) : Int :=
 if (topIns p x).Op = 12 then (p.length : Int) else if (topIns p x).Op = 11 then (topIns p x).B else if (topIns p x).Op = 10 ∧ zeroMask x (topIns p x).A = (lastF x.Frames).Mask then (topIns p x).B else topPc x + 1
def setTop (fs : List D.Frame) (pc : Int) : List D.Frame := fs.set (fs.length - 1) ⟨pc, (lastF fs).Stop, (lastF fs).Mask⟩
def advance (p : List D.Ins) (x : D.Warp) : D.Warp := ⟨x.Number, setTop x.Frames (turnPc p x), applyAll (topIns p x) x.Number (lastF x.Frames).Mask x.Regs⟩
def impl_Warp_advance (x : D.Warp) (p : List D.Ins) : D.Warp := advance p x
def impl_Warp_advance_pre (x : D.Warp) (p : List D.Ins) : Prop := Runs p x
def isSplit (p : List D.Ins) (x : D.Warp) : Prop := (topIns p x).Op = 10 ∧ (topIns p x).B ≠ topPc x + 1
def separated (p : List D.Ins) (x : D.Warp) : D.Warp :=
 ⟨x.Number, setTop x.Frames (joinB p (topPc x)) ++ [⟨topPc x + 1, joinB p (topPc x), bitNot .i64 (lastF x.Frames).Mask (zeroMask x (topIns p x).A)⟩, ⟨(topIns p x).B, joinB p (topPc x), zeroMask x (topIns p x).A⟩], x.Regs⟩
def impl_Warp_separate (x : D.Warp) (p : List D.Ins) : Bool × D.Warp := if x.Frames.length ≤ 22 then (true, separated p x) else (false, x)
def impl_Warp_separate_pre (x : D.Warp) (p : List D.Ins) : Prop := Runs p x ∧ isSplit p x
def stepW (p : List D.Ins) (x : D.Warp) : D.Warp := dropW (if splits p x then separated p x else advance p x) p.length
def Goes (p : List D.Ins) (x : D.Warp) : Prop := Runs p x ∧ spec_l13Local p x = true
def spec_l13Step := stepW
def spec_l13Step_pre (p : List D.Ins) (x : D.Warp) : Prop := Goes p x
def Fine (p : List D.Ins) (x : D.Warp) : Prop := programOk p = true ∧ warpOf p x = true
def impl_Warp_pass (x : D.Warp) (p : List D.Ins) : Bool × D.Warp := if spec_l13Local p x then (true, stepW p x) else (false, x)
def impl_Warp_pass_pre (x : D.Warp) (p : List D.Ins) : Prop := Fine p x
end Go.V.M
namespace Go.V.M
open IntKind (wrap)
def once (c : D.Cur) (n : Int) : Bool × D.Cur := ((spec_l01Below c n).1 == 0, (spec_l01Below c n).2)
def setB (p : List D.Ins) (k : Nat) (v : Int) : List D.Ins := p.set k ⟨(rd p (k : Int)).Op, (rd p (k : Int)).A, v, (rd p (k : Int)).C⟩
def loopHead (p : List D.Ins) : List D.Ins := p ++ [(⟨8, 3, 0, 0⟩ : D.Ins)]
def loopAll (p : List D.Ins) : List D.Ins := ((loopHead p ++ [(⟨10, 3, 0, 0⟩ : D.Ins)]) ++ [(⟨3, 0, 0, 1⟩ : D.Ins), (⟨1, 2, 1, 0⟩ : D.Ins), (⟨4, 3, 3, 2⟩ : D.Ins)]) ++ [(⟨11, 0, ((loopHead p).length : Int), 0⟩ : D.Ins)]
def countLoop (p : List D.Ins) : List D.Ins := setB (loopAll p) (loopHead p).length ((loopAll p).length : Int)
def branchIn (rec : D.Cur → List D.Ins → List D.Ins × D.Cur) (c : D.Cur) (p : List D.Ins) : List D.Ins × D.Cur := rec (spec_l01Below c 4).2 (p ++ [⟨10, (spec_l01Below c 4).1, 0, 0⟩])
def elseIn (rec : D.Cur → List D.Ins → List D.Ins × D.Cur) (c : D.Cur) (p q : List D.Ins) : List D.Ins × D.Cur := rec c (setB (q ++ [⟨11, 0, 0, 0⟩]) p.length ((q ++ [(⟨11, 0, 0, 0⟩ : D.Ins)]).length : Int))
def ifIn (rec : D.Cur → List D.Ins → List D.Ins × D.Cur) (c : D.Cur) (p : List D.Ins) : List D.Ins × D.Cur :=
 if (once (branchIn rec c p).2 2).1 then (setB (branchIn rec c p).1 p.length ((branchIn rec c p).1.length : Int), (once (branchIn rec c p).2 2).2)
 else (setB (elseIn rec (once (branchIn rec c p).2 2).2 p (branchIn rec c p).1).1 (branchIn rec c p).1.length ((elseIn rec (once (branchIn rec c p).2 2).2 p (branchIn rec c p).1).1.length : Int), (elseIn rec (once (branchIn rec c p).2 2).2 p (branchIn rec c p).1).2)
def bodyOne (rec : D.Cur → List D.Ins → List D.Ins × D.Cur) (deep : Bool) (c : D.Cur) (p : List D.Ins) : List D.Ins × D.Cur :=
 if (spec_l01Below c 5).1 = 0 then (if deep then ifIn rec (spec_l01Below c 5).2 p else (p, (spec_l01Below c 5).2))
 else if (spec_l01Below c 5).1 = 1 then (if deep ∧ ¬ (p.length : Int) > 14 then (countLoop p, (spec_l01Below c 5).2) else (p, (spec_l01Below c 5).2))
 else (p ++ [(spec_l04Plain (spec_l01Below c 5).2).1], (spec_l04Plain (spec_l01Below c 5).2).2)
def bodyN (rec : D.Cur → List D.Ins → List D.Ins × D.Cur) (deep : Bool) : Nat → D.Cur → List D.Ins → List D.Ins × D.Cur
 | 0, c, p => (p, c)
 | n + 1, c, p => if (p.length : Int) < 20 then bodyN rec deep n (bodyOne rec deep c p).2 (bodyOne rec deep c p).1 else (p, c)
def body : Nat → D.Cur → List D.Ins → List D.Ins × D.Cur
 | 0, c, p => bodyN (fun c p => (p, c)) false (spec_l01Below c 4).1.toNat (spec_l01Below c 4).2 p
 | d + 1, c, p => bodyN (body d) true (spec_l01Below c 4).1.toNat (spec_l01Below c 4).2 p
end Go.V.M
namespace Go.V.M
open IntKind (wrap)
def memStep (i : D.Ins) (s : List Int × List Int) (k : Int) : List Int × List Int :=
 if i.Op = 13 then (s.1.set (k * 4 + i.A).toNat (rd s.2 (Int.tmod (rd s.1 (k * 4 + i.B)) 32)), s.2)
 else if i.Op = 14 then (s.1, s.2.set (Int.tmod (rd s.1 (k * 4 + i.A)) 32).toNat (rd s.1 (k * 4 + i.B)))
 else if i.Op = 15 then (s.1, s.2.set (Int.tmod (rd s.1 (k * 4 + i.A)) 32).toNat (addW (rd s.2 (Int.tmod (rd s.1 (k * 4 + i.A)) 32)) (rd s.1 (k * 4 + i.B))))
 else s
def memTo (i : D.Ins) (m : Int) (s : List Int × List Int) : Nat → List Int × List Int
 | 0 => s
 | k + 1 => if hasLane m (k : Int) then memStep i (memTo i m s k) (k : Int) else memTo i m s k
def memAll (i : D.Ins) (x : D.Warp) (mem : List Int) : List Int × List Int := memTo i (activeMask x) (x.Regs, mem) 8
def setWarp (b : D.Block) (w : Int) (x : D.Warp) : D.Block := ⟨b.Code, b.Warps.set w.toNat x, b.Memory, b.Waiting, b.Phase⟩
def accessB (b : D.Block) (w : Int) (i : D.Ins) : D.Block :=
 ⟨b.Code, b.Warps.set w.toNat ⟨(rd b.Warps w).Number, (rd b.Warps w).Frames, (memAll i (rd b.Warps w) b.Memory).1⟩, (memAll i (rd b.Warps w) b.Memory).2, b.Waiting, b.Phase⟩
def Live (b : D.Block) (w : Int) : Prop := Has b w ∧ (rd b.Warps w).Frames ≠ []
def spec_l30Memory (b : D.Block) (w : Int) : D.Block × List D.Warp × List Int := (accessB b w (nextI b w), (accessB b w (nextI b w)).Warps, (accessB b w (nextI b w)).Memory)
def spec_l30Memory_pre (b : D.Block) (w : Int) : Prop := Live b w ∧ isLocal (nextI b w) = false
def impl_Block_access (b : D.Block) (w : Int) (i : D.Ins) : D.Block := accessB b w i
def impl_Block_access_pre (b : D.Block) (w : Int) (i : D.Ins) : Prop := Live b w ∧ i = nextI b w ∧ isLocal i = false
def allWait (b : D.Block) : Nat → Bool
 | 0 => true
 | k + 1 => allWait b k && ((rd b.Warps (k : Int)).Frames.isEmpty || waits b (k : Int))
def spec_l30All (b : D.Block) : Bool := allWait b b.Warps.length && b.Waiting != 0
def spec_l30All_pre (b : D.Block) : Prop := Long b.Warps
def passTop (p : List D.Ins) (x : D.Warp) : D.Warp := dropW ⟨x.Number, setTop x.Frames (topPc x + 1), x.Regs⟩ p.length
def actB (b : D.Block) (w : Int) : D.Block :=
 if isLocal (nextI b w) then setWarp b w (stepW b.Code (rd b.Warps w))
 else ⟨b.Code, b.Warps.set w.toNat (passTop b.Code (rd (accessB b w (nextI b w)).Warps w)), (accessB b w (nextI b w)).Memory, if (nextI b w).Op = 16 then bitOr .i64 b.Waiting (bitAt w) else b.Waiting, b.Phase⟩
def closeB (b : D.Block) : D.Block := if spec_l30All b then ⟨b.Code, b.Warps, b.Memory, 0, b.Phase + 1⟩ else b
def stepB (b : D.Block) (w : Int) : D.Block := closeB (actB b w)
def CanGo (b : D.Block) (w : Int) : Prop := Has b w ∧ canGo b w = true
def spec_l30Step := stepB
def spec_l30Step_pre (b : D.Block) (w : Int) : Prop := CanGo b w
def impl_Block_pass (b : D.Block) (w : Int) : Bool × D.Block := (decide ((stepB b w).Phase ≤ 100000), stepB b w)
def impl_Block_pass_pre (b : D.Block) (w : Int) : Prop := CanGo b w
end Go.V.M
namespace Go.V.M
open IntKind (wrap)
def stops (f : Nat → Int) (x : D.Block) (k : Nat) : Bool := decide (f k < 0) || (x.Phase == 100000 || decide (pick x (f k) < 0))
def goTo (f : Nat → Int) : Nat → D.Block → Nat → D.Block × Int
 | 0, x, k => (x, (k : Int))
 | m + 1, x, k => if stops f x k then (x, (k : Int)) else goTo f m (stepB x (pick x (f k))) (k + 1)
def goAt (f : Nat → Int) (b : D.Block) : Nat → D.Block
 | 0 => b
 | k + 1 => stepB (goAt f b k) (pick (goAt f b k) (f k))
def MaxL (l : List Int) : Prop := Long l ∧ ∀ y ∈ l, y ≤ 9223372036854775807
def runPicks (b : D.Block) (l : List Int) : D.Block × Int := if blockOk b && decide (l.length ≤ 400) then goTo (fun k => rd l (k : Int)) l.length b 0 else (b, -1)
def spec_RunPicks := runPicks
def spec_RunPicks_pre (b : D.Block) (l : List Int) : Prop := BFit b ∧ MaxL l
def impl_RunPicks_1 (k : Int) (l : List Int) : Int × Bool := if k = l.length then (0, false) else (rd l k, true)
def impl_RunPicks_1_pre (k : Int) (l : List Int) : Prop := 0 ≤ k ∧ k ≤ (l.length : Int)
def impl_RunPicks_2 (w : Int) : Unit := ()
def impl_Block_follow_a (b : D.Block) (l : List Int) : Int × D.Block := ((goTo (fun k => rd l (k : Int)) l.length b 0).2, (goTo (fun k => rd l (k : Int)) l.length b 0).1)
def impl_Block_follow_a_pre (b : D.Block) (l : List Int) : Prop := Good b ∧ l.length ≤ 400 ∧ MaxL l
def impl_RunPicks := runPicks
def impl_RunPicks_pre (b : D.Block) (l : List Int) : Prop := BFit b ∧ MaxL l
def laws_FnExactRunPicks (b : D.Block) (l : List Int) : Bool := true
def laws_FnExactRunPicks_pre (b : D.Block) (l : List Int) : Prop := BLong b ∧ MaxL l
end Go.V.M
namespace Go.V
open IntKind (wrap)
def wp.impl_within (x0 : Int) (x1 : Int) (x2 : Int) (Q : Bool → Prop) : Prop :=
 bcase (decide (x0 ≥ x1)) (Q (decide (x0 ≤ x2))) (Q false)
def wp.spec_l01In (x0 : Int) (x1 : Int) (x2 : Int) (Q : Bool → Prop) : Prop :=
 bcase (decide (x0 ≥ x1)) (Q (decide (x0 ≤ x2))) (Q false)
def wp.impl_IsWord (x0 : Int) (Q : Bool → Prop) : Prop :=
 (∀ r21, r21 = M.impl_within x0 0 65535 → Q r21)
def wp.spec_IsWord (x0 : Int) (Q : Bool → Prop) : Prop :=
 (∀ r21, r21 = M.spec_l01In x0 0 65535 → Q r21)
def wp.impl_IsMask (x0 : Int) (Q : Bool → Prop) : Prop :=
 (∀ r21, r21 = M.impl_within x0 0 255 → Q r21)
def wp.impl_isLane (x0 : Int) (Q : Bool → Prop) : Prop :=
 (∀ r21, r21 = M.impl_within x0 0 7 → Q r21)
def wp.impl_HasLane (x0 : Int) (x1 : Int) (Q : Bool → Prop) : Prop :=
 (∀ r21, r21 = M.impl_IsMask x0 → bcase r21 ((∀ r26, r26 = M.impl_isLane x1 → bcase r26 (((0 ≤ x1) ∧ Q ((bitAnd .i64 (Int.fdiv x0 (2 ^ (min (x1.toNat) (IntKind.bits .i64)))) 1) == 1))) (Q false))) (Q false))
def wp.impl_LanesOf (x0 : Int) (Q : (List Int) → Prop) : Prop :=
 LoopP (σ := (List Int) × Int × Unit) (fun (p54 : (List Int) × Int × Unit) next31 => match p54 with | (xs24, i27, _) => bcase (decide (i27 < 8)) ((∀ r33, r33 = M.impl_HasLane x0 i27 → bcase r33 (((xs24.length + ([i27] : List Int).length ≤ 17179869184) ∧ next31 ((xs24 ++ ([i27] : List Int)), (wrap .i64 (i27 + 1)), ()))) (next31 (xs24, (wrap .i64 (i27 + 1)), ())))) (Q xs24)) (([] : List Int), 0, ())
def wp.spec_AreWords (xs0 : List Int) (Q : Bool → Prop) : Prop :=
 LoopP (σ := Int × Unit) (fun (p42 : Int × Unit) next25 => match p42 with | (i21, _) => bcase (decide (i21 < (xs0.length : Int))) (((0 ≤ i21 ∧ i21 < (xs0.length : Int)) ∧ (∀ r32, r32 = M.spec_IsWord (rd xs0 i21) → bcase (!r32) (Q false) (next25 ((wrap .i64 (i21 + 1)), ()))))) (Q true)) (0, ())
def wp.laws_eqIntS (xs0 : List Int) (xs1 : List Int) (Q : Bool → Prop) : Prop :=
 bcase ((xs0.length : Int) != (xs1.length : Int)) (Q false) (LoopP (σ := Int × Unit) (fun (p43 : Int × Unit) next25 => match p43 with | (i21, _) => bcase (decide (i21 < (xs0.length : Int))) (((0 ≤ i21 ∧ i21 < (xs0.length : Int)) ∧ ((0 ≤ i21 ∧ i21 < (xs1.length : Int)) ∧ bcase ((rd xs0 i21) != (rd xs1 i21)) (Q false) (next25 ((wrap .i64 (i21 + 1)), ()))))) (Q true)) (0, ()))
def wp.laws_toIntS (xs0 : List Int) (Q : (List Int) → Prop) : Prop :=
 ((0 ≤ (xs0.length : Int) ∧ (xs0.length : Int) ≤ 17179869184) ∧ LoopP (σ := Int × (List Int) × Unit) (fun (p70 : Int × (List Int) × Unit) next51 => match p70 with | (i45, xs46, _) => bcase (decide (i45 < (xs0.length : Int))) (((0 ≤ i45 ∧ i45 < (xs0.length : Int)) ∧ ((0 ≤ i45 ∧ i45 < (xs46.length : Int)) ∧ next51 ((wrap .i64 (i45 + 1)), (List.set xs46 (i45.toNat) (rd xs0 i45)), ())))) (Q xs46)) (0, (List.replicate ((xs0.length : Int).toNat) (default : Int)), ()))
end Go.V
namespace Go.V
open IntKind (wrap)
theorem wp.impl_within.math (x a b : Int) : wp.impl_within x a b (fun r => r = M.impl_within x a b) := by
 simp only [wp.impl_within, bcase_iff, M.impl_within, M.isIn]
 exact ⟨fun h => by simp at h; simp [h], fun h => by simp at h; simp; omega⟩
theorem wp.spec_l01In.math (x a b : Int) : wp.spec_l01In x a b (fun r => r = M.spec_l01In x a b) := wp.impl_within.math x a b
theorem wp.impl_IsWord.math (x : Int) : wp.impl_IsWord x (fun r => r = M.impl_IsWord x) := fun r h => h
theorem wp.spec_IsWord.math (x : Int) : wp.spec_IsWord x (fun r => r = M.spec_IsWord x) := fun r h => h
theorem wp.impl_IsMask.math (x : Int) : wp.impl_IsMask x (fun r => r = M.impl_IsMask x) := fun r h => h
theorem wp.impl_isLane.math (x : Int) : wp.impl_isLane x (fun r => r = M.impl_isLane x) := fun r h => h
theorem wp.impl_HasLane.math (m l : Int) : wp.impl_HasLane m l (fun r => r = M.impl_HasLane m l) := by
 intro r1 h1
 refine bcase_mk (fun e1 r2 h2 => bcase_mk (fun e2 => ?_) fun e2 => ?_) fun e1 => ?_
 ·have : M.isLane l = true := by rw [← e2, h2]; rfl
  have h0 : 0 ≤ l := by simp [M.isLane, M.isIn] at this; omega
  refine ⟨h0, ?_⟩
  have e1' : M.isMask m = true := by rw [← e1, h1]; rfl
  simp [M.impl_HasLane, M.hasLane, e1', this]
 ·have : M.isLane l = false := by rw [← e2, h2]; rfl
  simp [M.impl_HasLane, M.hasLane, this]
 ·have : M.isMask m = false := by rw [← e1, h1]; rfl
  simp [M.impl_HasLane, M.hasLane, this]
theorem wp.impl_LanesOf.math (m : Int) : wp.impl_LanesOf m (fun r => r = M.impl_LanesOf m) := by
 unfold wp.impl_LanesOf
 refine ⟨fun k p => (k : Int) = 8 - p.2.1 ∧ 0 ≤ p.2.1 ∧ p.2.1 ≤ 8 ∧ p.1 = ([0, 1, 2, 3, 4, 5, 6, 7].take p.2.1.toNat).filter (M.hasLane m), ⟨8, by simp⟩, ?_⟩
 rintro k ⟨xs, i, _⟩ ⟨hk, h0, h8, hx⟩
 simp only at hk h0 h8 hx ⊢
 refine bcase_mk (fun e => ?_) fun e => ?_
 ·have hlt : i < 8 := by simpa using e
  intro r hr
  have hs : (([0, 1, 2, 3, 4, 5, 6, 7] : List Int).take (i + 1).toNat) = ([0, 1, 2, 3, 4, 5, 6, 7] : List Int).take i.toNat ++ [i] := by
   have : i = 0 ∨ i = 1 ∨ i = 2 ∨ i = 3 ∨ i = 4 ∨ i = 5 ∨ i = 6 ∨ i = 7 := by omega
   rcases this with rfl | rfl | rfl | rfl | rfl | rfl | rfl | rfl <;> rfl
  have hw : wrap .i64 (i + 1) = i + 1 := w64 (by omega) (by omega)
  refine bcase_mk (fun e2 => ⟨?_, (k - 1), by omega, ?_⟩) fun e2 => ⟨k - 1, by omega, ?_⟩
  ·rw [hx]
   have := List.length_filter_le (M.hasLane m) (([0, 1, 2, 3, 4, 5, 6, 7] : List Int).take i.toNat)
   simp at this ⊢; omega
  ·simp only [hw, hs, List.filter_append]
   refine ⟨by omega, by omega, by omega, ?_⟩
   rw [hx, List.filter_cons, if_pos (by rw [← e2, hr]; rfl)]; rfl
  ·simp only [hw, hs, List.filter_append]
   refine ⟨by omega, by omega, by omega, ?_⟩
   rw [hx, List.filter_cons, if_neg (by rw [show M.hasLane m i = r from hr.symm, e2]; simp)]; simp
 ·have : i = 8 := by simp at e; omega
  subst this
  rw [hx]; rfl
theorem wp.spec_AreWords.math (l : List Int) (h : M.spec_AreWords_pre l) : wp.spec_AreWords l (fun r => r = M.spec_AreWords l) := by
 unfold wp.spec_AreWords
 have hb : l.length ≤ 9223372036854775807 := by unfold M.spec_AreWords_pre at h; omega
 refine loop_n l.length (fun k => ((k : Int), ())) (fun k => (l.take k).all M.isWord = true) rfl (by simp) (fun k hk hF next hn => ?_) fun hF next => ?_
 ·refine bcase_t (by simp; omega) ⟨by omega, fun r hr => ?_⟩
  rw [rd_nat hk] at hr
  refine bcase_mk (fun e => ?_) fun e => ?_
  ·have e' : M.isWord l[k] = false := by rw [hr] at e; simpa [M.spec_IsWord] using e
   exact (all_at hk e').symm
  ·have e' : M.isWord l[k] = true := by rw [hr] at e; simpa [M.spec_IsWord] using e
   rw [up64 hk hb]
   exact hn (take_all_succ hk hF e')
 ·refine bcase_f (by simp) ?_
  rw [List.take_length] at hF
  exact hF.symm
theorem wp.laws_eqIntS.math (a b : List Int) (h : M.laws_eqIntS_pre a b) : wp.laws_eqIntS a b (fun r => r = M.laws_eqIntS a b) := by
 unfold wp.laws_eqIntS
 have hb : a.length ≤ 9223372036854775807 := by unfold M.laws_eqIntS_pre at h; omega
 refine bcase_mk (fun e => ?_) fun e => ?_
 ·simp [M.laws_eqIntS]; rintro rfl; simp at e
 have hl : a.length = b.length := by simp at e; omega
 refine loop_n a.length (fun k => ((k : Int), ())) (fun k => ∀ j : Nat, j < k → rd a j = rd b j) rfl (by simp) (fun k hk hF next hn => ?_) fun hF next => ?_
 ·refine bcase_t (by simp; omega) ⟨by omega, by omega, bcase_mk (fun e => ?_) fun e => ?_⟩
  ·simp [M.laws_eqIntS]; rintro rfl; simp at e
  ·rw [up64 hk hb]
   refine hn fun j hj => ?_
   by_cases hjk : j = k
   ·subst hjk; simpa using e
   ·exact hF j (by omega)
 ·refine bcase_f (by simp) ?_
  have := eq_of_takes hl hF
  simp [M.laws_eqIntS, this]
theorem wp.laws_toIntS.math (a : List Int) (h : M.laws_toIntS_pre a) : wp.laws_toIntS a (fun r => r = M.laws_toIntS a) := by
 unfold wp.laws_toIntS
 unfold M.laws_toIntS_pre at h
 refine ⟨by omega, ?_⟩
 refine loop_n a.length (fun k => ((k : Int), cp id a k, ())) (fun _ => True) (by simp [cp_zero]) trivial (fun k hk hF next hn => ?_) fun hF next => ?_
 ·refine bcase_t (by simp; omega) ⟨by omega, ⟨by omega, by simp only [cp_len id a (Nat.le_of_lt hk)]; omega⟩, ?_⟩
  rw [up64 hk (by omega), rd_nat hk]
  have := cp_set id a hk
  simp only [id] at this
  simp only [Int.toNat_natCast]
  rw [this]
  exact hn trivial
 ·exact bcase_f (by simp) (by rw [cp_all]; simp [M.laws_toIntS])
end Go.V
namespace Go.V
open IntKind (wrap)
def wp.laws_markIntS (xs0 : List Int) (x1 : Int) (Q : (Int × (List Int)) → Prop) : Prop :=
 LoopP (σ := Int × Int × (List Int) × Unit) (fun (p57 : Int × Int × (List Int) × Unit) next43 => match p57 with | (i36, i37, xs38, _) => bcase (decide (i37 < (xs0.length : Int))) (((0 ≤ i37 ∧ i37 < (xs38.length : Int)) ∧ next43 ((wrap .i64 (i36 + 1)), (wrap .i64 (i37 + 1)), (List.set xs38 (i37.toNat) i36), ()))) (Q (i36, xs38))) (x1, 0, xs0, ())
def wp.laws_heldIntS (xs0 : List Int) (x1 : Int) (Q : Int → Prop) : Prop :=
 LoopP (σ := Int × Int × Unit) (fun (p38 : Int × Int × Unit) next26 => match p38 with | (i21, i22, _) => bcase (decide (i22 < (xs0.length : Int))) (((0 ≤ i22 ∧ i22 < (xs0.length : Int)) ∧ bcase ((rd xs0 i22) != i21) (Q (-1)) (next26 ((wrap .i64 (i21 + 1)), (wrap .i64 (i22 + 1)), ())))) (Q i21)) (x1, 0, ())
end Go.V
namespace Go.V
open IntKind (wrap)
theorem wp.laws_markIntS.math (a : List Int) (x : Int) (h : M.laws_markIntS_pre a x) : wp.laws_markIntS a x (fun r => r = M.laws_markIntS a x) := by
 unfold wp.laws_markIntS
 obtain ⟨⟨h1, h2⟩, h3⟩ := h
 unfold M.Few at h3
 refine loop_n a.length (fun k => (x + k, (k : Int), mk (fun i => x + (i : Int)) a k, ())) (fun _ => True) (by simp [mk_zero]) trivial (fun k hk hF next hn => ?_) fun hF next => ?_
 ·refine bcase_t (by simp; omega) ⟨⟨by omega, by simp only [mk_len _ a (Nat.le_of_lt hk)]; omega⟩, ?_⟩
  have e1 : wrap .i64 (x + (k : Int) + 1) = x + ((k + 1 : Nat) : Int) := by rw [w64 (by omega) (by omega)]; push_cast; omega
  have e2 := mk_set (fun i : Nat => x + (i : Int)) a hk
  simp only [Int.toNat_natCast]
  rw [up64 hk (by omega), e1, e2]
  exact hn trivial
 ·exact bcase_f (by simp) (by rw [mk_all]; rfl)
theorem wp.laws_heldIntS.math (a : List Int) (x : Int) (h : M.laws_heldIntS_pre a x) : wp.laws_heldIntS a x (fun r => r = M.laws_heldIntS a x) := by
 unfold wp.laws_heldIntS
 obtain ⟨⟨h1, h2⟩, h3⟩ := h
 unfold M.Few at h3
 refine loop_n a.length (fun k => (x + k, (k : Int), ())) (fun k => ∀ j : Nat, j < k → rd a j = x + (j : Int)) (by simp) (by simp) (fun k hk hF next hn => ?_) fun hF next => ?_
 ·refine bcase_t (by simp; omega) ⟨⟨by omega, by omega⟩, bcase_mk (fun e => ?_) fun e => ?_⟩
  ·exact (if_neg (ne_seq (fun i : Nat => x + (i : Int)) hk (by simpa using e))).symm
  ·have e1 : wrap .i64 (x + (k : Int) + 1) = x + ((k + 1 : Nat) : Int) := by rw [w64 (by omega) (by omega)]; push_cast; omega
   rw [up64 hk (by omega), e1]
   refine hn fun j hj => ?_
   by_cases hjk : j = k
   ·subst hjk; simpa using e
   ·exact hF j (by omega)
 ·exact bcase_f (by simp) (if_pos (eq_seq (fun i : Nat => x + (i : Int)) hF)).symm
end Go.V
namespace Go.V
open IntKind (wrap)
def wp.spec_WrapWord (x0 : Int) (Q : Int → Prop) : Prop :=
 Q (Int.tmod (wrap .i64 ((Int.tmod x0 65536) + 65536)) 65536)
def wp.spec_AddWords (x0 : Int) (x1 : Int) (Q : Int → Prop) : Prop :=
 (∀ r21, r21 = M.spec_IsWord x0 → bcase (!r21) (Q 0) ((∀ r26, r26 = M.spec_IsWord x1 → bcase (!r26) (Q 0) ((∀ r31, r31 = M.spec_WrapWord (wrap .i64 (x0 + x1)) → Q r31)))))
def wp.slices_IndexFunc_int_int (xs0 : List Int) (g1 : Int → Bool) (D1 : Int → Prop) (Q : Int → Prop) : Prop :=
 LoopP (σ := Int × Unit) (fun (p42 : Int × Unit) next25 => match p42 with | (i21, _) => bcase (decide (i21 < (xs0.length : Int))) (((0 ≤ i21 ∧ i21 < (xs0.length : Int)) ∧ (D1 (rd xs0 i21) ∧ ∀ r32, r32 = g1 (rd xs0 i21) → bcase r32 (Q i21) (next25 ((wrap .i64 (i21 + 1)), ()))))) (Q (-1))) (0, ())
def wp.slices_ContainsFunc_int_int (xs0 : List Int) (g1 : Int → Bool) (D1 : Int → Prop) (Q : Bool → Prop) : Prop :=
 (M.slices_IndexFunc_int_int_pre xs0 g1 D1 ∧ ∀ r21, r21 = M.slices_IndexFunc_int_int xs0 g1 → Q (decide (r21 ≥ 0)))
def wp.impl_AreWords_1 (x0 : Int) (Q : Bool → Prop) : Prop :=
 (∀ r21, r21 = M.impl_IsWord x0 → Q (!r21))
def wp.impl_AreWords (xs0 : List Int) (Q : Bool → Prop) : Prop :=
 (M.slices_ContainsFunc_int_int_pre xs0 (fun z0_ => M.impl_AreWords_1 z0_) (fun _ => True) ∧ ∀ r21, r21 = M.slices_ContainsFunc_int_int xs0 (fun z0_ => M.impl_AreWords_1 z0_) → Q (!r21))
def wp.impl_WrapWord (x0 : Int) (Q : Int → Prop) : Prop :=
 Q (bitAnd .i64 x0 65535)
def wp.impl_wrapped (x0 : Int) (x1 : Int) (x2 : Int) (Q : Int → Prop) : Prop :=
 (∀ r21, r21 = M.impl_IsWord x0 → bcase (!r21) (Q 0) ((∀ r26, r26 = M.impl_IsWord x1 → bcase (!r26) (Q 0) ((∀ r31, r31 = M.impl_WrapWord x2 → Q r31)))))
def wp.impl_AddWords (x0 : Int) (x1 : Int) (Q : Int → Prop) : Prop :=
 (∀ r21, r21 = M.impl_wrapped x0 x1 (wrap .i64 (x0 + x1)) → Q r21)
def wp.spec_IsMask (x0 : Int) (Q : Bool → Prop) : Prop :=
 (∀ r21, r21 = M.spec_l01In x0 0 255 → Q r21)
def wp.spec_HasLane (x0 : Int) (x1 : Int) (Q : Bool → Prop) : Prop :=
 (∀ r21, r21 = M.spec_IsMask x0 → bcase r21 ((∀ r26, r26 = M.spec_l01In x1 0 7 → bcase r26 (((0 ≤ x1) ∧ Q ((bitAnd .i64 (Int.fdiv x0 (2 ^ (min (x1.toNat) (IntKind.bits .i64)))) 1) == 1))) (Q false))) (Q false))
end Go.V
namespace Go.V
open IntKind (wrap)
theorem isWord_iff {x : Int} : M.isWord x = true ↔ 0 ≤ x ∧ x ≤ 65535 := by simp [M.isWord, M.isIn]
theorem isLane_iff {x : Int} : M.isLane x = true ↔ 0 ≤ x ∧ x ≤ 7 := by simp [M.isLane, M.isIn]
theorem rd_mem {α : Type} [Inhabited α] {xs : List α} {k : Nat} (h : k < xs.length) : rd xs (k : Int) ∈ xs := by rw [rd_nat h]; exact List.getElem_mem h
theorem nt {r x : Bool} (e : (!r) = true) (h : r = x) : x = false := by subst h; simpa using e
theorem nf {r x : Bool} (e : (!r) = false) (h : r = x) : x = true := by subst h; simpa using e
theorem bitAnd_mod (x : Int) : bitAnd .i64 x 65535 = x % 65536 := by
 unfold bitAnd
 have e1 : (BitVec.ofInt (IntKind.bits .i64) x &&& BitVec.ofInt (IntKind.bits .i64) 65535).toNat = (x % 65536).toNat := by
  show (BitVec.ofInt 64 x &&& BitVec.ofInt 64 65535).toNat = _
  rw [BitVec.toNat_and, BitVec.toNat_ofInt, show (BitVec.ofInt 64 65535).toNat = 2 ^ 16 - 1 from rfl, Nat.and_two_pow_sub_one_eq_mod]
  rw [show ((2 ^ 64 : Nat) : Int) = 18446744073709551616 from rfl]
  omega
 rw [e1, w64 (by omega) (by omega)]
 omega
theorem wp.impl_WrapWord.math (x : Int) : wp.impl_WrapWord x (fun r => r = M.impl_WrapWord x) := bitAnd_mod x
theorem wp.spec_WrapWord.math (x : Int) : wp.spec_WrapWord x (fun r => r = M.spec_WrapWord x) := by
 show Int.tmod (wrap .i64 (Int.tmod x 65536 + 65536)) 65536 = x % 65536
 have h1 : Int.tmod x 65536 < 65536 := Int.tmod_lt_of_pos x (by omega)
 have h2 : -65536 < Int.tmod x 65536 := by
  have := Int.tmod_lt_of_pos (-x) (b := 65536) (by omega)
  rw [Int.neg_tmod] at this; omega
 rw [w64 (by omega) (by omega), Int.tmod_eq_emod_of_nonneg (by omega)]
 have h3 : x = 65536 * Int.tdiv x 65536 + Int.tmod x 65536 := (Int.mul_tdiv_add_tmod x 65536).symm
 omega
theorem wp.spec_AddWords.math (a b : Int) : wp.spec_AddWords a b (fun r => r = M.spec_AddWords a b) := by
 intro r1 h1
 refine bcase_mk (fun e1 => ?_) fun e1 r2 h2 => bcase_mk (fun e2 => ?_) fun e2 r3 h3 => ?_
 ·have : M.isWord a = false := nt e1 h1
  simp [M.spec_AddWords, M.addW, this]
 ·have : M.isWord b = false := nt e2 h2
  simp [M.spec_AddWords, M.addW, this]
 ·have ha : M.isWord a = true := nf e1 h1
  have hb : M.isWord b = true := nf e2 h2
  have := isWord_iff.1 ha
  have := isWord_iff.1 hb
  rw [h3, w64 (by omega) (by omega)]
  simp [M.spec_AddWords, M.addW, M.spec_WrapWord, ha, hb]
theorem wp.impl_wrapped.math (a b n : Int) : wp.impl_wrapped a b n (fun r => r = M.impl_wrapped a b n) := by
 intro r1 h1
 refine bcase_mk (fun e1 => ?_) fun e1 r2 h2 => bcase_mk (fun e2 => ?_) fun e2 r3 h3 => ?_
 ·have : M.isWord a = false := nt e1 h1
  simp [M.impl_wrapped, this]
 ·have : M.isWord b = false := nt e2 h2
  simp [M.impl_wrapped, this]
 ·have ha : M.isWord a = true := nf e1 h1
  have hb : M.isWord b = true := nf e2 h2
  rw [h3]
  simp [M.impl_wrapped, M.impl_WrapWord, ha, hb]
theorem wp.impl_AddWords.math (a b : Int) : wp.impl_AddWords a b (fun r => r = M.impl_AddWords a b) := by
 intro r hr
 rw [hr]
 simp only [M.impl_wrapped, M.impl_AddWords, M.addW]
 by_cases h : (M.isWord a && M.isWord b) = true
 ·rw [if_pos h, if_pos h]
  simp only [Bool.and_eq_true, isWord_iff] at h
  rw [w64 (by omega) (by omega)]
 ·rw [if_neg h, if_neg h]
theorem firstIx_from {α : Type} [Inhabited α] (g : α → Bool) (l : List α) : ∀ (k : Nat), k < l.length → M.firstIx g (l.drop k) k = if g (rd l (k : Int)) then (k : Int) else M.firstIx g (l.drop (k + 1)) (k + 1) := by
 intro k hk
 rw [List.drop_eq_getElem_cons hk, rd_nat hk]; rfl
theorem wp.slices_IndexFunc_int_int.math (l : List Int) (g : Int → Bool) (D : Int → Prop) (h : M.slices_IndexFunc_int_int_pre l g D) : wp.slices_IndexFunc_int_int l g D (fun r => r = M.slices_IndexFunc_int_int l g) := by
 unfold wp.slices_IndexFunc_int_int
 obtain ⟨h1, h2⟩ := h
 refine loop_n l.length (fun k => ((k : Int), ())) (fun k => M.slices_IndexFunc_int_int l g = M.firstIx g (l.drop k) k) rfl (by simp [M.slices_IndexFunc_int_int]) (fun k hk hF next hn => ?_) fun hF next => ?_
 ·rw [firstIx_from g l k hk] at hF
  refine bcase_t (by simp; omega) ⟨by omega, h2 _ (rd_mem hk), fun r hr => bcase_mk (fun e => ?_) fun e => ?_⟩
  ·rw [hF, if_pos (by rw [← hr]; exact e)]
  ·rw [up64 hk h1]
   exact hn (by rw [hF, if_neg (by rw [← hr, e]; simp)])
 ·refine bcase_f (by simp) ?_
  rw [hF]; simp [M.firstIx]
theorem firstIx_nonneg {α : Type} (g : α → Bool) : ∀ (l : List α) (k : Nat), decide (M.firstIx g l k ≥ 0) = l.any g
 | [], k => by simp [M.firstIx]
 | x :: l, k => by
  simp only [M.firstIx, List.any_cons]
  by_cases hx : g x = true
  ·simp [hx]
  ·simp only [hx, Bool.false_eq_true, if_false, Bool.false_or]; simpa [hx] using firstIx_nonneg g l (k + 1)
theorem wp.slices_ContainsFunc_int_int.math (l : List Int) (g : Int → Bool) (D : Int → Prop) (h : M.slices_ContainsFunc_int_int_pre l g D) : wp.slices_ContainsFunc_int_int l g D (fun r => r = M.slices_ContainsFunc_int_int l g) :=
 ⟨h, fun r hr => by rw [hr]; exact firstIx_nonneg g l 0⟩
theorem wp.impl_AreWords_1.math (x : Int) : wp.impl_AreWords_1 x (fun r => r = M.impl_AreWords_1 x) := fun r hr => by rw [hr]; rfl
theorem wp.impl_AreWords.math (l : List Int) (h : M.impl_AreWords_pre l) : wp.impl_AreWords l (fun r => r = M.impl_AreWords l) := by
 refine ⟨⟨h, fun _ _ => trivial⟩, fun r hr => ?_⟩
 rw [hr]
 simp only [M.slices_ContainsFunc_int_int, M.impl_AreWords, M.impl_AreWords_1]
 rw [← List.all_eq_not_any_not]
theorem wp.spec_IsMask.math (x : Int) : wp.spec_IsMask x (fun r => r = M.spec_IsMask x) := fun r hr => hr
theorem wp.spec_HasLane.math (m l : Int) : wp.spec_HasLane m l (fun r => r = M.spec_HasLane m l) := by
 intro r1 h1
 refine bcase_mk (fun e1 r2 h2 => bcase_mk (fun e2 => ?_) fun e2 => ?_) fun e1 => ?_
 ·have : M.isLane l = true := by rw [← e2, h2]; rfl
  have h0 : 0 ≤ l := (isLane_iff.1 this).1
  refine ⟨h0, ?_⟩
  have e1' : M.isMask m = true := by rw [← e1, h1]; rfl
  simp [M.spec_HasLane, M.hasLane, e1', this]
 ·have : M.isLane l = false := by rw [← e2, h2]; rfl
  simp [M.spec_HasLane, M.hasLane, this]
 ·have : M.isMask m = false := by rw [← e1, h1]; rfl
  simp [M.spec_HasLane, M.hasLane, this]
theorem isWord_mod (x : Int) : M.isWord (x % 65536) = true := isWord_iff.2 ⟨by omega, by omega⟩
end Go.V
namespace Go.V
open IntKind (wrap)
def wp.laws_szInsS (xs0 : List D.Ins) (x1 : Int) (Q : Int → Prop) : Prop :=
 bcase (decide ((wrap .i64 (x1 - (xs0.length : Int))) < 0)) (Q (-1)) (Q (wrap .i64 (x1 - (xs0.length : Int))))
def wp.laws_toIns (s0 : D.Ins) (Q : D.Ins → Prop) : Prop :=
 Q (⟨s0.Op, s0.A, s0.B, s0.C⟩ : D.Ins)
def wp.laws_toInsS (xs0 : List D.Ins) (Q : (List D.Ins) → Prop) : Prop :=
 ((0 ≤ (xs0.length : Int) ∧ (xs0.length : Int) ≤ 17179869184) ∧ LoopP (σ := Int × (List D.Ins) × Unit) (fun (p80 : Int × (List D.Ins) × Unit) next56 => match p80 with | (i50, xs51, _) => bcase (decide (i50 < (xs0.length : Int))) (((0 ≤ i50 ∧ i50 < (xs0.length : Int)) ∧ (∀ r63, r63 = M.laws_toIns (rd xs0 i50) → ((0 ≤ i50 ∧ i50 < (xs51.length : Int)) ∧ next56 ((wrap .i64 (i50 + 1)), (List.set xs51 (i50.toNat) (⟨r63.Op, r63.A, r63.B, r63.C⟩ : D.Ins)), ()))))) (Q xs51)) (0, (List.replicate ((xs0.length : Int).toNat) (default : D.Ins)), ()))
def wp.laws_eqIns (s0 : D.Ins) (s1 : D.Ins) (Q : Bool → Prop) : Prop :=
 bcase (s0.Op != s1.Op) (Q false) (bcase (s0.A != s1.A) (Q false) (bcase (s0.B != s1.B) (Q false) (bcase (s0.C != s1.C) (Q false) (Q true))))
def wp.laws_eqInsS (xs0 : List D.Ins) (xs1 : List D.Ins) (Q : Bool → Prop) : Prop :=
 bcase ((xs0.length : Int) != (xs1.length : Int)) (Q false) (LoopP (σ := Int × Unit) (fun (p48 : Int × Unit) next25 => match p48 with | (i21, _) => bcase (decide (i21 < (xs0.length : Int))) (((0 ≤ i21 ∧ i21 < (xs0.length : Int)) ∧ ((0 ≤ i21 ∧ i21 < (xs1.length : Int)) ∧ (∀ r38, r38 = M.laws_eqIns (rd xs0 i21) (rd xs1 i21) → bcase (!r38) (Q false) (next25 ((wrap .i64 (i21 + 1)), ())))))) (Q true)) (0, ()))
def wp.spec_IsLocal (s0 : D.Ins) (Q : Bool → Prop) : Prop :=
 (∀ r23, r23 = M.spec_l01In s0.Op 0 12 → Q r23)
def wp.spec_l04Reg (x0 : Int) (Q : Bool → Prop) : Prop :=
 (∀ r21, r21 = M.spec_l01In x0 0 3 → Q r21)
def wp.spec_InsOk (s0 : D.Ins) (x1 : Int) (Q : Bool → Prop) : Prop :=
 (∀ r23, r23 = M.spec_l01In x1 0 32 → bcase (!r23) (Q false) (JoinP (σ := Bool × Unit) (fun J29 => bcase (s0.Op == 0) (J29 (true, ())) (bcase (s0.Op == 12) (J29 (true, ())) (J29 ((s0.Op == 16), ())))) (fun (p124 : Bool × Unit) => match p124 with | (b28, _) => bcase b28 (bcase (s0.A == 0) (bcase (s0.B == 0) (Q (s0.C == 0)) (Q false)) (Q false)) (bcase (s0.Op == 1) ((∀ r36, r36 = M.spec_l04Reg s0.A → bcase r36 ((∀ r41, r41 = M.spec_IsWord s0.B → bcase r41 (Q (s0.C == 0)) (Q false))) (Q false))) (JoinP (σ := Bool × Unit) (fun J49 => bcase (s0.Op == 2) (J49 (true, ())) (bcase (s0.Op == 13) (J49 (true, ())) (bcase (s0.Op == 14) (J49 (true, ())) (J49 ((s0.Op == 15), ()))))) (fun (p120 : Bool × Unit) => match p120 with | (b48, _) => bcase b48 ((∀ r55, r55 = M.spec_l04Reg s0.A → bcase r55 ((∀ r60, r60 = M.spec_l04Reg s0.B → bcase r60 (Q (s0.C == 0)) (Q false))) (Q false))) (bcase (s0.Op == 8) ((∀ r67, r67 = M.spec_l04Reg s0.A → bcase r67 (bcase (s0.B == 0) (Q (s0.C == 0)) (Q false)) (Q false))) (bcase (s0.Op == 10) ((∀ r74, r74 = M.spec_l04Reg s0.A → bcase r74 ((∀ r79, r79 = M.spec_l01In s0.B 0 x1 → bcase r79 (Q (s0.C == 0)) (Q false))) (Q false))) (bcase (s0.Op == 11) (bcase (s0.A == 0) ((∀ r86, r86 = M.spec_l01In s0.B 0 x1 → bcase r86 (Q (s0.C == 0)) (Q false))) (Q false)) ((∀ r93, r93 = M.spec_l01In s0.Op 3 9 → bcase r93 ((∀ r98, r98 = M.spec_l04Reg s0.A → bcase r98 ((∀ r103, r103 = M.spec_l04Reg s0.B → bcase r103 ((∀ r108, r108 = M.spec_l04Reg s0.C → Q r108)) (Q false))) (Q false))) (Q false))))))))))))
def wp.spec_ProgramOk (xs0 : List D.Ins) (Q : Bool → Prop) : Prop :=
 LoopP (σ := Int × Unit) (fun (p42 : Int × Unit) next25 => match p42 with | (i21, _) => bcase (decide (i21 < (xs0.length : Int))) (((0 ≤ i21 ∧ i21 < (xs0.length : Int)) ∧ (∀ r32, r32 = M.spec_InsOk (rd xs0 i21) (xs0.length : Int) → bcase (!r32) (Q false) (next25 ((wrap .i64 (i21 + 1)), ()))))) (Q (decide ((xs0.length : Int) ≤ 32)))) (0, ())
def wp.spec_SubWords (x0 : Int) (x1 : Int) (Q : Int → Prop) : Prop :=
 (∀ r21, r21 = M.spec_IsWord x0 → bcase (!r21) (Q 0) ((∀ r26, r26 = M.spec_IsWord x1 → bcase (!r26) (Q 0) ((∀ r31, r31 = M.spec_WrapWord (wrap .i64 (x0 - x1)) → Q r31)))))
def wp.spec_MulWords (x0 : Int) (x1 : Int) (Q : Int → Prop) : Prop :=
 (∀ r21, r21 = M.spec_IsWord x0 → bcase (!r21) (Q 0) ((∀ r26, r26 = M.spec_IsWord x1 → bcase (!r26) (Q 0) ((∀ r31, r31 = M.spec_WrapWord (wrap .i64 (x0 * x1)) → Q r31)))))
def wp.spec_LessWords (x0 : Int) (x1 : Int) (Q : Int → Prop) : Prop :=
 (∀ r21, r21 = M.spec_IsWord x0 → bcase r21 ((∀ r26, r26 = M.spec_IsWord x1 → bcase r26 (bcase (decide (x0 < x1)) (Q 1) (Q 0)) (Q 0))) (Q 0))
def wp.spec_l10Apply (s0 : D.Ins) (x1 : Int) (xs2 : List Int) (Q : (List Int) → Prop) : Prop :=
 ((([] : List Int).length + xs2.length ≤ 17179869184) ∧ bcase (s0.Op == 1) (((0 ≤ s0.A ∧ s0.A < ((([] : List Int) ++ xs2).length : Int)) ∧ Q (List.set (([] : List Int) ++ xs2) (s0.A.toNat) s0.B))) (bcase (s0.Op == 2) (((0 ≤ s0.B ∧ s0.B < (xs2.length : Int)) ∧ ((0 ≤ s0.A ∧ s0.A < ((([] : List Int) ++ xs2).length : Int)) ∧ Q (List.set (([] : List Int) ++ xs2) (s0.A.toNat) (rd xs2 s0.B))))) (bcase (s0.Op == 3) (((0 ≤ s0.B ∧ s0.B < (xs2.length : Int)) ∧ ((0 ≤ s0.C ∧ s0.C < (xs2.length : Int)) ∧ (∀ r84, r84 = M.spec_AddWords (rd xs2 s0.B) (rd xs2 s0.C) → ((0 ≤ s0.A ∧ s0.A < ((([] : List Int) ++ xs2).length : Int)) ∧ Q (List.set (([] : List Int) ++ xs2) (s0.A.toNat) r84)))))) (bcase (s0.Op == 4) (((0 ≤ s0.B ∧ s0.B < (xs2.length : Int)) ∧ ((0 ≤ s0.C ∧ s0.C < (xs2.length : Int)) ∧ (∀ r128, r128 = M.spec_SubWords (rd xs2 s0.B) (rd xs2 s0.C) → ((0 ≤ s0.A ∧ s0.A < ((([] : List Int) ++ xs2).length : Int)) ∧ Q (List.set (([] : List Int) ++ xs2) (s0.A.toNat) r128)))))) (bcase (s0.Op == 5) (((0 ≤ s0.B ∧ s0.B < (xs2.length : Int)) ∧ ((0 ≤ s0.C ∧ s0.C < (xs2.length : Int)) ∧ (∀ r172, r172 = M.spec_MulWords (rd xs2 s0.B) (rd xs2 s0.C) → ((0 ≤ s0.A ∧ s0.A < ((([] : List Int) ++ xs2).length : Int)) ∧ Q (List.set (([] : List Int) ++ xs2) (s0.A.toNat) r172)))))) (bcase (s0.Op == 6) (((0 ≤ s0.B ∧ s0.B < (xs2.length : Int)) ∧ ((0 ≤ s0.C ∧ s0.C < (xs2.length : Int)) ∧ ((0 ≤ s0.A ∧ s0.A < ((([] : List Int) ++ xs2).length : Int)) ∧ Q (List.set (([] : List Int) ++ xs2) (s0.A.toNat) (bitXor .i64 (rd xs2 s0.B) (rd xs2 s0.C))))))) (bcase (s0.Op == 7) (((0 ≤ s0.B ∧ s0.B < (xs2.length : Int)) ∧ ((0 ≤ s0.C ∧ s0.C < (xs2.length : Int)) ∧ (∀ r235, r235 = M.spec_LessWords (rd xs2 s0.B) (rd xs2 s0.C) → ((0 ≤ s0.A ∧ s0.A < ((([] : List Int) ++ xs2).length : Int)) ∧ Q (List.set (([] : List Int) ++ xs2) (s0.A.toNat) r235)))))) (bcase (s0.Op == 8) (((0 ≤ s0.A ∧ s0.A < ((([] : List Int) ++ xs2).length : Int)) ∧ Q (List.set (([] : List Int) ++ xs2) (s0.A.toNat) x1))) (bcase (s0.Op == 9) (((0 ≤ s0.C ∧ s0.C < (xs2.length : Int)) ∧ bcase ((rd xs2 s0.C) != 0) (((0 ≤ s0.B ∧ s0.B < (xs2.length : Int)) ∧ ((0 ≤ s0.A ∧ s0.A < ((([] : List Int) ++ xs2).length : Int)) ∧ Q (List.set (([] : List Int) ++ xs2) (s0.A.toNat) (rd xs2 s0.B))))) (Q (([] : List Int) ++ xs2)))) (Q (([] : List Int) ++ xs2)))))))))))
def wp.slices_Clone_int_int (xs0 : List Int) (Q : (List Int) → Prop) : Prop :=
 (∀ b21 : Bool, (b21 = true → xs0 = []) → bcase b21 (Q ([] : List Int)) (((([] : List Int).length + xs0.length ≤ 17179869184) ∧ Q (([] : List Int) ++ xs0))))
def wp.impl_formOf (x0 : Int) (Q : ByteArray → Prop) : Prop :=
 (∀ r21, r21 = M.impl_within x0 0 16 → bcase (!r21) (Q (⟨#[]⟩)) (((0 ≤ x0 ∧ x0 < (([⟨#[45, 45, 45]⟩, ⟨#[82, 87, 45]⟩, ⟨#[82, 82, 45]⟩, ⟨#[82, 82, 82]⟩, ⟨#[82, 82, 82]⟩, ⟨#[82, 82, 82]⟩, ⟨#[82, 82, 82]⟩, ⟨#[82, 82, 82]⟩, ⟨#[82, 45, 45]⟩, ⟨#[82, 82, 82]⟩, ⟨#[82, 84, 45]⟩, ⟨#[45, 84, 45]⟩, ⟨#[45, 45, 45]⟩, ⟨#[82, 82, 45]⟩, ⟨#[82, 82, 45]⟩, ⟨#[82, 82, 45]⟩, ⟨#[45, 45, 45]⟩] : List ByteArray).length : Int)) ∧ Q (rd ([⟨#[45, 45, 45]⟩, ⟨#[82, 87, 45]⟩, ⟨#[82, 82, 45]⟩, ⟨#[82, 82, 82]⟩, ⟨#[82, 82, 82]⟩, ⟨#[82, 82, 82]⟩, ⟨#[82, 82, 82]⟩, ⟨#[82, 82, 82]⟩, ⟨#[82, 45, 45]⟩, ⟨#[82, 82, 82]⟩, ⟨#[82, 84, 45]⟩, ⟨#[45, 84, 45]⟩, ⟨#[45, 45, 45]⟩, ⟨#[82, 82, 45]⟩, ⟨#[82, 82, 45]⟩, ⟨#[82, 82, 45]⟩, ⟨#[45, 45, 45]⟩] : List ByteArray) x0))))
def wp.impl_isReg (x0 : Int) (Q : Bool → Prop) : Prop :=
 (∀ r21, r21 = M.impl_within x0 0 3 → Q r21)
def wp.impl_isField (x0 : Int) (x1 : Int) (x2 : Int) (Q : Bool → Prop) : Prop :=
 bcase (x0 == 82) ((∀ r21, r21 = M.impl_isReg x1 → Q r21)) (bcase (x0 == 87) ((∀ r26, r26 = M.impl_IsWord x1 → Q r26)) (bcase (x0 == 84) ((∀ r31, r31 = M.impl_within x1 0 x2 → Q r31)) (Q (x1 == 0))))
def wp.impl_InsOk (s0 : D.Ins) (x1 : Int) (Q : Bool → Prop) : Prop :=
 (∀ r23, r23 = M.impl_formOf s0.Op → bcase (!(ByteArray.toList r23 == ByteArray.toList (⟨#[]⟩))) ((∀ r28, r28 = M.impl_within x1 0 32 → bcase r28 (((0 ≤ (0 : Int) ∧ (0 : Int) < ((ByteArray.size r23 : Nat) : Int)) ∧ (M.impl_isField_pre (bt r23 0) s0.A x1 ∧ ∀ r38, r38 = M.impl_isField (bt r23 0) s0.A x1 → bcase r38 (((0 ≤ (1 : Int) ∧ (1 : Int) < ((ByteArray.size r23 : Nat) : Int)) ∧ (M.impl_isField_pre (bt r23 1) s0.B x1 ∧ ∀ r48, r48 = M.impl_isField (bt r23 1) s0.B x1 → bcase r48 (((0 ≤ (2 : Int) ∧ (2 : Int) < ((ByteArray.size r23 : Nat) : Int)) ∧ (M.impl_isField_pre (bt r23 2) s0.C x1 ∧ ∀ r58, r58 = M.impl_isField (bt r23 2) s0.C x1 → Q r58))) (Q false)))) (Q false)))) (Q false))) (Q false))
def wp.impl_ProgramOk_1 (s0 : D.Ins) (xs1 : List D.Ins) (Q : Bool → Prop) : Prop :=
 (∀ r23, r23 = M.impl_InsOk s0 (xs1.length : Int) → Q (!r23))
def wp.slices_IndexFunc_impl_Ins_impl_Ins (xs0 : List D.Ins) (g1 : D.Ins → Bool) (D1 : D.Ins → Prop) (Q : Int → Prop) : Prop :=
 LoopP (σ := Int × Unit) (fun (p42 : Int × Unit) next25 => match p42 with | (i21, _) => bcase (decide (i21 < (xs0.length : Int))) (((0 ≤ i21 ∧ i21 < (xs0.length : Int)) ∧ (D1 (rd xs0 i21) ∧ ∀ r32, r32 = g1 (rd xs0 i21) → bcase r32 (Q i21) (next25 ((wrap .i64 (i21 + 1)), ()))))) (Q (-1))) (0, ())
def wp.slices_ContainsFunc_impl_Ins_impl_Ins (xs0 : List D.Ins) (g1 : D.Ins → Bool) (D1 : D.Ins → Prop) (Q : Bool → Prop) : Prop :=
 (M.slices_IndexFunc_impl_Ins_impl_Ins_pre xs0 g1 D1 ∧ ∀ r21, r21 = M.slices_IndexFunc_impl_Ins_impl_Ins xs0 g1 → Q (decide (r21 ≥ 0)))
def wp.impl_ProgramOk (xs0 : List D.Ins) (Q : Bool → Prop) : Prop :=
 bcase (decide ((xs0.length : Int) ≤ 32)) ((M.slices_ContainsFunc_impl_Ins_impl_Ins_pre xs0 (fun z0_ => M.impl_ProgramOk_1 z0_ xs0) (fun _ => True) ∧ ∀ r23, r23 = M.slices_ContainsFunc_impl_Ins_impl_Ins xs0 (fun z0_ => M.impl_ProgramOk_1 z0_ xs0) → Q (!r23))) (Q false)
def wp.impl_IsLocal (s0 : D.Ins) (Q : Bool → Prop) : Prop :=
 (∀ r23, r23 = M.impl_within s0.Op 0 12 → Q r23)
def wp.impl_SubWords (x0 : Int) (x1 : Int) (Q : Int → Prop) : Prop :=
 (∀ r21, r21 = M.impl_wrapped x0 x1 (wrap .i64 (x0 - x1)) → Q r21)
def wp.impl_MulWords (x0 : Int) (x1 : Int) (Q : Int → Prop) : Prop :=
 (∀ r21, r21 = M.impl_wrapped x0 x1 (wrap .i64 (x0 * x1)) → Q r21)
def wp.impl_LessWords (x0 : Int) (x1 : Int) (Q : Int → Prop) : Prop :=
 (∀ r21, r21 = M.impl_IsWord x0 → bcase r21 ((∀ r26, r26 = M.impl_IsWord x1 → bcase r26 (bcase (decide (x0 < x1)) (Q 1) (Q 0)) (Q 0))) (Q 0))
end Go.V
namespace Go.V
open IntKind (wrap)
theorem bcq {b x z : Bool} : bcase b (x = z) (false = z) ↔ (b && x) = z := by cases b <;> simp [bcase]
theorem wp.laws_szInsS.math (a : List D.Ins) (x : Int) (h : M.laws_szInsS_pre a x) : wp.laws_szInsS a x (fun r => r = M.laws_szInsS a x) := by
 unfold wp.laws_szInsS M.laws_szInsS
 obtain ⟨h1, h2, h3⟩ := h
 unfold M.Long at h3
 rw [w64 (by omega) (by omega)]
 refine bcase_mk (fun e => ?_) fun e => ?_
 ·rw [if_pos (by simpa using e)]
 ·rw [if_neg (by simpa using e)]
theorem wp.laws_toIns.math (a : D.Ins) : wp.laws_toIns a (fun r => r = M.laws_toIns a) := rfl
theorem wp.laws_toInsS.math (a : List D.Ins) (h : M.laws_toInsS_pre a) : wp.laws_toInsS a (fun r => r = M.laws_toInsS a) := by
 unfold wp.laws_toInsS
 unfold M.laws_toInsS_pre at h
 refine ⟨by omega, ?_⟩
 refine loop_n a.length (fun k => ((k : Int), cp id a k, ())) (fun _ => True) (by simp [cp_zero]) trivial (fun k hk hF next hn => ?_) fun hF next => ?_
 ·refine bcase_t (by simp; omega) ⟨by omega, fun r hr => ⟨⟨by omega, by simp only [cp_len id a (Nat.le_of_lt hk)]; omega⟩, ?_⟩⟩
  rw [rd_nat hk] at hr
  subst hr
  rw [up64 hk (by omega)]
  have := cp_set id a hk
  simp only [id] at this
  simp only [Int.toNat_natCast]
  rw [show (⟨(M.laws_toIns a[k]).Op, (M.laws_toIns a[k]).A, (M.laws_toIns a[k]).B, (M.laws_toIns a[k]).C⟩ : D.Ins) = a[k] from rfl, this]
  exact hn trivial
 ·exact bcase_f (by simp) (by rw [cp_all]; simp [M.laws_toInsS])
theorem wp.laws_eqIns.math (a b : D.Ins) : wp.laws_eqIns a b (fun r => r = M.laws_eqIns a b) := by
 obtain ⟨a1, a2, a3, a4⟩ := a
 obtain ⟨b1, b2, b3, b4⟩ := b
 simp only [wp.laws_eqIns, M.laws_eqIns]
 refine bcase_mk (fun e => ?_) fun e1 => bcase_mk (fun e => ?_) fun e2 => bcase_mk (fun e => ?_) fun e3 => bcase_mk (fun e => ?_) fun e4 => ?_ <;> simp_all
theorem wp.laws_eqInsS.math (a b : List D.Ins) (h : M.laws_eqInsS_pre a b) : wp.laws_eqInsS a b (fun r => r = M.laws_eqInsS a b) := by
 unfold wp.laws_eqInsS
 have hb : a.length ≤ 9223372036854775807 := h
 refine bcase_mk (fun e => ?_) fun e => ?_
 ·simp [M.laws_eqInsS]; rintro rfl; simp at e
 have hl : a.length = b.length := by simp at e; omega
 refine loop_n a.length (fun k => ((k : Int), ())) (fun k => ∀ j : Nat, j < k → rd a j = rd b j) rfl (by simp) (fun k hk hF next hn => ?_) fun hF next => ?_
 ·refine bcase_t (by simp; omega) ⟨by omega, by omega, fun r hr => bcase_mk (fun e => ?_) fun e => ?_⟩
  ·subst hr; simp [M.laws_eqInsS]; rintro rfl; simp [M.laws_eqIns] at e
  ·subst hr
   rw [up64 hk hb]
   refine hn fun j hj => ?_
   by_cases hjk : j = k
   ·subst hjk; simpa [M.laws_eqIns] using e
   ·exact hF j (by omega)
 ·refine bcase_f (by simp) ?_
  have := eq_of_takes hl hF
  simp [M.laws_eqInsS, this]
theorem wp.slices_Clone_int_int.math (l : List Int) (h : M.slices_Clone_int_int_pre l) : wp.slices_Clone_int_int l (fun r => r = M.slices_Clone_int_int l) := by
 intro b hb
 refine bcase_mk (fun e => ?_) fun e => ⟨by simpa [M.slices_Clone_int_int_pre] using h, rfl⟩
 rw [hb e]; rfl
theorem wp.spec_IsLocal.math (i : D.Ins) : wp.spec_IsLocal i (fun r => r = M.spec_IsLocal i) := fun r hr => hr
theorem wp.impl_IsLocal.math (i : D.Ins) : wp.impl_IsLocal i (fun r => r = M.impl_IsLocal i) := fun r hr => hr
theorem wp.spec_l04Reg.math (x : Int) : wp.spec_l04Reg x (fun r => r = M.spec_l04Reg x) := fun r hr => hr
theorem wp.impl_isReg.math (x : Int) : wp.impl_isReg x (fun r => r = M.impl_isReg x) := fun r hr => hr
theorem wp.spec_InsOk.math (i : D.Ins) (n : Int) : wp.spec_InsOk i n (fun r => r = M.spec_InsOk i n) := by
 simp only [wp.spec_InsOk, JoinP, forall_eq, M.spec_l01In, M.spec_l04Reg, M.spec_IsWord, bcq, M.spec_InsOk, M.insOk]
 refine bcase_mk (fun e => ?_) fun e => ?_
 ·have hn : M.isIn n 0 32 = false := by simpa using e
  simp [hn]
 have hn : M.isIn n 0 32 = true := by simpa using e
 rw [hn, Bool.true_and]
 by_cases h0 : i.Op = 0
 ·simp [h0, bcase, Bool.and_assoc]
 by_cases h12 : i.Op = 12
 ·simp [h12, bcase, Bool.and_assoc]
 by_cases h16 : i.Op = 16
 ·simp [h16, bcase, Bool.and_assoc]
 by_cases h1 : i.Op = 1
 ·simp [h1, bcase, Bool.and_assoc]
 by_cases h2 : i.Op = 2
 ·simp [h2, bcase, Bool.and_assoc]
 by_cases h13 : i.Op = 13
 ·simp [h13, bcase, Bool.and_assoc]
 by_cases h14 : i.Op = 14
 ·simp [h14, bcase, Bool.and_assoc]
 by_cases h15 : i.Op = 15
 ·simp [h15, bcase, Bool.and_assoc]
 by_cases h8 : i.Op = 8
 ·simp [h8, bcase, Bool.and_assoc]
 by_cases h10 : i.Op = 10
 ·simp [h10, bcase, Bool.and_assoc]
 by_cases h11 : i.Op = 11
 ·simp [h11, bcase, Bool.and_assoc]
 have b0 : (i.Op == 0) = false := by simp [h0]
 have b12 : (i.Op == 12) = false := by simp [h12]
 have b16 : (i.Op == 16) = false := by simp [h16]
 have b1 : (i.Op == 1) = false := by simp [h1]
 have b2 : (i.Op == 2) = false := by simp [h2]
 have b13 : (i.Op == 13) = false := by simp [h13]
 have b14 : (i.Op == 14) = false := by simp [h14]
 have b15 : (i.Op == 15) = false := by simp [h15]
 have b8 : (i.Op == 8) = false := by simp [h8]
 have b10 : (i.Op == 10) = false := by simp [h10]
 have b11 : (i.Op == 11) = false := by simp [h11]
 simp only [b0, b12, b16, b1, b2, b13, b14, b15, b8, b10, b11, bcase, h0, h12, h16, h1, h2, h13, h14, h15, h8, h10, h11, or_self, if_false]
theorem all_loop {α : Type} [Inhabited α] {l : List α} {g : α → Bool} (hl : M.Long l) {B : (Int × Unit) → ((Int × Unit) → Prop) → Prop} {Q : Bool → Prop}
    (hb : ∀ (k : Nat) (next : (Int × Unit) → Prop), k < l.length → (g (rd l (k : Int)) = false → l.all g = false → Q false) → (g (rd l (k : Int)) = true → next (((k + 1 : Nat) : Int), ())) → B ((k : Int), ()) next)
    (he : ∀ (next : (Int × Unit) → Prop), l.all g = true → B ((l.length : Int), ()) next) (hQ : l.all g = false → Q false) : LoopP B (0, ()) := by
 refine loop_n l.length (fun k => ((k : Int), ())) (fun k => (l.take k).all g = true) rfl (by simp) (fun k hk hF next hn => ?_) fun hF next => ?_
 ·refine hb k next hk (fun e h => hQ h) fun e => ?_
  rw [rd_nat hk] at e
  exact hn (take_all_succ hk hF e)
 ·rw [List.take_length] at hF
  exact he next hF
theorem all_false {α : Type} [Inhabited α] {l : List α} {g : α → Bool} {k : Nat} (hk : k < l.length) (e : g (rd l (k : Int)) = false) : l.all g = false := by
 rw [rd_nat hk] at e; exact all_at hk e
theorem wp.spec_ProgramOk.math (p : List D.Ins) (h : M.spec_ProgramOk_pre p) : wp.spec_ProgramOk p (fun r => r = M.spec_ProgramOk p) := by
 unfold wp.spec_ProgramOk
 refine all_loop (g := fun i => M.insOk i p.length) (Q := fun r => r = M.programOk p) h (fun k next hk h1 h2 => ?_) (fun next ha => ?_) fun ha => by simp only [M.programOk, ha, Bool.and_false]
 ·refine bcase_t (by simp; omega) ⟨by omega, fun r hr => bcase_mk (fun e => ?_) fun e => ?_⟩
  ·have := nt e hr
   exact h1 this (all_false (g := fun i => M.insOk i p.length) hk this)
  ·rw [up64 hk h]; exact h2 (nf e hr)
 ·refine bcase_f (by simp) ?_
  simp only [M.spec_ProgramOk, M.programOk, ha, Bool.and_true]
  by_cases h32 : p.length ≤ 32
  ·simp [h32]; omega
  ·simp [h32]; omega
theorem wp.impl_formOf.math (op : Int) : wp.impl_formOf op (fun r => r = M.impl_formOf op) := by
 intro r hr
 refine bcase_mk (fun e => ?_) fun e => ?_
 ·have : M.isIn op 0 16 = false := nt e hr
  have h' : ¬ (0 ≤ op ∧ op ≤ 16) := by simpa [M.isIn] using this
  have h2 : M.isIn op 3 9 = false := by simp [M.isIn]; omega
  simp only [M.impl_formOf, M.formOf, h2]
  rw [if_neg (by omega), if_neg (by omega), if_neg (by omega), if_neg (by omega), if_neg (by omega), if_neg (by omega)]
  rfl
 ·have : M.isIn op 0 16 = true := nf e hr
  have h' : 0 ≤ op ∧ op ≤ 16 := by simpa [M.isIn] using this
  refine ⟨by simp; omega, ?_⟩
  have : op = 0 ∨ op = 1 ∨ op = 2 ∨ op = 3 ∨ op = 4 ∨ op = 5 ∨ op = 6 ∨ op = 7 ∨ op = 8 ∨ op = 9 ∨ op = 10 ∨ op = 11 ∨ op = 12 ∨ op = 13 ∨ op = 14 ∨ op = 15 ∨ op = 16 := by omega
  rcases this with rfl | rfl | rfl | rfl | rfl | rfl | rfl | rfl | rfl | rfl | rfl | rfl | rfl | rfl | rfl | rfl | rfl <;> rfl
theorem wp.impl_isField.math (f x n : Int) (h : M.impl_isField_pre f x n) : wp.impl_isField f x n (fun r => r = M.impl_isField f x n) := by
 refine bcase_mk (fun e r hr => ?_) fun e1 => bcase_mk (fun e r hr => ?_) fun e2 => bcase_mk (fun e r hr => ?_) fun e3 => ?_
 ·simp at e; simp [M.impl_isField, e, hr, M.impl_isReg]
 ·simp at e; simp [M.impl_isField, e, hr, M.impl_IsWord]
 ·simp at e; simp [M.impl_isField, e, hr, M.impl_within]
 ·simp at e1 e2 e3; simp [M.impl_isField, e1, e2, e3]
theorem str_ne {a b : ByteArray} (h : ByteArray.toList a ≠ ByteArray.toList b) : (!(ByteArray.toList a == ByteArray.toList b)) = true := by simp [h]
theorem formOf_cases (op : Int) : (M.formOf op = ⟨#[45, 45, 45]⟩ ∧ (op = 0 ∨ op = 12 ∨ op = 16)) ∨ (M.formOf op = ⟨#[82, 87, 45]⟩ ∧ op = 1) ∨ (M.formOf op = ⟨#[82, 82, 45]⟩ ∧ (op = 2 ∨ op = 13 ∨ op = 14 ∨ op = 15)) ∨
    (M.formOf op = ⟨#[82, 45, 45]⟩ ∧ op = 8) ∨ (M.formOf op = ⟨#[82, 84, 45]⟩ ∧ op = 10) ∨ (M.formOf op = ⟨#[45, 84, 45]⟩ ∧ op = 11) ∨ (M.formOf op = ⟨#[82, 82, 82]⟩ ∧ (3 ≤ op ∧ op ≤ 7 ∨ op = 9)) ∨
    (M.formOf op = ⟨#[]⟩ ∧ (op < 0 ∨ op > 16)) := by
 unfold M.formOf
 by_cases a1 : op = 0 ∨ op = 12 ∨ op = 16
 ·rw [if_pos a1]; exact .inl ⟨rfl, a1⟩
 rw [if_neg a1]
 by_cases a2 : op = 1
 ·rw [if_pos a2]; exact .inr (.inl ⟨rfl, a2⟩)
 rw [if_neg a2]
 by_cases a3 : op = 2 ∨ op = 13 ∨ op = 14 ∨ op = 15
 ·rw [if_pos a3]; exact .inr (.inr (.inl ⟨rfl, a3⟩))
 rw [if_neg a3]
 by_cases a4 : op = 8
 ·rw [if_pos a4]; exact .inr (.inr (.inr (.inl ⟨rfl, a4⟩)))
 rw [if_neg a4]
 by_cases a5 : op = 10
 ·rw [if_pos a5]; exact .inr (.inr (.inr (.inr (.inl ⟨rfl, a5⟩))))
 rw [if_neg a5]
 by_cases a6 : op = 11
 ·rw [if_pos a6]; exact .inr (.inr (.inr (.inr (.inr (.inl ⟨rfl, a6⟩)))))
 rw [if_neg a6]
 by_cases a7 : 3 ≤ op ∧ op ≤ 9
 ·rw [if_pos (by simp [M.isIn]; omega)]; exact .inr (.inr (.inr (.inr (.inr (.inr (.inl ⟨rfl, by omega⟩))))))
 rw [if_neg (by simp [M.isIn]; omega)]; exact .inr (.inr (.inr (.inr (.inr (.inr (.inr ⟨rfl, by omega⟩))))))
theorem ins_core {i : D.Ins} {n : Int} {f : ByteArray} {x y z : Int} (hx : bt f 0 = x) (hy : bt f 1 = y) (hz : bt f 2 = z) (hs : f.size = 3) (hf : ByteArray.toList f ≠ ByteArray.toList (⟨#[]⟩)) {P : Bool → Prop} (hin : M.isIn n 0 32 = false → P false)
    (h : M.isIn n 0 32 = true → P (M.impl_isField x i.A n && (M.impl_isField y i.B n && M.impl_isField z i.C n))) :
    bcase (!(ByteArray.toList f == ByteArray.toList (⟨#[]⟩))) ((∀ r28, r28 = M.impl_within n 0 32 → bcase r28 (((0 ≤ (0 : Int) ∧ (0 : Int) < ((ByteArray.size f : Nat) : Int)) ∧ (M.impl_isField_pre (bt f 0) i.A n ∧ ∀ r38, r38 = M.impl_isField (bt f 0) i.A n → bcase r38 (((0 ≤ (1 : Int) ∧ (1 : Int) < ((ByteArray.size f : Nat) : Int)) ∧ (M.impl_isField_pre (bt f 1) i.B n ∧ ∀ r48, r48 = M.impl_isField (bt f 1) i.B n → bcase r48 (((0 ≤ (2 : Int) ∧ (2 : Int) < ((ByteArray.size f : Nat) : Int)) ∧ (M.impl_isField_pre (bt f 2) i.C n ∧ ∀ r58, r58 = M.impl_isField (bt f 2) i.C n → P r58))) (P false)))) (P false)))) (P false))) (P false) := by
 refine bcase_t (str_ne hf) fun r1 h1 => bcase_mk (fun e1 => ⟨by omega, trivial, fun r2 h2 => bcase_mk (fun e2 => ⟨by omega, trivial, fun r3 h3 => bcase_mk (fun e3 => ⟨by omega, trivial, fun r4 h4 => ?_⟩) fun e3 => ?_⟩) fun e2 => ?_⟩) fun e1 => hin (h1.symm.trans e1)
 all_goals have hh := h (h1.symm.trans e1)
 ·rw [hx] at h2; rw [hy] at h3; rw [hz] at h4
  rw [← h2, ← h3, ← h4, e2, e3] at hh; exact hh
 ·rw [hx] at h2; rw [hy] at h3
  rw [← h2, ← h3, e2, e3] at hh; exact hh
 ·rw [hx] at h2
  rw [← h2, e2] at hh; exact hh
theorem wp.impl_InsOk.math (i : D.Ins) (n : Int) : wp.impl_InsOk i n (fun r => r = M.impl_InsOk i n) := by
 intro r hr
 have hr' : r = M.formOf i.Op := hr
 rcases formOf_cases i.Op with ⟨e, h⟩ | ⟨e, h⟩ | ⟨e, h⟩ | ⟨e, h⟩ | ⟨e, h⟩ | ⟨e, h⟩ | ⟨e, h⟩ | ⟨e, h⟩
 case inr.inr.inr.inr.inr.inr.inr =>
  rw [hr', e]
  refine bcase_f (by simp) ?_
  simp only [M.impl_InsOk, M.insOk]
  rw [if_neg (by omega), if_neg (by omega), if_neg (by omega), if_neg (by omega), if_neg (by omega), if_neg (by omega)]
  have : M.isIn i.Op 3 9 = false := by simp [M.isIn]; omega
  simp [this]
 ·rw [hr', e]
  refine ins_core (x := 45) (y := 45) (z := 45) (P := fun r => r = M.impl_InsOk i n) (by decide +kernel) (by decide +kernel) (by decide +kernel) rfl (by decide +kernel) (fun hn => by simp [M.impl_InsOk, M.insOk, hn]) fun hn => ?_
  simp only [M.impl_InsOk, M.insOk, hn, Bool.true_and]
  rw [if_pos h]
  simp [M.impl_isField]
 ·rw [hr', e]
  refine ins_core (x := 82) (y := 87) (z := 45) (P := fun r => r = M.impl_InsOk i n) (by decide +kernel) (by decide +kernel) (by decide +kernel) rfl (by decide +kernel) (fun hn => by simp [M.impl_InsOk, M.insOk, hn]) fun hn => ?_
  simp only [M.impl_InsOk, M.insOk, hn, Bool.true_and]
  rw [if_neg (by omega), if_pos h]
  simp [M.impl_isField]
 ·rw [hr', e]
  refine ins_core (x := 82) (y := 82) (z := 45) (P := fun r => r = M.impl_InsOk i n) (by decide +kernel) (by decide +kernel) (by decide +kernel) rfl (by decide +kernel) (fun hn => by simp [M.impl_InsOk, M.insOk, hn]) fun hn => ?_
  simp only [M.impl_InsOk, M.insOk, hn, Bool.true_and]
  rw [if_neg (by omega), if_neg (by omega), if_pos h]
  simp [M.impl_isField]
 ·rw [hr', e]
  refine ins_core (x := 82) (y := 45) (z := 45) (P := fun r => r = M.impl_InsOk i n) (by decide +kernel) (by decide +kernel) (by decide +kernel) rfl (by decide +kernel) (fun hn => by simp [M.impl_InsOk, M.insOk, hn]) fun hn => ?_
  simp only [M.impl_InsOk, M.insOk, hn, Bool.true_and]
  rw [if_neg (by omega), if_neg (by omega), if_neg (by omega), if_pos h]
  simp [M.impl_isField]
 ·rw [hr', e]
  refine ins_core (x := 82) (y := 84) (z := 45) (P := fun r => r = M.impl_InsOk i n) (by decide +kernel) (by decide +kernel) (by decide +kernel) rfl (by decide +kernel) (fun hn => by simp [M.impl_InsOk, M.insOk, hn]) fun hn => ?_
  simp only [M.impl_InsOk, M.insOk, hn, Bool.true_and]
  rw [if_neg (by omega), if_neg (by omega), if_neg (by omega), if_neg (by omega), if_pos h]
  simp [M.impl_isField]
 ·rw [hr', e]
  refine ins_core (x := 45) (y := 84) (z := 45) (P := fun r => r = M.impl_InsOk i n) (by decide +kernel) (by decide +kernel) (by decide +kernel) rfl (by decide +kernel) (fun hn => by simp [M.impl_InsOk, M.insOk, hn]) fun hn => ?_
  simp only [M.impl_InsOk, M.insOk, hn, Bool.true_and]
  rw [if_neg (by omega), if_neg (by omega), if_neg (by omega), if_neg (by omega), if_neg (by omega), if_pos h]
  simp [M.impl_isField]
 ·rw [hr', e]
  refine ins_core (x := 82) (y := 82) (z := 82) (P := fun r => r = M.impl_InsOk i n) (by decide +kernel) (by decide +kernel) (by decide +kernel) rfl (by decide +kernel) (fun hn => by simp [M.impl_InsOk, M.insOk, hn]) fun hn => ?_
  simp only [M.impl_InsOk, M.insOk, hn, Bool.true_and]
  rw [if_neg (by omega), if_neg (by omega), if_neg (by omega), if_neg (by omega), if_neg (by omega), if_neg (by omega)]
  have : M.isIn i.Op 3 9 = true := by simp [M.isIn]; omega
  simp [M.impl_isField, this]
theorem wp.impl_ProgramOk_1.math (i : D.Ins) (p : List D.Ins) : wp.impl_ProgramOk_1 i p (fun r => r = M.impl_ProgramOk_1 i p) := fun r hr => by rw [hr]; rfl
theorem wp.slices_IndexFunc_impl_Ins_impl_Ins.math (l : List D.Ins) (g : D.Ins → Bool) (D : D.Ins → Prop) (h : M.slices_IndexFunc_impl_Ins_impl_Ins_pre l g D) : wp.slices_IndexFunc_impl_Ins_impl_Ins l g D (fun r => r = M.slices_IndexFunc_impl_Ins_impl_Ins l g) := by
 unfold wp.slices_IndexFunc_impl_Ins_impl_Ins
 obtain ⟨h1, h2⟩ := h
 refine loop_n l.length (fun k => ((k : Int), ())) (fun k => M.slices_IndexFunc_impl_Ins_impl_Ins l g = M.firstIx g (l.drop k) k) rfl (by simp [M.slices_IndexFunc_impl_Ins_impl_Ins]) (fun k hk hF next hn => ?_) fun hF next => ?_
 ·rw [firstIx_from g l k hk] at hF
  refine bcase_t (by simp; omega) ⟨by omega, h2 _ (rd_mem hk), fun r hr => bcase_mk (fun e => ?_) fun e => ?_⟩
  ·rw [hF, if_pos (by rw [← hr]; exact e)]
  ·rw [up64 hk h1]
   exact hn (by rw [hF, if_neg (by rw [← hr, e]; simp)])
 ·refine bcase_f (by simp) ?_
  rw [hF]; simp [M.firstIx]
theorem wp.slices_ContainsFunc_impl_Ins_impl_Ins.math (l : List D.Ins) (g : D.Ins → Bool) (D : D.Ins → Prop) (h : M.slices_ContainsFunc_impl_Ins_impl_Ins_pre l g D) : wp.slices_ContainsFunc_impl_Ins_impl_Ins l g D (fun r => r = M.slices_ContainsFunc_impl_Ins_impl_Ins l g) :=
 ⟨h, fun r hr => by rw [hr]; exact firstIx_nonneg g l 0⟩
theorem wp.impl_ProgramOk.math (p : List D.Ins) (h : M.impl_ProgramOk_pre p) : wp.impl_ProgramOk p (fun r => r = M.impl_ProgramOk p) := by
 refine bcase_mk (fun e => ⟨⟨h, fun _ _ => trivial⟩, fun r hr => ?_⟩) fun e => ?_
 ·have h32 : p.length ≤ 32 := by simp at e; omega
  rw [hr]
  simp only [M.slices_ContainsFunc_impl_Ins_impl_Ins, M.impl_ProgramOk, M.programOk, M.impl_ProgramOk_1, ← List.all_eq_not_any_not, h32, decide_true, Bool.true_and]
 ·have h32 : ¬ p.length ≤ 32 := by simp at e; omega
  simp [M.impl_ProgramOk, M.programOk, h32]
theorem wp.spec_SubWords.math (a b : Int) : wp.spec_SubWords a b (fun r => r = M.spec_SubWords a b) := by
 intro r1 h1
 refine bcase_mk (fun e1 => ?_) fun e1 r2 h2 => bcase_mk (fun e2 => ?_) fun e2 r3 h3 => ?_
 ·have : M.isWord a = false := nt e1 h1
  simp [M.spec_SubWords, M.subW, this]
 ·have : M.isWord b = false := nt e2 h2
  simp [M.spec_SubWords, M.subW, this]
 ·have ha : M.isWord a = true := nf e1 h1
  have hb : M.isWord b = true := nf e2 h2
  have := isWord_iff.1 ha
  have := isWord_iff.1 hb
  rw [h3, w64 (by omega) (by omega)]
  simp [M.spec_SubWords, M.subW, M.spec_WrapWord, ha, hb]
theorem mul_bound {a b : Int} (ha : 0 ≤ a ∧ a ≤ 65535) (hb : 0 ≤ b ∧ b ≤ 65535) : 0 ≤ a * b ∧ a * b ≤ 4294836225 :=
 ⟨Int.mul_nonneg ha.1 hb.1, by have := Int.mul_le_mul ha.2 hb.2 hb.1 (by omega : (0 : Int) ≤ 65535); omega⟩
theorem wp.spec_MulWords.math (a b : Int) : wp.spec_MulWords a b (fun r => r = M.spec_MulWords a b) := by
 intro r1 h1
 refine bcase_mk (fun e1 => ?_) fun e1 r2 h2 => bcase_mk (fun e2 => ?_) fun e2 r3 h3 => ?_
 ·have : M.isWord a = false := nt e1 h1
  simp [M.spec_MulWords, M.mulW, this]
 ·have : M.isWord b = false := nt e2 h2
  simp [M.spec_MulWords, M.mulW, this]
 ·have ha : M.isWord a = true := nf e1 h1
  have hb : M.isWord b = true := nf e2 h2
  have := mul_bound (isWord_iff.1 ha) (isWord_iff.1 hb)
  rw [h3, w64 (by omega) (by omega)]
  simp [M.spec_MulWords, M.mulW, M.spec_WrapWord, ha, hb]
theorem wp.spec_LessWords.math (a b : Int) : wp.spec_LessWords a b (fun r => r = M.spec_LessWords a b) := by
 intro r1 h1
 refine bcase_mk (fun e1 r2 h2 => bcase_mk (fun e2 => bcase_mk (fun e3 => ?_) fun e3 => ?_) fun e2 => ?_) fun e1 => ?_
 ·have ha : M.isWord a = true := h1.symm.trans e1
  have hb : M.isWord b = true := h2.symm.trans e2
  simp at e3; simp [M.spec_LessWords, M.lessW, ha, hb, e3]
 ·simp at e3; simp [M.spec_LessWords, M.lessW]; omega
 ·have hb : M.isWord b = false := h2.symm.trans e2
  simp [M.spec_LessWords, M.lessW, hb]
 ·have ha : M.isWord a = false := h1.symm.trans e1
  simp [M.spec_LessWords, M.lessW, ha]
theorem wp.impl_LessWords.math (a b : Int) : wp.impl_LessWords a b (fun r => r = M.impl_LessWords a b) := wp.spec_LessWords.math a b
theorem wp.impl_SubWords.math (a b : Int) : wp.impl_SubWords a b (fun r => r = M.impl_SubWords a b) := by
 intro r hr
 rw [hr]
 simp only [M.impl_wrapped, M.impl_SubWords, M.subW]
 by_cases h : (M.isWord a && M.isWord b) = true
 ·rw [if_pos h, if_pos h]
  simp only [Bool.and_eq_true, isWord_iff] at h
  rw [w64 (by omega) (by omega)]
 ·rw [if_neg h, if_neg h]
theorem wp.impl_MulWords.math (a b : Int) : wp.impl_MulWords a b (fun r => r = M.impl_MulWords a b) := by
 intro r hr
 rw [hr]
 simp only [M.impl_wrapped, M.impl_MulWords, M.mulW]
 by_cases h : (M.isWord a && M.isWord b) = true
 ·rw [if_pos h, if_pos h]
  simp only [Bool.and_eq_true, isWord_iff] at h
  have := mul_bound h.1 h.2
  rw [w64 (by omega) (by omega)]
 ·rw [if_neg h, if_neg h]
theorem isReg_iff {x : Int} : M.isReg x = true ↔ 0 ≤ x ∧ x ≤ 3 := by simp [M.isReg, M.isIn]
theorem fits_regs {i : D.Ins} {r : List Int} (h : M.Fits i r) : r.length = 4 ∧ (1 ≤ i.Op ∧ i.Op ≤ 10 → 0 ≤ i.A ∧ i.A ≤ 3) ∧ (2 ≤ i.Op ∧ i.Op ≤ 7 ∨ i.Op = 9 → 0 ≤ i.B ∧ i.B ≤ 3) ∧ (3 ≤ i.Op ∧ i.Op ≤ 7 ∨ i.Op = 9 → 0 ≤ i.C ∧ i.C ≤ 3) := by
 obtain ⟨hl, n, hok⟩ := h
 simp only [M.insOk, Bool.and_eq_true] at hok
 have hok := hok.2
 split at hok
 ·exact ⟨hl, by omega, by omega, by omega⟩
 split at hok
 ·simp only [Bool.and_eq_true, isReg_iff] at hok
  exact ⟨hl, fun _ => hok.1, by omega, by omega⟩
 split at hok
 ·simp only [Bool.and_eq_true, isReg_iff] at hok
  exact ⟨hl, fun _ => hok.1, fun _ => hok.2.1, by omega⟩
 split at hok
 ·simp only [Bool.and_eq_true, isReg_iff] at hok
  exact ⟨hl, fun _ => hok.1, by omega, by omega⟩
 split at hok
 ·simp only [Bool.and_eq_true, isReg_iff] at hok
  exact ⟨hl, fun _ => hok.1, by omega, by omega⟩
 split at hok
 ·exact ⟨hl, by omega, by omega, by omega⟩
 ·simp only [Bool.and_eq_true, isReg_iff] at hok
  exact ⟨hl, fun _ => hok.2.1, fun _ => hok.2.2.1, fun _ => hok.2.2.2⟩
theorem rd_reg {r : List Int} {x : Int} (hl : r.length = 4) (h : 0 ≤ x ∧ x ≤ 3) : 0 ≤ x ∧ x < (r.length : Int) := by omega
theorem wp.spec_l10Apply.math (i : D.Ins) (t : Int) (r : List Int) (h : M.spec_l10Apply_pre i t r) : wp.spec_l10Apply i t r (fun x => x = M.spec_l10Apply i t r) := by
 obtain ⟨hl, hA, hB, hC⟩ := fits_regs h
 simp only [wp.spec_l10Apply, List.nil_append, List.length_nil, forall_eq]
 refine ⟨by omega, ?_⟩
 refine bcase_mk (fun e => ?_) fun n1 => bcase_mk (fun e => ?_) fun n2 => bcase_mk (fun e => ?_) fun n3 => bcase_mk (fun e => ?_) fun n4 => bcase_mk (fun e => ?_) fun n5 => bcase_mk (fun e => ?_) fun n6 => bcase_mk (fun e => ?_) fun n7 => bcase_mk (fun e => ?_) fun n8 => bcase_mk (fun e => ?_) fun n9 => ?_
 ·have hk : i.Op = 1 := by simpa using e
  exact ⟨rd_reg hl (hA (by omega)), by simp [M.spec_l10Apply, M.apply, hk]⟩
 ·have hk : i.Op = 2 := by simpa using e
  exact ⟨rd_reg hl (hB (by omega)), rd_reg hl (hA (by omega)), by simp [M.spec_l10Apply, M.apply, hk]⟩
 ·have hk : i.Op = 3 := by simpa using e
  exact ⟨rd_reg hl (hB (by omega)), rd_reg hl (hC (by omega)), rd_reg hl (hA (by omega)), by simp [M.spec_l10Apply, M.apply, hk, M.spec_AddWords, M.impl_AddWords]⟩
 ·have hk : i.Op = 4 := by simpa using e
  exact ⟨rd_reg hl (hB (by omega)), rd_reg hl (hC (by omega)), rd_reg hl (hA (by omega)), by simp [M.spec_l10Apply, M.apply, hk, M.spec_SubWords, M.impl_SubWords]⟩
 ·have hk : i.Op = 5 := by simpa using e
  exact ⟨rd_reg hl (hB (by omega)), rd_reg hl (hC (by omega)), rd_reg hl (hA (by omega)), by simp [M.spec_l10Apply, M.apply, hk, M.spec_MulWords, M.impl_MulWords]⟩
 ·have hk : i.Op = 6 := by simpa using e
  exact ⟨rd_reg hl (hB (by omega)), rd_reg hl (hC (by omega)), rd_reg hl (hA (by omega)), by simp [M.spec_l10Apply, M.apply, hk]⟩
 ·have hk : i.Op = 7 := by simpa using e
  exact ⟨rd_reg hl (hB (by omega)), rd_reg hl (hC (by omega)), rd_reg hl (hA (by omega)), by simp [M.spec_l10Apply, M.apply, hk, M.spec_LessWords, M.impl_LessWords]⟩
 ·have hk : i.Op = 8 := by simpa using e
  exact ⟨rd_reg hl (hA (by omega)), by simp [M.spec_l10Apply, M.apply, hk]⟩
 ·have hk : i.Op = 9 := by simpa using e
  refine ⟨rd_reg hl (hC (by omega)), bcase_mk (fun e2 => ⟨rd_reg hl (hB (by omega)), rd_reg hl (hA (by omega)), ?_⟩) fun e2 => ?_⟩
  ·have h2 : ¬ rd r i.C = 0 := by simpa using e2
   simp [M.spec_l10Apply, M.apply, hk, h2]
  ·have h2 : rd r i.C = 0 := by simpa using e2
   simp [M.spec_l10Apply, M.apply, hk, h2]
 ·simp at n1 n2 n3 n4 n5 n6 n7 n8 n9
  simp [M.spec_l10Apply, M.apply, n1, n2, n3, n4, n5, n6, n7, n8, n9]
theorem rd_of {α : Type} [Inhabited α] {xs : List α} {i : Int} (h0 : 0 ≤ i) (h1 : i < (xs.length : Int)) : rd xs i ∈ xs := by
 obtain ⟨k, rfl⟩ := Int.eq_ofNat_of_zero_le h0
 exact rd_mem (by omega)
theorem apply_len (i : D.Ins) (t : Int) (r : List Int) : (M.apply i t r).length = r.length := by
 unfold M.apply
 (repeat' split) <;> simp
end Go.V
namespace Go.V
open IntKind (wrap)
def wp.laws_szIntS (xs0 : List Int) (x1 : Int) (Q : Int → Prop) : Prop :=
 bcase (decide ((wrap .i64 (x1 - (xs0.length : Int))) < 0)) (Q (-1)) (Q (wrap .i64 (x1 - (xs0.length : Int))))
def wp.laws_markInsS (xs0 : List D.Ins) (x1 : Int) (Q : (Int × (List D.Ins)) → Prop) : Prop :=
 LoopP (σ := Int × Int × (List D.Ins) × Unit) (fun (p111 : Int × Int × (List D.Ins) × Unit) next70 => match p111 with | (i63, i64, xs65, _) => bcase (decide (i64 < (xs0.length : Int))) (((0 ≤ i64 ∧ i64 < (xs65.length : Int)) ∧ ((0 ≤ i64 ∧ i64 < ((List.set xs65 (i64.toNat) (⟨i63, (rd xs65 i64).A, (rd xs65 i64).B, (rd xs65 i64).C⟩ : D.Ins)).length : Int)) ∧ ((0 ≤ i64 ∧ i64 < ((List.set xs65 (i64.toNat) (⟨i63, (wrap .i64 (i63 + 1)), (rd xs65 i64).B, (rd xs65 i64).C⟩ : D.Ins)).length : Int)) ∧ ((0 ≤ i64 ∧ i64 < ((List.set xs65 (i64.toNat) (⟨i63, (wrap .i64 (i63 + 1)), (wrap .i64 ((wrap .i64 (i63 + 1)) + 1)), (rd xs65 i64).C⟩ : D.Ins)).length : Int)) ∧ next70 ((wrap .i64 ((wrap .i64 ((wrap .i64 ((wrap .i64 (i63 + 1)) + 1)) + 1)) + 1)), (wrap .i64 (i64 + 1)), (List.set xs65 (i64.toNat) (⟨i63, (wrap .i64 (i63 + 1)), (wrap .i64 ((wrap .i64 (i63 + 1)) + 1)), (wrap .i64 ((wrap .i64 ((wrap .i64 (i63 + 1)) + 1)) + 1))⟩ : D.Ins)), ())))))) (Q (i63, xs65))) (x1, 0, xs0, ())
end Go.V
namespace Go.V
open IntKind (wrap)
theorem wp.laws_szIntS.math (a : List Int) (x : Int) (h : M.laws_szIntS_pre a x) : wp.laws_szIntS a x (fun r => r = M.laws_szIntS a x) := by
 unfold wp.laws_szIntS M.laws_szIntS
 obtain ⟨h1, h2, h3⟩ := h
 unfold M.Long at h3
 rw [w64 (by omega) (by omega)]
 refine bcase_mk (fun e => ?_) fun e => ?_
 ·rw [if_pos (by simpa using e)]
 ·rw [if_neg (by simpa using e)]
theorem wp.laws_markInsS.math (a : List D.Ins) (x : Int) (h : M.laws_markInsS_pre a x) : wp.laws_markInsS a x (fun r => r = M.laws_markInsS a x) := by
 unfold wp.laws_markInsS
 obtain ⟨⟨h1, h2⟩, h3⟩ := h
 unfold M.Few at h3
 let g : Nat → D.Ins := fun i => ⟨x + 4 * (i : Int), x + 4 * (i : Int) + 1, x + 4 * (i : Int) + 2, x + 4 * (i : Int) + 3⟩
 refine loop_n a.length (fun k => (x + 4 * k, (k : Int), mk g a k, ())) (fun _ => True) (by simp [mk_zero]) trivial (fun k hk hF next hn => ?_) fun hF next => ?_
 ·have hl := mk_len g a (Nat.le_of_lt hk)
  have e1 : wrap .i64 (x + 4 * (k : Int) + 1) = x + 4 * (k : Int) + 1 := w64 (by omega) (by omega)
  have e2 : wrap .i64 (x + 4 * (k : Int) + 1 + 1) = x + 4 * (k : Int) + 2 := by rw [w64 (by omega) (by omega)]; omega
  have e3 : wrap .i64 (x + 4 * (k : Int) + 2 + 1) = x + 4 * (k : Int) + 3 := by rw [w64 (by omega) (by omega)]; omega
  have e4 : wrap .i64 (x + 4 * (k : Int) + 3 + 1) = x + 4 * ((k + 1 : Nat) : Int) := by rw [w64 (by omega) (by omega)]; push_cast; omega
  have hs := mk_set g a hk
  refine bcase_t (by simp; omega) ?_
  simp only [e1, e2, e3, e4, List.length_set, hl, Int.toNat_natCast, up64 hk (show a.length ≤ 9223372036854775807 by omega)]
  refine ⟨by omega, by omega, by omega, by omega, ?_⟩
  rw [show (⟨x + 4 * (k : Int), x + 4 * (k : Int) + 1, x + 4 * (k : Int) + 2, x + 4 * (k : Int) + 3⟩ : D.Ins) = g k from rfl, hs]
  exact hn trivial
 ·exact bcase_f (by simp) (by rw [mk_all]; rfl)
end Go.V
namespace Go.V
open IntKind (wrap)
def wp.impl_isWarpNumber (x0 : Int) (Q : Bool → Prop) : Prop :=
 (∀ r21, r21 = M.impl_within x0 0 2 → Q r21)
def wp.slices_Index_int_int (xs0 : List Int) (x1 : Int) (Q : Int → Prop) : Prop :=
 LoopP (σ := Int × Unit) (fun (p37 : Int × Unit) next25 => match p37 with | (i21, _) => bcase (decide (i21 < (xs0.length : Int))) (((0 ≤ i21 ∧ i21 < (xs0.length : Int)) ∧ bcase (x1 == (rd xs0 i21)) (Q i21) (next25 ((wrap .i64 (i21 + 1)), ())))) (Q (-1))) (0, ())
def wp.slices_Contains_int_int (xs0 : List Int) (x1 : Int) (Q : Bool → Prop) : Prop :=
 (M.slices_Index_int_int_pre xs0 x1 ∧ ∀ r21, r21 = M.slices_Index_int_int xs0 x1 → Q (decide (r21 ≥ 0)))
end Go.V
namespace Go.V
open IntKind (wrap)
theorem wp.impl_isWarpNumber.math (x : Int) : wp.impl_isWarpNumber x (fun r => r = M.impl_isWarpNumber x) := fun r hr => hr
theorem wp.slices_Index_int_int.math (l : List Int) (x : Int) (h : M.slices_Index_int_int_pre l x) : wp.slices_Index_int_int l x (fun r => r = M.slices_Index_int_int l x) := by
 unfold wp.slices_Index_int_int
 refine loop_n l.length (fun k => ((k : Int), ())) (fun k => M.slices_Index_int_int l x = M.firstIx (fun y => x == y) (l.drop k) k) rfl (by simp [M.slices_Index_int_int]) (fun k hk hF next hn => ?_) fun hF next => ?_
 ·rw [firstIx_from _ l k hk] at hF
  refine bcase_t (by simp; omega) ⟨by omega, bcase_mk (fun e => ?_) fun e => ?_⟩
  ·rw [hF, if_pos e]
  ·rw [up64 hk h]
   exact hn (by rw [hF, if_neg (by rw [e]; simp)])
 ·refine bcase_f (by simp) ?_
  rw [hF]; simp [M.firstIx]
theorem wp.slices_Contains_int_int.math (l : List Int) (x : Int) (h : M.slices_Contains_int_int_pre l x) : wp.slices_Contains_int_int l x (fun r => r = M.slices_Contains_int_int l x) :=
 ⟨h, fun r hr => by rw [hr]; exact firstIx_nonneg _ l 0⟩
end Go.V
namespace Go.V
open IntKind (wrap)
def wp.laws_szFrameS (xs0 : List D.Frame) (x1 : Int) (Q : Int → Prop) : Prop :=
 bcase (decide ((wrap .i64 (x1 - (xs0.length : Int))) < 0)) (Q (-1)) (Q (wrap .i64 (x1 - (xs0.length : Int))))
def wp.laws_szWarp (s0 : D.Warp) (x1 : Int) (Q : Int → Prop) : Prop :=
 (M.laws_szFrameS_pre s0.Frames x1 ∧ ∀ r23, r23 = M.laws_szFrameS s0.Frames x1 → bcase (decide (r23 < 0)) (Q (-1)) ((M.laws_szIntS_pre s0.Regs r23 ∧ ∀ r28, r28 = M.laws_szIntS s0.Regs r23 → bcase (decide (r28 < 0)) (Q (-1)) (Q r28))))
def wp.laws_szWarpS (xs0 : List D.Warp) (x1 : Int) (Q : Int → Prop) : Prop :=
 bcase (decide ((wrap .i64 (x1 - (xs0.length : Int))) < 0)) (Q (-1)) (LoopP (σ := Int × Int × Unit) (fun (p54 : Int × Int × Unit) next26 => match p54 with | (i21, i22, _) => bcase (decide (i22 < (xs0.length : Int))) (((0 ≤ i22 ∧ i22 < (xs0.length : Int)) ∧ (M.laws_szWarp_pre (rd xs0 i22) i21 ∧ ∀ r44, r44 = M.laws_szWarp (rd xs0 i22) i21 → bcase (decide (r44 < 0)) (Q (-1)) (next26 (r44, (wrap .i64 (i22 + 1)), ()))))) (Q i21)) ((wrap .i64 (x1 - (xs0.length : Int))), 0, ()))
def wp.laws_szBlock (s0 : D.Block) (x1 : Int) (Q : Int → Prop) : Prop :=
 (M.laws_szInsS_pre s0.Code x1 ∧ ∀ r23, r23 = M.laws_szInsS s0.Code x1 → bcase (decide (r23 < 0)) (Q (-1)) ((M.laws_szWarpS_pre s0.Warps r23 ∧ ∀ r28, r28 = M.laws_szWarpS s0.Warps r23 → bcase (decide (r28 < 0)) (Q (-1)) ((M.laws_szIntS_pre s0.Memory r28 ∧ ∀ r33, r33 = M.laws_szIntS s0.Memory r28 → bcase (decide (r33 < 0)) (Q (-1)) (Q r33))))))
def wp.laws_toFrame (s0 : D.Frame) (Q : D.Frame → Prop) : Prop :=
 Q (⟨s0.Pc, s0.Stop, s0.Mask⟩ : D.Frame)
def wp.laws_toFrameS (xs0 : List D.Frame) (Q : (List D.Frame) → Prop) : Prop :=
 ((0 ≤ (xs0.length : Int) ∧ (xs0.length : Int) ≤ 17179869184) ∧ LoopP (σ := Int × (List D.Frame) × Unit) (fun (p80 : Int × (List D.Frame) × Unit) next56 => match p80 with | (i50, xs51, _) => bcase (decide (i50 < (xs0.length : Int))) (((0 ≤ i50 ∧ i50 < (xs0.length : Int)) ∧ (∀ r63, r63 = M.laws_toFrame (rd xs0 i50) → ((0 ≤ i50 ∧ i50 < (xs51.length : Int)) ∧ next56 ((wrap .i64 (i50 + 1)), (List.set xs51 (i50.toNat) (⟨r63.Pc, r63.Stop, r63.Mask⟩ : D.Frame)), ()))))) (Q xs51)) (0, (List.replicate ((xs0.length : Int).toNat) (default : D.Frame)), ()))
def wp.laws_toWarp (s0 : D.Warp) (Q : D.Warp → Prop) : Prop :=
 (M.laws_toFrameS_pre s0.Frames ∧ ∀ r29, r29 = M.laws_toFrameS s0.Frames → (M.laws_toIntS_pre s0.Regs ∧ ∀ r38, r38 = M.laws_toIntS s0.Regs → Q (⟨s0.Number, r29, r38⟩ : D.Warp)))
def wp.laws_toWarpS (xs0 : List D.Warp) (Q : (List D.Warp) → Prop) : Prop :=
 ((0 ≤ (xs0.length : Int) ∧ (xs0.length : Int) ≤ 17179869184) ∧ LoopP (σ := Int × (List D.Warp) × Unit) (fun (p111 : Int × (List D.Warp) × Unit) next72 => match p111 with | (i65, xs66, _) => bcase (decide (i65 < (xs0.length : Int))) (((0 ≤ i65 ∧ i65 < (xs0.length : Int)) ∧ (M.laws_toWarp_pre (rd xs0 i65) ∧ ∀ r90, r90 = M.laws_toWarp (rd xs0 i65) → ((0 ≤ i65 ∧ i65 < (xs66.length : Int)) ∧ next72 ((wrap .i64 (i65 + 1)), (List.set xs66 (i65.toNat) r90), ()))))) (Q xs66)) (0, (List.replicate ((xs0.length : Int).toNat) (default : D.Warp)), ()))
def wp.laws_toBlock (s0 : D.Block) (Q : D.Block → Prop) : Prop :=
 (M.laws_toInsS_pre s0.Code ∧ ∀ r27, r27 = M.laws_toInsS s0.Code → (M.laws_toWarpS_pre s0.Warps ∧ ∀ r36, r36 = M.laws_toWarpS s0.Warps → (M.laws_toIntS_pre s0.Memory ∧ ∀ r46, r46 = M.laws_toIntS s0.Memory → Q (⟨r27, r36, r46, s0.Waiting, s0.Phase⟩ : D.Block))))
def wp.laws_eqFrame (s0 : D.Frame) (s1 : D.Frame) (Q : Bool → Prop) : Prop :=
 bcase (s0.Pc != s1.Pc) (Q false) (bcase (s0.Stop != s1.Stop) (Q false) (bcase (s0.Mask != s1.Mask) (Q false) (Q true)))
def wp.laws_eqFrameS (xs0 : List D.Frame) (xs1 : List D.Frame) (Q : Bool → Prop) : Prop :=
 bcase ((xs0.length : Int) != (xs1.length : Int)) (Q false) (LoopP (σ := Int × Unit) (fun (p48 : Int × Unit) next25 => match p48 with | (i21, _) => bcase (decide (i21 < (xs0.length : Int))) (((0 ≤ i21 ∧ i21 < (xs0.length : Int)) ∧ ((0 ≤ i21 ∧ i21 < (xs1.length : Int)) ∧ (∀ r38, r38 = M.laws_eqFrame (rd xs0 i21) (rd xs1 i21) → bcase (!r38) (Q false) (next25 ((wrap .i64 (i21 + 1)), ())))))) (Q true)) (0, ()))
def wp.laws_eqWarp (s0 : D.Warp) (s1 : D.Warp) (Q : Bool → Prop) : Prop :=
 bcase (s0.Number != s1.Number) (Q false) ((M.laws_eqFrameS_pre s0.Frames s1.Frames ∧ ∀ r25, r25 = M.laws_eqFrameS s0.Frames s1.Frames → bcase (!r25) (Q false) ((M.laws_eqIntS_pre s0.Regs s1.Regs ∧ ∀ r30, r30 = M.laws_eqIntS s0.Regs s1.Regs → bcase (!r30) (Q false) (Q true)))))
def wp.laws_eqWarpS (xs0 : List D.Warp) (xs1 : List D.Warp) (Q : Bool → Prop) : Prop :=
 bcase ((xs0.length : Int) != (xs1.length : Int)) (Q false) (LoopP (σ := Int × Unit) (fun (p70 : Int × Unit) next25 => match p70 with | (i21, _) => bcase (decide (i21 < (xs0.length : Int))) (((0 ≤ i21 ∧ i21 < (xs0.length : Int)) ∧ ((0 ≤ i21 ∧ i21 < (xs1.length : Int)) ∧ (M.laws_eqWarp_pre (rd xs0 i21) (rd xs1 i21) ∧ ∀ r60, r60 = M.laws_eqWarp (rd xs0 i21) (rd xs1 i21) → bcase (!r60) (Q false) (next25 ((wrap .i64 (i21 + 1)), ())))))) (Q true)) (0, ()))
def wp.laws_eqBlock (s0 : D.Block) (s1 : D.Block) (Q : Bool → Prop) : Prop :=
 (M.laws_eqInsS_pre s0.Code s1.Code ∧ ∀ r25, r25 = M.laws_eqInsS s0.Code s1.Code → bcase (!r25) (Q false) ((M.laws_eqWarpS_pre s0.Warps s1.Warps ∧ ∀ r30, r30 = M.laws_eqWarpS s0.Warps s1.Warps → bcase (!r30) (Q false) ((M.laws_eqIntS_pre s0.Memory s1.Memory ∧ ∀ r35, r35 = M.laws_eqIntS s0.Memory s1.Memory → bcase (!r35) (Q false) (bcase (s0.Waiting != s1.Waiting) (Q false) (bcase (s0.Phase != s1.Phase) (Q false) (Q true))))))))
end Go.V
namespace Go.V
open IntKind (wrap)
theorem wp.laws_szFrameS.math (a : List D.Frame) (x : Int) (h : M.laws_szFrameS_pre a x) : wp.laws_szFrameS a x (fun r => r = M.laws_szFrameS a x) := by
 unfold wp.laws_szFrameS M.laws_szFrameS
 obtain ⟨h1, h2, h3⟩ := h
 unfold M.Long at h3
 rw [w64 (by omega) (by omega)]
 refine bcase_mk (fun e => ?_) fun e => ?_
 ·rw [if_pos (by simpa using e)]
 ·rw [if_neg (by simpa using e)]
theorem szF_le {a : List D.Frame} {x : Int} (hx : M.Left x) (h : ¬ M.laws_szFrameS a x < 0) : M.Left (M.laws_szFrameS a x) ∧ a.length ≤ 2097152 := by
 unfold M.Left M.laws_szFrameS at *
 split at h
 ·exact absurd (show (-1 : Int) < 0 by decide) h
 ·rename_i h'; rw [if_neg h']; omega
theorem szI_le {a : List Int} {x : Int} (hx : M.Left x) (h : ¬ M.laws_szIntS a x < 0) : M.Left (M.laws_szIntS a x) ∧ a.length ≤ 2097152 := by
 unfold M.Left M.laws_szIntS at *
 split at h
 ·exact absurd (show (-1 : Int) < 0 by decide) h
 ·rename_i h'; rw [if_neg h']; omega
theorem szP_le {a : List D.Ins} {x : Int} (hx : M.Left x) (h : ¬ M.laws_szInsS a x < 0) : M.Left (M.laws_szInsS a x) ∧ a.length ≤ 2097152 := by
 unfold M.Left M.laws_szInsS at *
 split at h
 ·exact absurd (show (-1 : Int) < 0 by decide) h
 ·rename_i h'; rw [if_neg h']; omega
theorem szW_le {a : D.Warp} {x : Int} (hx : M.Left x) (h : ¬ M.laws_szWarp a x < 0) : M.Left (M.laws_szWarp a x) ∧ M.WSmall a := by
 unfold M.laws_szWarp at *
 split at h
 ·exact absurd (show (-1 : Int) < 0 by decide) h
 rename_i h1
 split at h
 ·exact absurd (show (-1 : Int) < 0 by decide) h
 rename_i h2
 rw [if_neg h1, if_neg h2]
 have k1 := szF_le hx h1
 have k2 := szI_le k1.1 h2
 exact ⟨k2.1, k1.2, k2.2⟩
theorem szWs_le : ∀ {a : List D.Warp} {x : Int}, M.Left x → ¬ M.szWs a x < 0 → M.Left (M.szWs a x) ∧ ∀ y ∈ a, M.WSmall y
 | [], x, hx, h => ⟨hx, fun y hy => absurd hy List.not_mem_nil⟩
 | y :: a, x, hx, h => by
  unfold M.szWs at h ⊢
  split at h
  ·exact absurd (show (-1 : Int) < 0 by decide) h
  rename_i h1
  rw [if_neg h1]
  have k1 := szW_le hx h1
  have k2 := szWs_le k1.1 h
  exact ⟨k2.1, fun z hz => (List.mem_cons.1 hz).elim (fun e => e ▸ k1.2) (k2.2 z)⟩
theorem szWS_le {a : List D.Warp} {x : Int} (hx : M.Left x) (h : ¬ M.laws_szWarpS a x < 0) : M.Left (M.laws_szWarpS a x) ∧ M.WsSmall a := by
 unfold M.laws_szWarpS at *
 split at h
 ·exact absurd (show (-1 : Int) < 0 by decide) h
 rename_i h1
 rw [if_neg h1]
 have hx' : M.Left (x - a.length) := by unfold M.Left at *; omega
 have k := szWs_le hx' h
 exact ⟨k.1, by unfold M.Left at hx; omega, k.2⟩
theorem szB_le {b : D.Block} {x : Int} (hx : M.Left x) (h : ¬ M.laws_szBlock b x < 0) : M.Left (M.laws_szBlock b x) ∧ M.BSmall b := by
 unfold M.laws_szBlock at *
 split at h
 ·exact absurd (show (-1 : Int) < 0 by decide) h
 rename_i h1
 split at h
 ·exact absurd (show (-1 : Int) < 0 by decide) h
 rename_i h2
 split at h
 ·exact absurd (show (-1 : Int) < 0 by decide) h
 rename_i h3
 rw [if_neg h1, if_neg h2, if_neg h3]
 have k1 := szP_le hx h1
 have k2 := szWS_le k1.1 h2
 have k3 := szI_le k2.1 h3
 exact ⟨k3.1, k1.2, k2.2, k3.2⟩
theorem wp.laws_szWarp.math (a : D.Warp) (x : Int) (h : M.laws_szWarp_pre a x) : wp.laws_szWarp a x (fun r => r = M.laws_szWarp a x) := by
 obtain ⟨hx, h1, h2⟩ := h
 refine ⟨⟨hx.1, hx.2, h1⟩, fun r hr => bcase_mk (fun e => ?_) fun e => ?_⟩
 ·subst hr; simp at e; simp [M.laws_szWarp, e]
 have e1 : ¬ M.laws_szFrameS a.Frames x < 0 := by subst hr; simpa using e
 have k := szF_le hx e1
 subst hr
 refine ⟨⟨k.1.1, k.1.2, h2⟩, fun r hr => bcase_mk (fun e2 => ?_) fun e2 => ?_⟩
 ·subst hr; simp at e2; simp [M.laws_szWarp, e1, e2]
 ·subst hr
  have e2 : ¬ M.laws_szIntS a.Regs (M.laws_szFrameS a.Frames x) < 0 := by simpa using e2
  simp only [M.laws_szWarp, if_neg e1, if_neg e2]
theorem szWs_from (a : List D.Warp) (k : Nat) (hk : k < a.length) (n : Int) : M.szWs (a.drop k) n = if M.laws_szWarp (rd a (k : Int)) n < 0 then -1 else M.szWs (a.drop (k + 1)) (M.laws_szWarp (rd a (k : Int)) n) := by
 rw [List.drop_eq_getElem_cons hk, rd_nat hk]; rfl
theorem loop_st {σ τ : Type} {B : σ → (σ → Prop) → Prop} {x : σ} (n : Nat) (s0 : τ) (inv : Nat → τ → σ) (F : Nat → τ → Prop) (hx : x = inv 0 s0) (h0 : F 0 s0)
    (hs : ∀ k s, k < n → F k s → ∀ next : σ → Prop, (∀ s', F (k + 1) s' → next (inv (k + 1) s')) → B (inv k s) next)
    (he : ∀ s, F n s → ∀ next : σ → Prop, B (inv n s) next) : LoopP B x := by
 refine ⟨fun m p => ∃ k s, k ≤ n ∧ m = n - k ∧ p = inv k s ∧ F k s, ⟨n, 0, s0, by omega, by omega, hx, h0⟩, ?_⟩
 rintro m p ⟨k, s, hk, rfl, rfl, hF⟩
 by_cases h : k < n
 ·exact hs k s h hF _ fun s' hF' => ⟨n - (k + 1), by omega, k + 1, s', by omega, rfl, rfl, hF'⟩
 ·have : k = n := by omega
  subst this
  exact he s hF _
theorem wp.laws_szWarpS.math (a : List D.Warp) (x : Int) (h : M.laws_szWarpS_pre a x) : wp.laws_szWarpS a x (fun r => r = M.laws_szWarpS a x) := by
 obtain ⟨hx, h1, h2⟩ := h
 have hx' := hx
 unfold M.Left at hx'
 have h1' : a.length ≤ 9223372036854775807 := h1
 unfold wp.laws_szWarpS M.laws_szWarpS
 rw [w64 (by omega) (by omega)]
 refine bcase_mk (fun e => ?_) fun e => ?_
 ·rw [if_pos (by simpa using e)]
 have e : ¬ x - (a.length : Int) < 0 := by simpa using e
 rw [if_neg e]
 refine loop_st (τ := Int) a.length (x - a.length) (fun k n => (n, (k : Int), ())) (fun k n => M.Left n ∧ M.szWs (a.drop k) n = M.szWs a (x - a.length)) rfl ⟨by unfold M.Left; omega, rfl⟩ (fun k n hk hF next hn => ?_) fun n hF next => ?_
 ·obtain ⟨hL, hE⟩ := hF
  rw [szWs_from a k hk] at hE
  refine bcase_t (by simp; omega) ⟨by omega, ⟨hL, h2 _ (rd_mem hk)⟩, fun r hr => bcase_mk (fun e2 => ?_) fun e2 => ?_⟩
  ·subst hr
   have e2 : M.laws_szWarp (rd a (k : Int)) n < 0 := by simpa using e2
   rw [if_pos e2] at hE; exact hE
  ·subst hr
   have e2 : ¬ M.laws_szWarp (rd a (k : Int)) n < 0 := by simpa using e2
   rw [if_neg e2] at hE
   rw [up64 hk h1']
   exact hn _ ⟨(szW_le hL e2).1, hE⟩
 ·refine bcase_f (by simp) ?_
  have := hF.2
  rw [List.drop_length] at this
  exact this
theorem wp.laws_szBlock.math (b : D.Block) (x : Int) (h : M.laws_szBlock_pre b x) : wp.laws_szBlock b x (fun r => r = M.laws_szBlock b x) := by
 obtain ⟨hx, h1, h2, h3⟩ := h
 refine ⟨⟨hx.1, hx.2, h1⟩, fun r hr => bcase_mk (fun e => ?_) fun e => ?_⟩
 ·subst hr; simp at e; simp [M.laws_szBlock, e]
 subst hr
 have e : ¬ M.laws_szInsS b.Code x < 0 := by simpa using e
 have k := (szP_le hx e).1
 refine ⟨⟨k, h2⟩, fun r hr => bcase_mk (fun e2 => ?_) fun e2 => ?_⟩
 ·subst hr; simp at e2; simp [M.laws_szBlock, e, e2]
 subst hr
 have e2 : ¬ M.laws_szWarpS b.Warps (M.laws_szInsS b.Code x) < 0 := by simpa using e2
 have k2 := (szWS_le k e2).1
 refine ⟨⟨k2.1, k2.2, h3⟩, fun r hr => bcase_mk (fun e3 => ?_) fun e3 => ?_⟩
 ·subst hr; simp at e3; simp [M.laws_szBlock, e, e2, e3]
 subst hr
 have e3 : ¬ M.laws_szIntS b.Memory (M.laws_szWarpS b.Warps (M.laws_szInsS b.Code x)) < 0 := by simpa using e3
 simp only [M.laws_szBlock, if_neg e, if_neg e2, if_neg e3]
theorem wp.laws_toFrame.math (a : D.Frame) : wp.laws_toFrame a (fun r => r = M.laws_toFrame a) := rfl
theorem wp.laws_toFrameS.math (a : List D.Frame) (h : M.laws_toFrameS_pre a) : wp.laws_toFrameS a (fun r => r = M.laws_toFrameS a) := by
 unfold wp.laws_toFrameS
 unfold M.laws_toFrameS_pre at h
 refine ⟨by omega, ?_⟩
 refine loop_n a.length (fun k => ((k : Int), cp id a k, ())) (fun _ => True) (by simp [cp_zero]) trivial (fun k hk hF next hn => ?_) fun hF next => ?_
 ·refine bcase_t (by simp; omega) ⟨by omega, fun r hr => ⟨⟨by omega, by simp only [cp_len id a (Nat.le_of_lt hk)]; omega⟩, ?_⟩⟩
  rw [rd_nat hk] at hr
  subst hr
  rw [up64 hk (by omega)]
  have := cp_set id a hk
  simp only [id] at this
  simp only [Int.toNat_natCast]
  rw [show (⟨(M.laws_toFrame a[k]).Pc, (M.laws_toFrame a[k]).Stop, (M.laws_toFrame a[k]).Mask⟩ : D.Frame) = a[k] from rfl, this]
  exact hn trivial
 ·exact bcase_f (by simp) (by rw [cp_all]; simp [M.laws_toFrameS])
theorem wp.laws_toWarp.math (a : D.Warp) (h : M.laws_toWarp_pre a) : wp.laws_toWarp a (fun r => r = M.laws_toWarp a) :=
 ⟨h.1, fun r hr => ⟨h.2, fun r2 hr2 => by rw [hr, hr2]; rfl⟩⟩
theorem wp.laws_toWarpS.math (a : List D.Warp) (h : M.laws_toWarpS_pre a) : wp.laws_toWarpS a (fun r => r = M.laws_toWarpS a) := by
 unfold wp.laws_toWarpS
 obtain ⟨h1, h2⟩ := h
 refine ⟨by omega, ?_⟩
 refine loop_n a.length (fun k => ((k : Int), cp id a k, ())) (fun _ => True) (by simp [cp_zero]) trivial (fun k hk hF next hn => ?_) fun hF next => ?_
 ·refine bcase_t (by simp; omega) ⟨by omega, h2 _ (rd_mem hk), fun r hr => ⟨⟨by omega, by simp only [cp_len id a (Nat.le_of_lt hk)]; omega⟩, ?_⟩⟩
  rw [rd_nat hk] at hr
  subst hr
  rw [up64 hk (by omega)]
  have := cp_set id a hk
  simp only [id] at this
  simp only [Int.toNat_natCast]
  rw [show M.laws_toWarp a[k] = a[k] from rfl, this]
  exact hn trivial
 ·exact bcase_f (by simp) (by rw [cp_all]; simp [M.laws_toWarpS])
theorem wp.laws_toBlock.math (a : D.Block) (h : M.laws_toBlock_pre a) : wp.laws_toBlock a (fun r => r = M.laws_toBlock a) :=
 ⟨h.1, fun r hr => ⟨h.2.1, fun r2 hr2 => ⟨h.2.2, fun r3 hr3 => by rw [hr, hr2, hr3]; rfl⟩⟩⟩
theorem wp.laws_eqFrame.math (a b : D.Frame) : wp.laws_eqFrame a b (fun r => r = M.laws_eqFrame a b) := by
 cases a; cases b
 unfold wp.laws_eqFrame M.laws_eqFrame
 refine bcase_mk (fun e => ?_) fun e => bcase_mk (fun e2 => ?_) fun e2 => bcase_mk (fun e3 => ?_) fun e3 => ?_
 all_goals simp at *
 ·intro h; exact absurd h e
 ·intro _ h; exact absurd h e2
 ·intro _ _ h; exact absurd h e3
 ·exact ⟨e, e2, e3⟩
theorem eq_loop {α : Type} [Inhabited α] [BEq α] [LawfulBEq α] {a b : List α} (ha : M.Long a) (hl : a.length = b.length) {B : (Int × Unit) → ((Int × Unit) → Prop) → Prop} {Q : Bool → Prop}
    (hb : ∀ (k : Nat) (next : (Int × Unit) → Prop), k < a.length → k < b.length → (rd a (k : Int) ≠ rd b (k : Int) → Q false) → (rd a (k : Int) = rd b (k : Int) → next (((k + 1 : Nat) : Int), ())) → B ((k : Int), ()) next)
    (he : ∀ (next : (Int × Unit) → Prop), a = b → B ((a.length : Int), ()) next) (hQ : a ≠ b → Q false) : LoopP B (0, ()) := by
 refine loop_n a.length (fun k => ((k : Int), ())) (fun k => ∀ j : Nat, j < k → rd a j = rd b j) rfl (by simp) (fun k hk hF next hn => ?_) fun hF next => ?_
 ·refine hb k next hk (by omega) (fun e => hQ (fun h => e (by rw [h]))) fun e => hn fun j hj => ?_
  by_cases hjk : j = k
  ·subst hjk; exact e
  ·exact hF j (by omega)
 ·exact he next (eq_of_takes hl hF)
theorem wp.laws_eqFrameS.math (a b : List D.Frame) (h : M.laws_eqFrameS_pre a b) : wp.laws_eqFrameS a b (fun r => r = M.laws_eqFrameS a b) := by
 unfold wp.laws_eqFrameS
 refine bcase_mk (fun e => ?_) fun e => ?_
 ·simp [M.laws_eqFrameS]; rintro rfl; simp at e
 have hl : a.length = b.length := by simp at e; omega
 refine eq_loop h hl (Q := fun r => r = M.laws_eqFrameS a b) (fun k next hk hk' h1 h2 => ?_) (fun next e => bcase_f (by simp) (by simp [M.laws_eqFrameS, e])) fun hne => by simp [M.laws_eqFrameS, hne]
 refine bcase_t (by simp; omega) ⟨by omega, by omega, fun r hr => bcase_mk (fun e => ?_) fun e => ?_⟩
 ·exact h1 (by subst hr; simpa [M.laws_eqFrame] using e)
 ·rw [up64 hk h]; exact h2 (by subst hr; simpa [M.laws_eqFrame] using e)
theorem wp.laws_eqWarp.math (a b : D.Warp) (h : M.laws_eqWarp_pre a b) : wp.laws_eqWarp a b (fun r => r = M.laws_eqWarp a b) := by
 obtain ⟨h1, h2⟩ := h
 cases a; cases b
 refine bcase_mk (fun e => ?_) fun e => ⟨h1, fun r hr => bcase_mk (fun e2 => ?_) fun e2 => ⟨h2, fun r2 hr2 => bcase_mk (fun e3 => ?_) fun e3 => ?_⟩⟩
 all_goals simp [M.laws_eqWarp, M.laws_eqFrameS, M.laws_eqIntS] at *
 ·intro h; exact absurd h e
 ·subst hr; intro _ h; simp [h] at e2
 ·subst hr hr2; intro _ _ h; simp [h] at e3
 ·subst hr hr2; simp at e2 e3; exact ⟨e, e2, e3⟩
theorem wp.laws_eqWarpS.math (a b : List D.Warp) (h : M.laws_eqWarpS_pre a b) : wp.laws_eqWarpS a b (fun r => r = M.laws_eqWarpS a b) := by
 unfold wp.laws_eqWarpS
 obtain ⟨h, hW⟩ := h
 refine bcase_mk (fun e => ?_) fun e => ?_
 ·simp [M.laws_eqWarpS]; rintro rfl; simp at e
 have hl : a.length = b.length := by simp at e; omega
 refine eq_loop h hl (Q := fun r => r = M.laws_eqWarpS a b) (fun k next hk hk' h1 h2 => ?_) (fun next e => bcase_f (by simp) (by simp [M.laws_eqWarpS, e])) fun hne => by simp [M.laws_eqWarpS, hne]
 refine bcase_t (by simp; omega) ⟨by omega, by omega, hW _ (rd_mem hk), fun r hr => bcase_mk (fun e => ?_) fun e => ?_⟩
 ·exact h1 (by subst hr; simpa [M.laws_eqWarp] using e)
 ·rw [up64 hk h]; exact h2 (by subst hr; simpa [M.laws_eqWarp] using e)
theorem wp.laws_eqBlock.math (a b : D.Block) (h : M.laws_eqBlock_pre a b) : wp.laws_eqBlock a b (fun r => r = M.laws_eqBlock a b) := by
 obtain ⟨h1, h2, h3⟩ := h
 cases a; cases b
 refine ⟨h1, fun r hr => bcase_mk (fun e => ?_) fun e => ⟨h2, fun r2 hr2 => bcase_mk (fun e2 => ?_) fun e2 => ⟨h3, fun r3 hr3 => bcase_mk (fun e3 => ?_) fun e3 => bcase_mk (fun e4 => ?_) fun e4 => bcase_mk (fun e5 => ?_) fun e5 => ?_⟩⟩⟩
 all_goals simp [M.laws_eqBlock, M.laws_eqInsS, M.laws_eqWarpS, M.laws_eqIntS] at *
 ·subst hr; intro h; simp [h] at e
 ·subst hr hr2; intro _ h; simp [h] at e2
 ·subst hr hr2 hr3; intro _ _ h; simp [h] at e3
 ·intro _ _ _ h; exact absurd h e4
 ·intro _ _ _ _ h; exact absurd h e5
 ·subst hr hr2 hr3; simp at e e2 e3; exact ⟨e, e2, e3, e4, e5⟩
end Go.V
namespace Go.V
open IntKind (wrap)
def wp.spec_WarpOk (xs0 : List D.Ins) (s1 : D.Warp) (Q : Bool → Prop) : Prop :=
 (M.spec_ProgramOk_pre xs0 ∧ ∀ r23, r23 = M.spec_ProgramOk xs0 → bcase (!r23) (Q false) ((∀ r28, r28 = M.spec_l01In s1.Number 0 2 → bcase (!r28) (Q false) (bcase ((s1.Regs.length : Int) != 32) (Q false) ((M.spec_AreWords_pre s1.Regs ∧ ∀ r33, r33 = M.spec_AreWords s1.Regs → bcase (!r33) (Q false) (bcase (decide ((s1.Frames.length : Int) > 24)) (Q false) (LoopP (σ := Int × Unit) (fun (p94 : Int × Unit) next42 => match p94 with | (i38, _) => bcase (decide (i38 < (s1.Frames.length : Int))) (((0 ≤ i38 ∧ i38 < (s1.Frames.length : Int)) ∧ (∀ r53, r53 = M.spec_l01In ((rd s1.Frames i38).Pc) 0 (xs0.length : Int) → bcase (!r53) (Q false) ((∀ r58, r58 = M.spec_l01In ((rd s1.Frames i38).Stop) 0 (xs0.length : Int) → bcase (!r58) (Q false) ((∀ r63, r63 = M.spec_IsMask ((rd s1.Frames i38).Mask) → bcase (!r63) (Q false) (bcase ((rd s1.Frames i38).Mask == 0) (Q false) (bcase (i38 == 0) (bcase ((rd s1.Frames i38).Stop != (xs0.length : Int)) (Q false) (bcase ((rd s1.Frames i38).Mask != 255) (Q false) (bcase (i38 == (wrap .i64 ((s1.Frames.length : Int) - 1))) (bcase ((rd s1.Frames i38).Pc == (rd s1.Frames i38).Stop) (Q false) (bcase ((rd s1.Frames i38).Pc == (xs0.length : Int)) (Q false) (next42 ((wrap .i64 (i38 + 1)), ())))) (next42 ((wrap .i64 (i38 + 1)), ()))))) (bcase (i38 == (wrap .i64 ((s1.Frames.length : Int) - 1))) (bcase ((rd s1.Frames i38).Pc == (rd s1.Frames i38).Stop) (Q false) (bcase ((rd s1.Frames i38).Pc == (xs0.length : Int)) (Q false) (next42 ((wrap .i64 (i38 + 1)), ())))) (next42 ((wrap .i64 (i38 + 1)), ())))))))))))) (Q true)) (0, ())))))))))
def wp.spec_BlockOk (s0 : D.Block) (Q : Bool → Prop) : Prop :=
 (M.spec_ProgramOk_pre s0.Code ∧ ∀ r29, r29 = M.spec_ProgramOk s0.Code → bcase (!r29) (Q false) ((∀ r34, r34 = M.spec_l01In (s0.Warps.length : Int) 1 3 → bcase (!r34) (Q false) (bcase ((s0.Memory.length : Int) != 32) (Q false) ((M.spec_AreWords_pre s0.Memory ∧ ∀ r39, r39 = M.spec_AreWords s0.Memory → bcase (!r39) (Q false) (((0 ≤ (s0.Warps.length : Int)) ∧ (∀ r45, r45 = M.spec_l01In s0.Waiting 0 (wrap .i64 ((wrap .i64 (1 * 2 ^ (min ((s0.Warps.length : Int).toNat) (IntKind.bits .i64)))) - 2)) → bcase (!r45) (Q false) ((∀ r50, r50 = M.spec_l01In s0.Phase 0 100000 → bcase (!r50) (Q false) (LoopP (σ := Int × Unit) (fun (p126 : Int × Unit) next59 => match p126 with | (i55, _) => bcase (decide (i55 < (s0.Warps.length : Int))) (((0 ≤ i55 ∧ i55 < (s0.Warps.length : Int)) ∧ (M.spec_WarpOk_pre s0.Code (rd s0.Warps i55) ∧ ∀ r99, r99 = M.spec_WarpOk s0.Code (rd s0.Warps i55) → bcase (!r99) (Q false) (((0 ≤ i55 ∧ i55 < (s0.Warps.length : Int)) ∧ bcase ((rd s0.Warps i55).Number != i55) (Q false) (next59 ((wrap .i64 (i55 + 1)), ()))))))) (Q true)) (0, ())))))))))))))
def wp.impl_isWarpCount (x0 : Int) (Q : Bool → Prop) : Prop :=
 (∀ r21, r21 = M.impl_within x0 1 3 → Q r21)
def wp.impl_isMemory (xs0 : List Int) (Q : Bool → Prop) : Prop :=
 bcase ((xs0.length : Int) == 32) ((M.impl_AreWords_pre xs0 ∧ ∀ r21, r21 = M.impl_AreWords xs0 → Q r21)) (Q false)
def wp.impl_areAllRegs (xs0 : List Int) (Q : Bool → Prop) : Prop :=
 Q ((xs0.length : Int) == 32)
def wp.impl_areFrames (xs0 : List D.Frame) (x1 : Int) (Q : Bool → Prop) : Prop :=
 LoopP (σ := Int × Unit) (fun (p83 : Int × Unit) next25 => match p83 with | (i21, _) => bcase (decide (i21 < (xs0.length : Int))) (((0 ≤ i21 ∧ i21 < (xs0.length : Int)) ∧ (∀ r36, r36 = M.impl_within ((rd xs0 i21).Pc) 0 x1 → bcase (!r36) (Q false) ((∀ r41, r41 = M.impl_within ((rd xs0 i21).Stop) 0 x1 → bcase (!r41) (Q false) ((∀ r46, r46 = M.impl_IsMask ((rd xs0 i21).Mask) → bcase (!r46) (Q false) (bcase ((rd xs0 i21).Mask == 0) (Q false) (next25 ((wrap .i64 (i21 + 1)), ())))))))))) (bcase ((xs0.length : Int) == 0) (Q true) (((0 ≤ (wrap .i64 ((xs0.length : Int) - 1)) ∧ (wrap .i64 ((xs0.length : Int) - 1)) < (xs0.length : Int)) ∧ bcase (decide ((xs0.length : Int) ≤ 24)) (bcase ((rd xs0 (wrap .i64 ((xs0.length : Int) - 1))).Pc != (rd xs0 (wrap .i64 ((xs0.length : Int) - 1))).Stop) (bcase ((rd xs0 (wrap .i64 ((xs0.length : Int) - 1))).Pc != x1) (((0 ≤ (0 : Int) ∧ (0 : Int) < (xs0.length : Int)) ∧ bcase ((rd xs0 0).Stop == x1) (((0 ≤ (0 : Int) ∧ (0 : Int) < (xs0.length : Int)) ∧ Q ((rd xs0 0).Mask == 255))) (Q false))) (Q false)) (Q false)) (Q false))))) (0, ())
def wp.impl_isWarpOf (xs0 : List D.Ins) (s1 : D.Warp) (Q : Bool → Prop) : Prop :=
 (∀ r23, r23 = M.impl_isWarpNumber s1.Number → bcase r23 ((∀ r28, r28 = M.impl_areAllRegs s1.Regs → bcase r28 ((M.impl_AreWords_pre s1.Regs ∧ ∀ r33, r33 = M.impl_AreWords s1.Regs → bcase r33 ((M.impl_areFrames_pre s1.Frames (xs0.length : Int) ∧ ∀ r38, r38 = M.impl_areFrames s1.Frames (xs0.length : Int) → Q r38)) (Q false))) (Q false))) (Q false))
def wp.impl_BlockOk (s0 : D.Block) (Q : Bool → Prop) : Prop :=
 (M.impl_ProgramOk_pre s0.Code ∧ ∀ r29, r29 = M.impl_ProgramOk s0.Code → bcase (!r29) (Q false) ((∀ r34, r34 = M.impl_isWarpCount (s0.Warps.length : Int) → bcase (!r34) (Q false) ((M.impl_isMemory_pre s0.Memory ∧ ∀ r39, r39 = M.impl_isMemory s0.Memory → bcase (!r39) (Q false) (((0 ≤ (s0.Warps.length : Int)) ∧ (∀ r45, r45 = M.impl_within s0.Waiting 0 (wrap .i64 ((wrap .i64 (1 * 2 ^ (min ((s0.Warps.length : Int).toNat) (IntKind.bits .i64)))) - 2)) → bcase (!r45) (Q false) ((∀ r50, r50 = M.impl_within s0.Phase 0 100000 → bcase (!r50) (Q false) (LoopP (σ := Int × Unit) (fun (p92 : Int × Unit) next59 => match p92 with | (i55, _) => bcase (decide (i55 < (s0.Warps.length : Int))) (((0 ≤ i55 ∧ i55 < (s0.Warps.length : Int)) ∧ bcase ((rd s0.Warps i55).Number != i55) (Q false) ((M.impl_isWarpOf_pre s0.Code (rd s0.Warps i55) ∧ ∀ r81, r81 = M.impl_isWarpOf s0.Code (rd s0.Warps i55) → bcase (!r81) (Q false) (next59 ((wrap .i64 (i55 + 1)), ())))))) (Q true)) (0, ()))))))))))))
def wp.impl_Block_waits (s0 : D.Block) (x1 : Int) (Q : Bool → Prop) : Prop :=
 ((0 ≤ x1) ∧ Q ((bitAnd .i64 (Int.fdiv s0.Waiting (2 ^ (min (x1.toNat) (IntKind.bits .i64)))) 1) == 1))
end Go.V
namespace Go.V
open IntKind (wrap)
theorem last_wrap {n : Nat} (h : n ≤ 9223372036854775807) : wrap .i64 ((n : Int) - 1) = (n : Int) - 1 := w64 (by omega) (by omega)
theorem frames_false {fs : List D.Frame} {n : Int} {k : Nat} (hk : k < fs.length) (h : M.frameOk n (rd fs (k : Int)) = false) : M.areFrames fs n = false := by
 have := all_false (g := M.frameOk n) hk h
 simp [M.areFrames, this]
theorem ends_false {fs : List D.Frame} {n : Int} (h0 : fs ≠ []) (h : M.endsOk fs n = false) : M.areFrames fs n = false := by
 have : fs.isEmpty = false := by simpa using h0
 simp [M.areFrames, h, this]
theorem wp.impl_areFrames.math (fs : List D.Frame) (n : Int) (h : M.impl_areFrames_pre fs n) : wp.impl_areFrames fs n (fun r => r = M.impl_areFrames fs n) := by
 unfold wp.impl_areFrames
 have hl : fs.length ≤ 9223372036854775807 := h
 refine all_loop (g := M.frameOk n) (Q := fun r => r = M.areFrames fs n) h (fun k next hk h1 h2 => ?_) (fun next ha => ?_) fun ha => by simp [M.areFrames, ha]
 ·refine bcase_t (by simp; omega) ⟨by omega, fun r hr => bcase_mk (fun e => ?_) fun e r2 hr2 => bcase_mk (fun e2 => ?_) fun e2 r3 hr3 => bcase_mk (fun e3 => ?_) fun e3 => bcase_mk (fun e4 => ?_) fun e4 => ?_⟩
  all_goals simp only [M.impl_within, M.impl_IsMask] at *
  ·have := nt e hr
   exact (frames_false hk (by simp [M.frameOk, this])).symm
  ·have := nt e2 hr2
   exact (frames_false hk (by simp [M.frameOk, this])).symm
  ·have := nt e3 hr3
   exact (frames_false hk (by simp [M.frameOk, this])).symm
  ·have e4 : (rd fs (k : Int)).Mask = 0 := by simpa using e4
   exact (frames_false hk (by simp [M.frameOk, e4])).symm
  ·rw [up64 hk h]
   refine h2 ?_
   have e4 : (rd fs (k : Int)).Mask ≠ 0 := by simpa using e4
   simp [M.frameOk, nf e hr, nf e2 hr2, nf e3 hr3, e4]
 ·refine bcase_f (by simp) (bcase_mk (fun e => ?_) fun e => ?_)
  ·have : fs = [] := by simpa using e
   subst this; rfl
  have h0 : fs ≠ [] := by rintro rfl; simp at e
  have hpos : 0 < fs.length := List.length_pos_iff.2 h0
  have hA : M.areFrames fs n = M.endsOk fs n := by
   have : fs.isEmpty = false := by simpa using h0
   simp [M.areFrames, ha, this]
  show _
  simp only [M.impl_areFrames, hA, last_wrap hl]
  refine ⟨by omega, bcase_mk (fun e1 => bcase_mk (fun e2 => bcase_mk (fun e3 => ⟨by omega, bcase_mk (fun e4 => ⟨by omega, ?_⟩) fun e4 => ?_⟩) fun e3 => ?_) fun e2 => ?_) fun e1 => ?_⟩
  all_goals simp only [M.endsOk]
  all_goals change _ = (_ && ((rd fs ((fs.length : Int) - 1)).Pc != (rd fs ((fs.length : Int) - 1)).Stop && ((rd fs ((fs.length : Int) - 1)).Pc != n && _)))
  ·have e1 : fs.length ≤ 24 := by simp at e1; omega
   rw [e2, e3, e4]; simp [e1]
  ·rw [e4]; simp
  ·rw [e3]; simp
  ·rw [e2]; simp
  ·have e1 : ¬ fs.length ≤ 24 := by simp at e1; omega
   simp [e1]
theorem lenE {r : List Int} : ((r.length : Int) == 32) = (r.length == 32) := by
 rw [Bool.eq_iff_iff]; simp; omega
theorem wp.impl_areAllRegs.math (r : List Int) : wp.impl_areAllRegs r (fun x => x = M.impl_areAllRegs r) := lenE
theorem wp.impl_isWarpCount.math (n : Int) : wp.impl_isWarpCount n (fun x => x = M.impl_isWarpCount n) := fun r hr => hr
theorem wp.impl_isMemory.math (m : List Int) (h : M.impl_isMemory_pre m) : wp.impl_isMemory m (fun x => x = M.impl_isMemory m) := by
 refine bcase_mk (fun e => ⟨h, fun r hr => ?_⟩) fun e => ?_
 ·have : m.length = 32 := by simp at e; omega
  rw [hr]; simp [M.impl_isMemory, this, M.impl_AreWords]
 ·have : ¬ m.length = 32 := by simp at e; omega
  simp [M.impl_isMemory, this]
theorem wp.impl_isWarpOf.math (p : List D.Ins) (x : D.Warp) (h : M.impl_isWarpOf_pre p x) : wp.impl_isWarpOf p x (fun r => r = M.impl_isWarpOf p x) := by
 obtain ⟨h1, h2⟩ := h
 refine fun r hr => bcase_mk (fun e r2 hr2 => bcase_mk (fun e2 => ⟨h2, fun r3 hr3 => bcase_mk (fun e3 => ⟨h1, fun r4 hr4 => ?_⟩) fun e3 => ?_⟩) fun e2 => ?_) fun e => ?_
 all_goals try simp only [M.impl_isWarpNumber, M.impl_areAllRegs, M.impl_AreWords, M.impl_areFrames, M.impl_isWarpOf, M.warpOf] at *
 ·subst hr hr2 hr3 hr4; simp [e, e2, e3]
 ·subst hr hr2 hr3; simp [e, e2, e3]
 ·subst hr hr2; simp [e, e2]
 ·subst hr; simp [e]
theorem lenB {r : List Int} : ((r.length : Int) != 32) = !(r.length == 32) := by rw [← lenE]; rfl
theorem wp.spec_WarpOk.math (p : List D.Ins) (x : D.Warp) (h : M.spec_WarpOk_pre p x) : wp.spec_WarpOk p x (fun r => r = M.spec_WarpOk p x) := by
 obtain ⟨hp, h1, h2⟩ := h
 have hl : x.Frames.length ≤ 9223372036854775807 := h1
 unfold wp.spec_WarpOk
 simp only [lenB]
 refine ⟨hp, fun r hr => bcase_mk (fun e => ?_) fun e r2 hr2 => bcase_mk (fun e2 => ?_) fun e2 => bcase_mk (fun e3 => ?_) fun e3 => ⟨h2, fun r4 hr4 => bcase_mk (fun e4 => ?_) fun e4 => bcase_mk (fun e5 => ?_) fun e5 => ?_⟩⟩
 all_goals try simp only [M.spec_ProgramOk, M.spec_l01In, M.spec_AreWords] at *
 all_goals try simp only [M.spec_WarpOk, M.warpOf]
 ·rw [nt e hr]; rfl
 ·rw [nt e2 hr2]; simp
 ·have : (x.Regs.length == 32) = false := by simpa using e3
  rw [this]; simp
 ·rw [nt e4 hr4]; simp
 ·have h24 : ¬ x.Frames.length ≤ 24 := by simp at e5; omega
  have h0 : x.Frames ≠ [] := by rintro h; rw [h] at h24; simp at h24
  rw [ends_false h0 (by simp [M.endsOk, h24])]; simp
 have h24 : x.Frames.length ≤ 24 := by simp at e5; omega
 have h32 : (x.Regs.length == 32) = true := by simpa using e3
 rw [nf e hr, nf e2 hr2, nf e4 hr4, h32]
 simp only [Bool.true_and]
 have hR : ∀ k : Nat, k < x.Frames.length → rd x.Frames ((k : Int)) = rd x.Frames (k : Int) := fun _ _ => rfl
 rw [last_wrap hl]
 refine loop_n x.Frames.length (fun k => ((k : Int), ())) (fun k => (x.Frames.take k).all (M.frameOk p.length) = true ∧ (0 < k → (rd x.Frames 0).Stop = p.length ∧ (rd x.Frames 0).Mask = 255) ∧ (k = x.Frames.length → 0 < k → (M.lastF x.Frames).Pc ≠ (M.lastF x.Frames).Stop ∧ (M.lastF x.Frames).Pc ≠ p.length)) rfl ⟨by simp, by simp, by simp⟩ (fun k hk hF next hn => ?_) fun hF next => ?_
 ·obtain ⟨g1, g2, g3⟩ := hF
  have h0 : x.Frames ≠ [] := by rintro h; rw [h] at hk; simp at hk
  refine bcase_t (by simp; omega) ⟨by omega, fun r hr => bcase_mk (fun e => ?_) fun e r2 hr2 => bcase_mk (fun e2 => ?_) fun e2 r3 hr3 => bcase_mk (fun e3 => ?_) fun e3 => bcase_mk (fun e4 => ?_) fun e4 => ?_⟩
  all_goals simp only [M.spec_IsMask] at *
  ·have := nt e hr
   exact (frames_false hk (by simp [M.frameOk, this])).symm
  ·have := nt e2 hr2
   exact (frames_false hk (by simp [M.frameOk, this])).symm
  ·have := nt e3 hr3
   exact (frames_false hk (by simp [M.frameOk, this])).symm
  ·have e4 : (rd x.Frames (k : Int)).Mask = 0 := by simpa using e4
   exact (frames_false hk (by simp [M.frameOk, e4])).symm
  have e4 : (rd x.Frames (k : Int)).Mask ≠ 0 := by simpa using e4
  have hok : M.frameOk p.length (rd x.Frames (k : Int)) = true := by simp [M.frameOk, nf e hr, nf e2 hr2, nf e3 hr3, e4]
  rw [rd_nat hk] at hok
  have gk := take_all_succ hk g1 hok
  have tail : ((rd x.Frames 0).Stop = p.length ∧ (rd x.Frames 0).Mask = 255) → bcase ((k : Int) == (x.Frames.length : Int) - 1) (bcase ((rd x.Frames (k : Int)).Pc == (rd x.Frames (k : Int)).Stop) (false = M.areFrames x.Frames p.length) (bcase ((rd x.Frames (k : Int)).Pc == (p.length : Int)) (false = M.areFrames x.Frames p.length) (next ((wrap .i64 ((k : Int) + 1)), ())))) (next ((wrap .i64 ((k : Int) + 1)), ())) := by
   intro hz
   rw [up64 hk hl]
   refine bcase_mk (fun e5 => ?_) fun e5 => ?_
   ·have e5 : (k : Int) = (x.Frames.length : Int) - 1 := by simpa using e5
    have hlast : M.lastF x.Frames = rd x.Frames (k : Int) := by rw [e5]; rfl
    refine bcase_mk (fun e6 => ?_) fun e6 => bcase_mk (fun e7 => ?_) fun e7 => ?_
    ·have e6 : (rd x.Frames (k : Int)).Pc = (rd x.Frames (k : Int)).Stop := by simpa using e6
     exact (ends_false h0 (by simp [M.endsOk, hlast, e6])).symm
    ·have e7 : (rd x.Frames (k : Int)).Pc = p.length := by simpa using e7
     exact (ends_false h0 (by simp [M.endsOk, hlast, e7])).symm
    ·exact hn ⟨gk, fun _ => hz, fun _ _ => by rw [hlast]; exact ⟨by simpa using e6, by simpa using e7⟩⟩
   ·have e5 : ¬ (k : Int) = (x.Frames.length : Int) - 1 := by simpa using e5
    exact hn ⟨gk, fun _ => hz, fun h _ => by omega⟩
  refine bcase_mk (fun e5 => ?_) fun e5 => ?_
  ·have e5 : k = 0 := by simp at e5; omega
   subst e5
   refine bcase_mk (fun e6 => ?_) fun e6 => bcase_mk (fun e7 => ?_) fun e7 => ?_
   ·have e6 : (rd x.Frames 0).Stop ≠ p.length := by simpa using e6
    exact (ends_false h0 (by simp [M.endsOk, e6])).symm
   ·have e7 : (rd x.Frames 0).Mask ≠ 255 := by simpa using e7
    exact (ends_false h0 (by simp [M.endsOk, e7])).symm
   ·exact tail ⟨by simpa using e6, by simpa using e7⟩
  ·have e5 : 0 < k := by simp at e5; omega
   exact tail (g2 e5)
 ·obtain ⟨g1, g2, g3⟩ := hF
  refine bcase_f (by simp) ?_
  rw [List.take_length] at g1
  rcases Nat.eq_zero_or_pos x.Frames.length with h0 | h0
  ·have : x.Frames = [] := List.eq_nil_of_length_eq_zero h0
   rw [this]; rfl
  ·have hne : x.Frames.isEmpty = false := by simpa using List.length_pos_iff.1 h0
   obtain ⟨a1, a2⟩ := g2 h0
   obtain ⟨b1, b2⟩ := g3 rfl h0
   have : M.endsOk x.Frames p.length = true := by simp [M.endsOk, h24, a1, a2, b1, b2]
   simp [M.areFrames, g1, this]
theorem warps_from (p : List D.Ins) (l : List D.Warp) (k : Nat) (hk : k < l.length) : M.warpsOk p k (l.drop k) = (M.warpAt p k (rd l (k : Int)) && M.warpsOk p (k + 1) (l.drop (k + 1))) := by
 rw [List.drop_eq_getElem_cons hk, rd_nat hk]; rfl
theorem warps_loop {p : List D.Ins} {l : List D.Warp} (hl : M.Long l) {B : (Int × Unit) → ((Int × Unit) → Prop) → Prop}
    (hb : ∀ (k : Nat) (next : (Int × Unit) → Prop), k < l.length → (M.warpAt p k (rd l (k : Int)) = false → false = M.warpsOk p 0 l) → (M.warpAt p k (rd l (k : Int)) = true → next (((k + 1 : Nat) : Int), ())) → B ((k : Int), ()) next)
    (he : ∀ (next : (Int × Unit) → Prop), true = M.warpsOk p 0 l → B ((l.length : Int), ()) next) : LoopP B (0, ()) := by
 refine loop_n l.length (fun k => ((k : Int), ())) (fun k => M.warpsOk p 0 l = M.warpsOk p k (l.drop k)) rfl rfl (fun k hk hF next hn => ?_) fun hF next => ?_
 ·rw [warps_from p l k hk] at hF
  refine hb k next hk (fun e => by rw [hF, e]; rfl) fun e => hn (by rw [hF, e]; rfl)
 ·refine he next ?_
  rw [hF, List.drop_length]; rfl
theorem wp.spec_BlockOk.math (b : D.Block) (h : M.spec_BlockOk_pre b) : wp.spec_BlockOk b (fun r => r = M.spec_BlockOk b) := by
 obtain ⟨h1, ⟨h2, hW⟩, h3⟩ := h
 unfold wp.spec_BlockOk
 simp only [lenB]
 refine ⟨h1, fun r hr => bcase_mk (fun e => ?_) fun e r2 hr2 => bcase_mk (fun e2 => ?_) fun e2 => bcase_mk (fun e3 => ?_) fun e3 => ⟨h3, fun r4 hr4 => bcase_mk (fun e4 => ?_) fun e4 => ⟨by omega, fun r5 hr5 => bcase_mk (fun e5 => ?_) fun e5 r6 hr6 => bcase_mk (fun e6 => ?_) fun e6 => ?_⟩⟩⟩
 all_goals try simp only [M.spec_ProgramOk, M.spec_l01In, M.spec_AreWords] at *
 all_goals simp only [M.spec_BlockOk, M.blockOk, M.impl_isMemory]
 ·rw [nt e hr]; rfl
 ·rw [nt e2 hr2]; simp
 ·have : (b.Memory.length == 32) = false := by simpa using e3
  rw [this]; simp
 ·rw [nt e4 hr4]; simp
 ·have := nt e5 hr5
  unfold M.waitTop; rw [this]; simp
 ·rw [nt e6 hr6]; simp
 have h32 : (b.Memory.length == 32) = true := by simpa using e3
 have h5 := nf e5 hr5
 have hp := nf e hr
 unfold M.waitTop
 rw [hp, nf e2 hr2, nf e4 hr4, h32, h5, nf e6 hr6]
 simp only [Bool.true_and]
 refine warps_loop h2 (fun k next hk g1 g2 => ?_) fun next hh => bcase_f (by simp) hh
 refine bcase_t (by simp; omega) ⟨by omega, ⟨h1, hW _ (rd_mem hk)⟩, fun r hr => bcase_mk (fun e => ?_) fun e => ⟨by omega, bcase_mk (fun e2 => ?_) fun e2 => ?_⟩⟩
 all_goals simp only [M.spec_WarpOk, hp, Bool.true_and] at *
 ·exact g1 (by simp [M.warpAt, nt e hr])
 ·have e2 : (rd b.Warps (k : Int)).Number ≠ (k : Int) := by simpa using e2
  exact g1 (by simp [M.warpAt, e2])
 ·have e2 : (rd b.Warps (k : Int)).Number = (k : Int) := by simpa using e2
  rw [up64 hk h2]; exact g2 (by simp [M.warpAt, e2, nf e hr])
theorem wp.impl_BlockOk.math (b : D.Block) (h : M.impl_BlockOk_pre b) : wp.impl_BlockOk b (fun r => r = M.impl_BlockOk b) := by
 obtain ⟨h1, ⟨h2, hW⟩, h3⟩ := h
 refine ⟨h1, fun r hr => bcase_mk (fun e => ?_) fun e r2 hr2 => bcase_mk (fun e2 => ?_) fun e2 => ⟨h3, fun r4 hr4 => bcase_mk (fun e4 => ?_) fun e4 => ⟨by omega, fun r5 hr5 => bcase_mk (fun e5 => ?_) fun e5 r6 hr6 => bcase_mk (fun e6 => ?_) fun e6 => ?_⟩⟩⟩
 all_goals simp only [M.impl_ProgramOk, M.impl_isWarpCount, M.impl_within] at *
 all_goals simp only [M.impl_BlockOk, M.blockOk]
 ·rw [nt e hr]; rfl
 ·rw [nt e2 hr2]; simp
 ·rw [nt e4 hr4]; simp
 ·have := nt e5 hr5
  unfold M.waitTop; rw [this]; simp
 ·rw [nt e6 hr6]; simp
 have h5 := nf e5 hr5
 unfold M.waitTop
 rw [nf e hr, nf e2 hr2, nf e4 hr4, h5, nf e6 hr6]
 simp only [Bool.true_and]
 refine warps_loop h2 (fun k next hk g1 g2 => ?_) fun next hh => bcase_f (by simp) hh
 refine bcase_t (by simp; omega) ⟨by omega, bcase_mk (fun e2 => ?_) fun e2 => ⟨hW _ (rd_mem hk), fun r hr => bcase_mk (fun e => ?_) fun e => ?_⟩⟩
 all_goals simp only [M.impl_isWarpOf] at *
 ·have e2 : (rd b.Warps (k : Int)).Number ≠ (k : Int) := by simpa using e2
  exact g1 (by simp [M.warpAt, e2])
 ·exact g1 (by simp [M.warpAt, nt e hr])
 ·have e2 : (rd b.Warps (k : Int)).Number = (k : Int) := by simpa using e2
  rw [up64 hk h2]; exact g2 (by simp [M.warpAt, e2, nf e hr])
theorem wp.impl_Block_waits.math (b : D.Block) (w : Int) (h : M.impl_Block_waits_pre b w) : wp.impl_Block_waits b w (fun r => r = M.impl_Block_waits b w) := ⟨h, rfl⟩
theorem has_in {b : D.Block} {w : Int} (hb : M.Long b.Warps) (h : M.hasWarp b w = true) : 0 ≤ w ∧ w < (b.Warps.length : Int) ∧ M.blockOk b = true := by
 have hl : b.Warps.length ≤ 9223372036854775807 := hb
 simp only [M.hasWarp, Bool.and_eq_true, M.isIn, decide_eq_true_eq, last_wrap hl] at h
 exact ⟨h.2.1, by omega, h.1⟩
theorem small_long {b : D.Block} (h : M.BSmall b) : M.BLong b := by
 obtain ⟨h1, ⟨h2, h3⟩, h4⟩ := h
 unfold M.BLong M.WsLong M.WLong M.Long
 exact ⟨by omega, ⟨by omega, fun x hx => by have := h3 x hx; unfold M.WSmall at this; omega⟩, by omega⟩
theorem sz_small {b : D.Block} {r : Int} (hr : r = M.laws_szBlock b 1048576) (e : decide (r < 0) = false) : M.BSmall b ∧ M.BLong b := by
 have hb := (szB_le (b := b) (x := 1048576) (by unfold M.Left; omega) (by rw [← hr]; simpa using e)).2
 exact ⟨hb, small_long hb⟩
end Go.V
namespace Go.V
open IntKind (wrap)
def wp.spec_l30Next (s0 : D.Block) (x1 : Int) (Q : D.Ins → Prop) : Prop :=
 ((0 ≤ x1 ∧ x1 < (s0.Warps.length : Int)) ∧ ((0 ≤ (wrap .i64 (((rd s0.Warps x1).Frames.length : Int) - 1)) ∧ (wrap .i64 (((rd s0.Warps x1).Frames.length : Int) - 1)) < (((rd s0.Warps x1).Frames).length : Int)) ∧ ((0 ≤ (rd ((rd s0.Warps x1).Frames) (wrap .i64 (((rd s0.Warps x1).Frames.length : Int) - 1))).Pc ∧ (rd ((rd s0.Warps x1).Frames) (wrap .i64 (((rd s0.Warps x1).Frames.length : Int) - 1))).Pc < (s0.Code.length : Int)) ∧ Q (⟨(rd s0.Code ((rd ((rd s0.Warps x1).Frames) (wrap .i64 (((rd s0.Warps x1).Frames.length : Int) - 1))).Pc)).Op, (rd s0.Code ((rd ((rd s0.Warps x1).Frames) (wrap .i64 (((rd s0.Warps x1).Frames.length : Int) - 1))).Pc)).A, (rd s0.Code ((rd ((rd s0.Warps x1).Frames) (wrap .i64 (((rd s0.Warps x1).Frames.length : Int) - 1))).Pc)).B, (rd s0.Code ((rd ((rd s0.Warps x1).Frames) (wrap .i64 (((rd s0.Warps x1).Frames.length : Int) - 1))).Pc)).C⟩ : D.Ins))))
def wp.impl_Block_nextIns (s0 : D.Block) (x1 : Int) (Q : (D.Ins × Bool) → Prop) : Prop :=
 ((0 ≤ x1 ∧ x1 < (s0.Warps.length : Int)) ∧ bcase (((rd s0.Warps x1).Frames.length : Int) == 0) (Q ((⟨0, 0, 0, 0⟩ : D.Ins), false)) (((0 ≤ (wrap .i64 (((rd s0.Warps x1).Frames.length : Int) - 1)) ∧ (wrap .i64 (((rd s0.Warps x1).Frames.length : Int) - 1)) < (((rd s0.Warps x1).Frames).length : Int)) ∧ ((0 ≤ (rd ((rd s0.Warps x1).Frames) (wrap .i64 (((rd s0.Warps x1).Frames.length : Int) - 1))).Pc ∧ (rd ((rd s0.Warps x1).Frames) (wrap .i64 (((rd s0.Warps x1).Frames.length : Int) - 1))).Pc < (s0.Code.length : Int)) ∧ Q ((⟨(rd s0.Code ((rd ((rd s0.Warps x1).Frames) (wrap .i64 (((rd s0.Warps x1).Frames.length : Int) - 1))).Pc)).Op, (rd s0.Code ((rd ((rd s0.Warps x1).Frames) (wrap .i64 (((rd s0.Warps x1).Frames.length : Int) - 1))).Pc)).A, (rd s0.Code ((rd ((rd s0.Warps x1).Frames) (wrap .i64 (((rd s0.Warps x1).Frames.length : Int) - 1))).Pc)).B, (rd s0.Code ((rd ((rd s0.Warps x1).Frames) (wrap .i64 (((rd s0.Warps x1).Frames.length : Int) - 1))).Pc)).C⟩ : D.Ins), true)))))
end Go.V
namespace Go.V
open IntKind (wrap)
theorem empty_len0 {α : Type} {l : List α} : ((l.length : Int) == 0) = l.isEmpty := by
 cases l with
 | nil => rfl
 | cons x l =>
  have : ¬ ((x :: l).length : Int) = 0 := by simp only [List.length_cons]; omega
  rw [beq_eq_false_iff_ne.2 this]; rfl
theorem warp_at {p : List D.Ins} : ∀ {l : List D.Warp} {k n : Nat}, M.warpsOk p k l = true → n < l.length → M.warpAt p (k + n) (rd l (n : Int)) = true
 | [], k, n, h, hn => absurd hn (by simp)
 | x :: l, k, 0, h, hn => by
  simp only [M.warpsOk, Bool.and_eq_true] at h
  exact h.1
 | x :: l, k, n + 1, h, hn => by
  simp only [M.warpsOk, Bool.and_eq_true] at h
  have := warp_at (n := n) h.2 (by simpa using hn)
  rw [show k + (n + 1) = k + 1 + n by omega]
  have e : rd (x :: l) ((n + 1 : Nat) : Int) = rd l (n : Int) := by
   have hn' : n < l.length := by simpa using hn
   rw [rd_nat hn, rd_nat hn']; rfl
  rw [e]; exact this
theorem has_warp {b : D.Block} {w : Int} (h : M.Has b w) : 0 ≤ w ∧ w < (b.Warps.length : Int) ∧ M.programOk b.Code = true ∧ M.warpOf b.Code (rd b.Warps w) = true ∧ (rd b.Warps w).Number = w ∧ M.blockOk b = true := by
 obtain ⟨hb, hh⟩ := h
 obtain ⟨h0, h1, hok⟩ := has_in hb.2.1.1 hh
 have hok' := hok
 simp only [M.blockOk, Bool.and_eq_true] at hok
 obtain ⟨k, rfl⟩ := Int.eq_ofNat_of_zero_le h0
 have := warp_at (n := k) hok.2.2.2.2.2 (by omega)
 rw [Nat.zero_add] at this
 simp only [M.warpAt, Bool.and_eq_true, beq_iff_eq] at this
 exact ⟨h0, h1, hok.1, this.2, this.1, hok'⟩
theorem frames_last {p : List D.Ins} {x : D.Warp} (h : M.warpOf p x = true) (hx : x.Frames ≠ []) : x.Frames.length ≤ 24 ∧ 0 ≤ (M.lastF x.Frames).Pc ∧ (M.lastF x.Frames).Pc < (p.length : Int) := by
 simp only [M.warpOf, M.areFrames, Bool.and_eq_true, Bool.or_eq_true] at h
 obtain ⟨h1, h2, h3, h4, h5⟩ := h
 have h5 := h5.resolve_left (by simpa using hx)
 have hpos : 0 < x.Frames.length := List.length_pos_iff.2 hx
 have hm : M.lastF x.Frames ∈ x.Frames := rd_of (by omega) (by omega)
 have hf := List.all_eq_true.1 h4 _ hm
 simp only [M.endsOk, M.frameOk, M.isIn, Bool.and_eq_true, decide_eq_true_eq, bne_iff_ne] at h5 hf
 exact ⟨h5.1, hf.1.1, by omega⟩
theorem wp.spec_l30Next.math (b : D.Block) (w : Int) (h : M.spec_l30Next_pre b w) : wp.spec_l30Next b w (fun r => r = M.spec_l30Next b w) := by
 obtain ⟨hh, hx⟩ := h
 obtain ⟨h0, h1, hp, hw, hn, hok⟩ := has_warp hh
 obtain ⟨k1, k2, k3⟩ := frames_last hw hx
 have hpos : 0 < (rd b.Warps w).Frames.length := List.length_pos_iff.2 hx
 unfold wp.spec_l30Next
 rw [last_wrap (by omega)]
 exact ⟨⟨h0, h1⟩, ⟨by omega, by omega⟩, ⟨k2, k3⟩, rfl⟩
theorem wp.impl_Block_nextIns.math (b : D.Block) (w : Int) (h : M.impl_Block_nextIns_pre b w) : wp.impl_Block_nextIns b w (fun r => r = M.impl_Block_nextIns b w) := by
 obtain ⟨h0, h1, hp, hw, hn, hok⟩ := has_warp h
 unfold wp.impl_Block_nextIns
 rw [empty_len0]
 refine ⟨⟨h0, h1⟩, bcase_mk (fun e => ?_) fun e => ?_⟩
 ·simp [M.impl_Block_nextIns, e]
 ·have hx : (rd b.Warps w).Frames ≠ [] := by simpa using e
  obtain ⟨k1, k2, k3⟩ := frames_last hw hx
  have hpos : 0 < (rd b.Warps w).Frames.length := List.length_pos_iff.2 hx
  rw [last_wrap (by omega)]
  refine ⟨⟨by omega, by omega⟩, ⟨k2, k3⟩, ?_⟩
  simp only [M.impl_Block_nextIns, e]; rfl
end Go.V
namespace Go.V
open IntKind (wrap)
def wp.slices_Clone_impl_Ins_impl_Ins (xs0 : List D.Ins) (Q : (List D.Ins) → Prop) : Prop :=
 (∀ b21 : Bool, (b21 = true → xs0 = []) → bcase b21 (Q ([] : List D.Ins)) (((([] : List D.Ins).length + xs0.length ≤ 17179869184) ∧ Q (([] : List D.Ins) ++ xs0))))
def wp.spec_l12Copy (s0 : D.Warp) (Q : D.Warp → Prop) : Prop :=
 ((((((([] : List D.Frame).length + s0.Frames.length ≤ 17179869184) ∧ ((([] : List Int).length + s0.Regs.length ≤ 17179869184) ∧ Q (⟨s0.Number, (([] : List D.Frame) ++ s0.Frames), (([] : List Int) ++ s0.Regs)⟩ : D.Warp)))) ∧ (((([] : List D.Frame).length + s0.Frames.length ≤ 17179869184) ∧ ((([] : List Int).length + s0.Regs.length ≤ 17179869184) ∧ Q (⟨s0.Number, (([] : List D.Frame) ++ s0.Frames), (([] : List Int) ++ s0.Regs)⟩ : D.Warp)))) ∧ True)) ∧ (((([] : List D.Frame).length + s0.Frames.length ≤ 17179869184) ∧ ((([] : List Int).length + s0.Regs.length ≤ 17179869184) ∧ Q (⟨s0.Number, (([] : List D.Frame) ++ s0.Frames), (([] : List Int) ++ s0.Regs)⟩ : D.Warp)))) ∧ True)
def wp.spec_l29Copy (s0 : D.Block) (Q : D.Block → Prop) : Prop :=
 JoinP (σ := (List D.Ins) × (List D.Warp) × (List Int) × Int × Int × Unit) (fun J37 => ((((((([] : List D.Ins).length + s0.Code.length ≤ 17179869184) ∧ ((((((([] : List Int).length + s0.Memory.length ≤ 17179869184) ∧ J37 ((([] : List D.Ins) ++ s0.Code), [], (([] : List Int) ++ s0.Memory), s0.Waiting, s0.Phase, ()))) ∧ (((([] : List Int).length + s0.Memory.length ≤ 17179869184) ∧ J37 ((([] : List D.Ins) ++ s0.Code), [], (([] : List Int) ++ s0.Memory), s0.Waiting, s0.Phase, ()))) ∧ True)) ∧ (((([] : List Int).length + s0.Memory.length ≤ 17179869184) ∧ J37 ((([] : List D.Ins) ++ s0.Code), [], (([] : List Int) ++ s0.Memory), s0.Waiting, s0.Phase, ()))) ∧ True))) ∧ (((((([] : List D.Ins).length + s0.Code.length ≤ 17179869184) ∧ ((((([] : List Int).length + s0.Memory.length ≤ 17179869184) ∧ J37 ((([] : List D.Ins) ++ s0.Code), [], (([] : List Int) ++ s0.Memory), s0.Waiting, s0.Phase, ()))) ∧ (((([] : List Int).length + s0.Memory.length ≤ 17179869184) ∧ J37 ((([] : List D.Ins) ++ s0.Code), [], (([] : List Int) ++ s0.Memory), s0.Waiting, s0.Phase, ()))) ∧ True))) ∧ (((([] : List D.Ins).length + s0.Code.length ≤ 17179869184) ∧ ((([] : List Int).length + s0.Memory.length ≤ 17179869184) ∧ J37 ((([] : List D.Ins) ++ s0.Code), [], (([] : List Int) ++ s0.Memory), s0.Waiting, s0.Phase, ())))) ∧ True)) ∧ (((((([] : List D.Ins).length + s0.Code.length ≤ 17179869184) ∧ ((([] : List Int).length + s0.Memory.length ≤ 17179869184) ∧ J37 ((([] : List D.Ins) ++ s0.Code), [], (([] : List Int) ++ s0.Memory), s0.Waiting, s0.Phase, ())))) ∧ (((([] : List D.Ins).length + s0.Code.length ≤ 17179869184) ∧ ((([] : List Int).length + s0.Memory.length ≤ 17179869184) ∧ J37 ((([] : List D.Ins) ++ s0.Code), [], (([] : List Int) ++ s0.Memory), s0.Waiting, s0.Phase, ())))) ∧ True)) ∧ True)) ∧ (((((((([] : List D.Ins).length + s0.Code.length ≤ 17179869184) ∧ ((((([] : List Int).length + s0.Memory.length ≤ 17179869184) ∧ J37 ((([] : List D.Ins) ++ s0.Code), [], (([] : List Int) ++ s0.Memory), s0.Waiting, s0.Phase, ()))) ∧ (((([] : List Int).length + s0.Memory.length ≤ 17179869184) ∧ J37 ((([] : List D.Ins) ++ s0.Code), [], (([] : List Int) ++ s0.Memory), s0.Waiting, s0.Phase, ()))) ∧ True))) ∧ (((([] : List D.Ins).length + s0.Code.length ≤ 17179869184) ∧ ((([] : List Int).length + s0.Memory.length ≤ 17179869184) ∧ J37 ((([] : List D.Ins) ++ s0.Code), [], (([] : List Int) ++ s0.Memory), s0.Waiting, s0.Phase, ())))) ∧ True)) ∧ (((([] : List D.Ins).length + s0.Code.length ≤ 17179869184) ∧ ((([] : List Int).length + s0.Memory.length ≤ 17179869184) ∧ J37 ((([] : List D.Ins) ++ s0.Code), [], (([] : List Int) ++ s0.Memory), s0.Waiting, s0.Phase, ())))) ∧ True)) ∧ (((((((([] : List D.Ins).length + s0.Code.length ≤ 17179869184) ∧ ((([] : List Int).length + s0.Memory.length ≤ 17179869184) ∧ J37 ((([] : List D.Ins) ++ s0.Code), [], (([] : List Int) ++ s0.Memory), s0.Waiting, s0.Phase, ())))) ∧ (((([] : List D.Ins).length + s0.Code.length ≤ 17179869184) ∧ ((([] : List Int).length + s0.Memory.length ≤ 17179869184) ∧ J37 ((([] : List D.Ins) ++ s0.Code), [], (([] : List Int) ++ s0.Memory), s0.Waiting, s0.Phase, ())))) ∧ True)) ∧ (((([] : List D.Ins).length + s0.Code.length ≤ 17179869184) ∧ ((([] : List Int).length + s0.Memory.length ≤ 17179869184) ∧ J37 ((([] : List D.Ins) ++ s0.Code), [], (([] : List Int) ++ s0.Memory), s0.Waiting, s0.Phase, ())))) ∧ True)) ∧ True)) (fun (p543 : (List D.Ins) × (List D.Warp) × (List Int) × Int × Int × Unit) => match p543 with | (xs25, xs29, xs32, i35, i36, _) => LoopP (σ := Int × (List D.Warp) × Int × Int × Unit) (fun (p539 : Int × (List D.Warp) × Int × Int × Unit) next452 => match p539 with | (i442, xs444, i447, i448, _) => bcase (decide (i442 < (s0.Warps.length : Int))) (((0 ≤ i442 ∧ i442 < (s0.Warps.length : Int)) ∧ (M.spec_l12Copy_pre (rd s0.Warps i442) ∧ ∀ r509, r509 = M.spec_l12Copy (rd s0.Warps i442) → ((xs444.length + ([r509] : List D.Warp).length ≤ 17179869184) ∧ next452 ((wrap .i64 (i442 + 1)), (xs444 ++ ([r509] : List D.Warp)), i447, i448, ()))))) (Q (⟨xs25, xs444, xs32, i447, i448⟩ : D.Block))) (0, xs29, i35, i36, ()))
def wp.slices_Clone_impl_Frame_impl_Frame (xs0 : List D.Frame) (Q : (List D.Frame) → Prop) : Prop :=
 (∀ b21 : Bool, (b21 = true → xs0 = []) → bcase b21 (Q ([] : List D.Frame)) (((([] : List D.Frame).length + xs0.length ≤ 17179869184) ∧ Q (([] : List D.Frame) ++ xs0))))
def wp.impl_copyWarp (s0 : D.Warp) (Q : D.Warp → Prop) : Prop :=
 (((((M.slices_Clone_impl_Frame_impl_Frame_pre s0.Frames ∧ ∀ r25, r25 = M.slices_Clone_impl_Frame_impl_Frame s0.Frames → (M.slices_Clone_int_int_pre s0.Regs ∧ ∀ r32, r32 = M.slices_Clone_int_int s0.Regs → Q (⟨s0.Number, r25, r32⟩ : D.Warp)))) ∧ ((M.slices_Clone_impl_Frame_impl_Frame_pre s0.Frames ∧ ∀ r45, r45 = M.slices_Clone_impl_Frame_impl_Frame s0.Frames → (M.slices_Clone_int_int_pre s0.Regs ∧ ∀ r52, r52 = M.slices_Clone_int_int s0.Regs → Q (⟨s0.Number, r45, r52⟩ : D.Warp)))) ∧ True)) ∧ ((M.slices_Clone_impl_Frame_impl_Frame_pre s0.Frames ∧ ∀ r65, r65 = M.slices_Clone_impl_Frame_impl_Frame s0.Frames → (M.slices_Clone_int_int_pre s0.Regs ∧ ∀ r72, r72 = M.slices_Clone_int_int s0.Regs → Q (⟨s0.Number, r65, r72⟩ : D.Warp)))) ∧ True)
def wp.impl_copyBlock (s0 : D.Block) (Q : D.Block → Prop) : Prop :=
 JoinP (σ := (List D.Ins) × (List D.Warp) × (List Int) × Int × Int × Unit) (fun J37 => (((M.slices_Clone_impl_Ins_impl_Ins_pre s0.Code ∧ ∀ r41, r41 = M.slices_Clone_impl_Ins_impl_Ins s0.Code → (((M.slices_Clone_int_int_pre s0.Memory ∧ ∀ r48, r48 = M.slices_Clone_int_int s0.Memory → J37 (r41, [], r48, s0.Waiting, s0.Phase, ()))) ∧ ((M.slices_Clone_int_int_pre s0.Memory ∧ ∀ r61, r61 = M.slices_Clone_int_int s0.Memory → J37 (r41, [], r61, s0.Waiting, s0.Phase, ()))) ∧ True))) ∧ ((M.slices_Clone_impl_Ins_impl_Ins_pre s0.Code ∧ ∀ r72, r72 = M.slices_Clone_impl_Ins_impl_Ins s0.Code → (M.slices_Clone_int_int_pre s0.Memory ∧ ∀ r79, r79 = M.slices_Clone_int_int s0.Memory → J37 (r72, [], r79, s0.Waiting, s0.Phase, ())))) ∧ True)) (fun (p328 : (List D.Ins) × (List D.Warp) × (List Int) × Int × Int × Unit) => match p328 with | (xs25, xs29, xs32, i35, i36, _) => LoopP (σ := Int × (List D.Warp) × Int × Int × Unit) (fun (p324 : Int × (List D.Warp) × Int × Int × Unit) next249 => match p324 with | (i239, xs241, i244, i245, _) => bcase (decide (i239 < (s0.Warps.length : Int))) (((0 ≤ i239 ∧ i239 < (s0.Warps.length : Int)) ∧ (M.impl_copyWarp_pre (rd s0.Warps i239) ∧ ∀ r294, r294 = M.impl_copyWarp (rd s0.Warps i239) → ((xs241.length + ([r294] : List D.Warp).length ≤ 17179869184) ∧ next249 ((wrap .i64 (i239 + 1)), (xs241 ++ ([r294] : List D.Warp)), i244, i245, ()))))) (Q (⟨xs25, xs241, xs32, i244, i245⟩ : D.Block))) (0, xs29, i35, i36, ()))
end Go.V
namespace Go.V
open IntKind (wrap)
def wp.laws_markFrameS (xs0 : List D.Frame) (x1 : Int) (Q : (Int × (List D.Frame)) → Prop) : Prop :=
 LoopP (σ := Int × Int × (List D.Frame) × Unit) (fun (p93 : Int × Int × (List D.Frame) × Unit) next61 => match p93 with | (i54, i55, xs56, _) => bcase (decide (i55 < (xs0.length : Int))) (((0 ≤ i55 ∧ i55 < (xs56.length : Int)) ∧ ((0 ≤ i55 ∧ i55 < ((List.set xs56 (i55.toNat) (⟨i54, (rd xs56 i55).Stop, (rd xs56 i55).Mask⟩ : D.Frame)).length : Int)) ∧ ((0 ≤ i55 ∧ i55 < ((List.set xs56 (i55.toNat) (⟨i54, (wrap .i64 (i54 + 1)), (rd xs56 i55).Mask⟩ : D.Frame)).length : Int)) ∧ next61 ((wrap .i64 ((wrap .i64 ((wrap .i64 (i54 + 1)) + 1)) + 1)), (wrap .i64 (i55 + 1)), (List.set xs56 (i55.toNat) (⟨i54, (wrap .i64 (i54 + 1)), (wrap .i64 ((wrap .i64 (i54 + 1)) + 1))⟩ : D.Frame)), ()))))) (Q (i54, xs56))) (x1, 0, xs0, ())
def wp.laws_markWarpS (xs0 : List D.Warp) (x1 : Int) (Q : (Int × (List D.Warp)) → Prop) : Prop :=
 LoopP (σ := Int × Int × (List D.Warp) × Unit) (fun (p130 : Int × Int × (List D.Warp) × Unit) next80 => match p130 with | (i72, i73, xs74, _) => bcase (decide (i73 < (xs0.length : Int))) (((0 ≤ i73 ∧ i73 < (xs74.length : Int)) ∧ ((0 ≤ i73 ∧ i73 < ((List.set xs74 (i73.toNat) (⟨i72, (rd xs74 i73).Frames, (rd xs74 i73).Regs⟩ : D.Warp)).length : Int)) ∧ (M.laws_markFrameS_pre ((rd (List.set xs74 (i73.toNat) (⟨i72, (rd xs74 i73).Frames, (rd xs74 i73).Regs⟩ : D.Warp)) i73).Frames) (wrap .i64 (i72 + 1)) ∧ ∀ r102, r102 = M.laws_markFrameS ((rd (List.set xs74 (i73.toNat) (⟨i72, (rd xs74 i73).Frames, (rd xs74 i73).Regs⟩ : D.Warp)) i73).Frames) (wrap .i64 (i72 + 1)) → ((0 ≤ i73 ∧ i73 < ((List.set (List.set xs74 (i73.toNat) (⟨i72, (rd xs74 i73).Frames, (rd xs74 i73).Regs⟩ : D.Warp)) (i73.toNat) (⟨(rd (List.set xs74 (i73.toNat) (⟨i72, (rd xs74 i73).Frames, (rd xs74 i73).Regs⟩ : D.Warp)) i73).Number, r102.2, (rd (List.set xs74 (i73.toNat) (⟨i72, (rd xs74 i73).Frames, (rd xs74 i73).Regs⟩ : D.Warp)) i73).Regs⟩ : D.Warp)).length : Int)) ∧ (M.laws_markIntS_pre ((rd (List.set (List.set xs74 (i73.toNat) (⟨i72, (rd xs74 i73).Frames, (rd xs74 i73).Regs⟩ : D.Warp)) (i73.toNat) (⟨(rd (List.set xs74 (i73.toNat) (⟨i72, (rd xs74 i73).Frames, (rd xs74 i73).Regs⟩ : D.Warp)) i73).Number, r102.2, (rd (List.set xs74 (i73.toNat) (⟨i72, (rd xs74 i73).Frames, (rd xs74 i73).Regs⟩ : D.Warp)) i73).Regs⟩ : D.Warp)) i73).Regs) r102.1 ∧ ∀ r120, r120 = M.laws_markIntS ((rd (List.set (List.set xs74 (i73.toNat) (⟨i72, (rd xs74 i73).Frames, (rd xs74 i73).Regs⟩ : D.Warp)) (i73.toNat) (⟨(rd (List.set xs74 (i73.toNat) (⟨i72, (rd xs74 i73).Frames, (rd xs74 i73).Regs⟩ : D.Warp)) i73).Number, r102.2, (rd (List.set xs74 (i73.toNat) (⟨i72, (rd xs74 i73).Frames, (rd xs74 i73).Regs⟩ : D.Warp)) i73).Regs⟩ : D.Warp)) i73).Regs) r102.1 → next80 (r120.1, (wrap .i64 (i73 + 1)), (List.set (List.set (List.set xs74 (i73.toNat) (⟨i72, (rd xs74 i73).Frames, (rd xs74 i73).Regs⟩ : D.Warp)) (i73.toNat) (⟨(rd (List.set xs74 (i73.toNat) (⟨i72, (rd xs74 i73).Frames, (rd xs74 i73).Regs⟩ : D.Warp)) i73).Number, r102.2, (rd (List.set xs74 (i73.toNat) (⟨i72, (rd xs74 i73).Frames, (rd xs74 i73).Regs⟩ : D.Warp)) i73).Regs⟩ : D.Warp)) (i73.toNat) (⟨(rd (List.set (List.set xs74 (i73.toNat) (⟨i72, (rd xs74 i73).Frames, (rd xs74 i73).Regs⟩ : D.Warp)) (i73.toNat) (⟨(rd (List.set xs74 (i73.toNat) (⟨i72, (rd xs74 i73).Frames, (rd xs74 i73).Regs⟩ : D.Warp)) i73).Number, r102.2, (rd (List.set xs74 (i73.toNat) (⟨i72, (rd xs74 i73).Frames, (rd xs74 i73).Regs⟩ : D.Warp)) i73).Regs⟩ : D.Warp)) i73).Number, (rd (List.set (List.set xs74 (i73.toNat) (⟨i72, (rd xs74 i73).Frames, (rd xs74 i73).Regs⟩ : D.Warp)) (i73.toNat) (⟨(rd (List.set xs74 (i73.toNat) (⟨i72, (rd xs74 i73).Frames, (rd xs74 i73).Regs⟩ : D.Warp)) i73).Number, r102.2, (rd (List.set xs74 (i73.toNat) (⟨i72, (rd xs74 i73).Frames, (rd xs74 i73).Regs⟩ : D.Warp)) i73).Regs⟩ : D.Warp)) i73).Frames, r120.2⟩ : D.Warp)), ()))))))) (Q (i72, xs74))) (x1, 0, xs0, ())
def wp.laws_markBlock (s0 : D.Block) (x1 : Int) (Q : (Int × (List D.Ins) × (List D.Warp) × (List Int)) → Prop) : Prop :=
 (M.laws_markInsS_pre s0.Code x1 ∧ ∀ r23, r23 = M.laws_markInsS s0.Code x1 → (M.laws_markWarpS_pre s0.Warps r23.1 ∧ ∀ r29, r29 = M.laws_markWarpS s0.Warps r23.1 → (M.laws_markIntS_pre s0.Memory r29.1 ∧ ∀ r35, r35 = M.laws_markIntS s0.Memory r29.1 → Q (r35.1, r23.2, r29.2, r35.2))))
def wp.laws_heldInsS (xs0 : List D.Ins) (x1 : Int) (Q : Int → Prop) : Prop :=
 LoopP (σ := Int × Int × Unit) (fun (p56 : Int × Int × Unit) next26 => match p56 with | (i21, i22, _) => bcase (decide (i22 < (xs0.length : Int))) (((0 ≤ i22 ∧ i22 < (xs0.length : Int)) ∧ bcase ((rd xs0 i22).Op != i21) (Q (-1)) (((0 ≤ i22 ∧ i22 < (xs0.length : Int)) ∧ bcase ((rd xs0 i22).A != (wrap .i64 (i21 + 1))) (Q (-1)) (((0 ≤ i22 ∧ i22 < (xs0.length : Int)) ∧ bcase ((rd xs0 i22).B != (wrap .i64 ((wrap .i64 (i21 + 1)) + 1))) (Q (-1)) (((0 ≤ i22 ∧ i22 < (xs0.length : Int)) ∧ bcase ((rd xs0 i22).C != (wrap .i64 ((wrap .i64 ((wrap .i64 (i21 + 1)) + 1)) + 1))) (Q (-1)) (next26 ((wrap .i64 ((wrap .i64 ((wrap .i64 ((wrap .i64 (i21 + 1)) + 1)) + 1)) + 1)), (wrap .i64 (i22 + 1)), ())))))))))) (Q i21)) (x1, 0, ())
def wp.laws_heldFrameS (xs0 : List D.Frame) (x1 : Int) (Q : Int → Prop) : Prop :=
 LoopP (σ := Int × Int × Unit) (fun (p50 : Int × Int × Unit) next26 => match p50 with | (i21, i22, _) => bcase (decide (i22 < (xs0.length : Int))) (((0 ≤ i22 ∧ i22 < (xs0.length : Int)) ∧ bcase ((rd xs0 i22).Pc != i21) (Q (-1)) (((0 ≤ i22 ∧ i22 < (xs0.length : Int)) ∧ bcase ((rd xs0 i22).Stop != (wrap .i64 (i21 + 1))) (Q (-1)) (((0 ≤ i22 ∧ i22 < (xs0.length : Int)) ∧ bcase ((rd xs0 i22).Mask != (wrap .i64 ((wrap .i64 (i21 + 1)) + 1))) (Q (-1)) (next26 ((wrap .i64 ((wrap .i64 ((wrap .i64 (i21 + 1)) + 1)) + 1)), (wrap .i64 (i22 + 1)), ())))))))) (Q i21)) (x1, 0, ())
def wp.laws_heldWarpS (xs0 : List D.Warp) (x1 : Int) (Q : Int → Prop) : Prop :=
 LoopP (σ := Int × Int × Unit) (fun (p93 : Int × Int × Unit) next26 => match p93 with | (i21, i22, _) => bcase (decide (i22 < (xs0.length : Int))) (((0 ≤ i22 ∧ i22 < (xs0.length : Int)) ∧ bcase ((rd xs0 i22).Number != i21) (Q (-1)) (((0 ≤ i22 ∧ i22 < (xs0.length : Int)) ∧ (M.laws_heldFrameS_pre ((rd xs0 i22).Frames) (wrap .i64 (i21 + 1)) ∧ ∀ r60, r60 = M.laws_heldFrameS ((rd xs0 i22).Frames) (wrap .i64 (i21 + 1)) → bcase (decide (r60 < 0)) (Q (-1)) (((0 ≤ i22 ∧ i22 < (xs0.length : Int)) ∧ (M.laws_heldIntS_pre ((rd xs0 i22).Regs) r60 ∧ ∀ r81, r81 = M.laws_heldIntS ((rd xs0 i22).Regs) r60 → bcase (decide (r81 < 0)) (Q (-1)) (next26 (r81, (wrap .i64 (i22 + 1)), ())))))))))) (Q i21)) (x1, 0, ())
def wp.laws_heldBlock (s0 : D.Block) (x1 : Int) (Q : Int → Prop) : Prop :=
 (M.laws_heldInsS_pre s0.Code x1 ∧ ∀ r23, r23 = M.laws_heldInsS s0.Code x1 → bcase (decide (r23 < 0)) (Q (-1)) ((M.laws_heldWarpS_pre s0.Warps r23 ∧ ∀ r28, r28 = M.laws_heldWarpS s0.Warps r23 → bcase (decide (r28 < 0)) (Q (-1)) ((M.laws_heldIntS_pre s0.Memory r28 ∧ ∀ r33, r33 = M.laws_heldIntS s0.Memory r28 → bcase (decide (r33 < 0)) (Q (-1)) (Q r33))))))
end Go.V
namespace Go.V
open IntKind (wrap)
theorem wp.slices_Clone_impl_Ins_impl_Ins.math (l : List D.Ins) (h : M.slices_Clone_impl_Ins_impl_Ins_pre l) : wp.slices_Clone_impl_Ins_impl_Ins l (fun r => r = M.slices_Clone_impl_Ins_impl_Ins l) := by
 intro b hb
 refine bcase_mk (fun e => ?_) fun e => ⟨by simp only [List.length_nil, Nat.zero_add]; exact h, ?_⟩
 ·rw [hb e]; rfl
 ·simp [M.slices_Clone_impl_Ins_impl_Ins]
theorem wp.slices_Clone_impl_Frame_impl_Frame.math (l : List D.Frame) (h : M.slices_Clone_impl_Frame_impl_Frame_pre l) : wp.slices_Clone_impl_Frame_impl_Frame l (fun r => r = M.slices_Clone_impl_Frame_impl_Frame l) := by
 intro b hb
 refine bcase_mk (fun e => ?_) fun e => ⟨by simp only [List.length_nil, Nat.zero_add]; exact h, ?_⟩
 ·rw [hb e]; rfl
 ·simp [M.slices_Clone_impl_Frame_impl_Frame]
theorem joinP_of {σ : Type} {A : (σ → Prop) → Prop} {B : σ → Prop} (v : σ) (h : B v) (hA : ∀ J : σ → Prop, J v → A J) : JoinP A B := hA B h
theorem prog_short {p : List D.Ins} (h : M.programOk p = true) : p.length ≤ 32 := by
 simp only [M.programOk, Bool.and_eq_true, decide_eq_true_eq] at h
 exact h.1
theorem wp.impl_copyWarp.math (x : D.Warp) (h : M.impl_copyWarp_pre x) : wp.impl_copyWarp x (fun r => r = M.impl_copyWarp x) := by
 obtain ⟨h1, h2⟩ := h
 have q1 : M.slices_Clone_impl_Frame_impl_Frame_pre x.Frames := h1
 have q2 : M.slices_Clone_int_int_pre x.Regs := h2
 unfold wp.impl_copyWarp
 simp only [M.slices_Clone_impl_Frame_impl_Frame, M.slices_Clone_int_int, forall_eq, q1, q2, true_and, and_true, M.impl_copyWarp, and_self]
theorem wp.impl_copyBlock.math (b : D.Block) (h : M.impl_copyBlock_pre b) : wp.impl_copyBlock b (fun r => r = M.impl_copyBlock b) := by
 obtain ⟨h1, ⟨h2, hW⟩, h3⟩ := h
 have q1 : M.slices_Clone_impl_Ins_impl_Ins_pre b.Code := h1
 have q2 : M.slices_Clone_int_int_pre b.Memory := h3
 unfold wp.impl_copyBlock
 simp only [M.slices_Clone_impl_Ins_impl_Ins, M.slices_Clone_int_int, forall_eq]
 refine joinP_of (b.Code, [], b.Memory, b.Waiting, b.Phase, ()) ?_ fun J hJ => ⟨⟨q1, ⟨q2, hJ⟩, ⟨q2, hJ⟩, trivial⟩, ⟨q1, q2, hJ⟩, trivial⟩
 refine loop_n b.Warps.length (fun k => ((k : Int), b.Warps.take k, b.Waiting, b.Phase, ())) (fun _ => True) rfl trivial (fun k hk _ next hn => ?_) fun _ next => ?_
 ·refine bcase_t (by simp; omega) ⟨by omega, hW _ (rd_mem hk), by simp; omega, ?_⟩
  rw [up64 hk (by omega)]
  have := hn trivial
  rw [List.take_add_one, List.getElem?_eq_getElem hk, Option.toList_some] at this
  rw [rd_nat hk]; exact this
 ·refine bcase_f (by simp) ?_
  rw [List.take_length]; rfl
theorem wp.laws_markFrameS.math (a : List D.Frame) (x : Int) (h : M.laws_markFrameS_pre a x) : wp.laws_markFrameS a x (fun r => r = M.laws_markFrameS a x) := by
 unfold wp.laws_markFrameS
 obtain ⟨⟨h1, h2⟩, h3⟩ := h
 unfold M.Few at h3
 let g : Nat → D.Frame := fun i => ⟨x + 3 * (i : Int), x + 3 * (i : Int) + 1, x + 3 * (i : Int) + 2⟩
 refine loop_n a.length (fun k => (x + 3 * k, (k : Int), mk g a k, ())) (fun _ => True) (by simp [mk_zero]) trivial (fun k hk hF next hn => ?_) fun hF next => ?_
 ·have hl := mk_len g a (Nat.le_of_lt hk)
  have e1 : wrap .i64 (x + 3 * (k : Int) + 1) = x + 3 * (k : Int) + 1 := w64 (by omega) (by omega)
  have e2 : wrap .i64 (x + 3 * (k : Int) + 1 + 1) = x + 3 * (k : Int) + 2 := by rw [w64 (by omega) (by omega)]; omega
  have e3 : wrap .i64 (x + 3 * (k : Int) + 2 + 1) = x + 3 * ((k + 1 : Nat) : Int) := by rw [w64 (by omega) (by omega)]; push_cast; omega
  have hs := mk_set g a hk
  refine bcase_t (by simp; omega) ?_
  simp only [e1, e2, e3, List.length_set, hl, Int.toNat_natCast, up64 hk (show a.length ≤ 9223372036854775807 by omega)]
  refine ⟨by omega, by omega, by omega, ?_⟩
  rw [show (⟨x + 3 * (k : Int), x + 3 * (k : Int) + 1, x + 3 * (k : Int) + 2⟩ : D.Frame) = g k from rfl, hs]
  exact hn trivial
 ·exact bcase_f (by simp) (by rw [mk_all]; rfl)
theorem wsz_pos (x : D.Warp) : 1 ≤ M.wsz x := by unfold M.wsz; omega
theorem wssz_nn : ∀ l : List D.Warp, 0 ≤ M.wssz l ∧ (l.length : Int) ≤ M.wssz l
 | [] => by simp [M.wssz]
 | x :: l => by
  have := wssz_nn l
  have := wsz_pos x
  simp only [M.wssz, List.length_cons]; omega
theorem wssz_app : ∀ (l m : List D.Warp), M.wssz (l ++ m) = M.wssz l + M.wssz m
 | [], m => by simp [M.wssz]
 | x :: l, m => by simp only [List.cons_append, M.wssz, wssz_app l m]; omega
theorem markWs_app : ∀ (l m : List D.Warp) (k : Int), M.markWs (l ++ m) k = M.markWs l k ++ M.markWs m (k + M.wssz l)
 | [], m, k => by simp [M.markWs, M.wssz]
 | x :: l, m, k => by
  simp only [List.cons_append, M.markWs, M.wssz, markWs_app l m]
  rw [show k + M.wsz x + M.wssz l = k + (M.wsz x + M.wssz l) by omega]
theorem markWs_len : ∀ (l : List D.Warp) (k : Int), (M.markWs l k).length = l.length
 | [], k => rfl
 | x :: l, k => by simp [M.markWs, markWs_len l]
theorem take_snoc {α : Type} [Inhabited α] {l : List α} {k : Nat} (hk : k < l.length) : l.take (k + 1) = l.take k ++ [rd l (k : Int)] := by
 rw [List.take_add_one, List.getElem?_eq_getElem hk, rd_nat hk]; rfl
theorem wssz_le {l : List D.Warp} {k : Nat} (hk : k < l.length) : M.wssz (l.take k) + M.wsz (rd l (k : Int)) ≤ M.wssz l := by
 have h : l.take (k + 1) ++ l.drop (k + 1) = l := List.take_append_drop _ _
 have h2 := congrArg M.wssz h
 rw [wssz_app, take_snoc hk, wssz_app] at h2
 have := (wssz_nn (l.drop (k + 1))).1
 simp only [M.wssz] at h2
 omega
theorem rd_app {α : Type} [Inhabited α] {l m : List α} {y : α} {k : Nat} (h : l.length = k) : rd (l ++ y :: m) (k : Int) = y := by
 subst h
 rw [rd_nat (by simp)]; simp
theorem set_app {α : Type} {l m : List α} {y z : α} {k : Nat} (h : l.length = k) : (l ++ y :: m).set k z = l ++ z :: m := by
 subst h; simp
theorem markWs_at {a : List D.Warp} {x : Int} {k : Nat} (hk : k < a.length) : rd (M.markWs a x) (k : Int) = M.markW (rd a (k : Int)) (x + M.wssz (a.take k)) := by
 have h : a = a.take k ++ (rd a (k : Int)) :: a.drop (k + 1) := by
  rw [rd_nat hk]; simp
 have hl : (M.markWs (a.take k) x).length = k := by rw [markWs_len]; simp; omega
 conv => lhs; rw [h]
 rw [markWs_app]
 simp only [M.markWs]
 exact rd_app hl
theorem wp.laws_markWarpS.math (a : List D.Warp) (x : Int) (h : M.laws_markWarpS_pre a x) : wp.laws_markWarpS a x (fun r => r = M.laws_markWarpS a x) := by
 unfold wp.laws_markWarpS
 obtain ⟨h0, h1⟩ := h
 have hlen := (wssz_nn a).2
 refine loop_n a.length (fun k => (x + M.wssz (a.take k), (k : Int), M.markWs (a.take k) x ++ a.drop k, ())) (fun _ => True) (by simp [M.wssz, M.markWs]) trivial (fun k hk hF next hn => ?_) fun hF next => ?_
 ·have hle := wssz_le hk
  have hnn := (wssz_nn (a.take k)).1
  have hl : (M.markWs (a.take k) x).length = k := by rw [markWs_len]; simp; omega
  have hd : a.drop k = rd a (k : Int) :: a.drop (k + 1) := by rw [List.drop_eq_getElem_cons hk, rd_nat hk]
  have hn := hn trivial
  rw [take_snoc hk, wssz_app, markWs_app] at hn
  rw [hd]
  refine bcase_t (by simp; omega) ?_
  simp only [Int.toNat_natCast, set_app hl, rd_app hl]
  generalize rd a (k : Int) = y at *
  generalize a.drop (k + 1) = d at *
  simp only [M.wsz] at hle
  have hbase : M.markWs (a.take k) x ++ [M.markW y (x + M.wssz (a.take k))] ++ d = M.markWs (a.take k) x ++ M.markW y (x + M.wssz (a.take k)) :: d := by simp
  simp only [M.markWs, M.wssz] at hn
  rw [hbase] at hn
  have hL : ∀ z : D.Warp, 0 ≤ (k : Int) ∧ (k : Int) < ((M.markWs (a.take k) x ++ z :: d).length : Int) := fun z => by simp [hl]; omega
  refine ⟨hL _, hL _, ?_⟩
  rw [w64 (x := x + M.wssz (a.take k) + 1) (by omega) (by omega)]
  refine ⟨⟨⟨by omega, by omega⟩, by unfold M.Few; omega⟩, fun r hr => ⟨hL _, ?_⟩⟩
  have hr1 : r.1 = x + M.wssz (a.take k) + 1 + 3 * y.Frames.length := by rw [hr]; rfl
  have hr2 : r.2 = M.seqFrame (x + M.wssz (a.take k) + 1) y.Frames.length := by rw [hr]; rfl
  refine ⟨⟨⟨by omega, by omega⟩, by unfold M.Few; omega⟩, fun r' hr' => ?_⟩
  have hr1' : r'.1 = x + (M.wssz (a.take k) + (M.wsz y + 0)) := by rw [hr', hr1]; simp only [M.laws_markIntS, M.wsz]; omega
  have hr2' : r'.2 = M.seqInt (x + M.wssz (a.take k) + 1 + 3 * y.Frames.length) y.Regs.length := by rw [hr', hr1]; rfl
  rw [hr1', hr2', hr2, up64 hk (by omega)]
  exact hn
 ·refine bcase_f (by simp) ?_
  rw [List.take_length, List.drop_length, List.append_nil]; rfl
theorem seqIns_len (k : Int) (n : Nat) : (M.seqIns k n).length = n := by simp [M.seqIns]
theorem wp.laws_markBlock.math (b : D.Block) (x : Int) (h : M.laws_markBlock_pre b x) : wp.laws_markBlock b x (fun r => r = M.laws_markBlock b x) := by
 obtain ⟨h0, h1⟩ := h
 have := wssz_nn b.Warps
 simp only [M.bsz] at h1
 refine ⟨⟨⟨by omega, by omega⟩, by unfold M.Few; omega⟩, fun r hr => ?_⟩
 subst hr
 refine ⟨⟨by simp only [M.laws_markInsS]; omega, by simp only [M.laws_markInsS]; omega⟩, fun r hr => ?_⟩
 subst hr
 refine ⟨⟨⟨by simp only [M.laws_markInsS, M.laws_markWarpS]; omega, by simp only [M.laws_markInsS, M.laws_markWarpS]; omega⟩, by unfold M.Few; omega⟩, fun r hr => ?_⟩
 subst hr
 simp only [M.laws_markInsS, M.laws_markWarpS, M.laws_markIntS, M.laws_markBlock, M.markB, M.bsz]
 rw [show x + 4 * (b.Code.length : Int) + M.wssz b.Warps + (b.Memory.length : Int) = x + (4 * (b.Code.length : Int) + M.wssz b.Warps + (b.Memory.length : Int)) by omega]
theorem wp.laws_heldFrameS.math (a : List D.Frame) (x : Int) (h : M.laws_heldFrameS_pre a x) : wp.laws_heldFrameS a x (fun r => r = M.laws_heldFrameS a x) := by
 unfold wp.laws_heldFrameS
 obtain ⟨⟨h1, h2⟩, h3⟩ := h
 unfold M.Few at h3
 let g : Nat → D.Frame := fun i => ⟨x + 3 * (i : Int), x + 3 * (i : Int) + 1, x + 3 * (i : Int) + 2⟩
 refine loop_n a.length (fun k => (x + 3 * k, (k : Int), ())) (fun k => ∀ j : Nat, j < k → rd a j = g j) (by simp) (by simp) (fun k hk hF next hn => ?_) fun hF next => ?_
 ·have e1 : wrap .i64 (x + 3 * (k : Int) + 1) = x + 3 * (k : Int) + 1 := w64 (by omega) (by omega)
  have e2 : wrap .i64 (x + 3 * (k : Int) + 1 + 1) = x + 3 * (k : Int) + 2 := by rw [w64 (by omega) (by omega)]; omega
  have e3 : wrap .i64 (x + 3 * (k : Int) + 2 + 1) = x + 3 * ((k + 1 : Nat) : Int) := by rw [w64 (by omega) (by omega)]; push_cast; omega
  have bad : ∀ (P : Prop), (rd a k = g k → P) → ¬ P → -1 = M.laws_heldFrameS a x := fun P hp hn => (if_neg (ne_seq g hk (fun e => hn (hp e)))).symm
  refine bcase_t (by simp; omega) ?_
  simp only [e1, e2, e3, up64 hk (show a.length ≤ 9223372036854775807 by omega)]
  refine ⟨by omega, bcase_mk (fun f1 => ?_) fun f1 => ⟨by omega, bcase_mk (fun f2 => ?_) fun f2 => ⟨by omega, bcase_mk (fun f3 => ?_) fun f3 => ?_⟩⟩⟩
  ·exact bad ((rd a k).Pc = x + 3 * (k : Int)) (fun e => by rw [e]) (by simpa using f1)
  ·exact bad ((rd a k).Stop = x + 3 * (k : Int) + 1) (fun e => by rw [e]) (by simpa using f2)
  ·exact bad ((rd a k).Mask = x + 3 * (k : Int) + 2) (fun e => by rw [e]) (by simpa using f3)
  ·refine hn fun j hj => ?_
   by_cases hjk : j = k
   ·subst hjk
    simp only [bne_eq_false_iff_eq] at f1 f2 f3
    show rd a (j : Int) = (⟨x + 3 * (j : Int), x + 3 * (j : Int) + 1, x + 3 * (j : Int) + 2⟩ : D.Frame)
    rw [← f3, ← f2, ← f1]
   ·exact hF j (by omega)
 ·exact bcase_f (by simp) (if_pos (eq_seq g hF)).symm
theorem wp.laws_heldInsS.math (a : List D.Ins) (x : Int) (h : M.laws_heldInsS_pre a x) : wp.laws_heldInsS a x (fun r => r = M.laws_heldInsS a x) := by
 unfold wp.laws_heldInsS
 obtain ⟨⟨h1, h2⟩, h3⟩ := h
 unfold M.Few at h3
 let g : Nat → D.Ins := fun i => ⟨x + 4 * (i : Int), x + 4 * (i : Int) + 1, x + 4 * (i : Int) + 2, x + 4 * (i : Int) + 3⟩
 refine loop_n a.length (fun k => (x + 4 * k, (k : Int), ())) (fun k => ∀ j : Nat, j < k → rd a j = g j) (by simp) (by simp) (fun k hk hF next hn => ?_) fun hF next => ?_
 ·have e1 : wrap .i64 (x + 4 * (k : Int) + 1) = x + 4 * (k : Int) + 1 := w64 (by omega) (by omega)
  have e2 : wrap .i64 (x + 4 * (k : Int) + 1 + 1) = x + 4 * (k : Int) + 2 := by rw [w64 (by omega) (by omega)]; omega
  have e3 : wrap .i64 (x + 4 * (k : Int) + 2 + 1) = x + 4 * (k : Int) + 3 := by rw [w64 (by omega) (by omega)]; omega
  have e4 : wrap .i64 (x + 4 * (k : Int) + 3 + 1) = x + 4 * ((k + 1 : Nat) : Int) := by rw [w64 (by omega) (by omega)]; push_cast; omega
  have bad : ∀ (P : Prop), (rd a k = g k → P) → ¬ P → -1 = M.laws_heldInsS a x := fun P hp hn => (if_neg (ne_seq g hk (fun e => hn (hp e)))).symm
  refine bcase_t (by simp; omega) ?_
  simp only [e1, e2, e3, e4, up64 hk (show a.length ≤ 9223372036854775807 by omega)]
  refine ⟨by omega, bcase_mk (fun f1 => ?_) fun f1 => ⟨by omega, bcase_mk (fun f2 => ?_) fun f2 => ⟨by omega, bcase_mk (fun f3 => ?_) fun f3 => ⟨by omega, bcase_mk (fun f4 => ?_) fun f4 => ?_⟩⟩⟩⟩
  ·exact bad ((rd a k).Op = x + 4 * (k : Int)) (fun e => by rw [e]) (by simpa using f1)
  ·exact bad ((rd a k).A = x + 4 * (k : Int) + 1) (fun e => by rw [e]) (by simpa using f2)
  ·exact bad ((rd a k).B = x + 4 * (k : Int) + 2) (fun e => by rw [e]) (by simpa using f3)
  ·exact bad ((rd a k).C = x + 4 * (k : Int) + 3) (fun e => by rw [e]) (by simpa using f4)
  ·refine hn fun j hj => ?_
   by_cases hjk : j = k
   ·subst hjk
    simp only [bne_eq_false_iff_eq] at f1 f2 f3 f4
    show rd a (j : Int) = (⟨x + 4 * (j : Int), x + 4 * (j : Int) + 1, x + 4 * (j : Int) + 2, x + 4 * (j : Int) + 3⟩ : D.Ins)
    rw [← f4, ← f3, ← f2, ← f1]
   ·exact hF j (by omega)
 ·exact bcase_f (by simp) (if_pos (eq_seq g hF)).symm
theorem wp.laws_heldWarpS.math (a : List D.Warp) (x : Int) (h : M.laws_heldWarpS_pre a x) : wp.laws_heldWarpS a x (fun r => r = M.laws_heldWarpS a x) := by
 unfold wp.laws_heldWarpS
 obtain ⟨h0, h1⟩ := h
 have hlen := (wssz_nn a).2
 refine loop_n a.length (fun k => (x + M.wssz (a.take k), (k : Int), ())) (fun k => ∀ j : Nat, j < k → rd a j = rd (M.markWs a x) j) (by simp [M.wssz]) (by simp) (fun k hk hF next hn => ?_) fun hF next => ?_
 ·have hle := wssz_le hk
  have hnn := (wssz_nn (a.take k)).1
  have hat := markWs_at (x := x) hk
  rw [take_snoc hk, wssz_app] at hn
  simp only [M.wssz] at hn
  have bad : ∀ (P : Prop), (rd a (k : Int) = M.markW (rd a (k : Int)) (x + M.wssz (a.take k)) → P) → ¬ P → -1 = M.laws_heldWarpS a x := fun P hp hn => by
   refine (if_neg fun e => hn (hp ?_)).symm
   rw [← hat, ← e]
  have good : rd a (k : Int) = M.markW (rd a (k : Int)) (x + M.wssz (a.take k)) → next (x + (M.wssz (a.take k) + (M.wsz (rd a (k : Int)) + 0)), ((k + 1 : Nat) : Int), ()) := fun e => hn fun j hj => by
   by_cases hjk : j = k
   ·subst hjk; rw [hat]; exact e
   ·exact hF j (by omega)
  simp only [M.wsz] at hle
  refine bcase_t (by simp; omega) ⟨by omega, ?_⟩
  generalize rd a (k : Int) = y at *
  refine bcase_mk (fun f1 => ?_) fun f1 => ⟨by omega, ?_⟩
  ·exact bad (y.Number = x + M.wssz (a.take k)) (fun e => by rw [e]; rfl) (by simpa using f1)
  have f1 : y.Number = x + M.wssz (a.take k) := by simpa using f1
  rw [w64 (x := x + M.wssz (a.take k) + 1) (by omega) (by omega)]
  refine ⟨⟨⟨by omega, by omega⟩, by unfold M.Few; omega⟩, fun r hr => ?_⟩
  by_cases f2 : y.Frames = M.seqFrame (x + M.wssz (a.take k) + 1) y.Frames.length
  ·have hr1 : r = x + M.wssz (a.take k) + 1 + 3 * y.Frames.length := by rw [hr]; unfold M.laws_heldFrameS; rw [if_pos f2]
   refine bcase_f (by simp; omega) ⟨by omega, ⟨⟨by omega, by omega⟩, by unfold M.Few; omega⟩, fun r' hr' => ?_⟩
   by_cases f3 : y.Regs = M.seqInt (x + M.wssz (a.take k) + 1 + 3 * y.Frames.length) y.Regs.length
   ·have hr1' : r' = x + (M.wssz (a.take k) + (M.wsz y + 0)) := by rw [hr', hr1]; unfold M.laws_heldIntS; rw [if_pos f3]; simp only [M.wsz]; omega
    refine bcase_f (by simp only [hr1', M.wsz]; simp; omega) ?_
    rw [hr1', up64 hk (by omega)]
    refine good ?_
    show y = ⟨x + M.wssz (a.take k), M.seqFrame (x + M.wssz (a.take k) + 1) y.Frames.length, M.seqInt (x + M.wssz (a.take k) + 1 + 3 * y.Frames.length) y.Regs.length⟩
    rw [← f3, ← f2, ← f1]
   ·have hr1' : r' = -1 := by rw [hr', hr1]; unfold M.laws_heldIntS; rw [if_neg f3]
    refine bcase_t (by rw [hr1']; rfl) ?_
    exact bad (y.Regs = M.seqInt (x + M.wssz (a.take k) + 1 + 3 * y.Frames.length) y.Regs.length) (fun e => by
     have := congrArg D.Warp.Regs e
     simpa only [M.markW] using this) f3
  ·have hr1 : r = -1 := by rw [hr]; unfold M.laws_heldFrameS; rw [if_neg f2]
   refine bcase_t (by rw [hr1]; rfl) ?_
   exact bad (y.Frames = M.seqFrame (x + M.wssz (a.take k) + 1) y.Frames.length) (fun e => by
    have := congrArg D.Warp.Frames e
    simpa only [M.markW] using this) f2
 ·refine bcase_f (by simp) ?_
  have : a = M.markWs a x := eq_of_takes (by rw [markWs_len]) hF
  rw [List.take_length]
  exact (if_pos this).symm
theorem wp.laws_heldBlock.math (b : D.Block) (x : Int) (h : M.laws_heldBlock_pre b x) : wp.laws_heldBlock b x (fun r => r = M.laws_heldBlock b x) := by
 obtain ⟨h0, h1⟩ := h
 have hw := wssz_nn b.Warps
 simp only [M.bsz] at h1
 refine ⟨⟨⟨by omega, by omega⟩, by unfold M.Few; omega⟩, fun r hr => ?_⟩
 have bad : ∀ (P : Prop), (b = M.markB b x → P) → ¬ P → -1 = M.laws_heldBlock b x := fun P hp hn => (if_neg fun e => hn (hp e)).symm
 by_cases f1 : b.Code = M.seqIns x b.Code.length
 ·have hr1 : r = x + 4 * b.Code.length := by rw [hr]; unfold M.laws_heldInsS; rw [if_pos f1]
  refine bcase_f (by simp; omega) ⟨⟨by omega, by omega⟩, fun r2 hr2 => ?_⟩
  by_cases f2 : b.Warps = M.markWs b.Warps (x + 4 * b.Code.length)
  ·have hr3 : r2 = x + 4 * b.Code.length + M.wssz b.Warps := by rw [hr2, hr1]; unfold M.laws_heldWarpS; rw [if_pos f2]
   refine bcase_f (by simp; omega) ⟨⟨⟨by omega, by omega⟩, by unfold M.Few; omega⟩, fun r4 hr4 => ?_⟩
   by_cases f3 : b.Memory = M.seqInt (x + 4 * b.Code.length + M.wssz b.Warps) b.Memory.length
   ·have hr5 : r4 = x + 4 * b.Code.length + M.wssz b.Warps + b.Memory.length := by rw [hr4, hr3]; unfold M.laws_heldIntS; rw [if_pos f3]
    refine bcase_f (by simp; omega) ?_
    have : b = M.markB b x := by
     cases b
     simp only [M.markB] at *
     rw [← f1, ← f2, ← f3]
    rw [hr5, M.laws_heldBlock, if_pos this, M.bsz]; omega
   ·have hr5 : r4 = -1 := by rw [hr4, hr3]; unfold M.laws_heldIntS; rw [if_neg f3]
    refine bcase_t (by rw [hr5]; rfl) (bad _ (fun e => ?_) f3)
    have := congrArg D.Block.Memory e
    simpa only [M.markB] using this
  ·have hr3 : r2 = -1 := by rw [hr2, hr1]; unfold M.laws_heldWarpS; rw [if_neg f2]
   refine bcase_t (by rw [hr3]; rfl) (bad _ (fun e => ?_) f2)
   have := congrArg D.Block.Warps e
   simpa only [M.markB] using this
 ·have hr1 : r = -1 := by rw [hr]; unfold M.laws_heldInsS; rw [if_neg f1]
  refine bcase_t (by rw [hr1]; rfl) (bad _ (fun e => ?_) f1)
  have := congrArg D.Block.Code e
  simpa only [M.markB] using this
theorem markB_len (b : D.Block) (x : Int) : (M.markB b x).Code.length = b.Code.length ∧ (M.markB b x).Memory.length = b.Memory.length := ⟨seqIns_len _ _, by simp [M.markB, M.seqInt]⟩
theorem markWs_sz : ∀ (l : List D.Warp) (k : Int), M.wssz (M.markWs l k) = M.wssz l
 | [], k => rfl
 | x :: l, k => by
  simp only [M.markWs, M.wssz, markWs_sz l]
  simp [M.wsz, M.markW, M.seqFrame, M.seqInt]
theorem markWs_idem : ∀ (l : List D.Warp) (k : Int), M.markWs (M.markWs l k) k = M.markWs l k
 | [], k => rfl
 | x :: l, k => by
  simp only [M.markWs]
  have hw : M.wsz (M.markW x k) = M.wsz x := by simp [M.wsz, M.markW, M.seqFrame, M.seqInt]
  rw [hw, markWs_idem l]
  congr 1
  simp [M.markW, M.seqFrame, M.seqInt]
theorem markB_idem (b : D.Block) (x : Int) : M.markB (M.markB b x) x = M.markB b x := by
 have h1 := markB_len b x
 have h2 : M.wssz (M.markB b x).Warps = M.wssz b.Warps := markWs_sz _ _
 unfold M.markB at *
 simp only [seqIns_len, markWs_sz, markWs_idem] at *
 simp [M.seqInt]
theorem markB_sz (b : D.Block) (x : Int) : M.bsz (M.markB b x) = M.bsz b := by
 have h1 := markB_len b x
 have h2 : M.wssz (M.markB b x).Warps = M.wssz b.Warps := markWs_sz _ _
 unfold M.bsz
 rw [h1.1, h1.2, h2]
theorem held_mark (b : D.Block) (x : Int) : M.laws_heldBlock (M.markB b x) x = x + M.bsz b := by
 unfold M.laws_heldBlock
 rw [if_pos (markB_idem b x).symm, markB_sz]
theorem wp.spec_l12Copy.math (x : D.Warp) (h : M.spec_l12Copy_pre x) : wp.spec_l12Copy x (fun r => r = M.spec_l12Copy x) := by
 obtain ⟨h1, h2⟩ := h
 unfold wp.spec_l12Copy
 simp only [List.nil_append, List.length_nil, Nat.zero_add, h1, h2, true_and, and_true, and_self, M.spec_l12Copy]
theorem wp.spec_l29Copy.math (b : D.Block) (h : M.spec_l29Copy_pre b) : wp.spec_l29Copy b (fun r => r = M.spec_l29Copy b) := by
 obtain ⟨h1, ⟨h2, hW⟩, h3⟩ := h
 unfold wp.spec_l29Copy
 simp only [List.nil_append, List.length_nil, Nat.zero_add]
 refine joinP_of (b.Code, [], b.Memory, b.Waiting, b.Phase, ()) ?_ fun J hJ => by simp only [h1, h3, hJ, true_and, and_true, and_self]
 refine loop_n b.Warps.length (fun k => ((k : Int), b.Warps.take k, b.Waiting, b.Phase, ())) (fun _ => True) rfl trivial (fun k hk _ next hn => ?_) fun _ next => ?_
 ·refine bcase_t (by simp; omega) ⟨by omega, hW _ (rd_mem hk), fun r hr => ⟨by simp; omega, ?_⟩⟩
  rw [up64 hk (by omega), hr]
  have := hn trivial
  rw [List.take_add_one, List.getElem?_eq_getElem hk, Option.toList_some] at this
  rw [rd_nat hk]; exact this
 ·refine bcase_f (by simp) ?_
  rw [List.take_length]; rfl
theorem fit_long {b : D.Block} (h : M.BFit b) : M.BLong b := by
 obtain ⟨h1, ⟨h2, hW⟩, h3⟩ := h
 unfold M.BLong M.WsLong M.WLong M.Long
 exact ⟨by omega, ⟨by omega, fun x hx => by have := hW x hx; unfold M.WFit at this; omega⟩, by omega⟩
theorem small_fit {b : D.Block} (h : M.BSmall b) : M.BFit b := by
 obtain ⟨h1, ⟨h2, hW⟩, h3⟩ := h
 exact ⟨by omega, ⟨by omega, fun x hx => by have := hW x hx; unfold M.WSmall at this; unfold M.WFit; omega⟩, by omega⟩
theorem wssz_bound : ∀ (l : List D.Warp), (∀ x ∈ l, M.WSmall x) → M.wssz l ≤ 8388609 * l.length
 | [], h => by simp [M.wssz]
 | x :: l, h => by
  have h1 := wssz_bound l fun y hy => h y (List.mem_cons_of_mem _ hy)
  have h2 := h x List.mem_cons_self
  unfold M.WSmall at h2
  simp only [M.wssz, M.wsz, List.length_cons]; omega
theorem bsz_bound {b : D.Block} (h : M.BSmall b) : 0 ≤ M.bsz b ∧ M.bsz b ≤ 17592190238720 + 10485760 + 2097152 := by
 obtain ⟨h1, ⟨h2, hW⟩, h3⟩ := h
 have := wssz_bound _ hW
 have := (wssz_nn b.Warps).1
 unfold M.bsz
 omega
end Go.V
namespace Go.V
open IntKind (wrap)
def wp.spec_ActiveMask (s0 : D.Warp) (Q : Int → Prop) : Prop :=
 bcase ((s0.Frames.length : Int) == 0) (Q 0) (((0 ≤ (wrap .i64 ((s0.Frames.length : Int) - 1)) ∧ (wrap .i64 ((s0.Frames.length : Int) - 1)) < (s0.Frames.length : Int)) ∧ Q ((rd s0.Frames (wrap .i64 ((s0.Frames.length : Int) - 1))).Mask)))
def wp.spec_ZeroMask (s0 : D.Warp) (x1 : Int) (Q : Int → Prop) : Prop :=
 (∀ r23, r23 = M.spec_l04Reg x1 → bcase (!r23) (Q 0) (bcase ((s0.Regs.length : Int) != 32) (Q 0) (LoopP (σ := Int × Int × Unit) (fun (p63 : Int × Int × Unit) next33 => match p63 with | (i28, i29, _) => bcase (decide (i29 < 8)) ((M.spec_ActiveMask_pre s0 ∧ ∀ r35, r35 = M.spec_ActiveMask s0 → (∀ r40, r40 = M.spec_HasLane r35 i29 → bcase r40 (((0 ≤ (wrap .i64 ((wrap .i64 (i29 * 4)) + x1)) ∧ (wrap .i64 ((wrap .i64 (i29 * 4)) + x1)) < (s0.Regs.length : Int)) ∧ bcase ((rd s0.Regs (wrap .i64 ((wrap .i64 (i29 * 4)) + x1))) == 0) (((0 ≤ i29) ∧ next33 ((bitOr .i64 i28 (wrap .i64 (1 * 2 ^ (min (i29.toNat) (IntKind.bits .i64))))), (wrap .i64 (i29 + 1)), ()))) (next33 (i28, (wrap .i64 (i29 + 1)), ())))) (next33 (i28, (wrap .i64 (i29 + 1)), ()))))) (Q i28)) (0, 0, ()))))
def wp.spec_l13Splits (xs0 : List D.Ins) (s1 : D.Warp) (Q : Bool → Prop) : Prop :=
 ((0 ≤ (wrap .i64 ((s1.Frames.length : Int) - 1)) ∧ (wrap .i64 ((s1.Frames.length : Int) - 1)) < (s1.Frames.length : Int)) ∧ ((0 ≤ (rd s1.Frames (wrap .i64 ((s1.Frames.length : Int) - 1))).Pc ∧ (rd s1.Frames (wrap .i64 ((s1.Frames.length : Int) - 1))).Pc < (xs0.length : Int)) ∧ bcase ((rd xs0 ((rd s1.Frames (wrap .i64 ((s1.Frames.length : Int) - 1))).Pc)).Op != 10) (Q false) (((0 ≤ (rd s1.Frames (wrap .i64 ((s1.Frames.length : Int) - 1))).Pc ∧ (rd s1.Frames (wrap .i64 ((s1.Frames.length : Int) - 1))).Pc < (xs0.length : Int)) ∧ bcase ((rd xs0 ((rd s1.Frames (wrap .i64 ((s1.Frames.length : Int) - 1))).Pc)).B == (wrap .i64 ((rd s1.Frames (wrap .i64 ((s1.Frames.length : Int) - 1))).Pc + 1))) (Q false) (((0 ≤ (rd s1.Frames (wrap .i64 ((s1.Frames.length : Int) - 1))).Pc ∧ (rd s1.Frames (wrap .i64 ((s1.Frames.length : Int) - 1))).Pc < (xs0.length : Int)) ∧ (M.spec_ZeroMask_pre s1 ((rd xs0 ((rd s1.Frames (wrap .i64 ((s1.Frames.length : Int) - 1))).Pc)).A) ∧ ∀ r49, r49 = M.spec_ZeroMask s1 ((rd xs0 ((rd s1.Frames (wrap .i64 ((s1.Frames.length : Int) - 1))).Pc)).A) → bcase (r49 != 0) (Q (r49 != (rd s1.Frames (wrap .i64 ((s1.Frames.length : Int) - 1))).Mask)) (Q false))))))))
def wp.spec_l13Local (xs0 : List D.Ins) (s1 : D.Warp) (Q : Bool → Prop) : Prop :=
 bcase ((s1.Frames.length : Int) == 0) (Q false) (((0 ≤ (wrap .i64 ((s1.Frames.length : Int) - 1)) ∧ (wrap .i64 ((s1.Frames.length : Int) - 1)) < (s1.Frames.length : Int)) ∧ ((0 ≤ (rd s1.Frames (wrap .i64 ((s1.Frames.length : Int) - 1))).Pc ∧ (rd s1.Frames (wrap .i64 ((s1.Frames.length : Int) - 1))).Pc < (xs0.length : Int)) ∧ (∀ r33, r33 = M.spec_IsLocal (rd xs0 ((rd s1.Frames (wrap .i64 ((s1.Frames.length : Int) - 1))).Pc)) → bcase (!r33) (Q false) ((M.spec_l13Splits_pre xs0 s1 ∧ ∀ r38, r38 = M.spec_l13Splits xs0 s1 → bcase (!r38) (Q true) (Q (decide ((s1.Frames.length : Int) ≤ 22)))))))))
def wp.spec_l30Can (s0 : D.Block) (x1 : Int) (Q : Bool → Prop) : Prop :=
 ((0 ≤ x1 ∧ x1 < (s0.Warps.length : Int)) ∧ bcase (((rd s0.Warps x1).Frames.length : Int) == 0) (Q false) (((0 ≤ x1) ∧ bcase ((bitAnd .i64 (Int.fdiv s0.Waiting (2 ^ (min (x1.toNat) (IntKind.bits .i64)))) 1) == 1) (Q false) ((M.spec_l30Next_pre s0 x1 ∧ ∀ r44, r44 = M.spec_l30Next s0 x1 → (∀ r53, r53 = M.spec_IsLocal r44 → bcase r53 ((M.spec_l13Local_pre s0.Code (rd s0.Warps x1) ∧ ∀ r58, r58 = M.spec_l13Local s0.Code (rd s0.Warps x1) → Q r58)) (bcase (r44.Op != 16) (Q true) (Q (((rd s0.Warps x1).Frames.length : Int) == 1)))))))))
def wp.impl_ActiveMask (s0 : D.Warp) (Q : Int → Prop) : Prop :=
 bcase ((s0.Frames.length : Int) == 0) (Q 0) (((0 ≤ (wrap .i64 ((s0.Frames.length : Int) - 1)) ∧ (wrap .i64 ((s0.Frames.length : Int) - 1)) < (s0.Frames.length : Int)) ∧ Q ((rd s0.Frames (wrap .i64 ((s0.Frames.length : Int) - 1))).Mask)))
def wp.impl_Warp_zeroMask (s0 : D.Warp) (x1 : Int) (Q : Int → Prop) : Prop :=
 (M.impl_ActiveMask_pre s0 ∧ ∀ r23, r23 = M.impl_ActiveMask s0 → (∀ r28, r28 = M.impl_LanesOf r23 → LoopP (σ := Int × Int × Unit) (fun (p64 : Int × Int × Unit) next40 => match p64 with | (i35, i36, _) => bcase (decide (i36 < (r28.length : Int))) (((0 ≤ i36 ∧ i36 < (r28.length : Int)) ∧ (M.impl_Warp_lane_pre s0 (rd r28 i36) ∧ ((0 ≤ x1 ∧ x1 < ((List.drop ((wrap .i64 ((rd r28 i36) * 4)).toNat) (List.take ((wrap .i64 ((wrap .i64 ((rd r28 i36) + 1)) * 4)).toNat) s0.Regs)).length : Int)) ∧ bcase ((rd (List.drop ((wrap .i64 ((rd r28 i36) * 4)).toNat) (List.take ((wrap .i64 ((wrap .i64 ((rd r28 i36) + 1)) * 4)).toNat) s0.Regs)) x1) == 0) (((0 ≤ (rd r28 i36)) ∧ next40 ((bitOr .i64 i35 (wrap .i64 (1 * 2 ^ (min ((rd r28 i36).toNat) (IntKind.bits .i64))))), (wrap .i64 (i36 + 1)), ()))) (next40 (i35, (wrap .i64 (i36 + 1)), ())))))) (Q i35)) (0, 0, ())))
def wp.impl_Warp_splits (s0 : D.Warp) (xs1 : List D.Ins) (Q : Bool → Prop) : Prop :=
 ((0 ≤ (wrap .i64 ((s0.Frames.length : Int) - 1)) ∧ (wrap .i64 ((s0.Frames.length : Int) - 1)) < (s0.Frames.length : Int)) ∧ ((0 ≤ (rd s0.Frames (wrap .i64 ((s0.Frames.length : Int) - 1))).Pc ∧ (rd s0.Frames (wrap .i64 ((s0.Frames.length : Int) - 1))).Pc < (xs1.length : Int)) ∧ bcase ((rd xs1 ((rd s0.Frames (wrap .i64 ((s0.Frames.length : Int) - 1))).Pc)).Op != 10) (Q false) (((0 ≤ (rd s0.Frames (wrap .i64 ((s0.Frames.length : Int) - 1))).Pc ∧ (rd s0.Frames (wrap .i64 ((s0.Frames.length : Int) - 1))).Pc < (xs1.length : Int)) ∧ bcase ((rd xs1 ((rd s0.Frames (wrap .i64 ((s0.Frames.length : Int) - 1))).Pc)).B == (wrap .i64 ((rd s0.Frames (wrap .i64 ((s0.Frames.length : Int) - 1))).Pc + 1))) (Q false) (((0 ≤ (rd s0.Frames (wrap .i64 ((s0.Frames.length : Int) - 1))).Pc ∧ (rd s0.Frames (wrap .i64 ((s0.Frames.length : Int) - 1))).Pc < (xs1.length : Int)) ∧ (M.impl_Warp_zeroMask_pre s0 ((rd xs1 ((rd s0.Frames (wrap .i64 ((s0.Frames.length : Int) - 1))).Pc)).A) ∧ ∀ r44, r44 = M.impl_Warp_zeroMask s0 ((rd xs1 ((rd s0.Frames (wrap .i64 ((s0.Frames.length : Int) - 1))).Pc)).A) → bcase (r44 != 0) ((M.impl_ActiveMask_pre s0 ∧ ∀ r49, r49 = M.impl_ActiveMask s0 → Q (r44 != r49))) (Q false))))))))
def wp.impl_Block_canStep (s0 : D.Block) (x1 : Int) (Q : Bool → Prop) : Prop :=
 (M.impl_Block_nextIns_pre s0 x1 ∧ ∀ r23, r23 = M.impl_Block_nextIns s0 x1 → JoinP (σ := Bool × Unit) (fun J33 => bcase (!r23.2) (J33 (true, ())) ((M.impl_Block_waits_pre s0 x1 ∧ ∀ r36, r36 = M.impl_Block_waits s0 x1 → J33 (r36, ())))) (fun (p126 : Bool × Unit) => match p126 with | (b32, _) => bcase b32 (Q false) (bcase (r23.1.Op == 16) (((0 ≤ x1 ∧ x1 < (s0.Warps.length : Int)) ∧ Q (((rd s0.Warps x1).Frames.length : Int) == 1))) ((∀ r58, r58 = M.impl_IsLocal r23.1 → bcase r58 (((0 ≤ x1 ∧ x1 < (s0.Warps.length : Int)) ∧ (M.impl_Warp_splits_pre (rd s0.Warps x1) s0.Code ∧ ∀ r101, r101 = M.impl_Warp_splits (rd s0.Warps x1) s0.Code → bcase (!r101) (Q true) (((0 ≤ x1 ∧ x1 < (s0.Warps.length : Int)) ∧ Q (decide ((wrap .i64 (((rd s0.Warps x1).Frames.length : Int) + 2)) ≤ 24))))))) (Q true))))))
def wp.spec_l32Pick (s0 : D.Block) (x1 : Int) (Q : Int → Prop) : Prop :=
 ((((s0.Warps.length : Int) : Int) ≠ 0) ∧ LoopP (σ := Int × Unit) (fun (p41 : Int × Unit) next28 => match p41 with | (i24, _) => bcase (decide (i24 < (s0.Warps.length : Int))) (((((s0.Warps.length : Int) : Int) ≠ 0) ∧ (M.spec_l30Can_pre s0 (Int.tmod (wrap .i64 ((Int.tmod x1 (s0.Warps.length : Int)) + i24)) (s0.Warps.length : Int)) ∧ ∀ r31, r31 = M.spec_l30Can s0 (Int.tmod (wrap .i64 ((Int.tmod x1 (s0.Warps.length : Int)) + i24)) (s0.Warps.length : Int)) → bcase r31 (Q (Int.tmod (wrap .i64 ((Int.tmod x1 (s0.Warps.length : Int)) + i24)) (s0.Warps.length : Int))) (next28 ((wrap .i64 (i24 + 1)), ()))))) (Q (-1))) (0, ()))
def wp.impl_Block_pickWarp (s0 : D.Block) (x1 : Int) (Q : Int → Prop) : Prop :=
 LoopP (σ := Int × Unit) (fun (p41 : Int × Unit) next27 => match p41 with | (i23, _) => bcase (decide (i23 < (s0.Warps.length : Int))) (((((s0.Warps.length : Int) : Int) ≠ 0) ∧ ((((s0.Warps.length : Int) : Int) ≠ 0) ∧ (M.impl_Block_canStep_pre s0 (Int.tmod (wrap .i64 ((Int.tmod x1 (s0.Warps.length : Int)) + i23)) (s0.Warps.length : Int)) ∧ ∀ r31, r31 = M.impl_Block_canStep s0 (Int.tmod (wrap .i64 ((Int.tmod x1 (s0.Warps.length : Int)) + i23)) (s0.Warps.length : Int)) → bcase r31 (Q (Int.tmod (wrap .i64 ((Int.tmod x1 (s0.Warps.length : Int)) + i23)) (s0.Warps.length : Int))) (next27 ((wrap .i64 (i23 + 1)), ())))))) (Q (-1))) (0, ())
end Go.V
namespace Go.V
open IntKind (wrap)
theorem activeMask_wp {x : D.Warp} (h : M.Long x.Frames) {Q : Int → Prop} (hQ : Q (M.activeMask x)) : bcase ((x.Frames.length : Int) == 0) (Q 0) (((0 ≤ (wrap .i64 ((x.Frames.length : Int) - 1)) ∧ (wrap .i64 ((x.Frames.length : Int) - 1)) < (x.Frames.length : Int)) ∧ Q ((rd x.Frames (wrap .i64 ((x.Frames.length : Int) - 1))).Mask))) := by
 rw [empty_len0]
 refine bcase_mk (fun e => ?_) fun e => ?_
 ·unfold M.activeMask at hQ; rw [if_pos e] at hQ; exact hQ
 ·have hx : x.Frames ≠ [] := by simpa using e
  have hpos : 0 < x.Frames.length := List.length_pos_iff.2 hx
  rw [last_wrap h]
  unfold M.activeMask at hQ
  rw [if_neg (by rw [e]; simp)] at hQ
  exact ⟨by omega, hQ⟩
theorem wp.spec_ActiveMask.math (x : D.Warp) (h : M.spec_ActiveMask_pre x) : wp.spec_ActiveMask x (fun r => r = M.spec_ActiveMask x) := activeMask_wp (Q := fun r => r = M.activeMask x) h rfl
theorem wp.impl_ActiveMask.math (x : D.Warp) (h : M.impl_ActiveMask_pre x) : wp.impl_ActiveMask x (fun r => r = M.impl_ActiveMask x) := activeMask_wp (Q := fun r => r = M.activeMask x) h rfl
theorem zeroMask_range (x : D.Warp) (reg : Int) : M.zeroMask x reg = (List.range 8).foldl (fun m (k : Nat) => if M.hasLane (M.activeMask x) (k : Int) = true then M.zeroStep x reg m (k : Int) else m) 0 := by
 unfold M.zeroMask M.lanesOf
 rw [List.foldl_filter]
 rfl
theorem reg_in {reg k : Int} (hr : M.isReg reg = true) (h0 : 0 ≤ k) (h7 : k ≤ 7) : 0 ≤ k * 4 + reg ∧ k * 4 + reg < 32 := by rw [isReg_iff] at hr; omega
theorem wp.spec_ZeroMask.math (x : D.Warp) (reg : Int) (h : M.spec_ZeroMask_pre x reg) : wp.spec_ZeroMask x reg (fun r => r = M.spec_ZeroMask x reg) := by
 unfold wp.spec_ZeroMask
 simp only [lenB]
 refine fun r hr => bcase_mk (fun e => ?_) fun e => bcase_mk (fun e2 => ?_) fun e2 => ?_
 all_goals simp only [M.spec_l04Reg] at hr
 ·simp [M.spec_ZeroMask, nt e hr]
 ·have : (x.Regs.length == 32) = false := by simpa using e2
  simp [M.spec_ZeroMask, this]
 have hreg := nf e hr
 have h32 : (x.Regs.length == 32) = true := by simpa using e2
 have h32' : x.Regs.length = 32 := by simpa using h32
 have hM : M.spec_ZeroMask x reg = M.zeroMask x reg := by simp [M.spec_ZeroMask, hreg, h32]
 rw [hM, zeroMask_range]
 let F : Nat → Int := fun k => (List.range k).foldl (fun m (k : Nat) => if M.hasLane (M.activeMask x) (k : Int) = true then M.zeroStep x reg m (k : Int) else m) 0
 have hF : ∀ k, F (k + 1) = if M.hasLane (M.activeMask x) (k : Int) = true then M.zeroStep x reg (F k) (k : Int) else F k := fun k => by simp [F, List.range_succ]
 refine loop_n 8 (fun k => (F k, (k : Int), ())) (fun _ => True) rfl trivial (fun k hk _ next hn => ?_) fun _ next => bcase_f (by simp) rfl
 have hn := hn trivial
 rw [hF] at hn
 have hw : wrap .i64 (wrap .i64 ((k : Int) * 4) + reg) = (k : Int) * 4 + reg := by
  have := reg_in hreg (k := (k : Int)) (by omega) (by omega)
  rw [w64 (x := (k : Int) * 4) (by omega) (by omega), w64 (by omega) (by omega)]
 have hin := reg_in hreg (k := (k : Int)) (by omega) (by omega)
 refine bcase_t (by simp; omega) ⟨h, fun r2 hr2 r3 hr3 => bcase_mk (fun e3 => ?_) fun e3 => ?_⟩
 all_goals simp only [M.spec_ActiveMask] at hr2
 all_goals simp only [M.spec_HasLane, hr2] at hr3
 ·rw [hw, h32']
  rw [if_pos (hr3.symm.trans e3)] at hn
  refine ⟨⟨hin.1, by omega⟩, bcase_mk (fun e4 => ⟨Int.natCast_nonneg k, ?_⟩) fun e4 => ?_⟩
  ·have e4 : rd x.Regs ((k : Int) * 4 + reg) = 0 := by simpa using e4
   unfold M.zeroStep at hn
   rw [if_pos e4] at hn
   rw [up64 (n := 8) hk (by omega)]; exact hn
  ·have e4 : ¬ rd x.Regs ((k : Int) * 4 + reg) = 0 := by simpa using e4
   unfold M.zeroStep at hn
   rw [if_neg e4] at hn
   rw [up64 (n := 8) hk (by omega)]; exact hn
 ·have e3 : ¬ M.hasLane (M.activeMask x) (k : Int) = true := by rw [← hr3, e3]; simp
  rw [if_neg e3] at hn
  rw [up64 (n := 8) hk (by omega)]; exact hn
theorem lanes_in {m l : Int} (h : l ∈ M.lanesOf m) : 0 ≤ l ∧ l ≤ 7 := by
 have := (List.mem_filter.1 h).1
 simp only [List.mem_cons, List.not_mem_nil, or_false] at this
 omega
theorem lanes_len (m : Int) : (M.lanesOf m).length ≤ 8 := by
 have := List.length_filter_le (M.hasLane m) [0, 1, 2, 3, 4, 5, 6, 7]
 exact this
theorem rd_cut {α : Type} [Inhabited α] {l : List α} {a b : Nat} {i : Int} (h0 : 0 ≤ i) (hi : a + i.toNat < b) (hb : b ≤ l.length) : rd ((l.take b).drop a) i = rd l ((a : Int) + i) := by
 have e : ((a : Int) + i).toNat = a + i.toNat := by omega
 unfold rd
 rw [e, List.getD_eq_getElem?_getD, List.getD_eq_getElem?_getD, List.getElem?_drop, List.getElem?_take, if_pos hi]
theorem wp.impl_Warp_zeroMask.math (x : D.Warp) (reg : Int) (h : M.impl_Warp_zeroMask_pre x reg) : wp.impl_Warp_zeroMask x reg (fun r => r = M.impl_Warp_zeroMask x reg) := by
 obtain ⟨h1, h32, hreg⟩ := h
 refine ⟨h1, fun r hr r2 hr2 => ?_⟩
 have hr2' : r2 = M.lanesOf (M.activeMask x) := by rw [hr2, hr]; rfl
 show LoopP _ _
 have hl := lanes_len (M.activeMask x)
 have hmem : ∀ k : Nat, k < r2.length → 0 ≤ rd r2 (k : Int) ∧ rd r2 (k : Int) ≤ 7 := fun k hk => lanes_in (m := M.activeMask x) (by rw [← hr2']; exact rd_mem hk)
 have hM : M.impl_Warp_zeroMask x reg = r2.foldl (M.zeroStep x reg) 0 := by rw [hr2']; rfl
 rw [hM]
 have hlen : r2.length ≤ 8 := by rw [hr2']; exact hl
 clear hr2 hr2' hM
 refine loop_n r2.length (fun k => ((r2.take k).foldl (M.zeroStep x reg) 0, (k : Int), ())) (fun _ => True) rfl trivial (fun k hk _ next hn => ?_) fun _ next => bcase_f (by simp) (by rw [List.take_length])
 have hn := hn trivial
 rw [List.take_add_one, List.getElem?_eq_getElem hk, Option.toList_some, List.foldl_append, ← rd_nat hk] at hn
 simp only [List.foldl_cons, List.foldl_nil] at hn
 have hm := hmem k hk
 dsimp only
 generalize rd r2 (k : Int) = l at *
 have hin := reg_in hreg hm.1 hm.2
 rw [isReg_iff] at hreg
 have a1 : wrap .i64 (l * 4) = l * 4 := w64 (by omega) (by omega)
 have a2 : wrap .i64 ((wrap .i64 (l + 1)) * 4) = l * 4 + 4 := by rw [w64 (x := l + 1) (by omega) (by omega), w64 (by omega) (by omega)]; omega
 rw [a1, a2]
 have hc : rd ((x.Regs.take (l * 4 + 4).toNat).drop (l * 4).toNat) reg = rd x.Regs (l * 4 + reg) := by
  rw [rd_cut hreg.1 (by omega) (by omega)]
  congr 1; omega
 rw [hc, up64 hk (by omega)]
 refine bcase_t (by simp; omega) ⟨by omega, ⟨h32, hm⟩, ⟨by omega, by simp; omega⟩, bcase_mk (fun e => ⟨by omega, ?_⟩) fun e => ?_⟩
 ·have e : rd x.Regs (l * 4 + reg) = 0 := by simpa using e
  unfold M.zeroStep at hn
  rw [if_pos e] at hn
  exact hn
 ·have e : ¬ rd x.Regs (l * 4 + reg) = 0 := by simpa using e
  unfold M.zeroStep at hn
  rw [if_neg e] at hn
  exact hn
theorem runs_top {p : List D.Ins} {x : D.Warp} (h : M.Runs p x) : p.length ≤ 32 ∧ 0 < x.Frames.length ∧ x.Frames.length ≤ 24 ∧ x.Regs.length = 32 ∧ 0 ≤ M.topPc x ∧ M.topPc x < (p.length : Int) ∧ M.insOk (M.topIns p x) p.length = true ∧ 0 ≤ x.Number ∧ x.Number ≤ 2 := by
 obtain ⟨hp, hw, hx⟩ := h
 obtain ⟨k1, k2, k3⟩ := frames_last hw hx
 have hp' := hp
 simp only [M.programOk, Bool.and_eq_true, decide_eq_true_eq, List.all_eq_true] at hp
 simp only [M.warpOf, Bool.and_eq_true, M.isIn, decide_eq_true_eq, beq_iff_eq] at hw
 exact ⟨hp.1, List.length_pos_iff.2 hx, k1, hw.2.1, k2, k3, hp.2 _ (rd_of k2 k3), hw.1.1, hw.1.2⟩
theorem zero_reg {i : D.Ins} {n : Int} (h : M.insOk i n = true) (e : i.Op = 10) : M.isReg i.A = true := by
 simp only [M.insOk, Bool.and_eq_true] at h
 have h := h.2
 rw [if_neg (by omega), if_neg (by omega), if_neg (by omega), if_neg (by omega), if_pos e] at h
 simp only [Bool.and_eq_true] at h
 exact h.1
theorem activeMask_top {x : D.Warp} (h : x.Frames ≠ []) : M.activeMask x = (M.lastF x.Frames).Mask := by
 unfold M.activeMask
 rw [if_neg (by simpa using h)]
theorem wp.spec_l13Splits.math (p : List D.Ins) (x : D.Warp) (h : M.spec_l13Splits_pre p x) : wp.spec_l13Splits p x (fun r => r = M.spec_l13Splits p x) := by
 obtain ⟨t1, t2, t3, t4, t5, t6, t7, _⟩ := runs_top h
 unfold wp.spec_l13Splits
 rw [last_wrap (by omega)]
 change (_ ∧ _) ∧ (0 ≤ M.topPc x ∧ M.topPc x < _) ∧ bcase ((M.topIns p x).Op != 10) _ ((0 ≤ M.topPc x ∧ M.topPc x < _) ∧ bcase ((M.topIns p x).B == wrap .i64 (M.topPc x + 1)) _ ((0 ≤ M.topPc x ∧ M.topPc x < _) ∧ (M.spec_ZeroMask_pre x (M.topIns p x).A ∧ ∀ r, r = M.spec_ZeroMask x (M.topIns p x).A → bcase (r != 0) ((r != (M.lastF x.Frames).Mask) = _) _)))
 rw [w64 (x := M.topPc x + 1) (by omega) (by omega)]
 refine ⟨by omega, ⟨t5, t6⟩, bcase_mk (fun e => ?_) fun e => ⟨⟨t5, t6⟩, bcase_mk (fun e2 => ?_) fun e2 => ⟨⟨t5, t6⟩, by show x.Frames.length ≤ 9223372036854775807; omega, fun r hr => bcase_mk (fun e3 => ?_) fun e3 => ?_⟩⟩⟩
 ·have e : ¬ (M.topIns p x).Op = 10 := by simpa using e
  simp [M.spec_l13Splits, M.splits, e]
 ·have e2 : (M.topIns p x).B = M.topPc x + 1 := by simpa using e2
  simp [M.spec_l13Splits, M.splits, e2]
 all_goals
  have e : (M.topIns p x).Op = 10 := by simpa using e
  have e2 : ¬ (M.topIns p x).B = M.topPc x + 1 := by simpa using e2
  have hz : r = M.zeroMask x (M.topIns p x).A := by
   rw [hr]
   simp [M.spec_ZeroMask, zero_reg t7 e, t4]
  rw [hz] at e3
  try rw [hz]
 ·simp only [M.spec_l13Splits, M.splits, e, e3, Bool.true_and]
  have : ((M.topIns p x).B != M.topPc x + 1) = true := by simpa using e2
  rw [this]; rfl
 ·simp only [M.spec_l13Splits, M.splits, e3, Bool.false_and, Bool.and_false]
theorem wp.impl_Warp_splits.math (x : D.Warp) (p : List D.Ins) (h : M.impl_Warp_splits_pre x p) : wp.impl_Warp_splits x p (fun r => r = M.impl_Warp_splits x p) := by
 obtain ⟨t1, t2, t3, t4, t5, t6, t7, _⟩ := runs_top h
 have hL : M.Long x.Frames := by unfold M.Long; omega
 unfold wp.impl_Warp_splits
 rw [last_wrap (by omega)]
 change (_ ∧ _) ∧ (0 ≤ M.topPc x ∧ M.topPc x < _) ∧ bcase ((M.topIns p x).Op != 10) _ ((0 ≤ M.topPc x ∧ M.topPc x < _) ∧ bcase ((M.topIns p x).B == wrap .i64 (M.topPc x + 1)) _ ((0 ≤ M.topPc x ∧ M.topPc x < _) ∧ (M.impl_Warp_zeroMask_pre x (M.topIns p x).A ∧ ∀ r, r = M.impl_Warp_zeroMask x (M.topIns p x).A → bcase (r != 0) (M.impl_ActiveMask_pre x ∧ ∀ r49, r49 = M.impl_ActiveMask x → (r != r49) = _) _)))
 rw [w64 (x := M.topPc x + 1) (by omega) (by omega)]
 refine ⟨by omega, ⟨t5, t6⟩, bcase_mk (fun e => ?_) fun e => ⟨⟨t5, t6⟩, bcase_mk (fun e2 => ?_) fun e2 => ⟨⟨t5, t6⟩, ⟨hL, t4, zero_reg t7 (by simpa using e)⟩, fun r hr => bcase_mk (fun e3 => ⟨hL, fun r4 hr4 => ?_⟩) fun e3 => ?_⟩⟩⟩
 ·have e : ¬ (M.topIns p x).Op = 10 := by simpa using e
  simp [M.impl_Warp_splits, M.splits, e]
 ·have e2 : (M.topIns p x).B = M.topPc x + 1 := by simpa using e2
  simp [M.impl_Warp_splits, M.splits, e2]
 all_goals
  have e : (M.topIns p x).Op = 10 := by simpa using e
  have e2 : ¬ (M.topIns p x).B = M.topPc x + 1 := by simpa using e2
  have hz : r = M.zeroMask x (M.topIns p x).A := hr
  rw [hz] at e3
  try rw [hz]
 ·have hr4' : r4 = (M.lastF x.Frames).Mask := by rw [hr4]; exact activeMask_top h.2.2
  rw [hr4']
  simp only [M.impl_Warp_splits, M.splits, e, e3, Bool.true_and]
  have : ((M.topIns p x).B != M.topPc x + 1) = true := by simpa using e2
  rw [this]; rfl
 ·simp only [M.impl_Warp_splits, M.splits, e3, Bool.false_and, Bool.and_false]
theorem wp.spec_l13Local.math (p : List D.Ins) (x : D.Warp) (h : M.spec_l13Local_pre p x) : wp.spec_l13Local p x (fun r => r = M.spec_l13Local p x) := by
 unfold wp.spec_l13Local
 rw [empty_len0]
 refine bcase_mk (fun e => ?_) fun e => ?_
 ·simp [M.spec_l13Local, e]
 have hx : x.Frames ≠ [] := by simpa using e
 obtain ⟨t1, t2, t3, t4, t5, t6, t7, _⟩ := runs_top ⟨h.1, h.2, hx⟩
 rw [last_wrap (by omega)]
 refine ⟨by omega, ⟨t5, t6⟩, fun r hr => bcase_mk (fun e2 => ?_) fun e2 => ⟨⟨h.1, h.2, hx⟩, fun r2 hr2 => bcase_mk (fun e3 => ?_) fun e3 => ?_⟩⟩
 all_goals have hr' : r = M.isLocal (M.topIns p x) := hr
 ·have := nt e2 hr'
  simp [M.spec_l13Local, this]
 ·have := nt e3 (show r2 = M.splits p x from hr2)
  simp [M.spec_l13Local, e, nf e2 hr', this]
 ·have := nf e3 (show r2 = M.splits p x from hr2)
  simp only [M.spec_l13Local, e, nf e2 hr', this, Bool.not_false, Bool.not_true, Bool.true_and, Bool.false_or]
  congr 1; exact propext (by omega)
theorem has_runs {b : D.Block} {w : Int} (h : M.Has b w) (hx : (rd b.Warps w).Frames ≠ []) : M.Runs b.Code (rd b.Warps w) := by
 obtain ⟨_, _, hp, hw, _⟩ := has_warp h
 exact ⟨hp, hw, hx⟩
theorem one_len {α : Type} {l : List α} : ((l.length : Int) == 1) = (l.length == 1) := by
 rw [Bool.eq_iff_iff]; simp; omega
theorem wp.spec_l30Can.math (b : D.Block) (w : Int) (h : M.spec_l30Can_pre b w) : wp.spec_l30Can b w (fun r => r = M.spec_l30Can b w) := by
 obtain ⟨h0, h1, hp, hw, hn, hok⟩ := has_warp h
 unfold wp.spec_l30Can
 rw [empty_len0, one_len]
 refine ⟨⟨h0, h1⟩, bcase_mk (fun e => ?_) fun e => ⟨h0, bcase_mk (fun e2 => ?_) fun e2 => ?_⟩⟩
 ·simp [M.spec_l30Can, M.canGo, e]
 ·have : M.waits b w = true := e2
  simp [M.spec_l30Can, M.canGo, this]
 have hx : (rd b.Warps w).Frames ≠ [] := by simpa using e
 have e2 : M.waits b w = false := e2
 refine ⟨⟨h, hx⟩, fun r hr r2 hr2 => bcase_mk (fun e3 => ⟨⟨hp, hw⟩, fun r3 hr3 => ?_⟩) fun e3 => bcase_mk (fun e4 => ?_) fun e4 => ?_⟩
 all_goals
  have hr' : r = M.topIns b.Code (rd b.Warps w) := hr
  have hr2' : r2 = M.isLocal (M.topIns b.Code (rd b.Warps w)) := by rw [hr2, hr']; rfl
 ·have hl := hr2'.symm.trans e3
  rw [hr3]
  simp only [M.spec_l13Local, M.spec_l30Can, M.canGo, e, e2, hl, if_true, Bool.not_false, Bool.true_and]
 ·have hl := hr2'.symm.trans e3
  rw [hr'] at e4
  simp [M.spec_l30Can, M.canGo, e, e2, hl, e4]
 ·have hl := hr2'.symm.trans e3
  rw [hr'] at e4
  simp [M.spec_l30Can, M.canGo, e, e2, hl, e4]
theorem wp.impl_Block_canStep.math (b : D.Block) (w : Int) (h : M.impl_Block_canStep_pre b w) : wp.impl_Block_canStep b w (fun r => r = M.impl_Block_canStep b w) := by
 obtain ⟨h0, h1, hp, hw, hn, hok⟩ := has_warp h
 refine ⟨h, fun r hr => ?_⟩
 by_cases e : (rd b.Warps w).Frames.isEmpty = true
 ·have hr' : r = (⟨0, 0, 0, 0⟩, false) := by rw [hr]; simp [M.impl_Block_nextIns, e]
  rw [hr']
  unfold JoinP
  refine bcase_t rfl (bcase_t rfl ?_)
  simp [M.impl_Block_canStep, M.canGo, e]
 have e : (rd b.Warps w).Frames.isEmpty = false := by simpa using e
 have hx : (rd b.Warps w).Frames ≠ [] := by simpa using e
 have hr' : r = (M.topIns b.Code (rd b.Warps w), true) := by
  rw [hr]; simp only [M.impl_Block_nextIns]; rw [if_neg (by rw [e]; simp)]; rfl
 have hruns := has_runs h hx
 obtain ⟨t1, t2, t3, t4, t5, t6, t7, _⟩ := runs_top hruns
 rw [hr']
 unfold JoinP
 refine bcase_f rfl ⟨h0, fun r2 hr2 => ?_⟩
 have hr2' : r2 = M.waits b w := hr2
 refine bcase_mk (fun e2 => ?_) fun e2 => bcase_mk (fun e3 => ?_) fun e3 => ?_
 ·have := hr2'.symm.trans e2
  simp [M.impl_Block_canStep, M.canGo, this]
 ·have e2 := hr2'.symm.trans e2
  have e3 : (M.topIns b.Code (rd b.Warps w)).Op = 16 := by simpa using e3
  have hl : M.isLocal (M.topIns b.Code (rd b.Warps w)) = false := by simp [M.isLocal, M.isIn, e3]
  refine ⟨⟨h0, h1⟩, ?_⟩
  rw [one_len]
  simp only [M.impl_Block_canStep, M.canGo, e, e2, hl, e3, Bool.not_false, Bool.true_and, bne_self_eq_false, Bool.false_or, Bool.false_eq_true, if_false]
 ·have e2 := hr2'.symm.trans e2
  have e3 : ¬ (M.topIns b.Code (rd b.Warps w)).Op = 16 := by simpa using e3
  intro r3 hr3
  refine bcase_mk (fun e4 => ⟨⟨h0, h1⟩, hruns, fun r4 hr4 => bcase_mk (fun e5 => ?_) fun e5 => ⟨⟨h0, h1⟩, ?_⟩⟩) fun e4 => ?_
  ·have e4 := (show r3 = M.isLocal (M.topIns b.Code (rd b.Warps w)) from hr3).symm.trans e4
   have := nt e5 (show r4 = M.splits b.Code (rd b.Warps w) from hr4)
   simp [M.impl_Block_canStep, M.canGo, e, e2, e4, this]
  ·have e4 := (show r3 = M.isLocal (M.topIns b.Code (rd b.Warps w)) from hr3).symm.trans e4
   have := nf e5 (show r4 = M.splits b.Code (rd b.Warps w) from hr4)
   rw [w64 (by omega) (by omega)]
   simp only [M.impl_Block_canStep, M.canGo, e, e2, e4, this, Bool.not_false, Bool.not_true, Bool.true_and, Bool.false_or, if_true]
   congr 1; exact propext (by omega)
  ·have e4 := (show r3 = M.isLocal (M.topIns b.Code (rd b.Warps w)) from hr3).symm.trans e4
   simp [M.impl_Block_canStep, M.canGo, e, e2, e4, e3]
theorem good_count {b : D.Block} (h : M.Good b) : 1 ≤ b.Warps.length ∧ b.Warps.length ≤ 3 := by
 have := h.2
 simp only [M.blockOk, Bool.and_eq_true, M.isIn, decide_eq_true_eq] at this
 omega
theorem good_has {b : D.Block} (h : M.Good b) {w : Int} (h0 : 0 ≤ w) (h1 : w < (b.Warps.length : Int)) : M.Has b w := by
 have hc := good_count h
 refine ⟨h.1, ?_⟩
 simp only [M.hasWarp, h.2, Bool.true_and, M.isIn, last_wrap (n := b.Warps.length) (by omega), Bool.and_eq_true, decide_eq_true_eq]
 omega
theorem tmod_in2 {x n : Int} (hx : 0 ≤ x) (hn : 0 < n) : 0 ≤ Int.tmod x n ∧ Int.tmod x n < n :=
 ⟨Int.tmod_nonneg _ hx, Int.tmod_lt_of_pos _ hn⟩
theorem pick_loop {b : D.Block} (h : M.Good b) {q : Int} (h0 : 0 ≤ q) (hq : q ≤ 9223372036854775807) {B : (Int × Unit) → ((Int × Unit) → Prop) → Prop} {Q : Int → Prop} (hQ : Q (M.pick b q))
    (hb : ∀ (k : Nat) (next : (Int × Unit) → Prop), k < b.Warps.length → M.Has b (Int.tmod (Int.tmod q b.Warps.length + k) b.Warps.length) → (M.canGo b (Int.tmod (Int.tmod q b.Warps.length + k) b.Warps.length) = true → Q (Int.tmod (Int.tmod q b.Warps.length + k) b.Warps.length)) →
     (M.canGo b (Int.tmod (Int.tmod q b.Warps.length + k) b.Warps.length) = false → next (((k + 1 : Nat) : Int), ())) → wrap .i64 (Int.tmod q b.Warps.length + k) = Int.tmod q b.Warps.length + k → B ((k : Int), ()) next)
    (he : ∀ next : (Int × Unit) → Prop, Q (-1) → B ((b.Warps.length : Int), ()) next) : LoopP B (0, ()) := by
 have hc := good_count h
 have ht := tmod_in2 (x := q) (n := b.Warps.length) h0 (by omega)
 refine loop_n b.Warps.length (fun k => ((k : Int), ())) (fun k => M.pick b q = M.pickFrom b b.Warps.length (Int.tmod q b.Warps.length) (b.Warps.length - k) (k : Int)) rfl rfl (fun k hk hF next hn => ?_) fun hF next => ?_
 ·rw [show b.Warps.length - k = (b.Warps.length - (k + 1)) + 1 by omega, M.pickFrom] at hF
  have ht2 := tmod_in2 (x := Int.tmod q b.Warps.length + k) (n := b.Warps.length) (by omega) (by omega)
  refine hb k next hk (good_has h ht2.1 ht2.2) (fun e => ?_) (fun e => hn ?_) (w64 (by omega) (by omega))
  ·rw [if_pos e] at hF; rw [← hF]; exact hQ
  ·rw [if_neg (by rw [e]; simp)] at hF; rw [hF]; rfl
 ·refine he next ?_
  rw [Nat.sub_self, M.pickFrom] at hF
  rw [← hF]; exact hQ
theorem wp.spec_l32Pick.math (b : D.Block) (q : Int) (h : M.spec_l32Pick_pre b q) : wp.spec_l32Pick b q (fun r => r = M.spec_l32Pick b q) := by
 obtain ⟨hg, h0, hq⟩ := h
 have hc := good_count hg
 refine ⟨by omega, pick_loop hg h0 hq (Q := fun r => r = M.pick b q) rfl (fun k next hk hh h1 h2 hw => ?_) fun next hh => bcase_f (by simp) hh⟩
 refine bcase_t (by simp; omega) ⟨by omega, ?_⟩
 simp only [hw]
 refine ⟨hh, fun r hr => bcase_mk (fun e => h1 (hr.symm.trans e)) fun e => ?_⟩
 rw [up64 hk (by omega)]; exact h2 (hr.symm.trans e)
theorem wp.impl_Block_pickWarp.math (b : D.Block) (q : Int) (h : M.impl_Block_pickWarp_pre b q) : wp.impl_Block_pickWarp b q (fun r => r = M.impl_Block_pickWarp b q) := by
 obtain ⟨hg, h0, hq⟩ := h
 have hc := good_count hg
 refine pick_loop hg h0 hq (Q := fun r => r = M.pick b q) rfl (fun k next hk hh h1 h2 hw => ?_) fun next hh => bcase_f (by simp) hh
 refine bcase_t (by simp; omega) ⟨by omega, by omega, ?_⟩
 simp only [hw]
 refine ⟨hh, fun r hr => bcase_mk (fun e => h1 (hr.symm.trans e)) fun e => ?_⟩
 rw [up64 hk (by omega)]; exact h2 (hr.symm.trans e)
end Go.V
namespace Go.V
open IntKind (wrap)
def wp.spec_l08Others (xs0 : List Int) (x1 : Int) (Q : (List Int) → Prop) : Prop :=
 LoopP (σ := (List Int) × Int × Unit) (fun (p59 : (List Int) × Int × Unit) next31 => match p59 with | (xs24, i27, _) => bcase (decide (i27 < (xs0.length : Int))) (((0 ≤ i27 ∧ i27 < (xs0.length : Int)) ∧ bcase ((rd xs0 i27) != x1) (((0 ≤ i27 ∧ i27 < (xs0.length : Int)) ∧ ((xs24.length + ([(rd xs0 i27)] : List Int).length ≤ 17179869184) ∧ next31 ((xs24 ++ ([(rd xs0 i27)] : List Int)), (wrap .i64 (i27 + 1)), ())))) (next31 (xs24, (wrap .i64 (i27 + 1)), ())))) (Q xs24)) (([] : List Int), 0, ())
def wp.spec_l07Ok (xs0 : List D.Ins) (x1 : Int) (Q : Bool → Prop) : Prop :=
 (M.spec_ProgramOk_pre xs0 ∧ ∀ r21, r21 = M.spec_ProgramOk xs0 → bcase r21 ((∀ r26, r26 = M.spec_l01In x1 0 (xs0.length : Int) → Q r26)) (Q false))
def wp.spec_l04Put (xs0 : List Int) (x1 : Int) (Q : (List Int) → Prop) : Prop :=
 JoinP (σ := Int × Unit) (fun J22 => LoopP (σ := Int × Unit) (fun (p41 : Int × Unit) next29 => match p41 with | (i25, _) => bcase (decide (i25 > 0)) (((0 ≤ (wrap .i64 (i25 - 1)) ∧ (wrap .i64 (i25 - 1)) < (xs0.length : Int)) ∧ bcase (decide ((rd xs0 (wrap .i64 (i25 - 1))) > x1)) (next29 ((wrap .i64 (i25 - 1)), ())) (J22 (i25, ())))) (J22 (i25, ()))) ((xs0.length : Int), ())) (fun (p82 : Int × Unit) => match p82 with | (i21, _) => JoinP (σ := Unit) (fun J45 => bcase (decide (i21 > 0)) (((0 ≤ (wrap .i64 (i21 - 1)) ∧ (wrap .i64 (i21 - 1)) < (xs0.length : Int)) ∧ bcase ((rd xs0 (wrap .i64 (i21 - 1))) == x1) (Q xs0) (J45 (())))) (J45 (()))) (fun (p80 : Unit) => match p80 with | (_) => ((0 ≤ i21 ∧ i21 ≤ (xs0.length : Int)) ∧ ((([] : List Int).length + (List.take (i21.toNat) xs0).length ≤ 17179869184) ∧ (((([] : List Int) ++ (List.take (i21.toNat) xs0)).length + ([x1] : List Int).length ≤ 17179869184) ∧ ((0 ≤ i21 ∧ i21 ≤ (xs0.length : Int)) ∧ ((((([] : List Int) ++ (List.take (i21.toNat) xs0)) ++ ([x1] : List Int)).length + (List.drop (i21.toNat) xs0).length ≤ 17179869184) ∧ Q (((([] : List Int) ++ (List.take (i21.toNat) xs0)) ++ ([x1] : List Int)) ++ (List.drop (i21.toNat) xs0)))))))))
def wp.spec_l07Next (xs0 : List D.Ins) (x1 : Int) (Q : (List Int) → Prop) : Prop :=
 bcase (x1 == (xs0.length : Int)) (Q ([] : List Int)) (((0 ≤ x1 ∧ x1 < (xs0.length : Int)) ∧ bcase ((rd xs0 x1).Op == 12) (Q ([(xs0.length : Int)] : List Int)) (bcase ((rd xs0 x1).Op == 11) (((0 ≤ x1 ∧ x1 < (xs0.length : Int)) ∧ Q ([(rd xs0 x1).B] : List Int))) (bcase ((rd xs0 x1).Op == 10) (((0 ≤ x1 ∧ x1 < (xs0.length : Int)) ∧ (M.spec_l04Put_pre ([(wrap .i64 (x1 + 1))] : List Int) ((rd xs0 x1).B) ∧ ∀ r48, r48 = M.spec_l04Put ([(wrap .i64 (x1 + 1))] : List Int) ((rd xs0 x1).B) → Q r48))) (Q ([(wrap .i64 (x1 + 1))] : List Int))))))
def wp.spec_l07Reach (xs0 : List D.Ins) (xs1 : List Int) (Q : (List Bool) → Prop) : Prop :=
 ((0 ≤ (wrap .i64 ((xs0.length : Int) + 1)) ∧ (wrap .i64 ((xs0.length : Int) + 1)) ≤ 17179869184) ∧ ((([] : List Int).length + xs1.length ≤ 17179869184) ∧ LoopP (σ := (List Int) × (List Bool) × Unit) (fun (p127 : (List Int) × (List Bool) × Unit) next85 => match p127 with | (xs77, xs80, _) => bcase (decide ((xs77.length : Int) > 0)) (((0 ≤ (0 : Int) ∧ (0 : Int) < (xs77.length : Int)) ∧ ((0 ≤ (1 : Int) ∧ (1 : Int) ≤ (xs77.length : Int)) ∧ ((0 ≤ (rd xs77 0) ∧ (rd xs77 0) < (xs80.length : Int)) ∧ bcase (rd xs80 (rd xs77 0)) (next85 ((List.drop ((1 : Int).toNat) xs77), xs80, ())) (((0 ≤ (rd xs77 0) ∧ (rd xs77 0) < (xs80.length : Int)) ∧ (M.spec_l07Next_pre xs0 (rd xs77 0) ∧ ∀ r110, r110 = M.spec_l07Next xs0 (rd xs77 0) → (((List.drop ((1 : Int).toNat) xs77).length + r110.length ≤ 17179869184) ∧ next85 (((List.drop ((1 : Int).toNat) xs77) ++ r110), (List.set xs80 ((rd xs77 0).toNat) true), ()))))))))) (Q xs80)) ((([] : List Int) ++ xs1), (List.replicate ((wrap .i64 ((xs0.length : Int) + 1)).toNat) (default : Bool)), ())))
def wp.spec_ReachesExit (xs0 : List D.Ins) (x1 : Int) (Q : Bool → Prop) : Prop :=
 (M.spec_l07Ok_pre xs0 x1 ∧ ∀ r21, r21 = M.spec_l07Ok xs0 x1 → bcase r21 ((M.spec_l07Reach_pre xs0 ([x1] : List Int) ∧ ∀ r29, r29 = M.spec_l07Reach xs0 ([x1] : List Int) → ((0 ≤ (xs0.length : Int) ∧ (xs0.length : Int) < (r29.length : Int)) ∧ Q (rd r29 (xs0.length : Int))))) (Q false))
def wp.spec_l08After (xs0 : List D.Ins) (x1 : Int) (x2 : Int) (Q : Bool → Prop) : Prop :=
 bcase (x1 == x2) (Q true) (((0 ≤ (wrap .i64 ((xs0.length : Int) + 1)) ∧ (wrap .i64 ((xs0.length : Int) + 1)) ≤ 17179869184) ∧ LoopP (σ := (List Int) × (List Bool) × Unit) (fun (p130 : (List Int) × (List Bool) × Unit) next83 => match p130 with | (xs75, xs78, _) => bcase (decide ((xs75.length : Int) > 0)) (((0 ≤ (0 : Int) ∧ (0 : Int) < (xs75.length : Int)) ∧ ((0 ≤ (1 : Int) ∧ (1 : Int) ≤ (xs75.length : Int)) ∧ ((0 ≤ (rd xs75 0) ∧ (rd xs75 0) < (xs78.length : Int)) ∧ bcase (rd xs78 (rd xs75 0)) (next83 ((List.drop ((1 : Int).toNat) xs75), xs78, ())) (bcase ((rd xs75 0) == x2) (next83 ((List.drop ((1 : Int).toNat) xs75), xs78, ())) (bcase ((rd xs75 0) == (xs0.length : Int)) (Q false) (((0 ≤ (rd xs75 0) ∧ (rd xs75 0) < (xs78.length : Int)) ∧ (M.spec_l07Next_pre xs0 (rd xs75 0) ∧ ∀ r111, r111 = M.spec_l07Next xs0 (rd xs75 0) → (((List.drop ((1 : Int).toNat) xs75).length + r111.length ≤ 17179869184) ∧ next83 (((List.drop ((1 : Int).toNat) xs75) ++ r111), (List.set xs78 ((rd xs75 0).toNat) true), ()))))))))))) (Q true)) (([x1] : List Int), (List.replicate ((wrap .i64 ((xs0.length : Int) + 1)).toNat) (default : Bool)), ())))
def wp.spec_AftersOf (xs0 : List D.Ins) (x1 : Int) (Q : (List Int) → Prop) : Prop :=
 (M.spec_ReachesExit_pre xs0 x1 ∧ ∀ r24, r24 = M.spec_ReachesExit xs0 x1 → bcase (!r24) (Q ([] : List Int)) (LoopP (σ := (List Int) × Int × Unit) (fun (p59 : (List Int) × Int × Unit) next36 => match p59 with | (xs29, i32, _) => bcase (decide (i32 ≤ (xs0.length : Int))) ((M.spec_l08After_pre xs0 x1 i32 ∧ ∀ r38, r38 = M.spec_l08After xs0 x1 i32 → bcase r38 (((xs29.length + ([i32] : List Int).length ≤ 17179869184) ∧ next36 ((xs29 ++ ([i32] : List Int)), (wrap .i64 (i32 + 1)), ()))) (next36 (xs29, (wrap .i64 (i32 + 1)), ())))) (Q xs29)) (([] : List Int), 0, ())))
def wp.spec_l08First (xs0 : List D.Ins) (xs1 : List Int) (Q : Int → Prop) : Prop :=
 LoopP (σ := Int × Unit) (fun (p72 : Int × Unit) next25 => match p72 with | (i21, _) => bcase (decide (i21 < (xs1.length : Int))) (LoopP (σ := Bool × Int × Unit) (fun (p67 : Bool × Int × Unit) next32 => match p67 with | (b27, i28, _) => bcase (decide (i28 < (xs1.length : Int))) (bcase b27 (((0 ≤ i21 ∧ i21 < (xs1.length : Int)) ∧ ((0 ≤ i28 ∧ i28 < (xs1.length : Int)) ∧ (M.spec_l08After_pre xs0 (rd xs1 i21) (rd xs1 i28) ∧ ∀ r45, r45 = M.spec_l08After xs0 (rd xs1 i21) (rd xs1 i28) → next32 (r45, (wrap .i64 (i28 + 1)), ()))))) (next32 (false, (wrap .i64 (i28 + 1)), ()))) (bcase b27 (((0 ≤ i21 ∧ i21 < (xs1.length : Int)) ∧ Q (rd xs1 i21))) (next25 ((wrap .i64 (i21 + 1)), ())))) (true, 0, ())) (Q (-1))) (0, ())
def wp.spec_FirstAfter (xs0 : List D.Ins) (x1 : Int) (Q : Int → Prop) : Prop :=
 (M.spec_AftersOf_pre xs0 x1 ∧ ∀ r21, r21 = M.spec_AftersOf xs0 x1 → (M.spec_l08Others_pre r21 x1 ∧ ∀ r28, r28 = M.spec_l08Others r21 x1 → (M.spec_l08First_pre xs0 r28 ∧ ∀ r35, r35 = M.spec_l08First xs0 r28 → Q r35)))
def wp.spec_l09Join (xs0 : List D.Ins) (x1 : Int) (Q : Int → Prop) : Prop :=
 (M.spec_ReachesExit_pre xs0 (wrap .i64 (x1 + 1)) ∧ ∀ r21, r21 = M.spec_ReachesExit xs0 (wrap .i64 (x1 + 1)) → bcase (!r21) (Q (xs0.length : Int)) (((0 ≤ x1 ∧ x1 < (xs0.length : Int)) ∧ (M.spec_ReachesExit_pre xs0 ((rd xs0 x1).B) ∧ ∀ r31, r31 = M.spec_ReachesExit xs0 ((rd xs0 x1).B) → bcase (!r31) (Q (xs0.length : Int)) ((M.spec_FirstAfter_pre xs0 x1 ∧ ∀ r36, r36 = M.spec_FirstAfter xs0 x1 → Q r36))))))
end Go.V
namespace Go.V
open IntKind (wrap)
theorem mem_idx {g : Int → Bool} {x : Int} : ∀ {n : Nat}, x ∈ M.idx g n ↔ ∃ k : Nat, k < n ∧ x = (k : Int) ∧ g x = true
 | 0 => by simp [M.idx]
 | n + 1 => by
  have ih := mem_idx (g := g) (x := x) (n := n)
  unfold M.idx
  constructor
  ·intro h
   split at h
   ·rename_i e
    rcases List.mem_append.1 h with h | h
    ·obtain ⟨k, hk, h1, h2⟩ := ih.1 h; exact ⟨k, by omega, h1, h2⟩
    ·obtain rfl := List.mem_singleton.1 h; exact ⟨n, by omega, rfl, e⟩
   ·obtain ⟨k, hk, h1, h2⟩ := ih.1 h; exact ⟨k, by omega, h1, h2⟩
  ·rintro ⟨k, hk, rfl, h2⟩
   by_cases hkn : k = n
   ·subst hkn; rw [if_pos h2]; simp
   ·have := ih.2 ⟨k, by omega, rfl, h2⟩
    split
    ·exact List.mem_append_left _ this
    ·exact this
theorem idx_len (g : Int → Bool) : ∀ n, (M.idx g n).length ≤ n
 | 0 => by simp [M.idx]
 | n + 1 => by
  have := idx_len g n
  unfold M.idx
  split <;> simp <;> omega
theorem idx_loop {n : Nat} {g : Int → Bool} {B : (List Int × Int × Unit) → ((List Int × Int × Unit) → Prop) → Prop}
    (hb : ∀ (k : Nat) (xs : List Int) (next : (List Int × Int × Unit) → Prop), k < n → xs = M.idx g k → xs.length ≤ k → (g (k : Int) = true → next (xs ++ [(k : Int)], ((k + 1 : Nat) : Int), ())) → (g (k : Int) = false → next (xs, ((k + 1 : Nat) : Int), ())) → B (xs, (k : Int), ()) next)
    (he : ∀ next : (List Int × Int × Unit) → Prop, B (M.idx g n, (n : Int), ()) next) : LoopP B ([], 0, ()) := by
 refine loop_n n (fun k => (M.idx g k, (k : Int), ())) (fun _ => True) rfl trivial (fun k hk _ next hn => ?_) fun _ next => he next
 have hn := hn trivial
 unfold M.idx at hn
 exact hb k _ next hk rfl (idx_len g k) (fun e => by rwa [if_pos e] at hn) fun e => by rwa [if_neg (by rw [e]; simp)] at hn
theorem nodeOk {p : List D.Ins} (hp : M.programOk p = true) {k : Int} (h0 : 0 ≤ k) (h1 : k < (p.length : Int)) : M.insOk (rd p k) p.length = true := by
 simp only [M.programOk, Bool.and_eq_true, decide_eq_true_eq, List.all_eq_true] at hp
 exact hp.2 _ (rd_of h0 h1)
theorem progLen {p : List D.Ins} (hp : M.programOk p = true) : p.length ≤ 32 := by
 simp only [M.programOk, Bool.and_eq_true, decide_eq_true_eq] at hp
 exact hp.1
theorem target_in {i : D.Ins} {n : Int} (h : M.insOk i n = true) (e : i.Op = 10 ∨ i.Op = 11) : 0 ≤ i.B ∧ i.B ≤ n := by
 simp only [M.insOk, Bool.and_eq_true] at h
 have h := h.2
 rcases e with e | e
 ·rw [if_neg (by omega), if_neg (by omega), if_neg (by omega), if_neg (by omega), if_pos e] at h
  simp only [Bool.and_eq_true, M.isIn, decide_eq_true_eq] at h
  exact h.2.1
 ·rw [if_neg (by omega), if_neg (by omega), if_neg (by omega), if_neg (by omega), if_neg (by omega), if_pos e] at h
  simp only [Bool.and_eq_true, M.isIn, decide_eq_true_eq] at h
  exact h.2.1
theorem putTwo_mem {a b x : Int} : x ∈ M.putTwo a b ↔ x = a ∨ x = b := by
 unfold M.putTwo
 split
 ·simp [or_comm]
 split
 ·rename_i h1 h2; subst h2; simp
 ·simp
theorem putTwo_len (a b : Int) : (M.putTwo a b).length ≤ 2 := by
 unfold M.putTwo
 (repeat' split) <;> simp
theorem next_ok {p : List D.Ins} {k : Int} (h : M.Node p k) : (∀ x ∈ M.nextOf p k, M.nodeIn p x) ∧ (M.nextOf p k).length ≤ 2 := by
 obtain ⟨hp, h0, h1⟩ := h
 unfold M.nextOf
 split
 ·exact ⟨fun x hx => absurd hx List.not_mem_nil, by simp⟩
 rename_i hne
 have hlt : k < (p.length : Int) := by omega
 have hi := nodeOk hp h0 hlt
 split
 ·exact ⟨fun x hx => by obtain rfl := List.mem_singleton.1 hx; exact ⟨by omega, by omega⟩, by simp⟩
 split
 ·rename_i e
  exact ⟨fun x hx => by obtain rfl := List.mem_singleton.1 hx; exact target_in hi (.inr e), by simp⟩
 split
 ·rename_i e
  refine ⟨fun x hx => ?_, putTwo_len _ _⟩
  rcases putTwo_mem.1 hx with rfl | rfl
  ·exact ⟨by omega, by omega⟩
  ·exact target_in hi (.inl e)
 ·exact ⟨fun x hx => by obtain rfl := List.mem_singleton.1 hx; exact ⟨by omega, by omega⟩, by simp⟩
def falses (l : List Bool) : Nat := l.count false
theorem falses_set : ∀ {l : List Bool} {k : Nat}, k < l.length → l[k]? = some false → falses (l.set k true) + 1 = falses l
 | [], k, hk, _ => absurd hk (by simp)
 | b :: l, 0, hk, h => by
  simp at h; subst h
  simp [falses]
 | b :: l, k + 1, hk, h => by
  have := falses_set (l := l) (k := k) (by simpa using hk) (by simpa using h)
  unfold falses at *
  simp only [List.set_cons_succ, List.count_cons]
  omega
theorem rdB {l : List Bool} {k : Int} (h0 : 0 ≤ k) (h1 : k < (l.length : Int)) : l[k.toNat]? = some (rd l k) := by
 have : k.toNat < l.length := by omega
 simp [rd, List.getD_eq_getElem?_getD, this]
theorem rd_setB {l : List Bool} {k j : Int} (h0 : 0 ≤ k) (h1 : k < (l.length : Int)) (hj : 0 ≤ j) : rd (l.set k.toNat true) j = if j = k then true else rd l j := by
 unfold rd
 rw [List.getD_eq_getElem?_getD, List.getD_eq_getElem?_getD, List.getElem?_set]
 by_cases e : j = k
 ·subst e
  have : j.toNat < l.length := by omega
  simp [this]
 ·have : ¬ k.toNat = j.toNat := by omega
  rw [if_neg this, if_neg e]
theorem bfs_len (p : List D.Ins) (wo : Int) : ∀ (f : Nat) (work : List Int) (seen : List Bool), (M.bfs p wo f work seen).length = seen.length
 | 0, _, _ => rfl
 | f + 1, [], _ => rfl
 | f + 1, k :: work, seen => by
  unfold M.bfs
  split
  ·exact bfs_len p wo f _ _
  ·rw [bfs_len p wo f]; simp
theorem bfs_mono (p : List D.Ins) (wo : Int) {j : Int} (hj : 0 ≤ j) : ∀ (f : Nat) (work : List Int) (seen : List Bool), (∀ x ∈ work, M.Node p x) → seen.length = p.length + 1 → rd seen j = true → rd (M.bfs p wo f work seen) j = true
 | 0, _, _, _, _, h => h
 | f + 1, [], _, _, _, h => h
 | f + 1, k :: work, seen, hw, hl, h => by
  have hk := hw k List.mem_cons_self
  have hr : ∀ x ∈ work, M.Node p x := fun x hx => hw x (List.mem_cons_of_mem _ hx)
  unfold M.bfs
  split
  ·exact bfs_mono p wo hj f _ _ hr hl h
  ·refine bfs_mono p wo hj f _ _ (fun x hx => (List.mem_append.1 hx).elim (hr x) fun h' => ⟨hk.1, (next_ok hk).1 x h'⟩) (by simpa using hl) ?_
   have hk2 := hk.2
   unfold M.nodeIn at hk2
   rw [rd_setB hk2.1 (by omega) hj]
   split
   ·rfl
   ·exact h
theorem bfs_loop {p : List D.Ins} {wo : Int} {I : List Bool → Prop} {B : (List Int × List Bool × Unit) → ((List Int × List Bool × Unit) → Prop) → Prop} {work0 : List Int} {seen0 R : List Bool} {fuel : Nat}
    (hs : M.Starts p work0) (hl0 : seen0.length = p.length + 1) (hI0 : I seen0) (hR : M.bfs p wo fuel work0 seen0 = R) (hf : 3 * falses seen0 + work0.length ≤ fuel)
    (hb0 : ∀ (k : Int) (rest : List Int) (seen : List Bool) (next : (List Int × List Bool × Unit) → Prop), M.Node p k → seen.length = p.length + 1 → I seen → (k = wo ∨ rd seen k = true) → next (rest, seen, ()) → B (k :: rest, seen, ()) next)
    (hb1 : ∀ (k : Int) (rest : List Int) (seen : List Bool) (next : (List Int × List Bool × Unit) → Prop), M.Node p k → seen.length = p.length + 1 → I seen → ¬ k = wo → rd seen k = false → rd R k = true → rest.length + (M.nextOf p k).length ≤ 17179869184 → (I (seen.set k.toNat true) → next (rest ++ M.nextOf p k, seen.set k.toNat true, ())) → B (k :: rest, seen, ()) next)
    (he : ∀ (next : (List Int × List Bool × Unit) → Prop), I R → B ([], R, ()) next) : LoopP B (work0, seen0, ()) := by
 obtain ⟨hp, hw, h4⟩ := hs
 have h32 := progLen hp
 have hc0 : falses seen0 ≤ p.length + 1 := by unfold falses; rw [← hl0]; exact List.count_le_length
 refine ⟨fun m z => ∃ work seen f, z = (work, seen, ()) ∧ m = 3 * falses seen + work.length ∧ m ≤ f ∧ M.bfs p wo f work seen = R ∧ seen.length = p.length + 1 ∧ (∀ x ∈ work, M.Node p x) ∧ m ≤ 200 ∧ I seen,
  ⟨_, work0, seen0, fuel, rfl, rfl, hf, hR, hl0, fun x hx => ⟨hp, hw x hx⟩, by omega, hI0⟩, ?_⟩
 rintro m z ⟨work, seen, f, rfl, rfl, hmf, hbf, hl, hwk, hm, hI⟩
 cases work with
 | nil =>
  have : seen = R := by
   cases f with
   | zero => exact hbf
   | succ f => exact hbf
  subst this
  exact he _ hI
 | cons k rest =>
  have hk := hwk k List.mem_cons_self
  have hr : ∀ x ∈ rest, M.Node p x := fun x hx => hwk x (List.mem_cons_of_mem _ hx)
  cases f with
  | zero => simp at hmf
  | succ f =>
   by_cases hc : k = wo ∨ rd seen k = true
   ·refine hb0 k rest seen _ hk hl hI hc ⟨_, ?_, rest, seen, f, rfl, rfl, ?_, ?_, hl, hr, ?_, hI⟩
    ·simp
    ·simp at hmf; omega
    ·rw [M.bfs, if_pos hc] at hbf; exact hbf
    ·simp at hm; omega
   ·have h1 : ¬ k = wo := fun e => hc (.inl e)
    have h2 : rd seen k = false := by simpa using fun e => hc (.inr e)
    have hk2 := hk.2
    unfold M.nodeIn at hk2
    have hn := next_ok hk
    have hfs := falses_set (l := seen) (k := k.toNat) (by omega) (by rw [rdB hk2.1 (by omega), h2])
    rw [M.bfs, if_neg hc] at hbf
    have hw' : ∀ x ∈ rest ++ M.nextOf p k, M.Node p x := fun x hx => (List.mem_append.1 hx).elim (hr x) fun h' => ⟨hk.1, hn.1 x h'⟩
    have hR' : rd R k = true := by
     rw [← hbf]
     refine bfs_mono p wo hk2.1 f _ _ hw' (by simpa using hl) ?_
     rw [rd_setB hk2.1 (by omega) hk2.1, if_pos rfl]
    refine hb1 k rest seen _ hk hl hI h1 h2 hR' ?_ fun hI' => ⟨_, ?_, _, _, f, rfl, rfl, ?_, hbf, by simpa using hl, hw', ?_, hI'⟩
    ·simp at hm; omega
    ·simp only [List.length_append, List.length_cons]; omega
    ·simp only [List.length_append, List.length_cons] at *; omega
    ·simp only [List.length_append, List.length_cons] at *; omega
theorem seen0_len (n : Nat) : (List.replicate (n + 1) false).length = n + 1 := by simp
theorem seen0_falses (n : Nat) : falses (List.replicate (n + 1) false) = n + 1 := by simp [falses]
theorem seen0_rd (n : Nat) (k : Int) : rd (List.replicate (n + 1) false) k = false := by
 unfold rd
 rw [List.getD_eq_getElem?_getD, List.getElem?_replicate]
 split <;> rfl
inductive Rch (p : List D.Ins) (wo : Int) (frm : List Int) : Int → Prop
 | base {s : Int} : s ∈ frm → s ≠ wo → Rch p wo frm s
 | step {k s : Int} : Rch p wo frm k → s ∈ M.nextOf p k → s ≠ wo → Rch p wo frm s
theorem bfs_sound {p : List D.Ins} {wo : Int} {frm : List Int} : ∀ (f : Nat) (work : List Int) (seen : List Bool), (∀ x ∈ work, M.Node p x) → seen.length = p.length + 1 → (∀ x ∈ work, x = wo ∨ Rch p wo frm x) → (∀ x, 0 ≤ x → rd seen x = true → Rch p wo frm x) →
    ∀ x, 0 ≤ x → rd (M.bfs p wo f work seen) x = true → Rch p wo frm x
 | 0, _, _, _, _, _, h => h
 | f + 1, [], _, _, _, _, h => h
 | f + 1, k :: work, seen, hw, hl, hwr, h => by
  have hk := hw k List.mem_cons_self
  have hk2 := hk.2
  unfold M.nodeIn at hk2
  have hr : ∀ x ∈ work, M.Node p x := fun x hx => hw x (List.mem_cons_of_mem _ hx)
  have hwr' : ∀ x ∈ work, x = wo ∨ Rch p wo frm x := fun x hx => hwr x (List.mem_cons_of_mem _ hx)
  unfold M.bfs
  split
  ·exact bfs_sound f work seen hr hl hwr' h
  ·rename_i hc
   have hkR : Rch p wo frm k := (hwr k List.mem_cons_self).resolve_left fun e => hc (.inl e)
   refine bfs_sound f _ _ (fun x hx => (List.mem_append.1 hx).elim (hr x) fun h' => ⟨hk.1, (next_ok hk).1 x h'⟩) (by simpa using hl) (fun x hx => (List.mem_append.1 hx).elim (hwr' x) fun h' => ?_) fun x hx hs => ?_
   ·by_cases e : x = wo
    ·exact .inl e
    ·exact .inr (.step hkR h' e)
   ·rw [rd_setB hk2.1 (by omega) hx] at hs
    split at hs
    ·rename_i e; rw [e]; exact hkR
    ·exact h x hx hs
def Closed (p : List D.Ins) (wo : Int) (frm work : List Int) (seen : List Bool) : Prop :=
 (∀ s ∈ frm, s ≠ wo → rd seen s = true ∨ s ∈ work) ∧ ∀ k, M.nodeIn p k → rd seen k = true → ∀ s ∈ M.nextOf p k, s ≠ wo → rd seen s = true ∨ s ∈ work
theorem bfs_closed {p : List D.Ins} {wo : Int} {frm : List Int} : ∀ (f : Nat) (work : List Int) (seen : List Bool), (∀ x ∈ work, M.Node p x) → (∀ x ∈ frm, M.nodeIn p x) → seen.length = p.length + 1 → 3 * falses seen + work.length ≤ f → Closed p wo frm work seen → Closed p wo frm [] (M.bfs p wo f work seen)
 | 0, work, seen, _, _, _, hf, hc => by
  have : work = [] := List.eq_nil_of_length_eq_zero (by omega)
  subst this; exact hc
 | f + 1, [], seen, _, _, _, _, hc => hc
 | f + 1, k :: work, seen, hw, hfr, hl, hf, hc => by
  have hk := hw k List.mem_cons_self
  have hk2 := hk.2
  have hk3 := hk.2
  unfold M.nodeIn at hk2
  have hr : ∀ x ∈ work, M.Node p x := fun x hx => hw x (List.mem_cons_of_mem _ hx)
  simp only [List.length_cons] at hf
  obtain ⟨c1, c2⟩ := hc
  unfold M.bfs
  split
  ·rename_i hd
   have drop : ∀ s, s ≠ wo → (rd seen s = true ∨ s ∈ k :: work) → rd seen s = true ∨ s ∈ work := by
    intro s hs h
    rcases h with h | h
    ·exact .inl h
    rcases List.mem_cons.1 h with rfl | h
    ·exact .inl (hd.resolve_left hs)
    ·exact .inr h
   exact bfs_closed f work seen hr hfr hl (by omega) ⟨fun s hs hne => drop s hne (c1 s hs hne), fun j hj hsj s hs hne => drop s hne (c2 j hj hsj s hs hne)⟩
  ·rename_i hd
   have h2 : rd seen k = false := by simpa using fun e => hd (.inr e)
   have hfs := falses_set (l := seen) (k := k.toNat) (by omega) (by rw [rdB hk2.1 (by omega), h2])
   have hn := next_ok hk
   have up : ∀ s, M.nodeIn p s → (rd seen s = true ∨ s ∈ k :: work) → rd (seen.set k.toNat true) s = true ∨ s ∈ work ++ M.nextOf p k := by
    intro s hs h
    have hs2 := hs
    unfold M.nodeIn at hs2
    rw [rd_setB hk2.1 (by omega) hs2.1]
    rcases h with h | h
    ·left; split; rfl; exact h
    rcases List.mem_cons.1 h with rfl | h
    ·left; rw [if_pos rfl]
    ·exact .inr (List.mem_append_left _ h)
   refine bfs_closed f _ _ (fun x hx => (List.mem_append.1 hx).elim (hr x) fun h' => ⟨hk.1, hn.1 x h'⟩) hfr (by simpa using hl) (by simp only [List.length_append]; omega)
    ⟨fun s hs hne => up s (hfr s hs) (c1 s hs hne), fun j hj hsj s hs hne => ?_⟩
   have hj2 := hj
   unfold M.nodeIn at hj2
   rw [rd_setB hk2.1 (by omega) hj2.1] at hsj
   split at hsj
   ·rename_i e; subst e
    exact .inr (List.mem_append_right _ hs)
   ·exact up s ((next_ok ⟨hk.1, hj⟩).1 s hs) (c2 j hj hsj s hs hne)
theorem rch_node {p : List D.Ins} {wo : Int} {frm : List Int} (hp : M.programOk p = true) (hf : ∀ x ∈ frm, M.nodeIn p x) {x : Int} (h : Rch p wo frm x) : M.nodeIn p x := by
 induction h with
 | base h _ => exact hf _ h
 | step _ hs _ ih => exact (next_ok ⟨hp, ih⟩).1 _ hs
theorem reached_iff {p : List D.Ins} {wo : Int} {frm : List Int} (hp : M.programOk p = true) (hf : ∀ x ∈ frm, M.nodeIn p x) {x : Int} (hx : M.nodeIn p x) : rd (M.reached p frm wo) x = true ↔ Rch p wo frm x := by
 constructor
 ·intro h
  refine bfs_sound (frm := frm) _ frm _ (fun y hy => ⟨hp, hf y hy⟩) (seen0_len _) (fun y hy => ?_) (fun y _ hs => by rw [seen0_rd] at hs; cases hs) x hx.1 h
  by_cases e : y = wo
  ·exact .inl e
  ·exact .inr (.base hy e)
 ·intro h
  have hc := bfs_closed (p := p) (wo := wo) (frm := frm) (3 * (p.length + 1) + frm.length) frm (List.replicate (p.length + 1) false) (fun y hy => ⟨hp, hf y hy⟩) hf (seen0_len _) (by rw [seen0_falses]; omega)
   ⟨fun s hs _ => .inr hs, fun k _ hs => by rw [seen0_rd] at hs; cases hs⟩
  clear hx
  induction h with
  | base h hne => exact (hc.1 _ h hne).resolve_right List.not_mem_nil
  | step hk hs hne ih => exact (hc.2 _ (rch_node hp hf hk) ih _ hs hne).resolve_right List.not_mem_nil
theorem reached_len (p : List D.Ins) (frm : List Int) (wo : Int) : (M.reached p frm wo).length = p.length + 1 := by
 unfold M.reached; rw [bfs_len]; simp
theorem after_exits {p : List D.Ins} {k later : Int} (h : M.Node p k) (hl : M.nodeIn p later) (h1 : M.exitB p k = true) (h2 : M.afterB p k later = true) : M.exitB p later = true := by
 obtain ⟨hp, hk⟩ := h
 have hn : M.nodeIn p (p.length : Int) := ⟨by omega, by omega⟩
 have one : ∀ z, M.nodeIn p z → ∀ x ∈ [z], M.nodeIn p x := fun z hz x hx => by obtain rfl := List.mem_singleton.1 hx; exact hz
 have r1 := (reached_iff hp (one k hk) hn).1 h1
 have r2 : ¬ Rch p later [k] (p.length : Int) := fun hr => by
  have := (reached_iff hp (one k hk) hn).2 hr
  unfold M.afterB at h2
  rw [this] at h2; cases h2
 have hl1 : later ≠ -1 := by have := hl.1; omega
 have key : ∀ x, Rch p (-1) [k] x → Rch p later [k] x ∨ Rch p (-1) [later] x := by
  intro x hx
  induction hx with
  | @base s hs hne =>
   by_cases e : s = later
   ·exact .inr (.base (by simp [e]) hne)
   ·exact .inl (.base hs e)
  | @step j s _ hs hne ih =>
   rcases ih with ih | ih
   ·by_cases e : s = later
    ·exact .inr (.base (by simp [e]) hne)
    ·exact .inl (.step ih hs e)
   ·exact .inr (.step ih hs hne)
 exact (reached_iff hp (one later hl) hn).2 ((key _ r1).resolve_left r2)
theorem small64 {p : List D.Ins} (h : M.PSmall p) : wrap .i64 ((p.length : Int) + 1) = ((p.length + 1 : Nat) : Int) := by
 unfold M.PSmall at h
 rw [w64 (by omega) (by omega)]; push_cast; rfl
theorem prog_small {p : List D.Ins} (hp : M.programOk p = true) : M.PSmall p := by have := progLen hp; unfold M.PSmall; omega
theorem small_longP {p : List D.Ins} (h : M.PSmall p) : M.Long p := by unfold M.PSmall at h; unfold M.Long; omega
theorem filter_take {l : List Int} {g : Int → Bool} {k : Nat} (hk : k < l.length) : (l.take (k + 1)).filter g = if g (rd l (k : Int)) then (l.take k).filter g ++ [rd l (k : Int)] else (l.take k).filter g := by
 rw [List.take_add_one, List.getElem?_eq_getElem hk, rd_nat hk, List.filter_append]
 by_cases e : g l[k] = true
 ·simp [e]
 ·simp [e]
theorem wp.spec_l08Others.math (l : List Int) (n : Int) (h : M.spec_l08Others_pre l n) : wp.spec_l08Others l n (fun r => r = M.spec_l08Others l n) := by
 have hl : l.length ≤ 17179869183 := h
 refine loop_n l.length (fun k => ((l.take k).filter (fun x => x != n), (k : Int), ())) (fun _ => True) rfl trivial (fun k hk _ next hn => ?_) fun _ next => ?_
 ·have hn := hn trivial
  rw [filter_take hk] at hn
  have hle := List.length_filter_le (fun x => x != n) (l.take k)
  have hle2 : (l.take k).length ≤ k := by simp; omega
  refine bcase_t (by simp; omega) ⟨by omega, bcase_mk (fun e => ⟨by omega, ?_, ?_⟩) fun e => ?_⟩
  ·simp only [List.length_singleton]; omega
  ·rw [if_pos e] at hn; rw [up64 hk (by omega)]; exact hn
  ·rw [if_neg (by rw [e]; simp)] at hn; rw [up64 hk (by omega)]; exact hn
 ·refine bcase_f (by simp) ?_
  rw [List.take_length]; rfl
theorem wp.spec_l07Ok.math (p : List D.Ins) (k : Int) (h : M.spec_l07Ok_pre p k) : wp.spec_l07Ok p k (fun r => r = M.spec_l07Ok p k) := by
 refine ⟨small_longP h, fun r hr => bcase_mk (fun e r2 hr2 => ?_) fun e => ?_⟩
 all_goals have hr' : r = M.programOk p := hr
 ·rw [hr2]; simp [M.spec_l07Ok, M.isNode, ← hr', e, M.spec_l01In]
 ·simp [M.spec_l07Ok, M.isNode, ← hr', e]
theorem putAt_le (l : List Int) (n : Int) : ∀ k, M.putAt l n k ≤ k
 | 0 => Nat.le_refl _
 | k + 1 => by
  unfold M.putAt
  split
  ·have := putAt_le l n k; omega
  ·exact Nat.le_refl _
theorem joinP_of19 {σ : Type} {A : (σ → Prop) → Prop} {B : σ → Prop} (v : σ) (h : B v) (hA : ∀ J : σ → Prop, J v → A J) : JoinP A B := hA B h
theorem wp.spec_l04Put.math (l : List Int) (n : Int) (h : M.spec_l04Put_pre l n) : wp.spec_l04Put l n (fun r => r = M.spec_l04Put l n) := by
 have hl : l.length ≤ 17179869183 := h
 have hle := putAt_le l n l.length
 have wd : ∀ k : Nat, 0 < k → k ≤ l.length → wrap .i64 ((k : Int) - 1) = ((k - 1 : Nat) : Int) := fun k h0 hk => by rw [w64 (by omega) (by omega)]; omega
 refine joinP_of19 (((M.putAt l n l.length : Nat) : Int), ()) ?_ fun J hJ => ?_
 ·generalize hq : M.putAt l n l.length = q at *
  have hd : ((q : Int)).toNat = q := by simp
  have tail : ¬ (q > 0 ∧ rd l ((q : Int) - 1) = n) → (0 ≤ (q : Int) ∧ (q : Int) ≤ (l.length : Int)) ∧ (([] : List Int).length + (List.take ((q : Int).toNat) l).length ≤ 17179869184) ∧ ((([] : List Int) ++ List.take ((q : Int).toNat) l).length + ([n] : List Int).length ≤ 17179869184) ∧ (0 ≤ (q : Int) ∧ (q : Int) ≤ (l.length : Int)) ∧ (((([] : List Int) ++ List.take ((q : Int).toNat) l) ++ [n]).length + (List.drop ((q : Int).toNat) l).length ≤ 17179869184) ∧ ((([] : List Int) ++ List.take ((q : Int).toNat) l) ++ [n]) ++ List.drop ((q : Int).toNat) l = M.spec_l04Put l n := by
   intro hn
   rw [hd]
   refine ⟨by omega, by simp; omega, by simp; omega, by omega, by simp; omega, ?_⟩
   simp only [M.spec_l04Put, hq]
   rw [if_neg hn]; simp
  show JoinP (σ := Unit) _ _
  refine bcase_mk (fun e => ⟨?_, bcase_mk (fun e2 => ?_) fun e2 => ?_⟩) fun e => ?_
  ·have e : q > 0 := by simp at e; omega
   rw [wd q e hle]; omega
  ·have e : q > 0 := by simp at e; omega
   rw [wd q e hle] at e2
   have e2 : rd l ((q : Int) - 1) = n := by rw [show (q : Int) - 1 = ((q - 1 : Nat) : Int) by omega]; simpa using e2
   simp only [M.spec_l04Put, hq]
   rw [if_pos ⟨e, e2⟩]
  ·have e : q > 0 := by simp at e; omega
   rw [wd q e hle] at e2
   refine tail fun hh => ?_
   rw [show (q : Int) - 1 = ((q - 1 : Nat) : Int) by omega] at hh
   have := hh.2
   simp [this] at e2
  ·have e : ¬ q > 0 := by simp at e; omega
   exact tail fun hh => e hh.1
 ·refine ⟨fun m z => ∃ k : Nat, z = ((k : Int), ()) ∧ m = k ∧ k ≤ l.length ∧ M.putAt l n k = M.putAt l n l.length, ⟨l.length, l.length, rfl, rfl, Nat.le_refl _, rfl⟩, ?_⟩
  rintro k z ⟨_, rfl, rfl, hk, hput⟩
  refine bcase_mk (fun e => ⟨?_, bcase_mk (fun e2 => ?_) fun e2 => ?_⟩) fun e => ?_
  ·have e : k > 0 := by simp at e; omega
   rw [wd k e hk]; omega
  ·have e : k > 0 := by simp at e; omega
   rw [wd k e hk] at e2 ⊢
   refine ⟨k - 1, by omega, k - 1, rfl, rfl, by omega, ?_⟩
   rw [← hput]
   obtain ⟨j, rfl⟩ : ∃ j, k = j + 1 := ⟨k - 1, by omega⟩
   rw [M.putAt, if_pos (by simpa using e2)]; rfl
  ·have e : k > 0 := by simp at e; omega
   rw [wd k e hk] at e2
   obtain ⟨j, rfl⟩ : ∃ j, k = j + 1 := ⟨k - 1, by omega⟩
   rw [M.putAt, if_neg (by simpa using e2)] at hput
   rw [← hput] at hJ; exact hJ
  ·have e : k = 0 := by simp at e; omega
   subst e
   rw [← hput] at hJ; exact hJ
theorem put_one (a b : Int) : M.spec_l04Put [a] b = M.putTwo a b := by
 unfold M.spec_l04Put M.putTwo
 have hq : M.putAt [a] b 1 = if a > b then 0 else 1 := by
  unfold M.putAt
  have : rd [a] ((0 : Nat) : Int) = a := rfl
  rw [this]
  split <;> rfl
 have h1l : ([a] : List Int).length = 1 := rfl
 by_cases h1 : b < a
 ·have hq' : M.putAt [a] b ([a] : List Int).length = 0 := by rw [h1l, hq, if_pos h1]
  rw [hq', if_pos h1, if_neg (by omega)]; simp
 ·have hq' : M.putAt [a] b ([a] : List Int).length = 1 := by rw [h1l, hq, if_neg h1]
  rw [hq', if_neg h1]
  have : rd [a] (((1 : Nat) : Int) - 1) = a := rfl
  rw [this]
  by_cases h2 : b = a
  ·rw [if_pos h2, if_pos ⟨by omega, h2.symm⟩]
  ·rw [if_neg h2, if_neg (fun h => h2 h.2.symm)]; simp
theorem wp.spec_l07Next.math (p : List D.Ins) (k : Int) (h : M.spec_l07Next_pre p k) : wp.spec_l07Next p k (fun r => r = M.spec_l07Next p k) := by
 obtain ⟨hp, h0, h1⟩ := h
 have h32 := progLen hp
 have hw : wrap .i64 (k + 1) = k + 1 := w64 (by omega) (by omega)
 unfold wp.spec_l07Next
 rw [hw]
 refine bcase_mk (fun e => ?_) fun e => ?_
 ·have e : k = p.length := by simpa using e
  simp [M.spec_l07Next, M.nextOf, e]
 have e : ¬ k = p.length := by simpa using e
 refine ⟨by omega, bcase_mk (fun e1 => ?_) fun e1 => bcase_mk (fun e2 => ⟨by omega, ?_⟩) fun e2 => bcase_mk (fun e3 => ⟨by omega, by show (1 : Nat) ≤ 17179869183; omega, fun r hr => ?_⟩) fun e3 => ?_⟩
 all_goals simp only [M.spec_l07Next, M.nextOf]
 all_goals rw [if_neg e]
 ·rw [if_pos (by simpa using e1)]
 ·rw [if_neg (by simpa using e1), if_pos (by simpa using e2)]
 ·rw [if_neg (by simpa using e1), if_neg (by simpa using e2), if_pos (by simpa using e3), hr, put_one]
 ·rw [if_neg (by simpa using e1), if_neg (by simpa using e2), if_neg (by simpa using e3)]
theorem cons_facts {k : Int} {rest : List Int} : rd (k :: rest) 0 = k ∧ List.drop ((1 : Int).toNat) (k :: rest) = rest ∧ (0 ≤ (0 : Int) ∧ (0 : Int) < ((k :: rest).length : Int)) ∧ (0 ≤ (1 : Int) ∧ (1 : Int) ≤ ((k :: rest).length : Int)) ∧ decide (((k :: rest).length : Int) > 0) = true := by
 refine ⟨rfl, rfl, by simp only [List.length_cons]; omega, by simp only [List.length_cons]; omega, ?_⟩
 simp only [List.length_cons, decide_eq_true_eq]; omega
theorem repl_eq {p : List D.Ins} (hp : M.programOk p = true) : List.replicate ((wrap .i64 ((p.length : Int) + 1)).toNat) (default : Bool) = List.replicate (p.length + 1) false := by
 rw [small64 (prog_small hp)]; rfl
theorem node_seen {p : List D.Ins} {k : Int} {seen : List Bool} (h : M.Node p k) (hl : seen.length = p.length + 1) : 0 ≤ k ∧ k < (seen.length : Int) := by
 obtain ⟨_, h0, h1⟩ := h
 omega
theorem wp.spec_l07Reach.math (p : List D.Ins) (l : List Int) (h : M.spec_l07Reach_pre p l) : wp.spec_l07Reach p l (fun r => r = M.spec_l07Reach p l) := by
 have hp := h.1
 have h32 := progLen hp
 have h4 := h.2.2
 unfold wp.spec_l07Reach
 rw [repl_eq hp, small64 (prog_small hp)]
 refine ⟨by omega, by simp; omega, ?_⟩
 rw [List.nil_append]
 refine bfs_loop (wo := -1) (I := fun _ => True) h (seen0_len _) trivial (R := M.spec_l07Reach p l) rfl (by rw [seen0_falses]; omega) (fun k rest seen next hk hl _ hc hn => ?_) (fun k rest seen next hk hl _ h1 h2 _ h5 hn => ?_) fun next _ => bcase_f rfl rfl
 ·obtain ⟨f1, f2, f3, f4, f5⟩ := cons_facts (k := k) (rest := rest)
  refine bcase_t f5 ⟨f3, f4, ?_⟩
  rw [f1, f2]
  have hk1 : ¬ k = -1 := by have := hk.2.1; omega
  exact ⟨node_seen hk hl, bcase_t (hc.resolve_left hk1) hn⟩
 ·obtain ⟨f1, f2, f3, f4, f5⟩ := cons_facts (k := k) (rest := rest)
  refine bcase_t f5 ⟨f3, f4, ?_⟩
  rw [f1, f2]
  refine ⟨node_seen hk hl, bcase_f h2 ⟨node_seen hk hl, hk, fun r hr => ?_⟩⟩
  have hr' : r = M.nextOf p k := hr
  rw [hr']
  exact ⟨h5, hn trivial⟩
theorem start1 {p : List D.Ins} {k : Int} (h : M.Node p k) : M.Starts p [k] := ⟨h.1, fun x hx => by obtain rfl := List.mem_singleton.1 hx; exact h.2, by simp⟩
theorem isNode_iff {p : List D.Ins} {k : Int} : M.isNode p k = true ↔ M.Node p k := by
 simp only [M.isNode, M.Node, M.nodeIn, Bool.and_eq_true, M.isIn, decide_eq_true_eq]
theorem wp.spec_ReachesExit.math (p : List D.Ins) (k : Int) (h : M.spec_ReachesExit_pre p k) : wp.spec_ReachesExit p k (fun r => r = M.spec_ReachesExit p k) := by
 refine ⟨h, fun r hr => bcase_mk (fun e => ?_) fun e => ?_⟩
 all_goals have hr' : r = M.isNode p k := hr
 ·have hN := isNode_iff.1 (hr'.symm.trans e)
  refine ⟨start1 hN, fun r2 hr2 => ⟨?_, ?_⟩⟩
  ·rw [hr2]; show _ ∧ _ < ((M.reached p [k] (-1)).length : Int); rw [reached_len]; omega
  ·rw [hr2]; simp only [M.spec_ReachesExit, ← hr', e, Bool.true_and]; rfl
 ·simp [M.spec_ReachesExit, ← hr', e]
theorem wp.spec_l08After.math (p : List D.Ins) (k later : Int) (h : M.spec_l08After_pre p k later) : wp.spec_l08After p k later (fun r => r = M.spec_l08After p k later) := by
 have hp := h.1
 have h32 := progLen hp
 have hs := start1 h
 have hn : M.nodeIn p (p.length : Int) := ⟨by omega, by omega⟩
 refine bcase_mk (fun e => ?_) fun e => ?_
 ·have e : k = later := by simpa using e
  show true = M.afterB p k later
  have : rd (M.reached p [k] later) (p.length : Int) = false := by
   refine Bool.eq_false_iff.2 fun hr => ?_
   have hr := (reached_iff hp hs.2.1 hn).1 hr
   have none : ∀ x, ¬ Rch p later [k] x := by
    intro x hx
    induction hx with
    | base h1 h2 => obtain rfl := List.mem_singleton.1 h1; exact h2 e
    | step _ _ _ ih => exact ih
   exact none _ hr
  unfold M.afterB; rw [this]; rfl
 rw [repl_eq hp, small64 (prog_small hp)]
 refine ⟨by omega, ?_⟩
 refine bfs_loop (wo := later) (I := fun seen => rd seen (p.length : Int) = false) hs (seen0_len _) (seen0_rd _ _) (R := M.reached p [k] later) rfl (by rw [seen0_falses]; simp) (fun j rest seen next hk hl _ hc hn => ?_) (fun j rest seen next hk hl hI h1 h2 h3 h5 hn => ?_) fun next hI => bcase_f rfl ?_
 ·obtain ⟨f1, f2, f3, f4, f5⟩ := cons_facts (k := j) (rest := rest)
  refine bcase_t f5 ⟨f3, f4, ?_⟩
  rw [f1, f2]
  refine ⟨node_seen hk hl, bcase_mk (fun _ => hn) fun e1 => bcase_t ?_ hn⟩
  rcases hc with hc | hc
  ·simpa using hc
  ·rw [hc] at e1; cases e1
 ·obtain ⟨f1, f2, f3, f4, f5⟩ := cons_facts (k := j) (rest := rest)
  refine bcase_t f5 ⟨f3, f4, ?_⟩
  rw [f1, f2]
  refine ⟨node_seen hk hl, bcase_f h2 (bcase_f (by simpa using h1) (bcase_mk (fun e1 => ?_) fun e1 => ⟨node_seen hk hl, hk, fun r hr => ?_⟩))⟩
  ·have e1 : j = (p.length : Int) := by simpa using e1
   show false = M.afterB p k later
   unfold M.afterB
   rw [← e1, h3]; rfl
  ·have e1 : ¬ j = (p.length : Int) := by simpa using e1
   have hr' : r = M.nextOf p j := hr
   rw [hr']
   refine ⟨h5, hn ?_⟩
   have hj := hk.2
   unfold M.nodeIn at hj
   rw [rd_setB hj.1 (by omega) (by omega), if_neg (fun e => e1 e.symm)]
   exact hI
 ·show true = M.afterB p k later
  unfold M.afterB; rw [hI]; rfl
theorem wp.spec_AftersOf.math (p : List D.Ins) (k : Int) (h : M.spec_AftersOf_pre p k) : wp.spec_AftersOf p k (fun r => r = M.spec_AftersOf p k) := by
 refine ⟨h, fun r hr => bcase_mk (fun e => ?_) fun e => ?_⟩
 ·have := nt e (show r = (M.isNode p k && M.exitB p k) from hr)
  simp [M.spec_AftersOf, M.aftersOf, this]
 ·have he := nf e (show r = (M.isNode p k && M.exitB p k) from hr)
  have hN : M.Node p k := isNode_iff.1 (by simp only [Bool.and_eq_true] at he; exact he.1)
  have h32 := progLen hN.1
  have hM : M.spec_AftersOf p k = M.idx (M.afterB p k) (p.length + 1) := by simp only [M.spec_AftersOf, M.aftersOf, he, if_true]
  rw [hM]
  refine idx_loop (fun j xs next hj hxs hle h1 h2 => ?_) fun next => bcase_f (by simp; omega) rfl
  refine bcase_t (by simp; omega) ⟨hN, fun r2 hr2 => bcase_mk (fun e2 => ⟨by simp; omega, ?_⟩) fun e2 => ?_⟩
  ·rw [up64 (n := p.length + 1) hj (by omega)]; exact h1 ((show r2 = M.afterB p k (j : Int) from hr2).symm.trans e2)
  ·rw [up64 (n := p.length + 1) hj (by omega)]; exact h2 ((show r2 = M.afterB p k (j : Int) from hr2).symm.trans e2)
theorem firstS_from (p : List D.Ins) (all l : List Int) (k : Nat) (hk : k < l.length) : M.firstS p all (l.drop k) = if all.all (M.afterB p (rd l (k : Int))) then rd l (k : Int) else M.firstS p all (l.drop (k + 1)) := by
 rw [List.drop_eq_getElem_cons hk, rd_nat hk]; rfl
theorem wp.spec_l08First.math (p : List D.Ins) (l : List Int) (h : M.spec_l08First_pre p l) : wp.spec_l08First p l (fun r => r = M.spec_l08First p l) := by
 obtain ⟨h1, h2⟩ := h
 have hl : l.length ≤ 17179869183 := h1
 refine loop_n l.length (fun k => ((k : Int), ())) (fun k => M.firstS p l l = M.firstS p l (l.drop k)) rfl rfl (fun k hk hF next hn => ?_) fun hF next => bcase_f (by simp) ?_
 ·rw [firstS_from p l l k hk] at hF
  refine bcase_t (by simp; omega) ?_
  have hN := h2 _ (rd_mem hk)
  refine loop_n l.length (fun j => ((l.take j).all (M.afterB p (rd l (k : Int))), (j : Int), ())) (fun _ => True) rfl trivial (fun j hj _ next2 hn2 => ?_) fun _ next2 => ?_
  ·have hn2 := hn2 trivial
   have ht : (l.take (j + 1)).all (M.afterB p (rd l (k : Int))) = ((l.take j).all (M.afterB p (rd l (k : Int))) && M.afterB p (rd l (k : Int)) (rd l (j : Int))) := by
    rw [List.take_add_one, List.getElem?_eq_getElem hj, rd_nat hj, List.all_append]; simp
   rw [ht] at hn2
   refine bcase_t (by simp; omega) (bcase_mk (fun e => ⟨by omega, by omega, hN, fun r hr => ?_⟩) fun e => ?_)
   ·rw [e, Bool.true_and] at hn2
    rw [hr, up64 hj (by omega)]; exact hn2
   ·rw [e, Bool.false_and] at hn2
    rw [up64 hj (by omega)]; exact hn2
  ·refine bcase_f (by simp) ?_
   rw [List.take_length]
   refine bcase_mk (fun e => ⟨by omega, ?_⟩) fun e => ?_
   ·rw [if_pos e] at hF; exact hF.symm
   ·rw [if_neg (by rw [e]; simp)] at hF
    rw [up64 hk (by omega)]; exact hn hF
 ·rw [List.drop_length] at hF; exact hF.symm
theorem afters_nodes {p : List D.Ins} {k x : Int} (h : x ∈ M.others (M.aftersOf p k) k) : M.Node p x ∧ M.Node p k ∧ M.exitB p k = true ∧ M.afterB p k x = true := by
 have h := (List.mem_filter.1 h).1
 unfold M.aftersOf at h
 split at h
 ·rename_i e
  simp only [Bool.and_eq_true] at e
  have hN := isNode_iff.1 e.1
  obtain ⟨j, hj, rfl, hg⟩ := mem_idx.1 h
  exact ⟨⟨hN.1, by omega, by omega⟩, hN, e.2, hg⟩
 ·exact absurd h List.not_mem_nil
theorem afters_len (p : List D.Ins) (k : Int) : (M.aftersOf p k).length ≤ p.length + 1 := by
 unfold M.aftersOf
 split
 ·exact idx_len _ _
 ·simp
theorem afters_ok {p : List D.Ins} (hp : M.PSmall p) (k : Int) : M.Nodes p (M.others (M.aftersOf p k) k) := by
 have h1 := afters_len p k
 have h2 := List.length_filter_le (fun x => x != k) (M.aftersOf p k)
 unfold M.PSmall at hp
 refine ⟨?_, fun x hx => (afters_nodes hx).1⟩
 show (M.others (M.aftersOf p k) k).length ≤ 17179869183
 unfold M.others; omega
theorem wp.spec_FirstAfter.math (p : List D.Ins) (k : Int) (h : M.spec_FirstAfter_pre p k) : wp.spec_FirstAfter p k (fun r => r = M.spec_FirstAfter p k) := by
 have h1 := afters_len p k
 have hs : p.length ≤ 2097152 := h
 refine ⟨h, fun r hr => ⟨?_, fun r2 hr2 => ⟨?_, fun r3 hr3 => ?_⟩⟩⟩
 ·rw [hr]; show (M.aftersOf p k).length ≤ 17179869183; omega
 ·rw [hr2, hr]; exact afters_ok h k
 ·rw [hr3, hr2, hr]; rfl
theorem br_in {p : List D.Ins} {b : Int} (h : M.Branch p b) : M.Node p (b + 1) ∧ M.Node p (rd p b).B ∧ M.Node p b ∧ b + 1 < 9223372036854775807 := by
 obtain ⟨hp, h0, h1, hb⟩ := h
 have h32 := progLen hp
 simp only [M.isBr, Bool.and_eq_true, beq_iff_eq] at hb
 have ht := target_in (nodeOk hp h0 h1) (.inl hb.1)
 exact ⟨⟨hp, by omega, by omega⟩, ⟨hp, ht⟩, ⟨hp, by omega, by omega⟩, by omega⟩
theorem wp.spec_l09Join.math (p : List D.Ins) (b : Int) (h : M.spec_l09Join_pre p b) : wp.spec_l09Join p b (fun r => r = M.spec_l09Join p b) := by
 obtain ⟨n1, n2, n3, n4⟩ := br_in h
 have hs := prog_small h.1
 have hw : wrap .i64 (b + 1) = b + 1 := w64 (by have := h.2.1; omega) (by omega)
 have hb := h.2
 unfold wp.spec_l09Join
 rw [hw]
 have m1 : M.spec_ReachesExit p (b + 1) = M.exitB p (b + 1) := by simp [M.spec_ReachesExit, isNode_iff.2 n1]
 have m2 : M.spec_ReachesExit p (rd p b).B = M.exitB p (rd p b).B := by simp [M.spec_ReachesExit, isNode_iff.2 n2]
 refine ⟨hs, fun r hr => bcase_mk (fun e => ?_) fun e => ⟨⟨hb.1, hb.2.1⟩, hs, fun r2 hr2 => bcase_mk (fun e2 => ?_) fun e2 => ⟨hs, fun r3 hr3 => ?_⟩⟩⟩
 all_goals rw [m1] at hr
 ·simp [M.spec_l09Join, M.joinB, nt e hr]
 ·rw [m2] at hr2
  simp [M.spec_l09Join, M.joinB, nt e2 hr2]
 ·rw [m2] at hr2
  rw [hr3]; simp [M.spec_l09Join, M.joinB, nf e hr, nf e2 hr2, M.spec_FirstAfter]
theorem branch_of {p : List D.Ins} {b : Int} (h : M.has (M.branches p) b = true) : M.Branch p b := by
 simp only [M.has, List.any_eq_true, beq_iff_eq] at h
 obtain ⟨x, hx, rfl⟩ := h
 unfold M.branches at hx
 split at hx
 ·rename_i hp
  obtain ⟨j, hj, rfl, hg⟩ := mem_idx.1 hx
  exact ⟨hp, by omega, by omega, hg⟩
 ·exact absurd hx List.not_mem_nil
theorem branches_len (p : List D.Ins) : (M.branches p).length ≤ p.length := by
 unfold M.branches
 split
 ·exact idx_len _ _
 ·simp
end Go.V
namespace Go.V
open IntKind (wrap)
def wp.cmp_isNaN_int (x0 : Int) (Q : Bool → Prop) : Prop :=
 Q (x0 != x0)
def wp.cmp_Less_int (x0 : Int) (x1 : Int) (Q : Bool → Prop) : Prop :=
 (∀ r21, r21 = M.cmp_isNaN_int x0 → bcase r21 ((∀ r26, r26 = M.cmp_isNaN_int x1 → bcase (!r26) (Q true) (Q (decide (x0 < x1))))) (Q (decide (x0 < x1))))
def wp.slices_insertionSortOrdered_int (xs0 : List Int) (x1 : Int) (x2 : Int) (Q : ((List Int)) → Prop) : Prop :=
 LoopP (σ := Int × (List Int) × Unit) (fun (p299 : Int × (List Int) × Unit) next126 => match p299 with | (i120, xs121, _) => bcase (decide (i120 < x2)) (LoopP (σ := Int × (List Int) × Unit) (fun (p294 : Int × (List Int) × Unit) next204 => match p294 with | (i198, xs199, _) => JoinP (σ := Unit) (fun J206 => bcase (decide (i198 > x1)) (((0 ≤ i198 ∧ i198 < (xs199.length : Int)) ∧ ((0 ≤ (wrap .i64 (i198 - 1)) ∧ (wrap .i64 (i198 - 1)) < (xs199.length : Int)) ∧ (((∀ r219, r219 = M.cmp_Less_int (rd xs199 i198) (rd xs199 (wrap .i64 (i198 - 1))) → bcase r219 (J206 (())) (next126 ((wrap .i64 (i120 + 1)), xs199, ())))) ∧ ((∀ r228, r228 = M.cmp_Less_int (rd xs199 i198) (rd xs199 (wrap .i64 (i198 - 1))) → bcase r228 (J206 (())) (next126 ((wrap .i64 (i120 + 1)), xs199, ())))) ∧ True)))) (((next126 ((wrap .i64 (i120 + 1)), xs199, ())) ∧ (next126 ((wrap .i64 (i120 + 1)), xs199, ())) ∧ True))) (fun (p292 : Unit) => match p292 with | (_) => ((0 ≤ (wrap .i64 (i198 - 1)) ∧ (wrap .i64 (i198 - 1)) < (xs199.length : Int)) ∧ ((0 ≤ i198 ∧ i198 < (xs199.length : Int)) ∧ ((((0 ≤ i198 ∧ i198 < (xs199.length : Int)) ∧ ((0 ≤ (wrap .i64 (i198 - 1)) ∧ (wrap .i64 (i198 - 1)) < ((List.set xs199 (i198.toNat) (rd xs199 (wrap .i64 (i198 - 1)))).length : Int)) ∧ next204 ((wrap .i64 (i198 - 1)), (List.set (List.set xs199 (i198.toNat) (rd xs199 (wrap .i64 (i198 - 1)))) ((wrap .i64 (i198 - 1)).toNat) (rd xs199 i198)), ())))) ∧ (((0 ≤ i198 ∧ i198 < (xs199.length : Int)) ∧ ((0 ≤ (wrap .i64 (i198 - 1)) ∧ (wrap .i64 (i198 - 1)) < ((List.set xs199 (i198.toNat) (rd xs199 (wrap .i64 (i198 - 1)))).length : Int)) ∧ next204 ((wrap .i64 (i198 - 1)), (List.set (List.set xs199 (i198.toNat) (rd xs199 (wrap .i64 (i198 - 1)))) ((wrap .i64 (i198 - 1)).toNat) (rd xs199 i198)), ())))) ∧ True))))) (i120, xs121, ())) (Q xs121)) ((wrap .i64 (x1 + 1)), xs0, ())
def wp.math_bits_Len64 (x0 : Int) (Q : Int → Prop) : Prop :=
 JoinP (σ := Int × Int × Unit) (fun J23 => bcase (decide (x0 ≥ 4294967296)) (J23 ((Int.fdiv x0 (2 ^ (min ((32 : Int).toNat) (IntKind.bits .u64)))), 32, ())) (J23 (x0, 0, ()))) (fun (p51 : Int × Int × Unit) => match p51 with | (i21, i22, _) => JoinP (σ := Int × Int × Unit) (fun J30 => bcase (decide (i21 ≥ 65536)) (J30 ((Int.fdiv i21 (2 ^ (min ((16 : Int).toNat) (IntKind.bits .u64)))), (wrap .i64 (i22 + 16)), ())) (J30 (i21, i22, ()))) (fun (p49 : Int × Int × Unit) => match p49 with | (i28, i29, _) => JoinP (σ := Int × Int × Unit) (fun J37 => bcase (decide (i28 ≥ 256)) (J37 ((Int.fdiv i28 (2 ^ (min ((8 : Int).toNat) (IntKind.bits .u64)))), (wrap .i64 (i29 + 8)), ())) (J37 (i28, i29, ()))) (fun (p47 : Int × Int × Unit) => match p47 with | (i35, i36, _) => ((0 ≤ IntKind.wrap .u8 i35 ∧ IntKind.wrap .u8 i35 < ((ByteArray.size (⟨#[0, 1, 2, 2, 3, 3, 3, 3, 4, 4, 4, 4, 4, 4, 4, 4, 5, 5, 5, 5, 5, 5, 5, 5, 5, 5, 5, 5, 5, 5, 5, 5, 6, 6, 6, 6, 6, 6, 6, 6, 6, 6, 6, 6, 6, 6, 6, 6, 6, 6, 6, 6, 6, 6, 6, 6, 6, 6, 6, 6, 6, 6, 6, 6, 7, 7, 7, 7, 7, 7, 7, 7, 7, 7, 7, 7, 7, 7, 7, 7, 7, 7, 7, 7, 7, 7, 7, 7, 7, 7, 7, 7, 7, 7, 7, 7, 7, 7, 7, 7, 7, 7, 7, 7, 7, 7, 7, 7, 7, 7, 7, 7, 7, 7, 7, 7, 7, 7, 7, 7, 7, 7, 7, 7, 7, 7, 7, 7, 8, 8, 8, 8, 8, 8, 8, 8, 8, 8, 8, 8, 8, 8, 8, 8, 8, 8, 8, 8, 8, 8, 8, 8, 8, 8, 8, 8, 8, 8, 8, 8, 8, 8, 8, 8, 8, 8, 8, 8, 8, 8, 8, 8, 8, 8, 8, 8, 8, 8, 8, 8, 8, 8, 8, 8, 8, 8, 8, 8, 8, 8, 8, 8, 8, 8, 8, 8, 8, 8, 8, 8, 8, 8, 8, 8, 8, 8, 8, 8, 8, 8, 8, 8, 8, 8, 8, 8, 8, 8, 8, 8, 8, 8, 8, 8, 8, 8, 8, 8, 8, 8, 8, 8, 8, 8, 8, 8, 8, 8, 8, 8, 8, 8, 8, 8, 8, 8, 8, 8, 8, 8, 8, 8, 8, 8, 8, 8]⟩) : Nat) : Int)) ∧ Q (wrap .i64 (i36 + (wrap .i64 (bt (⟨#[0, 1, 2, 2, 3, 3, 3, 3, 4, 4, 4, 4, 4, 4, 4, 4, 5, 5, 5, 5, 5, 5, 5, 5, 5, 5, 5, 5, 5, 5, 5, 5, 6, 6, 6, 6, 6, 6, 6, 6, 6, 6, 6, 6, 6, 6, 6, 6, 6, 6, 6, 6, 6, 6, 6, 6, 6, 6, 6, 6, 6, 6, 6, 6, 7, 7, 7, 7, 7, 7, 7, 7, 7, 7, 7, 7, 7, 7, 7, 7, 7, 7, 7, 7, 7, 7, 7, 7, 7, 7, 7, 7, 7, 7, 7, 7, 7, 7, 7, 7, 7, 7, 7, 7, 7, 7, 7, 7, 7, 7, 7, 7, 7, 7, 7, 7, 7, 7, 7, 7, 7, 7, 7, 7, 7, 7, 7, 7, 8, 8, 8, 8, 8, 8, 8, 8, 8, 8, 8, 8, 8, 8, 8, 8, 8, 8, 8, 8, 8, 8, 8, 8, 8, 8, 8, 8, 8, 8, 8, 8, 8, 8, 8, 8, 8, 8, 8, 8, 8, 8, 8, 8, 8, 8, 8, 8, 8, 8, 8, 8, 8, 8, 8, 8, 8, 8, 8, 8, 8, 8, 8, 8, 8, 8, 8, 8, 8, 8, 8, 8, 8, 8, 8, 8, 8, 8, 8, 8, 8, 8, 8, 8, 8, 8, 8, 8, 8, 8, 8, 8, 8, 8, 8, 8, 8, 8, 8, 8, 8, 8, 8, 8, 8, 8, 8, 8, 8, 8, 8, 8, 8, 8, 8, 8, 8, 8, 8, 8, 8, 8, 8, 8, 8, 8, 8, 8]⟩) (IntKind.wrap .u8 i35)))))))))
def wp.math_bits_Len (x0 : Int) (Q : Int → Prop) : Prop :=
 (M.math_bits_Len64_pre x0 ∧ ∀ r21, r21 = M.math_bits_Len64 x0 → Q r21)
def wp.slices_pdqsortOrdered_int (xs0 : List Int) (x1 : Int) (x2 : Int) (x3 : Int) (Q : ((List Int)) → Prop) : Prop :=
 LoopP (σ := Int × Int × Int × Bool × Bool × Unit) (fun (p44 : Int × Int × Int × Bool × Bool × Unit) next29 => match p44 with | (i21, i22, i23, b24, b25, _) => bcase (decide ((wrap .i64 (i22 - i21)) ≤ 12)) ((M.slices_insertionSortOrdered_int_pre xs0 i21 i22 ∧ ∀ r31, r31 = M.slices_insertionSortOrdered_int xs0 i21 i22 → Q r31)) (bcase (i23 == 0) (False) (False))) (x1, x2, x3, true, true, ())
def wp.slices_Sort_int_int (xs0 : List Int) (Q : ((List Int)) → Prop) : Prop :=
 (M.math_bits_Len_pre (IntKind.wrap .u64 (xs0.length : Int)) ∧ ∀ r21, r21 = M.math_bits_Len (IntKind.wrap .u64 (xs0.length : Int)) → (M.slices_pdqsortOrdered_int_pre xs0 0 (xs0.length : Int) r21 ∧ ∀ r26, r26 = M.slices_pdqsortOrdered_int xs0 0 (xs0.length : Int) r21 → Q r26))
def wp.slices_Compact_int_int (xs0 : List Int) (Q : (List Int) → Prop) : Prop :=
 bcase (decide ((xs0.length : Int) < 2)) (Q xs0) (LoopP (σ := Int × Unit) (fun (p64 : Int × Unit) next25 => match p64 with | (i21, _) => bcase (decide (i21 < (xs0.length : Int))) (((0 ≤ i21 ∧ i21 < (xs0.length : Int)) ∧ ((0 ≤ (wrap .i64 (i21 - 1)) ∧ (wrap .i64 (i21 - 1)) < (xs0.length : Int)) ∧ bcase ((rd xs0 i21) == (rd xs0 (wrap .i64 (i21 - 1)))) (((0 ≤ i21 ∧ i21 ≤ (xs0.length : Int)) ∧ LoopP (σ := Int × Int × Unit) (fun (p55 : Int × Int × Unit) next45 => match p55 with | (i40, i41, _) => bcase (decide (i41 < (((List.drop (i21.toNat) xs0)).length : Int))) (False) (((0 ≤ i40 ∧ i40 ≤ (xs0.length : Int)) ∧ ((0 ≤ i40 ∧ i40 ≤ ((List.take (i40.toNat) xs0 ++ List.replicate (xs0.length - (i40.toNat)) default).length : Int)) ∧ Q (List.take (i40.toNat) (List.take (i40.toNat) xs0 ++ List.replicate (xs0.length - (i40.toNat)) default)))))) (i21, 1, ()))) (next25 ((wrap .i64 (i21 + 1)), ()))))) (Q xs0)) (1, ()))
def wp.impl_next (xs0 : List D.Ins) (x1 : Int) (Q : (List Int) → Prop) : Prop :=
 bcase (x1 == (xs0.length : Int)) (Q ([] : List Int)) (((0 ≤ x1 ∧ x1 < (xs0.length : Int)) ∧ bcase ((rd xs0 x1).Op == 12) (Q ([(xs0.length : Int)] : List Int)) (bcase ((rd xs0 x1).Op == 11) (Q ([(rd xs0 x1).B] : List Int)) (bcase ((rd xs0 x1).Op == 10) ((M.slices_Sort_int_int_pre ([(rd xs0 x1).B, (wrap .i64 (x1 + 1))] : List Int) ∧ ∀ r42, r42 = M.slices_Sort_int_int ([(rd xs0 x1).B, (wrap .i64 (x1 + 1))] : List Int) → (M.slices_Compact_int_int_pre r42 ∧ ∀ r48, r48 = M.slices_Compact_int_int r42 → Q r48))) (Q ([(wrap .i64 (x1 + 1))] : List Int))))))
def wp.impl_BranchesOf (xs0 : List D.Ins) (Q : (List Int) → Prop) : Prop :=
 (M.impl_ProgramOk_pre xs0 ∧ ∀ r21, r21 = M.impl_ProgramOk xs0 → bcase (!r21) (Q ([] : List Int)) (LoopP (σ := (List Int) × Int × Unit) (fun (p61 : (List Int) × Int × Unit) next36 => match p61 with | (xs29, i32, _) => bcase (decide (i32 < (xs0.length : Int))) ((M.impl_next_pre xs0 i32 ∧ ∀ r38, r38 = M.impl_next xs0 i32 → bcase ((r38.length : Int) == 2) (((xs29.length + ([i32] : List Int).length ≤ 17179869184) ∧ next36 ((xs29 ++ ([i32] : List Int)), (wrap .i64 (i32 + 1)), ()))) (next36 (xs29, (wrap .i64 (i32 + 1)), ())))) (Q xs29)) (([] : List Int), 0, ())))
def wp.impl_isBranch (xs0 : List D.Ins) (x1 : Int) (Q : Bool → Prop) : Prop :=
 (M.impl_BranchesOf_pre xs0 ∧ ∀ r21, r21 = M.impl_BranchesOf xs0 → (M.slices_Contains_int_int_pre r21 x1 ∧ ∀ r28, r28 = M.slices_Contains_int_int r21 x1 → Q r28))
def wp.impl_reached (xs0 : List D.Ins) (xs1 : List Int) (x2 : Int) (Q : (List Bool) → Prop) : Prop :=
 ((0 ≤ (wrap .i64 ((xs0.length : Int) + 1)) ∧ (wrap .i64 ((xs0.length : Int) + 1)) ≤ 17179869184) ∧ (M.slices_Clone_int_int_pre xs1 ∧ ∀ r26, r26 = M.slices_Clone_int_int xs1 → LoopP (σ := (List Int) × (List Bool) × Unit) (fun (p133 : (List Int) × (List Bool) × Unit) next87 => match p133 with | (xs79, xs82, _) => bcase (decide ((xs79.length : Int) > 0)) (((0 ≤ (0 : Int) ∧ (0 : Int) < (xs79.length : Int)) ∧ ((0 ≤ (1 : Int) ∧ (1 : Int) ≤ (xs79.length : Int)) ∧ bcase ((rd xs79 0) == x2) (next87 ((List.drop ((1 : Int).toNat) xs79), xs82, ())) (((0 ≤ (rd xs79 0) ∧ (rd xs79 0) < (xs82.length : Int)) ∧ bcase (rd xs82 (rd xs79 0)) (next87 ((List.drop ((1 : Int).toNat) xs79), xs82, ())) (((0 ≤ (rd xs79 0) ∧ (rd xs79 0) < (xs82.length : Int)) ∧ (M.impl_next_pre xs0 (rd xs79 0) ∧ ∀ r115, r115 = M.impl_next xs0 (rd xs79 0) → (((List.drop ((1 : Int).toNat) xs79).length + r115.length ≤ 17179869184) ∧ next87 (((List.drop ((1 : Int).toNat) xs79) ++ r115), (List.set xs82 ((rd xs79 0).toNat) true), ())))))))))) (Q xs82)) (r26, (List.replicate ((wrap .i64 ((xs0.length : Int) + 1)).toNat) (default : Bool)), ())))
def wp.impl_reachesExit (xs0 : List D.Ins) (x1 : Int) (Q : Bool → Prop) : Prop :=
 (M.impl_reached_pre xs0 ([x1] : List Int) (-1) ∧ ∀ r24, r24 = M.impl_reached xs0 ([x1] : List Int) (-1) → ((0 ≤ (xs0.length : Int) ∧ (xs0.length : Int) < (r24.length : Int)) ∧ Q (rd r24 (xs0.length : Int))))
def wp.impl_isNode (xs0 : List D.Ins) (x1 : Int) (Q : Bool → Prop) : Prop :=
 (M.impl_ProgramOk_pre xs0 ∧ ∀ r21, r21 = M.impl_ProgramOk xs0 → bcase r21 ((∀ r26, r26 = M.impl_within x1 0 (xs0.length : Int) → Q r26)) (Q false))
def wp.impl_isAfter (xs0 : List D.Ins) (x1 : Int) (x2 : Int) (Q : Bool → Prop) : Prop :=
 (M.impl_reachesExit_pre xs0 x1 ∧ ∀ r21, r21 = M.impl_reachesExit xs0 x1 → bcase r21 ((M.impl_reached_pre xs0 ([x1] : List Int) x2 ∧ ∀ r29, r29 = M.impl_reached xs0 ([x1] : List Int) x2 → ((0 ≤ (xs0.length : Int) ∧ (xs0.length : Int) < (r29.length : Int)) ∧ Q (!(rd r29 (xs0.length : Int)))))) (Q false))
def wp.impl_IsAfter (xs0 : List D.Ins) (x1 : Int) (x2 : Int) (Q : Bool → Prop) : Prop :=
 (M.impl_isNode_pre xs0 x1 ∧ ∀ r21, r21 = M.impl_isNode xs0 x1 → bcase r21 ((M.impl_isNode_pre xs0 x2 ∧ ∀ r26, r26 = M.impl_isNode xs0 x2 → bcase r26 ((M.impl_isAfter_pre xs0 x1 x2 ∧ ∀ r31, r31 = M.impl_isAfter xs0 x1 x2 → Q r31)) (Q false))) (Q false))
def wp.impl_AftersOf (xs0 : List D.Ins) (x1 : Int) (Q : (List Int) → Prop) : Prop :=
 LoopP (σ := (List Int) × Int × Unit) (fun (p54 : (List Int) × Int × Unit) next31 => match p54 with | (xs24, i27, _) => bcase (decide (i27 < (wrap .i64 ((xs0.length : Int) + 1)))) ((M.impl_IsAfter_pre xs0 x1 i27 ∧ ∀ r33, r33 = M.impl_IsAfter xs0 x1 i27 → bcase r33 (((xs24.length + ([i27] : List Int).length ≤ 17179869184) ∧ next31 ((xs24 ++ ([i27] : List Int)), (wrap .i64 (i27 + 1)), ()))) (next31 (xs24, (wrap .i64 (i27 + 1)), ())))) (Q xs24)) (([] : List Int), 0, ())
def wp.impl_FirstAfter_1 (x0 : Int) (x1 : Int) (Q : Bool → Prop) : Prop :=
 Q (x0 == x1)
def wp.slices_DeleteFunc_int_int (xs0 : List Int) (g1 : Int → Bool) (D1 : Int → Prop) (Q : (List Int) → Prop) : Prop :=
 (M.slices_IndexFunc_int_int_pre xs0 g1 D1 ∧ ∀ r21, r21 = M.slices_IndexFunc_int_int xs0 g1 → bcase (r21 == (-1)) (Q xs0) (LoopP (σ := Int × Int × (List Int) × Unit) (fun (p92 : Int × Int × (List Int) × Unit) next58 => match p92 with | (i51, i52, xs53, _) => bcase (decide (i52 < (xs0.length : Int))) (((0 ≤ i52 ∧ i52 < (xs53.length : Int)) ∧ (D1 (rd xs53 i52) ∧ ∀ r65, r65 = g1 (rd xs53 i52) → bcase (!r65) (((0 ≤ i51 ∧ i51 < (xs53.length : Int)) ∧ next58 ((wrap .i64 (i51 + 1)), (wrap .i64 (i52 + 1)), (List.set xs53 (i51.toNat) (rd xs53 i52)), ()))) (next58 (i51, (wrap .i64 (i52 + 1)), xs53, ()))))) (((0 ≤ i51 ∧ i51 ≤ (xs53.length : Int)) ∧ ((0 ≤ i51 ∧ i51 ≤ ((List.take (i51.toNat) xs53 ++ List.replicate (xs53.length - (i51.toNat)) default).length : Int)) ∧ Q (List.take (i51.toNat) (List.take (i51.toNat) xs53 ++ List.replicate (xs53.length - (i51.toNat)) default)))))) (r21, (wrap .i64 (r21 + 1)), xs0, ())))
def wp.impl_firstOf_1 (x0 : Int) (xs1 : List D.Ins) (x2 : Int) (Q : Bool → Prop) : Prop :=
 (M.impl_isAfter_pre xs1 x2 x0 ∧ ∀ r21, r21 = M.impl_isAfter xs1 x2 x0 → Q (!r21))
def wp.impl_firstOf (xs0 : List D.Ins) (xs1 : List Int) (Q : Int → Prop) : Prop :=
 LoopP (σ := Int × Unit) (fun (p48 : Int × Unit) next27 => match p48 with | (i23, _) => bcase (decide (i23 < (xs1.length : Int))) (((0 ≤ i23 ∧ i23 < (xs1.length : Int)) ∧ (M.slices_ContainsFunc_int_int_pre xs1 (fun z0_ => M.impl_firstOf_1 z0_ xs0 (rd xs1 i23)) (fun z0_ => M.impl_firstOf_1_pre z0_ xs0 (rd xs1 i23)) ∧ ∀ r38, r38 = M.slices_ContainsFunc_int_int xs1 (fun z0_ => M.impl_firstOf_1 z0_ xs0 (rd xs1 i23)) → bcase (!r38) (Q (rd xs1 i23)) (next27 ((wrap .i64 (i23 + 1)), ()))))) (Q (-1))) (0, ())
def wp.impl_FirstAfter (xs0 : List D.Ins) (x1 : Int) (Q : Int → Prop) : Prop :=
 (M.impl_AftersOf_pre xs0 x1 ∧ ∀ r23, r23 = M.impl_AftersOf xs0 x1 → (M.slices_DeleteFunc_int_int_pre r23 (fun z0_ => M.impl_FirstAfter_1 z0_ x1) (fun z0_ => M.impl_FirstAfter_1_pre z0_ x1) ∧ ∀ r30, r30 = M.slices_DeleteFunc_int_int r23 (fun z0_ => M.impl_FirstAfter_1 z0_ x1) → (M.impl_firstOf_pre xs0 r30 ∧ ∀ r37, r37 = M.impl_firstOf xs0 r30 → Q r37)))
def wp.impl_JoinOf (xs0 : List D.Ins) (x1 : Int) (Q : Int → Prop) : Prop :=
 (M.impl_isBranch_pre xs0 x1 ∧ ∀ r21, r21 = M.impl_isBranch xs0 x1 → bcase (!r21) (Q (-1)) ((M.impl_next_pre xs0 x1 ∧ ∀ r26, r26 = M.impl_next xs0 x1 → LoopP (σ := Int × Unit) (fun (p59 : Int × Unit) next37 => match p59 with | (i33, _) => bcase (decide (i33 < (r26.length : Int))) (((0 ≤ i33 ∧ i33 < (r26.length : Int)) ∧ (M.impl_reachesExit_pre xs0 (rd r26 i33) ∧ ∀ r44, r44 = M.impl_reachesExit xs0 (rd r26 i33) → bcase (!r44) (Q (xs0.length : Int)) (next37 ((wrap .i64 (i33 + 1)), ()))))) ((M.impl_FirstAfter_pre xs0 x1 ∧ ∀ r53, r53 = M.impl_FirstAfter xs0 x1 → Q r53))) (0, ()))))
end Go.V
