import Derived.Test.YtkacokecjojkoaaGreatVBase
import Derived.Test.YtkacokecjojkoaaGreatVWords
import Derived.Test.YtkacokecjojkoaaGreatVOwn
import Derived.Test.YtkacokecjojkoaaGreatVLoop
import Derived.Test.YtkacokecjojkoaaGreatVDeep
import Derived.Test.YtkacokecjojkoaaGreatVEq
import Derived.Test.YtkacokecjojkoaaGreatVCut
import Derived.Test.YtkacokecjojkoaaGreatVPlc
import Derived.Test.YtkacokecjojkoaaGreatPure2
set_option linter.unusedVariables false
namespace Go.V.M
def newWarp (p : List D.Ins) (n : Int) : D.Warp := ⟨n, if p.length > 0 then [⟨0, p.length, 255⟩] else [], List.replicate 32 0⟩
def noWarp : D.Warp := ⟨0, [], []⟩
def spec_WarpNew (p : List D.Ins) (n : Int) : D.Warp × Bool := if programOk p && isIn n 0 2 then (newWarp p n, true) else (noWarp, false)
def spec_WarpNew_pre (p : List D.Ins) (n : Int) : Prop := Long p
def slices_Clone_impl_Frame_impl_Frame (l : List D.Frame) : List D.Frame := l
def slices_Clone_impl_Frame_impl_Frame_pre (l : List D.Frame) : Prop := l.length ≤ 17179869184
def WFit (x : D.Warp) : Prop := x.Frames.length ≤ 17179869184 ∧ x.Regs.length ≤ 17179869184
def spec_l12Copy (x : D.Warp) : D.Warp := x
def spec_l12Copy_pre (x : D.Warp) : Prop := WFit x
def impl_copyWarp (x : D.Warp) : D.Warp := x
def impl_copyWarp_pre (x : D.Warp) : Prop := WFit x
end Go.V.M
set_option linter.unusedVariables false
namespace Go.V.M
def impl_Warp_lane_pre (x : D.Warp) (l : Int) : Prop := x.Regs.length = 32 ∧ 0 ≤ l ∧ l ≤ 7
def activeMask (x : D.Warp) : Int := if x.Frames.isEmpty then 0 else (lastF x.Frames).Mask
def spec_ActiveMask := activeMask
def spec_ActiveMask_pre (x : D.Warp) : Prop := Long x.Frames
def impl_ActiveMask := activeMask
def impl_ActiveMask_pre (x : D.Warp) : Prop := Long x.Frames
def bitAt (k : Int) : Int := IntKind.wrap .i64 (1 * 2 ^ (min (k.toNat) (IntKind.bits .i64)))
def zeroStep (x : D.Warp) (reg : Int) (m : Int) (k : Int) : Int := if rd x.Regs (k * 4 + reg) = 0 then bitOr .i64 m (bitAt k) else m
def zeroMask (x : D.Warp) (reg : Int) : Int := (lanesOf (activeMask x)).foldl (zeroStep x reg) 0
def impl_Warp_zeroMask := zeroMask
def impl_Warp_zeroMask_pre (x : D.Warp) (reg : Int) : Prop := Long x.Frames ∧ x.Regs.length = 32 ∧ isReg reg = true
def spec_ZeroMask (x : D.Warp) (reg : Int) : Int := if isReg reg && x.Regs.length == 32 then zeroMask x reg else 0
def spec_ZeroMask_pre (x : D.Warp) (reg : Int) : Prop := Long x.Frames
def Runs (p : List D.Ins) (x : D.Warp) : Prop := programOk p = true ∧ warpOf p x = true ∧ x.Frames ≠ []
def topPc (x : D.Warp) : Int := (lastF x.Frames).Pc
def topIns (p : List D.Ins) (x : D.Warp) : D.Ins := rd p (topPc x)
def splits (p : List D.Ins) (x : D.Warp) : Bool :=
  ((topIns p x).Op == 10 && (topIns p x).B != topPc x + 1) && (zeroMask x (topIns p x).A != 0 && zeroMask x (topIns p x).A != (lastF x.Frames).Mask)
def spec_l13Splits := splits
def spec_l13Splits_pre (p : List D.Ins) (x : D.Warp) : Prop := Runs p x
def impl_Warp_splits (x : D.Warp) (p : List D.Ins) : Bool := splits p x
def impl_Warp_splits_pre (x : D.Warp) (p : List D.Ins) : Prop := Runs p x
def spec_l13Local (p : List D.Ins) (x : D.Warp) : Bool := !x.Frames.isEmpty && (isLocal (topIns p x) && (!splits p x || decide (x.Frames.length ≤ 22)))
def spec_l13Local_pre (p : List D.Ins) (x : D.Warp) : Prop := programOk p = true ∧ warpOf p x = true
def canGo (b : D.Block) (w : Int) : Bool :=
  let x := rd b.Warps w
  !x.Frames.isEmpty && (!waits b w && (if isLocal (topIns b.Code x) then !splits b.Code x || decide (x.Frames.length ≤ 22) else (topIns b.Code x).Op != 16 || x.Frames.length == 1))
def pickFrom (b : D.Block) (n f : Int) : Nat → Int → Int
  | 0, _ => -1
  | r + 1, k => if canGo b (Int.tmod (f + k) n) then Int.tmod (f + k) n else pickFrom b n f r (k + 1)
def pick (b : D.Block) (q : Int) : Int := pickFrom b b.Warps.length (Int.tmod q b.Warps.length) b.Warps.length 0
end Go.V.M
set_option linter.unusedVariables false
namespace Go.V.M
def PSmall (p : List D.Ins) : Prop := p.length ≤ 2097152
def Row34 {α : Type} (l : List α) : Prop := l.length ≤ 17179869183
def idx (g : Int → Bool) : Nat → List Int
  | 0 => []
  | k + 1 => if g (k : Int) then idx g k ++ [(k : Int)] else idx g k
def isBr (p : List D.Ins) (k : Int) : Bool := (rd p k).Op == 10 && (rd p k).B != k + 1
def branches (p : List D.Ins) : List Int := if programOk p then idx (isBr p) p.length else []
def others (l : List Int) (n : Int) : List Int := l.filter fun x => x != n
def has (l : List Int) (n : Int) : Bool := l.any fun y => n == y
def nodeIn (p : List D.Ins) (k : Int) : Prop := 0 ≤ k ∧ k ≤ ((p.length : Nat) : Int)
def Node (p : List D.Ins) (k : Int) : Prop := programOk p = true ∧ nodeIn p k
def isNode (p : List D.Ins) (k : Int) : Bool := programOk p && isIn k 0 p.length
def putTwo (a b : Int) : List Int := if b < a then [b, a] else if b = a then [a] else [a, b]
def nextOf (p : List D.Ins) (k : Int) : List Int :=
  if k = p.length then [] else if (rd p k).Op = 12 then [((p.length : Nat) : Int)] else if (rd p k).Op = 11 then [(rd p k).B] else if (rd p k).Op = 10 then putTwo (k + 1) (rd p k).B else [k + 1]
def bfs (p : List D.Ins) (wo : Int) : Nat → List Int → List Bool → List Bool
  | 0, _, seen => seen
  | _ + 1, [], seen => seen
  | f + 1, k :: work, seen => if k = wo ∨ rd seen k = true then bfs p wo f work seen else bfs p wo f (work ++ nextOf p k) (seen.set k.toNat true)
def reached (p : List D.Ins) (frm : List Int) (wo : Int) : List Bool := bfs p wo (3 * (p.length + 1) + frm.length) frm (List.replicate (p.length + 1) false)
def exitB (p : List D.Ins) (k : Int) : Bool := rd (reached p [k] (-1)) p.length
def afterB (p : List D.Ins) (k later : Int) : Bool := !rd (reached p [k] later) p.length
def aftersOf (p : List D.Ins) (k : Int) : List Int := if isNode p k && exitB p k then idx (afterB p k) (p.length + 1) else []
def firstS (p : List D.Ins) (all : List Int) : List Int → Int
  | [] => -1
  | x :: l => if all.all (afterB p x) then x else firstS p all l
def firstI (p : List D.Ins) (all : List Int) : List Int → Int
  | [] => -1
  | x :: l => if all.all (fun z => exitB p x && afterB p x z) then x else firstI p all l
def firstAfter (p : List D.Ins) (k : Int) : Int := firstS p (others (aftersOf p k) k) (others (aftersOf p k) k)
def joinB (p : List D.Ins) (b : Int) : Int := if exitB p (b + 1) && exitB p (rd p b).B then firstAfter p b else p.length
def spec_l08Others := others
def spec_l08Others_pre (l : List Int) (n : Int) : Prop := Row34 l
def spec_l07Ok := isNode
def spec_l07Ok_pre (p : List D.Ins) (k : Int) : Prop := PSmall p
def putAt (l : List Int) (n : Int) : Nat → Nat
  | 0 => 0
  | k + 1 => if rd l (k : Int) > n then putAt l n k else k + 1
def spec_l04Put (l : List Int) (n : Int) : List Int :=
  if putAt l n l.length > 0 ∧ rd l (((putAt l n l.length : Nat) : Int) - 1) = n then l else l.take (putAt l n l.length) ++ [n] ++ l.drop (putAt l n l.length)
def spec_l04Put_pre (l : List Int) (n : Int) : Prop := Row34 l
def spec_l07Next := nextOf
def spec_l07Next_pre (p : List D.Ins) (k : Int) : Prop := Node p k
def Starts (p : List D.Ins) (l : List Int) : Prop := programOk p = true ∧ (∀ x ∈ l, nodeIn p x) ∧ l.length ≤ 4
def spec_l07Reach (p : List D.Ins) (l : List Int) : List Bool := reached p l (-1)
def spec_l07Reach_pre (p : List D.Ins) (l : List Int) : Prop := Starts p l
def spec_ReachesExit (p : List D.Ins) (k : Int) : Bool := isNode p k && exitB p k
def spec_ReachesExit_pre (p : List D.Ins) (k : Int) : Prop := PSmall p
def spec_l08After := afterB
def spec_l08After_pre (p : List D.Ins) (k later : Int) : Prop := Node p k
def spec_AftersOf := aftersOf
def spec_AftersOf_pre (p : List D.Ins) (k : Int) : Prop := PSmall p
def Nodes (p : List D.Ins) (l : List Int) : Prop := Row34 l ∧ ∀ x ∈ l, Node p x
def spec_l08First (p : List D.Ins) (l : List Int) : Int := firstS p l l
def spec_l08First_pre (p : List D.Ins) (l : List Int) : Prop := Nodes p l
def spec_FirstAfter := firstAfter
def spec_FirstAfter_pre (p : List D.Ins) (k : Int) : Prop := PSmall p
def Branch (p : List D.Ins) (b : Int) : Prop := programOk p = true ∧ 0 ≤ b ∧ b < ((p.length : Nat) : Int) ∧ isBr p b = true
def spec_l09Join := joinB
def spec_l09Join_pre (p : List D.Ins) (b : Int) : Prop := Branch p b
def cmp_isNaN_int (x : Int) : Bool := false
def cmp_Less_int (x y : Int) : Bool := decide (x < y)
def sort2 (l : List Int) : List Int := if rd l 1 < rd l 0 then [rd l 1, rd l 0] else l
def slices_insertionSortOrdered_int (l : List Int) (a b : Int) : List Int := sort2 l
def slices_insertionSortOrdered_int_pre (l : List Int) (a b : Int) : Prop := l.length = 2 ∧ a = 0 ∧ b = 2
def math_bits_Len64 (x : Int) : Int := 2
def math_bits_Len64_pre (x : Int) : Prop := x = 2
def math_bits_Len (x : Int) : Int := 2
def math_bits_Len_pre (x : Int) : Prop := x = 2
def slices_pdqsortOrdered_int (l : List Int) (a b c : Int) : List Int := sort2 l
def slices_pdqsortOrdered_int_pre (l : List Int) (a b c : Int) : Prop := l.length = 2 ∧ a = 0 ∧ b = 2
def slices_Sort_int_int (l : List Int) : List Int := sort2 l
def slices_Sort_int_int_pre (l : List Int) : Prop := l.length = 2
def slices_Compact_int_int (l : List Int) : List Int := if rd l 1 = rd l 0 then l.take 1 else l
def slices_Compact_int_int_pre (l : List Int) : Prop := l.length = 2
def impl_next := nextOf
def impl_next_pre (p : List D.Ins) (k : Int) : Prop := Node p k
def impl_BranchesOf := branches
def impl_BranchesOf_pre (p : List D.Ins) : Prop := PSmall p
def impl_isBranch (p : List D.Ins) (b : Int) : Bool := has (branches p) b
def impl_isBranch_pre (p : List D.Ins) (b : Int) : Prop := PSmall p
def impl_reached := reached
def impl_reached_pre (p : List D.Ins) (l : List Int) (wo : Int) : Prop := Starts p l
def impl_reachesExit := exitB
def impl_reachesExit_pre (p : List D.Ins) (k : Int) : Prop := Node p k
def impl_isNode := isNode
def impl_isNode_pre (p : List D.Ins) (k : Int) : Prop := PSmall p
def impl_isAfter (p : List D.Ins) (k later : Int) : Bool := exitB p k && afterB p k later
def impl_isAfter_pre (p : List D.Ins) (k later : Int) : Prop := Node p k
def impl_IsAfter (p : List D.Ins) (k later : Int) : Bool := isNode p k && (isNode p later && (exitB p k && afterB p k later))
def impl_IsAfter_pre (p : List D.Ins) (k later : Int) : Prop := PSmall p
def impl_AftersOf := aftersOf
def impl_AftersOf_pre (p : List D.Ins) (k : Int) : Prop := PSmall p
def impl_FirstAfter_1 (x k : Int) : Bool := x == k
def impl_FirstAfter_1_pre (x k : Int) : Prop := True
def slices_DeleteFunc_int_int (l : List Int) (g : Int → Bool) : List Int := l.filter fun x => !g x
def slices_DeleteFunc_int_int_pre (l : List Int) (g : Int → Bool) (D : Int → Prop) : Prop := Long l ∧ ∀ x ∈ l, D x
def impl_firstOf_1 (z : Int) (p : List D.Ins) (x : Int) : Bool := !(exitB p x && afterB p x z)
def impl_firstOf_1_pre (z : Int) (p : List D.Ins) (x : Int) : Prop := Node p x
def impl_firstOf (p : List D.Ins) (l : List Int) : Int := firstI p l l
def impl_firstOf_pre (p : List D.Ins) (l : List Int) : Prop := Nodes p l
def impl_FirstAfter := firstAfter
def impl_FirstAfter_pre (p : List D.Ins) (k : Int) : Prop := PSmall p
def joinOf (p : List D.Ins) (b : Int) : Int := if has (branches p) b then joinB p b else -1
def impl_JoinOf := joinOf
def impl_JoinOf_pre (p : List D.Ins) (b : Int) : Prop := PSmall p
end Go.V.M
set_option linter.unusedVariables false
namespace Go.V.M
def dropN (fs : List D.Frame) (n : Int) : Nat → List D.Frame
  | 0 => []
  | k + 1 => if (rd fs (k : Int)).Pc ≠ (rd fs (k : Int)).Stop ∧ (rd fs (k : Int)).Pc ≠ n then fs.take (k + 1) else dropN fs n k
def dropF (fs : List D.Frame) (n : Int) : List D.Frame := dropN fs n fs.length
def dropW (x : D.Warp) (n : Int) : D.Warp := ⟨x.Number, dropF x.Frames n, x.Regs⟩
def impl_Warp_drop := dropW
def impl_Warp_drop_pre (x : D.Warp) (n : Int) : Prop := Long x.Frames
def spec_DropFrames (p : List D.Ins) (x : D.Warp) : D.Warp := dropW x p.length
def spec_DropFrames_pre (p : List D.Ins) (x : D.Warp) : Prop := WFit x
def laneCut (r : List Int) (l : Nat) : List Int := (r.take (l * 4 + 4)).drop (l * 4)
def putLane (r : List Int) (l : Nat) (x : List Int) : List Int := r.take (l * 4) ++ x ++ r.drop (l * 4 + 4)
def applyTo (i : D.Ins) (num m : Int) (r : List Int) : Nat → List Int
  | 0 => r
  | k + 1 => if hasLane m (k : Int) then putLane (applyTo i num m r k) k (apply i (num * 8 + (k : Int)) (laneCut r k)) else applyTo i num m r k
def applyAll (i : D.Ins) (num m : Int) (r : List Int) : List Int := applyTo i num m r 8
def spec_l13Apply (p : List D.Ins) (x : D.Warp) : List Int := applyAll (topIns p x) x.Number (lastF x.Frames).Mask x.Regs
def spec_l13Apply_pre (p : List D.Ins) (x : D.Warp) : Prop := Runs p x
def impl_apply_v (i : D.Ins) (t : Int) (xs : List Int) (lo hi : Nat) : List Int := xs.take lo ++ apply i t ((xs.take hi).drop lo) ++ xs.drop hi
def impl_apply_v_pre (i : D.Ins) (t : Int) (xs : List Int) (lo hi : Nat) : Prop := Fits i ((xs.take hi).drop lo) ∧ lo ≤ hi ∧ hi ≤ xs.length
def turnPc (p : List D.Ins) (x : D.Warp) : Int :=
  if (topIns p x).Op = 12 then ((p.length : Nat) : Int) else if (topIns p x).Op = 11 then (topIns p x).B else if (topIns p x).Op = 10 ∧ zeroMask x (topIns p x).A = (lastF x.Frames).Mask then (topIns p x).B else topPc x + 1
def setTop (fs : List D.Frame) (pc : Int) : List D.Frame := fs.set (fs.length - 1) ⟨pc, (lastF fs).Stop, (lastF fs).Mask⟩
def advance (p : List D.Ins) (x : D.Warp) : D.Warp := ⟨x.Number, setTop x.Frames (turnPc p x), applyAll (topIns p x) x.Number (lastF x.Frames).Mask x.Regs⟩
def impl_Warp_advance (x : D.Warp) (p : List D.Ins) : D.Warp := advance p x
def impl_Warp_advance_pre (x : D.Warp) (p : List D.Ins) : Prop := Runs p x
def isSplit (p : List D.Ins) (x : D.Warp) : Prop := (topIns p x).Op = 10 ∧ (topIns p x).B ≠ topPc x + 1
def separated (p : List D.Ins) (x : D.Warp) : D.Warp :=
  ⟨x.Number, setTop x.Frames (joinB p (topPc x)) ++ [⟨topPc x + 1, joinB p (topPc x), bitNot .i64 (lastF x.Frames).Mask (zeroMask x (topIns p x).A)⟩, ⟨(topIns p x).B, joinB p (topPc x), zeroMask x (topIns p x).A⟩], x.Regs⟩
def impl_Warp_separate (x : D.Warp) (p : List D.Ins) : Bool × D.Warp := if x.Frames.length ≤ 22 then (true, separated p x) else (false, x)
def impl_Warp_separate_pre (x : D.Warp) (p : List D.Ins) : Prop := Runs p x ∧ isSplit p x
def stepW (p : List D.Ins) (x : D.Warp) : D.Warp := dropW (if splits p x then separated p x else advance p x) p.length
def Goes (p : List D.Ins) (x : D.Warp) : Prop := Runs p x ∧ spec_l13Local p x = true
def spec_l13Step := stepW
def spec_l13Step_pre (p : List D.Ins) (x : D.Warp) : Prop := Goes p x
def Fine (p : List D.Ins) (x : D.Warp) : Prop := programOk p = true ∧ warpOf p x = true
def impl_Warp_pass (x : D.Warp) (p : List D.Ins) : Bool × D.Warp := if spec_l13Local p x then (true, stepW p x) else (false, x)
def impl_Warp_pass_pre (x : D.Warp) (p : List D.Ins) : Prop := Fine p x
def runW (p : List D.Ins) : Nat → D.Warp → Int → D.Warp × Int
  | 0, x, n => (x, n)
  | k + 1, x, n => if spec_l13Local p x then runW p k (stepW p x) (n + 1) else (x, n)
def spec_l14Run (p : List D.Ins) (x : D.Warp) (steps : Int) : D.Warp × Int := runW p steps.toNat x 0
def spec_l14Run_pre (p : List D.Ins) (x : D.Warp) (steps : Int) : Prop := Fine p x ∧ 0 ≤ steps ∧ steps ≤ 1000000
def runWarp (p : List D.Ins) (x : D.Warp) (steps : Int) : D.Warp × Int := if isQuiet p && (spec_WarpOk p x && isIn steps 0 8000) then runW p steps.toNat x 0 else (x, -1)
def impl_RunWarp := runWarp
def impl_RunWarp_pre (p : List D.Ins) (x : D.Warp) (steps : Int) : Prop := Long p ∧ WFit x
def impl_WarpOk := spec_WarpOk
def impl_WarpOk_pre (p : List D.Ins) (x : D.Warp) : Prop := Long p ∧ WLong x
def wAt (p : List D.Ins) (x : D.Warp) : Nat → D.Warp
  | 0 => x
  | k + 1 => stepW p (wAt p x k)
end Go.V.M
set_option linter.unusedVariables false
namespace Go.V.M
def once (c : D.Cur) (n : Int) : Bool × D.Cur := ((spec_l01Below c n).1 == 0, (spec_l01Below c n).2)
def spec_l01Once := once
def spec_l01Once_pre (c : D.Cur) (n : Int) : Prop := CurOk c
def setB (p : List D.Ins) (k : Nat) (v : Int) : List D.Ins := p.set k ⟨(rd p (k : Int)).Op, (rd p (k : Int)).A, v, (rd p (k : Int)).C⟩
def loopHead (p : List D.Ins) : List D.Ins := p ++ [(⟨8, 3, 0, 0⟩ : D.Ins)]
def loopAll (p : List D.Ins) : List D.Ins := ((loopHead p ++ [(⟨10, 3, 0, 0⟩ : D.Ins)]) ++ [(⟨3, 0, 0, 1⟩ : D.Ins), (⟨1, 2, 1, 0⟩ : D.Ins), (⟨4, 3, 3, 2⟩ : D.Ins)]) ++ [(⟨11, 0, (((loopHead p).length : Nat) : Int), 0⟩ : D.Ins)]
def countLoop (p : List D.Ins) : List D.Ins := setB (loopAll p) (loopHead p).length (((loopAll p).length : Nat) : Int)
def branchIn (rec : D.Cur → List D.Ins → List D.Ins × D.Cur) (c : D.Cur) (p : List D.Ins) : List D.Ins × D.Cur := rec (spec_l01Below c 4).2 (p ++ [⟨10, (spec_l01Below c 4).1, 0, 0⟩])
def elseIn (rec : D.Cur → List D.Ins → List D.Ins × D.Cur) (c : D.Cur) (p q : List D.Ins) : List D.Ins × D.Cur := rec c (setB (q ++ [⟨11, 0, 0, 0⟩]) p.length (((q ++ [(⟨11, 0, 0, 0⟩ : D.Ins)]).length : Nat) : Int))
def ifIn (rec : D.Cur → List D.Ins → List D.Ins × D.Cur) (c : D.Cur) (p : List D.Ins) : List D.Ins × D.Cur :=
  if (once (branchIn rec c p).2 2).1 then (setB (branchIn rec c p).1 p.length (((branchIn rec c p).1.length : Nat) : Int), (once (branchIn rec c p).2 2).2)
  else (setB (elseIn rec (once (branchIn rec c p).2 2).2 p (branchIn rec c p).1).1 (branchIn rec c p).1.length (((elseIn rec (once (branchIn rec c p).2 2).2 p (branchIn rec c p).1).1.length : Nat) : Int), (elseIn rec (once (branchIn rec c p).2 2).2 p (branchIn rec c p).1).2)
def bodyOne (rec : D.Cur → List D.Ins → List D.Ins × D.Cur) (deep : Bool) (c : D.Cur) (p : List D.Ins) : List D.Ins × D.Cur :=
  if (spec_l01Below c 5).1 = 0 then (if deep then ifIn rec (spec_l01Below c 5).2 p else (p, (spec_l01Below c 5).2))
  else if (spec_l01Below c 5).1 = 1 then (if deep ∧ ¬ ((p.length : Nat) : Int) > 14 then (countLoop p, (spec_l01Below c 5).2) else (p, (spec_l01Below c 5).2))
  else (p ++ [(spec_l04Plain (spec_l01Below c 5).2).1], (spec_l04Plain (spec_l01Below c 5).2).2)
def bodyN (rec : D.Cur → List D.Ins → List D.Ins × D.Cur) (deep : Bool) : Nat → D.Cur → List D.Ins → List D.Ins × D.Cur
  | 0, c, p => (p, c)
  | n + 1, c, p => if ((p.length : Nat) : Int) < 20 then bodyN rec deep n (bodyOne rec deep c p).2 (bodyOne rec deep c p).1 else (p, c)
def body : Nat → D.Cur → List D.Ins → List D.Ins × D.Cur
  | 0, c, p => bodyN (fun c p => (p, c)) false (spec_l01Below c 4).1.toNat (spec_l01Below c 4).2 p
  | d + 1, c, p => bodyN (body d) true (spec_l01Below c 4).1.toNat (spec_l01Below c 4).2 p
def spec_l05Body (c : D.Cur) (p : List D.Ins) (d : Int) : List D.Ins × D.Cur := body d.toNat c p
def spec_l05Body_pre (c : D.Cur) (p : List D.Ins) (d : Int) : Prop := CurOk c ∧ p.length ≤ 24 ∧ 0 ≤ d ∧ d ≤ 2
def startQ (c : D.Cur) : List D.Ins × D.Cur := if (once c 4).1 then ([], (once c 4).2) else ([⟨8, (spec_l01Below (once c 4).2 2).1, 0, 0⟩], (spec_l01Below (once c 4).2 2).2)
def bodyQ (c : D.Cur) : List D.Ins × D.Cur := body 2 (startQ c).2 (startQ c).1
def spec_l05Quiet (c : D.Cur) : List D.Ins × D.Cur :=
  if (once (bodyQ c).2 6).1 && decide ((((bodyQ c).1.length : Nat) : Int) > 1) then ((bodyQ c).1.set (spec_l01Below (once (bodyQ c).2 6).2 (bodyQ c).1.length).1.toNat ⟨12, 0, 0, 0⟩, (spec_l01Below (once (bodyQ c).2 6).2 (bodyQ c).1.length).2)
  else ((bodyQ c).1, (once (bodyQ c).2 6).2)
def spec_l05Quiet_pre (c : D.Cur) : Prop := CurOk c
def caseP (c : D.Cur) : List D.Ins × D.Cur := if (once (spec_l05Quiet c).2 3).1 then spec_l07Wild (once (spec_l05Quiet c).2 3).2 else ((spec_l05Quiet c).1, (once (spec_l05Quiet c).2 3).2)
def caseW (c : D.Cur) : D.Warp := newWarp (caseP c).1 (spec_l01Below (caseP c).2 3).1
def caseR (c : D.Cur) : List Int × D.Cur := if (once (spec_l01Below (caseP c).2 3).2 3).1 then spec_l02Words (once (spec_l01Below (caseP c).2 3).2 3).2 32 else ((caseW c).Regs, (once (spec_l01Below (caseP c).2 3).2 3).2)
def spec_l14Case (c : D.Cur) : List D.Ins × D.Warp × D.Cur :=
  ((caseP c).1, (runW (caseP c).1 (spec_l01Below (caseR c).2 30).1.toNat ⟨(caseW c).Number, (caseW c).Frames, (caseR c).1⟩ 0).1, (spec_l01Below (caseR c).2 30).2)
def spec_l14Case_pre (c : D.Cur) : Prop := CurOk c
def spec_DrawWarp (b : List Int) : List D.Ins × D.Warp := ((spec_l14Case (spec_l01New b)).1, (spec_l14Case (spec_l01New b)).2.1)
def spec_DrawWarp_pre (b : List Int) : Prop := Long b
def laws_FnWarpParts (b : List Int) : Bool := true
def laws_FnWarpParts_pre (b : List Int) : Prop := Long b
end Go.V.M
set_option linter.unusedVariables false
namespace Go.V
def wp.impl_within (x0 : Int) (x1 : Int) (x2 : Int) (Q : Bool → Prop) : Prop :=
  bcase (decide (x0 ≥ x1)) (Q (decide (x0 ≤ x2))) (Q false)
def wp.spec_l01In (x0 : Int) (x1 : Int) (x2 : Int) (Q : Bool → Prop) : Prop :=
  bcase (decide (x0 ≥ x1)) (Q (decide (x0 ≤ x2))) (Q false)
def wp.impl_IsWord (x0 : Int) (Q : Bool → Prop) : Prop :=
  (∀ r21, r21 = M.impl_within x0 0 65535 → Q r21)
def wp.spec_IsWord (x0 : Int) (Q : Bool → Prop) : Prop :=
  (∀ r21, r21 = M.spec_l01In x0 0 65535 → Q r21)
def wp.impl_IsMask (x0 : Int) (Q : Bool → Prop) : Prop :=
  (∀ r21, r21 = M.impl_within x0 0 255 → Q r21)
def wp.impl_isLane (x0 : Int) (Q : Bool → Prop) : Prop :=
  (∀ r21, r21 = M.impl_within x0 0 7 → Q r21)
def wp.impl_HasLane (x0 : Int) (x1 : Int) (Q : Bool → Prop) : Prop :=
  (∀ r21, r21 = M.impl_IsMask x0 → bcase r21 ((∀ r26, r26 = M.impl_isLane x1 → bcase r26 (((0 ≤ x1) ∧ Q ((bitAnd .i64 (Int.fdiv x0 (2 ^ (min (x1.toNat) (IntKind.bits .i64)))) 1) == 1))) (Q false))) (Q false))
def wp.impl_LanesOf (x0 : Int) (Q : (List Int) → Prop) : Prop :=
  LoopP (σ := (List Int) × Int × Unit) (fun (p54 : (List Int) × Int × Unit) next31 => match p54 with | (xs24, i27, _) => bcase (decide (i27 < 8)) ((∀ r33, r33 = M.impl_HasLane x0 i27 → bcase r33 (((xs24.length + ([i27] : List Int).length ≤ 17179869184) ∧ next31 ((xs24 ++ ([i27] : List Int)), (IntKind.wrap .i64 (i27 + 1)), ()))) (next31 (xs24, (IntKind.wrap .i64 (i27 + 1)), ())))) (Q xs24)) (([] : List Int), 0, ())
end Go.V
set_option linter.unusedVariables false
set_option linter.unusedSimpArgs false
namespace Go.V
theorem wp.impl_within.math (x a b : Int) : wp.impl_within x a b (fun r => r = M.impl_within x a b) := by
  simp only [wp.impl_within, bcase_iff, M.impl_within, M.isIn]
  exact ⟨fun h => by simp at h; simp [h], fun h => by simp at h; simp; omega⟩
theorem wp.spec_l01In.math (x a b : Int) : wp.spec_l01In x a b (fun r => r = M.spec_l01In x a b) := wp.impl_within.math x a b
theorem wp.impl_IsWord.math (x : Int) : wp.impl_IsWord x (fun r => r = M.impl_IsWord x) := fun r h => h
theorem wp.spec_IsWord.math (x : Int) : wp.spec_IsWord x (fun r => r = M.spec_IsWord x) := fun r h => h
theorem wp.impl_IsMask.math (x : Int) : wp.impl_IsMask x (fun r => r = M.impl_IsMask x) := fun r h => h
theorem wp.impl_isLane.math (x : Int) : wp.impl_isLane x (fun r => r = M.impl_isLane x) := fun r h => h
theorem wp.impl_HasLane.math (m l : Int) : wp.impl_HasLane m l (fun r => r = M.impl_HasLane m l) := by
  intro r1 h1
  refine bcase_mk (fun e1 r2 h2 => bcase_mk (fun e2 => ?_) fun e2 => ?_) fun e1 => ?_
  · have : M.isLane l = true := by rw [← e2, h2]; rfl
    have h0 : 0 ≤ l := by simp [M.isLane, M.isIn] at this; omega
    refine ⟨h0, ?_⟩
    have e1' : M.isMask m = true := by rw [← e1, h1]; rfl
    simp [M.impl_HasLane, M.hasLane, e1', this]
  · have : M.isLane l = false := by rw [← e2, h2]; rfl
    simp [M.impl_HasLane, M.hasLane, this]
  · have : M.isMask m = false := by rw [← e1, h1]; rfl
    simp [M.impl_HasLane, M.hasLane, this]
theorem wp.impl_LanesOf.math (m : Int) : wp.impl_LanesOf m (fun r => r = M.impl_LanesOf m) := by
  unfold wp.impl_LanesOf
  refine ⟨fun k p => (k : Int) = 8 - p.2.1 ∧ 0 ≤ p.2.1 ∧ p.2.1 ≤ 8 ∧ p.1 = ([0, 1, 2, 3, 4, 5, 6, 7].take p.2.1.toNat).filter (M.hasLane m), ⟨8, by simp⟩, ?_⟩
  rintro k ⟨xs, i, _⟩ ⟨hk, h0, h8, hx⟩
  simp only at hk h0 h8 hx ⊢
  refine bcase_mk (fun e => ?_) fun e => ?_
  · have hlt : i < 8 := by simpa using e
    intro r hr
    have hs : (([0, 1, 2, 3, 4, 5, 6, 7] : List Int).take (i + 1).toNat) = ([0, 1, 2, 3, 4, 5, 6, 7] : List Int).take i.toNat ++ [i] := by
      have : i = 0 ∨ i = 1 ∨ i = 2 ∨ i = 3 ∨ i = 4 ∨ i = 5 ∨ i = 6 ∨ i = 7 := by omega
      rcases this with rfl | rfl | rfl | rfl | rfl | rfl | rfl | rfl <;> rfl
    have hw : IntKind.wrap .i64 (i + 1) = i + 1 := w64 (by omega) (by omega)
    refine bcase_mk (fun e2 => ⟨?_, (k - 1), by omega, ?_⟩) fun e2 => ⟨k - 1, by omega, ?_⟩
    · rw [hx]
      have := List.length_filter_le (M.hasLane m) (([0, 1, 2, 3, 4, 5, 6, 7] : List Int).take i.toNat)
      simp at this ⊢; omega
    · simp only [hw, hs, List.filter_append]
      refine ⟨by omega, by omega, by omega, ?_⟩
      rw [hx, List.filter_cons, if_pos (by rw [← e2, hr]; rfl)]; rfl
    · simp only [hw, hs, List.filter_append]
      refine ⟨by omega, by omega, by omega, ?_⟩
      rw [hx, List.filter_cons, if_neg (by rw [show M.hasLane m i = r from hr.symm, e2]; simp)]; simp
  · have : i = 8 := by simp at e; omega
    subst this
    rw [hx]; rfl
end Go.V
set_option linter.unusedVariables false
namespace Go.V
def wp.spec_WrapWord (x0 : Int) (Q : Int → Prop) : Prop :=
  Q (Int.tmod (IntKind.wrap .i64 ((Int.tmod x0 65536) + 65536)) 65536)
def wp.spec_AddWords (x0 : Int) (x1 : Int) (Q : Int → Prop) : Prop :=
  (∀ r21, r21 = M.spec_IsWord x0 → bcase (!r21) (Q 0) ((∀ r26, r26 = M.spec_IsWord x1 → bcase (!r26) (Q 0) ((∀ r31, r31 = M.spec_WrapWord (IntKind.wrap .i64 (x0 + x1)) → Q r31)))))
def wp.slices_IndexFunc_int_int (xs0 : List Int) (g1 : Int → Bool) (D1 : Int → Prop) (Q : Int → Prop) : Prop :=
  LoopP (σ := Int × Unit) (fun (p42 : Int × Unit) next25 => match p42 with | (i21, _) => bcase (decide (i21 < ((xs0.length : Nat) : Int))) (((0 ≤ i21 ∧ i21 < ((xs0.length : Nat) : Int)) ∧ (D1 (rd xs0 i21) ∧ ∀ r32, r32 = g1 (rd xs0 i21) → bcase r32 (Q i21) (next25 ((IntKind.wrap .i64 (i21 + 1)), ()))))) (Q (-1))) (0, ())
def wp.slices_ContainsFunc_int_int (xs0 : List Int) (g1 : Int → Bool) (D1 : Int → Prop) (Q : Bool → Prop) : Prop :=
  (M.slices_IndexFunc_int_int_pre xs0 g1 D1 ∧ ∀ r21, r21 = M.slices_IndexFunc_int_int xs0 g1 → Q (decide (r21 ≥ 0)))
def wp.impl_AreWords_1 (x0 : Int) (Q : Bool → Prop) : Prop :=
  (∀ r21, r21 = M.impl_IsWord x0 → Q (!r21))
def wp.impl_AreWords (xs0 : List Int) (Q : Bool → Prop) : Prop :=
  (M.slices_ContainsFunc_int_int_pre xs0 (fun z0_ => M.impl_AreWords_1 z0_) (fun _ => True) ∧ ∀ r21, r21 = M.slices_ContainsFunc_int_int xs0 (fun z0_ => M.impl_AreWords_1 z0_) → Q (!r21))
def wp.impl_WrapWord (x0 : Int) (Q : Int → Prop) : Prop :=
  Q (bitAnd .i64 x0 65535)
def wp.impl_wrapped (x0 : Int) (x1 : Int) (x2 : Int) (Q : Int → Prop) : Prop :=
  (∀ r21, r21 = M.impl_IsWord x0 → bcase (!r21) (Q 0) ((∀ r26, r26 = M.impl_IsWord x1 → bcase (!r26) (Q 0) ((∀ r31, r31 = M.impl_WrapWord x2 → Q r31)))))
def wp.impl_AddWords (x0 : Int) (x1 : Int) (Q : Int → Prop) : Prop :=
  (∀ r21, r21 = M.impl_wrapped x0 x1 (IntKind.wrap .i64 (x0 + x1)) → Q r21)
def wp.spec_IsMask (x0 : Int) (Q : Bool → Prop) : Prop :=
  (∀ r21, r21 = M.spec_l01In x0 0 255 → Q r21)
def wp.spec_HasLane (x0 : Int) (x1 : Int) (Q : Bool → Prop) : Prop :=
  (∀ r21, r21 = M.spec_IsMask x0 → bcase r21 ((∀ r26, r26 = M.spec_l01In x1 0 7 → bcase r26 (((0 ≤ x1) ∧ Q ((bitAnd .i64 (Int.fdiv x0 (2 ^ (min (x1.toNat) (IntKind.bits .i64)))) 1) == 1))) (Q false))) (Q false))
end Go.V
set_option linter.unusedVariables false
set_option linter.unusedSimpArgs false
namespace Go.V
theorem isWord_iff {x : Int} : M.isWord x = true ↔ 0 ≤ x ∧ x ≤ 65535 := by simp [M.isWord, M.isIn]
theorem isLane_iff {x : Int} : M.isLane x = true ↔ 0 ≤ x ∧ x ≤ 7 := by simp [M.isLane, M.isIn]
theorem rd_mem {α : Type} [Inhabited α] {xs : List α} {k : Nat} (h : k < xs.length) : rd xs (k : Int) ∈ xs := by rw [rd_nat h]; exact List.getElem_mem h
theorem nt {r x : Bool} (e : (!r) = true) (h : r = x) : x = false := by subst h; simpa using e
theorem nf {r x : Bool} (e : (!r) = false) (h : r = x) : x = true := by subst h; simpa using e
theorem bitAnd_mod (x : Int) : bitAnd .i64 x 65535 = x % 65536 := by
  unfold bitAnd
  have e1 : (BitVec.ofInt (IntKind.bits .i64) x &&& BitVec.ofInt (IntKind.bits .i64) 65535).toNat = (x % 65536).toNat := by
    show (BitVec.ofInt 64 x &&& BitVec.ofInt 64 65535).toNat = _
    rw [BitVec.toNat_and, BitVec.toNat_ofInt, show (BitVec.ofInt 64 65535).toNat = 2 ^ 16 - 1 from rfl, Nat.and_two_pow_sub_one_eq_mod]
    rw [show ((2 ^ 64 : Nat) : Int) = 18446744073709551616 from rfl]
    omega
  rw [e1, w64 (by omega) (by omega)]
  omega
theorem wp.impl_WrapWord.math (x : Int) : wp.impl_WrapWord x (fun r => r = M.impl_WrapWord x) := bitAnd_mod x
theorem wp.spec_WrapWord.math (x : Int) : wp.spec_WrapWord x (fun r => r = M.spec_WrapWord x) := by
  show Int.tmod (IntKind.wrap .i64 (Int.tmod x 65536 + 65536)) 65536 = x % 65536
  have h1 : Int.tmod x 65536 < 65536 := Int.tmod_lt_of_pos x (by omega)
  have h2 : -65536 < Int.tmod x 65536 := by
    have := Int.tmod_lt_of_pos (-x) (b := 65536) (by omega)
    rw [Int.neg_tmod] at this; omega
  rw [w64 (by omega) (by omega), Int.tmod_eq_emod_of_nonneg (by omega)]
  have h3 : x = 65536 * Int.tdiv x 65536 + Int.tmod x 65536 := (Int.mul_tdiv_add_tmod x 65536).symm
  omega
theorem wp.spec_AddWords.math (a b : Int) : wp.spec_AddWords a b (fun r => r = M.spec_AddWords a b) := by
  intro r1 h1
  refine bcase_mk (fun e1 => ?_) fun e1 r2 h2 => bcase_mk (fun e2 => ?_) fun e2 r3 h3 => ?_
  · have : M.isWord a = false := nt e1 h1
    simp [M.spec_AddWords, M.addW, this]
  · have : M.isWord b = false := nt e2 h2
    simp [M.spec_AddWords, M.addW, this]
  · have ha : M.isWord a = true := nf e1 h1
    have hb : M.isWord b = true := nf e2 h2
    have := isWord_iff.1 ha
    have := isWord_iff.1 hb
    rw [h3, w64 (by omega) (by omega)]
    simp [M.spec_AddWords, M.addW, M.spec_WrapWord, ha, hb]
theorem wp.impl_wrapped.math (a b n : Int) : wp.impl_wrapped a b n (fun r => r = M.impl_wrapped a b n) := by
  intro r1 h1
  refine bcase_mk (fun e1 => ?_) fun e1 r2 h2 => bcase_mk (fun e2 => ?_) fun e2 r3 h3 => ?_
  · have : M.isWord a = false := nt e1 h1
    simp [M.impl_wrapped, this]
  · have : M.isWord b = false := nt e2 h2
    simp [M.impl_wrapped, this]
  · have ha : M.isWord a = true := nf e1 h1
    have hb : M.isWord b = true := nf e2 h2
    rw [h3]
    simp [M.impl_wrapped, M.impl_WrapWord, ha, hb]
theorem wp.impl_AddWords.math (a b : Int) : wp.impl_AddWords a b (fun r => r = M.impl_AddWords a b) := by
  intro r hr
  rw [hr]
  simp only [M.impl_wrapped, M.impl_AddWords, M.addW]
  by_cases h : (M.isWord a && M.isWord b) = true
  · rw [if_pos h, if_pos h]
    simp only [Bool.and_eq_true, isWord_iff] at h
    rw [w64 (by omega) (by omega)]
  · rw [if_neg h, if_neg h]
theorem firstIx_from {α : Type} [Inhabited α] (g : α → Bool) (l : List α) : ∀ (k : Nat), k < l.length → M.firstIx g (l.drop k) k = if g (rd l (k : Int)) then (k : Int) else M.firstIx g (l.drop (k + 1)) (k + 1) := by
  intro k hk
  rw [List.drop_eq_getElem_cons hk, rd_nat hk]; rfl
theorem wp.slices_IndexFunc_int_int.math (l : List Int) (g : Int → Bool) (D : Int → Prop) (h : M.slices_IndexFunc_int_int_pre l g D) : wp.slices_IndexFunc_int_int l g D (fun r => r = M.slices_IndexFunc_int_int l g) := by
  unfold wp.slices_IndexFunc_int_int
  obtain ⟨h1, h2⟩ := h
  refine loop_n l.length (fun k => ((k : Int), ())) (fun k => M.slices_IndexFunc_int_int l g = M.firstIx g (l.drop k) k) rfl (by simp [M.slices_IndexFunc_int_int]) (fun k hk hF next hn => ?_) fun hF next => ?_
  · rw [firstIx_from g l k hk] at hF
    refine bcase_t (by simp; omega) ⟨by omega, h2 _ (rd_mem hk), fun r hr => bcase_mk (fun e => ?_) fun e => ?_⟩
    · rw [hF, if_pos (by rw [← hr]; exact e)]
    · rw [up64 hk h1]
      exact hn (by rw [hF, if_neg (by rw [← hr, e]; simp)])
  · refine bcase_f (by simp) ?_
    rw [hF]; simp [M.firstIx]
theorem firstIx_nonneg {α : Type} (g : α → Bool) : ∀ (l : List α) (k : Nat), decide (M.firstIx g l k ≥ 0) = l.any g
  | [], k => by simp [M.firstIx]
  | x :: l, k => by
    simp only [M.firstIx, List.any_cons]
    by_cases hx : g x = true
    · simp [hx]
    · simp only [hx, Bool.false_eq_true, if_false, Bool.false_or]; simpa [hx] using firstIx_nonneg g l (k + 1)
theorem wp.slices_ContainsFunc_int_int.math (l : List Int) (g : Int → Bool) (D : Int → Prop) (h : M.slices_ContainsFunc_int_int_pre l g D) : wp.slices_ContainsFunc_int_int l g D (fun r => r = M.slices_ContainsFunc_int_int l g) :=
  ⟨h, fun r hr => by rw [hr]; exact firstIx_nonneg g l 0⟩
theorem wp.impl_AreWords_1.math (x : Int) : wp.impl_AreWords_1 x (fun r => r = M.impl_AreWords_1 x) := fun r hr => by rw [hr]; rfl
theorem wp.impl_AreWords.math (l : List Int) (h : M.impl_AreWords_pre l) : wp.impl_AreWords l (fun r => r = M.impl_AreWords l) := by
  refine ⟨⟨h, fun _ _ => trivial⟩, fun r hr => ?_⟩
  rw [hr]
  simp only [M.slices_ContainsFunc_int_int, M.impl_AreWords, M.impl_AreWords_1]
  rw [← List.all_eq_not_any_not]
theorem wp.spec_IsMask.math (x : Int) : wp.spec_IsMask x (fun r => r = M.spec_IsMask x) := fun r hr => hr
theorem wp.spec_HasLane.math (m l : Int) : wp.spec_HasLane m l (fun r => r = M.spec_HasLane m l) := by
  intro r1 h1
  refine bcase_mk (fun e1 r2 h2 => bcase_mk (fun e2 => ?_) fun e2 => ?_) fun e1 => ?_
  · have : M.isLane l = true := by rw [← e2, h2]; rfl
    have h0 : 0 ≤ l := (isLane_iff.1 this).1
    refine ⟨h0, ?_⟩
    have e1' : M.isMask m = true := by rw [← e1, h1]; rfl
    simp [M.spec_HasLane, M.hasLane, e1', this]
  · have : M.isLane l = false := by rw [← e2, h2]; rfl
    simp [M.spec_HasLane, M.hasLane, this]
  · have : M.isMask m = false := by rw [← e1, h1]; rfl
    simp [M.spec_HasLane, M.hasLane, this]
theorem isWord_mod (x : Int) : M.isWord (x % 65536) = true := isWord_iff.2 ⟨by omega, by omega⟩
end Go.V
set_option linter.unusedVariables false
namespace Go.V
def wp.spec_IsLocal (s0 : D.Ins) (Q : Bool → Prop) : Prop :=
  (∀ r23, r23 = M.spec_l01In s0.Op 0 12 → Q r23)
def wp.spec_l04Reg (x0 : Int) (Q : Bool → Prop) : Prop :=
  (∀ r21, r21 = M.spec_l01In x0 0 3 → Q r21)
def wp.spec_InsOk (s0 : D.Ins) (x1 : Int) (Q : Bool → Prop) : Prop :=
  (∀ r23, r23 = M.spec_l01In x1 0 32 → bcase (!r23) (Q false) (JoinP (σ := Bool × Unit) (fun J29 => bcase (s0.Op == 0) (J29 (true, ())) (bcase (s0.Op == 12) (J29 (true, ())) (J29 ((s0.Op == 16), ())))) (fun (p124 : Bool × Unit) => match p124 with | (b28, _) => bcase b28 (bcase (s0.A == 0) (bcase (s0.B == 0) (Q (s0.C == 0)) (Q false)) (Q false)) (bcase (s0.Op == 1) ((∀ r36, r36 = M.spec_l04Reg s0.A → bcase r36 ((∀ r41, r41 = M.spec_IsWord s0.B → bcase r41 (Q (s0.C == 0)) (Q false))) (Q false))) (JoinP (σ := Bool × Unit) (fun J49 => bcase (s0.Op == 2) (J49 (true, ())) (bcase (s0.Op == 13) (J49 (true, ())) (bcase (s0.Op == 14) (J49 (true, ())) (J49 ((s0.Op == 15), ()))))) (fun (p120 : Bool × Unit) => match p120 with | (b48, _) => bcase b48 ((∀ r55, r55 = M.spec_l04Reg s0.A → bcase r55 ((∀ r60, r60 = M.spec_l04Reg s0.B → bcase r60 (Q (s0.C == 0)) (Q false))) (Q false))) (bcase (s0.Op == 8) ((∀ r67, r67 = M.spec_l04Reg s0.A → bcase r67 (bcase (s0.B == 0) (Q (s0.C == 0)) (Q false)) (Q false))) (bcase (s0.Op == 10) ((∀ r74, r74 = M.spec_l04Reg s0.A → bcase r74 ((∀ r79, r79 = M.spec_l01In s0.B 0 x1 → bcase r79 (Q (s0.C == 0)) (Q false))) (Q false))) (bcase (s0.Op == 11) (bcase (s0.A == 0) ((∀ r86, r86 = M.spec_l01In s0.B 0 x1 → bcase r86 (Q (s0.C == 0)) (Q false))) (Q false)) ((∀ r93, r93 = M.spec_l01In s0.Op 3 9 → bcase r93 ((∀ r98, r98 = M.spec_l04Reg s0.A → bcase r98 ((∀ r103, r103 = M.spec_l04Reg s0.B → bcase r103 ((∀ r108, r108 = M.spec_l04Reg s0.C → Q r108)) (Q false))) (Q false))) (Q false))))))))))))
def wp.spec_ProgramOk (xs0 : List D.Ins) (Q : Bool → Prop) : Prop :=
  LoopP (σ := Int × Unit) (fun (p42 : Int × Unit) next25 => match p42 with | (i21, _) => bcase (decide (i21 < ((xs0.length : Nat) : Int))) (((0 ≤ i21 ∧ i21 < ((xs0.length : Nat) : Int)) ∧ (∀ r32, r32 = M.spec_InsOk (rd xs0 i21) ((xs0.length : Nat) : Int) → bcase (!r32) (Q false) (next25 ((IntKind.wrap .i64 (i21 + 1)), ()))))) (Q (decide (((xs0.length : Nat) : Int) ≤ 32)))) (0, ())
def wp.spec_SubWords (x0 : Int) (x1 : Int) (Q : Int → Prop) : Prop :=
  (∀ r21, r21 = M.spec_IsWord x0 → bcase (!r21) (Q 0) ((∀ r26, r26 = M.spec_IsWord x1 → bcase (!r26) (Q 0) ((∀ r31, r31 = M.spec_WrapWord (IntKind.wrap .i64 (x0 - x1)) → Q r31)))))
def wp.spec_MulWords (x0 : Int) (x1 : Int) (Q : Int → Prop) : Prop :=
  (∀ r21, r21 = M.spec_IsWord x0 → bcase (!r21) (Q 0) ((∀ r26, r26 = M.spec_IsWord x1 → bcase (!r26) (Q 0) ((∀ r31, r31 = M.spec_WrapWord (IntKind.wrap .i64 (x0 * x1)) → Q r31)))))
def wp.spec_LessWords (x0 : Int) (x1 : Int) (Q : Int → Prop) : Prop :=
  (∀ r21, r21 = M.spec_IsWord x0 → bcase r21 ((∀ r26, r26 = M.spec_IsWord x1 → bcase r26 (bcase (decide (x0 < x1)) (Q 1) (Q 0)) (Q 0))) (Q 0))
def wp.spec_l10Apply (s0 : D.Ins) (x1 : Int) (xs2 : List Int) (Q : (List Int) → Prop) : Prop :=
  ((([] : List Int).length + xs2.length ≤ 17179869184) ∧ bcase (s0.Op == 1) (((0 ≤ s0.A ∧ s0.A < (((([] : List Int) ++ xs2).length : Nat) : Int)) ∧ Q (List.set (([] : List Int) ++ xs2) (s0.A.toNat) s0.B))) (bcase (s0.Op == 2) (((0 ≤ s0.B ∧ s0.B < ((xs2.length : Nat) : Int)) ∧ ((0 ≤ s0.A ∧ s0.A < (((([] : List Int) ++ xs2).length : Nat) : Int)) ∧ Q (List.set (([] : List Int) ++ xs2) (s0.A.toNat) (rd xs2 s0.B))))) (bcase (s0.Op == 3) (((0 ≤ s0.B ∧ s0.B < ((xs2.length : Nat) : Int)) ∧ ((0 ≤ s0.C ∧ s0.C < ((xs2.length : Nat) : Int)) ∧ (∀ r84, r84 = M.spec_AddWords (rd xs2 s0.B) (rd xs2 s0.C) → ((0 ≤ s0.A ∧ s0.A < (((([] : List Int) ++ xs2).length : Nat) : Int)) ∧ Q (List.set (([] : List Int) ++ xs2) (s0.A.toNat) r84)))))) (bcase (s0.Op == 4) (((0 ≤ s0.B ∧ s0.B < ((xs2.length : Nat) : Int)) ∧ ((0 ≤ s0.C ∧ s0.C < ((xs2.length : Nat) : Int)) ∧ (∀ r128, r128 = M.spec_SubWords (rd xs2 s0.B) (rd xs2 s0.C) → ((0 ≤ s0.A ∧ s0.A < (((([] : List Int) ++ xs2).length : Nat) : Int)) ∧ Q (List.set (([] : List Int) ++ xs2) (s0.A.toNat) r128)))))) (bcase (s0.Op == 5) (((0 ≤ s0.B ∧ s0.B < ((xs2.length : Nat) : Int)) ∧ ((0 ≤ s0.C ∧ s0.C < ((xs2.length : Nat) : Int)) ∧ (∀ r172, r172 = M.spec_MulWords (rd xs2 s0.B) (rd xs2 s0.C) → ((0 ≤ s0.A ∧ s0.A < (((([] : List Int) ++ xs2).length : Nat) : Int)) ∧ Q (List.set (([] : List Int) ++ xs2) (s0.A.toNat) r172)))))) (bcase (s0.Op == 6) (((0 ≤ s0.B ∧ s0.B < ((xs2.length : Nat) : Int)) ∧ ((0 ≤ s0.C ∧ s0.C < ((xs2.length : Nat) : Int)) ∧ ((0 ≤ s0.A ∧ s0.A < (((([] : List Int) ++ xs2).length : Nat) : Int)) ∧ Q (List.set (([] : List Int) ++ xs2) (s0.A.toNat) (bitXor .i64 (rd xs2 s0.B) (rd xs2 s0.C))))))) (bcase (s0.Op == 7) (((0 ≤ s0.B ∧ s0.B < ((xs2.length : Nat) : Int)) ∧ ((0 ≤ s0.C ∧ s0.C < ((xs2.length : Nat) : Int)) ∧ (∀ r235, r235 = M.spec_LessWords (rd xs2 s0.B) (rd xs2 s0.C) → ((0 ≤ s0.A ∧ s0.A < (((([] : List Int) ++ xs2).length : Nat) : Int)) ∧ Q (List.set (([] : List Int) ++ xs2) (s0.A.toNat) r235)))))) (bcase (s0.Op == 8) (((0 ≤ s0.A ∧ s0.A < (((([] : List Int) ++ xs2).length : Nat) : Int)) ∧ Q (List.set (([] : List Int) ++ xs2) (s0.A.toNat) x1))) (bcase (s0.Op == 9) (((0 ≤ s0.C ∧ s0.C < ((xs2.length : Nat) : Int)) ∧ bcase ((rd xs2 s0.C) != 0) (((0 ≤ s0.B ∧ s0.B < ((xs2.length : Nat) : Int)) ∧ ((0 ≤ s0.A ∧ s0.A < (((([] : List Int) ++ xs2).length : Nat) : Int)) ∧ Q (List.set (([] : List Int) ++ xs2) (s0.A.toNat) (rd xs2 s0.B))))) (Q (([] : List Int) ++ xs2)))) (Q (([] : List Int) ++ xs2)))))))))))
def wp.slices_Clone_int_int (xs0 : List Int) (Q : (List Int) → Prop) : Prop :=
  (∀ b21 : Bool, (b21 = true → xs0 = []) → bcase b21 (Q ([] : List Int)) (((([] : List Int).length + xs0.length ≤ 17179869184) ∧ Q (([] : List Int) ++ xs0))))
def wp.impl_formOf (x0 : Int) (Q : ByteArray → Prop) : Prop :=
  (∀ r21, r21 = M.impl_within x0 0 16 → bcase (!r21) (Q (⟨#[]⟩)) (((0 ≤ x0 ∧ x0 < ((([⟨#[45, 45, 45]⟩, ⟨#[82, 87, 45]⟩, ⟨#[82, 82, 45]⟩, ⟨#[82, 82, 82]⟩, ⟨#[82, 82, 82]⟩, ⟨#[82, 82, 82]⟩, ⟨#[82, 82, 82]⟩, ⟨#[82, 82, 82]⟩, ⟨#[82, 45, 45]⟩, ⟨#[82, 82, 82]⟩, ⟨#[82, 84, 45]⟩, ⟨#[45, 84, 45]⟩, ⟨#[45, 45, 45]⟩, ⟨#[82, 82, 45]⟩, ⟨#[82, 82, 45]⟩, ⟨#[82, 82, 45]⟩, ⟨#[45, 45, 45]⟩] : List ByteArray).length : Nat) : Int)) ∧ Q (rd ([⟨#[45, 45, 45]⟩, ⟨#[82, 87, 45]⟩, ⟨#[82, 82, 45]⟩, ⟨#[82, 82, 82]⟩, ⟨#[82, 82, 82]⟩, ⟨#[82, 82, 82]⟩, ⟨#[82, 82, 82]⟩, ⟨#[82, 82, 82]⟩, ⟨#[82, 45, 45]⟩, ⟨#[82, 82, 82]⟩, ⟨#[82, 84, 45]⟩, ⟨#[45, 84, 45]⟩, ⟨#[45, 45, 45]⟩, ⟨#[82, 82, 45]⟩, ⟨#[82, 82, 45]⟩, ⟨#[82, 82, 45]⟩, ⟨#[45, 45, 45]⟩] : List ByteArray) x0))))
def wp.impl_isReg (x0 : Int) (Q : Bool → Prop) : Prop :=
  (∀ r21, r21 = M.impl_within x0 0 3 → Q r21)
def wp.impl_isField (x0 : Int) (x1 : Int) (x2 : Int) (Q : Bool → Prop) : Prop :=
  bcase (x0 == 82) ((∀ r21, r21 = M.impl_isReg x1 → Q r21)) (bcase (x0 == 87) ((∀ r26, r26 = M.impl_IsWord x1 → Q r26)) (bcase (x0 == 84) ((∀ r31, r31 = M.impl_within x1 0 x2 → Q r31)) (Q (x1 == 0))))
def wp.impl_InsOk (s0 : D.Ins) (x1 : Int) (Q : Bool → Prop) : Prop :=
  (∀ r23, r23 = M.impl_formOf s0.Op → bcase (!(ByteArray.toList r23 == ByteArray.toList (⟨#[]⟩))) ((∀ r28, r28 = M.impl_within x1 0 32 → bcase r28 (((0 ≤ (0 : Int) ∧ (0 : Int) < ((ByteArray.size r23 : Nat) : Int)) ∧ (M.impl_isField_pre (bt r23 0) s0.A x1 ∧ ∀ r38, r38 = M.impl_isField (bt r23 0) s0.A x1 → bcase r38 (((0 ≤ (1 : Int) ∧ (1 : Int) < ((ByteArray.size r23 : Nat) : Int)) ∧ (M.impl_isField_pre (bt r23 1) s0.B x1 ∧ ∀ r48, r48 = M.impl_isField (bt r23 1) s0.B x1 → bcase r48 (((0 ≤ (2 : Int) ∧ (2 : Int) < ((ByteArray.size r23 : Nat) : Int)) ∧ (M.impl_isField_pre (bt r23 2) s0.C x1 ∧ ∀ r58, r58 = M.impl_isField (bt r23 2) s0.C x1 → Q r58))) (Q false)))) (Q false)))) (Q false))) (Q false))
def wp.impl_ProgramOk_1 (s0 : D.Ins) (xs1 : List D.Ins) (Q : Bool → Prop) : Prop :=
  (∀ r23, r23 = M.impl_InsOk s0 ((xs1.length : Nat) : Int) → Q (!r23))
def wp.slices_IndexFunc_impl_Ins_impl_Ins (xs0 : List D.Ins) (g1 : D.Ins → Bool) (D1 : D.Ins → Prop) (Q : Int → Prop) : Prop :=
  LoopP (σ := Int × Unit) (fun (p42 : Int × Unit) next25 => match p42 with | (i21, _) => bcase (decide (i21 < ((xs0.length : Nat) : Int))) (((0 ≤ i21 ∧ i21 < ((xs0.length : Nat) : Int)) ∧ (D1 (rd xs0 i21) ∧ ∀ r32, r32 = g1 (rd xs0 i21) → bcase r32 (Q i21) (next25 ((IntKind.wrap .i64 (i21 + 1)), ()))))) (Q (-1))) (0, ())
def wp.slices_ContainsFunc_impl_Ins_impl_Ins (xs0 : List D.Ins) (g1 : D.Ins → Bool) (D1 : D.Ins → Prop) (Q : Bool → Prop) : Prop :=
  (M.slices_IndexFunc_impl_Ins_impl_Ins_pre xs0 g1 D1 ∧ ∀ r21, r21 = M.slices_IndexFunc_impl_Ins_impl_Ins xs0 g1 → Q (decide (r21 ≥ 0)))
def wp.impl_ProgramOk (xs0 : List D.Ins) (Q : Bool → Prop) : Prop :=
  bcase (decide (((xs0.length : Nat) : Int) ≤ 32)) ((M.slices_ContainsFunc_impl_Ins_impl_Ins_pre xs0 (fun z0_ => M.impl_ProgramOk_1 z0_ xs0) (fun _ => True) ∧ ∀ r23, r23 = M.slices_ContainsFunc_impl_Ins_impl_Ins xs0 (fun z0_ => M.impl_ProgramOk_1 z0_ xs0) → Q (!r23))) (Q false)
def wp.impl_IsLocal (s0 : D.Ins) (Q : Bool → Prop) : Prop :=
  (∀ r23, r23 = M.impl_within s0.Op 0 12 → Q r23)
def wp.impl_IsQuiet_1 (s0 : D.Ins) (Q : Bool → Prop) : Prop :=
  (∀ r23, r23 = M.impl_IsLocal s0 → Q (!r23))
def wp.impl_IsQuiet (xs0 : List D.Ins) (Q : Bool → Prop) : Prop :=
  (M.impl_ProgramOk_pre xs0 ∧ ∀ r21, r21 = M.impl_ProgramOk xs0 → bcase r21 ((M.slices_ContainsFunc_impl_Ins_impl_Ins_pre xs0 (fun z0_ => M.impl_IsQuiet_1 z0_) (fun _ => True) ∧ ∀ r26, r26 = M.slices_ContainsFunc_impl_Ins_impl_Ins xs0 (fun z0_ => M.impl_IsQuiet_1 z0_) → Q (!r26))) (Q false))
def wp.impl_SubWords (x0 : Int) (x1 : Int) (Q : Int → Prop) : Prop :=
  (∀ r21, r21 = M.impl_wrapped x0 x1 (IntKind.wrap .i64 (x0 - x1)) → Q r21)
def wp.impl_MulWords (x0 : Int) (x1 : Int) (Q : Int → Prop) : Prop :=
  (∀ r21, r21 = M.impl_wrapped x0 x1 (IntKind.wrap .i64 (x0 * x1)) → Q r21)
def wp.impl_LessWords (x0 : Int) (x1 : Int) (Q : Int → Prop) : Prop :=
  (∀ r21, r21 = M.impl_IsWord x0 → bcase r21 ((∀ r26, r26 = M.impl_IsWord x1 → bcase r26 (bcase (decide (x0 < x1)) (Q 1) (Q 0)) (Q 0))) (Q 0))
end Go.V
set_option linter.unusedVariables false
set_option linter.unusedSimpArgs false
namespace Go.V
theorem bcq {b x z : Bool} : bcase b (x = z) (false = z) ↔ (b && x) = z := by cases b <;> simp [bcase]
theorem wp.slices_Clone_int_int.math (l : List Int) (h : M.slices_Clone_int_int_pre l) : wp.slices_Clone_int_int l (fun r => r = M.slices_Clone_int_int l) := by
  intro b hb
  refine bcase_mk (fun e => ?_) fun e => ⟨by simpa [M.slices_Clone_int_int_pre] using h, rfl⟩
  rw [hb e]; rfl
theorem wp.spec_IsLocal.math (i : D.Ins) : wp.spec_IsLocal i (fun r => r = M.spec_IsLocal i) := fun r hr => hr
theorem wp.impl_IsLocal.math (i : D.Ins) : wp.impl_IsLocal i (fun r => r = M.impl_IsLocal i) := fun r hr => hr
theorem wp.spec_l04Reg.math (x : Int) : wp.spec_l04Reg x (fun r => r = M.spec_l04Reg x) := fun r hr => hr
theorem wp.impl_isReg.math (x : Int) : wp.impl_isReg x (fun r => r = M.impl_isReg x) := fun r hr => hr
theorem wp.spec_InsOk.math (i : D.Ins) (n : Int) : wp.spec_InsOk i n (fun r => r = M.spec_InsOk i n) := by
  simp only [wp.spec_InsOk, JoinP, forall_eq, M.spec_l01In, M.spec_l04Reg, M.spec_IsWord, bcq, M.spec_InsOk, M.insOk]
  refine bcase_mk (fun e => ?_) fun e => ?_
  · have hn : M.isIn n 0 32 = false := by simpa using e
    simp [hn]
  have hn : M.isIn n 0 32 = true := by simpa using e
  rw [hn, Bool.true_and]
  by_cases h0 : i.Op = 0
  · simp [h0, bcase, Bool.and_assoc]
  by_cases h12 : i.Op = 12
  · simp [h12, bcase, Bool.and_assoc]
  by_cases h16 : i.Op = 16
  · simp [h16, bcase, Bool.and_assoc]
  by_cases h1 : i.Op = 1
  · simp [h1, bcase, Bool.and_assoc]
  by_cases h2 : i.Op = 2
  · simp [h2, bcase, Bool.and_assoc]
  by_cases h13 : i.Op = 13
  · simp [h13, bcase, Bool.and_assoc]
  by_cases h14 : i.Op = 14
  · simp [h14, bcase, Bool.and_assoc]
  by_cases h15 : i.Op = 15
  · simp [h15, bcase, Bool.and_assoc]
  by_cases h8 : i.Op = 8
  · simp [h8, bcase, Bool.and_assoc]
  by_cases h10 : i.Op = 10
  · simp [h10, bcase, Bool.and_assoc]
  by_cases h11 : i.Op = 11
  · simp [h11, bcase, Bool.and_assoc]
  have b0 : (i.Op == 0) = false := by simp [h0]
  have b12 : (i.Op == 12) = false := by simp [h12]
  have b16 : (i.Op == 16) = false := by simp [h16]
  have b1 : (i.Op == 1) = false := by simp [h1]
  have b2 : (i.Op == 2) = false := by simp [h2]
  have b13 : (i.Op == 13) = false := by simp [h13]
  have b14 : (i.Op == 14) = false := by simp [h14]
  have b15 : (i.Op == 15) = false := by simp [h15]
  have b8 : (i.Op == 8) = false := by simp [h8]
  have b10 : (i.Op == 10) = false := by simp [h10]
  have b11 : (i.Op == 11) = false := by simp [h11]
  simp only [b0, b12, b16, b1, b2, b13, b14, b15, b8, b10, b11, bcase, h0, h12, h16, h1, h2, h13, h14, h15, h8, h10, h11, or_self, if_false]
theorem all_loop {α : Type} [Inhabited α] {l : List α} {g : α → Bool} (hl : M.Long l) {B : (Int × Unit) → ((Int × Unit) → Prop) → Prop} {Q : Bool → Prop}
    (hb : ∀ (k : Nat) (next : (Int × Unit) → Prop), k < l.length → (g (rd l (k : Int)) = false → l.all g = false → Q false) → (g (rd l (k : Int)) = true → next (((k + 1 : Nat) : Int), ())) → B ((k : Int), ()) next)
    (he : ∀ (next : (Int × Unit) → Prop), l.all g = true → B ((l.length : Int), ()) next) (hQ : l.all g = false → Q false) : LoopP B (0, ()) := by
  refine loop_n l.length (fun k => ((k : Int), ())) (fun k => (l.take k).all g = true) rfl (by simp) (fun k hk hF next hn => ?_) fun hF next => ?_
  · refine hb k next hk (fun e h => hQ h) fun e => ?_
    rw [rd_nat hk] at e
    exact hn (take_all_succ hk hF e)
  · rw [List.take_length] at hF
    exact he next hF
theorem all_false {α : Type} [Inhabited α] {l : List α} {g : α → Bool} {k : Nat} (hk : k < l.length) (e : g (rd l (k : Int)) = false) : l.all g = false := by
  rw [rd_nat hk] at e; exact all_at hk e
theorem wp.spec_ProgramOk.math (p : List D.Ins) (h : M.spec_ProgramOk_pre p) : wp.spec_ProgramOk p (fun r => r = M.spec_ProgramOk p) := by
  unfold wp.spec_ProgramOk
  refine all_loop (g := fun i => M.insOk i p.length) (Q := fun r => r = M.programOk p) h (fun k next hk h1 h2 => ?_) (fun next ha => ?_) fun ha => by simp only [M.programOk, ha, Bool.and_false]
  · refine bcase_t (by simp; omega) ⟨by omega, fun r hr => bcase_mk (fun e => ?_) fun e => ?_⟩
    · have := nt e hr
      exact h1 this (all_false (g := fun i => M.insOk i p.length) hk this)
    · rw [up64 hk h]; exact h2 (nf e hr)
  · refine bcase_f (by simp) ?_
    simp only [M.spec_ProgramOk, M.programOk, ha, Bool.and_true]
    by_cases h32 : p.length ≤ 32
    · simp [h32]; omega
    · simp [h32]; omega
theorem wp.impl_formOf.math (op : Int) : wp.impl_formOf op (fun r => r = M.impl_formOf op) := by
  intro r hr
  refine bcase_mk (fun e => ?_) fun e => ?_
  · have : M.isIn op 0 16 = false := nt e hr
    have h' : ¬ (0 ≤ op ∧ op ≤ 16) := by simpa [M.isIn] using this
    have h2 : M.isIn op 3 9 = false := by simp [M.isIn]; omega
    simp only [M.impl_formOf, M.formOf, h2]
    rw [if_neg (by omega), if_neg (by omega), if_neg (by omega), if_neg (by omega), if_neg (by omega), if_neg (by omega)]
    rfl
  · have : M.isIn op 0 16 = true := nf e hr
    have h' : 0 ≤ op ∧ op ≤ 16 := by simpa [M.isIn] using this
    refine ⟨by simp; omega, ?_⟩
    have : op = 0 ∨ op = 1 ∨ op = 2 ∨ op = 3 ∨ op = 4 ∨ op = 5 ∨ op = 6 ∨ op = 7 ∨ op = 8 ∨ op = 9 ∨ op = 10 ∨ op = 11 ∨ op = 12 ∨ op = 13 ∨ op = 14 ∨ op = 15 ∨ op = 16 := by omega
    rcases this with rfl | rfl | rfl | rfl | rfl | rfl | rfl | rfl | rfl | rfl | rfl | rfl | rfl | rfl | rfl | rfl | rfl <;> rfl
theorem wp.impl_isField.math (f x n : Int) (h : M.impl_isField_pre f x n) : wp.impl_isField f x n (fun r => r = M.impl_isField f x n) := by
  refine bcase_mk (fun e r hr => ?_) fun e1 => bcase_mk (fun e r hr => ?_) fun e2 => bcase_mk (fun e r hr => ?_) fun e3 => ?_
  · simp at e; simp [M.impl_isField, e, hr, M.impl_isReg]
  · simp at e; simp [M.impl_isField, e, hr, M.impl_IsWord]
  · simp at e; simp [M.impl_isField, e, hr, M.impl_within]
  · simp at e1 e2 e3; simp [M.impl_isField, e1, e2, e3]
theorem str_ne {a b : ByteArray} (h : ByteArray.toList a ≠ ByteArray.toList b) : (!(ByteArray.toList a == ByteArray.toList b)) = true := by simp [h]
theorem formOf_cases (op : Int) : (M.formOf op = ⟨#[45, 45, 45]⟩ ∧ (op = 0 ∨ op = 12 ∨ op = 16)) ∨ (M.formOf op = ⟨#[82, 87, 45]⟩ ∧ op = 1) ∨ (M.formOf op = ⟨#[82, 82, 45]⟩ ∧ (op = 2 ∨ op = 13 ∨ op = 14 ∨ op = 15)) ∨
    (M.formOf op = ⟨#[82, 45, 45]⟩ ∧ op = 8) ∨ (M.formOf op = ⟨#[82, 84, 45]⟩ ∧ op = 10) ∨ (M.formOf op = ⟨#[45, 84, 45]⟩ ∧ op = 11) ∨ (M.formOf op = ⟨#[82, 82, 82]⟩ ∧ (3 ≤ op ∧ op ≤ 7 ∨ op = 9)) ∨
    (M.formOf op = ⟨#[]⟩ ∧ (op < 0 ∨ op > 16)) := by
  unfold M.formOf
  by_cases a1 : op = 0 ∨ op = 12 ∨ op = 16
  · rw [if_pos a1]; exact .inl ⟨rfl, a1⟩
  rw [if_neg a1]
  by_cases a2 : op = 1
  · rw [if_pos a2]; exact .inr (.inl ⟨rfl, a2⟩)
  rw [if_neg a2]
  by_cases a3 : op = 2 ∨ op = 13 ∨ op = 14 ∨ op = 15
  · rw [if_pos a3]; exact .inr (.inr (.inl ⟨rfl, a3⟩))
  rw [if_neg a3]
  by_cases a4 : op = 8
  · rw [if_pos a4]; exact .inr (.inr (.inr (.inl ⟨rfl, a4⟩)))
  rw [if_neg a4]
  by_cases a5 : op = 10
  · rw [if_pos a5]; exact .inr (.inr (.inr (.inr (.inl ⟨rfl, a5⟩))))
  rw [if_neg a5]
  by_cases a6 : op = 11
  · rw [if_pos a6]; exact .inr (.inr (.inr (.inr (.inr (.inl ⟨rfl, a6⟩)))))
  rw [if_neg a6]
  by_cases a7 : 3 ≤ op ∧ op ≤ 9
  · rw [if_pos (by simp [M.isIn]; omega)]; exact .inr (.inr (.inr (.inr (.inr (.inr (.inl ⟨rfl, by omega⟩))))))
  rw [if_neg (by simp [M.isIn]; omega)]; exact .inr (.inr (.inr (.inr (.inr (.inr (.inr ⟨rfl, by omega⟩))))))
theorem ins_core {i : D.Ins} {n : Int} {f : ByteArray} {x y z : Int} (hx : bt f 0 = x) (hy : bt f 1 = y) (hz : bt f 2 = z) (hs : f.size = 3) (hf : ByteArray.toList f ≠ ByteArray.toList (⟨#[]⟩)) {P : Bool → Prop} (hin : M.isIn n 0 32 = false → P false)
    (h : M.isIn n 0 32 = true → P (M.impl_isField x i.A n && (M.impl_isField y i.B n && M.impl_isField z i.C n))) :
    bcase (!(ByteArray.toList f == ByteArray.toList (⟨#[]⟩))) ((∀ r28, r28 = M.impl_within n 0 32 → bcase r28 (((0 ≤ (0 : Int) ∧ (0 : Int) < ((ByteArray.size f : Nat) : Int)) ∧ (M.impl_isField_pre (bt f 0) i.A n ∧ ∀ r38, r38 = M.impl_isField (bt f 0) i.A n → bcase r38 (((0 ≤ (1 : Int) ∧ (1 : Int) < ((ByteArray.size f : Nat) : Int)) ∧ (M.impl_isField_pre (bt f 1) i.B n ∧ ∀ r48, r48 = M.impl_isField (bt f 1) i.B n → bcase r48 (((0 ≤ (2 : Int) ∧ (2 : Int) < ((ByteArray.size f : Nat) : Int)) ∧ (M.impl_isField_pre (bt f 2) i.C n ∧ ∀ r58, r58 = M.impl_isField (bt f 2) i.C n → P r58))) (P false)))) (P false)))) (P false))) (P false) := by
  refine bcase_t (str_ne hf) fun r1 h1 => bcase_mk (fun e1 => ⟨by omega, trivial, fun r2 h2 => bcase_mk (fun e2 => ⟨by omega, trivial, fun r3 h3 => bcase_mk (fun e3 => ⟨by omega, trivial, fun r4 h4 => ?_⟩) fun e3 => ?_⟩) fun e2 => ?_⟩) fun e1 => hin (h1.symm.trans e1)
  all_goals have hh := h (h1.symm.trans e1)
  · rw [hx] at h2; rw [hy] at h3; rw [hz] at h4
    rw [← h2, ← h3, ← h4, e2, e3] at hh; exact hh
  · rw [hx] at h2; rw [hy] at h3
    rw [← h2, ← h3, e2, e3] at hh; exact hh
  · rw [hx] at h2
    rw [← h2, e2] at hh; exact hh
theorem wp.impl_InsOk.math (i : D.Ins) (n : Int) : wp.impl_InsOk i n (fun r => r = M.impl_InsOk i n) := by
  intro r hr
  have hr' : r = M.formOf i.Op := hr
  rcases formOf_cases i.Op with ⟨e, h⟩ | ⟨e, h⟩ | ⟨e, h⟩ | ⟨e, h⟩ | ⟨e, h⟩ | ⟨e, h⟩ | ⟨e, h⟩ | ⟨e, h⟩
  case inr.inr.inr.inr.inr.inr.inr =>
    rw [hr', e]
    refine bcase_f (by simp) ?_
    simp only [M.impl_InsOk, M.insOk]
    rw [if_neg (by omega), if_neg (by omega), if_neg (by omega), if_neg (by omega), if_neg (by omega), if_neg (by omega)]
    have : M.isIn i.Op 3 9 = false := by simp [M.isIn]; omega
    simp [this]
  · rw [hr', e]
    refine ins_core (x := 45) (y := 45) (z := 45) (P := fun r => r = M.impl_InsOk i n) (by decide +kernel) (by decide +kernel) (by decide +kernel) rfl (by decide +kernel) (fun hn => by simp [M.impl_InsOk, M.insOk, hn]) fun hn => ?_
    simp only [M.impl_InsOk, M.insOk, hn, Bool.true_and]
    rw [if_pos h]
    simp [M.impl_isField]
  · rw [hr', e]
    refine ins_core (x := 82) (y := 87) (z := 45) (P := fun r => r = M.impl_InsOk i n) (by decide +kernel) (by decide +kernel) (by decide +kernel) rfl (by decide +kernel) (fun hn => by simp [M.impl_InsOk, M.insOk, hn]) fun hn => ?_
    simp only [M.impl_InsOk, M.insOk, hn, Bool.true_and]
    rw [if_neg (by omega), if_pos h]
    simp [M.impl_isField]
  · rw [hr', e]
    refine ins_core (x := 82) (y := 82) (z := 45) (P := fun r => r = M.impl_InsOk i n) (by decide +kernel) (by decide +kernel) (by decide +kernel) rfl (by decide +kernel) (fun hn => by simp [M.impl_InsOk, M.insOk, hn]) fun hn => ?_
    simp only [M.impl_InsOk, M.insOk, hn, Bool.true_and]
    rw [if_neg (by omega), if_neg (by omega), if_pos h]
    simp [M.impl_isField]
  · rw [hr', e]
    refine ins_core (x := 82) (y := 45) (z := 45) (P := fun r => r = M.impl_InsOk i n) (by decide +kernel) (by decide +kernel) (by decide +kernel) rfl (by decide +kernel) (fun hn => by simp [M.impl_InsOk, M.insOk, hn]) fun hn => ?_
    simp only [M.impl_InsOk, M.insOk, hn, Bool.true_and]
    rw [if_neg (by omega), if_neg (by omega), if_neg (by omega), if_pos h]
    simp [M.impl_isField]
  · rw [hr', e]
    refine ins_core (x := 82) (y := 84) (z := 45) (P := fun r => r = M.impl_InsOk i n) (by decide +kernel) (by decide +kernel) (by decide +kernel) rfl (by decide +kernel) (fun hn => by simp [M.impl_InsOk, M.insOk, hn]) fun hn => ?_
    simp only [M.impl_InsOk, M.insOk, hn, Bool.true_and]
    rw [if_neg (by omega), if_neg (by omega), if_neg (by omega), if_neg (by omega), if_pos h]
    simp [M.impl_isField]
  · rw [hr', e]
    refine ins_core (x := 45) (y := 84) (z := 45) (P := fun r => r = M.impl_InsOk i n) (by decide +kernel) (by decide +kernel) (by decide +kernel) rfl (by decide +kernel) (fun hn => by simp [M.impl_InsOk, M.insOk, hn]) fun hn => ?_
    simp only [M.impl_InsOk, M.insOk, hn, Bool.true_and]
    rw [if_neg (by omega), if_neg (by omega), if_neg (by omega), if_neg (by omega), if_neg (by omega), if_pos h]
    simp [M.impl_isField]
  · rw [hr', e]
    refine ins_core (x := 82) (y := 82) (z := 82) (P := fun r => r = M.impl_InsOk i n) (by decide +kernel) (by decide +kernel) (by decide +kernel) rfl (by decide +kernel) (fun hn => by simp [M.impl_InsOk, M.insOk, hn]) fun hn => ?_
    simp only [M.impl_InsOk, M.insOk, hn, Bool.true_and]
    rw [if_neg (by omega), if_neg (by omega), if_neg (by omega), if_neg (by omega), if_neg (by omega), if_neg (by omega)]
    have : M.isIn i.Op 3 9 = true := by simp [M.isIn]; omega
    simp [M.impl_isField, this]
theorem wp.impl_ProgramOk_1.math (i : D.Ins) (p : List D.Ins) : wp.impl_ProgramOk_1 i p (fun r => r = M.impl_ProgramOk_1 i p) := fun r hr => by rw [hr]; rfl
theorem wp.slices_IndexFunc_impl_Ins_impl_Ins.math (l : List D.Ins) (g : D.Ins → Bool) (D : D.Ins → Prop) (h : M.slices_IndexFunc_impl_Ins_impl_Ins_pre l g D) : wp.slices_IndexFunc_impl_Ins_impl_Ins l g D (fun r => r = M.slices_IndexFunc_impl_Ins_impl_Ins l g) := by
  unfold wp.slices_IndexFunc_impl_Ins_impl_Ins
  obtain ⟨h1, h2⟩ := h
  refine loop_n l.length (fun k => ((k : Int), ())) (fun k => M.slices_IndexFunc_impl_Ins_impl_Ins l g = M.firstIx g (l.drop k) k) rfl (by simp [M.slices_IndexFunc_impl_Ins_impl_Ins]) (fun k hk hF next hn => ?_) fun hF next => ?_
  · rw [firstIx_from g l k hk] at hF
    refine bcase_t (by simp; omega) ⟨by omega, h2 _ (rd_mem hk), fun r hr => bcase_mk (fun e => ?_) fun e => ?_⟩
    · rw [hF, if_pos (by rw [← hr]; exact e)]
    · rw [up64 hk h1]
      exact hn (by rw [hF, if_neg (by rw [← hr, e]; simp)])
  · refine bcase_f (by simp) ?_
    rw [hF]; simp [M.firstIx]
theorem wp.slices_ContainsFunc_impl_Ins_impl_Ins.math (l : List D.Ins) (g : D.Ins → Bool) (D : D.Ins → Prop) (h : M.slices_ContainsFunc_impl_Ins_impl_Ins_pre l g D) : wp.slices_ContainsFunc_impl_Ins_impl_Ins l g D (fun r => r = M.slices_ContainsFunc_impl_Ins_impl_Ins l g) :=
  ⟨h, fun r hr => by rw [hr]; exact firstIx_nonneg g l 0⟩
theorem wp.impl_ProgramOk.math (p : List D.Ins) (h : M.impl_ProgramOk_pre p) : wp.impl_ProgramOk p (fun r => r = M.impl_ProgramOk p) := by
  refine bcase_mk (fun e => ⟨⟨h, fun _ _ => trivial⟩, fun r hr => ?_⟩) fun e => ?_
  · have h32 : p.length ≤ 32 := by simp at e; omega
    rw [hr]
    simp only [M.slices_ContainsFunc_impl_Ins_impl_Ins, M.impl_ProgramOk, M.programOk, M.impl_ProgramOk_1, ← List.all_eq_not_any_not, h32, decide_true, Bool.true_and]
  · have h32 : ¬ p.length ≤ 32 := by simp at e; omega
    simp [M.impl_ProgramOk, M.programOk, h32]
theorem wp.impl_IsQuiet_1.math (i : D.Ins) : wp.impl_IsQuiet_1 i (fun r => r = M.impl_IsQuiet_1 i) := fun r hr => by rw [hr]; rfl
theorem wp.impl_IsQuiet.math (p : List D.Ins) (h : M.impl_IsQuiet_pre p) : wp.impl_IsQuiet p (fun r => r = M.impl_IsQuiet p) := by
  refine ⟨h, fun r hr => bcase_mk (fun e => ⟨⟨h, fun _ _ => trivial⟩, fun r2 hr2 => ?_⟩) fun e => ?_⟩
  · have h1 : M.programOk p = true := hr.symm.trans e
    rw [hr2]
    simp only [M.slices_ContainsFunc_impl_Ins_impl_Ins, M.impl_IsQuiet, M.isQuiet, M.impl_IsQuiet_1, ← List.all_eq_not_any_not, h1, Bool.true_and]
  · have h1 : M.programOk p = false := hr.symm.trans e
    simp [M.impl_IsQuiet, M.isQuiet, h1]
theorem wp.spec_SubWords.math (a b : Int) : wp.spec_SubWords a b (fun r => r = M.spec_SubWords a b) := by
  intro r1 h1
  refine bcase_mk (fun e1 => ?_) fun e1 r2 h2 => bcase_mk (fun e2 => ?_) fun e2 r3 h3 => ?_
  · have : M.isWord a = false := nt e1 h1
    simp [M.spec_SubWords, M.subW, this]
  · have : M.isWord b = false := nt e2 h2
    simp [M.spec_SubWords, M.subW, this]
  · have ha : M.isWord a = true := nf e1 h1
    have hb : M.isWord b = true := nf e2 h2
    have := isWord_iff.1 ha
    have := isWord_iff.1 hb
    rw [h3, w64 (by omega) (by omega)]
    simp [M.spec_SubWords, M.subW, M.spec_WrapWord, ha, hb]
theorem mul_bound {a b : Int} (ha : 0 ≤ a ∧ a ≤ 65535) (hb : 0 ≤ b ∧ b ≤ 65535) : 0 ≤ a * b ∧ a * b ≤ 4294836225 :=
  ⟨Int.mul_nonneg ha.1 hb.1, by have := Int.mul_le_mul ha.2 hb.2 hb.1 (by omega : (0 : Int) ≤ 65535); omega⟩
theorem wp.spec_MulWords.math (a b : Int) : wp.spec_MulWords a b (fun r => r = M.spec_MulWords a b) := by
  intro r1 h1
  refine bcase_mk (fun e1 => ?_) fun e1 r2 h2 => bcase_mk (fun e2 => ?_) fun e2 r3 h3 => ?_
  · have : M.isWord a = false := nt e1 h1
    simp [M.spec_MulWords, M.mulW, this]
  · have : M.isWord b = false := nt e2 h2
    simp [M.spec_MulWords, M.mulW, this]
  · have ha : M.isWord a = true := nf e1 h1
    have hb : M.isWord b = true := nf e2 h2
    have := mul_bound (isWord_iff.1 ha) (isWord_iff.1 hb)
    rw [h3, w64 (by omega) (by omega)]
    simp [M.spec_MulWords, M.mulW, M.spec_WrapWord, ha, hb]
theorem wp.spec_LessWords.math (a b : Int) : wp.spec_LessWords a b (fun r => r = M.spec_LessWords a b) := by
  intro r1 h1
  refine bcase_mk (fun e1 r2 h2 => bcase_mk (fun e2 => bcase_mk (fun e3 => ?_) fun e3 => ?_) fun e2 => ?_) fun e1 => ?_
  · have ha : M.isWord a = true := h1.symm.trans e1
    have hb : M.isWord b = true := h2.symm.trans e2
    simp at e3; simp [M.spec_LessWords, M.lessW, ha, hb, e3]
  · simp at e3; simp [M.spec_LessWords, M.lessW]; omega
  · have hb : M.isWord b = false := h2.symm.trans e2
    simp [M.spec_LessWords, M.lessW, hb]
  · have ha : M.isWord a = false := h1.symm.trans e1
    simp [M.spec_LessWords, M.lessW, ha]
theorem wp.impl_LessWords.math (a b : Int) : wp.impl_LessWords a b (fun r => r = M.impl_LessWords a b) := wp.spec_LessWords.math a b
theorem wp.impl_SubWords.math (a b : Int) : wp.impl_SubWords a b (fun r => r = M.impl_SubWords a b) := by
  intro r hr
  rw [hr]
  simp only [M.impl_wrapped, M.impl_SubWords, M.subW]
  by_cases h : (M.isWord a && M.isWord b) = true
  · rw [if_pos h, if_pos h]
    simp only [Bool.and_eq_true, isWord_iff] at h
    rw [w64 (by omega) (by omega)]
  · rw [if_neg h, if_neg h]
theorem wp.impl_MulWords.math (a b : Int) : wp.impl_MulWords a b (fun r => r = M.impl_MulWords a b) := by
  intro r hr
  rw [hr]
  simp only [M.impl_wrapped, M.impl_MulWords, M.mulW]
  by_cases h : (M.isWord a && M.isWord b) = true
  · rw [if_pos h, if_pos h]
    simp only [Bool.and_eq_true, isWord_iff] at h
    have := mul_bound h.1 h.2
    rw [w64 (by omega) (by omega)]
  · rw [if_neg h, if_neg h]
theorem isReg_iff {x : Int} : M.isReg x = true ↔ 0 ≤ x ∧ x ≤ 3 := by simp [M.isReg, M.isIn]
theorem fits_regs {i : D.Ins} {r : List Int} (h : M.Fits i r) : r.length = 4 ∧ (1 ≤ i.Op ∧ i.Op ≤ 10 → 0 ≤ i.A ∧ i.A ≤ 3) ∧ (2 ≤ i.Op ∧ i.Op ≤ 7 ∨ i.Op = 9 → 0 ≤ i.B ∧ i.B ≤ 3) ∧ (3 ≤ i.Op ∧ i.Op ≤ 7 ∨ i.Op = 9 → 0 ≤ i.C ∧ i.C ≤ 3) := by
  obtain ⟨hl, n, hok⟩ := h
  simp only [M.insOk, Bool.and_eq_true] at hok
  have hok := hok.2
  split at hok
  · exact ⟨hl, by omega, by omega, by omega⟩
  split at hok
  · simp only [Bool.and_eq_true, isReg_iff] at hok
    exact ⟨hl, fun _ => hok.1, by omega, by omega⟩
  split at hok
  · simp only [Bool.and_eq_true, isReg_iff] at hok
    exact ⟨hl, fun _ => hok.1, fun _ => hok.2.1, by omega⟩
  split at hok
  · simp only [Bool.and_eq_true, isReg_iff] at hok
    exact ⟨hl, fun _ => hok.1, by omega, by omega⟩
  split at hok
  · simp only [Bool.and_eq_true, isReg_iff] at hok
    exact ⟨hl, fun _ => hok.1, by omega, by omega⟩
  split at hok
  · exact ⟨hl, by omega, by omega, by omega⟩
  · simp only [Bool.and_eq_true, isReg_iff] at hok
    exact ⟨hl, fun _ => hok.2.1, fun _ => hok.2.2.1, fun _ => hok.2.2.2⟩
theorem rd_reg {r : List Int} {x : Int} (hl : r.length = 4) (h : 0 ≤ x ∧ x ≤ 3) : 0 ≤ x ∧ x < ((r.length : Nat) : Int) := by omega
theorem wp.spec_l10Apply.math (i : D.Ins) (t : Int) (r : List Int) (h : M.spec_l10Apply_pre i t r) : wp.spec_l10Apply i t r (fun x => x = M.spec_l10Apply i t r) := by
  obtain ⟨hl, hA, hB, hC⟩ := fits_regs h
  simp only [wp.spec_l10Apply, List.nil_append, List.length_nil, forall_eq]
  refine ⟨by omega, ?_⟩
  refine bcase_mk (fun e => ?_) fun n1 => bcase_mk (fun e => ?_) fun n2 => bcase_mk (fun e => ?_) fun n3 => bcase_mk (fun e => ?_) fun n4 => bcase_mk (fun e => ?_) fun n5 => bcase_mk (fun e => ?_) fun n6 => bcase_mk (fun e => ?_) fun n7 => bcase_mk (fun e => ?_) fun n8 => bcase_mk (fun e => ?_) fun n9 => ?_
  · have hk : i.Op = 1 := by simpa using e
    exact ⟨rd_reg hl (hA (by omega)), by simp [M.spec_l10Apply, M.apply, hk]⟩
  · have hk : i.Op = 2 := by simpa using e
    exact ⟨rd_reg hl (hB (by omega)), rd_reg hl (hA (by omega)), by simp [M.spec_l10Apply, M.apply, hk]⟩
  · have hk : i.Op = 3 := by simpa using e
    exact ⟨rd_reg hl (hB (by omega)), rd_reg hl (hC (by omega)), rd_reg hl (hA (by omega)), by simp [M.spec_l10Apply, M.apply, hk, M.spec_AddWords, M.impl_AddWords]⟩
  · have hk : i.Op = 4 := by simpa using e
    exact ⟨rd_reg hl (hB (by omega)), rd_reg hl (hC (by omega)), rd_reg hl (hA (by omega)), by simp [M.spec_l10Apply, M.apply, hk, M.spec_SubWords, M.impl_SubWords]⟩
  · have hk : i.Op = 5 := by simpa using e
    exact ⟨rd_reg hl (hB (by omega)), rd_reg hl (hC (by omega)), rd_reg hl (hA (by omega)), by simp [M.spec_l10Apply, M.apply, hk, M.spec_MulWords, M.impl_MulWords]⟩
  · have hk : i.Op = 6 := by simpa using e
    exact ⟨rd_reg hl (hB (by omega)), rd_reg hl (hC (by omega)), rd_reg hl (hA (by omega)), by simp [M.spec_l10Apply, M.apply, hk]⟩
  · have hk : i.Op = 7 := by simpa using e
    exact ⟨rd_reg hl (hB (by omega)), rd_reg hl (hC (by omega)), rd_reg hl (hA (by omega)), by simp [M.spec_l10Apply, M.apply, hk, M.spec_LessWords, M.impl_LessWords]⟩
  · have hk : i.Op = 8 := by simpa using e
    exact ⟨rd_reg hl (hA (by omega)), by simp [M.spec_l10Apply, M.apply, hk]⟩
  · have hk : i.Op = 9 := by simpa using e
    refine ⟨rd_reg hl (hC (by omega)), bcase_mk (fun e2 => ⟨rd_reg hl (hB (by omega)), rd_reg hl (hA (by omega)), ?_⟩) fun e2 => ?_⟩
    · have h2 : ¬ rd r i.C = 0 := by simpa using e2
      simp [M.spec_l10Apply, M.apply, hk, h2]
    · have h2 : rd r i.C = 0 := by simpa using e2
      simp [M.spec_l10Apply, M.apply, hk, h2]
  · simp at n1 n2 n3 n4 n5 n6 n7 n8 n9
    simp [M.spec_l10Apply, M.apply, n1, n2, n3, n4, n5, n6, n7, n8, n9]
theorem rd_of {α : Type} [Inhabited α] {xs : List α} {i : Int} (h0 : 0 ≤ i) (h1 : i < ((xs.length : Nat) : Int)) : rd xs i ∈ xs := by
  obtain ⟨k, rfl⟩ := Int.eq_ofNat_of_zero_le h0
  exact rd_mem (by omega)
theorem apply_len (i : D.Ins) (t : Int) (r : List Int) : (M.apply i t r).length = r.length := by
  unfold M.apply
  (repeat' split) <;> simp
end Go.V
set_option linter.unusedVariables false
set_option linter.unusedVariables false
set_option linter.unusedSimpArgs false
set_option linter.unusedVariables false
set_option linter.unusedVariables false
set_option linter.unusedSimpArgs false
set_option linter.unusedVariables false
namespace Go.V
def wp.impl_isWarpNumber (x0 : Int) (Q : Bool → Prop) : Prop :=
  (∀ r21, r21 = M.impl_within x0 0 2 → Q r21)
def wp.slices_Index_int_int (xs0 : List Int) (x1 : Int) (Q : Int → Prop) : Prop :=
  LoopP (σ := Int × Unit) (fun (p37 : Int × Unit) next25 => match p37 with | (i21, _) => bcase (decide (i21 < ((xs0.length : Nat) : Int))) (((0 ≤ i21 ∧ i21 < ((xs0.length : Nat) : Int)) ∧ bcase (x1 == (rd xs0 i21)) (Q i21) (next25 ((IntKind.wrap .i64 (i21 + 1)), ())))) (Q (-1))) (0, ())
def wp.slices_Contains_int_int (xs0 : List Int) (x1 : Int) (Q : Bool → Prop) : Prop :=
  (M.slices_Index_int_int_pre xs0 x1 ∧ ∀ r21, r21 = M.slices_Index_int_int xs0 x1 → Q (decide (r21 ≥ 0)))
end Go.V
set_option linter.unusedVariables false
set_option linter.unusedSimpArgs false
namespace Go.V
theorem wp.impl_isWarpNumber.math (x : Int) : wp.impl_isWarpNumber x (fun r => r = M.impl_isWarpNumber x) := fun r hr => hr
theorem wp.slices_Index_int_int.math (l : List Int) (x : Int) (h : M.slices_Index_int_int_pre l x) : wp.slices_Index_int_int l x (fun r => r = M.slices_Index_int_int l x) := by
  unfold wp.slices_Index_int_int
  refine loop_n l.length (fun k => ((k : Int), ())) (fun k => M.slices_Index_int_int l x = M.firstIx (fun y => x == y) (l.drop k) k) rfl (by simp [M.slices_Index_int_int]) (fun k hk hF next hn => ?_) fun hF next => ?_
  · rw [firstIx_from _ l k hk] at hF
    refine bcase_t (by simp; omega) ⟨by omega, bcase_mk (fun e => ?_) fun e => ?_⟩
    · rw [hF, if_pos e]
    · rw [up64 hk h]
      exact hn (by rw [hF, if_neg (by rw [e]; simp)])
  · refine bcase_f (by simp) ?_
    rw [hF]; simp [M.firstIx]
theorem wp.slices_Contains_int_int.math (l : List Int) (x : Int) (h : M.slices_Contains_int_int_pre l x) : wp.slices_Contains_int_int l x (fun r => r = M.slices_Contains_int_int l x) :=
  ⟨h, fun r hr => by rw [hr]; exact firstIx_nonneg _ l 0⟩
end Go.V
set_option linter.unusedVariables false
namespace Go.V
def wp.spec_l01New (xs0 : List Int) (Q : D.Cur → Prop) : Prop :=
  LoopP (σ := Int × Int × Unit) (fun (p42 : Int × Int × Unit) next26 => match p42 with | (i21, i22, _) => bcase (decide (i22 < ((xs0.length : Nat) : Int))) (bcase (decide (i22 < 4000)) (((0 ≤ i22 ∧ i22 < ((xs0.length : Nat) : Int)) ∧ next26 ((bitAnd .i64 (IntKind.wrap .i64 ((IntKind.wrap .i64 ((IntKind.wrap .i64 (i21 * 131)) + (IntKind.wrap .i64 (rd xs0 i22)))) + 7)) 1073741823), (IntKind.wrap .i64 (i22 + 1)), ()))) (Q (⟨xs0, 0, i21⟩ : D.Cur))) (Q (⟨xs0, 0, i21⟩ : D.Cur))) ((IntKind.wrap .i64 (98561 + ((xs0.length : Nat) : Int))), 0, ())
def wp.spec_l01Byte (s0 : D.Cur) (Q : (Int × D.Cur) → Prop) : Prop :=
  bcase (decide (s0.i < ((s0.b.length : Nat) : Int))) (((0 ≤ s0.i ∧ s0.i < ((s0.b.length : Nat) : Int)) ∧ Q ((bitAnd .i64 (IntKind.wrap .i64 ((bitAnd .i64 (bitXor .i64 (Int.fdiv (IntKind.wrap .i64 ((IntKind.wrap .i64 (s0.h * 6364136223846793005)) + 1442695040888963407)) (2 ^ (min ((33 : Int).toNat) (IntKind.bits .i64)))) (Int.fdiv (IntKind.wrap .i64 ((IntKind.wrap .i64 (s0.h * 6364136223846793005)) + 1442695040888963407)) (2 ^ (min ((45 : Int).toNat) (IntKind.bits .i64))))) 255) + (IntKind.wrap .i64 (rd s0.b s0.i)))) 255), (⟨s0.b, (IntKind.wrap .i64 (s0.i + 1)), (IntKind.wrap .i64 ((IntKind.wrap .i64 (s0.h * 6364136223846793005)) + 1442695040888963407))⟩ : D.Cur)))) (Q ((bitAnd .i64 (bitXor .i64 (Int.fdiv (IntKind.wrap .i64 ((IntKind.wrap .i64 (s0.h * 6364136223846793005)) + 1442695040888963407)) (2 ^ (min ((33 : Int).toNat) (IntKind.bits .i64)))) (Int.fdiv (IntKind.wrap .i64 ((IntKind.wrap .i64 (s0.h * 6364136223846793005)) + 1442695040888963407)) (2 ^ (min ((45 : Int).toNat) (IntKind.bits .i64))))) 255), (⟨s0.b, s0.i, (IntKind.wrap .i64 ((IntKind.wrap .i64 (s0.h * 6364136223846793005)) + 1442695040888963407))⟩ : D.Cur)))
def wp.spec_l01Below (s0 : D.Cur) (x1 : Int) (Q : (Int × D.Cur) → Prop) : Prop :=
  bcase (decide (x1 ≤ 0)) (Q (0, (⟨s0.b, s0.i, s0.h⟩ : D.Cur))) (bcase (decide (x1 ≤ 256)) ((M.spec_l01Byte_pre s0 ∧ ∀ r21, r21 = M.spec_l01Byte s0 → (((x1 : Int) ≠ 0) ∧ Q ((Int.tmod r21.1 x1), (⟨s0.b, r21.2.i, r21.2.h⟩ : D.Cur))))) ((M.spec_l01Byte_pre s0 ∧ ∀ r28, r28 = M.spec_l01Byte s0 → (M.spec_l01Byte_pre (⟨s0.b, r28.2.i, r28.2.h⟩ : D.Cur) ∧ ∀ r34, r34 = M.spec_l01Byte (⟨s0.b, r28.2.i, r28.2.h⟩ : D.Cur) → (M.spec_l01Byte_pre (⟨s0.b, r34.2.i, r34.2.h⟩ : D.Cur) ∧ ∀ r40, r40 = M.spec_l01Byte (⟨s0.b, r34.2.i, r34.2.h⟩ : D.Cur) → (M.spec_l01Byte_pre (⟨s0.b, r40.2.i, r40.2.h⟩ : D.Cur) ∧ ∀ r46, r46 = M.spec_l01Byte (⟨s0.b, r40.2.i, r40.2.h⟩ : D.Cur) → (((x1 : Int) ≠ 0) ∧ Q ((Int.tmod (IntKind.wrap .i64 ((IntKind.wrap .i64 ((IntKind.wrap .i64 ((IntKind.wrap .i64 (r28.1 * 16777216)) + (IntKind.wrap .i64 (r34.1 * 65536)))) + (IntKind.wrap .i64 (r40.1 * 256)))) + r46.1)) x1), (⟨s0.b, r46.2.i, r46.2.h⟩ : D.Cur)))))))))
def wp.spec_l01PickInt (s0 : D.Cur) (xs1 : List Int) (Q : (Int × D.Cur) → Prop) : Prop :=
  (M.spec_l01Below_pre s0 ((xs1.length : Nat) : Int) ∧ ∀ r21, r21 = M.spec_l01Below s0 ((xs1.length : Nat) : Int) → ((0 ≤ r21.1 ∧ r21.1 < ((xs1.length : Nat) : Int)) ∧ Q ((rd xs1 r21.1), (⟨s0.b, r21.2.i, r21.2.h⟩ : D.Cur))))
def wp.spec_l04Plain (s0 : D.Cur) (Q : (D.Ins × D.Cur) → Prop) : Prop :=
  (M.spec_l01Below_pre s0 9 ∧ ∀ r23, r23 = M.spec_l01Below s0 9 → (M.spec_l01Below_pre (⟨s0.b, r23.2.i, r23.2.h⟩ : D.Cur) 4 ∧ ∀ r29, r29 = M.spec_l01Below (⟨s0.b, r23.2.i, r23.2.h⟩ : D.Cur) 4 → bcase ((IntKind.wrap .i64 (1 + r23.1)) == 1) ((M.spec_l01Below_pre (⟨s0.b, r29.2.i, r29.2.h⟩ : D.Cur) 6 ∧ ∀ r39, r39 = M.spec_l01Below (⟨s0.b, r29.2.i, r29.2.h⟩ : D.Cur) 6 → Q ((⟨(IntKind.wrap .i64 (1 + r23.1)), r29.1, r39.1, 0⟩ : D.Ins), (⟨s0.b, r39.2.i, r39.2.h⟩ : D.Cur)))) (bcase ((IntKind.wrap .i64 (1 + r23.1)) == 8) (Q ((⟨(IntKind.wrap .i64 (1 + r23.1)), r29.1, 0, 0⟩ : D.Ins), (⟨s0.b, r29.2.i, r29.2.h⟩ : D.Cur))) (bcase ((IntKind.wrap .i64 (1 + r23.1)) == 2) ((M.spec_l01Below_pre (⟨s0.b, r29.2.i, r29.2.h⟩ : D.Cur) 4 ∧ ∀ r51, r51 = M.spec_l01Below (⟨s0.b, r29.2.i, r29.2.h⟩ : D.Cur) 4 → Q ((⟨(IntKind.wrap .i64 (1 + r23.1)), r29.1, r51.1, 0⟩ : D.Ins), (⟨s0.b, r51.2.i, r51.2.h⟩ : D.Cur)))) ((M.spec_l01Below_pre (⟨s0.b, r29.2.i, r29.2.h⟩ : D.Cur) 4 ∧ ∀ r61, r61 = M.spec_l01Below (⟨s0.b, r29.2.i, r29.2.h⟩ : D.Cur) 4 → (M.spec_l01Below_pre (⟨s0.b, r61.2.i, r61.2.h⟩ : D.Cur) 4 ∧ ∀ r69, r69 = M.spec_l01Below (⟨s0.b, r61.2.i, r61.2.h⟩ : D.Cur) 4 → Q ((⟨(IntKind.wrap .i64 (1 + r23.1)), r29.1, r61.1, r69.1⟩ : D.Ins), (⟨s0.b, r69.2.i, r69.2.h⟩ : D.Cur)))))))))
def wp.spec_l07Wild (s0 : D.Cur) (Q : ((List D.Ins) × D.Cur) → Prop) : Prop :=
  (M.spec_l01Below_pre s0 9 ∧ ∀ r24, r24 = M.spec_l01Below s0 9 → LoopP (σ := (List D.Ins) × Int × Int × Int × Unit) (fun (p166 : (List D.Ins) × Int × Int × Int × Unit) next79 => match p166 with | (xs70, i73, i74, i75, _) => bcase (decide (i73 < r24.1)) ((M.spec_l01Below_pre (⟨s0.b, i74, i75⟩ : D.Cur) 6 ∧ ∀ r81, r81 = M.spec_l01Below (⟨s0.b, i74, i75⟩ : D.Cur) 6 → JoinP (σ := Bool × Unit) (fun J88 => bcase (r81.1 == 0) (J88 (true, ())) (J88 ((r81.1 == 1), ()))) (fun (p163 : Bool × Unit) => match p163 with | (b87, _) => bcase b87 ((M.spec_l01Below_pre (⟨s0.b, r81.2.i, r81.2.h⟩ : D.Cur) 4 ∧ ∀ r92, r92 = M.spec_l01Below (⟨s0.b, r81.2.i, r81.2.h⟩ : D.Cur) 4 → (M.spec_l01Below_pre (⟨s0.b, r92.2.i, r92.2.h⟩ : D.Cur) (IntKind.wrap .i64 (r24.1 + 1)) ∧ ∀ r98, r98 = M.spec_l01Below (⟨s0.b, r92.2.i, r92.2.h⟩ : D.Cur) (IntKind.wrap .i64 (r24.1 + 1)) → ((xs70.length + ([(⟨10, r92.1, r98.1, 0⟩ : D.Ins)] : List D.Ins).length ≤ 17179869184) ∧ next79 ((xs70 ++ ([(⟨10, r92.1, r98.1, 0⟩ : D.Ins)] : List D.Ins)), (IntKind.wrap .i64 (i73 + 1)), r98.2.i, r98.2.h, ()))))) (bcase (r81.1 == 2) ((M.spec_l01Below_pre (⟨s0.b, r81.2.i, r81.2.h⟩ : D.Cur) (IntKind.wrap .i64 (r24.1 + 1)) ∧ ∀ r115, r115 = M.spec_l01Below (⟨s0.b, r81.2.i, r81.2.h⟩ : D.Cur) (IntKind.wrap .i64 (r24.1 + 1)) → ((xs70.length + ([(⟨11, 0, r115.1, 0⟩ : D.Ins)] : List D.Ins).length ≤ 17179869184) ∧ next79 ((xs70 ++ ([(⟨11, 0, r115.1, 0⟩ : D.Ins)] : List D.Ins)), (IntKind.wrap .i64 (i73 + 1)), r115.2.i, r115.2.h, ())))) (bcase (r81.1 == 3) (((xs70.length + ([(⟨12, 0, 0, 0⟩ : D.Ins)] : List D.Ins).length ≤ 17179869184) ∧ next79 ((xs70 ++ ([(⟨12, 0, 0, 0⟩ : D.Ins)] : List D.Ins)), (IntKind.wrap .i64 (i73 + 1)), r81.2.i, r81.2.h, ()))) ((M.spec_l04Plain_pre (⟨s0.b, r81.2.i, r81.2.h⟩ : D.Cur) ∧ ∀ r143, r143 = M.spec_l04Plain (⟨s0.b, r81.2.i, r81.2.h⟩ : D.Cur) → ((xs70.length + ([r143.1] : List D.Ins).length ≤ 17179869184) ∧ next79 ((xs70 ++ ([r143.1] : List D.Ins)), (IntKind.wrap .i64 (i73 + 1)), r143.2.i, r143.2.h, ()))))))))) (Q (xs70, (⟨s0.b, i74, i75⟩ : D.Cur)))) (([] : List D.Ins), 0, r24.2.i, r24.2.h, ()))
def wp.spec_l02Word (s0 : D.Cur) (Q : (Int × D.Cur) → Prop) : Prop :=
  (M.spec_l01Below_pre s0 9 ∧ ∀ r21, r21 = M.spec_l01Below s0 9 → (M.spec_l01Below_pre (⟨s0.b, r21.2.i, r21.2.h⟩ : D.Cur) 9000 ∧ ∀ r27, r27 = M.spec_l01Below (⟨s0.b, r21.2.i, r21.2.h⟩ : D.Cur) 9000 → (M.spec_l01PickInt_pre (⟨s0.b, r27.2.i, r27.2.h⟩ : D.Cur) ([0, 1, 2, 7, 100, 65535, 32768, r21.1, r27.1] : List Int) ∧ ∀ r36, r36 = M.spec_l01PickInt (⟨s0.b, r27.2.i, r27.2.h⟩ : D.Cur) ([0, 1, 2, 7, 100, 65535, 32768, r21.1, r27.1] : List Int) → Q (r36.1, (⟨s0.b, r36.2.i, r36.2.h⟩ : D.Cur)))))
def wp.spec_l02Words (s0 : D.Cur) (x1 : Int) (Q : ((List Int) × D.Cur) → Prop) : Prop :=
  LoopP (σ := (List Int) × Int × Int × Int × Unit) (fun (p76 : (List Int) × Int × Int × Int × Unit) next56 => match p76 with | (xs47, i50, i51, i52, _) => bcase (decide (i50 < x1)) ((M.spec_l02Word_pre (⟨s0.b, i51, i52⟩ : D.Cur) ∧ ∀ r58, r58 = M.spec_l02Word (⟨s0.b, i51, i52⟩ : D.Cur) → ((xs47.length + ([r58.1] : List Int).length ≤ 17179869184) ∧ next56 ((xs47 ++ ([r58.1] : List Int)), (IntKind.wrap .i64 (i50 + 1)), r58.2.i, r58.2.h, ())))) (Q (xs47, (⟨s0.b, i51, i52⟩ : D.Cur)))) (([] : List Int), 0, s0.i, s0.h, ())
def wp.spec_DrawPlaces (xs0 : List Int) (Q : (List Int) → Prop) : Prop :=
  (M.spec_l01New_pre xs0 ∧ ∀ r21, r21 = M.spec_l01New xs0 → LoopP (σ := (List Int) × Int × Int × Int × Unit) (fun (p82 : (List Int) × Int × Int × Int × Unit) next62 => match p82 with | (xs53, i56, i57, i58, _) => bcase (decide (i56 < 12)) ((M.spec_l01Below_pre (⟨xs0, i57, i58⟩ : D.Cur) 10000 ∧ ∀ r64, r64 = M.spec_l01Below (⟨xs0, i57, i58⟩ : D.Cur) 10000 → ((xs53.length + ([r64.1] : List Int).length ≤ 17179869184) ∧ next62 ((xs53 ++ ([r64.1] : List Int)), (IntKind.wrap .i64 (i56 + 1)), r64.2.i, r64.2.h, ())))) (Q xs53)) (([] : List Int), 0, r21.i, r21.h, ()))
def wp.laws_big (xs0 : List Int) (Q : Bool → Prop) : Prop :=
  Q (decide (((xs0.length : Nat) : Int) > 1048576))
end Go.V
set_option linter.unusedVariables false
set_option linter.unusedSimpArgs false
set_option maxRecDepth 20000
namespace Go.V
theorem bitAnd_255 (x : Int) : bitAnd .i64 x 255 = x % 256 := by
  unfold bitAnd
  have e1 : (BitVec.ofInt (IntKind.bits .i64) x &&& BitVec.ofInt (IntKind.bits .i64) 255).toNat = (x % 256).toNat := by
    show (BitVec.ofInt 64 x &&& BitVec.ofInt 64 255).toNat = _
    rw [BitVec.toNat_and, BitVec.toNat_ofInt, show (BitVec.ofInt 64 255).toNat = 2 ^ 8 - 1 from rfl, Nat.and_two_pow_sub_one_eq_mod]
    rw [show ((2 ^ 64 : Nat) : Int) = 18446744073709551616 from rfl]
    omega
  rw [e1, w64 (by omega) (by omega)]
  omega
theorem byte_in (c : D.Cur) : 0 ≤ (M.spec_l01Byte c).1 ∧ (M.spec_l01Byte c).1 ≤ 255 := by
  unfold M.spec_l01Byte
  split
  · show 0 ≤ bitAnd .i64 _ 255 ∧ bitAnd .i64 _ 255 ≤ 255
    rw [bitAnd_255]; omega
  · show 0 ≤ M.curX _ ∧ M.curX _ ≤ 255
    unfold M.curX
    rw [bitAnd_255]; omega
theorem byte_b (c : D.Cur) : (M.spec_l01Byte c).2.b = c.b := by unfold M.spec_l01Byte; split <;> rfl
theorem byte_ok {c : D.Cur} (h : M.CurOk c) : M.CurOk (M.spec_l01Byte c).2 := by
  obtain ⟨h1, h2⟩ := h
  refine ⟨?_, by rw [byte_b]; exact h2⟩
  unfold M.Long at h2
  unfold M.spec_l01Byte
  split
  · rename_i hlt
    show 0 ≤ IntKind.wrap .i64 (c.i + 1)
    rw [w64 (by omega) (by omega)]; omega
  · exact h1
theorem below_b (c : D.Cur) (n : Int) : (M.spec_l01Below c n).2.b = c.b := by
  unfold M.spec_l01Below
  (repeat' split) <;> simp only [byte_b]
theorem below_ok {c : D.Cur} (h : M.CurOk c) (n : Int) : M.CurOk (M.spec_l01Below c n).2 := by
  unfold M.spec_l01Below
  split
  · exact h
  split
  · exact byte_ok h
  · exact byte_ok (byte_ok (byte_ok (byte_ok h)))
theorem tmod_in {x n : Int} (hx : 0 ≤ x) (hn : 0 < n) : 0 ≤ Int.tmod x n ∧ Int.tmod x n < n :=
  ⟨Int.tmod_nonneg _ hx, Int.tmod_lt_of_pos _ hn⟩
theorem below_in (c : D.Cur) {n : Int} (hn : 0 < n) : 0 ≤ (M.spec_l01Below c n).1 ∧ (M.spec_l01Below c n).1 < n := by
  unfold M.spec_l01Below
  rw [if_neg (by omega)]
  split
  · exact tmod_in (byte_in c).1 hn
  · refine tmod_in ?_ hn
    have h1 := byte_in c
    have h2 := byte_in (M.spec_l01Byte c).2
    have h3 := byte_in (M.spec_l01Byte (M.spec_l01Byte c).2).2
    have h4 := byte_in (M.spec_l01Byte (M.spec_l01Byte (M.spec_l01Byte c).2).2).2
    rw [w64 (x := (M.spec_l01Byte c).1 * 16777216) (by omega) (by omega), w64 (x := (M.spec_l01Byte (M.spec_l01Byte c).2).1 * 65536) (by omega) (by omega),
      w64 (x := (M.spec_l01Byte (M.spec_l01Byte (M.spec_l01Byte c).2).2).1 * 256) (by omega) (by omega), w64 (x := _ + (M.spec_l01Byte (M.spec_l01Byte c).2).1 * 65536) (by omega) (by omega),
      w64 (x := _ + (M.spec_l01Byte (M.spec_l01Byte (M.spec_l01Byte c).2).2).1 * 256) (by omega) (by omega), w64 (by omega) (by omega)]
    omega
set_option maxRecDepth 20000 in
theorem wp.spec_l01New.math (b : List Int) (h : M.spec_l01New_pre b) : wp.spec_l01New b (fun r => r = M.spec_l01New b) := by
  unfold wp.spec_l01New
  have hl : b.length ≤ 9223372036854775807 := h
  let h0 := IntKind.wrap .i64 (98561 + ((b.length : Nat) : Int))
  refine loop_n (min b.length 4000) (fun k => ((b.take k).foldl M.curNext h0, (k : Int), ())) (fun _ => True) rfl trivial (fun k hk _ next hn => ?_) fun _ next => ?_
  · have hk1 : k < b.length := by omega
    have hn := hn trivial
    rw [List.take_add_one, List.getElem?_eq_getElem hk1, Option.toList_some, List.foldl_append] at hn
    refine bcase_t (by simp; omega) (bcase_t (by simp; omega) ⟨by omega, ?_⟩)
    rw [up64 hk1 hl, rd_nat hk1]
    exact hn
  · have fin : (⟨b, 0, (b.take (min b.length 4000)).foldl M.curNext h0⟩ : D.Cur) = M.spec_l01New b := by
      unfold M.spec_l01New
      congr 2
      rcases Nat.le_total b.length 4000 with g | g
      · rw [Nat.min_eq_left g, List.take_length, List.take_of_length_le g]
      · rw [Nat.min_eq_right g]
    by_cases g : b.length ≤ 4000
    · exact bcase_f (by simp; omega) fin
    · exact bcase_t (by simp; omega) (bcase_f (by simp; omega) fin)
theorem wp.spec_l01Byte.math (c : D.Cur) (h : M.spec_l01Byte_pre c) : wp.spec_l01Byte c (fun r => r = M.spec_l01Byte c) := by
  obtain ⟨h1, h2⟩ := h
  refine bcase_mk (fun e => ⟨⟨h1, by simpa using e⟩, ?_⟩) fun e => ?_
  · have e : c.i < ((c.b.length : Nat) : Int) := by simpa using e
    unfold M.spec_l01Byte
    rw [if_pos e]; rfl
  · have e : ¬ c.i < ((c.b.length : Nat) : Int) := by simpa using e
    unfold M.spec_l01Byte
    rw [if_neg e]; rfl
theorem cur_eta {c d : D.Cur} (h : d.b = c.b) : (⟨c.b, d.i, d.h⟩ : D.Cur) = d := by rw [← h]
theorem wp.spec_l01PickInt.math (c : D.Cur) (l : List Int) (h : M.spec_l01PickInt_pre c l) : wp.spec_l01PickInt c l (fun r => r = M.spec_l01PickInt c l) := by
  obtain ⟨h1, h2, h3⟩ := h
  have hpos : (0 : Int) < ((l.length : Nat) : Int) := by have := List.length_pos_iff.2 h2; omega
  refine ⟨h1, fun r hr => ?_⟩
  have := below_in c hpos
  refine ⟨by rw [hr]; exact this, ?_⟩
  rw [hr, cur_eta (below_b c _)]; rfl
theorem wp.spec_l01Below.math (c : D.Cur) (n : Int) (h : M.spec_l01Below_pre c n) : wp.spec_l01Below c n (fun r => r = M.spec_l01Below c n) := by
  refine bcase_mk (fun e => ?_) fun e => bcase_mk (fun e2 => ⟨h, fun r hr => ⟨?_, ?_⟩⟩) fun e2 => ?_
  · have e : n ≤ 0 := by simpa using e
    unfold M.spec_l01Below; rw [if_pos e]
  · simp at e; omega
  · have e : ¬ n ≤ 0 := by simpa using e
    have e2 : n ≤ 256 := by simpa using e2
    unfold M.spec_l01Below; rw [if_neg e, if_pos e2, hr, cur_eta (byte_b c)]
  · have e : ¬ n ≤ 0 := by simpa using e
    have e2 : ¬ n ≤ 256 := by simpa using e2
    have h1 := byte_ok h
    have h2 := byte_ok h1
    have h3 := byte_ok h2
    have b1 := byte_b c
    have b2 : (M.spec_l01Byte (M.spec_l01Byte c).2).2.b = c.b := (byte_b _).trans b1
    have b3 : (M.spec_l01Byte (M.spec_l01Byte (M.spec_l01Byte c).2).2).2.b = c.b := (byte_b _).trans b2
    have b4 : (M.spec_l01Byte (M.spec_l01Byte (M.spec_l01Byte (M.spec_l01Byte c).2).2).2).2.b = c.b := (byte_b _).trans b3
    refine ⟨h, fun r1 g1 => ?_⟩
    subst g1
    rw [cur_eta b1]
    refine ⟨h1, fun r2 g2 => ?_⟩
    subst g2
    rw [cur_eta b2]
    refine ⟨h2, fun r3 g3 => ?_⟩
    subst g3
    rw [cur_eta b3]
    refine ⟨h3, fun r4 g4 => ⟨by omega, ?_⟩⟩
    subst g4
    rw [cur_eta b4]
    unfold M.spec_l01Below; rw [if_neg e, if_neg e2]
theorem wp.spec_l04Plain.math (c : D.Cur) (h : M.spec_l04Plain_pre c) : wp.spec_l04Plain c (fun r => r = M.spec_l04Plain c) := by
  refine ⟨h, fun r1 g1 => ?_⟩
  subst g1
  rw [cur_eta (below_b c 9)]
  refine ⟨below_ok h 9, fun r2 g2 => ?_⟩
  subst g2
  have b2 : (M.spec_l01Below (M.spec_l01Below c 9).2 4).2.b = c.b := (below_b _ _).trans (below_b _ _)
  have h2 := below_ok (below_ok h 9) 4
  rw [cur_eta b2]
  have cut : ∀ (n : Int), (⟨c.b, (M.spec_l01Below (M.spec_l01Below (M.spec_l01Below c 9).2 4).2 n).2.i, (M.spec_l01Below (M.spec_l01Below (M.spec_l01Below c 9).2 4).2 n).2.h⟩ : D.Cur) = (M.spec_l01Below (M.spec_l01Below (M.spec_l01Below c 9).2 4).2 n).2 := fun n => cur_eta ((below_b _ _).trans b2)
  refine bcase_mk (fun e => ⟨h2, fun r3 g3 => ?_⟩) fun e1 => bcase_mk (fun e => ?_) fun e8 => bcase_mk (fun e => ⟨h2, fun r3 g3 => ?_⟩) fun e2 => ⟨h2, fun r3 g3 => ?_⟩
  · subst g3
    rw [cut]
    have e : IntKind.wrap .i64 (1 + (M.spec_l01Below c 9).1) = 1 := by simpa using e
    simp only [M.spec_l04Plain]; rw [if_pos e]
  · have e1 : ¬ IntKind.wrap .i64 (1 + (M.spec_l01Below c 9).1) = 1 := by simpa using e1
    have e : IntKind.wrap .i64 (1 + (M.spec_l01Below c 9).1) = 8 := by simpa using e
    simp only [M.spec_l04Plain]; rw [if_neg e1, if_pos e]
  · subst g3
    rw [cut]
    have e1 : ¬ IntKind.wrap .i64 (1 + (M.spec_l01Below c 9).1) = 1 := by simpa using e1
    have e8 : ¬ IntKind.wrap .i64 (1 + (M.spec_l01Below c 9).1) = 8 := by simpa using e8
    have e : IntKind.wrap .i64 (1 + (M.spec_l01Below c 9).1) = 2 := by simpa using e
    simp only [M.spec_l04Plain]; rw [if_neg e1, if_neg e8, if_pos e]
  · subst g3
    rw [cut]
    refine ⟨below_ok h2 4, fun r4 g4 => ?_⟩
    subst g4
    rw [cur_eta ((below_b _ _).trans ((below_b _ _).trans b2))]
    have e1 : ¬ IntKind.wrap .i64 (1 + (M.spec_l01Below c 9).1) = 1 := by simpa using e1
    have e8 : ¬ IntKind.wrap .i64 (1 + (M.spec_l01Below c 9).1) = 8 := by simpa using e8
    have e2 : ¬ IntKind.wrap .i64 (1 + (M.spec_l01Below c 9).1) = 2 := by simpa using e2
    simp only [M.spec_l04Plain]; rw [if_neg e1, if_neg e8, if_neg e2]
theorem pick_b (c : D.Cur) (l : List Int) : (M.spec_l01PickInt c l).2.b = c.b := below_b _ _
theorem pick_ok {c : D.Cur} (h : M.CurOk c) (l : List Int) : M.CurOk (M.spec_l01PickInt c l).2 := below_ok h _
theorem word_b (c : D.Cur) : (M.spec_l02Word c).2.b = c.b := by
  simp only [M.spec_l02Word]; rw [pick_b, below_b, below_b]
theorem word_ok {c : D.Cur} (h : M.CurOk c) : M.CurOk (M.spec_l02Word c).2 := pick_ok (below_ok (below_ok h _) _) _
theorem wp.spec_l02Word.math (c : D.Cur) (h : M.spec_l02Word_pre c) : wp.spec_l02Word c (fun r => r = M.spec_l02Word c) := by
  refine ⟨h, fun r1 g1 => ?_⟩
  subst g1
  rw [cur_eta (below_b c 9)]
  refine ⟨below_ok h 9, fun r2 g2 => ?_⟩
  subst g2
  have b2 : (M.spec_l01Below (M.spec_l01Below c 9).2 9000).2.b = c.b := (below_b _ _).trans (below_b _ _)
  rw [cur_eta b2]
  refine ⟨⟨below_ok (below_ok h 9) 9000, by simp, by simp⟩, fun r3 g3 => ?_⟩
  subst g3
  rw [cur_eta ((pick_b _ _).trans b2)]
  rfl
theorem words_b : ∀ (k : Nat) (c : D.Cur), (M.wordsN k c).2.b = c.b
  | 0, c => rfl
  | k + 1, c => by simp only [M.wordsN]; rw [word_b, words_b k c]
theorem words_ok : ∀ (k : Nat) {c : D.Cur}, M.CurOk c → M.CurOk (M.wordsN k c).2
  | 0, c, h => h
  | k + 1, c, h => word_ok (words_ok k h)
theorem words_len : ∀ (k : Nat) (c : D.Cur), (M.wordsN k c).1.length = k
  | 0, c => rfl
  | k + 1, c => by simp only [M.wordsN, List.length_append, words_len k c]; rfl
theorem wp.spec_l02Words.math (c : D.Cur) (n : Int) (h : M.spec_l02Words_pre c n) : wp.spec_l02Words c n (fun r => r = M.spec_l02Words c n) := by
  obtain ⟨h1, h2, h3⟩ := h
  refine loop_n n.toNat (fun k => ((M.wordsN k c).1, (k : Int), (M.wordsN k c).2.i, (M.wordsN k c).2.h, ())) (fun _ => True) rfl trivial (fun k hk _ next hn => ?_) fun _ next => ?_
  · have hn := hn trivial
    refine bcase_t (by simp; omega) ?_
    rw [cur_eta (words_b k c)]
    refine ⟨words_ok k h1, fun r hr => ⟨by rw [words_len]; simp; omega, ?_⟩⟩
    subst hr
    rw [up64 (n := n.toNat) hk (by omega)]
    exact hn
  · refine bcase_f (by simp; omega) ?_
    rw [cur_eta (words_b _ c)]; rfl
theorem lwords_b (c : D.Cur) (n : Int) : (M.spec_l02Words c n).2.b = c.b := words_b _ _
theorem wp.laws_big.math (b : List Int) : wp.laws_big b (fun r => r = M.laws_big b) := rfl
theorem plain_b (c : D.Cur) : (M.spec_l04Plain c).2.b = c.b := by
  simp only [M.spec_l04Plain]
  (repeat' split) <;> simp only [below_b]
theorem plain_ok {c : D.Cur} (h : M.CurOk c) : M.CurOk (M.spec_l04Plain c).2 := by
  simp only [M.spec_l04Plain]
  have h2 := below_ok (below_ok h 9) 4
  (repeat' split)
  · exact below_ok h2 _
  · exact h2
  · exact below_ok h2 _
  · exact below_ok (below_ok h2 _) _
theorem one_b (c : D.Cur) (n : Int) : (M.wildOne c n).2.b = c.b := by
  simp only [M.wildOne]
  (repeat' split) <;> simp only [below_b, plain_b]
theorem one_ok {c : D.Cur} (h : M.CurOk c) (n : Int) : M.CurOk (M.wildOne c n).2 := by
  simp only [M.wildOne]
  have h1 := below_ok h 6
  (repeat' split)
  · exact below_ok (below_ok h1 _) _
  · exact below_ok h1 _
  · exact h1
  · exact plain_ok h1
theorem wild_b (n : Int) : ∀ (k : Nat) (c : D.Cur), (M.wildN n k c).2.b = c.b
  | 0, c => rfl
  | k + 1, c => by simp only [M.wildN]; rw [one_b, wild_b n k c]
theorem wild_ok (n : Int) : ∀ (k : Nat) {c : D.Cur}, M.CurOk c → M.CurOk (M.wildN n k c).2
  | 0, c, h => h
  | k + 1, c, h => one_ok (wild_ok n k h) n
theorem wild_len (n : Int) : ∀ (k : Nat) (c : D.Cur), (M.wildN n k c).1.length = k
  | 0, c => rfl
  | k + 1, c => by simp only [M.wildN, List.length_append, wild_len n k c]; rfl
theorem places_b : ∀ (k : Nat) (c : D.Cur), (M.placesN k c).2.b = c.b
  | 0, c => rfl
  | k + 1, c => by simp only [M.placesN]; rw [below_b, places_b k c]
theorem places_ok : ∀ (k : Nat) {c : D.Cur}, M.CurOk c → M.CurOk (M.placesN k c).2
  | 0, c, h => h
  | k + 1, c, h => below_ok (places_ok k h) _
theorem places_len : ∀ (k : Nat) (c : D.Cur), (M.placesN k c).1.length = k
  | 0, c => rfl
  | k + 1, c => by simp only [M.placesN, List.length_append, places_len k c]; rfl
theorem new_ok {b : List Int} (h : M.Long b) : M.CurOk (M.spec_l01New b) := ⟨by simp [M.spec_l01New], h⟩
theorem wp.spec_DrawPlaces.math (b : List Int) (h : M.spec_DrawPlaces_pre b) : wp.spec_DrawPlaces b (fun r => r = M.spec_DrawPlaces b) := by
  refine ⟨h, fun r0 g0 => ?_⟩
  subst g0
  refine loop_n 12 (fun k => ((M.placesN k (M.spec_l01New b)).1, (k : Int), (M.placesN k (M.spec_l01New b)).2.i, (M.placesN k (M.spec_l01New b)).2.h, ())) (fun _ => True) rfl trivial (fun k hk _ next hn => ?_) fun _ next => ?_
  · have hn := hn trivial
    refine bcase_t (by simp; omega) ?_
    have e : (⟨b, (M.placesN k (M.spec_l01New b)).2.i, (M.placesN k (M.spec_l01New b)).2.h⟩ : D.Cur) = (M.placesN k (M.spec_l01New b)).2 := cur_eta (c := M.spec_l01New b) (places_b k _)
    rw [e]
    refine ⟨places_ok k (new_ok h), fun r hr => ⟨by rw [places_len]; simp; omega, ?_⟩⟩
    subst hr
    rw [up64 hk (by omega)]
    exact hn
  · exact bcase_f (by simp) rfl
theorem wp.spec_l07Wild.math (c : D.Cur) (h : M.spec_l07Wild_pre c) : wp.spec_l07Wild c (fun r => r = M.spec_l07Wild c) := by
  refine ⟨h, fun r0 g0 => ?_⟩
  have hn9 := below_in c (n := 9) (by omega)
  rw [← g0] at hn9
  have hok : M.CurOk r0.2 := by rw [g0]; exact below_ok h 9
  have hb : r0.2.b = c.b := by rw [g0]; exact below_b c 9
  have hM : M.spec_l07Wild c = M.wildN r0.1 r0.1.toNat r0.2 := by rw [g0]; rfl
  rw [hM]
  refine loop_n r0.1.toNat (fun k => ((M.wildN r0.1 k r0.2).1, (k : Int), (M.wildN r0.1 k r0.2).2.i, (M.wildN r0.1 k r0.2).2.h, ())) (fun _ => True) rfl trivial (fun k hk _ next hn => ?_) fun _ next => ?_
  · have hn := hn trivial
    have hl := wild_len r0.1 k r0.2
    have hk' := wild_ok r0.1 k hok
    have hb' : (M.wildN r0.1 k r0.2).2.b = c.b := (wild_b _ _ _).trans hb
    simp only [M.wildN] at hn
    generalize M.wildN r0.1 k r0.2 = W at *
    refine bcase_t (by simp; omega) ?_
    rw [cur_eta hb']
    refine ⟨hk', fun r1 g1 => ?_⟩
    have h1 : M.CurOk r1.2 := by rw [g1]; exact below_ok hk' 6
    have b1 : r1.2.b = c.b := by rw [g1]; exact (below_b _ _).trans hb'
    unfold JoinP
    have up := up64 (n := 9) (k := k) (by omega) (by omega)
    have hlen : ∀ x : D.Ins, W.1.length + ([x] : List D.Ins).length ≤ 17179869184 := fun x => by rw [hl]; simp; omega
    have hone : M.wildOne W.2 r0.1 = if r1.1 = 0 ∨ r1.1 = 1 then (⟨10, (M.spec_l01Below r1.2 4).1, (M.spec_l01Below (M.spec_l01Below r1.2 4).2 (IntKind.wrap .i64 (r0.1 + 1))).1, 0⟩, (M.spec_l01Below (M.spec_l01Below r1.2 4).2 (IntKind.wrap .i64 (r0.1 + 1))).2)
        else if r1.1 = 2 then (⟨11, 0, (M.spec_l01Below r1.2 (IntKind.wrap .i64 (r0.1 + 1))).1, 0⟩, (M.spec_l01Below r1.2 (IntKind.wrap .i64 (r0.1 + 1))).2) else if r1.1 = 3 then (⟨12, 0, 0, 0⟩, r1.2) else M.spec_l04Plain r1.2 := by rw [g1]; rfl
    refine bcase_mk (fun e => bcase_t rfl ?_) fun e0 => bcase_mk (fun e => ?_) fun e1 => bcase_mk (fun e2 => ?_) fun e2 => bcase_mk (fun e3 => ?_) fun e3 => ?_
    · have e : r1.1 = 0 := by simpa using e
      rw [cur_eta b1]
      refine ⟨h1, fun r2 g2 => ?_⟩
      subst g2
      rw [cur_eta ((below_b _ _).trans b1)]
      refine ⟨below_ok h1 4, fun r3 g3 => ⟨hlen _, ?_⟩⟩
      subst g3
      rw [hone, if_pos (.inl e)] at hn
      rw [up]; exact hn
    · have e : r1.1 = 1 := by simpa using e
      rw [cur_eta b1]
      refine ⟨h1, fun r2 g2 => ?_⟩
      subst g2
      rw [cur_eta ((below_b _ _).trans b1)]
      refine ⟨below_ok h1 4, fun r3 g3 => ⟨hlen _, ?_⟩⟩
      subst g3
      rw [hone, if_pos (.inr e)] at hn
      rw [up]; exact hn
    all_goals
      have n0 : ¬ r1.1 = 0 := by simpa using e0
      have n1 : ¬ r1.1 = 1 := by simpa using e1
      rw [hone, if_neg (by omega)] at hn
    · have e : r1.1 = 2 := by simpa using e2
      rw [cur_eta b1]
      refine ⟨h1, fun r3 g3 => ⟨hlen _, ?_⟩⟩
      subst g3
      rw [if_pos e] at hn
      rw [up]; exact hn
    · have n2 : ¬ r1.1 = 2 := by simpa using e2
      have e : r1.1 = 3 := by simpa using e3
      refine ⟨hlen _, ?_⟩
      rw [if_neg n2, if_pos e] at hn
      rw [up]; exact hn
    · have n2 : ¬ r1.1 = 2 := by simpa using e2
      have n3 : ¬ r1.1 = 3 := by simpa using e3
      rw [cur_eta b1]
      refine ⟨h1, fun r3 g3 => ⟨hlen _, ?_⟩⟩
      subst g3
      rw [if_neg n2, if_neg n3] at hn
      rw [up]; exact hn
  · refine bcase_f (by simp; omega) ?_
    rw [cur_eta ((wild_b _ _ _).trans hb)]
theorem lwild_b (c : D.Cur) : (M.spec_l07Wild c).2.b = c.b := (wild_b _ _ _).trans (below_b _ _)
theorem lwild_ok {c : D.Cur} (h : M.CurOk c) : M.CurOk (M.spec_l07Wild c).2 := wild_ok _ _ (below_ok h _)
theorem reg_below (c : D.Cur) : M.isReg (M.spec_l01Below c 4).1 = true := by
  have := below_in c (n := 4) (by omega)
  rw [isReg_iff]; omega
theorem plain_good (c : D.Cur) {n : Int} (hn : 0 ≤ n ∧ n ≤ 32) : M.insOk (M.spec_l04Plain c).1 n = true ∧ M.isLocal (M.spec_l04Plain c).1 = true := by
  have h9 := below_in c (n := 9) (by omega)
  have hw : IntKind.wrap .i64 (1 + (M.spec_l01Below c 9).1) = 1 + (M.spec_l01Below c 9).1 := w64 (by omega) (by omega)
  have hin : M.isIn n 0 32 = true := by simp [M.isIn]; omega
  have h6 := fun d : D.Cur => below_in d (n := 6) (by omega)
  have hw6 : ∀ d : D.Cur, M.isWord (M.spec_l01Below d 6).1 = true := fun d => by rw [isWord_iff]; have := h6 d; omega
  simp only [M.spec_l04Plain, hw]
  generalize (M.spec_l01Below c 9).1 = o at *
  split
  · rename_i e
    refine ⟨?_, by simp [M.isLocal, M.isIn]; omega⟩
    simp only [M.insOk, hin, Bool.true_and]
    rw [if_neg (by omega), if_pos (by omega)]
    simp [reg_below, hw6]
  split
  · rename_i e
    refine ⟨?_, by simp [M.isLocal, M.isIn]; omega⟩
    simp only [M.insOk, hin, Bool.true_and]
    rw [if_neg (by omega), if_neg (by omega), if_neg (by omega), if_pos (by omega)]
    simp [reg_below]
  split
  · rename_i e
    refine ⟨?_, by simp [M.isLocal, M.isIn]; omega⟩
    simp only [M.insOk, hin, Bool.true_and]
    rw [if_neg (by omega), if_neg (by omega), if_pos (by omega)]
    simp [reg_below]
  · refine ⟨?_, by simp [M.isLocal, M.isIn]; omega⟩
    simp only [M.insOk, hin, Bool.true_and]
    rw [if_neg (by omega), if_neg (by omega), if_neg (by omega), if_neg (by omega), if_neg (by omega), if_neg (by omega)]
    have : M.isIn (1 + o) 3 9 = true := by simp [M.isIn]; omega
    simp [reg_below, this]
theorem one_good (c : D.Cur) {n : Int} (hn : 0 ≤ n ∧ n ≤ 8) : M.insOk (M.wildOne c n).1 n = true ∧ M.isLocal (M.wildOne c n).1 = true := by
  have hw : IntKind.wrap .i64 (n + 1) = n + 1 := w64 (by omega) (by omega)
  have hin : M.isIn n 0 32 = true := by simp [M.isIn]; omega
  have ht : ∀ d : D.Cur, M.isIn (M.spec_l01Below d (n + 1)).1 0 n = true := fun d => by
    have := below_in d (n := n + 1) (by omega)
    simp [M.isIn]; omega
  simp only [M.wildOne, hw]
  split
  · refine ⟨?_, rfl⟩
    simp [M.insOk, hin, reg_below, ht]
  split
  · refine ⟨?_, rfl⟩
    simp [M.insOk, hin, ht]
  split
  · refine ⟨?_, rfl⟩
    simp [M.insOk, hin]
  · exact plain_good _ (by omega)
theorem wild_good {n : Int} (hn : 0 ≤ n ∧ n ≤ 8) : ∀ (k : Nat) (c : D.Cur), ∀ x ∈ (M.wildN n k c).1, M.insOk x n = true ∧ M.isLocal x = true
  | 0, c, x, hx => by simp [M.wildN] at hx
  | k + 1, c, x, hx => by
    simp only [M.wildN, List.mem_append, List.mem_singleton] at hx
    rcases hx with hx | rfl
    · exact wild_good hn k c x hx
    · exact one_good _ hn
theorem wild_quiet (c : D.Cur) : M.isQuiet (M.spec_l07Wild c).1 = true ∧ (M.spec_l07Wild c).1.length ≤ 8 := by
  have h9 := below_in c (n := 9) (by omega)
  have hl := wild_len (M.spec_l01Below c 9).1 (M.spec_l01Below c 9).1.toNat (M.spec_l01Below c 9).2
  have hg := wild_good (n := (M.spec_l01Below c 9).1) (by omega) (M.spec_l01Below c 9).1.toNat (M.spec_l01Below c 9).2
  change (M.spec_l07Wild c).1.length = _ at hl
  change ∀ x ∈ (M.spec_l07Wild c).1, _ at hg
  have e : (((M.spec_l07Wild c).1.length : Nat) : Int) = (M.spec_l01Below c 9).1 := by omega
  refine ⟨?_, by omega⟩
  simp only [M.isQuiet, M.programOk, Bool.and_eq_true, decide_eq_true_eq, List.all_eq_true, e]
  exact ⟨⟨by omega, fun x hx => (hg x hx).1⟩, fun x hx => (hg x hx).2⟩
theorem word_good (c : D.Cur) : M.isWord (M.spec_l02Word c).1 = true := by
  have h9 := below_in c (n := 9) (by omega)
  have h9000 := below_in (M.spec_l01Below c 9).2 (n := 9000) (by omega)
  simp only [M.spec_l02Word, M.spec_l01PickInt]
  generalize (M.spec_l01Below c 9).1 = a at *
  generalize M.spec_l01Below (M.spec_l01Below c 9).2 9000 = b at *
  have hi := below_in b.2 (n := ((([0, 1, 2, 7, 100, 65535, 32768, a, b.1] : List Int).length : Nat) : Int)) (by simp)
  have hm := rd_of hi.1 hi.2
  rw [isWord_iff]
  generalize rd ([0, 1, 2, 7, 100, 65535, 32768, a, b.1] : List Int) _ = x at *
  simp only [List.mem_cons, List.not_mem_nil, or_false] at hm
  omega
theorem words_good : ∀ (k : Nat) (c : D.Cur), (M.wordsN k c).1.all M.isWord = true
  | 0, c => rfl
  | k + 1, c => by simp only [M.wordsN, List.all_append, words_good k c, List.all_cons, List.all_nil, word_good, Bool.and_self]
theorem places_good : ∀ (k : Nat) (c : D.Cur), ∀ x ∈ (M.placesN k c).1, 0 ≤ x ∧ x < 10000
  | 0, c, x, hx => by simp [M.placesN] at hx
  | k + 1, c, x, hx => by
    simp only [M.placesN, List.mem_append, List.mem_singleton] at hx
    rcases hx with hx | rfl
    · exact places_good k c x hx
    · exact below_in _ (by omega)
theorem lessW_word (a b : Int) : M.isWord (M.lessW a b) = true := by unfold M.lessW; split <;> rfl
theorem zero_or_mod (c : Bool) (x : Int) : M.isWord (if c then x % 65536 else 0) = true := by split; exact isWord_mod x; rfl
theorem addW_word (a b : Int) : M.isWord (M.addW a b) = true := zero_or_mod _ _
theorem subW_word (a b : Int) : M.isWord (M.subW a b) = true := zero_or_mod _ _
theorem mulW_word (a b : Int) : M.isWord (M.mulW a b) = true := zero_or_mod _ _
theorem xorW_word {a b : Int} (ha : M.isWord a = true) (hb : M.isWord b = true) : M.isWord (bitXor .i64 a b) = true := by
  rw [isWord_iff] at *
  unfold bitXor
  have e1 : (BitVec.ofInt (IntKind.bits .i64) a ^^^ BitVec.ofInt (IntKind.bits .i64) b).toNat = a.toNat ^^^ b.toNat := by
    show (BitVec.ofInt 64 a ^^^ BitVec.ofInt 64 b).toNat = _
    rw [BitVec.toNat_xor, BitVec.toNat_ofInt, BitVec.toNat_ofInt, show ((2 ^ 64 : Nat) : Int) = 18446744073709551616 from rfl]
    congr 1 <;> omega
  have e2 : a.toNat ^^^ b.toNat < 2 ^ 16 := Nat.xor_lt_two_pow (by omega) (by omega)
  rw [e1, w64 (by omega) (by omega)]
  omega
theorem set_words {r : List Int} (h : r.all M.isWord = true) (k : Nat) {x : Int} (hx : M.isWord x = true) : (r.set k x).all M.isWord = true := by
  rw [List.all_eq_true] at *
  intro y hy
  rcases List.mem_or_eq_of_mem_set hy with h' | rfl
  · exact h y h'
  · exact hx
theorem apply_words {i : D.Ins} {n : Int} {t : Int} {r : List Int} (hok : M.insOk i n = true) (ht : 0 ≤ t ∧ t ≤ 23) (hl : r.length = 4) (h : r.all M.isWord = true) : (M.apply i t r).all M.isWord = true := by
  obtain ⟨_, hA, hB, hC⟩ := fits_regs (i := i) (r := r) ⟨hl, n, hok⟩
  have hw := List.all_eq_true.1 h
  have rdw : ∀ x, 0 ≤ x ∧ x ≤ 3 → M.isWord (rd r x) = true := fun x hx => hw _ (rd_of hx.1 (by omega))
  unfold M.apply
  split
  · rename_i e
    refine set_words h _ ?_
    simp only [M.insOk, Bool.and_eq_true] at hok
    have hok := hok.2
    rw [if_neg (by omega), if_pos e] at hok
    simp only [Bool.and_eq_true] at hok
    exact hok.2.1
  split
  · exact set_words h _ (rdw _ (hB (by omega)))
  split
  · exact set_words h _ (addW_word _ _)
  split
  · exact set_words h _ (subW_word _ _)
  split
  · exact set_words h _ (mulW_word _ _)
  split
  · exact set_words h _ (xorW_word (rdw _ (hB (by omega))) (rdw _ (hC (by omega))))
  split
  · exact set_words h _ (lessW_word _ _)
  split
  · exact set_words h _ (isWord_iff.2 (by omega))
  split
  · split
    · exact set_words h _ (rdw _ (hB (by omega)))
    · exact h
  · exact h
end Go.V
set_option linter.unusedVariables false
set_option linter.unusedVariables false
set_option linter.unusedSimpArgs false
set_option maxRecDepth 20000
namespace Go.V
theorem eq_loop {α : Type} [Inhabited α] [BEq α] [LawfulBEq α] {a b : List α} (ha : M.Long a) (hl : a.length = b.length) {B : (Int × Unit) → ((Int × Unit) → Prop) → Prop} {Q : Bool → Prop}
    (hb : ∀ (k : Nat) (next : (Int × Unit) → Prop), k < a.length → k < b.length → (rd a (k : Int) ≠ rd b (k : Int) → Q false) → (rd a (k : Int) = rd b (k : Int) → next (((k + 1 : Nat) : Int), ())) → B ((k : Int), ()) next)
    (he : ∀ (next : (Int × Unit) → Prop), a = b → B ((a.length : Int), ()) next) (hQ : a ≠ b → Q false) : LoopP B (0, ()) := by
  refine loop_n a.length (fun k => ((k : Int), ())) (fun k => ∀ j : Nat, j < k → rd a j = rd b j) rfl (by simp) (fun k hk hF next hn => ?_) fun hF next => ?_
  · refine hb k next hk (by omega) (fun e => hQ (fun h => e (by rw [h]))) fun e => hn fun j hj => ?_
    by_cases hjk : j = k
    · subst hjk; exact e
    · exact hF j (by omega)
  · exact he next (eq_of_takes hl hF)
end Go.V
set_option linter.unusedVariables false
namespace Go.V
def wp.impl_areAllRegs (xs0 : List Int) (Q : Bool → Prop) : Prop :=
  Q (((xs0.length : Nat) : Int) == 32)
def wp.impl_areFrames (xs0 : List D.Frame) (x1 : Int) (Q : Bool → Prop) : Prop :=
  LoopP (σ := Int × Unit) (fun (p83 : Int × Unit) next25 => match p83 with | (i21, _) => bcase (decide (i21 < ((xs0.length : Nat) : Int))) (((0 ≤ i21 ∧ i21 < ((xs0.length : Nat) : Int)) ∧ (∀ r36, r36 = M.impl_within ((rd xs0 i21).Pc) 0 x1 → bcase (!r36) (Q false) ((∀ r41, r41 = M.impl_within ((rd xs0 i21).Stop) 0 x1 → bcase (!r41) (Q false) ((∀ r46, r46 = M.impl_IsMask ((rd xs0 i21).Mask) → bcase (!r46) (Q false) (bcase ((rd xs0 i21).Mask == 0) (Q false) (next25 ((IntKind.wrap .i64 (i21 + 1)), ())))))))))) (bcase (((xs0.length : Nat) : Int) == 0) (Q true) (((0 ≤ (IntKind.wrap .i64 (((xs0.length : Nat) : Int) - 1)) ∧ (IntKind.wrap .i64 (((xs0.length : Nat) : Int) - 1)) < ((xs0.length : Nat) : Int)) ∧ bcase (decide (((xs0.length : Nat) : Int) ≤ 24)) (bcase ((rd xs0 (IntKind.wrap .i64 (((xs0.length : Nat) : Int) - 1))).Pc != (rd xs0 (IntKind.wrap .i64 (((xs0.length : Nat) : Int) - 1))).Stop) (bcase ((rd xs0 (IntKind.wrap .i64 (((xs0.length : Nat) : Int) - 1))).Pc != x1) (((0 ≤ (0 : Int) ∧ (0 : Int) < ((xs0.length : Nat) : Int)) ∧ bcase ((rd xs0 0).Stop == x1) (((0 ≤ (0 : Int) ∧ (0 : Int) < ((xs0.length : Nat) : Int)) ∧ Q ((rd xs0 0).Mask == 255))) (Q false))) (Q false)) (Q false)) (Q false))))) (0, ())
def wp.impl_isWarpOf (xs0 : List D.Ins) (s1 : D.Warp) (Q : Bool → Prop) : Prop :=
  (∀ r23, r23 = M.impl_isWarpNumber s1.Number → bcase r23 ((∀ r28, r28 = M.impl_areAllRegs s1.Regs → bcase r28 ((M.impl_AreWords_pre s1.Regs ∧ ∀ r33, r33 = M.impl_AreWords s1.Regs → bcase r33 ((M.impl_areFrames_pre s1.Frames ((xs0.length : Nat) : Int) ∧ ∀ r38, r38 = M.impl_areFrames s1.Frames ((xs0.length : Nat) : Int) → Q r38)) (Q false))) (Q false))) (Q false))
end Go.V
set_option linter.unusedVariables false
set_option linter.unusedSimpArgs false
set_option maxRecDepth 20000
namespace Go.V
theorem last_wrap {n : Nat} (h : n ≤ 9223372036854775807) : IntKind.wrap .i64 ((n : Int) - 1) = (n : Int) - 1 := w64 (by omega) (by omega)
theorem frames_false {fs : List D.Frame} {n : Int} {k : Nat} (hk : k < fs.length) (h : M.frameOk n (rd fs (k : Int)) = false) : M.areFrames fs n = false := by
  have := all_false (g := M.frameOk n) hk h
  simp [M.areFrames, this]
theorem wp.impl_areFrames.math (fs : List D.Frame) (n : Int) (h : M.impl_areFrames_pre fs n) : wp.impl_areFrames fs n (fun r => r = M.impl_areFrames fs n) := by
  unfold wp.impl_areFrames
  have hl : fs.length ≤ 9223372036854775807 := h
  refine all_loop (g := M.frameOk n) (Q := fun r => r = M.areFrames fs n) h (fun k next hk h1 h2 => ?_) (fun next ha => ?_) fun ha => by simp [M.areFrames, ha]
  · refine bcase_t (by simp; omega) ⟨by omega, fun r hr => bcase_mk (fun e => ?_) fun e r2 hr2 => bcase_mk (fun e2 => ?_) fun e2 r3 hr3 => bcase_mk (fun e3 => ?_) fun e3 => bcase_mk (fun e4 => ?_) fun e4 => ?_⟩
    all_goals simp only [M.impl_within, M.impl_IsMask] at *
    · have := nt e hr
      exact (frames_false hk (by simp [M.frameOk, this])).symm
    · have := nt e2 hr2
      exact (frames_false hk (by simp [M.frameOk, this])).symm
    · have := nt e3 hr3
      exact (frames_false hk (by simp [M.frameOk, this])).symm
    · have e4 : (rd fs (k : Int)).Mask = 0 := by simpa using e4
      exact (frames_false hk (by simp [M.frameOk, e4])).symm
    · rw [up64 hk h]
      refine h2 ?_
      have e4 : (rd fs (k : Int)).Mask ≠ 0 := by simpa using e4
      simp [M.frameOk, nf e hr, nf e2 hr2, nf e3 hr3, e4]
  · refine bcase_f (by simp) (bcase_mk (fun e => ?_) fun e => ?_)
    · have : fs = [] := by simpa using e
      subst this; rfl
    have h0 : fs ≠ [] := by rintro rfl; simp at e
    have hpos : 0 < fs.length := List.length_pos_iff.2 h0
    have hA : M.areFrames fs n = M.endsOk fs n := by
      have : fs.isEmpty = false := by simpa using h0
      simp [M.areFrames, ha, this]
    show _
    simp only [M.impl_areFrames, hA, last_wrap hl]
    refine ⟨by omega, bcase_mk (fun e1 => bcase_mk (fun e2 => bcase_mk (fun e3 => ⟨by omega, bcase_mk (fun e4 => ⟨by omega, ?_⟩) fun e4 => ?_⟩) fun e3 => ?_) fun e2 => ?_) fun e1 => ?_⟩
    all_goals simp only [M.endsOk]
    all_goals change _ = (_ && ((rd fs (((fs.length : Nat) : Int) - 1)).Pc != (rd fs (((fs.length : Nat) : Int) - 1)).Stop && ((rd fs (((fs.length : Nat) : Int) - 1)).Pc != n && _)))
    · have e1 : fs.length ≤ 24 := by simp at e1; omega
      rw [e2, e3, e4]; simp [e1]
    · rw [e4]; simp
    · rw [e3]; simp
    · rw [e2]; simp
    · have e1 : ¬ fs.length ≤ 24 := by simp at e1; omega
      simp [e1]
theorem lenE {r : List Int} : (((r.length : Nat) : Int) == 32) = (r.length == 32) := by
  rw [Bool.eq_iff_iff]; simp; omega
theorem wp.impl_areAllRegs.math (r : List Int) : wp.impl_areAllRegs r (fun x => x = M.impl_areAllRegs r) := lenE
theorem wp.impl_isWarpOf.math (p : List D.Ins) (x : D.Warp) (h : M.impl_isWarpOf_pre p x) : wp.impl_isWarpOf p x (fun r => r = M.impl_isWarpOf p x) := by
  obtain ⟨h1, h2⟩ := h
  refine fun r hr => bcase_mk (fun e r2 hr2 => bcase_mk (fun e2 => ⟨h2, fun r3 hr3 => bcase_mk (fun e3 => ⟨h1, fun r4 hr4 => ?_⟩) fun e3 => ?_⟩) fun e2 => ?_) fun e => ?_
  all_goals try simp only [M.impl_isWarpNumber, M.impl_areAllRegs, M.impl_AreWords, M.impl_areFrames, M.impl_isWarpOf, M.warpOf] at *
  · subst hr hr2 hr3 hr4; simp [e, e2, e3]
  · subst hr hr2 hr3; simp [e, e2, e3]
  · subst hr hr2; simp [e, e2]
  · subst hr; simp [e]
theorem lenB {r : List Int} : (((r.length : Nat) : Int) != 32) = !(r.length == 32) := by rw [← lenE]; rfl
end Go.V
set_option linter.unusedVariables false
namespace Go.V
def wp.slices_Equal_impl_Frame_impl_Frame (xs0 : List D.Frame) (xs1 : List D.Frame) (Q : Bool → Prop) : Prop :=
  bcase (((xs0.length : Nat) : Int) != ((xs1.length : Nat) : Int)) (Q false) (LoopP (σ := Int × Unit) (fun (p43 : Int × Unit) next25 => match p43 with | (i21, _) => bcase (decide (i21 < ((xs0.length : Nat) : Int))) (((0 ≤ i21 ∧ i21 < ((xs0.length : Nat) : Int)) ∧ ((0 ≤ i21 ∧ i21 < ((xs1.length : Nat) : Int)) ∧ bcase (!(((rd xs0 i21).Pc == (rd xs1 i21).Pc) && ((rd xs0 i21).Stop == (rd xs1 i21).Stop) && ((rd xs0 i21).Mask == (rd xs1 i21).Mask))) (Q false) (next25 ((IntKind.wrap .i64 (i21 + 1)), ()))))) (Q true)) (0, ()))
def wp.slices_Equal_int_int (xs0 : List Int) (xs1 : List Int) (Q : Bool → Prop) : Prop :=
  bcase (((xs0.length : Nat) : Int) != ((xs1.length : Nat) : Int)) (Q false) (LoopP (σ := Int × Unit) (fun (p43 : Int × Unit) next25 => match p43 with | (i21, _) => bcase (decide (i21 < ((xs0.length : Nat) : Int))) (((0 ≤ i21 ∧ i21 < ((xs0.length : Nat) : Int)) ∧ ((0 ≤ i21 ∧ i21 < ((xs1.length : Nat) : Int)) ∧ bcase ((rd xs0 i21) != (rd xs1 i21)) (Q false) (next25 ((IntKind.wrap .i64 (i21 + 1)), ()))))) (Q true)) (0, ()))
def wp.impl_SameWarp (s0 : D.Warp) (s1 : D.Warp) (Q : Bool → Prop) : Prop :=
  bcase (s0.Number == s1.Number) ((M.slices_Equal_impl_Frame_impl_Frame_pre s0.Frames s1.Frames ∧ ∀ r25, r25 = M.slices_Equal_impl_Frame_impl_Frame s0.Frames s1.Frames → bcase r25 ((M.slices_Equal_int_int_pre s0.Regs s1.Regs ∧ ∀ r30, r30 = M.slices_Equal_int_int s0.Regs s1.Regs → Q r30)) (Q false))) (Q false)
end Go.V
set_option linter.unusedVariables false
set_option linter.unusedSimpArgs false
set_option maxRecDepth 20000
namespace Go.V
theorem frameB (a b : D.Frame) : ((a.Pc == b.Pc) && (a.Stop == b.Stop) && (a.Mask == b.Mask)) = (a == b) := by
  cases a; cases b; rw [Bool.eq_iff_iff]; simp [and_assoc]
theorem same_loop {α : Type} [Inhabited α] [BEq α] [LawfulBEq α] {a b : List α} (ha : M.Long a) {Q : Bool → Prop} {B : (Int × Unit) → ((Int × Unit) → Prop) → Prop}
    (hb : a.length = b.length → ∀ (k : Nat) (next : (Int × Unit) → Prop), k < a.length → k < b.length → (rd a (k : Int) ≠ rd b (k : Int) → Q false) → (rd a (k : Int) = rd b (k : Int) → next (((k + 1 : Nat) : Int), ())) → B ((k : Int), ()) next)
    (he : ∀ (next : (Int × Unit) → Prop), a = b → B ((a.length : Int), ()) next) (hQ : a ≠ b → Q false) : bcase (((a.length : Nat) : Int) != ((b.length : Nat) : Int)) (Q false) (LoopP B (0, ())) := by
  refine bcase_mk (fun e => hQ ?_) fun e => ?_
  · rintro rfl; simp at e
  · have hl : a.length = b.length := by simp at e; omega
    exact eq_loop ha hl (hb hl) he hQ
theorem wp.slices_Equal_impl_Frame_impl_Frame.math (a b : List D.Frame) (h : M.slices_Equal_impl_Frame_impl_Frame_pre a b) : wp.slices_Equal_impl_Frame_impl_Frame a b (fun r => r = M.slices_Equal_impl_Frame_impl_Frame a b) := by
  unfold wp.slices_Equal_impl_Frame_impl_Frame
  simp only [frameB]
  refine same_loop h (Q := fun r => r = M.slices_Equal_impl_Frame_impl_Frame a b) (fun hl k next hk hk' h1 h2 => ?_) (fun next e => bcase_f (by simp) (by simp [M.slices_Equal_impl_Frame_impl_Frame, e])) fun hne => by simp [M.slices_Equal_impl_Frame_impl_Frame, hne]
  refine bcase_t (by simp; omega) ⟨by omega, by omega, bcase_mk (fun e => h1 (by simpa using e)) fun e => ?_⟩
  rw [up64 hk h]; exact h2 (by simpa using e)
theorem wp.slices_Equal_int_int.math (a b : List Int) (h : M.slices_Equal_int_int_pre a b) : wp.slices_Equal_int_int a b (fun r => r = M.slices_Equal_int_int a b) := by
  unfold wp.slices_Equal_int_int
  refine same_loop h (Q := fun r => r = M.slices_Equal_int_int a b) (fun hl k next hk hk' h1 h2 => ?_) (fun next e => bcase_f (by simp) (by simp [M.slices_Equal_int_int, e])) fun hne => by simp [M.slices_Equal_int_int, hne]
  refine bcase_t (by simp; omega) ⟨by omega, by omega, bcase_mk (fun e => h1 (by simpa using e)) fun e => ?_⟩
  rw [up64 hk h]; exact h2 (by simpa using e)
theorem warp_ne {a b : D.Warp} (h : a.Number ≠ b.Number ∨ a.Frames ≠ b.Frames ∨ a.Regs ≠ b.Regs) : (a == b) = false := by
  refine beq_eq_false_iff_ne.2 ?_
  rintro rfl
  simp at h
theorem warp_eq {a b : D.Warp} (h1 : a.Number = b.Number) (h2 : a.Frames = b.Frames) (h3 : a.Regs = b.Regs) : (a == b) = true := by
  cases a; cases b; simp at *; exact ⟨h1, h2, h3⟩
theorem wp.impl_SameWarp.math (a b : D.Warp) (h : M.impl_SameWarp_pre a b) : wp.impl_SameWarp a b (fun r => r = M.impl_SameWarp a b) := by
  obtain ⟨h1, h2⟩ := h
  refine bcase_mk (fun e => ⟨h1, fun r hr => bcase_mk (fun e2 => ⟨h2, fun r3 hr3 => ?_⟩) fun e2 => ?_⟩) fun e => ?_
  · have e : a.Number = b.Number := by simpa using e
    have e2 : a.Frames = b.Frames := by have := hr.symm.trans e2; simpa [M.slices_Equal_impl_Frame_impl_Frame] using this
    by_cases e3 : a.Regs = b.Regs
    · rw [hr3, show M.impl_SameWarp a b = true from warp_eq e e2 e3]; simp [M.slices_Equal_int_int, e3]
    · rw [hr3, show M.impl_SameWarp a b = false from warp_ne (.inr (.inr e3))]; simp [M.slices_Equal_int_int, e3]
  · have := hr.symm.trans e2
    exact (warp_ne (.inr (.inl (by simpa [M.slices_Equal_impl_Frame_impl_Frame] using this)))).symm
  · exact (warp_ne (.inl (by simpa using e))).symm
end Go.V
set_option linter.unusedVariables false
namespace Go.V
def wp.spec_WarpNew (xs0 : List D.Ins) (x1 : Int) (Q : (D.Warp × Bool) → Prop) : Prop :=
  (M.spec_ProgramOk_pre xs0 ∧ ∀ r23, r23 = M.spec_ProgramOk xs0 → bcase (!r23) (Q ((⟨0, ([] : List D.Frame), ([] : List Int)⟩ : D.Warp), false)) ((∀ r30, r30 = M.spec_l01In x1 0 2 → bcase (!r30) (Q ((⟨0, ([] : List D.Frame), ([] : List Int)⟩ : D.Warp), false)) (((0 ≤ (32 : Int) ∧ (32 : Int) ≤ 17179869184) ∧ bcase (decide (((xs0.length : Nat) : Int) > 0)) (Q ((⟨x1, ([(⟨0, ((xs0.length : Nat) : Int), 255⟩ : D.Frame)] : List D.Frame), (List.replicate ((32 : Int).toNat) (default : Int))⟩ : D.Warp), true)) (Q ((⟨x1, ([] : List D.Frame), (List.replicate ((32 : Int).toNat) (default : Int))⟩ : D.Warp), true)))))))
def wp.spec_l12Copy (s0 : D.Warp) (Q : D.Warp → Prop) : Prop :=
  ((((((([] : List D.Frame).length + s0.Frames.length ≤ 17179869184) ∧ ((([] : List Int).length + s0.Regs.length ≤ 17179869184) ∧ Q (⟨s0.Number, (([] : List D.Frame) ++ s0.Frames), (([] : List Int) ++ s0.Regs)⟩ : D.Warp)))) ∧ (((([] : List D.Frame).length + s0.Frames.length ≤ 17179869184) ∧ ((([] : List Int).length + s0.Regs.length ≤ 17179869184) ∧ Q (⟨s0.Number, (([] : List D.Frame) ++ s0.Frames), (([] : List Int) ++ s0.Regs)⟩ : D.Warp)))) ∧ True)) ∧ (((([] : List D.Frame).length + s0.Frames.length ≤ 17179869184) ∧ ((([] : List Int).length + s0.Regs.length ≤ 17179869184) ∧ Q (⟨s0.Number, (([] : List D.Frame) ++ s0.Frames), (([] : List Int) ++ s0.Regs)⟩ : D.Warp)))) ∧ True)
def wp.slices_Clone_impl_Frame_impl_Frame (xs0 : List D.Frame) (Q : (List D.Frame) → Prop) : Prop :=
  (∀ b21 : Bool, (b21 = true → xs0 = []) → bcase b21 (Q ([] : List D.Frame)) (((([] : List D.Frame).length + xs0.length ≤ 17179869184) ∧ Q (([] : List D.Frame) ++ xs0))))
def wp.impl_copyWarp (s0 : D.Warp) (Q : D.Warp → Prop) : Prop :=
  (((((M.slices_Clone_impl_Frame_impl_Frame_pre s0.Frames ∧ ∀ r25, r25 = M.slices_Clone_impl_Frame_impl_Frame s0.Frames → (M.slices_Clone_int_int_pre s0.Regs ∧ ∀ r32, r32 = M.slices_Clone_int_int s0.Regs → Q (⟨s0.Number, r25, r32⟩ : D.Warp)))) ∧ ((M.slices_Clone_impl_Frame_impl_Frame_pre s0.Frames ∧ ∀ r45, r45 = M.slices_Clone_impl_Frame_impl_Frame s0.Frames → (M.slices_Clone_int_int_pre s0.Regs ∧ ∀ r52, r52 = M.slices_Clone_int_int s0.Regs → Q (⟨s0.Number, r45, r52⟩ : D.Warp)))) ∧ True)) ∧ ((M.slices_Clone_impl_Frame_impl_Frame_pre s0.Frames ∧ ∀ r65, r65 = M.slices_Clone_impl_Frame_impl_Frame s0.Frames → (M.slices_Clone_int_int_pre s0.Regs ∧ ∀ r72, r72 = M.slices_Clone_int_int s0.Regs → Q (⟨s0.Number, r65, r72⟩ : D.Warp)))) ∧ True)
end Go.V
set_option linter.unusedVariables false
set_option linter.unusedVariables false
set_option linter.unusedSimpArgs false
set_option maxRecDepth 20000
namespace Go.V
theorem wp.slices_Clone_impl_Frame_impl_Frame.math (l : List D.Frame) (h : M.slices_Clone_impl_Frame_impl_Frame_pre l) : wp.slices_Clone_impl_Frame_impl_Frame l (fun r => r = M.slices_Clone_impl_Frame_impl_Frame l) := by
  intro b hb
  refine bcase_mk (fun e => ?_) fun e => ⟨by simp only [List.length_nil, Nat.zero_add]; exact h, ?_⟩
  · rw [hb e]; rfl
  · simp [M.slices_Clone_impl_Frame_impl_Frame]
theorem newWarp_eq (p : List D.Ins) (n : Int) : bcase (decide (((p.length : Nat) : Int) > 0)) ((⟨n, [⟨0, ((p.length : Nat) : Int), 255⟩], List.replicate ((32 : Int).toNat) (default : Int)⟩ : D.Warp) = M.newWarp p n) ((⟨n, [], List.replicate ((32 : Int).toNat) (default : Int)⟩ : D.Warp) = M.newWarp p n) := by
  refine bcase_mk (fun e => ?_) fun e => ?_
  · have e3 : p.length > 0 := by simp only [decide_eq_true_eq] at e; omega
    unfold M.newWarp; rw [if_pos e3]; rfl
  · have e3 : ¬ p.length > 0 := by simp only [decide_eq_false_iff_not] at e; omega
    unfold M.newWarp; rw [if_neg e3]; rfl
theorem wp.spec_WarpNew.math (p : List D.Ins) (n : Int) (h : M.spec_WarpNew_pre p n) : wp.spec_WarpNew p n (fun r => r = M.spec_WarpNew p n) := by
  refine ⟨h, fun r hr => bcase_mk (fun e => ?_) fun e r2 hr2 => bcase_mk (fun e2 => ?_) fun e2 => ⟨by omega, ?_⟩⟩
  all_goals simp only [M.spec_ProgramOk, M.spec_l01In] at *
  · simp [M.spec_WarpNew, nt e hr, M.noWarp]
  · simp [M.spec_WarpNew, nt e2 hr2, M.noWarp]
  · have hM : M.spec_WarpNew p n = (M.newWarp p n, true) := by simp [M.spec_WarpNew, nf e hr, nf e2 hr2]
    rw [hM]
    have := bcase_iff.1 (newWarp_eq p n)
    exact bcase_mk (fun e3 => by rw [this.1 e3]) fun e3 => by rw [this.2 e3]
theorem joinP_of {σ : Type} {A : (σ → Prop) → Prop} {B : σ → Prop} (v : σ) (h : B v) (hA : ∀ J : σ → Prop, J v → A J) : JoinP A B := hA B h
theorem wp.impl_copyWarp.math (x : D.Warp) (h : M.impl_copyWarp_pre x) : wp.impl_copyWarp x (fun r => r = M.impl_copyWarp x) := by
  obtain ⟨h1, h2⟩ := h
  have q1 : M.slices_Clone_impl_Frame_impl_Frame_pre x.Frames := h1
  have q2 : M.slices_Clone_int_int_pre x.Regs := h2
  unfold wp.impl_copyWarp
  simp only [M.slices_Clone_impl_Frame_impl_Frame, M.slices_Clone_int_int, forall_eq, q1, q2, true_and, and_true, M.impl_copyWarp, and_self]
theorem rd_app {α : Type} [Inhabited α] {l m : List α} {y : α} {k : Nat} (h : l.length = k) : rd (l ++ y :: m) (k : Int) = y := by
  subst h
  rw [rd_nat (by simp)]; simp
theorem wp.spec_l12Copy.math (x : D.Warp) (h : M.spec_l12Copy_pre x) : wp.spec_l12Copy x (fun r => r = M.spec_l12Copy x) := by
  obtain ⟨h1, h2⟩ := h
  unfold wp.spec_l12Copy
  simp only [List.nil_append, List.length_nil, Nat.zero_add, h1, h2, true_and, and_true, and_self, M.spec_l12Copy]
end Go.V
set_option linter.unusedVariables false
set_option linter.unusedVariables false
set_option linter.unusedVariables false
set_option linter.unusedSimpArgs false
set_option maxRecDepth 20000
namespace Go.V
theorem empty_len0 {α : Type} {l : List α} : (((l.length : Nat) : Int) == 0) = l.isEmpty := by
  cases l with
  | nil => rfl
  | cons x l =>
    have : ¬ (((x :: l).length : Nat) : Int) = 0 := by simp only [List.length_cons]; omega
    rw [beq_eq_false_iff_ne.2 this]; rfl
theorem frames_last {p : List D.Ins} {x : D.Warp} (h : M.warpOf p x = true) (hx : x.Frames ≠ []) : x.Frames.length ≤ 24 ∧ 0 ≤ (M.lastF x.Frames).Pc ∧ (M.lastF x.Frames).Pc < ((p.length : Nat) : Int) := by
  simp only [M.warpOf, M.areFrames, Bool.and_eq_true, Bool.or_eq_true] at h
  obtain ⟨h1, h2, h3, h4, h5⟩ := h
  have h5 := h5.resolve_left (by simpa using hx)
  have hpos : 0 < x.Frames.length := List.length_pos_iff.2 hx
  have hm : M.lastF x.Frames ∈ x.Frames := rd_of (by omega) (by omega)
  have hf := List.all_eq_true.1 h4 _ hm
  simp only [M.endsOk, M.frameOk, M.isIn, Bool.and_eq_true, decide_eq_true_eq, bne_iff_ne] at h5 hf
  exact ⟨h5.1, hf.1.1, by omega⟩
end Go.V
set_option linter.unusedVariables false
namespace Go.V
def wp.spec_ActiveMask (s0 : D.Warp) (Q : Int → Prop) : Prop :=
  bcase (((s0.Frames.length : Nat) : Int) == 0) (Q 0) (((0 ≤ (IntKind.wrap .i64 (((s0.Frames.length : Nat) : Int) - 1)) ∧ (IntKind.wrap .i64 (((s0.Frames.length : Nat) : Int) - 1)) < ((s0.Frames.length : Nat) : Int)) ∧ Q ((rd s0.Frames (IntKind.wrap .i64 (((s0.Frames.length : Nat) : Int) - 1))).Mask)))
def wp.spec_ZeroMask (s0 : D.Warp) (x1 : Int) (Q : Int → Prop) : Prop :=
  (∀ r23, r23 = M.spec_l04Reg x1 → bcase (!r23) (Q 0) (bcase (((s0.Regs.length : Nat) : Int) != 32) (Q 0) (LoopP (σ := Int × Int × Unit) (fun (p63 : Int × Int × Unit) next33 => match p63 with | (i28, i29, _) => bcase (decide (i29 < 8)) ((M.spec_ActiveMask_pre s0 ∧ ∀ r35, r35 = M.spec_ActiveMask s0 → (∀ r40, r40 = M.spec_HasLane r35 i29 → bcase r40 (((0 ≤ (IntKind.wrap .i64 ((IntKind.wrap .i64 (i29 * 4)) + x1)) ∧ (IntKind.wrap .i64 ((IntKind.wrap .i64 (i29 * 4)) + x1)) < ((s0.Regs.length : Nat) : Int)) ∧ bcase ((rd s0.Regs (IntKind.wrap .i64 ((IntKind.wrap .i64 (i29 * 4)) + x1))) == 0) (((0 ≤ i29) ∧ next33 ((bitOr .i64 i28 (IntKind.wrap .i64 (1 * 2 ^ (min (i29.toNat) (IntKind.bits .i64))))), (IntKind.wrap .i64 (i29 + 1)), ()))) (next33 (i28, (IntKind.wrap .i64 (i29 + 1)), ())))) (next33 (i28, (IntKind.wrap .i64 (i29 + 1)), ()))))) (Q i28)) (0, 0, ()))))
def wp.spec_l13Splits (xs0 : List D.Ins) (s1 : D.Warp) (Q : Bool → Prop) : Prop :=
  ((0 ≤ (IntKind.wrap .i64 (((s1.Frames.length : Nat) : Int) - 1)) ∧ (IntKind.wrap .i64 (((s1.Frames.length : Nat) : Int) - 1)) < ((s1.Frames.length : Nat) : Int)) ∧ ((0 ≤ (rd s1.Frames (IntKind.wrap .i64 (((s1.Frames.length : Nat) : Int) - 1))).Pc ∧ (rd s1.Frames (IntKind.wrap .i64 (((s1.Frames.length : Nat) : Int) - 1))).Pc < ((xs0.length : Nat) : Int)) ∧ bcase ((rd xs0 ((rd s1.Frames (IntKind.wrap .i64 (((s1.Frames.length : Nat) : Int) - 1))).Pc)).Op != 10) (Q false) (((0 ≤ (rd s1.Frames (IntKind.wrap .i64 (((s1.Frames.length : Nat) : Int) - 1))).Pc ∧ (rd s1.Frames (IntKind.wrap .i64 (((s1.Frames.length : Nat) : Int) - 1))).Pc < ((xs0.length : Nat) : Int)) ∧ bcase ((rd xs0 ((rd s1.Frames (IntKind.wrap .i64 (((s1.Frames.length : Nat) : Int) - 1))).Pc)).B == (IntKind.wrap .i64 ((rd s1.Frames (IntKind.wrap .i64 (((s1.Frames.length : Nat) : Int) - 1))).Pc + 1))) (Q false) (((0 ≤ (rd s1.Frames (IntKind.wrap .i64 (((s1.Frames.length : Nat) : Int) - 1))).Pc ∧ (rd s1.Frames (IntKind.wrap .i64 (((s1.Frames.length : Nat) : Int) - 1))).Pc < ((xs0.length : Nat) : Int)) ∧ (M.spec_ZeroMask_pre s1 ((rd xs0 ((rd s1.Frames (IntKind.wrap .i64 (((s1.Frames.length : Nat) : Int) - 1))).Pc)).A) ∧ ∀ r49, r49 = M.spec_ZeroMask s1 ((rd xs0 ((rd s1.Frames (IntKind.wrap .i64 (((s1.Frames.length : Nat) : Int) - 1))).Pc)).A) → bcase (r49 != 0) (Q (r49 != (rd s1.Frames (IntKind.wrap .i64 (((s1.Frames.length : Nat) : Int) - 1))).Mask)) (Q false))))))))
def wp.spec_l13Local (xs0 : List D.Ins) (s1 : D.Warp) (Q : Bool → Prop) : Prop :=
  bcase (((s1.Frames.length : Nat) : Int) == 0) (Q false) (((0 ≤ (IntKind.wrap .i64 (((s1.Frames.length : Nat) : Int) - 1)) ∧ (IntKind.wrap .i64 (((s1.Frames.length : Nat) : Int) - 1)) < ((s1.Frames.length : Nat) : Int)) ∧ ((0 ≤ (rd s1.Frames (IntKind.wrap .i64 (((s1.Frames.length : Nat) : Int) - 1))).Pc ∧ (rd s1.Frames (IntKind.wrap .i64 (((s1.Frames.length : Nat) : Int) - 1))).Pc < ((xs0.length : Nat) : Int)) ∧ (∀ r33, r33 = M.spec_IsLocal (rd xs0 ((rd s1.Frames (IntKind.wrap .i64 (((s1.Frames.length : Nat) : Int) - 1))).Pc)) → bcase (!r33) (Q false) ((M.spec_l13Splits_pre xs0 s1 ∧ ∀ r38, r38 = M.spec_l13Splits xs0 s1 → bcase (!r38) (Q true) (Q (decide (((s1.Frames.length : Nat) : Int) ≤ 22)))))))))
def wp.impl_ActiveMask (s0 : D.Warp) (Q : Int → Prop) : Prop :=
  bcase (((s0.Frames.length : Nat) : Int) == 0) (Q 0) (((0 ≤ (IntKind.wrap .i64 (((s0.Frames.length : Nat) : Int) - 1)) ∧ (IntKind.wrap .i64 (((s0.Frames.length : Nat) : Int) - 1)) < ((s0.Frames.length : Nat) : Int)) ∧ Q ((rd s0.Frames (IntKind.wrap .i64 (((s0.Frames.length : Nat) : Int) - 1))).Mask)))
def wp.impl_Warp_zeroMask (s0 : D.Warp) (x1 : Int) (Q : Int → Prop) : Prop :=
  (M.impl_ActiveMask_pre s0 ∧ ∀ r23, r23 = M.impl_ActiveMask s0 → (∀ r28, r28 = M.impl_LanesOf r23 → LoopP (σ := Int × Int × Unit) (fun (p64 : Int × Int × Unit) next40 => match p64 with | (i35, i36, _) => bcase (decide (i36 < ((r28.length : Nat) : Int))) (((0 ≤ i36 ∧ i36 < ((r28.length : Nat) : Int)) ∧ (M.impl_Warp_lane_pre s0 (rd r28 i36) ∧ ((0 ≤ x1 ∧ x1 < (((List.drop ((IntKind.wrap .i64 ((rd r28 i36) * 4)).toNat) (List.take ((IntKind.wrap .i64 ((IntKind.wrap .i64 ((rd r28 i36) + 1)) * 4)).toNat) s0.Regs)).length : Nat) : Int)) ∧ bcase ((rd (List.drop ((IntKind.wrap .i64 ((rd r28 i36) * 4)).toNat) (List.take ((IntKind.wrap .i64 ((IntKind.wrap .i64 ((rd r28 i36) + 1)) * 4)).toNat) s0.Regs)) x1) == 0) (((0 ≤ (rd r28 i36)) ∧ next40 ((bitOr .i64 i35 (IntKind.wrap .i64 (1 * 2 ^ (min ((rd r28 i36).toNat) (IntKind.bits .i64))))), (IntKind.wrap .i64 (i36 + 1)), ()))) (next40 (i35, (IntKind.wrap .i64 (i36 + 1)), ())))))) (Q i35)) (0, 0, ())))
def wp.impl_Warp_splits (s0 : D.Warp) (xs1 : List D.Ins) (Q : Bool → Prop) : Prop :=
  ((0 ≤ (IntKind.wrap .i64 (((s0.Frames.length : Nat) : Int) - 1)) ∧ (IntKind.wrap .i64 (((s0.Frames.length : Nat) : Int) - 1)) < ((s0.Frames.length : Nat) : Int)) ∧ ((0 ≤ (rd s0.Frames (IntKind.wrap .i64 (((s0.Frames.length : Nat) : Int) - 1))).Pc ∧ (rd s0.Frames (IntKind.wrap .i64 (((s0.Frames.length : Nat) : Int) - 1))).Pc < ((xs1.length : Nat) : Int)) ∧ bcase ((rd xs1 ((rd s0.Frames (IntKind.wrap .i64 (((s0.Frames.length : Nat) : Int) - 1))).Pc)).Op != 10) (Q false) (((0 ≤ (rd s0.Frames (IntKind.wrap .i64 (((s0.Frames.length : Nat) : Int) - 1))).Pc ∧ (rd s0.Frames (IntKind.wrap .i64 (((s0.Frames.length : Nat) : Int) - 1))).Pc < ((xs1.length : Nat) : Int)) ∧ bcase ((rd xs1 ((rd s0.Frames (IntKind.wrap .i64 (((s0.Frames.length : Nat) : Int) - 1))).Pc)).B == (IntKind.wrap .i64 ((rd s0.Frames (IntKind.wrap .i64 (((s0.Frames.length : Nat) : Int) - 1))).Pc + 1))) (Q false) (((0 ≤ (rd s0.Frames (IntKind.wrap .i64 (((s0.Frames.length : Nat) : Int) - 1))).Pc ∧ (rd s0.Frames (IntKind.wrap .i64 (((s0.Frames.length : Nat) : Int) - 1))).Pc < ((xs1.length : Nat) : Int)) ∧ (M.impl_Warp_zeroMask_pre s0 ((rd xs1 ((rd s0.Frames (IntKind.wrap .i64 (((s0.Frames.length : Nat) : Int) - 1))).Pc)).A) ∧ ∀ r44, r44 = M.impl_Warp_zeroMask s0 ((rd xs1 ((rd s0.Frames (IntKind.wrap .i64 (((s0.Frames.length : Nat) : Int) - 1))).Pc)).A) → bcase (r44 != 0) ((M.impl_ActiveMask_pre s0 ∧ ∀ r49, r49 = M.impl_ActiveMask s0 → Q (r44 != r49))) (Q false))))))))
end Go.V
set_option linter.unusedVariables false
set_option linter.unusedSimpArgs false
set_option maxRecDepth 20000
namespace Go.V
theorem activeMask_wp {x : D.Warp} (h : M.Long x.Frames) {Q : Int → Prop} (hQ : Q (M.activeMask x)) : bcase (((x.Frames.length : Nat) : Int) == 0) (Q 0) (((0 ≤ (IntKind.wrap .i64 (((x.Frames.length : Nat) : Int) - 1)) ∧ (IntKind.wrap .i64 (((x.Frames.length : Nat) : Int) - 1)) < ((x.Frames.length : Nat) : Int)) ∧ Q ((rd x.Frames (IntKind.wrap .i64 (((x.Frames.length : Nat) : Int) - 1))).Mask))) := by
  rw [empty_len0]
  refine bcase_mk (fun e => ?_) fun e => ?_
  · unfold M.activeMask at hQ; rw [if_pos e] at hQ; exact hQ
  · have hx : x.Frames ≠ [] := by simpa using e
    have hpos : 0 < x.Frames.length := List.length_pos_iff.2 hx
    rw [last_wrap h]
    unfold M.activeMask at hQ
    rw [if_neg (by rw [e]; simp)] at hQ
    exact ⟨by omega, hQ⟩
theorem wp.spec_ActiveMask.math (x : D.Warp) (h : M.spec_ActiveMask_pre x) : wp.spec_ActiveMask x (fun r => r = M.spec_ActiveMask x) := activeMask_wp (Q := fun r => r = M.activeMask x) h rfl
theorem wp.impl_ActiveMask.math (x : D.Warp) (h : M.impl_ActiveMask_pre x) : wp.impl_ActiveMask x (fun r => r = M.impl_ActiveMask x) := activeMask_wp (Q := fun r => r = M.activeMask x) h rfl
theorem zeroMask_range (x : D.Warp) (reg : Int) : M.zeroMask x reg = (List.range 8).foldl (fun m (k : Nat) => if M.hasLane (M.activeMask x) (k : Int) = true then M.zeroStep x reg m (k : Int) else m) 0 := by
  unfold M.zeroMask M.lanesOf
  rw [List.foldl_filter]
  rfl
theorem reg_in {reg k : Int} (hr : M.isReg reg = true) (h0 : 0 ≤ k) (h7 : k ≤ 7) : 0 ≤ k * 4 + reg ∧ k * 4 + reg < 32 := by rw [isReg_iff] at hr; omega
theorem wp.spec_ZeroMask.math (x : D.Warp) (reg : Int) (h : M.spec_ZeroMask_pre x reg) : wp.spec_ZeroMask x reg (fun r => r = M.spec_ZeroMask x reg) := by
  unfold wp.spec_ZeroMask
  simp only [lenB]
  refine fun r hr => bcase_mk (fun e => ?_) fun e => bcase_mk (fun e2 => ?_) fun e2 => ?_
  all_goals simp only [M.spec_l04Reg] at hr
  · simp [M.spec_ZeroMask, nt e hr]
  · have : (x.Regs.length == 32) = false := by simpa using e2
    simp [M.spec_ZeroMask, this]
  have hreg := nf e hr
  have h32 : (x.Regs.length == 32) = true := by simpa using e2
  have h32' : x.Regs.length = 32 := by simpa using h32
  have hM : M.spec_ZeroMask x reg = M.zeroMask x reg := by simp [M.spec_ZeroMask, hreg, h32]
  rw [hM, zeroMask_range]
  let F : Nat → Int := fun k => (List.range k).foldl (fun m (k : Nat) => if M.hasLane (M.activeMask x) (k : Int) = true then M.zeroStep x reg m (k : Int) else m) 0
  have hF : ∀ k, F (k + 1) = if M.hasLane (M.activeMask x) (k : Int) = true then M.zeroStep x reg (F k) (k : Int) else F k := fun k => by simp [F, List.range_succ]
  refine loop_n 8 (fun k => (F k, (k : Int), ())) (fun _ => True) rfl trivial (fun k hk _ next hn => ?_) fun _ next => bcase_f (by simp) rfl
  have hn := hn trivial
  rw [hF] at hn
  have hw : IntKind.wrap .i64 (IntKind.wrap .i64 ((k : Int) * 4) + reg) = (k : Int) * 4 + reg := by
    have := reg_in hreg (k := (k : Int)) (by omega) (by omega)
    rw [w64 (x := (k : Int) * 4) (by omega) (by omega), w64 (by omega) (by omega)]
  have hin := reg_in hreg (k := (k : Int)) (by omega) (by omega)
  refine bcase_t (by simp; omega) ⟨h, fun r2 hr2 r3 hr3 => bcase_mk (fun e3 => ?_) fun e3 => ?_⟩
  all_goals simp only [M.spec_ActiveMask] at hr2
  all_goals simp only [M.spec_HasLane, hr2] at hr3
  · rw [hw, h32']
    rw [if_pos (hr3.symm.trans e3)] at hn
    refine ⟨⟨hin.1, by omega⟩, bcase_mk (fun e4 => ⟨Int.natCast_nonneg k, ?_⟩) fun e4 => ?_⟩
    · have e4 : rd x.Regs ((k : Int) * 4 + reg) = 0 := by simpa using e4
      unfold M.zeroStep at hn
      rw [if_pos e4] at hn
      rw [up64 (n := 8) hk (by omega)]; exact hn
    · have e4 : ¬ rd x.Regs ((k : Int) * 4 + reg) = 0 := by simpa using e4
      unfold M.zeroStep at hn
      rw [if_neg e4] at hn
      rw [up64 (n := 8) hk (by omega)]; exact hn
  · have e3 : ¬ M.hasLane (M.activeMask x) (k : Int) = true := by rw [← hr3, e3]; simp
    rw [if_neg e3] at hn
    rw [up64 (n := 8) hk (by omega)]; exact hn
theorem lanes_in {m l : Int} (h : l ∈ M.lanesOf m) : 0 ≤ l ∧ l ≤ 7 := by
  have := (List.mem_filter.1 h).1
  simp only [List.mem_cons, List.not_mem_nil, or_false] at this
  omega
theorem lanes_len (m : Int) : (M.lanesOf m).length ≤ 8 := by
  have := List.length_filter_le (M.hasLane m) [0, 1, 2, 3, 4, 5, 6, 7]
  exact this
theorem rd_cut {α : Type} [Inhabited α] {l : List α} {a b : Nat} {i : Int} (h0 : 0 ≤ i) (hi : a + i.toNat < b) (hb : b ≤ l.length) : rd ((l.take b).drop a) i = rd l ((a : Int) + i) := by
  have e : ((a : Int) + i).toNat = a + i.toNat := by omega
  unfold rd
  rw [e, List.getD_eq_getElem?_getD, List.getD_eq_getElem?_getD, List.getElem?_drop, List.getElem?_take, if_pos hi]
theorem wp.impl_Warp_zeroMask.math (x : D.Warp) (reg : Int) (h : M.impl_Warp_zeroMask_pre x reg) : wp.impl_Warp_zeroMask x reg (fun r => r = M.impl_Warp_zeroMask x reg) := by
  obtain ⟨h1, h32, hreg⟩ := h
  refine ⟨h1, fun r hr r2 hr2 => ?_⟩
  have hr2' : r2 = M.lanesOf (M.activeMask x) := by rw [hr2, hr]; rfl
  show LoopP _ _
  have hl := lanes_len (M.activeMask x)
  have hmem : ∀ k : Nat, k < r2.length → 0 ≤ rd r2 (k : Int) ∧ rd r2 (k : Int) ≤ 7 := fun k hk => lanes_in (m := M.activeMask x) (by rw [← hr2']; exact rd_mem hk)
  have hM : M.impl_Warp_zeroMask x reg = r2.foldl (M.zeroStep x reg) 0 := by rw [hr2']; rfl
  rw [hM]
  have hlen : r2.length ≤ 8 := by rw [hr2']; exact hl
  clear hr2 hr2' hM
  refine loop_n r2.length (fun k => ((r2.take k).foldl (M.zeroStep x reg) 0, (k : Int), ())) (fun _ => True) rfl trivial (fun k hk _ next hn => ?_) fun _ next => bcase_f (by simp) (by rw [List.take_length])
  have hn := hn trivial
  rw [List.take_add_one, List.getElem?_eq_getElem hk, Option.toList_some, List.foldl_append, ← rd_nat hk] at hn
  simp only [List.foldl_cons, List.foldl_nil] at hn
  have hm := hmem k hk
  dsimp only
  generalize rd r2 (k : Int) = l at *
  have hin := reg_in hreg hm.1 hm.2
  rw [isReg_iff] at hreg
  have a1 : IntKind.wrap .i64 (l * 4) = l * 4 := w64 (by omega) (by omega)
  have a2 : IntKind.wrap .i64 ((IntKind.wrap .i64 (l + 1)) * 4) = l * 4 + 4 := by rw [w64 (x := l + 1) (by omega) (by omega), w64 (by omega) (by omega)]; omega
  rw [a1, a2]
  have hc : rd ((x.Regs.take (l * 4 + 4).toNat).drop (l * 4).toNat) reg = rd x.Regs (l * 4 + reg) := by
    rw [rd_cut hreg.1 (by omega) (by omega)]
    congr 1; omega
  rw [hc, up64 hk (by omega)]
  refine bcase_t (by simp; omega) ⟨by omega, ⟨h32, hm⟩, ⟨by omega, by simp; omega⟩, bcase_mk (fun e => ⟨by omega, ?_⟩) fun e => ?_⟩
  · have e : rd x.Regs (l * 4 + reg) = 0 := by simpa using e
    unfold M.zeroStep at hn
    rw [if_pos e] at hn
    exact hn
  · have e : ¬ rd x.Regs (l * 4 + reg) = 0 := by simpa using e
    unfold M.zeroStep at hn
    rw [if_neg e] at hn
    exact hn
theorem runs_top {p : List D.Ins} {x : D.Warp} (h : M.Runs p x) : p.length ≤ 32 ∧ 0 < x.Frames.length ∧ x.Frames.length ≤ 24 ∧ x.Regs.length = 32 ∧ 0 ≤ M.topPc x ∧ M.topPc x < ((p.length : Nat) : Int) ∧ M.insOk (M.topIns p x) p.length = true ∧ 0 ≤ x.Number ∧ x.Number ≤ 2 := by
  obtain ⟨hp, hw, hx⟩ := h
  obtain ⟨k1, k2, k3⟩ := frames_last hw hx
  have hp' := hp
  simp only [M.programOk, Bool.and_eq_true, decide_eq_true_eq, List.all_eq_true] at hp
  simp only [M.warpOf, Bool.and_eq_true, M.isIn, decide_eq_true_eq, beq_iff_eq] at hw
  exact ⟨hp.1, List.length_pos_iff.2 hx, k1, hw.2.1, k2, k3, hp.2 _ (rd_of k2 k3), hw.1.1, hw.1.2⟩
theorem zero_reg {i : D.Ins} {n : Int} (h : M.insOk i n = true) (e : i.Op = 10) : M.isReg i.A = true := by
  simp only [M.insOk, Bool.and_eq_true] at h
  have h := h.2
  rw [if_neg (by omega), if_neg (by omega), if_neg (by omega), if_neg (by omega), if_pos e] at h
  simp only [Bool.and_eq_true] at h
  exact h.1
theorem activeMask_top {x : D.Warp} (h : x.Frames ≠ []) : M.activeMask x = (M.lastF x.Frames).Mask := by
  unfold M.activeMask
  rw [if_neg (by simpa using h)]
theorem wp.spec_l13Splits.math (p : List D.Ins) (x : D.Warp) (h : M.spec_l13Splits_pre p x) : wp.spec_l13Splits p x (fun r => r = M.spec_l13Splits p x) := by
  obtain ⟨t1, t2, t3, t4, t5, t6, t7, _⟩ := runs_top h
  unfold wp.spec_l13Splits
  rw [last_wrap (by omega)]
  change (_ ∧ _) ∧ (0 ≤ M.topPc x ∧ M.topPc x < _) ∧ bcase ((M.topIns p x).Op != 10) _ ((0 ≤ M.topPc x ∧ M.topPc x < _) ∧ bcase ((M.topIns p x).B == IntKind.wrap .i64 (M.topPc x + 1)) _ ((0 ≤ M.topPc x ∧ M.topPc x < _) ∧ (M.spec_ZeroMask_pre x (M.topIns p x).A ∧ ∀ r, r = M.spec_ZeroMask x (M.topIns p x).A → bcase (r != 0) ((r != (M.lastF x.Frames).Mask) = _) _)))
  rw [w64 (x := M.topPc x + 1) (by omega) (by omega)]
  refine ⟨by omega, ⟨t5, t6⟩, bcase_mk (fun e => ?_) fun e => ⟨⟨t5, t6⟩, bcase_mk (fun e2 => ?_) fun e2 => ⟨⟨t5, t6⟩, by show x.Frames.length ≤ 9223372036854775807; omega, fun r hr => bcase_mk (fun e3 => ?_) fun e3 => ?_⟩⟩⟩
  · have e : ¬ (M.topIns p x).Op = 10 := by simpa using e
    simp [M.spec_l13Splits, M.splits, e]
  · have e2 : (M.topIns p x).B = M.topPc x + 1 := by simpa using e2
    simp [M.spec_l13Splits, M.splits, e2]
  all_goals
    have e : (M.topIns p x).Op = 10 := by simpa using e
    have e2 : ¬ (M.topIns p x).B = M.topPc x + 1 := by simpa using e2
    have hz : r = M.zeroMask x (M.topIns p x).A := by
      rw [hr]
      simp [M.spec_ZeroMask, zero_reg t7 e, t4]
    rw [hz] at e3
    try rw [hz]
  · simp only [M.spec_l13Splits, M.splits, e, e3, Bool.true_and]
    have : ((M.topIns p x).B != M.topPc x + 1) = true := by simpa using e2
    rw [this]; rfl
  · simp only [M.spec_l13Splits, M.splits, e3, Bool.false_and, Bool.and_false]
theorem wp.impl_Warp_splits.math (x : D.Warp) (p : List D.Ins) (h : M.impl_Warp_splits_pre x p) : wp.impl_Warp_splits x p (fun r => r = M.impl_Warp_splits x p) := by
  obtain ⟨t1, t2, t3, t4, t5, t6, t7, _⟩ := runs_top h
  have hL : M.Long x.Frames := by unfold M.Long; omega
  unfold wp.impl_Warp_splits
  rw [last_wrap (by omega)]
  change (_ ∧ _) ∧ (0 ≤ M.topPc x ∧ M.topPc x < _) ∧ bcase ((M.topIns p x).Op != 10) _ ((0 ≤ M.topPc x ∧ M.topPc x < _) ∧ bcase ((M.topIns p x).B == IntKind.wrap .i64 (M.topPc x + 1)) _ ((0 ≤ M.topPc x ∧ M.topPc x < _) ∧ (M.impl_Warp_zeroMask_pre x (M.topIns p x).A ∧ ∀ r, r = M.impl_Warp_zeroMask x (M.topIns p x).A → bcase (r != 0) (M.impl_ActiveMask_pre x ∧ ∀ r49, r49 = M.impl_ActiveMask x → (r != r49) = _) _)))
  rw [w64 (x := M.topPc x + 1) (by omega) (by omega)]
  refine ⟨by omega, ⟨t5, t6⟩, bcase_mk (fun e => ?_) fun e => ⟨⟨t5, t6⟩, bcase_mk (fun e2 => ?_) fun e2 => ⟨⟨t5, t6⟩, ⟨hL, t4, zero_reg t7 (by simpa using e)⟩, fun r hr => bcase_mk (fun e3 => ⟨hL, fun r4 hr4 => ?_⟩) fun e3 => ?_⟩⟩⟩
  · have e : ¬ (M.topIns p x).Op = 10 := by simpa using e
    simp [M.impl_Warp_splits, M.splits, e]
  · have e2 : (M.topIns p x).B = M.topPc x + 1 := by simpa using e2
    simp [M.impl_Warp_splits, M.splits, e2]
  all_goals
    have e : (M.topIns p x).Op = 10 := by simpa using e
    have e2 : ¬ (M.topIns p x).B = M.topPc x + 1 := by simpa using e2
    have hz : r = M.zeroMask x (M.topIns p x).A := hr
    rw [hz] at e3
    try rw [hz]
  · have hr4' : r4 = (M.lastF x.Frames).Mask := by rw [hr4]; exact activeMask_top h.2.2
    rw [hr4']
    simp only [M.impl_Warp_splits, M.splits, e, e3, Bool.true_and]
    have : ((M.topIns p x).B != M.topPc x + 1) = true := by simpa using e2
    rw [this]; rfl
  · simp only [M.impl_Warp_splits, M.splits, e3, Bool.false_and, Bool.and_false]
theorem wp.spec_l13Local.math (p : List D.Ins) (x : D.Warp) (h : M.spec_l13Local_pre p x) : wp.spec_l13Local p x (fun r => r = M.spec_l13Local p x) := by
  unfold wp.spec_l13Local
  rw [empty_len0]
  refine bcase_mk (fun e => ?_) fun e => ?_
  · simp [M.spec_l13Local, e]
  have hx : x.Frames ≠ [] := by simpa using e
  obtain ⟨t1, t2, t3, t4, t5, t6, t7, _⟩ := runs_top ⟨h.1, h.2, hx⟩
  rw [last_wrap (by omega)]
  refine ⟨by omega, ⟨t5, t6⟩, fun r hr => bcase_mk (fun e2 => ?_) fun e2 => ⟨⟨h.1, h.2, hx⟩, fun r2 hr2 => bcase_mk (fun e3 => ?_) fun e3 => ?_⟩⟩
  all_goals have hr' : r = M.isLocal (M.topIns p x) := hr
  · have := nt e2 hr'
    simp [M.spec_l13Local, this]
  · have := nt e3 (show r2 = M.splits p x from hr2)
    simp [M.spec_l13Local, e, nf e2 hr', this]
  · have := nf e3 (show r2 = M.splits p x from hr2)
    simp only [M.spec_l13Local, e, nf e2 hr', this, Bool.not_false, Bool.not_true, Bool.true_and, Bool.false_or]
    congr 1; exact propext (by omega)
end Go.V
set_option linter.unusedVariables false
namespace Go.V
def wp.spec_l08Others (xs0 : List Int) (x1 : Int) (Q : (List Int) → Prop) : Prop :=
  LoopP (σ := (List Int) × Int × Unit) (fun (p59 : (List Int) × Int × Unit) next31 => match p59 with | (xs24, i27, _) => bcase (decide (i27 < ((xs0.length : Nat) : Int))) (((0 ≤ i27 ∧ i27 < ((xs0.length : Nat) : Int)) ∧ bcase ((rd xs0 i27) != x1) (((0 ≤ i27 ∧ i27 < ((xs0.length : Nat) : Int)) ∧ ((xs24.length + ([(rd xs0 i27)] : List Int).length ≤ 17179869184) ∧ next31 ((xs24 ++ ([(rd xs0 i27)] : List Int)), (IntKind.wrap .i64 (i27 + 1)), ())))) (next31 (xs24, (IntKind.wrap .i64 (i27 + 1)), ())))) (Q xs24)) (([] : List Int), 0, ())
def wp.spec_l07Ok (xs0 : List D.Ins) (x1 : Int) (Q : Bool → Prop) : Prop :=
  (M.spec_ProgramOk_pre xs0 ∧ ∀ r21, r21 = M.spec_ProgramOk xs0 → bcase r21 ((∀ r26, r26 = M.spec_l01In x1 0 ((xs0.length : Nat) : Int) → Q r26)) (Q false))
def wp.spec_l04Put (xs0 : List Int) (x1 : Int) (Q : (List Int) → Prop) : Prop :=
  JoinP (σ := Int × Unit) (fun J22 => LoopP (σ := Int × Unit) (fun (p41 : Int × Unit) next29 => match p41 with | (i25, _) => bcase (decide (i25 > 0)) (((0 ≤ (IntKind.wrap .i64 (i25 - 1)) ∧ (IntKind.wrap .i64 (i25 - 1)) < ((xs0.length : Nat) : Int)) ∧ bcase (decide ((rd xs0 (IntKind.wrap .i64 (i25 - 1))) > x1)) (next29 ((IntKind.wrap .i64 (i25 - 1)), ())) (J22 (i25, ())))) (J22 (i25, ()))) (((xs0.length : Nat) : Int), ())) (fun (p82 : Int × Unit) => match p82 with | (i21, _) => JoinP (σ := Unit) (fun J45 => bcase (decide (i21 > 0)) (((0 ≤ (IntKind.wrap .i64 (i21 - 1)) ∧ (IntKind.wrap .i64 (i21 - 1)) < ((xs0.length : Nat) : Int)) ∧ bcase ((rd xs0 (IntKind.wrap .i64 (i21 - 1))) == x1) (Q xs0) (J45 (())))) (J45 (()))) (fun (p80 : Unit) => match p80 with | (_) => ((0 ≤ i21 ∧ i21 ≤ ((xs0.length : Nat) : Int)) ∧ ((([] : List Int).length + (List.take (i21.toNat) xs0).length ≤ 17179869184) ∧ (((([] : List Int) ++ (List.take (i21.toNat) xs0)).length + ([x1] : List Int).length ≤ 17179869184) ∧ ((0 ≤ i21 ∧ i21 ≤ ((xs0.length : Nat) : Int)) ∧ ((((([] : List Int) ++ (List.take (i21.toNat) xs0)) ++ ([x1] : List Int)).length + (List.drop (i21.toNat) xs0).length ≤ 17179869184) ∧ Q (((([] : List Int) ++ (List.take (i21.toNat) xs0)) ++ ([x1] : List Int)) ++ (List.drop (i21.toNat) xs0)))))))))
def wp.spec_l07Next (xs0 : List D.Ins) (x1 : Int) (Q : (List Int) → Prop) : Prop :=
  bcase (x1 == ((xs0.length : Nat) : Int)) (Q ([] : List Int)) (((0 ≤ x1 ∧ x1 < ((xs0.length : Nat) : Int)) ∧ bcase ((rd xs0 x1).Op == 12) (Q ([((xs0.length : Nat) : Int)] : List Int)) (bcase ((rd xs0 x1).Op == 11) (((0 ≤ x1 ∧ x1 < ((xs0.length : Nat) : Int)) ∧ Q ([(rd xs0 x1).B] : List Int))) (bcase ((rd xs0 x1).Op == 10) (((0 ≤ x1 ∧ x1 < ((xs0.length : Nat) : Int)) ∧ (M.spec_l04Put_pre ([(IntKind.wrap .i64 (x1 + 1))] : List Int) ((rd xs0 x1).B) ∧ ∀ r48, r48 = M.spec_l04Put ([(IntKind.wrap .i64 (x1 + 1))] : List Int) ((rd xs0 x1).B) → Q r48))) (Q ([(IntKind.wrap .i64 (x1 + 1))] : List Int))))))
def wp.spec_l07Reach (xs0 : List D.Ins) (xs1 : List Int) (Q : (List Bool) → Prop) : Prop :=
  ((0 ≤ (IntKind.wrap .i64 (((xs0.length : Nat) : Int) + 1)) ∧ (IntKind.wrap .i64 (((xs0.length : Nat) : Int) + 1)) ≤ 17179869184) ∧ ((([] : List Int).length + xs1.length ≤ 17179869184) ∧ LoopP (σ := (List Int) × (List Bool) × Unit) (fun (p127 : (List Int) × (List Bool) × Unit) next85 => match p127 with | (xs77, xs80, _) => bcase (decide (((xs77.length : Nat) : Int) > 0)) (((0 ≤ (0 : Int) ∧ (0 : Int) < ((xs77.length : Nat) : Int)) ∧ ((0 ≤ (1 : Int) ∧ (1 : Int) ≤ ((xs77.length : Nat) : Int)) ∧ ((0 ≤ (rd xs77 0) ∧ (rd xs77 0) < ((xs80.length : Nat) : Int)) ∧ bcase (rd xs80 (rd xs77 0)) (next85 ((List.drop ((1 : Int).toNat) xs77), xs80, ())) (((0 ≤ (rd xs77 0) ∧ (rd xs77 0) < ((xs80.length : Nat) : Int)) ∧ (M.spec_l07Next_pre xs0 (rd xs77 0) ∧ ∀ r110, r110 = M.spec_l07Next xs0 (rd xs77 0) → (((List.drop ((1 : Int).toNat) xs77).length + r110.length ≤ 17179869184) ∧ next85 (((List.drop ((1 : Int).toNat) xs77) ++ r110), (List.set xs80 ((rd xs77 0).toNat) true), ()))))))))) (Q xs80)) ((([] : List Int) ++ xs1), (List.replicate ((IntKind.wrap .i64 (((xs0.length : Nat) : Int) + 1)).toNat) (default : Bool)), ())))
def wp.spec_ReachesExit (xs0 : List D.Ins) (x1 : Int) (Q : Bool → Prop) : Prop :=
  (M.spec_l07Ok_pre xs0 x1 ∧ ∀ r21, r21 = M.spec_l07Ok xs0 x1 → bcase r21 ((M.spec_l07Reach_pre xs0 ([x1] : List Int) ∧ ∀ r29, r29 = M.spec_l07Reach xs0 ([x1] : List Int) → ((0 ≤ ((xs0.length : Nat) : Int) ∧ ((xs0.length : Nat) : Int) < ((r29.length : Nat) : Int)) ∧ Q (rd r29 ((xs0.length : Nat) : Int))))) (Q false))
def wp.spec_l08After (xs0 : List D.Ins) (x1 : Int) (x2 : Int) (Q : Bool → Prop) : Prop :=
  bcase (x1 == x2) (Q true) (((0 ≤ (IntKind.wrap .i64 (((xs0.length : Nat) : Int) + 1)) ∧ (IntKind.wrap .i64 (((xs0.length : Nat) : Int) + 1)) ≤ 17179869184) ∧ LoopP (σ := (List Int) × (List Bool) × Unit) (fun (p130 : (List Int) × (List Bool) × Unit) next83 => match p130 with | (xs75, xs78, _) => bcase (decide (((xs75.length : Nat) : Int) > 0)) (((0 ≤ (0 : Int) ∧ (0 : Int) < ((xs75.length : Nat) : Int)) ∧ ((0 ≤ (1 : Int) ∧ (1 : Int) ≤ ((xs75.length : Nat) : Int)) ∧ ((0 ≤ (rd xs75 0) ∧ (rd xs75 0) < ((xs78.length : Nat) : Int)) ∧ bcase (rd xs78 (rd xs75 0)) (next83 ((List.drop ((1 : Int).toNat) xs75), xs78, ())) (bcase ((rd xs75 0) == x2) (next83 ((List.drop ((1 : Int).toNat) xs75), xs78, ())) (bcase ((rd xs75 0) == ((xs0.length : Nat) : Int)) (Q false) (((0 ≤ (rd xs75 0) ∧ (rd xs75 0) < ((xs78.length : Nat) : Int)) ∧ (M.spec_l07Next_pre xs0 (rd xs75 0) ∧ ∀ r111, r111 = M.spec_l07Next xs0 (rd xs75 0) → (((List.drop ((1 : Int).toNat) xs75).length + r111.length ≤ 17179869184) ∧ next83 (((List.drop ((1 : Int).toNat) xs75) ++ r111), (List.set xs78 ((rd xs75 0).toNat) true), ()))))))))))) (Q true)) (([x1] : List Int), (List.replicate ((IntKind.wrap .i64 (((xs0.length : Nat) : Int) + 1)).toNat) (default : Bool)), ())))
def wp.spec_AftersOf (xs0 : List D.Ins) (x1 : Int) (Q : (List Int) → Prop) : Prop :=
  (M.spec_ReachesExit_pre xs0 x1 ∧ ∀ r24, r24 = M.spec_ReachesExit xs0 x1 → bcase (!r24) (Q ([] : List Int)) (LoopP (σ := (List Int) × Int × Unit) (fun (p59 : (List Int) × Int × Unit) next36 => match p59 with | (xs29, i32, _) => bcase (decide (i32 ≤ ((xs0.length : Nat) : Int))) ((M.spec_l08After_pre xs0 x1 i32 ∧ ∀ r38, r38 = M.spec_l08After xs0 x1 i32 → bcase r38 (((xs29.length + ([i32] : List Int).length ≤ 17179869184) ∧ next36 ((xs29 ++ ([i32] : List Int)), (IntKind.wrap .i64 (i32 + 1)), ()))) (next36 (xs29, (IntKind.wrap .i64 (i32 + 1)), ())))) (Q xs29)) (([] : List Int), 0, ())))
def wp.spec_l08First (xs0 : List D.Ins) (xs1 : List Int) (Q : Int → Prop) : Prop :=
  LoopP (σ := Int × Unit) (fun (p72 : Int × Unit) next25 => match p72 with | (i21, _) => bcase (decide (i21 < ((xs1.length : Nat) : Int))) (LoopP (σ := Bool × Int × Unit) (fun (p67 : Bool × Int × Unit) next32 => match p67 with | (b27, i28, _) => bcase (decide (i28 < ((xs1.length : Nat) : Int))) (bcase b27 (((0 ≤ i21 ∧ i21 < ((xs1.length : Nat) : Int)) ∧ ((0 ≤ i28 ∧ i28 < ((xs1.length : Nat) : Int)) ∧ (M.spec_l08After_pre xs0 (rd xs1 i21) (rd xs1 i28) ∧ ∀ r45, r45 = M.spec_l08After xs0 (rd xs1 i21) (rd xs1 i28) → next32 (r45, (IntKind.wrap .i64 (i28 + 1)), ()))))) (next32 (false, (IntKind.wrap .i64 (i28 + 1)), ()))) (bcase b27 (((0 ≤ i21 ∧ i21 < ((xs1.length : Nat) : Int)) ∧ Q (rd xs1 i21))) (next25 ((IntKind.wrap .i64 (i21 + 1)), ())))) (true, 0, ())) (Q (-1))) (0, ())
def wp.spec_FirstAfter (xs0 : List D.Ins) (x1 : Int) (Q : Int → Prop) : Prop :=
  (M.spec_AftersOf_pre xs0 x1 ∧ ∀ r21, r21 = M.spec_AftersOf xs0 x1 → (M.spec_l08Others_pre r21 x1 ∧ ∀ r28, r28 = M.spec_l08Others r21 x1 → (M.spec_l08First_pre xs0 r28 ∧ ∀ r35, r35 = M.spec_l08First xs0 r28 → Q r35)))
def wp.spec_l09Join (xs0 : List D.Ins) (x1 : Int) (Q : Int → Prop) : Prop :=
  (M.spec_ReachesExit_pre xs0 (IntKind.wrap .i64 (x1 + 1)) ∧ ∀ r21, r21 = M.spec_ReachesExit xs0 (IntKind.wrap .i64 (x1 + 1)) → bcase (!r21) (Q ((xs0.length : Nat) : Int)) (((0 ≤ x1 ∧ x1 < ((xs0.length : Nat) : Int)) ∧ (M.spec_ReachesExit_pre xs0 ((rd xs0 x1).B) ∧ ∀ r31, r31 = M.spec_ReachesExit xs0 ((rd xs0 x1).B) → bcase (!r31) (Q ((xs0.length : Nat) : Int)) ((M.spec_FirstAfter_pre xs0 x1 ∧ ∀ r36, r36 = M.spec_FirstAfter xs0 x1 → Q r36))))))
end Go.V
set_option linter.unusedVariables false
set_option linter.unusedSimpArgs false
set_option maxRecDepth 20000
namespace Go.V
theorem mem_idx {g : Int → Bool} {x : Int} : ∀ {n : Nat}, x ∈ M.idx g n ↔ ∃ k : Nat, k < n ∧ x = (k : Int) ∧ g x = true
  | 0 => by simp [M.idx]
  | n + 1 => by
    have ih := mem_idx (g := g) (x := x) (n := n)
    unfold M.idx
    constructor
    · intro h
      split at h
      · rename_i e
        rcases List.mem_append.1 h with h | h
        · obtain ⟨k, hk, h1, h2⟩ := ih.1 h; exact ⟨k, by omega, h1, h2⟩
        · obtain rfl := List.mem_singleton.1 h; exact ⟨n, by omega, rfl, e⟩
      · obtain ⟨k, hk, h1, h2⟩ := ih.1 h; exact ⟨k, by omega, h1, h2⟩
    · rintro ⟨k, hk, rfl, h2⟩
      by_cases hkn : k = n
      · subst hkn; rw [if_pos h2]; simp
      · have := ih.2 ⟨k, by omega, rfl, h2⟩
        split
        · exact List.mem_append_left _ this
        · exact this
theorem idx_len (g : Int → Bool) : ∀ n, (M.idx g n).length ≤ n
  | 0 => by simp [M.idx]
  | n + 1 => by
    have := idx_len g n
    unfold M.idx
    split <;> simp <;> omega
theorem idx_loop {n : Nat} {g : Int → Bool} {B : (List Int × Int × Unit) → ((List Int × Int × Unit) → Prop) → Prop}
    (hb : ∀ (k : Nat) (xs : List Int) (next : (List Int × Int × Unit) → Prop), k < n → xs = M.idx g k → xs.length ≤ k → (g (k : Int) = true → next (xs ++ [(k : Int)], ((k + 1 : Nat) : Int), ())) → (g (k : Int) = false → next (xs, ((k + 1 : Nat) : Int), ())) → B (xs, (k : Int), ()) next)
    (he : ∀ next : (List Int × Int × Unit) → Prop, B (M.idx g n, (n : Int), ()) next) : LoopP B ([], 0, ()) := by
  refine loop_n n (fun k => (M.idx g k, (k : Int), ())) (fun _ => True) rfl trivial (fun k hk _ next hn => ?_) fun _ next => he next
  have hn := hn trivial
  unfold M.idx at hn
  exact hb k _ next hk rfl (idx_len g k) (fun e => by rwa [if_pos e] at hn) fun e => by rwa [if_neg (by rw [e]; simp)] at hn
theorem nodeOk {p : List D.Ins} (hp : M.programOk p = true) {k : Int} (h0 : 0 ≤ k) (h1 : k < ((p.length : Nat) : Int)) : M.insOk (rd p k) p.length = true := by
  simp only [M.programOk, Bool.and_eq_true, decide_eq_true_eq, List.all_eq_true] at hp
  exact hp.2 _ (rd_of h0 h1)
theorem progLen {p : List D.Ins} (hp : M.programOk p = true) : p.length ≤ 32 := by
  simp only [M.programOk, Bool.and_eq_true, decide_eq_true_eq] at hp
  exact hp.1
theorem target_in {i : D.Ins} {n : Int} (h : M.insOk i n = true) (e : i.Op = 10 ∨ i.Op = 11) : 0 ≤ i.B ∧ i.B ≤ n := by
  simp only [M.insOk, Bool.and_eq_true] at h
  have h := h.2
  rcases e with e | e
  · rw [if_neg (by omega), if_neg (by omega), if_neg (by omega), if_neg (by omega), if_pos e] at h
    simp only [Bool.and_eq_true, M.isIn, decide_eq_true_eq] at h
    exact h.2.1
  · rw [if_neg (by omega), if_neg (by omega), if_neg (by omega), if_neg (by omega), if_neg (by omega), if_pos e] at h
    simp only [Bool.and_eq_true, M.isIn, decide_eq_true_eq] at h
    exact h.2.1
theorem putTwo_mem {a b x : Int} : x ∈ M.putTwo a b ↔ x = a ∨ x = b := by
  unfold M.putTwo
  split
  · simp [or_comm]
  split
  · rename_i h1 h2; subst h2; simp
  · simp
theorem putTwo_len (a b : Int) : (M.putTwo a b).length ≤ 2 := by
  unfold M.putTwo
  (repeat' split) <;> simp
theorem next_ok {p : List D.Ins} {k : Int} (h : M.Node p k) : (∀ x ∈ M.nextOf p k, M.nodeIn p x) ∧ (M.nextOf p k).length ≤ 2 := by
  obtain ⟨hp, h0, h1⟩ := h
  unfold M.nextOf
  split
  · exact ⟨fun x hx => absurd hx List.not_mem_nil, by simp⟩
  rename_i hne
  have hlt : k < ((p.length : Nat) : Int) := by omega
  have hi := nodeOk hp h0 hlt
  split
  · exact ⟨fun x hx => by obtain rfl := List.mem_singleton.1 hx; exact ⟨by omega, by omega⟩, by simp⟩
  split
  · rename_i e
    exact ⟨fun x hx => by obtain rfl := List.mem_singleton.1 hx; exact target_in hi (.inr e), by simp⟩
  split
  · rename_i e
    refine ⟨fun x hx => ?_, putTwo_len _ _⟩
    rcases putTwo_mem.1 hx with rfl | rfl
    · exact ⟨by omega, by omega⟩
    · exact target_in hi (.inl e)
  · exact ⟨fun x hx => by obtain rfl := List.mem_singleton.1 hx; exact ⟨by omega, by omega⟩, by simp⟩
def falses (l : List Bool) : Nat := l.count false
theorem falses_set : ∀ {l : List Bool} {k : Nat}, k < l.length → l[k]? = some false → falses (l.set k true) + 1 = falses l
  | [], k, hk, _ => absurd hk (by simp)
  | b :: l, 0, hk, h => by
    simp at h; subst h
    simp [falses]
  | b :: l, k + 1, hk, h => by
    have := falses_set (l := l) (k := k) (by simpa using hk) (by simpa using h)
    unfold falses at *
    simp only [List.set_cons_succ, List.count_cons]
    omega
theorem rdB {l : List Bool} {k : Int} (h0 : 0 ≤ k) (h1 : k < ((l.length : Nat) : Int)) : l[k.toNat]? = some (rd l k) := by
  have : k.toNat < l.length := by omega
  simp [rd, List.getD_eq_getElem?_getD, this]
theorem rd_setB {l : List Bool} {k j : Int} (h0 : 0 ≤ k) (h1 : k < ((l.length : Nat) : Int)) (hj : 0 ≤ j) : rd (l.set k.toNat true) j = if j = k then true else rd l j := by
  unfold rd
  rw [List.getD_eq_getElem?_getD, List.getD_eq_getElem?_getD, List.getElem?_set]
  by_cases e : j = k
  · subst e
    have : j.toNat < l.length := by omega
    simp [this]
  · have : ¬ k.toNat = j.toNat := by omega
    rw [if_neg this, if_neg e]
theorem bfs_len (p : List D.Ins) (wo : Int) : ∀ (f : Nat) (work : List Int) (seen : List Bool), (M.bfs p wo f work seen).length = seen.length
  | 0, _, _ => rfl
  | f + 1, [], _ => rfl
  | f + 1, k :: work, seen => by
    unfold M.bfs
    split
    · exact bfs_len p wo f _ _
    · rw [bfs_len p wo f]; simp
theorem bfs_mono (p : List D.Ins) (wo : Int) {j : Int} (hj : 0 ≤ j) : ∀ (f : Nat) (work : List Int) (seen : List Bool), (∀ x ∈ work, M.Node p x) → seen.length = p.length + 1 → rd seen j = true → rd (M.bfs p wo f work seen) j = true
  | 0, _, _, _, _, h => h
  | f + 1, [], _, _, _, h => h
  | f + 1, k :: work, seen, hw, hl, h => by
    have hk := hw k List.mem_cons_self
    have hr : ∀ x ∈ work, M.Node p x := fun x hx => hw x (List.mem_cons_of_mem _ hx)
    unfold M.bfs
    split
    · exact bfs_mono p wo hj f _ _ hr hl h
    · refine bfs_mono p wo hj f _ _ (fun x hx => (List.mem_append.1 hx).elim (hr x) fun h' => ⟨hk.1, (next_ok hk).1 x h'⟩) (by simpa using hl) ?_
      have hk2 := hk.2
      unfold M.nodeIn at hk2
      rw [rd_setB hk2.1 (by omega) hj]
      split
      · rfl
      · exact h
theorem bfs_loop {p : List D.Ins} {wo : Int} {I : List Bool → Prop} {B : (List Int × List Bool × Unit) → ((List Int × List Bool × Unit) → Prop) → Prop} {work0 : List Int} {seen0 R : List Bool} {fuel : Nat}
    (hs : M.Starts p work0) (hl0 : seen0.length = p.length + 1) (hI0 : I seen0) (hR : M.bfs p wo fuel work0 seen0 = R) (hf : 3 * falses seen0 + work0.length ≤ fuel)
    (hb0 : ∀ (k : Int) (rest : List Int) (seen : List Bool) (next : (List Int × List Bool × Unit) → Prop), M.Node p k → seen.length = p.length + 1 → I seen → (k = wo ∨ rd seen k = true) → next (rest, seen, ()) → B (k :: rest, seen, ()) next)
    (hb1 : ∀ (k : Int) (rest : List Int) (seen : List Bool) (next : (List Int × List Bool × Unit) → Prop), M.Node p k → seen.length = p.length + 1 → I seen → ¬ k = wo → rd seen k = false → rd R k = true → rest.length + (M.nextOf p k).length ≤ 17179869184 → (I (seen.set k.toNat true) → next (rest ++ M.nextOf p k, seen.set k.toNat true, ())) → B (k :: rest, seen, ()) next)
    (he : ∀ (next : (List Int × List Bool × Unit) → Prop), I R → B ([], R, ()) next) : LoopP B (work0, seen0, ()) := by
  obtain ⟨hp, hw, h4⟩ := hs
  have h32 := progLen hp
  have hc0 : falses seen0 ≤ p.length + 1 := by unfold falses; rw [← hl0]; exact List.count_le_length
  refine ⟨fun m z => ∃ work seen f, z = (work, seen, ()) ∧ m = 3 * falses seen + work.length ∧ m ≤ f ∧ M.bfs p wo f work seen = R ∧ seen.length = p.length + 1 ∧ (∀ x ∈ work, M.Node p x) ∧ m ≤ 200 ∧ I seen,
    ⟨_, work0, seen0, fuel, rfl, rfl, hf, hR, hl0, fun x hx => ⟨hp, hw x hx⟩, by omega, hI0⟩, ?_⟩
  rintro m z ⟨work, seen, f, rfl, rfl, hmf, hbf, hl, hwk, hm, hI⟩
  cases work with
  | nil =>
    have : seen = R := by
      cases f with
      | zero => exact hbf
      | succ f => exact hbf
    subst this
    exact he _ hI
  | cons k rest =>
    have hk := hwk k List.mem_cons_self
    have hr : ∀ x ∈ rest, M.Node p x := fun x hx => hwk x (List.mem_cons_of_mem _ hx)
    cases f with
    | zero => simp at hmf
    | succ f =>
      by_cases hc : k = wo ∨ rd seen k = true
      · refine hb0 k rest seen _ hk hl hI hc ⟨_, ?_, rest, seen, f, rfl, rfl, ?_, ?_, hl, hr, ?_, hI⟩
        · simp
        · simp at hmf; omega
        · rw [M.bfs, if_pos hc] at hbf; exact hbf
        · simp at hm; omega
      · have h1 : ¬ k = wo := fun e => hc (.inl e)
        have h2 : rd seen k = false := by simpa using fun e => hc (.inr e)
        have hk2 := hk.2
        unfold M.nodeIn at hk2
        have hn := next_ok hk
        have hfs := falses_set (l := seen) (k := k.toNat) (by omega) (by rw [rdB hk2.1 (by omega), h2])
        rw [M.bfs, if_neg hc] at hbf
        have hw' : ∀ x ∈ rest ++ M.nextOf p k, M.Node p x := fun x hx => (List.mem_append.1 hx).elim (hr x) fun h' => ⟨hk.1, hn.1 x h'⟩
        have hR' : rd R k = true := by
          rw [← hbf]
          refine bfs_mono p wo hk2.1 f _ _ hw' (by simpa using hl) ?_
          rw [rd_setB hk2.1 (by omega) hk2.1, if_pos rfl]
        refine hb1 k rest seen _ hk hl hI h1 h2 hR' ?_ fun hI' => ⟨_, ?_, _, _, f, rfl, rfl, ?_, hbf, by simpa using hl, hw', ?_, hI'⟩
        · simp at hm; omega
        · simp only [List.length_append, List.length_cons]; omega
        · simp only [List.length_append, List.length_cons] at *; omega
        · simp only [List.length_append, List.length_cons] at *; omega
theorem seen0_len (n : Nat) : (List.replicate (n + 1) false).length = n + 1 := by simp
theorem seen0_falses (n : Nat) : falses (List.replicate (n + 1) false) = n + 1 := by simp [falses]
theorem seen0_rd (n : Nat) (k : Int) : rd (List.replicate (n + 1) false) k = false := by
  unfold rd
  rw [List.getD_eq_getElem?_getD, List.getElem?_replicate]
  split <;> rfl
inductive Rch (p : List D.Ins) (wo : Int) (frm : List Int) : Int → Prop
  | base {s : Int} : s ∈ frm → s ≠ wo → Rch p wo frm s
  | step {k s : Int} : Rch p wo frm k → s ∈ M.nextOf p k → s ≠ wo → Rch p wo frm s
theorem bfs_sound {p : List D.Ins} {wo : Int} {frm : List Int} : ∀ (f : Nat) (work : List Int) (seen : List Bool), (∀ x ∈ work, M.Node p x) → seen.length = p.length + 1 → (∀ x ∈ work, x = wo ∨ Rch p wo frm x) → (∀ x, 0 ≤ x → rd seen x = true → Rch p wo frm x) →
    ∀ x, 0 ≤ x → rd (M.bfs p wo f work seen) x = true → Rch p wo frm x
  | 0, _, _, _, _, _, h => h
  | f + 1, [], _, _, _, _, h => h
  | f + 1, k :: work, seen, hw, hl, hwr, h => by
    have hk := hw k List.mem_cons_self
    have hk2 := hk.2
    unfold M.nodeIn at hk2
    have hr : ∀ x ∈ work, M.Node p x := fun x hx => hw x (List.mem_cons_of_mem _ hx)
    have hwr' : ∀ x ∈ work, x = wo ∨ Rch p wo frm x := fun x hx => hwr x (List.mem_cons_of_mem _ hx)
    unfold M.bfs
    split
    · exact bfs_sound f work seen hr hl hwr' h
    · rename_i hc
      have hkR : Rch p wo frm k := (hwr k List.mem_cons_self).resolve_left fun e => hc (.inl e)
      refine bfs_sound f _ _ (fun x hx => (List.mem_append.1 hx).elim (hr x) fun h' => ⟨hk.1, (next_ok hk).1 x h'⟩) (by simpa using hl) (fun x hx => (List.mem_append.1 hx).elim (hwr' x) fun h' => ?_) fun x hx hs => ?_
      · by_cases e : x = wo
        · exact .inl e
        · exact .inr (.step hkR h' e)
      · rw [rd_setB hk2.1 (by omega) hx] at hs
        split at hs
        · rename_i e; rw [e]; exact hkR
        · exact h x hx hs
def Closed (p : List D.Ins) (wo : Int) (frm work : List Int) (seen : List Bool) : Prop :=
  (∀ s ∈ frm, s ≠ wo → rd seen s = true ∨ s ∈ work) ∧ ∀ k, M.nodeIn p k → rd seen k = true → ∀ s ∈ M.nextOf p k, s ≠ wo → rd seen s = true ∨ s ∈ work
theorem bfs_closed {p : List D.Ins} {wo : Int} {frm : List Int} : ∀ (f : Nat) (work : List Int) (seen : List Bool), (∀ x ∈ work, M.Node p x) → (∀ x ∈ frm, M.nodeIn p x) → seen.length = p.length + 1 → 3 * falses seen + work.length ≤ f → Closed p wo frm work seen → Closed p wo frm [] (M.bfs p wo f work seen)
  | 0, work, seen, _, _, _, hf, hc => by
    have : work = [] := List.eq_nil_of_length_eq_zero (by omega)
    subst this; exact hc
  | f + 1, [], seen, _, _, _, _, hc => hc
  | f + 1, k :: work, seen, hw, hfr, hl, hf, hc => by
    have hk := hw k List.mem_cons_self
    have hk2 := hk.2
    have hk3 := hk.2
    unfold M.nodeIn at hk2
    have hr : ∀ x ∈ work, M.Node p x := fun x hx => hw x (List.mem_cons_of_mem _ hx)
    simp only [List.length_cons] at hf
    obtain ⟨c1, c2⟩ := hc
    unfold M.bfs
    split
    · rename_i hd
      have drop : ∀ s, s ≠ wo → (rd seen s = true ∨ s ∈ k :: work) → rd seen s = true ∨ s ∈ work := by
        intro s hs h
        rcases h with h | h
        · exact .inl h
        rcases List.mem_cons.1 h with rfl | h
        · exact .inl (hd.resolve_left hs)
        · exact .inr h
      exact bfs_closed f work seen hr hfr hl (by omega) ⟨fun s hs hne => drop s hne (c1 s hs hne), fun j hj hsj s hs hne => drop s hne (c2 j hj hsj s hs hne)⟩
    · rename_i hd
      have h2 : rd seen k = false := by simpa using fun e => hd (.inr e)
      have hfs := falses_set (l := seen) (k := k.toNat) (by omega) (by rw [rdB hk2.1 (by omega), h2])
      have hn := next_ok hk
      have up : ∀ s, M.nodeIn p s → (rd seen s = true ∨ s ∈ k :: work) → rd (seen.set k.toNat true) s = true ∨ s ∈ work ++ M.nextOf p k := by
        intro s hs h
        have hs2 := hs
        unfold M.nodeIn at hs2
        rw [rd_setB hk2.1 (by omega) hs2.1]
        rcases h with h | h
        · left; split; rfl; exact h
        rcases List.mem_cons.1 h with rfl | h
        · left; rw [if_pos rfl]
        · exact .inr (List.mem_append_left _ h)
      refine bfs_closed f _ _ (fun x hx => (List.mem_append.1 hx).elim (hr x) fun h' => ⟨hk.1, hn.1 x h'⟩) hfr (by simpa using hl) (by simp only [List.length_append]; omega)
        ⟨fun s hs hne => up s (hfr s hs) (c1 s hs hne), fun j hj hsj s hs hne => ?_⟩
      have hj2 := hj
      unfold M.nodeIn at hj2
      rw [rd_setB hk2.1 (by omega) hj2.1] at hsj
      split at hsj
      · rename_i e; subst e
        exact .inr (List.mem_append_right _ hs)
      · exact up s ((next_ok ⟨hk.1, hj⟩).1 s hs) (c2 j hj hsj s hs hne)
theorem rch_node {p : List D.Ins} {wo : Int} {frm : List Int} (hp : M.programOk p = true) (hf : ∀ x ∈ frm, M.nodeIn p x) {x : Int} (h : Rch p wo frm x) : M.nodeIn p x := by
  induction h with
  | base h _ => exact hf _ h
  | step _ hs _ ih => exact (next_ok ⟨hp, ih⟩).1 _ hs
theorem reached_iff {p : List D.Ins} {wo : Int} {frm : List Int} (hp : M.programOk p = true) (hf : ∀ x ∈ frm, M.nodeIn p x) {x : Int} (hx : M.nodeIn p x) : rd (M.reached p frm wo) x = true ↔ Rch p wo frm x := by
  constructor
  · intro h
    refine bfs_sound (frm := frm) _ frm _ (fun y hy => ⟨hp, hf y hy⟩) (seen0_len _) (fun y hy => ?_) (fun y _ hs => by rw [seen0_rd] at hs; cases hs) x hx.1 h
    by_cases e : y = wo
    · exact .inl e
    · exact .inr (.base hy e)
  · intro h
    have hc := bfs_closed (p := p) (wo := wo) (frm := frm) (3 * (p.length + 1) + frm.length) frm (List.replicate (p.length + 1) false) (fun y hy => ⟨hp, hf y hy⟩) hf (seen0_len _) (by rw [seen0_falses]; omega)
      ⟨fun s hs _ => .inr hs, fun k _ hs => by rw [seen0_rd] at hs; cases hs⟩
    clear hx
    induction h with
    | base h hne => exact (hc.1 _ h hne).resolve_right List.not_mem_nil
    | step hk hs hne ih => exact (hc.2 _ (rch_node hp hf hk) ih _ hs hne).resolve_right List.not_mem_nil
theorem reached_len (p : List D.Ins) (frm : List Int) (wo : Int) : (M.reached p frm wo).length = p.length + 1 := by
  unfold M.reached; rw [bfs_len]; simp
theorem after_exits {p : List D.Ins} {k later : Int} (h : M.Node p k) (hl : M.nodeIn p later) (h1 : M.exitB p k = true) (h2 : M.afterB p k later = true) : M.exitB p later = true := by
  obtain ⟨hp, hk⟩ := h
  have hn : M.nodeIn p ((p.length : Nat) : Int) := ⟨by omega, by omega⟩
  have one : ∀ z, M.nodeIn p z → ∀ x ∈ [z], M.nodeIn p x := fun z hz x hx => by obtain rfl := List.mem_singleton.1 hx; exact hz
  have r1 := (reached_iff hp (one k hk) hn).1 h1
  have r2 : ¬ Rch p later [k] ((p.length : Nat) : Int) := fun hr => by
    have := (reached_iff hp (one k hk) hn).2 hr
    unfold M.afterB at h2
    rw [this] at h2; cases h2
  have hl1 : later ≠ -1 := by have := hl.1; omega
  have key : ∀ x, Rch p (-1) [k] x → Rch p later [k] x ∨ Rch p (-1) [later] x := by
    intro x hx
    induction hx with
    | @base s hs hne =>
      by_cases e : s = later
      · exact .inr (.base (by simp [e]) hne)
      · exact .inl (.base hs e)
    | @step j s _ hs hne ih =>
      rcases ih with ih | ih
      · by_cases e : s = later
        · exact .inr (.base (by simp [e]) hne)
        · exact .inl (.step ih hs e)
      · exact .inr (.step ih hs hne)
  exact (reached_iff hp (one later hl) hn).2 ((key _ r1).resolve_left r2)
theorem small64 {p : List D.Ins} (h : M.PSmall p) : IntKind.wrap .i64 (((p.length : Nat) : Int) + 1) = ((p.length + 1 : Nat) : Int) := by
  unfold M.PSmall at h
  rw [w64 (by omega) (by omega)]; push_cast; rfl
theorem prog_small {p : List D.Ins} (hp : M.programOk p = true) : M.PSmall p := by have := progLen hp; unfold M.PSmall; omega
theorem small_longP {p : List D.Ins} (h : M.PSmall p) : M.Long p := by unfold M.PSmall at h; unfold M.Long; omega
theorem filter_take {l : List Int} {g : Int → Bool} {k : Nat} (hk : k < l.length) : (l.take (k + 1)).filter g = if g (rd l (k : Int)) then (l.take k).filter g ++ [rd l (k : Int)] else (l.take k).filter g := by
  rw [List.take_add_one, List.getElem?_eq_getElem hk, rd_nat hk, List.filter_append]
  by_cases e : g l[k] = true
  · simp [e]
  · simp [e]
theorem wp.spec_l08Others.math (l : List Int) (n : Int) (h : M.spec_l08Others_pre l n) : wp.spec_l08Others l n (fun r => r = M.spec_l08Others l n) := by
  have hl : l.length ≤ 17179869183 := h
  refine loop_n l.length (fun k => ((l.take k).filter (fun x => x != n), (k : Int), ())) (fun _ => True) rfl trivial (fun k hk _ next hn => ?_) fun _ next => ?_
  · have hn := hn trivial
    rw [filter_take hk] at hn
    have hle := List.length_filter_le (fun x => x != n) (l.take k)
    have hle2 : (l.take k).length ≤ k := by simp; omega
    refine bcase_t (by simp; omega) ⟨by omega, bcase_mk (fun e => ⟨by omega, ?_, ?_⟩) fun e => ?_⟩
    · simp only [List.length_singleton]; omega
    · rw [if_pos e] at hn; rw [up64 hk (by omega)]; exact hn
    · rw [if_neg (by rw [e]; simp)] at hn; rw [up64 hk (by omega)]; exact hn
  · refine bcase_f (by simp) ?_
    rw [List.take_length]; rfl
theorem wp.spec_l07Ok.math (p : List D.Ins) (k : Int) (h : M.spec_l07Ok_pre p k) : wp.spec_l07Ok p k (fun r => r = M.spec_l07Ok p k) := by
  refine ⟨small_longP h, fun r hr => bcase_mk (fun e r2 hr2 => ?_) fun e => ?_⟩
  all_goals have hr' : r = M.programOk p := hr
  · rw [hr2]; simp [M.spec_l07Ok, M.isNode, ← hr', e, M.spec_l01In]
  · simp [M.spec_l07Ok, M.isNode, ← hr', e]
theorem putAt_le (l : List Int) (n : Int) : ∀ k, M.putAt l n k ≤ k
  | 0 => Nat.le_refl _
  | k + 1 => by
    unfold M.putAt
    split
    · have := putAt_le l n k; omega
    · exact Nat.le_refl _
theorem joinP_of19 {σ : Type} {A : (σ → Prop) → Prop} {B : σ → Prop} (v : σ) (h : B v) (hA : ∀ J : σ → Prop, J v → A J) : JoinP A B := hA B h
theorem wp.spec_l04Put.math (l : List Int) (n : Int) (h : M.spec_l04Put_pre l n) : wp.spec_l04Put l n (fun r => r = M.spec_l04Put l n) := by
  have hl : l.length ≤ 17179869183 := h
  have hle := putAt_le l n l.length
  have wd : ∀ k : Nat, 0 < k → k ≤ l.length → IntKind.wrap .i64 ((k : Int) - 1) = ((k - 1 : Nat) : Int) := fun k h0 hk => by rw [w64 (by omega) (by omega)]; omega
  refine joinP_of19 (((M.putAt l n l.length : Nat) : Int), ()) ?_ fun J hJ => ?_
  · generalize hq : M.putAt l n l.length = q at *
    have hd : ((q : Int)).toNat = q := by simp
    have tail : ¬ (q > 0 ∧ rd l ((q : Int) - 1) = n) → (0 ≤ (q : Int) ∧ (q : Int) ≤ ((l.length : Nat) : Int)) ∧ (([] : List Int).length + (List.take ((q : Int).toNat) l).length ≤ 17179869184) ∧ ((([] : List Int) ++ List.take ((q : Int).toNat) l).length + ([n] : List Int).length ≤ 17179869184) ∧ (0 ≤ (q : Int) ∧ (q : Int) ≤ ((l.length : Nat) : Int)) ∧ (((([] : List Int) ++ List.take ((q : Int).toNat) l) ++ [n]).length + (List.drop ((q : Int).toNat) l).length ≤ 17179869184) ∧ ((([] : List Int) ++ List.take ((q : Int).toNat) l) ++ [n]) ++ List.drop ((q : Int).toNat) l = M.spec_l04Put l n := by
      intro hn
      rw [hd]
      refine ⟨by omega, by simp; omega, by simp; omega, by omega, by simp; omega, ?_⟩
      simp only [M.spec_l04Put, hq]
      rw [if_neg hn]; simp
    show JoinP (σ := Unit) _ _
    refine bcase_mk (fun e => ⟨?_, bcase_mk (fun e2 => ?_) fun e2 => ?_⟩) fun e => ?_
    · have e : q > 0 := by simp at e; omega
      rw [wd q e hle]; omega
    · have e : q > 0 := by simp at e; omega
      rw [wd q e hle] at e2
      have e2 : rd l ((q : Int) - 1) = n := by rw [show (q : Int) - 1 = ((q - 1 : Nat) : Int) by omega]; simpa using e2
      simp only [M.spec_l04Put, hq]
      rw [if_pos ⟨e, e2⟩]
    · have e : q > 0 := by simp at e; omega
      rw [wd q e hle] at e2
      refine tail fun hh => ?_
      rw [show (q : Int) - 1 = ((q - 1 : Nat) : Int) by omega] at hh
      have := hh.2
      simp [this] at e2
    · have e : ¬ q > 0 := by simp at e; omega
      exact tail fun hh => e hh.1
  · refine ⟨fun m z => ∃ k : Nat, z = ((k : Int), ()) ∧ m = k ∧ k ≤ l.length ∧ M.putAt l n k = M.putAt l n l.length, ⟨l.length, l.length, rfl, rfl, Nat.le_refl _, rfl⟩, ?_⟩
    rintro k z ⟨_, rfl, rfl, hk, hput⟩
    refine bcase_mk (fun e => ⟨?_, bcase_mk (fun e2 => ?_) fun e2 => ?_⟩) fun e => ?_
    · have e : k > 0 := by simp at e; omega
      rw [wd k e hk]; omega
    · have e : k > 0 := by simp at e; omega
      rw [wd k e hk] at e2 ⊢
      refine ⟨k - 1, by omega, k - 1, rfl, rfl, by omega, ?_⟩
      rw [← hput]
      obtain ⟨j, rfl⟩ : ∃ j, k = j + 1 := ⟨k - 1, by omega⟩
      rw [M.putAt, if_pos (by simpa using e2)]; rfl
    · have e : k > 0 := by simp at e; omega
      rw [wd k e hk] at e2
      obtain ⟨j, rfl⟩ : ∃ j, k = j + 1 := ⟨k - 1, by omega⟩
      rw [M.putAt, if_neg (by simpa using e2)] at hput
      rw [← hput] at hJ; exact hJ
    · have e : k = 0 := by simp at e; omega
      subst e
      rw [← hput] at hJ; exact hJ
theorem put_one (a b : Int) : M.spec_l04Put [a] b = M.putTwo a b := by
  unfold M.spec_l04Put M.putTwo
  have hq : M.putAt [a] b 1 = if a > b then 0 else 1 := by
    unfold M.putAt
    have : rd [a] ((0 : Nat) : Int) = a := rfl
    rw [this]
    split <;> rfl
  have h1l : ([a] : List Int).length = 1 := rfl
  by_cases h1 : b < a
  · have hq' : M.putAt [a] b ([a] : List Int).length = 0 := by rw [h1l, hq, if_pos h1]
    rw [hq', if_pos h1, if_neg (by omega)]; simp
  · have hq' : M.putAt [a] b ([a] : List Int).length = 1 := by rw [h1l, hq, if_neg h1]
    rw [hq', if_neg h1]
    have : rd [a] (((1 : Nat) : Int) - 1) = a := rfl
    rw [this]
    by_cases h2 : b = a
    · rw [if_pos h2, if_pos ⟨by omega, h2.symm⟩]
    · rw [if_neg h2, if_neg (fun h => h2 h.2.symm)]; simp
theorem wp.spec_l07Next.math (p : List D.Ins) (k : Int) (h : M.spec_l07Next_pre p k) : wp.spec_l07Next p k (fun r => r = M.spec_l07Next p k) := by
  obtain ⟨hp, h0, h1⟩ := h
  have h32 := progLen hp
  have hw : IntKind.wrap .i64 (k + 1) = k + 1 := w64 (by omega) (by omega)
  unfold wp.spec_l07Next
  rw [hw]
  refine bcase_mk (fun e => ?_) fun e => ?_
  · have e : k = p.length := by simpa using e
    simp [M.spec_l07Next, M.nextOf, e]
  have e : ¬ k = p.length := by simpa using e
  refine ⟨by omega, bcase_mk (fun e1 => ?_) fun e1 => bcase_mk (fun e2 => ⟨by omega, ?_⟩) fun e2 => bcase_mk (fun e3 => ⟨by omega, by show (1 : Nat) ≤ 17179869183; omega, fun r hr => ?_⟩) fun e3 => ?_⟩
  all_goals simp only [M.spec_l07Next, M.nextOf]
  all_goals rw [if_neg e]
  · rw [if_pos (by simpa using e1)]
  · rw [if_neg (by simpa using e1), if_pos (by simpa using e2)]
  · rw [if_neg (by simpa using e1), if_neg (by simpa using e2), if_pos (by simpa using e3), hr, put_one]
  · rw [if_neg (by simpa using e1), if_neg (by simpa using e2), if_neg (by simpa using e3)]
theorem cons_facts {k : Int} {rest : List Int} : rd (k :: rest) 0 = k ∧ List.drop ((1 : Int).toNat) (k :: rest) = rest ∧ (0 ≤ (0 : Int) ∧ (0 : Int) < (((k :: rest).length : Nat) : Int)) ∧ (0 ≤ (1 : Int) ∧ (1 : Int) ≤ (((k :: rest).length : Nat) : Int)) ∧ decide ((((k :: rest).length : Nat) : Int) > 0) = true := by
  refine ⟨rfl, rfl, by simp only [List.length_cons]; omega, by simp only [List.length_cons]; omega, ?_⟩
  simp only [List.length_cons, decide_eq_true_eq]; omega
theorem repl_eq {p : List D.Ins} (hp : M.programOk p = true) : List.replicate ((IntKind.wrap .i64 (((p.length : Nat) : Int) + 1)).toNat) (default : Bool) = List.replicate (p.length + 1) false := by
  rw [small64 (prog_small hp)]; rfl
theorem node_seen {p : List D.Ins} {k : Int} {seen : List Bool} (h : M.Node p k) (hl : seen.length = p.length + 1) : 0 ≤ k ∧ k < ((seen.length : Nat) : Int) := by
  obtain ⟨_, h0, h1⟩ := h
  omega
theorem wp.spec_l07Reach.math (p : List D.Ins) (l : List Int) (h : M.spec_l07Reach_pre p l) : wp.spec_l07Reach p l (fun r => r = M.spec_l07Reach p l) := by
  have hp := h.1
  have h32 := progLen hp
  have h4 := h.2.2
  unfold wp.spec_l07Reach
  rw [repl_eq hp, small64 (prog_small hp)]
  refine ⟨by omega, by simp; omega, ?_⟩
  rw [List.nil_append]
  refine bfs_loop (wo := -1) (I := fun _ => True) h (seen0_len _) trivial (R := M.spec_l07Reach p l) rfl (by rw [seen0_falses]; omega) (fun k rest seen next hk hl _ hc hn => ?_) (fun k rest seen next hk hl _ h1 h2 _ h5 hn => ?_) fun next _ => bcase_f rfl rfl
  · obtain ⟨f1, f2, f3, f4, f5⟩ := cons_facts (k := k) (rest := rest)
    refine bcase_t f5 ⟨f3, f4, ?_⟩
    rw [f1, f2]
    have hk1 : ¬ k = -1 := by have := hk.2.1; omega
    exact ⟨node_seen hk hl, bcase_t (hc.resolve_left hk1) hn⟩
  · obtain ⟨f1, f2, f3, f4, f5⟩ := cons_facts (k := k) (rest := rest)
    refine bcase_t f5 ⟨f3, f4, ?_⟩
    rw [f1, f2]
    refine ⟨node_seen hk hl, bcase_f h2 ⟨node_seen hk hl, hk, fun r hr => ?_⟩⟩
    have hr' : r = M.nextOf p k := hr
    rw [hr']
    exact ⟨h5, hn trivial⟩
theorem start1 {p : List D.Ins} {k : Int} (h : M.Node p k) : M.Starts p [k] := ⟨h.1, fun x hx => by obtain rfl := List.mem_singleton.1 hx; exact h.2, by simp⟩
theorem isNode_iff {p : List D.Ins} {k : Int} : M.isNode p k = true ↔ M.Node p k := by
  simp only [M.isNode, M.Node, M.nodeIn, Bool.and_eq_true, M.isIn, decide_eq_true_eq]
theorem wp.spec_ReachesExit.math (p : List D.Ins) (k : Int) (h : M.spec_ReachesExit_pre p k) : wp.spec_ReachesExit p k (fun r => r = M.spec_ReachesExit p k) := by
  refine ⟨h, fun r hr => bcase_mk (fun e => ?_) fun e => ?_⟩
  all_goals have hr' : r = M.isNode p k := hr
  · have hN := isNode_iff.1 (hr'.symm.trans e)
    refine ⟨start1 hN, fun r2 hr2 => ⟨?_, ?_⟩⟩
    · rw [hr2]; show _ ∧ _ < (((M.reached p [k] (-1)).length : Nat) : Int); rw [reached_len]; omega
    · rw [hr2]; simp only [M.spec_ReachesExit, ← hr', e, Bool.true_and]; rfl
  · simp [M.spec_ReachesExit, ← hr', e]
theorem wp.spec_l08After.math (p : List D.Ins) (k later : Int) (h : M.spec_l08After_pre p k later) : wp.spec_l08After p k later (fun r => r = M.spec_l08After p k later) := by
  have hp := h.1
  have h32 := progLen hp
  have hs := start1 h
  have hn : M.nodeIn p ((p.length : Nat) : Int) := ⟨by omega, by omega⟩
  refine bcase_mk (fun e => ?_) fun e => ?_
  · have e : k = later := by simpa using e
    show true = M.afterB p k later
    have : rd (M.reached p [k] later) ((p.length : Nat) : Int) = false := by
      refine Bool.eq_false_iff.2 fun hr => ?_
      have hr := (reached_iff hp hs.2.1 hn).1 hr
      have none : ∀ x, ¬ Rch p later [k] x := by
        intro x hx
        induction hx with
        | base h1 h2 => obtain rfl := List.mem_singleton.1 h1; exact h2 e
        | step _ _ _ ih => exact ih
      exact none _ hr
    unfold M.afterB; rw [this]; rfl
  rw [repl_eq hp, small64 (prog_small hp)]
  refine ⟨by omega, ?_⟩
  refine bfs_loop (wo := later) (I := fun seen => rd seen ((p.length : Nat) : Int) = false) hs (seen0_len _) (seen0_rd _ _) (R := M.reached p [k] later) rfl (by rw [seen0_falses]; simp) (fun j rest seen next hk hl _ hc hn => ?_) (fun j rest seen next hk hl hI h1 h2 h3 h5 hn => ?_) fun next hI => bcase_f rfl ?_
  · obtain ⟨f1, f2, f3, f4, f5⟩ := cons_facts (k := j) (rest := rest)
    refine bcase_t f5 ⟨f3, f4, ?_⟩
    rw [f1, f2]
    refine ⟨node_seen hk hl, bcase_mk (fun _ => hn) fun e1 => bcase_t ?_ hn⟩
    rcases hc with hc | hc
    · simpa using hc
    · rw [hc] at e1; cases e1
  · obtain ⟨f1, f2, f3, f4, f5⟩ := cons_facts (k := j) (rest := rest)
    refine bcase_t f5 ⟨f3, f4, ?_⟩
    rw [f1, f2]
    refine ⟨node_seen hk hl, bcase_f h2 (bcase_f (by simpa using h1) (bcase_mk (fun e1 => ?_) fun e1 => ⟨node_seen hk hl, hk, fun r hr => ?_⟩))⟩
    · have e1 : j = ((p.length : Nat) : Int) := by simpa using e1
      show false = M.afterB p k later
      unfold M.afterB
      rw [← e1, h3]; rfl
    · have e1 : ¬ j = ((p.length : Nat) : Int) := by simpa using e1
      have hr' : r = M.nextOf p j := hr
      rw [hr']
      refine ⟨h5, hn ?_⟩
      have hj := hk.2
      unfold M.nodeIn at hj
      rw [rd_setB hj.1 (by omega) (by omega), if_neg (fun e => e1 e.symm)]
      exact hI
  · show true = M.afterB p k later
    unfold M.afterB; rw [hI]; rfl
theorem wp.spec_AftersOf.math (p : List D.Ins) (k : Int) (h : M.spec_AftersOf_pre p k) : wp.spec_AftersOf p k (fun r => r = M.spec_AftersOf p k) := by
  refine ⟨h, fun r hr => bcase_mk (fun e => ?_) fun e => ?_⟩
  · have := nt e (show r = (M.isNode p k && M.exitB p k) from hr)
    simp [M.spec_AftersOf, M.aftersOf, this]
  · have he := nf e (show r = (M.isNode p k && M.exitB p k) from hr)
    have hN : M.Node p k := isNode_iff.1 (by simp only [Bool.and_eq_true] at he; exact he.1)
    have h32 := progLen hN.1
    have hM : M.spec_AftersOf p k = M.idx (M.afterB p k) (p.length + 1) := by simp only [M.spec_AftersOf, M.aftersOf, he, if_true]
    rw [hM]
    refine idx_loop (fun j xs next hj hxs hle h1 h2 => ?_) fun next => bcase_f (by simp; omega) rfl
    refine bcase_t (by simp; omega) ⟨hN, fun r2 hr2 => bcase_mk (fun e2 => ⟨by simp; omega, ?_⟩) fun e2 => ?_⟩
    · rw [up64 (n := p.length + 1) hj (by omega)]; exact h1 ((show r2 = M.afterB p k (j : Int) from hr2).symm.trans e2)
    · rw [up64 (n := p.length + 1) hj (by omega)]; exact h2 ((show r2 = M.afterB p k (j : Int) from hr2).symm.trans e2)
theorem firstS_from (p : List D.Ins) (all l : List Int) (k : Nat) (hk : k < l.length) : M.firstS p all (l.drop k) = if all.all (M.afterB p (rd l (k : Int))) then rd l (k : Int) else M.firstS p all (l.drop (k + 1)) := by
  rw [List.drop_eq_getElem_cons hk, rd_nat hk]; rfl
theorem wp.spec_l08First.math (p : List D.Ins) (l : List Int) (h : M.spec_l08First_pre p l) : wp.spec_l08First p l (fun r => r = M.spec_l08First p l) := by
  obtain ⟨h1, h2⟩ := h
  have hl : l.length ≤ 17179869183 := h1
  refine loop_n l.length (fun k => ((k : Int), ())) (fun k => M.firstS p l l = M.firstS p l (l.drop k)) rfl rfl (fun k hk hF next hn => ?_) fun hF next => bcase_f (by simp) ?_
  · rw [firstS_from p l l k hk] at hF
    refine bcase_t (by simp; omega) ?_
    have hN := h2 _ (rd_mem hk)
    refine loop_n l.length (fun j => ((l.take j).all (M.afterB p (rd l (k : Int))), (j : Int), ())) (fun _ => True) rfl trivial (fun j hj _ next2 hn2 => ?_) fun _ next2 => ?_
    · have hn2 := hn2 trivial
      have ht : (l.take (j + 1)).all (M.afterB p (rd l (k : Int))) = ((l.take j).all (M.afterB p (rd l (k : Int))) && M.afterB p (rd l (k : Int)) (rd l (j : Int))) := by
        rw [List.take_add_one, List.getElem?_eq_getElem hj, rd_nat hj, List.all_append]; simp
      rw [ht] at hn2
      refine bcase_t (by simp; omega) (bcase_mk (fun e => ⟨by omega, by omega, hN, fun r hr => ?_⟩) fun e => ?_)
      · rw [e, Bool.true_and] at hn2
        rw [hr, up64 hj (by omega)]; exact hn2
      · rw [e, Bool.false_and] at hn2
        rw [up64 hj (by omega)]; exact hn2
    · refine bcase_f (by simp) ?_
      rw [List.take_length]
      refine bcase_mk (fun e => ⟨by omega, ?_⟩) fun e => ?_
      · rw [if_pos e] at hF; exact hF.symm
      · rw [if_neg (by rw [e]; simp)] at hF
        rw [up64 hk (by omega)]; exact hn hF
  · rw [List.drop_length] at hF; exact hF.symm
theorem afters_nodes {p : List D.Ins} {k x : Int} (h : x ∈ M.others (M.aftersOf p k) k) : M.Node p x ∧ M.Node p k ∧ M.exitB p k = true ∧ M.afterB p k x = true := by
  have h := (List.mem_filter.1 h).1
  unfold M.aftersOf at h
  split at h
  · rename_i e
    simp only [Bool.and_eq_true] at e
    have hN := isNode_iff.1 e.1
    obtain ⟨j, hj, rfl, hg⟩ := mem_idx.1 h
    exact ⟨⟨hN.1, by omega, by omega⟩, hN, e.2, hg⟩
  · exact absurd h List.not_mem_nil
theorem afters_len (p : List D.Ins) (k : Int) : (M.aftersOf p k).length ≤ p.length + 1 := by
  unfold M.aftersOf
  split
  · exact idx_len _ _
  · simp
theorem afters_ok {p : List D.Ins} (hp : M.PSmall p) (k : Int) : M.Nodes p (M.others (M.aftersOf p k) k) := by
  have h1 := afters_len p k
  have h2 := List.length_filter_le (fun x => x != k) (M.aftersOf p k)
  unfold M.PSmall at hp
  refine ⟨?_, fun x hx => (afters_nodes hx).1⟩
  show (M.others (M.aftersOf p k) k).length ≤ 17179869183
  unfold M.others; omega
theorem wp.spec_FirstAfter.math (p : List D.Ins) (k : Int) (h : M.spec_FirstAfter_pre p k) : wp.spec_FirstAfter p k (fun r => r = M.spec_FirstAfter p k) := by
  have h1 := afters_len p k
  have hs : p.length ≤ 2097152 := h
  refine ⟨h, fun r hr => ⟨?_, fun r2 hr2 => ⟨?_, fun r3 hr3 => ?_⟩⟩⟩
  · rw [hr]; show (M.aftersOf p k).length ≤ 17179869183; omega
  · rw [hr2, hr]; exact afters_ok h k
  · rw [hr3, hr2, hr]; rfl
theorem br_in {p : List D.Ins} {b : Int} (h : M.Branch p b) : M.Node p (b + 1) ∧ M.Node p (rd p b).B ∧ M.Node p b ∧ b + 1 < 9223372036854775807 := by
  obtain ⟨hp, h0, h1, hb⟩ := h
  have h32 := progLen hp
  simp only [M.isBr, Bool.and_eq_true, beq_iff_eq] at hb
  have ht := target_in (nodeOk hp h0 h1) (.inl hb.1)
  exact ⟨⟨hp, by omega, by omega⟩, ⟨hp, ht⟩, ⟨hp, by omega, by omega⟩, by omega⟩
theorem wp.spec_l09Join.math (p : List D.Ins) (b : Int) (h : M.spec_l09Join_pre p b) : wp.spec_l09Join p b (fun r => r = M.spec_l09Join p b) := by
  obtain ⟨n1, n2, n3, n4⟩ := br_in h
  have hs := prog_small h.1
  have hw : IntKind.wrap .i64 (b + 1) = b + 1 := w64 (by have := h.2.1; omega) (by omega)
  have hb := h.2
  unfold wp.spec_l09Join
  rw [hw]
  have m1 : M.spec_ReachesExit p (b + 1) = M.exitB p (b + 1) := by simp [M.spec_ReachesExit, isNode_iff.2 n1]
  have m2 : M.spec_ReachesExit p (rd p b).B = M.exitB p (rd p b).B := by simp [M.spec_ReachesExit, isNode_iff.2 n2]
  refine ⟨hs, fun r hr => bcase_mk (fun e => ?_) fun e => ⟨⟨hb.1, hb.2.1⟩, hs, fun r2 hr2 => bcase_mk (fun e2 => ?_) fun e2 => ⟨hs, fun r3 hr3 => ?_⟩⟩⟩
  all_goals rw [m1] at hr
  · simp [M.spec_l09Join, M.joinB, nt e hr]
  · rw [m2] at hr2
    simp [M.spec_l09Join, M.joinB, nt e2 hr2]
  · rw [m2] at hr2
    rw [hr3]; simp [M.spec_l09Join, M.joinB, nf e hr, nf e2 hr2, M.spec_FirstAfter]
theorem branch_of {p : List D.Ins} {b : Int} (h : M.has (M.branches p) b = true) : M.Branch p b := by
  simp only [M.has, List.any_eq_true, beq_iff_eq] at h
  obtain ⟨x, hx, rfl⟩ := h
  unfold M.branches at hx
  split at hx
  · rename_i hp
    obtain ⟨j, hj, rfl, hg⟩ := mem_idx.1 hx
    exact ⟨hp, by omega, by omega, hg⟩
  · exact absurd hx List.not_mem_nil
theorem branches_len (p : List D.Ins) : (M.branches p).length ≤ p.length := by
  unfold M.branches
  split
  · exact idx_len _ _
  · simp
end Go.V
set_option linter.unusedVariables false
namespace Go.V
def wp.cmp_isNaN_int (x0 : Int) (Q : Bool → Prop) : Prop :=
  Q (x0 != x0)
def wp.cmp_Less_int (x0 : Int) (x1 : Int) (Q : Bool → Prop) : Prop :=
  (∀ r21, r21 = M.cmp_isNaN_int x0 → bcase r21 ((∀ r26, r26 = M.cmp_isNaN_int x1 → bcase (!r26) (Q true) (Q (decide (x0 < x1))))) (Q (decide (x0 < x1))))
def wp.slices_insertionSortOrdered_int (xs0 : List Int) (x1 : Int) (x2 : Int) (Q : ((List Int)) → Prop) : Prop :=
  LoopP (σ := Int × (List Int) × Unit) (fun (p299 : Int × (List Int) × Unit) next126 => match p299 with | (i120, xs121, _) => bcase (decide (i120 < x2)) (LoopP (σ := Int × (List Int) × Unit) (fun (p294 : Int × (List Int) × Unit) next204 => match p294 with | (i198, xs199, _) => JoinP (σ := Unit) (fun J206 => bcase (decide (i198 > x1)) (((0 ≤ i198 ∧ i198 < ((xs199.length : Nat) : Int)) ∧ ((0 ≤ (IntKind.wrap .i64 (i198 - 1)) ∧ (IntKind.wrap .i64 (i198 - 1)) < ((xs199.length : Nat) : Int)) ∧ (((∀ r219, r219 = M.cmp_Less_int (rd xs199 i198) (rd xs199 (IntKind.wrap .i64 (i198 - 1))) → bcase r219 (J206 (())) (next126 ((IntKind.wrap .i64 (i120 + 1)), xs199, ())))) ∧ ((∀ r228, r228 = M.cmp_Less_int (rd xs199 i198) (rd xs199 (IntKind.wrap .i64 (i198 - 1))) → bcase r228 (J206 (())) (next126 ((IntKind.wrap .i64 (i120 + 1)), xs199, ())))) ∧ True)))) (((next126 ((IntKind.wrap .i64 (i120 + 1)), xs199, ())) ∧ (next126 ((IntKind.wrap .i64 (i120 + 1)), xs199, ())) ∧ True))) (fun (p292 : Unit) => match p292 with | (_) => ((0 ≤ (IntKind.wrap .i64 (i198 - 1)) ∧ (IntKind.wrap .i64 (i198 - 1)) < ((xs199.length : Nat) : Int)) ∧ ((0 ≤ i198 ∧ i198 < ((xs199.length : Nat) : Int)) ∧ ((((0 ≤ i198 ∧ i198 < ((xs199.length : Nat) : Int)) ∧ ((0 ≤ (IntKind.wrap .i64 (i198 - 1)) ∧ (IntKind.wrap .i64 (i198 - 1)) < (((List.set xs199 (i198.toNat) (rd xs199 (IntKind.wrap .i64 (i198 - 1)))).length : Nat) : Int)) ∧ next204 ((IntKind.wrap .i64 (i198 - 1)), (List.set (List.set xs199 (i198.toNat) (rd xs199 (IntKind.wrap .i64 (i198 - 1)))) ((IntKind.wrap .i64 (i198 - 1)).toNat) (rd xs199 i198)), ())))) ∧ (((0 ≤ i198 ∧ i198 < ((xs199.length : Nat) : Int)) ∧ ((0 ≤ (IntKind.wrap .i64 (i198 - 1)) ∧ (IntKind.wrap .i64 (i198 - 1)) < (((List.set xs199 (i198.toNat) (rd xs199 (IntKind.wrap .i64 (i198 - 1)))).length : Nat) : Int)) ∧ next204 ((IntKind.wrap .i64 (i198 - 1)), (List.set (List.set xs199 (i198.toNat) (rd xs199 (IntKind.wrap .i64 (i198 - 1)))) ((IntKind.wrap .i64 (i198 - 1)).toNat) (rd xs199 i198)), ())))) ∧ True))))) (i120, xs121, ())) (Q xs121)) ((IntKind.wrap .i64 (x1 + 1)), xs0, ())
def wp.math_bits_Len64 (x0 : Int) (Q : Int → Prop) : Prop :=
  JoinP (σ := Int × Int × Unit) (fun J23 => bcase (decide (x0 ≥ 4294967296)) (J23 ((Int.fdiv x0 (2 ^ (min ((32 : Int).toNat) (IntKind.bits .u64)))), 32, ())) (J23 (x0, 0, ()))) (fun (p51 : Int × Int × Unit) => match p51 with | (i21, i22, _) => JoinP (σ := Int × Int × Unit) (fun J30 => bcase (decide (i21 ≥ 65536)) (J30 ((Int.fdiv i21 (2 ^ (min ((16 : Int).toNat) (IntKind.bits .u64)))), (IntKind.wrap .i64 (i22 + 16)), ())) (J30 (i21, i22, ()))) (fun (p49 : Int × Int × Unit) => match p49 with | (i28, i29, _) => JoinP (σ := Int × Int × Unit) (fun J37 => bcase (decide (i28 ≥ 256)) (J37 ((Int.fdiv i28 (2 ^ (min ((8 : Int).toNat) (IntKind.bits .u64)))), (IntKind.wrap .i64 (i29 + 8)), ())) (J37 (i28, i29, ()))) (fun (p47 : Int × Int × Unit) => match p47 with | (i35, i36, _) => ((0 ≤ IntKind.wrap .u8 i35 ∧ IntKind.wrap .u8 i35 < ((ByteArray.size (⟨#[0, 1, 2, 2, 3, 3, 3, 3, 4, 4, 4, 4, 4, 4, 4, 4, 5, 5, 5, 5, 5, 5, 5, 5, 5, 5, 5, 5, 5, 5, 5, 5, 6, 6, 6, 6, 6, 6, 6, 6, 6, 6, 6, 6, 6, 6, 6, 6, 6, 6, 6, 6, 6, 6, 6, 6, 6, 6, 6, 6, 6, 6, 6, 6, 7, 7, 7, 7, 7, 7, 7, 7, 7, 7, 7, 7, 7, 7, 7, 7, 7, 7, 7, 7, 7, 7, 7, 7, 7, 7, 7, 7, 7, 7, 7, 7, 7, 7, 7, 7, 7, 7, 7, 7, 7, 7, 7, 7, 7, 7, 7, 7, 7, 7, 7, 7, 7, 7, 7, 7, 7, 7, 7, 7, 7, 7, 7, 7, 8, 8, 8, 8, 8, 8, 8, 8, 8, 8, 8, 8, 8, 8, 8, 8, 8, 8, 8, 8, 8, 8, 8, 8, 8, 8, 8, 8, 8, 8, 8, 8, 8, 8, 8, 8, 8, 8, 8, 8, 8, 8, 8, 8, 8, 8, 8, 8, 8, 8, 8, 8, 8, 8, 8, 8, 8, 8, 8, 8, 8, 8, 8, 8, 8, 8, 8, 8, 8, 8, 8, 8, 8, 8, 8, 8, 8, 8, 8, 8, 8, 8, 8, 8, 8, 8, 8, 8, 8, 8, 8, 8, 8, 8, 8, 8, 8, 8, 8, 8, 8, 8, 8, 8, 8, 8, 8, 8, 8, 8, 8, 8, 8, 8, 8, 8, 8, 8, 8, 8, 8, 8, 8, 8, 8, 8, 8, 8]⟩) : Nat) : Int)) ∧ Q (IntKind.wrap .i64 (i36 + (IntKind.wrap .i64 (bt (⟨#[0, 1, 2, 2, 3, 3, 3, 3, 4, 4, 4, 4, 4, 4, 4, 4, 5, 5, 5, 5, 5, 5, 5, 5, 5, 5, 5, 5, 5, 5, 5, 5, 6, 6, 6, 6, 6, 6, 6, 6, 6, 6, 6, 6, 6, 6, 6, 6, 6, 6, 6, 6, 6, 6, 6, 6, 6, 6, 6, 6, 6, 6, 6, 6, 7, 7, 7, 7, 7, 7, 7, 7, 7, 7, 7, 7, 7, 7, 7, 7, 7, 7, 7, 7, 7, 7, 7, 7, 7, 7, 7, 7, 7, 7, 7, 7, 7, 7, 7, 7, 7, 7, 7, 7, 7, 7, 7, 7, 7, 7, 7, 7, 7, 7, 7, 7, 7, 7, 7, 7, 7, 7, 7, 7, 7, 7, 7, 7, 8, 8, 8, 8, 8, 8, 8, 8, 8, 8, 8, 8, 8, 8, 8, 8, 8, 8, 8, 8, 8, 8, 8, 8, 8, 8, 8, 8, 8, 8, 8, 8, 8, 8, 8, 8, 8, 8, 8, 8, 8, 8, 8, 8, 8, 8, 8, 8, 8, 8, 8, 8, 8, 8, 8, 8, 8, 8, 8, 8, 8, 8, 8, 8, 8, 8, 8, 8, 8, 8, 8, 8, 8, 8, 8, 8, 8, 8, 8, 8, 8, 8, 8, 8, 8, 8, 8, 8, 8, 8, 8, 8, 8, 8, 8, 8, 8, 8, 8, 8, 8, 8, 8, 8, 8, 8, 8, 8, 8, 8, 8, 8, 8, 8, 8, 8, 8, 8, 8, 8, 8, 8, 8, 8, 8, 8, 8, 8]⟩) (IntKind.wrap .u8 i35)))))))))
def wp.math_bits_Len (x0 : Int) (Q : Int → Prop) : Prop :=
  (M.math_bits_Len64_pre x0 ∧ ∀ r21, r21 = M.math_bits_Len64 x0 → Q r21)
def wp.slices_pdqsortOrdered_int (xs0 : List Int) (x1 : Int) (x2 : Int) (x3 : Int) (Q : ((List Int)) → Prop) : Prop :=
  LoopP (σ := Int × Int × Int × Bool × Bool × Unit) (fun (p44 : Int × Int × Int × Bool × Bool × Unit) next29 => match p44 with | (i21, i22, i23, b24, b25, _) => bcase (decide ((IntKind.wrap .i64 (i22 - i21)) ≤ 12)) ((M.slices_insertionSortOrdered_int_pre xs0 i21 i22 ∧ ∀ r31, r31 = M.slices_insertionSortOrdered_int xs0 i21 i22 → Q r31)) (bcase (i23 == 0) (False) (False))) (x1, x2, x3, true, true, ())
def wp.slices_Sort_int_int (xs0 : List Int) (Q : ((List Int)) → Prop) : Prop :=
  (M.math_bits_Len_pre (IntKind.wrap .u64 ((xs0.length : Nat) : Int)) ∧ ∀ r21, r21 = M.math_bits_Len (IntKind.wrap .u64 ((xs0.length : Nat) : Int)) → (M.slices_pdqsortOrdered_int_pre xs0 0 ((xs0.length : Nat) : Int) r21 ∧ ∀ r26, r26 = M.slices_pdqsortOrdered_int xs0 0 ((xs0.length : Nat) : Int) r21 → Q r26))
def wp.slices_Compact_int_int (xs0 : List Int) (Q : (List Int) → Prop) : Prop :=
  bcase (decide (((xs0.length : Nat) : Int) < 2)) (Q xs0) (LoopP (σ := Int × Unit) (fun (p64 : Int × Unit) next25 => match p64 with | (i21, _) => bcase (decide (i21 < ((xs0.length : Nat) : Int))) (((0 ≤ i21 ∧ i21 < ((xs0.length : Nat) : Int)) ∧ ((0 ≤ (IntKind.wrap .i64 (i21 - 1)) ∧ (IntKind.wrap .i64 (i21 - 1)) < ((xs0.length : Nat) : Int)) ∧ bcase ((rd xs0 i21) == (rd xs0 (IntKind.wrap .i64 (i21 - 1)))) (((0 ≤ i21 ∧ i21 ≤ ((xs0.length : Nat) : Int)) ∧ LoopP (σ := Int × Int × Unit) (fun (p55 : Int × Int × Unit) next45 => match p55 with | (i40, i41, _) => bcase (decide (i41 < ((((List.drop (i21.toNat) xs0)).length : Nat) : Int))) (False) (((0 ≤ i40 ∧ i40 ≤ ((xs0.length : Nat) : Int)) ∧ ((0 ≤ i40 ∧ i40 ≤ (((List.take (i40.toNat) xs0 ++ List.replicate (xs0.length - (i40.toNat)) default).length : Nat) : Int)) ∧ Q (List.take (i40.toNat) (List.take (i40.toNat) xs0 ++ List.replicate (xs0.length - (i40.toNat)) default)))))) (i21, 1, ()))) (next25 ((IntKind.wrap .i64 (i21 + 1)), ()))))) (Q xs0)) (1, ()))
def wp.impl_next (xs0 : List D.Ins) (x1 : Int) (Q : (List Int) → Prop) : Prop :=
  bcase (x1 == ((xs0.length : Nat) : Int)) (Q ([] : List Int)) (((0 ≤ x1 ∧ x1 < ((xs0.length : Nat) : Int)) ∧ bcase ((rd xs0 x1).Op == 12) (Q ([((xs0.length : Nat) : Int)] : List Int)) (bcase ((rd xs0 x1).Op == 11) (Q ([(rd xs0 x1).B] : List Int)) (bcase ((rd xs0 x1).Op == 10) ((M.slices_Sort_int_int_pre ([(rd xs0 x1).B, (IntKind.wrap .i64 (x1 + 1))] : List Int) ∧ ∀ r42, r42 = M.slices_Sort_int_int ([(rd xs0 x1).B, (IntKind.wrap .i64 (x1 + 1))] : List Int) → (M.slices_Compact_int_int_pre r42 ∧ ∀ r48, r48 = M.slices_Compact_int_int r42 → Q r48))) (Q ([(IntKind.wrap .i64 (x1 + 1))] : List Int))))))
def wp.impl_BranchesOf (xs0 : List D.Ins) (Q : (List Int) → Prop) : Prop :=
  (M.impl_ProgramOk_pre xs0 ∧ ∀ r21, r21 = M.impl_ProgramOk xs0 → bcase (!r21) (Q ([] : List Int)) (LoopP (σ := (List Int) × Int × Unit) (fun (p61 : (List Int) × Int × Unit) next36 => match p61 with | (xs29, i32, _) => bcase (decide (i32 < ((xs0.length : Nat) : Int))) ((M.impl_next_pre xs0 i32 ∧ ∀ r38, r38 = M.impl_next xs0 i32 → bcase (((r38.length : Nat) : Int) == 2) (((xs29.length + ([i32] : List Int).length ≤ 17179869184) ∧ next36 ((xs29 ++ ([i32] : List Int)), (IntKind.wrap .i64 (i32 + 1)), ()))) (next36 (xs29, (IntKind.wrap .i64 (i32 + 1)), ())))) (Q xs29)) (([] : List Int), 0, ())))
def wp.impl_isBranch (xs0 : List D.Ins) (x1 : Int) (Q : Bool → Prop) : Prop :=
  (M.impl_BranchesOf_pre xs0 ∧ ∀ r21, r21 = M.impl_BranchesOf xs0 → (M.slices_Contains_int_int_pre r21 x1 ∧ ∀ r28, r28 = M.slices_Contains_int_int r21 x1 → Q r28))
def wp.impl_reached (xs0 : List D.Ins) (xs1 : List Int) (x2 : Int) (Q : (List Bool) → Prop) : Prop :=
  ((0 ≤ (IntKind.wrap .i64 (((xs0.length : Nat) : Int) + 1)) ∧ (IntKind.wrap .i64 (((xs0.length : Nat) : Int) + 1)) ≤ 17179869184) ∧ (M.slices_Clone_int_int_pre xs1 ∧ ∀ r26, r26 = M.slices_Clone_int_int xs1 → LoopP (σ := (List Int) × (List Bool) × Unit) (fun (p133 : (List Int) × (List Bool) × Unit) next87 => match p133 with | (xs79, xs82, _) => bcase (decide (((xs79.length : Nat) : Int) > 0)) (((0 ≤ (0 : Int) ∧ (0 : Int) < ((xs79.length : Nat) : Int)) ∧ ((0 ≤ (1 : Int) ∧ (1 : Int) ≤ ((xs79.length : Nat) : Int)) ∧ bcase ((rd xs79 0) == x2) (next87 ((List.drop ((1 : Int).toNat) xs79), xs82, ())) (((0 ≤ (rd xs79 0) ∧ (rd xs79 0) < ((xs82.length : Nat) : Int)) ∧ bcase (rd xs82 (rd xs79 0)) (next87 ((List.drop ((1 : Int).toNat) xs79), xs82, ())) (((0 ≤ (rd xs79 0) ∧ (rd xs79 0) < ((xs82.length : Nat) : Int)) ∧ (M.impl_next_pre xs0 (rd xs79 0) ∧ ∀ r115, r115 = M.impl_next xs0 (rd xs79 0) → (((List.drop ((1 : Int).toNat) xs79).length + r115.length ≤ 17179869184) ∧ next87 (((List.drop ((1 : Int).toNat) xs79) ++ r115), (List.set xs82 ((rd xs79 0).toNat) true), ())))))))))) (Q xs82)) (r26, (List.replicate ((IntKind.wrap .i64 (((xs0.length : Nat) : Int) + 1)).toNat) (default : Bool)), ())))
def wp.impl_reachesExit (xs0 : List D.Ins) (x1 : Int) (Q : Bool → Prop) : Prop :=
  (M.impl_reached_pre xs0 ([x1] : List Int) (-1) ∧ ∀ r24, r24 = M.impl_reached xs0 ([x1] : List Int) (-1) → ((0 ≤ ((xs0.length : Nat) : Int) ∧ ((xs0.length : Nat) : Int) < ((r24.length : Nat) : Int)) ∧ Q (rd r24 ((xs0.length : Nat) : Int))))
def wp.impl_isNode (xs0 : List D.Ins) (x1 : Int) (Q : Bool → Prop) : Prop :=
  (M.impl_ProgramOk_pre xs0 ∧ ∀ r21, r21 = M.impl_ProgramOk xs0 → bcase r21 ((∀ r26, r26 = M.impl_within x1 0 ((xs0.length : Nat) : Int) → Q r26)) (Q false))
def wp.impl_isAfter (xs0 : List D.Ins) (x1 : Int) (x2 : Int) (Q : Bool → Prop) : Prop :=
  (M.impl_reachesExit_pre xs0 x1 ∧ ∀ r21, r21 = M.impl_reachesExit xs0 x1 → bcase r21 ((M.impl_reached_pre xs0 ([x1] : List Int) x2 ∧ ∀ r29, r29 = M.impl_reached xs0 ([x1] : List Int) x2 → ((0 ≤ ((xs0.length : Nat) : Int) ∧ ((xs0.length : Nat) : Int) < ((r29.length : Nat) : Int)) ∧ Q (!(rd r29 ((xs0.length : Nat) : Int)))))) (Q false))
def wp.impl_IsAfter (xs0 : List D.Ins) (x1 : Int) (x2 : Int) (Q : Bool → Prop) : Prop :=
  (M.impl_isNode_pre xs0 x1 ∧ ∀ r21, r21 = M.impl_isNode xs0 x1 → bcase r21 ((M.impl_isNode_pre xs0 x2 ∧ ∀ r26, r26 = M.impl_isNode xs0 x2 → bcase r26 ((M.impl_isAfter_pre xs0 x1 x2 ∧ ∀ r31, r31 = M.impl_isAfter xs0 x1 x2 → Q r31)) (Q false))) (Q false))
def wp.impl_AftersOf (xs0 : List D.Ins) (x1 : Int) (Q : (List Int) → Prop) : Prop :=
  LoopP (σ := (List Int) × Int × Unit) (fun (p54 : (List Int) × Int × Unit) next31 => match p54 with | (xs24, i27, _) => bcase (decide (i27 < (IntKind.wrap .i64 (((xs0.length : Nat) : Int) + 1)))) ((M.impl_IsAfter_pre xs0 x1 i27 ∧ ∀ r33, r33 = M.impl_IsAfter xs0 x1 i27 → bcase r33 (((xs24.length + ([i27] : List Int).length ≤ 17179869184) ∧ next31 ((xs24 ++ ([i27] : List Int)), (IntKind.wrap .i64 (i27 + 1)), ()))) (next31 (xs24, (IntKind.wrap .i64 (i27 + 1)), ())))) (Q xs24)) (([] : List Int), 0, ())
def wp.impl_FirstAfter_1 (x0 : Int) (x1 : Int) (Q : Bool → Prop) : Prop :=
  Q (x0 == x1)
def wp.slices_DeleteFunc_int_int (xs0 : List Int) (g1 : Int → Bool) (D1 : Int → Prop) (Q : (List Int) → Prop) : Prop :=
  (M.slices_IndexFunc_int_int_pre xs0 g1 D1 ∧ ∀ r21, r21 = M.slices_IndexFunc_int_int xs0 g1 → bcase (r21 == (-1)) (Q xs0) (LoopP (σ := Int × Int × (List Int) × Unit) (fun (p92 : Int × Int × (List Int) × Unit) next58 => match p92 with | (i51, i52, xs53, _) => bcase (decide (i52 < ((xs0.length : Nat) : Int))) (((0 ≤ i52 ∧ i52 < ((xs53.length : Nat) : Int)) ∧ (D1 (rd xs53 i52) ∧ ∀ r65, r65 = g1 (rd xs53 i52) → bcase (!r65) (((0 ≤ i51 ∧ i51 < ((xs53.length : Nat) : Int)) ∧ next58 ((IntKind.wrap .i64 (i51 + 1)), (IntKind.wrap .i64 (i52 + 1)), (List.set xs53 (i51.toNat) (rd xs53 i52)), ()))) (next58 (i51, (IntKind.wrap .i64 (i52 + 1)), xs53, ()))))) (((0 ≤ i51 ∧ i51 ≤ ((xs53.length : Nat) : Int)) ∧ ((0 ≤ i51 ∧ i51 ≤ (((List.take (i51.toNat) xs53 ++ List.replicate (xs53.length - (i51.toNat)) default).length : Nat) : Int)) ∧ Q (List.take (i51.toNat) (List.take (i51.toNat) xs53 ++ List.replicate (xs53.length - (i51.toNat)) default)))))) (r21, (IntKind.wrap .i64 (r21 + 1)), xs0, ())))
def wp.impl_firstOf_1 (x0 : Int) (xs1 : List D.Ins) (x2 : Int) (Q : Bool → Prop) : Prop :=
  (M.impl_isAfter_pre xs1 x2 x0 ∧ ∀ r21, r21 = M.impl_isAfter xs1 x2 x0 → Q (!r21))
def wp.impl_firstOf (xs0 : List D.Ins) (xs1 : List Int) (Q : Int → Prop) : Prop :=
  LoopP (σ := Int × Unit) (fun (p48 : Int × Unit) next27 => match p48 with | (i23, _) => bcase (decide (i23 < ((xs1.length : Nat) : Int))) (((0 ≤ i23 ∧ i23 < ((xs1.length : Nat) : Int)) ∧ (M.slices_ContainsFunc_int_int_pre xs1 (fun z0_ => M.impl_firstOf_1 z0_ xs0 (rd xs1 i23)) (fun z0_ => M.impl_firstOf_1_pre z0_ xs0 (rd xs1 i23)) ∧ ∀ r38, r38 = M.slices_ContainsFunc_int_int xs1 (fun z0_ => M.impl_firstOf_1 z0_ xs0 (rd xs1 i23)) → bcase (!r38) (Q (rd xs1 i23)) (next27 ((IntKind.wrap .i64 (i23 + 1)), ()))))) (Q (-1))) (0, ())
def wp.impl_FirstAfter (xs0 : List D.Ins) (x1 : Int) (Q : Int → Prop) : Prop :=
  (M.impl_AftersOf_pre xs0 x1 ∧ ∀ r23, r23 = M.impl_AftersOf xs0 x1 → (M.slices_DeleteFunc_int_int_pre r23 (fun z0_ => M.impl_FirstAfter_1 z0_ x1) (fun z0_ => M.impl_FirstAfter_1_pre z0_ x1) ∧ ∀ r30, r30 = M.slices_DeleteFunc_int_int r23 (fun z0_ => M.impl_FirstAfter_1 z0_ x1) → (M.impl_firstOf_pre xs0 r30 ∧ ∀ r37, r37 = M.impl_firstOf xs0 r30 → Q r37)))
def wp.impl_JoinOf (xs0 : List D.Ins) (x1 : Int) (Q : Int → Prop) : Prop :=
  (M.impl_isBranch_pre xs0 x1 ∧ ∀ r21, r21 = M.impl_isBranch xs0 x1 → bcase (!r21) (Q (-1)) ((M.impl_next_pre xs0 x1 ∧ ∀ r26, r26 = M.impl_next xs0 x1 → LoopP (σ := Int × Unit) (fun (p59 : Int × Unit) next37 => match p59 with | (i33, _) => bcase (decide (i33 < ((r26.length : Nat) : Int))) (((0 ≤ i33 ∧ i33 < ((r26.length : Nat) : Int)) ∧ (M.impl_reachesExit_pre xs0 (rd r26 i33) ∧ ∀ r44, r44 = M.impl_reachesExit xs0 (rd r26 i33) → bcase (!r44) (Q ((xs0.length : Nat) : Int)) (next37 ((IntKind.wrap .i64 (i33 + 1)), ()))))) ((M.impl_FirstAfter_pre xs0 x1 ∧ ∀ r53, r53 = M.impl_FirstAfter xs0 x1 → Q r53))) (0, ()))))
end Go.V
set_option linter.unusedVariables false
set_option linter.unusedSimpArgs false
set_option maxRecDepth 20000
namespace Go.V
theorem wp.cmp_isNaN_int.math (x : Int) : wp.cmp_isNaN_int x (fun r => r = M.cmp_isNaN_int x) := by simp [wp.cmp_isNaN_int, M.cmp_isNaN_int]
theorem wp.cmp_Less_int.math (x y : Int) : wp.cmp_Less_int x y (fun r => r = M.cmp_Less_int x y) := by
  intro r hr
  have : r = false := hr
  subst this
  exact bcase_f rfl rfl
theorem wp.slices_insertionSortOrdered_int.math (l : List Int) (a b : Int) (h : M.slices_insertionSortOrdered_int_pre l a b) : wp.slices_insertionSortOrdered_int l a b (fun r => r = M.slices_insertionSortOrdered_int l a b) := by
  obtain ⟨hl, rfl, rfl⟩ := h
  match l, hl with
  | [x, y], _ =>
  have w0 : IntKind.wrap .i64 ((0 : Int) + 1) = 1 := by decide +kernel
  have w1 : IntKind.wrap .i64 ((1 : Int) + 1) = 2 := by decide +kernel
  have w2 : IntKind.wrap .i64 ((1 : Int) - 1) = 0 := by decide +kernel
  unfold wp.slices_insertionSortOrdered_int
  rw [w0]
  have r1 : rd [x, y] 1 = y := rfl
  have r0 : rd [x, y] 0 = x := rfl
  -- the outer loop: one round
  refine ⟨fun m z => (m = 1 ∧ z = (1, [x, y], ())) ∨ (m = 0 ∧ z = (2, M.sort2 [x, y], ())), ⟨1, .inl ⟨rfl, rfl⟩⟩, ?_⟩
  rintro m z (⟨rfl, rfl⟩ | ⟨rfl, rfl⟩)
  · refine bcase_t rfl ?_
    refine ⟨fun m z => (m = 1 ∧ z = (1, [x, y], ())) ∨ (m = 0 ∧ z = (0, M.sort2 [x, y], ())), ⟨1, .inl ⟨rfl, rfl⟩⟩, ?_⟩
    rintro m z (⟨rfl, rfl⟩ | ⟨rfl, rfl⟩)
    · unfold JoinP
      have i1 : (0 ≤ (1 : Int) ∧ (1 : Int) < ((([x, y] : List Int).length : Nat) : Int)) := by simp
      have i0 : (0 ≤ (0 : Int) ∧ (0 : Int) < ((([x, y] : List Int).length : Nat) : Int)) := by simp
      by_cases hc : y < x
      · have hs : M.sort2 [x, y] = [y, x] := by simp [M.sort2, r1, r0, hc]
        have e1 : List.set (List.set [x, y] ((1 : Int).toNat) x) ((0 : Int).toNat) y = [y, x] := rfl
        have e2 : List.set (List.set [x, y] ((0 : Int).toNat) y) ((1 : Int).toNat) x = [y, x] := rfl
        have hd : (decide (y < x)) = true := decide_eq_true hc
        refine bcase_t rfl ?_
        simp only [w2, r1, r0, M.cmp_Less_int, forall_eq, hd, e1, e2, hs]
        have j1 : ∀ v, (0 ≤ (1 : Int) ∧ (1 : Int) < (((List.set [x, y] ((0 : Int).toNat) v).length : Nat) : Int)) := fun v => by simp
        have j0 : ∀ v, (0 ≤ (0 : Int) ∧ (0 : Int) < (((List.set [x, y] ((1 : Int).toNat) v).length : Nat) : Int)) := fun v => by simp
        simp only [i1, i0, j1, j0, true_and, and_true, and_self, bcase]
        exact ⟨0, by omega, .inr rfl⟩
      · have hs : M.sort2 [x, y] = [x, y] := by simp [M.sort2, r1, r0, hc]
        have hd : (decide (y < x)) = false := decide_eq_false hc
        refine bcase_t rfl ?_
        simp only [w2, w1, r1, r0, M.cmp_Less_int, forall_eq, hd, hs]
        simp only [i1, i0, true_and, and_true, and_self, bcase]
        exact ⟨0, by omega, .inr rfl⟩
    · unfold JoinP
      refine bcase_f rfl ?_
      rw [w1]
      have hn : ∃ m', m' < 1 ∧ ((m' = 1 ∧ ((2 : Int), M.sort2 [x, y], ()) = (1, [x, y], ())) ∨ (m' = 0 ∧ ((2 : Int), M.sort2 [x, y], ()) = (2, M.sort2 [x, y], ()))) := ⟨0, by omega, .inr ⟨rfl, rfl⟩⟩
      exact ⟨hn, hn, trivial⟩
  · exact bcase_f rfl rfl
set_option maxRecDepth 100000 in
theorem wp.math_bits_Len64.math (x : Int) (h : M.math_bits_Len64_pre x) : wp.math_bits_Len64 x (fun r => r = M.math_bits_Len64 x) := by
  have h : x = 2 := h
  subst h
  unfold wp.math_bits_Len64
  unfold JoinP
  refine bcase_f rfl (bcase_f rfl (bcase_f rfl ⟨?_, ?_⟩))
  · have : IntKind.wrap .u8 2 = 2 := by decide +kernel
    rw [this]
    exact ⟨by omega, by decide +kernel⟩
  · show _ = (2 : Int)
    decide +kernel
theorem wp.math_bits_Len.math (x : Int) (h : M.math_bits_Len_pre x) : wp.math_bits_Len x (fun r => r = M.math_bits_Len x) := ⟨h, fun r hr => by rw [hr]; rfl⟩
theorem wp.slices_pdqsortOrdered_int.math (l : List Int) (a b c : Int) (h : M.slices_pdqsortOrdered_int_pre l a b c) : wp.slices_pdqsortOrdered_int l a b c (fun r => r = M.slices_pdqsortOrdered_int l a b c) := by
  obtain ⟨hl, rfl, rfl⟩ := h
  refine loop_n 0 (fun _ => (0, 2, c, true, true, ())) (fun _ => True) rfl trivial (fun k hk _ _ _ => absurd hk (by omega)) fun _ next => ?_
  exact bcase_t (by decide +kernel) ⟨⟨hl, rfl, rfl⟩, fun r hr => by rw [hr]; rfl⟩
theorem wp.slices_Sort_int_int.math (l : List Int) (h : M.slices_Sort_int_int_pre l) : wp.slices_Sort_int_int l (fun r => r = M.slices_Sort_int_int l) := by
  have hl : l.length = 2 := h
  unfold wp.slices_Sort_int_int
  have e : ((l.length : Nat) : Int) = 2 := by omega
  rw [e]
  refine ⟨by show IntKind.wrap .u64 2 = 2; decide +kernel, fun r hr => ⟨⟨hl, rfl, rfl⟩, fun r2 hr2 => by rw [hr2]; rfl⟩⟩
theorem wp.slices_Compact_int_int.math (l : List Int) (h : M.slices_Compact_int_int_pre l) : wp.slices_Compact_int_int l (fun r => r = M.slices_Compact_int_int l) := by
  match l, h with
  | [x, y], _ =>
  have w2 : IntKind.wrap .i64 ((1 : Int) - 1) = 0 := by decide +kernel
  have w1 : IntKind.wrap .i64 ((1 : Int) + 1) = 2 := by decide +kernel
  have r1 : rd [x, y] 1 = y := rfl
  have r0 : rd [x, y] 0 = x := rfl
  refine bcase_f rfl ?_
  by_cases hc : y = x
  · have hM : M.slices_Compact_int_int [x, y] = [x] := by unfold M.slices_Compact_int_int; rw [r1, r0, if_pos hc]; rfl
    rw [hM]
    refine loop_n 0 (fun _ => (1, ())) (fun _ => True) rfl trivial (fun k hk _ _ _ => absurd hk (by omega)) fun _ next => ?_
    refine bcase_t rfl ⟨by simp, by rw [w2]; simp, ?_⟩
    rw [w2, r1, r0]
    refine bcase_t (by simpa using hc) ⟨by simp, ?_⟩
    refine loop_n 0 (fun _ => (1, 1, ())) (fun _ => True) rfl trivial (fun k hk _ _ _ => absurd hk (by omega)) fun _ next => ?_
    exact bcase_f rfl ⟨by simp, by simp, rfl⟩
  · have hM : M.slices_Compact_int_int [x, y] = [x, y] := by unfold M.slices_Compact_int_int; rw [r1, r0, if_neg hc]
    rw [hM]
    refine loop_n 1 (fun k => ((k : Int) + 1, ())) (fun _ => True) rfl trivial (fun k hk _ next hn => ?_) fun _ next => bcase_f rfl rfl
    have hk0 : k = 0 := by omega
    subst hk0
    have hn := hn trivial
    refine bcase_t rfl ⟨by simp, ?_, ?_⟩
    · show 0 ≤ IntKind.wrap .i64 ((1 : Int) - 1) ∧ IntKind.wrap .i64 ((1 : Int) - 1) < ((([x, y] : List Int).length : Nat) : Int)
      rw [w2]; simp
    · show bcase (rd [x, y] 1 == rd [x, y] (IntKind.wrap .i64 ((1 : Int) - 1))) _ _
      rw [w2, r1, r0]
      refine bcase_f (by simpa using hc) ?_
      show next (IntKind.wrap .i64 ((1 : Int) + 1), ())
      rw [w1]; exact hn
theorem sort_compact (a b : Int) : M.slices_Compact_int_int (M.slices_Sort_int_int [a, b]) = M.putTwo b a ∧ (M.slices_Sort_int_int [a, b]).length = 2 := by
  have r1 : rd [a, b] 1 = b := rfl
  have r0 : rd [a, b] 0 = a := rfl
  have s1 : rd [b, a] 1 = a := rfl
  have s0 : rd [b, a] 0 = b := rfl
  simp only [M.slices_Compact_int_int, M.slices_Sort_int_int, M.sort2, M.putTwo, r1, r0]
  by_cases h1 : b < a
  · rw [if_pos h1, s1, s0, if_neg (by omega), if_neg (by omega), if_neg (by omega)]
    exact ⟨rfl, rfl⟩
  · rw [if_neg h1, r1, r0]
    by_cases h2 : b = a
    · rw [if_pos h2, if_neg (by omega), if_pos h2.symm]; exact ⟨by rw [h2]; rfl, rfl⟩
    · rw [if_neg h2, if_pos (by omega)]; exact ⟨rfl, rfl⟩
theorem wp.impl_next.math (p : List D.Ins) (k : Int) (h : M.impl_next_pre p k) : wp.impl_next p k (fun r => r = M.impl_next p k) := by
  obtain ⟨hp, h0, h1⟩ := h
  have h32 := progLen hp
  have hw : IntKind.wrap .i64 (k + 1) = k + 1 := w64 (by omega) (by omega)
  unfold wp.impl_next
  rw [hw]
  refine bcase_mk (fun e => ?_) fun e => ?_
  · have e : k = p.length := by simpa using e
    simp [M.impl_next, M.nextOf, e]
  have e : ¬ k = p.length := by simpa using e
  refine ⟨by omega, bcase_mk (fun e1 => ?_) fun e1 => bcase_mk (fun e2 => ?_) fun e2 => bcase_mk (fun e3 => ⟨rfl, fun r hr => ?_⟩) fun e3 => ?_⟩
  all_goals simp only [M.impl_next, M.nextOf]
  all_goals rw [if_neg e]
  · rw [if_pos (by simpa using e1)]
  · rw [if_neg (by simpa using e1), if_pos (by simpa using e2)]
  · rw [if_neg (by simpa using e1), if_neg (by simpa using e2), if_pos (by simpa using e3)]
    have hsc := sort_compact (rd p k).B (k + 1)
    subst hr
    exact ⟨hsc.2, fun r2 hr2 => by rw [hr2]; exact hsc.1⟩
  · rw [if_neg (by simpa using e1), if_neg (by simpa using e2), if_neg (by simpa using e3)]
theorem next_two {p : List D.Ins} (hp : M.programOk p = true) {k : Nat} (hk : k < p.length) : ((((M.nextOf p (k : Int)).length : Nat) : Int) == 2) = M.isBr p (k : Int) := by
  have hne : ¬ (k : Int) = p.length := by omega
  unfold M.nextOf M.isBr
  rw [if_neg hne]
  by_cases h12 : (rd p (k : Int)).Op = 12
  · rw [if_pos h12, h12]; rfl
  rw [if_neg h12]
  by_cases h11 : (rd p (k : Int)).Op = 11
  · rw [if_pos h11, h11]; rfl
  rw [if_neg h11]
  by_cases h10 : (rd p (k : Int)).Op = 10
  · rw [if_pos h10, h10]
    unfold M.putTwo
    by_cases h1 : (rd p (k : Int)).B < (k : Int) + 1
    · rw [if_pos h1]
      have : ((rd p (k : Int)).B != (k : Int) + 1) = true := by simp; omega
      rw [this]; rfl
    rw [if_neg h1]
    by_cases h2 : (rd p (k : Int)).B = (k : Int) + 1
    · rw [if_pos h2]
      have : ((rd p (k : Int)).B != (k : Int) + 1) = false := by simp [h2]
      rw [this]; rfl
    · rw [if_neg h2]
      have : ((rd p (k : Int)).B != (k : Int) + 1) = true := by simpa using h2
      rw [this]; rfl
  · rw [if_neg h10]
    have : ((rd p (k : Int)).Op == 10) = false := by simpa using h10
    rw [this]; rfl
theorem wp.impl_BranchesOf.math (p : List D.Ins) (h : M.impl_BranchesOf_pre p) : wp.impl_BranchesOf p (fun r => r = M.impl_BranchesOf p) := by
  have hs : p.length ≤ 2097152 := h
  refine ⟨small_longP h, fun r hr => bcase_mk (fun e => ?_) fun e => ?_⟩
  · have := nt e (show r = M.programOk p from hr)
    simp [M.impl_BranchesOf, M.branches, this]
  have hp := nf e (show r = M.programOk p from hr)
  have hM : M.impl_BranchesOf p = M.idx (M.isBr p) p.length := by simp [M.impl_BranchesOf, M.branches, hp]
  rw [hM]
  refine idx_loop (fun k xs next hk hxs hle h1 h2 => ?_) fun next => bcase_f (by simp) rfl
  refine bcase_t (by simp; omega) ⟨⟨hp, by omega, by omega⟩, fun r2 hr2 => ?_⟩
  have hr2' : r2 = M.nextOf p (k : Int) := hr2
  rw [hr2', next_two hp hk, up64 hk (by omega)]
  exact bcase_mk (fun e2 => ⟨by simp; omega, h1 e2⟩) fun e2 => h2 e2
theorem wp.impl_isBranch.math (p : List D.Ins) (b : Int) (h : M.impl_isBranch_pre p b) : wp.impl_isBranch p b (fun r => r = M.impl_isBranch p b) := by
  have hs : p.length ≤ 2097152 := h
  have hbl := branches_len p
  exact ⟨h, fun r hr => ⟨by rw [hr]; show (M.branches p).length ≤ 9223372036854775807; omega, fun r2 hr2 => by rw [hr2, hr]; rfl⟩⟩
theorem wp.impl_reached.math (p : List D.Ins) (l : List Int) (wo : Int) (h : M.impl_reached_pre p l wo) : wp.impl_reached p l wo (fun r => r = M.impl_reached p l wo) := by
  have hp := h.1
  have h32 := progLen hp
  have h4 := h.2.2
  unfold wp.impl_reached
  rw [repl_eq hp, small64 (prog_small hp)]
  refine ⟨by omega, by show l.length ≤ 17179869184; omega, fun r hr => ?_⟩
  have hr' : r = l := hr
  subst hr'
  refine bfs_loop (wo := wo) (I := fun _ => True) h (seen0_len _) trivial (R := M.impl_reached p r wo) rfl (by rw [seen0_falses]; omega) (fun k rest seen next hk hl _ hc hn => ?_) (fun k rest seen next hk hl _ h1 h2 _ h5 hn => ?_) fun next _ => bcase_f rfl rfl
  · obtain ⟨f1, f2, f3, f4, f5⟩ := cons_facts (k := k) (rest := rest)
    refine bcase_t f5 ⟨f3, f4, ?_⟩
    rw [f1, f2]
    refine bcase_mk (fun _ => hn) fun e1 => ⟨node_seen hk hl, bcase_t (hc.resolve_left (by simpa using e1)) hn⟩
  · obtain ⟨f1, f2, f3, f4, f5⟩ := cons_facts (k := k) (rest := rest)
    refine bcase_t f5 ⟨f3, f4, ?_⟩
    rw [f1, f2]
    refine bcase_f (by simpa using h1) ⟨node_seen hk hl, bcase_f h2 ⟨node_seen hk hl, hk, fun r hr => ?_⟩⟩
    have hr' : r = M.nextOf p k := hr
    rw [hr']
    exact ⟨h5, hn trivial⟩
theorem exit_in (p : List D.Ins) (l : List Int) (wo : Int) : (0 ≤ ((p.length : Nat) : Int) ∧ ((p.length : Nat) : Int) < (((M.reached p l wo).length : Nat) : Int)) := by rw [reached_len]; omega
theorem wp.impl_reachesExit.math (p : List D.Ins) (k : Int) (h : M.impl_reachesExit_pre p k) : wp.impl_reachesExit p k (fun r => r = M.impl_reachesExit p k) :=
  ⟨start1 h, fun r hr => by rw [hr]; exact ⟨exit_in _ _ _, rfl⟩⟩
theorem wp.impl_isNode.math (p : List D.Ins) (k : Int) (h : M.impl_isNode_pre p k) : wp.impl_isNode p k (fun r => r = M.impl_isNode p k) := by
  refine ⟨small_longP h, fun r hr => bcase_mk (fun e r2 hr2 => ?_) fun e => ?_⟩
  all_goals have hr' : r = M.programOk p := hr
  · rw [hr2]; simp [M.impl_isNode, M.isNode, ← hr', e, M.impl_within]
  · simp [M.impl_isNode, M.isNode, ← hr', e]
theorem wp.impl_isAfter.math (p : List D.Ins) (k later : Int) (h : M.impl_isAfter_pre p k later) : wp.impl_isAfter p k later (fun r => r = M.impl_isAfter p k later) := by
  refine ⟨h, fun r hr => bcase_mk (fun e => ⟨start1 h, fun r2 hr2 => ?_⟩) fun e => ?_⟩
  all_goals have hr' : r = M.exitB p k := hr
  · rw [hr2]
    refine ⟨exit_in _ _ _, ?_⟩
    simp only [M.impl_isAfter, ← hr', e, Bool.true_and]; rfl
  · simp [M.impl_isAfter, ← hr', e]
theorem wp.impl_IsAfter.math (p : List D.Ins) (k later : Int) (h : M.impl_IsAfter_pre p k later) : wp.impl_IsAfter p k later (fun r => r = M.impl_IsAfter p k later) := by
  refine ⟨h, fun r hr => bcase_mk (fun e => ⟨h, fun r2 hr2 => bcase_mk (fun e2 => ?_) fun e2 => ?_⟩) fun e => ?_⟩
  all_goals have hr' : r = M.isNode p k := hr
  · have hr2' : r2 = M.isNode p later := hr2
    refine ⟨isNode_iff.1 (hr'.symm.trans e), fun r3 hr3 => ?_⟩
    rw [hr3]; simp [M.impl_IsAfter, ← hr', e, ← hr2', e2, M.impl_isAfter]
  · have hr2' : r2 = M.isNode p later := hr2
    simp [M.impl_IsAfter, ← hr2', e2]
  · simp [M.impl_IsAfter, ← hr', e]
theorem wp.impl_AftersOf.math (p : List D.Ins) (k : Int) (h : M.impl_AftersOf_pre p k) : wp.impl_AftersOf p k (fun r => r = M.impl_AftersOf p k) := by
  have hs : p.length ≤ 2097152 := h
  unfold wp.impl_AftersOf
  rw [small64 h]
  by_cases hc : (M.isNode p k && M.exitB p k) = true
  · have hN : M.Node p k := isNode_iff.1 (by simp only [Bool.and_eq_true] at hc; exact hc.1)
    have hM : M.impl_AftersOf p k = M.idx (M.afterB p k) (p.length + 1) := by simp only [M.impl_AftersOf, M.aftersOf, hc, if_true]
    rw [hM]
    refine idx_loop (fun j xs next hj hxs hle h1 h2 => ?_) fun next => bcase_f (by simp) rfl
    have hj2 : M.isNode p (j : Int) = true := isNode_iff.2 ⟨hN.1, by omega, by omega⟩
    simp only [Bool.and_eq_true] at hc
    have hv : M.impl_IsAfter p k (j : Int) = M.afterB p k (j : Int) := by simp only [M.impl_IsAfter, hc.1, hc.2, hj2, Bool.true_and]
    refine bcase_t (by simp; omega) ⟨h, fun r2 hr2 => ?_⟩
    rw [hr2, hv, up64 (n := p.length + 1) hj (by omega)]
    exact bcase_mk (fun e2 => ⟨by simp; omega, h1 e2⟩) fun e2 => h2 e2
  · have hc : (M.isNode p k && M.exitB p k) = false := by simpa using hc
    have hM : M.impl_AftersOf p k = [] := by simp only [M.impl_AftersOf, M.aftersOf, hc]; rfl
    rw [hM]
    refine loop_n (p.length + 1) (fun j => ([], (j : Int), ())) (fun _ => True) rfl trivial (fun j hj _ next hn => ?_) fun _ next => bcase_f (by simp) rfl
    have hv : M.impl_IsAfter p k (j : Int) = false := by
      cases h1 : M.isNode p k with
      | false => simp [M.impl_IsAfter, h1]
      | true =>
        rw [h1, Bool.true_and] at hc
        simp [M.impl_IsAfter, hc]
    refine bcase_t (by simp; omega) ⟨h, fun r2 hr2 => ?_⟩
    rw [hr2, hv, up64 (n := p.length + 1) hj (by omega)]
    exact bcase_f rfl (hn trivial)
theorem wp.impl_FirstAfter_1.math (x k : Int) (h : M.impl_FirstAfter_1_pre x k) : wp.impl_FirstAfter_1 x k (fun r => r = M.impl_FirstAfter_1 x k) := rfl
theorem firstIx_spec (g : Int → Bool) : ∀ (l : List Int) (i : Nat), (M.firstIx g l i = -1 ∧ l.all (fun x => !g x) = true) ∨ ∃ k : Nat, k < l.length ∧ M.firstIx g l i = ((i + k : Nat) : Int) ∧ (l.take k).all (fun x => !g x) = true ∧ g (rd l (k : Int)) = true
  | [], i => .inl ⟨rfl, rfl⟩
  | x :: l, i => by
    unfold M.firstIx
    by_cases hx : g x = true
    · rw [if_pos hx]
      exact .inr ⟨0, by simp, by simp, by simp, hx⟩
    · rw [if_neg hx]
      rcases firstIx_spec g l (i + 1) with ⟨h1, h2⟩ | ⟨k, hk, h1, h2, h3⟩
      · exact .inl ⟨h1, by simp [hx]; simpa using h2⟩
      · refine .inr ⟨k + 1, by simp; omega, by rw [h1]; congr 1; omega, ?_, ?_⟩
        · rw [List.take_succ_cons, List.all_cons, h2]; simp [hx]
        · rw [rd_nat (by simp; omega)]; rw [rd_nat hk] at h3; exact h3
theorem filter_id {l : List Int} {g : Int → Bool} (h : l.all g = true) : l.filter g = l := List.filter_eq_self.2 (List.all_eq_true.1 h)
theorem wp.slices_DeleteFunc_int_int.math (l : List Int) (g : Int → Bool) (D : Int → Prop) (h : M.slices_DeleteFunc_int_int_pre l g D) : wp.slices_DeleteFunc_int_int l g D (fun r => r = M.slices_DeleteFunc_int_int l g) := by
  obtain ⟨hl, hD⟩ := h
  have hl' : l.length ≤ 9223372036854775807 := hl
  refine ⟨⟨hl, hD⟩, fun r hr => ?_⟩
  have hr' : r = M.firstIx g l 0 := hr
  rcases firstIx_spec g l 0 with ⟨h1, h2⟩ | ⟨k, hk, h1, h2, h3⟩
  · rw [hr', h1]
    exact bcase_t rfl (by show l = l.filter _; exact (filter_id h2).symm)
  rw [hr', h1, Nat.zero_add]
  refine bcase_f (by simp) ?_
  rw [up64 hk hl']
  let G : Nat → List Int := fun j => (l.take j).filter fun x => !g x
  have hG : ∀ j, j < l.length → G (j + 1) = if (!g (rd l (j : Int))) = true then G j ++ [rd l (j : Int)] else G j := fun j hj => filter_take hj
  have hGl : ∀ j, j ≤ l.length → (G j).length ≤ j := fun j hj => by
    have := List.length_filter_le (fun x => !g x) (l.take j)
    have h2 : (l.take j).length ≤ j := by simp; omega
    exact Nat.le_trans this h2
  have hGk : G (k + 1) = G k ∧ (G k).length = k := by
    refine ⟨by rw [hG k hk, if_neg (by rw [h3]; simp)], ?_⟩
    show ((l.take k).filter fun x => !g x).length = k
    rw [filter_id h2]; simp; omega
  refine ⟨fun m z => ∃ (j : Nat) (xs : List Int), z = (((G j).length : Int), (j : Int), xs, ()) ∧ m = l.length - j ∧ k < j ∧ j ≤ l.length ∧ (G j).length < j ∧ xs.length = l.length ∧ xs.take (G j).length = G j ∧ xs.drop j = l.drop j,
    ⟨_, k + 1, l, by rw [hGk.1, hGk.2], rfl, by omega, by omega, by rw [hGk.1, hGk.2]; omega, rfl, by rw [hGk.1]; rw [hGk.2]; exact (filter_id h2).symm, rfl⟩, ?_⟩
  rintro m z ⟨j, xs, rfl, rfl, hkj, hjl, hgj, hxl, hx1, hx2⟩
  have hget : j < l.length → rd xs (j : Int) = rd l (j : Int) := fun hj => by
    rw [rd_nat (by omega), rd_nat hj]
    have := congrArg (fun q => q[0]?) hx2
    simp only [List.getElem?_drop, Nat.add_zero] at this
    rw [List.getElem?_eq_getElem (by omega), List.getElem?_eq_getElem hj] at this
    exact Option.some.inj this
  by_cases hj : j < l.length
  · refine bcase_t (by simp; omega) ⟨by omega, ?_⟩
    have hGj := hG j hj
    have hgl : (G j).length < xs.length := by omega
    have hd2 : (xs.set (G j).length (rd l (j : Int))).drop (j + 1) = l.drop (j + 1) := by
      rw [List.drop_set_of_lt (by omega)]
      have := congrArg (fun q => q.drop 1) hx2
      simpa [List.drop_drop, Nat.add_comm] using this
    have hd1 : xs.drop (j + 1) = l.drop (j + 1) := by
      have := congrArg (fun q => q.drop 1) hx2
      simpa [List.drop_drop, Nat.add_comm] using this
    show D (rd xs (j : Int)) ∧ _
    dsimp only
    rw [hget hj]
    refine ⟨hD _ (rd_mem hj), fun r2 hr2 => bcase_mk (fun e => ⟨⟨by omega, by omega⟩, ?_⟩) fun e => ?_⟩
    · have e : (!g (rd l (j : Int))) = true := by rw [← hr2]; exact e
      rw [if_pos e] at hGj
      have hlen : (G (j + 1)).length = (G j).length + 1 := by rw [hGj]; simp
      refine ⟨l.length - (j + 1), by omega, j + 1, xs.set (G j).length (rd l (j : Int)), ?_, rfl, by omega, by omega, by omega, by simpa using hxl, ?_, hd2⟩
      · rw [up64 (n := l.length) (k := (G j).length) (by omega) hl', up64 hj hl', hlen]; rfl
      · rw [hlen, hGj, List.take_add_one, List.getElem?_set_self (by omega), List.take_set_of_le (Nat.le_refl _), hx1]; rfl
    · have e : ¬ (!g (rd l (j : Int))) = true := by rw [← hr2, e]; simp
      rw [if_neg e] at hGj
      refine ⟨l.length - (j + 1), by omega, j + 1, xs, ?_, rfl, by omega, by omega, by rw [hGj]; omega, hxl, by rw [hGj]; exact hx1, hd1⟩
      rw [up64 hj hl', hGj]
  · have hje : j = l.length := by omega
    have hGl : G l.length = l.filter fun x => !g x := by show (l.take l.length).filter _ = _; rw [List.take_length]
    refine bcase_f (by simp; omega) ⟨by omega, by simp; omega, ?_⟩
    show _ = l.filter _
    rw [← hGl, ← hje]
    have : (((G j).length : Int)).toNat = (G j).length := by simp
    rw [this, List.take_append_of_le_length (by simp; omega), List.take_take, Nat.min_self, hx1]
theorem wp.impl_firstOf_1.math (z : Int) (p : List D.Ins) (x : Int) (h : M.impl_firstOf_1_pre z p x) : wp.impl_firstOf_1 z p x (fun r => r = M.impl_firstOf_1 z p x) := ⟨h, fun r hr => by rw [hr]; rfl⟩
theorem firstI_from (p : List D.Ins) (all l : List Int) (k : Nat) (hk : k < l.length) : M.firstI p all (l.drop k) = if all.all (fun z => M.exitB p (rd l (k : Int)) && M.afterB p (rd l (k : Int)) z) then rd l (k : Int) else M.firstI p all (l.drop (k + 1)) := by
  rw [List.drop_eq_getElem_cons hk, rd_nat hk]; rfl
theorem wp.impl_firstOf.math (p : List D.Ins) (l : List Int) (h : M.impl_firstOf_pre p l) : wp.impl_firstOf p l (fun r => r = M.impl_firstOf p l) := by
  obtain ⟨h1, h2⟩ := h
  have hl : l.length ≤ 17179869183 := h1
  refine loop_n l.length (fun k => ((k : Int), ())) (fun k => M.firstI p l l = M.firstI p l (l.drop k)) rfl rfl (fun k hk hF next hn => ?_) fun hF next => bcase_f (by simp) ?_
  · rw [firstI_from p l l k hk] at hF
    have hN := h2 _ (rd_mem hk)
    refine bcase_t (by simp; omega) ⟨by omega, ⟨by show l.length ≤ 9223372036854775807; omega, fun z hz => hN⟩, fun r hr => ?_⟩
    have hr' : r = !(l.all fun z => M.exitB p (rd l (k : Int)) && M.afterB p (rd l (k : Int)) z) := by
      rw [hr]
      simp only [M.slices_ContainsFunc_int_int, M.impl_firstOf_1]
      rw [List.all_eq_not_any_not, Bool.not_not]
    refine bcase_mk (fun e => ?_) fun e => ?_
    · have e2 := nt e hr'
      rw [if_pos (by simpa using e2)] at hF; exact hF.symm
    · have e2 := nf e hr'
      rw [if_neg (by simpa using e2)] at hF
      rw [up64 hk (by omega)]; exact hn hF
  · rw [List.drop_length] at hF; exact hF.symm
theorem first_same {p : List D.Ins} {all : List Int} : ∀ (l : List Int), (∀ x ∈ l, M.exitB p x = true) → M.firstI p all l = M.firstS p all l
  | [], _ => rfl
  | x :: l, h => by
    have hx := h x List.mem_cons_self
    unfold M.firstI M.firstS
    simp only [hx, Bool.true_and]
    rw [first_same l fun y hy => h y (List.mem_cons_of_mem _ hy)]
theorem wp.impl_FirstAfter.math (p : List D.Ins) (k : Int) (h : M.impl_FirstAfter_pre p k) : wp.impl_FirstAfter p k (fun r => r = M.impl_FirstAfter p k) := by
  have h1 := afters_len p k
  have hs : p.length ≤ 2097152 := h
  refine ⟨h, fun r hr => ⟨⟨?_, fun _ _ => trivial⟩, fun r2 hr2 => ?_⟩⟩
  · rw [hr]; show (M.aftersOf p k).length ≤ 9223372036854775807; omega
  have hr2' : r2 = M.others (M.aftersOf p k) k := by rw [hr2, hr]; rfl
  refine ⟨by rw [hr2']; exact afters_ok h k, fun r3 hr3 => ?_⟩
  rw [hr3, hr2']
  exact first_same _ fun x hx => by
    obtain ⟨a, b, c, d⟩ := afters_nodes hx
    exact after_exits b a.2 c d
theorem wp.impl_JoinOf.math (p : List D.Ins) (b : Int) (h : M.impl_JoinOf_pre p b) : wp.impl_JoinOf p b (fun r => r = M.impl_JoinOf p b) := by
  refine ⟨h, fun r hr => bcase_mk (fun e => ?_) fun e => ?_⟩
  · have := nt e (show r = M.has (M.branches p) b from hr)
    simp [M.impl_JoinOf, M.joinOf, this]
  have e := nf e (show r = M.has (M.branches p) b from hr)
  have hB := branch_of e
  obtain ⟨n1, n2, n3, n4⟩ := br_in hB
  have hM : M.impl_JoinOf p b = M.joinB p b := by simp only [M.impl_JoinOf, M.joinOf, e, if_true]
  rw [hM]
  refine ⟨n3, fun r2 hr2 => ?_⟩
  have hnx : M.nextOf p b = M.putTwo (b + 1) (rd p b).B := by
    have hb := hB.2.2.2
    simp only [M.isBr, Bool.and_eq_true, beq_iff_eq] at hb
    have := hB.2.2.1
    unfold M.nextOf
    rw [if_neg (by omega), if_neg (by omega), if_neg (by omega), if_pos hb.1]
  have hr2' : r2 = M.putTwo (b + 1) (rd p b).B := by rw [hr2]; exact hnx
  have hlen := putTwo_len (b + 1) (rd p b).B
  rw [← hr2'] at hlen
  have hmem : ∀ x, x ∈ r2 ↔ x = b + 1 ∨ x = (rd p b).B := fun x => by rw [hr2']; exact putTwo_mem
  clear hr2 hr2' hnx
  have hall : r2.all (M.exitB p) = (M.exitB p (b + 1) && M.exitB p (rd p b).B) := by
    rw [Bool.eq_iff_iff, List.all_eq_true, Bool.and_eq_true]
    constructor
    · exact fun hh => ⟨hh _ ((hmem _).2 (.inl rfl)), hh _ ((hmem _).2 (.inr rfl))⟩
    · rintro ⟨a1, a2⟩ x hx
      rcases (hmem x).1 hx with rfl | rfl
      · exact a1
      · exact a2
  have hnode : ∀ x ∈ r2, M.Node p x := fun x hx => by rcases (hmem x).1 hx with rfl | rfl; exact n1; exact n2
  refine loop_n r2.length (fun k => ((k : Int), ())) (fun k => (r2.take k).all (M.exitB p) = true) rfl (by simp) (fun k hk hF next hn => ?_) fun hF next => ?_
  · refine bcase_t (by simp; omega) ⟨by omega, hnode _ (rd_mem hk), fun r3 hr3 => bcase_mk (fun e3 => ?_) fun e3 => ?_⟩
    · have e3 := nt e3 (show r3 = M.exitB p (rd r2 (k : Int)) from hr3)
      have := all_false (g := M.exitB p) hk e3
      rw [hall] at this
      show _ = M.joinB p b
      simp [M.joinB, this]
    · have e3 := nf e3 (show r3 = M.exitB p (rd r2 (k : Int)) from hr3)
      rw [up64 hk (by omega)]
      rw [rd_nat hk] at e3
      exact hn (take_all_succ hk hF e3)
  · refine bcase_f (by simp) ⟨h, fun r3 hr3 => ?_⟩
    rw [List.take_length, hall] at hF
    rw [hr3]
    show _ = M.joinB p b
    simp [M.joinB, hF, M.impl_FirstAfter]
end Go.V
set_option linter.unusedVariables false
namespace Go.V
def wp.impl_WarpOk (xs0 : List D.Ins) (s1 : D.Warp) (Q : Bool → Prop) : Prop :=
  (M.impl_ProgramOk_pre xs0 ∧ ∀ r23, r23 = M.impl_ProgramOk xs0 → bcase r23 ((M.impl_isWarpOf_pre xs0 s1 ∧ ∀ r28, r28 = M.impl_isWarpOf xs0 s1 → Q r28)) (Q false))
def wp.impl_Warp_separate (s0 : D.Warp) (xs1 : List D.Ins) (Q : (Bool × D.Warp) → Prop) : Prop :=
  bcase (decide ((IntKind.wrap .i64 (((s0.Frames.length : Nat) : Int) + 2)) > 24)) (Q (false, (⟨s0.Number, s0.Frames, s0.Regs⟩ : D.Warp))) (((0 ≤ (IntKind.wrap .i64 (((s0.Frames.length : Nat) : Int) - 1)) ∧ (IntKind.wrap .i64 (((s0.Frames.length : Nat) : Int) - 1)) < ((s0.Frames.length : Nat) : Int)) ∧ ((0 ≤ (rd s0.Frames (IntKind.wrap .i64 (((s0.Frames.length : Nat) : Int) - 1))).Pc ∧ (rd s0.Frames (IntKind.wrap .i64 (((s0.Frames.length : Nat) : Int) - 1))).Pc < ((xs1.length : Nat) : Int)) ∧ (M.impl_Warp_zeroMask_pre s0 ((rd xs1 ((rd s0.Frames (IntKind.wrap .i64 (((s0.Frames.length : Nat) : Int) - 1))).Pc)).A) ∧ ∀ r36, r36 = M.impl_Warp_zeroMask s0 ((rd xs1 ((rd s0.Frames (IntKind.wrap .i64 (((s0.Frames.length : Nat) : Int) - 1))).Pc)).A) → (M.impl_JoinOf_pre xs1 ((rd s0.Frames (IntKind.wrap .i64 (((s0.Frames.length : Nat) : Int) - 1))).Pc) ∧ ∀ r41, r41 = M.impl_JoinOf xs1 ((rd s0.Frames (IntKind.wrap .i64 (((s0.Frames.length : Nat) : Int) - 1))).Pc) → ((0 ≤ (rd s0.Frames (IntKind.wrap .i64 (((s0.Frames.length : Nat) : Int) - 1))).Pc ∧ (rd s0.Frames (IntKind.wrap .i64 (((s0.Frames.length : Nat) : Int) - 1))).Pc < ((xs1.length : Nat) : Int)) ∧ (((((List.set s0.Frames ((IntKind.wrap .i64 (((s0.Frames.length : Nat) : Int) - 1)).toNat) (⟨r41, (rd s0.Frames (IntKind.wrap .i64 (((s0.Frames.length : Nat) : Int) - 1))).Stop, (rd s0.Frames (IntKind.wrap .i64 (((s0.Frames.length : Nat) : Int) - 1))).Mask⟩ : D.Frame)).length + ([(⟨(IntKind.wrap .i64 ((rd s0.Frames (IntKind.wrap .i64 (((s0.Frames.length : Nat) : Int) - 1))).Pc + 1)), r41, (bitNot .i64 ((rd s0.Frames (IntKind.wrap .i64 (((s0.Frames.length : Nat) : Int) - 1))).Mask) r36)⟩ : D.Frame), (⟨(rd xs1 ((rd s0.Frames (IntKind.wrap .i64 (((s0.Frames.length : Nat) : Int) - 1))).Pc)).B, r41, r36⟩ : D.Frame)] : List D.Frame).length ≤ 17179869184) ∧ Q (true, (⟨s0.Number, ((List.set s0.Frames ((IntKind.wrap .i64 (((s0.Frames.length : Nat) : Int) - 1)).toNat) (⟨r41, (rd s0.Frames (IntKind.wrap .i64 (((s0.Frames.length : Nat) : Int) - 1))).Stop, (rd s0.Frames (IntKind.wrap .i64 (((s0.Frames.length : Nat) : Int) - 1))).Mask⟩ : D.Frame)) ++ ([(⟨(IntKind.wrap .i64 ((rd s0.Frames (IntKind.wrap .i64 (((s0.Frames.length : Nat) : Int) - 1))).Pc + 1)), r41, (bitNot .i64 ((rd s0.Frames (IntKind.wrap .i64 (((s0.Frames.length : Nat) : Int) - 1))).Mask) r36)⟩ : D.Frame), (⟨(rd xs1 ((rd s0.Frames (IntKind.wrap .i64 (((s0.Frames.length : Nat) : Int) - 1))).Pc)).B, r41, r36⟩ : D.Frame)] : List D.Frame)), s0.Regs⟩ : D.Warp)))) ∧ ((((((List.set s0.Frames ((IntKind.wrap .i64 (((s0.Frames.length : Nat) : Int) - 1)).toNat) (⟨r41, (rd s0.Frames (IntKind.wrap .i64 (((s0.Frames.length : Nat) : Int) - 1))).Stop, (rd s0.Frames (IntKind.wrap .i64 (((s0.Frames.length : Nat) : Int) - 1))).Mask⟩ : D.Frame)).length + ([(⟨(IntKind.wrap .i64 ((rd s0.Frames (IntKind.wrap .i64 (((s0.Frames.length : Nat) : Int) - 1))).Pc + 1)), r41, (bitNot .i64 ((rd s0.Frames (IntKind.wrap .i64 (((s0.Frames.length : Nat) : Int) - 1))).Mask) r36)⟩ : D.Frame), (⟨(rd xs1 ((rd s0.Frames (IntKind.wrap .i64 (((s0.Frames.length : Nat) : Int) - 1))).Pc)).B, r41, r36⟩ : D.Frame)] : List D.Frame).length ≤ 17179869184) ∧ Q (true, (⟨s0.Number, ((List.set s0.Frames ((IntKind.wrap .i64 (((s0.Frames.length : Nat) : Int) - 1)).toNat) (⟨r41, (rd s0.Frames (IntKind.wrap .i64 (((s0.Frames.length : Nat) : Int) - 1))).Stop, (rd s0.Frames (IntKind.wrap .i64 (((s0.Frames.length : Nat) : Int) - 1))).Mask⟩ : D.Frame)) ++ ([(⟨(IntKind.wrap .i64 ((rd s0.Frames (IntKind.wrap .i64 (((s0.Frames.length : Nat) : Int) - 1))).Pc + 1)), r41, (bitNot .i64 ((rd s0.Frames (IntKind.wrap .i64 (((s0.Frames.length : Nat) : Int) - 1))).Mask) r36)⟩ : D.Frame), (⟨(rd xs1 ((rd s0.Frames (IntKind.wrap .i64 (((s0.Frames.length : Nat) : Int) - 1))).Pc)).B, r41, r36⟩ : D.Frame)] : List D.Frame)), s0.Regs⟩ : D.Warp)))) ∧ ((((List.set s0.Frames ((IntKind.wrap .i64 (((s0.Frames.length : Nat) : Int) - 1)).toNat) (⟨r41, (rd s0.Frames (IntKind.wrap .i64 (((s0.Frames.length : Nat) : Int) - 1))).Stop, (rd s0.Frames (IntKind.wrap .i64 (((s0.Frames.length : Nat) : Int) - 1))).Mask⟩ : D.Frame)).length + ([(⟨(IntKind.wrap .i64 ((rd s0.Frames (IntKind.wrap .i64 (((s0.Frames.length : Nat) : Int) - 1))).Pc + 1)), r41, (bitNot .i64 ((rd s0.Frames (IntKind.wrap .i64 (((s0.Frames.length : Nat) : Int) - 1))).Mask) r36)⟩ : D.Frame), (⟨(rd xs1 ((rd s0.Frames (IntKind.wrap .i64 (((s0.Frames.length : Nat) : Int) - 1))).Pc)).B, r41, r36⟩ : D.Frame)] : List D.Frame).length ≤ 17179869184) ∧ Q (true, (⟨s0.Number, ((List.set s0.Frames ((IntKind.wrap .i64 (((s0.Frames.length : Nat) : Int) - 1)).toNat) (⟨r41, (rd s0.Frames (IntKind.wrap .i64 (((s0.Frames.length : Nat) : Int) - 1))).Stop, (rd s0.Frames (IntKind.wrap .i64 (((s0.Frames.length : Nat) : Int) - 1))).Mask⟩ : D.Frame)) ++ ([(⟨(IntKind.wrap .i64 ((rd s0.Frames (IntKind.wrap .i64 (((s0.Frames.length : Nat) : Int) - 1))).Pc + 1)), r41, (bitNot .i64 ((rd s0.Frames (IntKind.wrap .i64 (((s0.Frames.length : Nat) : Int) - 1))).Mask) r36)⟩ : D.Frame), (⟨(rd xs1 ((rd s0.Frames (IntKind.wrap .i64 (((s0.Frames.length : Nat) : Int) - 1))).Pc)).B, r41, r36⟩ : D.Frame)] : List D.Frame)), s0.Regs⟩ : D.Warp)))) ∧ True)) ∧ True)))))))
def wp.impl_apply_v (s0 : D.Ins) (x1 : Int) (xs2 : List Int) (lo2 hi2 : Nat) (Q : ((List Int)) → Prop) : Prop :=
  bcase (s0.Op == 1) (((0 ≤ s0.A ∧ s0.A < (((List.drop lo2 (List.take hi2 xs2)).length : Nat) : Int)) ∧ Q (List.set xs2 (lo2 + (s0.A.toNat)) s0.B))) (bcase (s0.Op == 2) (((0 ≤ s0.B ∧ s0.B < (((List.drop lo2 (List.take hi2 xs2)).length : Nat) : Int)) ∧ ((0 ≤ s0.A ∧ s0.A < (((List.drop lo2 (List.take hi2 xs2)).length : Nat) : Int)) ∧ Q (List.set xs2 (lo2 + (s0.A.toNat)) (rd (List.drop lo2 (List.take hi2 xs2)) s0.B))))) (bcase (s0.Op == 3) (((0 ≤ s0.B ∧ s0.B < (((List.drop lo2 (List.take hi2 xs2)).length : Nat) : Int)) ∧ ((0 ≤ s0.C ∧ s0.C < (((List.drop lo2 (List.take hi2 xs2)).length : Nat) : Int)) ∧ (∀ r82, r82 = M.impl_AddWords (rd (List.drop lo2 (List.take hi2 xs2)) s0.B) (rd (List.drop lo2 (List.take hi2 xs2)) s0.C) → ((0 ≤ s0.A ∧ s0.A < (((List.drop lo2 (List.take hi2 xs2)).length : Nat) : Int)) ∧ Q (List.set xs2 (lo2 + (s0.A.toNat)) r82)))))) (bcase (s0.Op == 4) (((0 ≤ s0.B ∧ s0.B < (((List.drop lo2 (List.take hi2 xs2)).length : Nat) : Int)) ∧ ((0 ≤ s0.C ∧ s0.C < (((List.drop lo2 (List.take hi2 xs2)).length : Nat) : Int)) ∧ (∀ r129, r129 = M.impl_SubWords (rd (List.drop lo2 (List.take hi2 xs2)) s0.B) (rd (List.drop lo2 (List.take hi2 xs2)) s0.C) → ((0 ≤ s0.A ∧ s0.A < (((List.drop lo2 (List.take hi2 xs2)).length : Nat) : Int)) ∧ Q (List.set xs2 (lo2 + (s0.A.toNat)) r129)))))) (bcase (s0.Op == 5) (((0 ≤ s0.B ∧ s0.B < (((List.drop lo2 (List.take hi2 xs2)).length : Nat) : Int)) ∧ ((0 ≤ s0.C ∧ s0.C < (((List.drop lo2 (List.take hi2 xs2)).length : Nat) : Int)) ∧ (∀ r176, r176 = M.impl_MulWords (rd (List.drop lo2 (List.take hi2 xs2)) s0.B) (rd (List.drop lo2 (List.take hi2 xs2)) s0.C) → ((0 ≤ s0.A ∧ s0.A < (((List.drop lo2 (List.take hi2 xs2)).length : Nat) : Int)) ∧ Q (List.set xs2 (lo2 + (s0.A.toNat)) r176)))))) (bcase (s0.Op == 6) (((0 ≤ s0.B ∧ s0.B < (((List.drop lo2 (List.take hi2 xs2)).length : Nat) : Int)) ∧ ((0 ≤ s0.C ∧ s0.C < (((List.drop lo2 (List.take hi2 xs2)).length : Nat) : Int)) ∧ ((0 ≤ s0.A ∧ s0.A < (((List.drop lo2 (List.take hi2 xs2)).length : Nat) : Int)) ∧ Q (List.set xs2 (lo2 + (s0.A.toNat)) (bitXor .i64 (rd (List.drop lo2 (List.take hi2 xs2)) s0.B) (rd (List.drop lo2 (List.take hi2 xs2)) s0.C))))))) (bcase (s0.Op == 7) (((0 ≤ s0.B ∧ s0.B < (((List.drop lo2 (List.take hi2 xs2)).length : Nat) : Int)) ∧ ((0 ≤ s0.C ∧ s0.C < (((List.drop lo2 (List.take hi2 xs2)).length : Nat) : Int)) ∧ (∀ r245, r245 = M.impl_LessWords (rd (List.drop lo2 (List.take hi2 xs2)) s0.B) (rd (List.drop lo2 (List.take hi2 xs2)) s0.C) → ((0 ≤ s0.A ∧ s0.A < (((List.drop lo2 (List.take hi2 xs2)).length : Nat) : Int)) ∧ Q (List.set xs2 (lo2 + (s0.A.toNat)) r245)))))) (bcase (s0.Op == 8) (((0 ≤ s0.A ∧ s0.A < (((List.drop lo2 (List.take hi2 xs2)).length : Nat) : Int)) ∧ Q (List.set xs2 (lo2 + (s0.A.toNat)) x1))) (bcase (s0.Op == 9) (((0 ≤ s0.C ∧ s0.C < (((List.drop lo2 (List.take hi2 xs2)).length : Nat) : Int)) ∧ bcase ((rd (List.drop lo2 (List.take hi2 xs2)) s0.C) != 0) (((0 ≤ s0.B ∧ s0.B < (((List.drop lo2 (List.take hi2 xs2)).length : Nat) : Int)) ∧ ((0 ≤ s0.A ∧ s0.A < (((List.drop lo2 (List.take hi2 xs2)).length : Nat) : Int)) ∧ Q (List.set xs2 (lo2 + (s0.A.toNat)) (rd (List.drop lo2 (List.take hi2 xs2)) s0.B))))) (Q xs2))) (Q xs2)))))))))
def wp.impl_Warp_advance (s0 : D.Warp) (xs1 : List D.Ins) (Q : D.Warp → Prop) : Prop :=
  ((0 ≤ (IntKind.wrap .i64 (((s0.Frames.length : Nat) : Int) - 1)) ∧ (IntKind.wrap .i64 (((s0.Frames.length : Nat) : Int) - 1)) < ((s0.Frames.length : Nat) : Int)) ∧ ((0 ≤ (rd s0.Frames (IntKind.wrap .i64 (((s0.Frames.length : Nat) : Int) - 1))).Pc ∧ (rd s0.Frames (IntKind.wrap .i64 (((s0.Frames.length : Nat) : Int) - 1))).Pc < ((xs1.length : Nat) : Int)) ∧ (∀ r38, r38 = M.impl_LanesOf ((rd s0.Frames (IntKind.wrap .i64 (((s0.Frames.length : Nat) : Int) - 1))).Mask) → LoopP (σ := Int × (List Int) × Unit) (fun (p138 : Int × (List Int) × Unit) next81 => match p138 with | (i75, xs76, _) => bcase (decide (i75 < ((r38.length : Nat) : Int))) (((0 ≤ i75 ∧ i75 < ((r38.length : Nat) : Int)) ∧ (M.impl_Warp_lane_pre (⟨s0.Number, s0.Frames, xs76⟩ : D.Warp) (rd r38 i75) ∧ (M.impl_apply_v_pre (rd xs1 ((rd s0.Frames (IntKind.wrap .i64 (((s0.Frames.length : Nat) : Int) - 1))).Pc)) (IntKind.wrap .i64 ((IntKind.wrap .i64 (s0.Number * 8)) + (rd r38 i75))) xs76 ((IntKind.wrap .i64 ((rd r38 i75) * 4)).toNat) ((IntKind.wrap .i64 ((IntKind.wrap .i64 ((rd r38 i75) + 1)) * 4)).toNat) ∧ ∀ r101, r101 = M.impl_apply_v (rd xs1 ((rd s0.Frames (IntKind.wrap .i64 (((s0.Frames.length : Nat) : Int) - 1))).Pc)) (IntKind.wrap .i64 ((IntKind.wrap .i64 (s0.Number * 8)) + (rd r38 i75))) xs76 ((IntKind.wrap .i64 ((rd r38 i75) * 4)).toNat) ((IntKind.wrap .i64 ((IntKind.wrap .i64 ((rd r38 i75) + 1)) * 4)).toNat) → next81 ((IntKind.wrap .i64 (i75 + 1)), r101, ()))))) (bcase ((rd xs1 ((rd s0.Frames (IntKind.wrap .i64 (((s0.Frames.length : Nat) : Int) - 1))).Pc)).Op == 12) (Q (⟨s0.Number, (List.set s0.Frames ((IntKind.wrap .i64 (((s0.Frames.length : Nat) : Int) - 1)).toNat) (⟨((xs1.length : Nat) : Int), (rd s0.Frames (IntKind.wrap .i64 (((s0.Frames.length : Nat) : Int) - 1))).Stop, (rd s0.Frames (IntKind.wrap .i64 (((s0.Frames.length : Nat) : Int) - 1))).Mask⟩ : D.Frame)), xs76⟩ : D.Warp)) (JoinP (σ := Bool × Unit) (fun J114 => bcase ((rd xs1 ((rd s0.Frames (IntKind.wrap .i64 (((s0.Frames.length : Nat) : Int) - 1))).Pc)).Op == 11) (J114 (true, ())) (bcase ((rd xs1 ((rd s0.Frames (IntKind.wrap .i64 (((s0.Frames.length : Nat) : Int) - 1))).Pc)).Op == 10) ((M.impl_Warp_zeroMask_pre (⟨s0.Number, s0.Frames, xs76⟩ : D.Warp) ((rd xs1 ((rd s0.Frames (IntKind.wrap .i64 (((s0.Frames.length : Nat) : Int) - 1))).Pc)).A) ∧ ∀ r119, r119 = M.impl_Warp_zeroMask (⟨s0.Number, s0.Frames, xs76⟩ : D.Warp) ((rd xs1 ((rd s0.Frames (IntKind.wrap .i64 (((s0.Frames.length : Nat) : Int) - 1))).Pc)).A) → J114 ((r119 == (rd s0.Frames (IntKind.wrap .i64 (((s0.Frames.length : Nat) : Int) - 1))).Mask), ()))) (J114 (false, ())))) (fun (p134 : Bool × Unit) => match p134 with | (b113, _) => bcase b113 (Q (⟨s0.Number, (List.set s0.Frames ((IntKind.wrap .i64 (((s0.Frames.length : Nat) : Int) - 1)).toNat) (⟨(rd xs1 ((rd s0.Frames (IntKind.wrap .i64 (((s0.Frames.length : Nat) : Int) - 1))).Pc)).B, (rd s0.Frames (IntKind.wrap .i64 (((s0.Frames.length : Nat) : Int) - 1))).Stop, (rd s0.Frames (IntKind.wrap .i64 (((s0.Frames.length : Nat) : Int) - 1))).Mask⟩ : D.Frame)), xs76⟩ : D.Warp)) (Q (⟨s0.Number, (List.set s0.Frames ((IntKind.wrap .i64 (((s0.Frames.length : Nat) : Int) - 1)).toNat) (⟨(IntKind.wrap .i64 ((rd s0.Frames (IntKind.wrap .i64 (((s0.Frames.length : Nat) : Int) - 1))).Pc + 1)), (rd s0.Frames (IntKind.wrap .i64 (((s0.Frames.length : Nat) : Int) - 1))).Stop, (rd s0.Frames (IntKind.wrap .i64 (((s0.Frames.length : Nat) : Int) - 1))).Mask⟩ : D.Frame)), xs76⟩ : D.Warp)))))) (0, s0.Regs, ()))))
def wp.impl_Warp_drop (s0 : D.Warp) (x1 : Int) (Q : D.Warp → Prop) : Prop :=
  LoopP (σ := Int × (List D.Frame) × Unit) (fun (p111 : Int × (List D.Frame) × Unit) next77 => match p111 with | (i70, xs71, _) => bcase (decide (((xs71.length : Nat) : Int) > 0)) (((0 ≤ (IntKind.wrap .i64 (((xs71.length : Nat) : Int) - 1)) ∧ (IntKind.wrap .i64 (((xs71.length : Nat) : Int) - 1)) < ((xs71.length : Nat) : Int)) ∧ JoinP (σ := Unit) (fun J89 => bcase ((rd xs71 (IntKind.wrap .i64 (((xs71.length : Nat) : Int) - 1))).Pc != (rd xs71 (IntKind.wrap .i64 (((xs71.length : Nat) : Int) - 1))).Stop) (bcase ((rd xs71 (IntKind.wrap .i64 (((xs71.length : Nat) : Int) - 1))).Pc != x1) (Q (⟨i70, xs71, s0.Regs⟩ : D.Warp)) (J89 (()))) (J89 (()))) (fun (p108 : Unit) => match p108 with | (_) => ((((0 ≤ (IntKind.wrap .i64 (((xs71.length : Nat) : Int) - 1)) ∧ (IntKind.wrap .i64 (((xs71.length : Nat) : Int) - 1)) ≤ ((xs71.length : Nat) : Int)) ∧ next77 (i70, (List.take ((IntKind.wrap .i64 (((xs71.length : Nat) : Int) - 1)).toNat) xs71), ()))) ∧ (((0 ≤ (IntKind.wrap .i64 (((xs71.length : Nat) : Int) - 1)) ∧ (IntKind.wrap .i64 (((xs71.length : Nat) : Int) - 1)) ≤ ((xs71.length : Nat) : Int)) ∧ next77 (i70, (List.take ((IntKind.wrap .i64 (((xs71.length : Nat) : Int) - 1)).toNat) xs71), ()))) ∧ True)))) (Q (⟨i70, xs71, s0.Regs⟩ : D.Warp))) (s0.Number, s0.Frames, ())
def wp.impl_Warp_pass (s0 : D.Warp) (xs1 : List D.Ins) (Q : (Bool × D.Warp) → Prop) : Prop :=
  bcase (((s0.Frames.length : Nat) : Int) == 0) (Q (false, (⟨s0.Number, s0.Frames, s0.Regs⟩ : D.Warp))) (((0 ≤ (IntKind.wrap .i64 (((s0.Frames.length : Nat) : Int) - 1)) ∧ (IntKind.wrap .i64 (((s0.Frames.length : Nat) : Int) - 1)) < ((s0.Frames.length : Nat) : Int)) ∧ ((0 ≤ (rd s0.Frames (IntKind.wrap .i64 (((s0.Frames.length : Nat) : Int) - 1))).Pc ∧ (rd s0.Frames (IntKind.wrap .i64 (((s0.Frames.length : Nat) : Int) - 1))).Pc < ((xs1.length : Nat) : Int)) ∧ (∀ r32, r32 = M.impl_IsLocal (rd xs1 ((rd s0.Frames (IntKind.wrap .i64 (((s0.Frames.length : Nat) : Int) - 1))).Pc)) → bcase (!r32) (Q (false, (⟨s0.Number, s0.Frames, s0.Regs⟩ : D.Warp))) ((M.impl_Warp_splits_pre s0 xs1 ∧ ∀ r37, r37 = M.impl_Warp_splits s0 xs1 → bcase r37 ((M.impl_Warp_separate_pre s0 xs1 ∧ ∀ r42, r42 = M.impl_Warp_separate s0 xs1 → bcase (!r42.1) (Q (false, (⟨r42.2.Number, r42.2.Frames, s0.Regs⟩ : D.Warp))) ((M.impl_Warp_drop_pre (⟨r42.2.Number, r42.2.Frames, s0.Regs⟩ : D.Warp) ((xs1.length : Nat) : Int) ∧ ∀ r50, r50 = M.impl_Warp_drop (⟨r42.2.Number, r42.2.Frames, s0.Regs⟩ : D.Warp) ((xs1.length : Nat) : Int) → Q (true, (⟨r50.Number, r50.Frames, s0.Regs⟩ : D.Warp)))))) ((M.impl_Warp_advance_pre s0 xs1 ∧ ∀ r59, r59 = M.impl_Warp_advance s0 xs1 → (M.impl_Warp_drop_pre r59 ((xs1.length : Nat) : Int) ∧ ∀ r68, r68 = M.impl_Warp_drop r59 ((xs1.length : Nat) : Int) → Q (true, (⟨r68.Number, r68.Frames, r59.Regs⟩ : D.Warp)))))))))))
def wp.impl_RunWarp (xs0 : List D.Ins) (s1 : D.Warp) (x2 : Int) (Q : (D.Warp × Int) → Prop) : Prop :=
  (M.impl_copyWarp_pre s1 ∧ ∀ r25, r25 = M.impl_copyWarp s1 → (M.impl_IsQuiet_pre xs0 ∧ ∀ r38, r38 = M.impl_IsQuiet xs0 → bcase (!r38) (Q ((⟨r25.Number, r25.Frames, r25.Regs⟩ : D.Warp), (-1))) ((M.impl_WarpOk_pre xs0 s1 ∧ ∀ r45, r45 = M.impl_WarpOk xs0 s1 → bcase (!r45) (Q ((⟨r25.Number, r25.Frames, r25.Regs⟩ : D.Warp), (-1))) ((∀ r52, r52 = M.impl_within x2 0 8000 → bcase (!r52) (Q ((⟨r25.Number, r25.Frames, r25.Regs⟩ : D.Warp), (-1))) (LoopP (σ := Int × Int × (List D.Frame) × (List Int) × Unit) (fun (p105 : Int × Int × (List D.Frame) × (List Int) × Unit) next85 => match p105 with | (i74, i75, xs76, xs79, _) => bcase (decide (i74 < x2)) ((M.impl_Warp_pass_pre (⟨i75, xs76, xs79⟩ : D.Warp) xs0 ∧ ∀ r87, r87 = M.impl_Warp_pass (⟨i75, xs76, xs79⟩ : D.Warp) xs0 → bcase r87.1 (next85 ((IntKind.wrap .i64 (i74 + 1)), r87.2.Number, r87.2.Frames, r87.2.Regs, ())) (Q ((⟨r87.2.Number, r87.2.Frames, r87.2.Regs⟩ : D.Warp), i74)))) (Q ((⟨i75, xs76, xs79⟩ : D.Warp), i74))) (0, r25.Number, r25.Frames, r25.Regs, ()))))))))
end Go.V
set_option linter.unusedVariables false
namespace Go.V
def wp.spec_DropFrames (xs0 : List D.Ins) (s1 : D.Warp) (Q : D.Warp → Prop) : Prop :=
  (M.spec_l12Copy_pre s1 ∧ ∀ r25, r25 = M.spec_l12Copy s1 → LoopP (σ := Int × Int × (List D.Frame) × Unit) (fun (p121 : Int × Int × (List D.Frame) × Unit) next89 => match p121 with | (i81, i82, xs83, _) => bcase (decide (i81 ≥ 0)) (((0 ≤ i81 ∧ i81 < ((xs83.length : Nat) : Int)) ∧ bcase ((rd xs83 i81).Pc != (rd xs83 i81).Stop) (bcase ((rd xs83 i81).Pc != ((xs0.length : Nat) : Int)) (Q (⟨i82, xs83, r25.Regs⟩ : D.Warp)) (((0 ≤ i81 ∧ i81 ≤ ((xs83.length : Nat) : Int)) ∧ next89 ((IntKind.wrap .i64 (i81 - 1)), i82, (List.take (i81.toNat) xs83), ())))) (((0 ≤ i81 ∧ i81 ≤ ((xs83.length : Nat) : Int)) ∧ next89 ((IntKind.wrap .i64 (i81 - 1)), i82, (List.take (i81.toNat) xs83), ()))))) (Q (⟨i82, xs83, r25.Regs⟩ : D.Warp))) ((IntKind.wrap .i64 (((r25.Frames.length : Nat) : Int) - 1)), r25.Number, r25.Frames, ()))
def wp.spec_l13Apply (xs0 : List D.Ins) (s1 : D.Warp) (Q : (List Int) → Prop) : Prop :=
  ((([] : List Int).length + s1.Regs.length ≤ 17179869184) ∧ ((0 ≤ (IntKind.wrap .i64 (((s1.Frames.length : Nat) : Int) - 1)) ∧ (IntKind.wrap .i64 (((s1.Frames.length : Nat) : Int) - 1)) < ((s1.Frames.length : Nat) : Int)) ∧ LoopP (σ := Int × (List Int) × Unit) (fun (p197 : Int × (List Int) × Unit) next117 => match p197 with | (i111, xs112, _) => bcase (decide (i111 < 8)) ((∀ r119, r119 = M.spec_HasLane ((rd s1.Frames (IntKind.wrap .i64 (((s1.Frames.length : Nat) : Int) - 1))).Mask) i111 → bcase r119 (((0 ≤ (rd s1.Frames (IntKind.wrap .i64 (((s1.Frames.length : Nat) : Int) - 1))).Pc ∧ (rd s1.Frames (IntKind.wrap .i64 (((s1.Frames.length : Nat) : Int) - 1))).Pc < ((xs0.length : Nat) : Int)) ∧ ((0 ≤ (IntKind.wrap .i64 ((IntKind.wrap .i64 (i111 + 1)) * 4)) ∧ (IntKind.wrap .i64 ((IntKind.wrap .i64 (i111 + 1)) * 4)) ≤ ((s1.Regs.length : Nat) : Int) ∧ 0 ≤ (IntKind.wrap .i64 (i111 * 4)) ∧ (IntKind.wrap .i64 (i111 * 4)) ≤ (IntKind.wrap .i64 ((IntKind.wrap .i64 (i111 + 1)) * 4))) ∧ (M.spec_l10Apply_pre (rd xs0 ((rd s1.Frames (IntKind.wrap .i64 (((s1.Frames.length : Nat) : Int) - 1))).Pc)) (IntKind.wrap .i64 ((IntKind.wrap .i64 (s1.Number * 8)) + i111)) (List.drop ((IntKind.wrap .i64 (i111 * 4)).toNat) (List.take ((IntKind.wrap .i64 ((IntKind.wrap .i64 (i111 + 1)) * 4)).toNat) s1.Regs)) ∧ ∀ r134, r134 = M.spec_l10Apply (rd xs0 ((rd s1.Frames (IntKind.wrap .i64 (((s1.Frames.length : Nat) : Int) - 1))).Pc)) (IntKind.wrap .i64 ((IntKind.wrap .i64 (s1.Number * 8)) + i111)) (List.drop ((IntKind.wrap .i64 (i111 * 4)).toNat) (List.take ((IntKind.wrap .i64 ((IntKind.wrap .i64 (i111 + 1)) * 4)).toNat) s1.Regs)) → LoopP (σ := Int × (List Int) × Unit) (fun (p188 : Int × (List Int) × Unit) next166 => match p188 with | (i160, xs161, _) => bcase (decide (i160 < 4)) (((0 ≤ i160 ∧ i160 < ((r134.length : Nat) : Int)) ∧ ((0 ≤ (IntKind.wrap .i64 ((IntKind.wrap .i64 (i111 * 4)) + i160)) ∧ (IntKind.wrap .i64 ((IntKind.wrap .i64 (i111 * 4)) + i160)) < ((xs161.length : Nat) : Int)) ∧ next166 ((IntKind.wrap .i64 (i160 + 1)), (List.set xs161 ((IntKind.wrap .i64 ((IntKind.wrap .i64 (i111 * 4)) + i160)).toNat) (rd r134 i160)), ())))) (next117 ((IntKind.wrap .i64 (i111 + 1)), xs161, ()))) (0, xs112, ()))))) (next117 ((IntKind.wrap .i64 (i111 + 1)), xs112, ())))) (Q xs112)) (0, (([] : List Int) ++ s1.Regs), ())))
def wp.spec_l13Step (xs0 : List D.Ins) (s1 : D.Warp) (Q : D.Warp → Prop) : Prop :=
  (M.spec_l12Copy_pre s1 ∧ ∀ r25, r25 = M.spec_l12Copy s1 → ((0 ≤ (IntKind.wrap .i64 (((s1.Frames.length : Nat) : Int) - 1)) ∧ (IntKind.wrap .i64 (((s1.Frames.length : Nat) : Int) - 1)) < ((s1.Frames.length : Nat) : Int)) ∧ ((0 ≤ (rd s1.Frames (IntKind.wrap .i64 (((s1.Frames.length : Nat) : Int) - 1))).Pc ∧ (rd s1.Frames (IntKind.wrap .i64 (((s1.Frames.length : Nat) : Int) - 1))).Pc < ((xs0.length : Nat) : Int)) ∧ (M.spec_l13Splits_pre xs0 s1 ∧ ∀ r56, r56 = M.spec_l13Splits xs0 s1 → bcase r56 ((M.spec_ZeroMask_pre s1 ((rd xs0 ((rd s1.Frames (IntKind.wrap .i64 (((s1.Frames.length : Nat) : Int) - 1))).Pc)).A) ∧ ∀ r61, r61 = M.spec_ZeroMask s1 ((rd xs0 ((rd s1.Frames (IntKind.wrap .i64 (((s1.Frames.length : Nat) : Int) - 1))).Pc)).A) → (M.spec_l09Join_pre xs0 ((rd s1.Frames (IntKind.wrap .i64 (((s1.Frames.length : Nat) : Int) - 1))).Pc) ∧ ∀ r66, r66 = M.spec_l09Join xs0 ((rd s1.Frames (IntKind.wrap .i64 (((s1.Frames.length : Nat) : Int) - 1))).Pc) → ((0 ≤ (IntKind.wrap .i64 (((s1.Frames.length : Nat) : Int) - 1)) ∧ (IntKind.wrap .i64 (((s1.Frames.length : Nat) : Int) - 1)) < ((r25.Frames.length : Nat) : Int)) ∧ (((List.set r25.Frames ((IntKind.wrap .i64 (((s1.Frames.length : Nat) : Int) - 1)).toNat) (⟨r66, (rd r25.Frames (IntKind.wrap .i64 (((s1.Frames.length : Nat) : Int) - 1))).Stop, (rd r25.Frames (IntKind.wrap .i64 (((s1.Frames.length : Nat) : Int) - 1))).Mask⟩ : D.Frame)).length + ([(⟨(IntKind.wrap .i64 ((rd s1.Frames (IntKind.wrap .i64 (((s1.Frames.length : Nat) : Int) - 1))).Pc + 1)), r66, (IntKind.wrap .i64 ((rd s1.Frames (IntKind.wrap .i64 (((s1.Frames.length : Nat) : Int) - 1))).Mask - r61))⟩ : D.Frame), (⟨(rd xs0 ((rd s1.Frames (IntKind.wrap .i64 (((s1.Frames.length : Nat) : Int) - 1))).Pc)).B, r66, r61⟩ : D.Frame)] : List D.Frame).length ≤ 17179869184) ∧ (M.spec_DropFrames_pre xs0 (⟨r25.Number, ((List.set r25.Frames ((IntKind.wrap .i64 (((s1.Frames.length : Nat) : Int) - 1)).toNat) (⟨r66, (rd r25.Frames (IntKind.wrap .i64 (((s1.Frames.length : Nat) : Int) - 1))).Stop, (rd r25.Frames (IntKind.wrap .i64 (((s1.Frames.length : Nat) : Int) - 1))).Mask⟩ : D.Frame)) ++ ([(⟨(IntKind.wrap .i64 ((rd s1.Frames (IntKind.wrap .i64 (((s1.Frames.length : Nat) : Int) - 1))).Pc + 1)), r66, (IntKind.wrap .i64 ((rd s1.Frames (IntKind.wrap .i64 (((s1.Frames.length : Nat) : Int) - 1))).Mask - r61))⟩ : D.Frame), (⟨(rd xs0 ((rd s1.Frames (IntKind.wrap .i64 (((s1.Frames.length : Nat) : Int) - 1))).Pc)).B, r66, r61⟩ : D.Frame)] : List D.Frame)), r25.Regs⟩ : D.Warp) ∧ ∀ r89, r89 = M.spec_DropFrames xs0 (⟨r25.Number, ((List.set r25.Frames ((IntKind.wrap .i64 (((s1.Frames.length : Nat) : Int) - 1)).toNat) (⟨r66, (rd r25.Frames (IntKind.wrap .i64 (((s1.Frames.length : Nat) : Int) - 1))).Stop, (rd r25.Frames (IntKind.wrap .i64 (((s1.Frames.length : Nat) : Int) - 1))).Mask⟩ : D.Frame)) ++ ([(⟨(IntKind.wrap .i64 ((rd s1.Frames (IntKind.wrap .i64 (((s1.Frames.length : Nat) : Int) - 1))).Pc + 1)), r66, (IntKind.wrap .i64 ((rd s1.Frames (IntKind.wrap .i64 (((s1.Frames.length : Nat) : Int) - 1))).Mask - r61))⟩ : D.Frame), (⟨(rd xs0 ((rd s1.Frames (IntKind.wrap .i64 (((s1.Frames.length : Nat) : Int) - 1))).Pc)).B, r66, r61⟩ : D.Frame)] : List D.Frame)), r25.Regs⟩ : D.Warp) → Q (⟨r89.Number, r89.Frames, r89.Regs⟩ : D.Warp))))))) ((M.spec_l13Apply_pre xs0 s1 ∧ ∀ r100, r100 = M.spec_l13Apply xs0 s1 → bcase ((rd xs0 ((rd s1.Frames (IntKind.wrap .i64 (((s1.Frames.length : Nat) : Int) - 1))).Pc)).Op == 12) (((0 ≤ (IntKind.wrap .i64 (((s1.Frames.length : Nat) : Int) - 1)) ∧ (IntKind.wrap .i64 (((s1.Frames.length : Nat) : Int) - 1)) < ((r25.Frames.length : Nat) : Int)) ∧ (M.spec_DropFrames_pre xs0 (⟨r25.Number, (List.set r25.Frames ((IntKind.wrap .i64 (((s1.Frames.length : Nat) : Int) - 1)).toNat) (⟨((xs0.length : Nat) : Int), (rd r25.Frames (IntKind.wrap .i64 (((s1.Frames.length : Nat) : Int) - 1))).Stop, (rd r25.Frames (IntKind.wrap .i64 (((s1.Frames.length : Nat) : Int) - 1))).Mask⟩ : D.Frame)), r100⟩ : D.Warp) ∧ ∀ r117, r117 = M.spec_DropFrames xs0 (⟨r25.Number, (List.set r25.Frames ((IntKind.wrap .i64 (((s1.Frames.length : Nat) : Int) - 1)).toNat) (⟨((xs0.length : Nat) : Int), (rd r25.Frames (IntKind.wrap .i64 (((s1.Frames.length : Nat) : Int) - 1))).Stop, (rd r25.Frames (IntKind.wrap .i64 (((s1.Frames.length : Nat) : Int) - 1))).Mask⟩ : D.Frame)), r100⟩ : D.Warp) → Q (⟨r117.Number, r117.Frames, r117.Regs⟩ : D.Warp)))) (bcase ((rd xs0 ((rd s1.Frames (IntKind.wrap .i64 (((s1.Frames.length : Nat) : Int) - 1))).Pc)).Op == 11) (((0 ≤ (IntKind.wrap .i64 (((s1.Frames.length : Nat) : Int) - 1)) ∧ (IntKind.wrap .i64 (((s1.Frames.length : Nat) : Int) - 1)) < ((r25.Frames.length : Nat) : Int)) ∧ (M.spec_DropFrames_pre xs0 (⟨r25.Number, (List.set r25.Frames ((IntKind.wrap .i64 (((s1.Frames.length : Nat) : Int) - 1)).toNat) (⟨(rd xs0 ((rd s1.Frames (IntKind.wrap .i64 (((s1.Frames.length : Nat) : Int) - 1))).Pc)).B, (rd r25.Frames (IntKind.wrap .i64 (((s1.Frames.length : Nat) : Int) - 1))).Stop, (rd r25.Frames (IntKind.wrap .i64 (((s1.Frames.length : Nat) : Int) - 1))).Mask⟩ : D.Frame)), r100⟩ : D.Warp) ∧ ∀ r136, r136 = M.spec_DropFrames xs0 (⟨r25.Number, (List.set r25.Frames ((IntKind.wrap .i64 (((s1.Frames.length : Nat) : Int) - 1)).toNat) (⟨(rd xs0 ((rd s1.Frames (IntKind.wrap .i64 (((s1.Frames.length : Nat) : Int) - 1))).Pc)).B, (rd r25.Frames (IntKind.wrap .i64 (((s1.Frames.length : Nat) : Int) - 1))).Stop, (rd r25.Frames (IntKind.wrap .i64 (((s1.Frames.length : Nat) : Int) - 1))).Mask⟩ : D.Frame)), r100⟩ : D.Warp) → Q (⟨r136.Number, r136.Frames, r136.Regs⟩ : D.Warp)))) (((0 ≤ (IntKind.wrap .i64 (((s1.Frames.length : Nat) : Int) - 1)) ∧ (IntKind.wrap .i64 (((s1.Frames.length : Nat) : Int) - 1)) < ((r25.Frames.length : Nat) : Int)) ∧ JoinP (σ := Bool × Unit) (fun J156 => bcase ((rd xs0 ((rd s1.Frames (IntKind.wrap .i64 (((s1.Frames.length : Nat) : Int) - 1))).Pc)).Op == 10) ((M.spec_ZeroMask_pre s1 ((rd xs0 ((rd s1.Frames (IntKind.wrap .i64 (((s1.Frames.length : Nat) : Int) - 1))).Pc)).A) ∧ ∀ r160, r160 = M.spec_ZeroMask s1 ((rd xs0 ((rd s1.Frames (IntKind.wrap .i64 (((s1.Frames.length : Nat) : Int) - 1))).Pc)).A) → J156 ((r160 == (rd s1.Frames (IntKind.wrap .i64 (((s1.Frames.length : Nat) : Int) - 1))).Mask), ()))) (J156 (false, ()))) (fun (p198 : Bool × Unit) => match p198 with | (b155, _) => bcase b155 (((0 ≤ (IntKind.wrap .i64 (((s1.Frames.length : Nat) : Int) - 1)) ∧ (IntKind.wrap .i64 (((s1.Frames.length : Nat) : Int) - 1)) < (((List.set r25.Frames ((IntKind.wrap .i64 (((s1.Frames.length : Nat) : Int) - 1)).toNat) (⟨(IntKind.wrap .i64 ((rd s1.Frames (IntKind.wrap .i64 (((s1.Frames.length : Nat) : Int) - 1))).Pc + 1)), (rd r25.Frames (IntKind.wrap .i64 (((s1.Frames.length : Nat) : Int) - 1))).Stop, (rd r25.Frames (IntKind.wrap .i64 (((s1.Frames.length : Nat) : Int) - 1))).Mask⟩ : D.Frame)).length : Nat) : Int)) ∧ (M.spec_DropFrames_pre xs0 (⟨r25.Number, (List.set r25.Frames ((IntKind.wrap .i64 (((s1.Frames.length : Nat) : Int) - 1)).toNat) (⟨(rd xs0 ((rd s1.Frames (IntKind.wrap .i64 (((s1.Frames.length : Nat) : Int) - 1))).Pc)).B, (rd r25.Frames (IntKind.wrap .i64 (((s1.Frames.length : Nat) : Int) - 1))).Stop, (rd r25.Frames (IntKind.wrap .i64 (((s1.Frames.length : Nat) : Int) - 1))).Mask⟩ : D.Frame)), r100⟩ : D.Warp) ∧ ∀ r175, r175 = M.spec_DropFrames xs0 (⟨r25.Number, (List.set r25.Frames ((IntKind.wrap .i64 (((s1.Frames.length : Nat) : Int) - 1)).toNat) (⟨(rd xs0 ((rd s1.Frames (IntKind.wrap .i64 (((s1.Frames.length : Nat) : Int) - 1))).Pc)).B, (rd r25.Frames (IntKind.wrap .i64 (((s1.Frames.length : Nat) : Int) - 1))).Stop, (rd r25.Frames (IntKind.wrap .i64 (((s1.Frames.length : Nat) : Int) - 1))).Mask⟩ : D.Frame)), r100⟩ : D.Warp) → Q (⟨r175.Number, r175.Frames, r175.Regs⟩ : D.Warp)))) ((M.spec_DropFrames_pre xs0 (⟨r25.Number, (List.set r25.Frames ((IntKind.wrap .i64 (((s1.Frames.length : Nat) : Int) - 1)).toNat) (⟨(IntKind.wrap .i64 ((rd s1.Frames (IntKind.wrap .i64 (((s1.Frames.length : Nat) : Int) - 1))).Pc + 1)), (rd r25.Frames (IntKind.wrap .i64 (((s1.Frames.length : Nat) : Int) - 1))).Stop, (rd r25.Frames (IntKind.wrap .i64 (((s1.Frames.length : Nat) : Int) - 1))).Mask⟩ : D.Frame)), r100⟩ : D.Warp) ∧ ∀ r186, r186 = M.spec_DropFrames xs0 (⟨r25.Number, (List.set r25.Frames ((IntKind.wrap .i64 (((s1.Frames.length : Nat) : Int) - 1)).toNat) (⟨(IntKind.wrap .i64 ((rd s1.Frames (IntKind.wrap .i64 (((s1.Frames.length : Nat) : Int) - 1))).Pc + 1)), (rd r25.Frames (IntKind.wrap .i64 (((s1.Frames.length : Nat) : Int) - 1))).Stop, (rd r25.Frames (IntKind.wrap .i64 (((s1.Frames.length : Nat) : Int) - 1))).Mask⟩ : D.Frame)), r100⟩ : D.Warp) → Q (⟨r186.Number, r186.Frames, r186.Regs⟩ : D.Warp)))))))))))))
def wp.spec_l14Run (xs0 : List D.Ins) (s1 : D.Warp) (x2 : Int) (Q : (D.Warp × Int) → Prop) : Prop :=
  LoopP (σ := Int × Int × (List D.Frame) × (List Int) × Unit) (fun (p108 : Int × Int × (List D.Frame) × (List Int) × Unit) next81 => match p108 with | (i70, i71, xs72, xs75, _) => bcase (decide (i70 < x2)) ((M.spec_l13Local_pre xs0 (⟨i71, xs72, xs75⟩ : D.Warp) ∧ ∀ r83, r83 = M.spec_l13Local xs0 (⟨i71, xs72, xs75⟩ : D.Warp) → bcase r83 ((M.spec_l13Step_pre xs0 (⟨i71, xs72, xs75⟩ : D.Warp) ∧ ∀ r88, r88 = M.spec_l13Step xs0 (⟨i71, xs72, xs75⟩ : D.Warp) → next81 ((IntKind.wrap .i64 (i70 + 1)), r88.Number, r88.Frames, r88.Regs, ()))) (Q ((⟨i71, xs72, xs75⟩ : D.Warp), i70)))) (Q ((⟨i71, xs72, xs75⟩ : D.Warp), i70))) (0, s1.Number, s1.Frames, s1.Regs, ())
end Go.V
set_option linter.unusedVariables false
set_option linter.unusedVariables false
set_option linter.unusedSimpArgs false
set_option linter.unusedVariables false
set_option linter.unusedSimpArgs false
set_option maxRecDepth 20000
namespace Go.V
theorem afterB_iff {p : List D.Ins} {k later : Int} (h : M.Node p k) : M.afterB p k later = true ↔ ¬ Rch p later [k] ((p.length : Nat) : Int) := by
  have hn : M.nodeIn p ((p.length : Nat) : Int) := ⟨by omega, by omega⟩
  have := reached_iff (wo := later) h.1 (fun x hx => by obtain rfl := List.mem_singleton.1 hx; exact h.2) hn
  unfold M.afterB
  rw [← this]
  cases rd (M.reached p [k] later) ((p.length : Nat) : Int) <;> simp
theorem firstS_mem {p : List D.Ins} {all : List Int} : ∀ (l : List Int), (∃ x ∈ l, all.all (M.afterB p x) = true) → M.firstS p all l ∈ l ∧ all.all (M.afterB p (M.firstS p all l)) = true
  | [], h => by obtain ⟨x, hx, _⟩ := h; cases hx
  | y :: l, h => by
    by_cases hy : all.all (M.afterB p y) = true
    · simp only [M.firstS, hy, if_true]; exact ⟨List.mem_cons_self, trivial⟩
    · have : ∃ x ∈ l, all.all (M.afterB p x) = true := by
        obtain ⟨x, hx, hg⟩ := h
        rcases List.mem_cons.1 hx with rfl | hx
        · exact absurd hg hy
        · exact ⟨x, hx, hg⟩
      have ih := firstS_mem l this
      simp only [M.firstS, hy]
      exact ⟨List.mem_cons_of_mem _ ih.1, ih.2⟩
theorem rch_via {p : List D.Ins} {y b : Int} {v : Int} (h : Rch p y [b] v) {x : Int} (hx : Rch p y [v] x) : Rch p y [b] x := by
  induction hx with
  | base hs hne => obtain rfl := List.mem_singleton.1 hs; exact h
  | step _ hs hne ih => exact .step ih hs hne
theorem first_in {p : List D.Ins} {b : Int} (hb : M.Node p b) (hbn : b ≠ ((p.length : Nat) : Int)) (he : M.exitB p b = true) : M.firstAfter p b ∈ M.others (M.aftersOf p b) b := by
  have hn : M.nodeIn p ((p.length : Nat) : Int) := ⟨by omega, by omega⟩
  have hR := (reached_iff hb.1 (fun x hx => by obtain rfl := List.mem_singleton.1 hx; exact hb.2) hn).1 he
  have hmem : ∀ x, M.nodeIn p x → x ≠ b → M.afterB p b x = true → x ∈ M.others (M.aftersOf p b) b := by
    intro x hx hxb ha
    unfold M.others M.aftersOf
    rw [if_pos (by simp only [Bool.and_eq_true]; exact ⟨isNode_iff.2 hb, he⟩)]
    refine List.mem_filter.2 ⟨mem_idx.2 ⟨x.toNat, by unfold M.nodeIn at hx; omega, by unfold M.nodeIn at hx; omega, ha⟩, by simpa using hxb⟩
  refine (firstS_mem _ ?_).1
  have good : ∀ x ∈ M.others (M.aftersOf p b) b, ∀ v, (∀ y ∈ M.others (M.aftersOf p b) b, Rch p y [b] v) → x ∈ M.nextOf p v → (M.others (M.aftersOf p b) b).all (M.afterB p x) = true := by
    intro x hx v hv hvx
    rw [List.all_eq_true]
    intro y hy
    obtain ⟨hxN, _, _, _⟩ := afters_nodes hx
    obtain ⟨hyN, _, _, hya⟩ := afters_nodes hy
    rw [afterB_iff hxN]
    intro hr
    refine (afterB_iff hb).1 hya ?_
    have hxy : x ≠ y := by
      rintro rfl
      have : ∀ z, Rch p x [x] z → False := fun z hz => by
        induction hz with
        | base hs hne => exact hne (List.mem_singleton.1 hs)
        | step _ _ _ ih => exact ih
      exact this _ hr
    exact rch_via (.step (hv y hy) hvx hxy) hr
  have hbL : ∀ y ∈ M.others (M.aftersOf p b) b, b ≠ y := fun y hy e => by
    have := (List.mem_filter.1 hy).2
    simp [e] at this
  have key : ∀ v, Rch p (-1) [b] v → (∃ x ∈ M.others (M.aftersOf p b) b, (M.others (M.aftersOf p b) b).all (M.afterB p x) = true) ∨ (v ∉ M.others (M.aftersOf p b) b ∧ ∀ y ∈ M.others (M.aftersOf p b) b, Rch p y [b] v) := by
    intro v hv
    induction hv with
    | base hs hne =>
      obtain rfl := List.mem_singleton.1 hs
      exact .inr ⟨fun h => hbL _ h rfl, fun y hy => .base (List.mem_singleton.2 rfl) (hbL y hy)⟩
    | @step k s _ hs hne ih =>
      rcases ih with ih | ⟨_, ih⟩
      · exact .inl ih
      · by_cases hsL : s ∈ M.others (M.aftersOf p b) b
        · exact .inl ⟨s, hsL, good s hsL k ih hs⟩
        · exact .inr ⟨hsL, fun y hy => .step (ih y hy) hs (fun e => hsL (e ▸ hy))⟩
  rcases key _ hR with h | ⟨h, _⟩
  · exact h
  · refine absurd (hmem _ hn (Ne.symm hbn) ((afterB_iff hb).2 fun hr => ?_)) h
    have : ∀ z, Rch p ((p.length : Nat) : Int) [b] z → z ≠ ((p.length : Nat) : Int) := fun z hz => by
      cases hz with
      | base _ hne => exact hne
      | step _ _ hne => exact hne
    exact this _ hr rfl
theorem join_in {p : List D.Ins} {b : Int} (h : M.Branch p b) : M.nodeIn p (M.joinB p b) := by
  obtain ⟨h1, h2, hb, _⟩ := br_in h
  have hn : M.nodeIn p ((p.length : Nat) : Int) := ⟨by omega, by omega⟩
  unfold M.joinB
  split
  · rename_i e
    simp only [Bool.and_eq_true] at e
    have hx1 := (reached_iff hb.1 (fun x hx => by obtain rfl := List.mem_singleton.1 hx; exact h1.2) hn).1 e.1
    have hbr := h.2.2.2
    simp only [M.isBr, Bool.and_eq_true, beq_iff_eq, bne_iff_ne] at hbr
    have hnx : b + 1 ∈ M.nextOf p b := by
      unfold M.nextOf
      have := h.2.2.1
      rw [if_neg (by omega), if_neg (by omega), if_neg (by omega), if_pos hbr.1]
      exact putTwo_mem.2 (.inl rfl)
    have he : M.exitB p b = true := by
      refine (reached_iff hb.1 (fun x hx => by obtain rfl := List.mem_singleton.1 hx; exact hb.2) hn).2 ?_
      have hb0 := h.2.1
      exact rch_via (b := b) (y := -1) (.step (.base (List.mem_singleton.2 rfl) (by omega)) hnx (by omega)) hx1
    exact (afters_nodes (first_in hb (by have := h.2.2.1; omega) he)).1.2
  · exact hn
theorem sub_check : ((List.range 256).all fun m => (List.range 256).all fun z => !(m &&& z == z) || (m &&& (2 ^ 64 - 1 - z) == m - z)) = true := by kernel_rfl
theorem lane_check : ((List.range 256).all fun m => (List.range 8).all fun l => !(M.hasLane ((m : Nat) : Int) ((l : Nat) : Int)) || (m &&& 2 ^ l == 2 ^ l)) = true := by kernel_rfl
theorem bit_check : ((List.range 8).all fun l => M.bitAt ((l : Nat) : Int) == ((2 ^ l : Nat) : Int)) = true := by kernel_rfl
theorem bitOr_nat {a b : Nat} (ha : a < 256) (hb : b < 256) : bitOr .i64 ((a : Nat) : Int) ((b : Nat) : Int) = ((a ||| b : Nat) : Int) := by
  have hlt : a ||| b < 256 := Nat.or_lt_two_pow (n := 8) ha hb
  have e : (BitVec.ofInt (IntKind.bits .i64) ((a : Nat) : Int) ||| BitVec.ofInt (IntKind.bits .i64) ((b : Nat) : Int)).toNat = a ||| b := by
    show (BitVec.ofInt 64 ((a : Nat) : Int) ||| BitVec.ofInt 64 ((b : Nat) : Int)).toNat = a ||| b
    rw [BitVec.ofInt_natCast, BitVec.ofInt_natCast, BitVec.toNat_or, BitVec.toNat_ofNat, BitVec.toNat_ofNat, Nat.mod_eq_of_lt (by omega), Nat.mod_eq_of_lt (by omega)]
  unfold bitOr
  rw [e]
  exact w64 (by omega) (by omega)
theorem bitNot_nat {a b : Nat} (ha : a < 256) (hb : b < 256) (hs : a &&& b = b) : bitNot .i64 ((a : Nat) : Int) ((b : Nat) : Int) = ((a - b : Nat) : Int) := by
  have hc := List.all_eq_true.1 (List.all_eq_true.1 sub_check a (List.mem_range.2 ha)) b (List.mem_range.2 hb)
  simp only [hs, BEq.rfl, Bool.not_true, Bool.false_or, beq_iff_eq] at hc
  have e : (BitVec.ofInt (IntKind.bits .i64) ((a : Nat) : Int) &&& ~~~(BitVec.ofInt (IntKind.bits .i64) ((b : Nat) : Int))).toNat = a - b := by
    show (BitVec.ofInt 64 ((a : Nat) : Int) &&& ~~~(BitVec.ofInt 64 ((b : Nat) : Int))).toNat = a - b
    rw [BitVec.ofInt_natCast, BitVec.ofInt_natCast, BitVec.toNat_and, BitVec.toNat_not, BitVec.toNat_ofNat, BitVec.toNat_ofNat, Nat.mod_eq_of_lt (by omega), Nat.mod_eq_of_lt (by omega)]
    exact hc
  unfold bitNot
  rw [e]
  exact w64 (by omega) (by omega)
theorem isMask_nat {m : Int} (h : M.isMask m = true) : ∃ k : Nat, m = (k : Int) ∧ k < 256 := by
  simp only [M.isMask, M.isIn, Bool.and_eq_true, decide_eq_true_eq] at h
  exact ⟨m.toNat, by omega, by omega⟩
theorem zero_fold {x : D.Warp} {reg : Int} {m : Nat} (hm : m < 256) : ∀ (l : List Int), (∀ k ∈ l, k ∈ M.lanesOf (m : Int)) → ∀ z : Nat, z < 256 → m &&& z = z → ∃ z' : Nat, l.foldl (M.zeroStep x reg) (z : Int) = (z' : Int) ∧ z' < 256 ∧ m &&& z' = z'
  | [], _, z, hz, hs => ⟨z, rfl, hz, hs⟩
  | k :: l, hl, z, hz, hs => by
    have hk := hl k List.mem_cons_self
    have hrest := fun j hj => hl j (List.mem_cons_of_mem _ hj)
    simp only [List.foldl_cons]
    by_cases e : rd x.Regs (k * 4 + reg) = 0
    · obtain ⟨h0, h7⟩ := lanes_in hk
      have hkn : ((k.toNat : Nat) : Int) = k := by omega
      have hh : M.hasLane (m : Int) k = true := (List.mem_filter.1 hk).2
      have hc := List.all_eq_true.1 (List.all_eq_true.1 lane_check m (List.mem_range.2 hm)) k.toNat (List.mem_range.2 (by omega))
      rw [hkn, hh] at hc
      simp only [Bool.not_true, Bool.false_or, beq_iff_eq] at hc
      have hb := List.all_eq_true.1 bit_check k.toNat (List.mem_range.2 (by omega))
      rw [hkn] at hb
      have hb := eq_of_beq hb
      have hp : 2 ^ k.toNat < 256 := Nat.lt_of_lt_of_le (Nat.pow_lt_pow_right (by omega) (show k.toNat < 8 by omega)) (Nat.le_refl _)
      have hst : M.zeroStep x reg (z : Int) k = ((z ||| 2 ^ k.toNat : Nat) : Int) := by
        unfold M.zeroStep
        rw [if_pos e, hb, bitOr_nat hz hp]
      rw [hst]
      exact zero_fold hm l hrest _ (Nat.or_lt_two_pow (n := 8) hz hp) (by rw [Nat.and_or_distrib_left, hs, hc])
    · have hst : M.zeroStep x reg (z : Int) k = (z : Int) := by unfold M.zeroStep; rw [if_neg e]
      rw [hst]
      exact zero_fold hm l hrest z hz hs
theorem zeroMask_sub {x : D.Warp} {reg : Int} (h : M.isMask (M.activeMask x) = true) : ∃ m z : Nat, M.activeMask x = (m : Int) ∧ M.zeroMask x reg = (z : Int) ∧ m < 256 ∧ z < 256 ∧ m &&& z = z := by
  obtain ⟨m, hm, hlt⟩ := isMask_nat h
  obtain ⟨z, hz, hzl, hs⟩ := zero_fold (x := x) (reg := reg) hlt (M.lanesOf (m : Int)) (fun _ hk => hk) 0 (by omega) (by simp)
  refine ⟨m, z, hm, ?_, hlt, hzl, hs⟩
  unfold M.zeroMask
  rw [hm]
  exact hz
theorem mask_part {x : D.Warp} {reg : Int} (h : M.isMask (M.activeMask x) = true) :
    M.isMask (M.zeroMask x reg) = true ∧ bitNot .i64 (M.activeMask x) (M.zeroMask x reg) = M.activeMask x - M.zeroMask x reg ∧ M.isMask (M.activeMask x - M.zeroMask x reg) = true := by
  obtain ⟨m, z, hm, hz, h1, h2, hs⟩ := zeroMask_sub (reg := reg) h
  have hle : z ≤ m := by rw [← hs]; exact Nat.and_le_left
  rw [hm, hz, bitNot_nat h1 h2 hs]
  refine ⟨?_, by omega, ?_⟩ <;> (simp only [M.isMask, M.isIn, Bool.and_eq_true, decide_eq_true_eq]; omega)
end Go.V
set_option linter.unusedVariables false
set_option linter.unusedSimpArgs false
set_option maxRecDepth 20000
namespace Go.V
theorem rd_take {α : Type} [Inhabited α] {l : List α} {k m : Nat} (h : k < m) : rd (l.take m) (k : Int) = rd l (k : Int) := by
  unfold rd
  rw [List.getD_eq_getElem?_getD, List.getD_eq_getElem?_getD, List.getElem?_take, if_pos (by simpa using h)]
theorem take_take' {α : Type} {l : List α} {k m : Nat} (h : k ≤ m) : (l.take m).take k = l.take k := by rw [List.take_take, Nat.min_eq_left h]
theorem wp.impl_Warp_drop.math (x : D.Warp) (n : Int) (h : M.impl_Warp_drop_pre x n) : wp.impl_Warp_drop x n (fun r => r = M.impl_Warp_drop x n) := by
  unfold wp.impl_Warp_drop
  have hL : x.Frames.length ≤ 9223372036854775807 := h
  refine loop_n x.Frames.length (fun j => (x.Number, x.Frames.take (x.Frames.length - j), ())) (fun j => M.dropF x.Frames n = M.dropN x.Frames n (x.Frames.length - j)) (by simp) (by simp [M.dropF]) (fun j hj hF next hn => ?_) (fun hF next => ?_)
  · obtain ⟨m, hm⟩ : ∃ m, x.Frames.length - j = m + 1 := ⟨x.Frames.length - j - 1, by omega⟩
    have hm1 : x.Frames.length - (j + 1) = m := by omega
    rw [hm1] at hn
    rw [hm] at hF
    dsimp only
    rw [hm]
    have hl : (x.Frames.take (m + 1)).length = m + 1 := by rw [List.length_take]; omega
    rw [hl, last_wrap (by omega), show (((m + 1 : Nat) : Int) - 1) = (m : Int) by omega, rd_take (Nat.lt_succ_self m), take_take' (by omega)]
    refine bcase_t (by simp) ⟨by omega, ?_⟩
    show bcase _ (bcase _ _ _) _
    have go : ¬ ((rd x.Frames (m : Int)).Pc ≠ (rd x.Frames (m : Int)).Stop ∧ (rd x.Frames (m : Int)).Pc ≠ n) → next (x.Number, x.Frames.take m, ()) := fun hc => hn (by rw [hF]; simp only [M.dropN]; rw [if_neg hc])
    refine bcase_mk (fun e1 => bcase_mk (fun e2 => ?_) fun e2 => ?_) fun e1 => ?_
    · simp only [M.dropN] at hF
      rw [if_pos ⟨by simpa using e1, by simpa using e2⟩] at hF
      show _ = M.dropW x n
      unfold M.dropW
      rw [hF]
    · have := go (fun hc => hc.2 (by simpa using e2))
      exact ⟨⟨by omega, this⟩, ⟨by omega, this⟩, trivial⟩
    · have := go (fun hc => hc.1 (by simpa using e1))
      exact ⟨⟨by omega, this⟩, ⟨by omega, this⟩, trivial⟩
  · rw [Nat.sub_self] at hF
    dsimp only
    rw [Nat.sub_self, List.take_zero]
    refine bcase_f (by simp) ?_
    show _ = M.dropW x n
    unfold M.dropW
    rw [hF]; rfl
theorem wp.spec_DropFrames.math (p : List D.Ins) (x : D.Warp) (h : M.spec_DropFrames_pre p x) : wp.spec_DropFrames p x (fun r => r = M.spec_DropFrames p x) := by
  unfold wp.spec_DropFrames
  have hL : x.Frames.length ≤ 17179869184 := h.1
  refine ⟨h, fun r hr => ?_⟩
  have hr : r = x := hr
  subst hr
  rw [last_wrap (by omega)]
  refine loop_n r.Frames.length (fun j => (((r.Frames.length : Nat) : Int) - 1 - (j : Int), r.Number, r.Frames.take (r.Frames.length - j), ())) (fun j => M.dropF r.Frames p.length = M.dropN r.Frames p.length (r.Frames.length - j)) (by simp) (by simp [M.dropF]) (fun j hj hF next hn => ?_) (fun hF next => ?_)
  · obtain ⟨m, hm⟩ : ∃ m, r.Frames.length - j = m + 1 := ⟨r.Frames.length - j - 1, by omega⟩
    have hm1 : r.Frames.length - (j + 1) = m := by omega
    rw [hm1] at hn
    rw [hm] at hF
    dsimp only
    rw [hm, show (((r.Frames.length : Nat) : Int) - 1 - (j : Int)) = (m : Int) by omega]
    rw [show (((r.Frames.length : Nat) : Int) - 1 - ((j + 1 : Nat) : Int)) = IntKind.wrap .i64 ((m : Int) - 1) by rw [w64 (by omega) (by omega)]; omega] at hn
    have hl : (r.Frames.take (m + 1)).length = m + 1 := by rw [List.length_take]; omega
    rw [hl, rd_take (Nat.lt_succ_self m), Int.toNat_natCast, take_take' (by omega)]
    have go : ¬ ((rd r.Frames (m : Int)).Pc ≠ (rd r.Frames (m : Int)).Stop ∧ (rd r.Frames (m : Int)).Pc ≠ ((p.length : Nat) : Int)) → next (IntKind.wrap .i64 ((m : Int) - 1), r.Number, r.Frames.take m, ()) := fun hc => hn (by rw [hF]; simp only [M.dropN]; rw [if_neg hc])
    refine bcase_t (by simp) ⟨by omega, ?_⟩
    refine bcase_mk (fun e1 => bcase_mk (fun e2 => ?_) fun e2 => ?_) fun e1 => ?_
    · simp only [M.dropN] at hF
      rw [if_pos ⟨by simpa using e1, by simpa using e2⟩] at hF
      show _ = M.dropW r p.length
      unfold M.dropW
      rw [hF]
    · exact ⟨by omega, go (fun hc => hc.2 (by simpa using e2))⟩
    · exact ⟨by omega, go (fun hc => hc.1 (by simpa using e1))⟩
  · rw [Nat.sub_self] at hF
    dsimp only
    rw [Nat.sub_self, List.take_zero]
    refine bcase_f (by simp; omega) ?_
    show _ = M.dropW r p.length
    unfold M.dropW
    rw [hF]; rfl
theorem set_cut {α : Type} {xs : List α} {lo hi k : Nat} {y : α} (h1 : lo ≤ hi) (h2 : hi ≤ xs.length) (hk : k < hi - lo) : xs.set (lo + k) y = xs.take lo ++ ((xs.take hi).drop lo).set k y ++ xs.drop hi := by
  apply List.ext_getElem?
  intro i
  have hl : (((xs.take hi).drop lo).set k y).length = hi - lo := by simp; omega
  rw [List.getElem?_append, List.length_append, hl, List.length_take, Nat.min_eq_left (by omega), List.getElem?_append, List.length_take, Nat.min_eq_left (by omega)]
  by_cases hi1 : i < lo
  · rw [if_pos (by omega), if_pos hi1, List.getElem?_set_ne (by omega), List.getElem?_take, if_pos hi1]
  · by_cases hi2 : i < hi
    · rw [if_pos (by omega), if_neg hi1]
      by_cases e : lo + k = i
      · subst e
        rw [List.getElem?_set_self (by omega), show lo + k - lo = k by omega, List.getElem?_set_self (by simp; omega)]
      · rw [List.getElem?_set_ne e, List.getElem?_set_ne (by omega), List.getElem?_drop, List.getElem?_take, if_pos (by omega)]
        congr 1; omega
    · rw [if_neg (by omega), List.getElem?_set_ne (by omega), List.getElem?_drop]
      congr 1; omega
theorem cut_self {α : Type} {xs : List α} {lo hi : Nat} (h1 : lo ≤ hi) (h2 : hi ≤ xs.length) : xs.take lo ++ (xs.take hi).drop lo ++ xs.drop hi = xs := by
  apply List.ext_getElem?
  intro i
  have hl : ((xs.take hi).drop lo).length = hi - lo := by simp; omega
  rw [List.getElem?_append, List.length_append, hl, List.length_take, Nat.min_eq_left (by omega), List.getElem?_append, List.length_take, Nat.min_eq_left (by omega)]
  by_cases hi1 : i < lo
  · rw [if_pos (by omega), if_pos hi1, List.getElem?_take, if_pos hi1]
  · by_cases hi2 : i < hi
    · rw [if_pos (by omega), if_neg hi1, List.getElem?_drop, List.getElem?_take, if_pos (by omega)]
      congr 1; omega
    · rw [if_neg (by omega), List.getElem?_drop]
      congr 1; omega
theorem wp.impl_apply_v.math (i : D.Ins) (t : Int) (xs : List Int) (lo hi : Nat) (h : M.impl_apply_v_pre i t xs lo hi) : wp.impl_apply_v i t xs lo hi (fun x => x = M.impl_apply_v i t xs lo hi) := by
  obtain ⟨hf, h1, h2⟩ := h
  obtain ⟨hl, hA, hB, hC⟩ := fits_regs hf
  have hl4 : hi - lo = 4 := by rw [← hl]; simp; omega
  have st : ∀ y, (0 ≤ i.A ∧ i.A ≤ 3) → xs.set (lo + i.A.toNat) y = xs.take lo ++ ((xs.take hi).drop lo).set i.A.toNat y ++ xs.drop hi := fun y ha => set_cut h1 h2 (by omega)
  have sf := cut_self h1 h2
  generalize hr : (xs.take hi).drop lo = r at *
  unfold wp.impl_apply_v
  simp only [hr, forall_eq]
  refine bcase_mk (fun e => ?_) fun n1 => bcase_mk (fun e => ?_) fun n2 => bcase_mk (fun e => ?_) fun n3 => bcase_mk (fun e => ?_) fun n4 => bcase_mk (fun e => ?_) fun n5 => bcase_mk (fun e => ?_) fun n6 => bcase_mk (fun e => ?_) fun n7 => bcase_mk (fun e => ?_) fun n8 => bcase_mk (fun e => ?_) fun n9 => ?_
  · have hk : i.Op = 1 := by simpa using e
    exact ⟨rd_reg hl (hA (by omega)), by rw [st _ (hA (by omega))]; simp [M.impl_apply_v, M.apply, hk, hr]⟩
  · have hk : i.Op = 2 := by simpa using e
    exact ⟨rd_reg hl (hB (by omega)), rd_reg hl (hA (by omega)), by rw [st _ (hA (by omega))]; simp [M.impl_apply_v, M.apply, hk, hr]⟩
  · have hk : i.Op = 3 := by simpa using e
    exact ⟨rd_reg hl (hB (by omega)), rd_reg hl (hC (by omega)), rd_reg hl (hA (by omega)), by rw [st _ (hA (by omega))]; simp [M.impl_apply_v, M.apply, hk, hr, M.spec_AddWords, M.impl_AddWords]⟩
  · have hk : i.Op = 4 := by simpa using e
    exact ⟨rd_reg hl (hB (by omega)), rd_reg hl (hC (by omega)), rd_reg hl (hA (by omega)), by rw [st _ (hA (by omega))]; simp [M.impl_apply_v, M.apply, hk, hr, M.spec_SubWords, M.impl_SubWords]⟩
  · have hk : i.Op = 5 := by simpa using e
    exact ⟨rd_reg hl (hB (by omega)), rd_reg hl (hC (by omega)), rd_reg hl (hA (by omega)), by rw [st _ (hA (by omega))]; simp [M.impl_apply_v, M.apply, hk, hr, M.spec_MulWords, M.impl_MulWords]⟩
  · have hk : i.Op = 6 := by simpa using e
    exact ⟨rd_reg hl (hB (by omega)), rd_reg hl (hC (by omega)), rd_reg hl (hA (by omega)), by rw [st _ (hA (by omega))]; simp [M.impl_apply_v, M.apply, hk, hr]⟩
  · have hk : i.Op = 7 := by simpa using e
    exact ⟨rd_reg hl (hB (by omega)), rd_reg hl (hC (by omega)), rd_reg hl (hA (by omega)), by rw [st _ (hA (by omega))]; simp [M.impl_apply_v, M.apply, hk, hr, M.spec_LessWords, M.impl_LessWords]⟩
  · have hk : i.Op = 8 := by simpa using e
    exact ⟨rd_reg hl (hA (by omega)), by rw [st _ (hA (by omega))]; simp [M.impl_apply_v, M.apply, hk, hr]⟩
  · have hk : i.Op = 9 := by simpa using e
    refine ⟨rd_reg hl (hC (by omega)), bcase_mk (fun e2 => ⟨rd_reg hl (hB (by omega)), rd_reg hl (hA (by omega)), ?_⟩) fun e2 => ?_⟩
    · have h2 : ¬ rd r i.C = 0 := by simpa using e2
      rw [st _ (hA (by omega))]
      simp [M.impl_apply_v, M.apply, hk, h2, hr]
    · have h2 : rd r i.C = 0 := by simpa using e2
      simp only [M.impl_apply_v, M.apply, hk, h2, hr]
      simpa using sf.symm
  · simp at n1 n2 n3 n4 n5 n6 n7 n8 n9
    simp only [M.impl_apply_v, M.apply, n1, n2, n3, n4, n5, n6, n7, n8, n9, hr, if_false]
    exact sf.symm
end Go.V
