import Derived.Test.YtdjkglkcohknbaaGreatVBase
import Derived.Test.YtdjkglkcohknbaaGreatVWords
import Derived.Test.YtdjkglkcohknbaaGreatVOwn
import Derived.Test.YtdjkglkcohknbaaGreatVLoop
import Derived.Test.YtdjkglkcohknbaaGreatVDeep
import Derived.Test.YtdjkglkcohknbaaGreatVEq
import Derived.Test.YtdjkglkcohknbaaGreatVCut
import Derived.Test.YtdjkglkcohknbaaGreatVPlc
import Derived.Test.YtdjkglkcohknbaaGreatVFoc
import Derived.Test.YtdjkglkcohknbaaGreatPure2
set_option linter.unusedVariables false
namespace Go.V.M
def newWarp (p : List D.Ins) (n : Int) : D.Warp := ⟨n, if p.length > 0 then [⟨0, p.length, 255⟩] else [], List.replicate 32 0⟩
def noWarp : D.Warp := ⟨0, [], []⟩
def impl_newWarp := newWarp
def impl_newWarp_pre (p : List D.Ins) (n : Int) : Prop := True
def slices_Clone_impl_Ins_impl_Ins (l : List D.Ins) : List D.Ins := l
def slices_Clone_impl_Ins_impl_Ins_pre (l : List D.Ins) : Prop := l.length ≤ 17179869184
def slices_Clone_impl_Frame_impl_Frame (l : List D.Frame) : List D.Frame := l
def slices_Clone_impl_Frame_impl_Frame_pre (l : List D.Frame) : Prop := l.length ≤ 17179869184
def WFit (x : D.Warp) : Prop := x.Frames.length ≤ 17179869184 ∧ x.Regs.length ≤ 17179869184
def impl_copyWarp (x : D.Warp) : D.Warp := x
def impl_copyWarp_pre (x : D.Warp) : Prop := WFit x
end Go.V.M
set_option linter.unusedVariables false
namespace Go.V.M
def impl_Warp_lane_pre (x : D.Warp) (l : Int) : Prop := x.Regs.length = 32 ∧ 0 ≤ l ∧ l ≤ 7
def activeMask (x : D.Warp) : Int := if x.Frames.isEmpty then 0 else (lastF x.Frames).Mask
def impl_ActiveMask := activeMask
def impl_ActiveMask_pre (x : D.Warp) : Prop := Long x.Frames
def bitAt (k : Int) : Int := IntKind.wrap .i64 (1 * 2 ^ (min (k.toNat) (IntKind.bits .i64)))
def zeroStep (x : D.Warp) (reg : Int) (m : Int) (k : Int) : Int := if rd x.Regs (k * 4 + reg) = 0 then bitOr .i64 m (bitAt k) else m
def zeroMask (x : D.Warp) (reg : Int) : Int := (lanesOf (activeMask x)).foldl (zeroStep x reg) 0
def impl_Warp_zeroMask := zeroMask
def impl_Warp_zeroMask_pre (x : D.Warp) (reg : Int) : Prop := Long x.Frames ∧ x.Regs.length = 32 ∧ isReg reg = true
def Runs (p : List D.Ins) (x : D.Warp) : Prop := programOk p = true ∧ warpOf p x = true ∧ x.Frames ≠ []
def topPc (x : D.Warp) : Int := (lastF x.Frames).Pc
def topIns (p : List D.Ins) (x : D.Warp) : D.Ins := rd p (topPc x)
def splits (p : List D.Ins) (x : D.Warp) : Bool :=
  ((topIns p x).Op == 10 && (topIns p x).B != topPc x + 1) && (zeroMask x (topIns p x).A != 0 && zeroMask x (topIns p x).A != (lastF x.Frames).Mask)
def impl_Warp_splits (x : D.Warp) (p : List D.Ins) : Bool := splits p x
def impl_Warp_splits_pre (x : D.Warp) (p : List D.Ins) : Prop := Runs p x
def spec_l13Local (p : List D.Ins) (x : D.Warp) : Bool := !x.Frames.isEmpty && (isLocal (topIns p x) && (!splits p x || decide (x.Frames.length ≤ 22)))
def canGo (b : D.Block) (w : Int) : Bool :=
  let x := rd b.Warps w
  !x.Frames.isEmpty && (!waits b w && (if isLocal (topIns b.Code x) then !splits b.Code x || decide (x.Frames.length ≤ 22) else (topIns b.Code x).Op != 16 || x.Frames.length == 1))
def pickFrom (b : D.Block) (n f : Int) : Nat → Int → Int
  | 0, _ => -1
  | r + 1, k => if canGo b (Int.tmod (f + k) n) then Int.tmod (f + k) n else pickFrom b n f r (k + 1)
def pick (b : D.Block) (q : Int) : Int := pickFrom b b.Warps.length (Int.tmod q b.Warps.length) b.Warps.length 0
end Go.V.M
set_option linter.unusedVariables false
namespace Go.V.M
def PSmall (p : List D.Ins) : Prop := p.length ≤ 2097152
def Row34 {α : Type} (l : List α) : Prop := l.length ≤ 17179869183
def idx (g : Int → Bool) : Nat → List Int
  | 0 => []
  | k + 1 => if g (k : Int) then idx g k ++ [(k : Int)] else idx g k
def isBr (p : List D.Ins) (k : Int) : Bool := (rd p k).Op == 10 && (rd p k).B != k + 1
def branches (p : List D.Ins) : List Int := if programOk p then idx (isBr p) p.length else []
def others (l : List Int) (n : Int) : List Int := l.filter fun x => x != n
def has (l : List Int) (n : Int) : Bool := l.any fun y => n == y
def nodeIn (p : List D.Ins) (k : Int) : Prop := 0 ≤ k ∧ k ≤ ((p.length : Nat) : Int)
def Node (p : List D.Ins) (k : Int) : Prop := programOk p = true ∧ nodeIn p k
def isNode (p : List D.Ins) (k : Int) : Bool := programOk p && isIn k 0 p.length
def putTwo (a b : Int) : List Int := if b < a then [b, a] else if b = a then [a] else [a, b]
def nextOf (p : List D.Ins) (k : Int) : List Int :=
  if k = p.length then [] else if (rd p k).Op = 12 then [((p.length : Nat) : Int)] else if (rd p k).Op = 11 then [(rd p k).B] else if (rd p k).Op = 10 then putTwo (k + 1) (rd p k).B else [k + 1]
def bfs (p : List D.Ins) (wo : Int) : Nat → List Int → List Bool → List Bool
  | 0, _, seen => seen
  | _ + 1, [], seen => seen
  | f + 1, k :: work, seen => if k = wo ∨ rd seen k = true then bfs p wo f work seen else bfs p wo f (work ++ nextOf p k) (seen.set k.toNat true)
def reached (p : List D.Ins) (frm : List Int) (wo : Int) : List Bool := bfs p wo (3 * (p.length + 1) + frm.length) frm (List.replicate (p.length + 1) false)
def exitB (p : List D.Ins) (k : Int) : Bool := rd (reached p [k] (-1)) p.length
def afterB (p : List D.Ins) (k later : Int) : Bool := !rd (reached p [k] later) p.length
def aftersOf (p : List D.Ins) (k : Int) : List Int := if isNode p k && exitB p k then idx (afterB p k) (p.length + 1) else []
def firstS (p : List D.Ins) (all : List Int) : List Int → Int
  | [] => -1
  | x :: l => if all.all (afterB p x) then x else firstS p all l
def firstI (p : List D.Ins) (all : List Int) : List Int → Int
  | [] => -1
  | x :: l => if all.all (fun z => exitB p x && afterB p x z) then x else firstI p all l
def firstAfter (p : List D.Ins) (k : Int) : Int := firstS p (others (aftersOf p k) k) (others (aftersOf p k) k)
def joinB (p : List D.Ins) (b : Int) : Int := if exitB p (b + 1) && exitB p (rd p b).B then firstAfter p b else p.length
def Starts (p : List D.Ins) (l : List Int) : Prop := programOk p = true ∧ (∀ x ∈ l, nodeIn p x) ∧ l.length ≤ 4
def Nodes (p : List D.Ins) (l : List Int) : Prop := Row34 l ∧ ∀ x ∈ l, Node p x
def Branch (p : List D.Ins) (b : Int) : Prop := programOk p = true ∧ 0 ≤ b ∧ b < ((p.length : Nat) : Int) ∧ isBr p b = true
def cmp_isNaN_int (x : Int) : Bool := false
def cmp_Less_int (x y : Int) : Bool := decide (x < y)
def sort2 (l : List Int) : List Int := if rd l 1 < rd l 0 then [rd l 1, rd l 0] else l
def slices_insertionSortOrdered_int (l : List Int) (a b : Int) : List Int := sort2 l
def slices_insertionSortOrdered_int_pre (l : List Int) (a b : Int) : Prop := l.length = 2 ∧ a = 0 ∧ b = 2
def math_bits_Len64 (x : Int) : Int := 2
def math_bits_Len64_pre (x : Int) : Prop := x = 2
def math_bits_Len (x : Int) : Int := 2
def math_bits_Len_pre (x : Int) : Prop := x = 2
def slices_pdqsortOrdered_int (l : List Int) (a b c : Int) : List Int := sort2 l
def slices_pdqsortOrdered_int_pre (l : List Int) (a b c : Int) : Prop := l.length = 2 ∧ a = 0 ∧ b = 2
def slices_Sort_int_int (l : List Int) : List Int := sort2 l
def slices_Sort_int_int_pre (l : List Int) : Prop := l.length = 2
def slices_Compact_int_int (l : List Int) : List Int := if rd l 1 = rd l 0 then l.take 1 else l
def slices_Compact_int_int_pre (l : List Int) : Prop := l.length = 2
def impl_next := nextOf
def impl_next_pre (p : List D.Ins) (k : Int) : Prop := Node p k
def impl_BranchesOf := branches
def impl_BranchesOf_pre (p : List D.Ins) : Prop := PSmall p
def impl_isBranch (p : List D.Ins) (b : Int) : Bool := has (branches p) b
def impl_isBranch_pre (p : List D.Ins) (b : Int) : Prop := PSmall p
def impl_reached := reached
def impl_reached_pre (p : List D.Ins) (l : List Int) (wo : Int) : Prop := Starts p l
def impl_reachesExit := exitB
def impl_reachesExit_pre (p : List D.Ins) (k : Int) : Prop := Node p k
def impl_isNode := isNode
def impl_isNode_pre (p : List D.Ins) (k : Int) : Prop := PSmall p
def impl_isAfter (p : List D.Ins) (k later : Int) : Bool := exitB p k && afterB p k later
def impl_isAfter_pre (p : List D.Ins) (k later : Int) : Prop := Node p k
def impl_IsAfter (p : List D.Ins) (k later : Int) : Bool := isNode p k && (isNode p later && (exitB p k && afterB p k later))
def impl_IsAfter_pre (p : List D.Ins) (k later : Int) : Prop := PSmall p
def impl_AftersOf := aftersOf
def impl_AftersOf_pre (p : List D.Ins) (k : Int) : Prop := PSmall p
def impl_FirstAfter_1 (x k : Int) : Bool := x == k
def impl_FirstAfter_1_pre (x k : Int) : Prop := True
def slices_DeleteFunc_int_int (l : List Int) (g : Int → Bool) : List Int := l.filter fun x => !g x
def slices_DeleteFunc_int_int_pre (l : List Int) (g : Int → Bool) (D : Int → Prop) : Prop := Long l ∧ ∀ x ∈ l, D x
def impl_firstOf_1 (z : Int) (p : List D.Ins) (x : Int) : Bool := !(exitB p x && afterB p x z)
def impl_firstOf_1_pre (z : Int) (p : List D.Ins) (x : Int) : Prop := Node p x
def impl_firstOf (p : List D.Ins) (l : List Int) : Int := firstI p l l
def impl_firstOf_pre (p : List D.Ins) (l : List Int) : Prop := Nodes p l
def impl_FirstAfter := firstAfter
def impl_FirstAfter_pre (p : List D.Ins) (k : Int) : Prop := PSmall p
def joinOf (p : List D.Ins) (b : Int) : Int := if has (branches p) b then joinB p b else -1
def impl_JoinOf := joinOf
def impl_JoinOf_pre (p : List D.Ins) (b : Int) : Prop := PSmall p
end Go.V.M
set_option linter.unusedVariables false
namespace Go.V.M
def dropN (fs : List D.Frame) (n : Int) : Nat → List D.Frame
  | 0 => []
  | k + 1 => if (rd fs (k : Int)).Pc ≠ (rd fs (k : Int)).Stop ∧ (rd fs (k : Int)).Pc ≠ n then fs.take (k + 1) else dropN fs n k
def dropF (fs : List D.Frame) (n : Int) : List D.Frame := dropN fs n fs.length
def dropW (x : D.Warp) (n : Int) : D.Warp := ⟨x.Number, dropF x.Frames n, x.Regs⟩
def impl_Warp_drop := dropW
def impl_Warp_drop_pre (x : D.Warp) (n : Int) : Prop := Long x.Frames
def laneCut (r : List Int) (l : Nat) : List Int := (r.take (l * 4 + 4)).drop (l * 4)
def putLane (r : List Int) (l : Nat) (x : List Int) : List Int := r.take (l * 4) ++ x ++ r.drop (l * 4 + 4)
def applyTo (i : D.Ins) (num m : Int) (r : List Int) : Nat → List Int
  | 0 => r
  | k + 1 => if hasLane m (k : Int) then putLane (applyTo i num m r k) k (apply i (num * 8 + (k : Int)) (laneCut r k)) else applyTo i num m r k
def applyAll (i : D.Ins) (num m : Int) (r : List Int) : List Int := applyTo i num m r 8
def impl_apply_v (i : D.Ins) (t : Int) (xs : List Int) (lo hi : Nat) : List Int := xs.take lo ++ apply i t ((xs.take hi).drop lo) ++ xs.drop hi
def impl_apply_v_pre (i : D.Ins) (t : Int) (xs : List Int) (lo hi : Nat) : Prop := Fits i ((xs.take hi).drop lo) ∧ lo ≤ hi ∧ hi ≤ xs.length
def turnPc (p : List D.Ins) (x : D.Warp) : Int :=
  if (topIns p x).Op = 12 then ((p.length : Nat) : Int) else if (topIns p x).Op = 11 then (topIns p x).B else if (topIns p x).Op = 10 ∧ zeroMask x (topIns p x).A = (lastF x.Frames).Mask then (topIns p x).B else topPc x + 1
def setTop (fs : List D.Frame) (pc : Int) : List D.Frame := fs.set (fs.length - 1) ⟨pc, (lastF fs).Stop, (lastF fs).Mask⟩
def advance (p : List D.Ins) (x : D.Warp) : D.Warp := ⟨x.Number, setTop x.Frames (turnPc p x), applyAll (topIns p x) x.Number (lastF x.Frames).Mask x.Regs⟩
def impl_Warp_advance (x : D.Warp) (p : List D.Ins) : D.Warp := advance p x
def impl_Warp_advance_pre (x : D.Warp) (p : List D.Ins) : Prop := Runs p x
def isSplit (p : List D.Ins) (x : D.Warp) : Prop := (topIns p x).Op = 10 ∧ (topIns p x).B ≠ topPc x + 1
def separated (p : List D.Ins) (x : D.Warp) : D.Warp :=
  ⟨x.Number, setTop x.Frames (joinB p (topPc x)) ++ [⟨topPc x + 1, joinB p (topPc x), bitNot .i64 (lastF x.Frames).Mask (zeroMask x (topIns p x).A)⟩, ⟨(topIns p x).B, joinB p (topPc x), zeroMask x (topIns p x).A⟩], x.Regs⟩
def impl_Warp_separate (x : D.Warp) (p : List D.Ins) : Bool × D.Warp := if x.Frames.length ≤ 22 then (true, separated p x) else (false, x)
def impl_Warp_separate_pre (x : D.Warp) (p : List D.Ins) : Prop := Runs p x ∧ isSplit p x
def stepW (p : List D.Ins) (x : D.Warp) : D.Warp := dropW (if splits p x then separated p x else advance p x) p.length
def Goes (p : List D.Ins) (x : D.Warp) : Prop := Runs p x ∧ spec_l13Local p x = true
def Fine (p : List D.Ins) (x : D.Warp) : Prop := programOk p = true ∧ warpOf p x = true
def impl_Warp_pass (x : D.Warp) (p : List D.Ins) : Bool × D.Warp := if spec_l13Local p x then (true, stepW p x) else (false, x)
def impl_Warp_pass_pre (x : D.Warp) (p : List D.Ins) : Prop := Fine p x
def runW (p : List D.Ins) : Nat → D.Warp → Int → D.Warp × Int
  | 0, x, n => (x, n)
  | k + 1, x, n => if spec_l13Local p x then runW p k (stepW p x) (n + 1) else (x, n)
def runWarp (p : List D.Ins) (x : D.Warp) (steps : Int) : D.Warp × Int := if isQuiet p && (spec_WarpOk p x && isIn steps 0 8000) then runW p steps.toNat x 0 else (x, -1)
def impl_RunWarp := runWarp
def impl_RunWarp_pre (p : List D.Ins) (x : D.Warp) (steps : Int) : Prop := Long p ∧ WFit x
def impl_WarpOk := spec_WarpOk
def impl_WarpOk_pre (p : List D.Ins) (x : D.Warp) : Prop := Long p ∧ WLong x
def warpResult (p : List D.Ins) (w : Int) : D.Warp × Int × Bool :=
  if isQuiet p && isIn w 0 2 then (if (runW p 8000 (newWarp p w) 0).1.Frames.isEmpty then ((runW p 8000 (newWarp p w) 0).1, (runW p 8000 (newWarp p w) 0).2, true) else (noWarp, 0, false)) else (noWarp, 0, false)
def impl_WarpResult := warpResult
def impl_WarpResult_pre (p : List D.Ins) (w : Int) : Prop := Long p
def wAt (p : List D.Ins) (x : D.Warp) : Nat → D.Warp
  | 0 => x
  | k + 1 => stepW p (wAt p x k)
def countTo (m : Int) : Nat → Int
  | 0 => 0
  | k + 1 => if hasLane m (k : Int) then countTo m k + 1 else countTo m k
def countLanes (m : Int) : Int := if isMask m then countTo m 8 else -1
def impl_CountLanes := countLanes
def impl_CountLanes_pre (m : Int) : Prop := True
def math_bits_OnesCount64 (m : Int) : Int := countTo m 8
def math_bits_OnesCount64_pre (m : Int) : Prop := isMask m = true
def math_bits_OnesCount (m : Int) : Int := countTo m 8
def math_bits_OnesCount_pre (m : Int) : Prop := isMask m = true
def costOne (p : List D.Ins) (x : D.Warp) (c : D.Cost) : D.Cost := ⟨c.Steps + 1, c.Active + countLanes (activeMask x), if splits p x then c.Splits + 1 else c.Splits⟩
def costTo (p : List D.Ins) (x : D.Warp) : Nat → D.Cost
  | 0 => ⟨0, 0, 0⟩
  | k + 1 => costOne p (wAt p x k) (costTo p x k)
def costOf (p : List D.Ins) (w : Int) : D.Cost × Bool := if (warpResult p w).2.2 then (costTo p (newWarp p w) (warpResult p w).2.1.toNat, true) else (⟨0, 0, 0⟩, false)
def spec_CostOf := costOf
def spec_CostOf_pre (p : List D.Ins) (w : Int) : Prop := Long p
def CostFit (c : D.Cost) : Prop := 0 ≤ c.Steps ∧ c.Steps ≤ 100000000 ∧ 0 ≤ c.Active ∧ c.Active ≤ 100000000 ∧ 0 ≤ c.Splits ∧ c.Splits ≤ 100000000
def impl_CostOf_1 (x : D.Warp) (c : D.Cost) (p : List D.Ins) : D.Cost := if x.Frames.isEmpty then c else costOne p x c
def impl_CostOf_1_pre (x : D.Warp) (c : D.Cost) (p : List D.Ins) : Prop := Fine p x ∧ CostFit c
def impl_visit_b (p : List D.Ins) (w : Int) (c : D.Cost) (q : List D.Ins) : Bool × D.Cost := if (warpResult p w).2.2 then (true, costTo p (newWarp p w) (warpResult p w).2.1.toNat) else (false, c)
def impl_visit_b_pre (p : List D.Ins) (w : Int) (c : D.Cost) (q : List D.Ins) : Prop := Long p ∧ q = p ∧ c = ⟨0, 0, 0⟩
def impl_CostOf := costOf
def impl_CostOf_pre (p : List D.Ins) (w : Int) : Prop := Long p
def isTarget (o : Int) : Bool := o == 10 || o == 11
def impl_isTarget := isTarget
def noTarget (b : Int) (i : D.Ins) : Bool := !(isTarget i.Op && i.B == b + 1)
def canPred (p : List D.Ins) (b : Int) : Bool :=
  isQuiet p && (isIn b 0 (((p.length : Nat) : Int) - 2) && ((rd p b).Op == 10 && ((rd p b).B == b + 2 && ((rd p (b + 1)).Op == 2 && ((rd p (b + 1)).A != (rd p b).A && p.all (noTarget b))))))
def impl_CanPredicate_1 (i : D.Ins) (b : Int) : Bool := !noTarget b i
def impl_CanPredicate_1_pre (i : D.Ins) (b : Int) : Prop := 0 ≤ b ∧ b ≤ 100000000
def impl_CanPredicate := canPred
def impl_CanPredicate_pre (p : List D.Ins) (b : Int) : Prop := PSmall p
def predicate (p : List D.Ins) (b : Int) : List D.Ins × Bool :=
  if canPred p b then ((p.set b.toNat ⟨0, 0, 0, 0⟩).set (b + 1).toNat ⟨9, (rd p (b + 1)).A, (rd p (b + 1)).B, (rd p b).A⟩, true) else (p, false)
def impl_Predicate := predicate
def impl_Predicate_pre (p : List D.Ins) (b : Int) : Prop := PSmall p
def predTo (p : List D.Ins) : Nat → List D.Ins × Int
  | 0 => (p, 0)
  | k + 1 => if (predicate (predTo p k).1 (k : Int)).2 then ((predicate (predTo p k).1 (k : Int)).1, (predTo p k).2 + 1) else predTo p k
def predicateAll (p : List D.Ins) : List D.Ins × Int := predTo p p.length
def spec_PredicateAll := predicateAll
def spec_PredicateAll_pre (p : List D.Ins) : Prop := PSmall p
def impl_PredicateAll := predicateAll
def impl_PredicateAll_pre (p : List D.Ins) : Prop := PSmall p
def savedSplits (p : List D.Ins) (w : Int) : Int := if (costOf p w).2 && (costOf (predicateAll p).1 w).2 then IntKind.wrap .i64 ((costOf p w).1.Splits - (costOf (predicateAll p).1 w).1.Splits) else 0
def spec_SavedSplits := savedSplits
def spec_SavedSplits_pre (p : List D.Ins) (w : Int) : Prop := PSmall p
def impl_SavedSplits := savedSplits
def impl_SavedSplits_pre (p : List D.Ins) (w : Int) : Prop := PSmall p
end Go.V.M
set_option linter.unusedVariables false
namespace Go.V.M
def once (c : D.Cur) (n : Int) : Bool × D.Cur := ((spec_l01Below c n).1 == 0, (spec_l01Below c n).2)
def spec_l01Once := once
def spec_l01Once_pre (c : D.Cur) (n : Int) : Prop := CurOk c
def setB (p : List D.Ins) (k : Nat) (v : Int) : List D.Ins := p.set k ⟨(rd p (k : Int)).Op, (rd p (k : Int)).A, v, (rd p (k : Int)).C⟩
def loopHead (p : List D.Ins) : List D.Ins := p ++ [(⟨8, 3, 0, 0⟩ : D.Ins)]
def loopAll (p : List D.Ins) : List D.Ins := ((loopHead p ++ [(⟨10, 3, 0, 0⟩ : D.Ins)]) ++ [(⟨3, 0, 0, 1⟩ : D.Ins), (⟨1, 2, 1, 0⟩ : D.Ins), (⟨4, 3, 3, 2⟩ : D.Ins)]) ++ [(⟨11, 0, (((loopHead p).length : Nat) : Int), 0⟩ : D.Ins)]
def countLoop (p : List D.Ins) : List D.Ins := setB (loopAll p) (loopHead p).length (((loopAll p).length : Nat) : Int)
def branchIn (rec : D.Cur → List D.Ins → List D.Ins × D.Cur) (c : D.Cur) (p : List D.Ins) : List D.Ins × D.Cur := rec (spec_l01Below c 4).2 (p ++ [⟨10, (spec_l01Below c 4).1, 0, 0⟩])
def elseIn (rec : D.Cur → List D.Ins → List D.Ins × D.Cur) (c : D.Cur) (p q : List D.Ins) : List D.Ins × D.Cur := rec c (setB (q ++ [⟨11, 0, 0, 0⟩]) p.length (((q ++ [(⟨11, 0, 0, 0⟩ : D.Ins)]).length : Nat) : Int))
def ifIn (rec : D.Cur → List D.Ins → List D.Ins × D.Cur) (c : D.Cur) (p : List D.Ins) : List D.Ins × D.Cur :=
  if (once (branchIn rec c p).2 2).1 then (setB (branchIn rec c p).1 p.length (((branchIn rec c p).1.length : Nat) : Int), (once (branchIn rec c p).2 2).2)
  else (setB (elseIn rec (once (branchIn rec c p).2 2).2 p (branchIn rec c p).1).1 (branchIn rec c p).1.length (((elseIn rec (once (branchIn rec c p).2 2).2 p (branchIn rec c p).1).1.length : Nat) : Int), (elseIn rec (once (branchIn rec c p).2 2).2 p (branchIn rec c p).1).2)
def bodyOne (rec : D.Cur → List D.Ins → List D.Ins × D.Cur) (deep : Bool) (c : D.Cur) (p : List D.Ins) : List D.Ins × D.Cur :=
  if (spec_l01Below c 5).1 = 0 then (if deep then ifIn rec (spec_l01Below c 5).2 p else (p, (spec_l01Below c 5).2))
  else if (spec_l01Below c 5).1 = 1 then (if deep ∧ ¬ ((p.length : Nat) : Int) > 14 then (countLoop p, (spec_l01Below c 5).2) else (p, (spec_l01Below c 5).2))
  else (p ++ [(spec_l04Plain (spec_l01Below c 5).2).1], (spec_l04Plain (spec_l01Below c 5).2).2)
def bodyN (rec : D.Cur → List D.Ins → List D.Ins × D.Cur) (deep : Bool) : Nat → D.Cur → List D.Ins → List D.Ins × D.Cur
  | 0, c, p => (p, c)
  | n + 1, c, p => if ((p.length : Nat) : Int) < 20 then bodyN rec deep n (bodyOne rec deep c p).2 (bodyOne rec deep c p).1 else (p, c)
def body : Nat → D.Cur → List D.Ins → List D.Ins × D.Cur
  | 0, c, p => bodyN (fun c p => (p, c)) false (spec_l01Below c 4).1.toNat (spec_l01Below c 4).2 p
  | d + 1, c, p => bodyN (body d) true (spec_l01Below c 4).1.toNat (spec_l01Below c 4).2 p
def spec_l05Body (c : D.Cur) (p : List D.Ins) (d : Int) : List D.Ins × D.Cur := body d.toNat c p
def spec_l05Body_pre (c : D.Cur) (p : List D.Ins) (d : Int) : Prop := CurOk c ∧ p.length ≤ 24 ∧ 0 ≤ d ∧ d ≤ 2
end Go.V.M
set_option linter.unusedVariables false
namespace Go.V.M
def impl_CountOps (p : List D.Ins) (op : Int) : Int := ((p.countP fun i => i.Op == op : Nat) : Int)
def impl_CountOps_pre (p : List D.Ins) (op : Int) : Prop := Long p
def shortHead (c : D.Cur) : List D.Ins := [⟨8, 0, 0, 0⟩, ⟨1, 1, (spec_l01Below c 6).1, 0⟩, ⟨7, 2, 0, 1⟩]
def shortPlain (c : D.Cur) (p : List D.Ins) : List D.Ins × D.Cur := if (once c 3).1 then (p ++ [(spec_l04Plain (once c 3).2).1], (spec_l04Plain (once c 3).2).2) else (p, (once c 3).2)
def shortOne (c : D.Cur) (p : List D.Ins) : List D.Ins × D.Cur :=
  ((shortPlain c p).1 ++ [⟨10, (spec_l01Below (shortPlain c p).2 4).1, (((shortPlain c p).1.length + 2 : Nat) : Int), 0⟩, ⟨2, (spec_l01Below (spec_l01Below (shortPlain c p).2 4).2 4).1, (spec_l01Below (spec_l01Below (spec_l01Below (shortPlain c p).2 4).2 4).2 4).1, 0⟩], (spec_l01Below (spec_l01Below (spec_l01Below (shortPlain c p).2 4).2 4).2 4).2)
def shortN : Nat → Int → D.Cur → List D.Ins → List D.Ins × D.Cur
  | 0, k, c, p => (p, (spec_l01Below c 4).2)
  | f + 1, k, c, p => if k < 1 + (spec_l01Below c 4).1 then shortN f (k + 1) (shortOne (spec_l01Below c 4).2 p).2 (shortOne (spec_l01Below c 4).2 p).1 else (p, (spec_l01Below c 4).2)
def spec_l18Short (c : D.Cur) : List D.Ins × D.Cur := shortN 4 0 (spec_l01Below c 6).2 (shortHead c)
def spec_l18Short_pre (c : D.Cur) : Prop := CurOk c
def spec_DrawShort (b : List Int) : List D.Ins := (spec_l18Short (spec_l01New b)).1
def spec_DrawShort_pre (b : List Int) : Prop := Long b
def laws_FnPredicates (b : List Int) : Bool := true
def laws_FnPredicates_pre (b : List Int) : Prop := Long b
end Go.V.M
set_option linter.unusedVariables false
namespace Go.V
def wp.impl_within (x0 : Int) (x1 : Int) (x2 : Int) (Q : Bool → Prop) : Prop :=
  bcase (decide (x0 ≥ x1)) (Q (decide (x0 ≤ x2))) (Q false)
def wp.impl_IsWord (x0 : Int) (Q : Bool → Prop) : Prop :=
  (∀ r21, r21 = M.impl_within x0 0 65535 → Q r21)
def wp.impl_IsMask (x0 : Int) (Q : Bool → Prop) : Prop :=
  (∀ r21, r21 = M.impl_within x0 0 255 → Q r21)
def wp.impl_isLane (x0 : Int) (Q : Bool → Prop) : Prop :=
  (∀ r21, r21 = M.impl_within x0 0 7 → Q r21)
def wp.impl_HasLane (x0 : Int) (x1 : Int) (Q : Bool → Prop) : Prop :=
  (∀ r21, r21 = M.impl_IsMask x0 → bcase r21 ((∀ r26, r26 = M.impl_isLane x1 → bcase r26 (((0 ≤ x1) ∧ Q ((bitAnd .i64 (Int.fdiv x0 (2 ^ (min (x1.toNat) (IntKind.bits .i64)))) 1) == 1))) (Q false))) (Q false))
def wp.impl_LanesOf (x0 : Int) (Q : (List Int) → Prop) : Prop :=
  LoopP (σ := (List Int) × Int × Unit) (fun (p54 : (List Int) × Int × Unit) next31 => match p54 with | (xs24, i27, _) => bcase (decide (i27 < 8)) ((∀ r33, r33 = M.impl_HasLane x0 i27 → bcase r33 (((xs24.length + ([i27] : List Int).length ≤ 17179869184) ∧ next31 ((xs24 ++ ([i27] : List Int)), (IntKind.wrap .i64 (i27 + 1)), ()))) (next31 (xs24, (IntKind.wrap .i64 (i27 + 1)), ())))) (Q xs24)) (([] : List Int), 0, ())
end Go.V
set_option linter.unusedVariables false
set_option linter.unusedSimpArgs false
namespace Go.V
theorem wp.impl_within.math (x a b : Int) : wp.impl_within x a b (fun r => r = M.impl_within x a b) := by
  simp only [wp.impl_within, bcase_iff, M.impl_within, M.isIn]
  exact ⟨fun h => by simp at h; simp [h], fun h => by simp at h; simp; omega⟩
theorem wp.impl_IsWord.math (x : Int) : wp.impl_IsWord x (fun r => r = M.impl_IsWord x) := fun r h => h
theorem wp.impl_IsMask.math (x : Int) : wp.impl_IsMask x (fun r => r = M.impl_IsMask x) := fun r h => h
theorem wp.impl_isLane.math (x : Int) : wp.impl_isLane x (fun r => r = M.impl_isLane x) := fun r h => h
theorem wp.impl_HasLane.math (m l : Int) : wp.impl_HasLane m l (fun r => r = M.impl_HasLane m l) := by
  intro r1 h1
  refine bcase_mk (fun e1 r2 h2 => bcase_mk (fun e2 => ?_) fun e2 => ?_) fun e1 => ?_
  · have : M.isLane l = true := by rw [← e2, h2]; rfl
    have h0 : 0 ≤ l := by simp [M.isLane, M.isIn] at this; omega
    refine ⟨h0, ?_⟩
    have e1' : M.isMask m = true := by rw [← e1, h1]; rfl
    simp [M.impl_HasLane, M.hasLane, e1', this]
  · have : M.isLane l = false := by rw [← e2, h2]; rfl
    simp [M.impl_HasLane, M.hasLane, this]
  · have : M.isMask m = false := by rw [← e1, h1]; rfl
    simp [M.impl_HasLane, M.hasLane, this]
theorem wp.impl_LanesOf.math (m : Int) : wp.impl_LanesOf m (fun r => r = M.impl_LanesOf m) := by
  unfold wp.impl_LanesOf
  refine ⟨fun k p => (k : Int) = 8 - p.2.1 ∧ 0 ≤ p.2.1 ∧ p.2.1 ≤ 8 ∧ p.1 = ([0, 1, 2, 3, 4, 5, 6, 7].take p.2.1.toNat).filter (M.hasLane m), ⟨8, by simp⟩, ?_⟩
  rintro k ⟨xs, i, _⟩ ⟨hk, h0, h8, hx⟩
  simp only at hk h0 h8 hx ⊢
  refine bcase_mk (fun e => ?_) fun e => ?_
  · have hlt : i < 8 := by simpa using e
    intro r hr
    have hs : (([0, 1, 2, 3, 4, 5, 6, 7] : List Int).take (i + 1).toNat) = ([0, 1, 2, 3, 4, 5, 6, 7] : List Int).take i.toNat ++ [i] := by
      have : i = 0 ∨ i = 1 ∨ i = 2 ∨ i = 3 ∨ i = 4 ∨ i = 5 ∨ i = 6 ∨ i = 7 := by omega
      rcases this with rfl | rfl | rfl | rfl | rfl | rfl | rfl | rfl <;> rfl
    have hw : IntKind.wrap .i64 (i + 1) = i + 1 := w64 (by omega) (by omega)
    refine bcase_mk (fun e2 => ⟨?_, (k - 1), by omega, ?_⟩) fun e2 => ⟨k - 1, by omega, ?_⟩
    · rw [hx]
      have := List.length_filter_le (M.hasLane m) (([0, 1, 2, 3, 4, 5, 6, 7] : List Int).take i.toNat)
      simp at this ⊢; omega
    · simp only [hw, hs, List.filter_append]
      refine ⟨by omega, by omega, by omega, ?_⟩
      rw [hx, List.filter_cons, if_pos (by rw [← e2, hr]; rfl)]; rfl
    · simp only [hw, hs, List.filter_append]
      refine ⟨by omega, by omega, by omega, ?_⟩
      rw [hx, List.filter_cons, if_neg (by rw [show M.hasLane m i = r from hr.symm, e2]; simp)]; simp
  · have : i = 8 := by simp at e; omega
    subst this
    rw [hx]; rfl
end Go.V
set_option linter.unusedVariables false
namespace Go.V
def wp.slices_IndexFunc_int_int (xs0 : List Int) (g1 : Int → Bool) (D1 : Int → Prop) (Q : Int → Prop) : Prop :=
  LoopP (σ := Int × Unit) (fun (p42 : Int × Unit) next25 => match p42 with | (i21, _) => bcase (decide (i21 < ((xs0.length : Nat) : Int))) (((0 ≤ i21 ∧ i21 < ((xs0.length : Nat) : Int)) ∧ (D1 (rd xs0 i21) ∧ ∀ r32, r32 = g1 (rd xs0 i21) → bcase r32 (Q i21) (next25 ((IntKind.wrap .i64 (i21 + 1)), ()))))) (Q (-1))) (0, ())
def wp.slices_ContainsFunc_int_int (xs0 : List Int) (g1 : Int → Bool) (D1 : Int → Prop) (Q : Bool → Prop) : Prop :=
  (M.slices_IndexFunc_int_int_pre xs0 g1 D1 ∧ ∀ r21, r21 = M.slices_IndexFunc_int_int xs0 g1 → Q (decide (r21 ≥ 0)))
def wp.impl_AreWords_1 (x0 : Int) (Q : Bool → Prop) : Prop :=
  (∀ r21, r21 = M.impl_IsWord x0 → Q (!r21))
def wp.impl_AreWords (xs0 : List Int) (Q : Bool → Prop) : Prop :=
  (M.slices_ContainsFunc_int_int_pre xs0 (fun z0_ => M.impl_AreWords_1 z0_) (fun _ => True) ∧ ∀ r21, r21 = M.slices_ContainsFunc_int_int xs0 (fun z0_ => M.impl_AreWords_1 z0_) → Q (!r21))
def wp.impl_WrapWord (x0 : Int) (Q : Int → Prop) : Prop :=
  Q (bitAnd .i64 x0 65535)
def wp.impl_wrapped (x0 : Int) (x1 : Int) (x2 : Int) (Q : Int → Prop) : Prop :=
  (∀ r21, r21 = M.impl_IsWord x0 → bcase (!r21) (Q 0) ((∀ r26, r26 = M.impl_IsWord x1 → bcase (!r26) (Q 0) ((∀ r31, r31 = M.impl_WrapWord x2 → Q r31)))))
def wp.impl_AddWords (x0 : Int) (x1 : Int) (Q : Int → Prop) : Prop :=
  (∀ r21, r21 = M.impl_wrapped x0 x1 (IntKind.wrap .i64 (x0 + x1)) → Q r21)
end Go.V
set_option linter.unusedVariables false
set_option linter.unusedSimpArgs false
namespace Go.V
theorem isWord_iff {x : Int} : M.isWord x = true ↔ 0 ≤ x ∧ x ≤ 65535 := by simp [M.isWord, M.isIn]
theorem rd_mem {α : Type} [Inhabited α] {xs : List α} {k : Nat} (h : k < xs.length) : rd xs (k : Int) ∈ xs := by rw [rd_nat h]; exact List.getElem_mem h
theorem nt {r x : Bool} (e : (!r) = true) (h : r = x) : x = false := by subst h; simpa using e
theorem nf {r x : Bool} (e : (!r) = false) (h : r = x) : x = true := by subst h; simpa using e
theorem bitAnd_mod (x : Int) : bitAnd .i64 x 65535 = x % 65536 := by
  unfold bitAnd
  have e1 : (BitVec.ofInt (IntKind.bits .i64) x &&& BitVec.ofInt (IntKind.bits .i64) 65535).toNat = (x % 65536).toNat := by
    show (BitVec.ofInt 64 x &&& BitVec.ofInt 64 65535).toNat = _
    rw [BitVec.toNat_and, BitVec.toNat_ofInt, show (BitVec.ofInt 64 65535).toNat = 2 ^ 16 - 1 from rfl, Nat.and_two_pow_sub_one_eq_mod]
    rw [show ((2 ^ 64 : Nat) : Int) = 18446744073709551616 from rfl]
    omega
  rw [e1, w64 (by omega) (by omega)]
  omega
theorem wp.impl_WrapWord.math (x : Int) : wp.impl_WrapWord x (fun r => r = M.impl_WrapWord x) := bitAnd_mod x
theorem wp.impl_wrapped.math (a b n : Int) : wp.impl_wrapped a b n (fun r => r = M.impl_wrapped a b n) := by
  intro r1 h1
  refine bcase_mk (fun e1 => ?_) fun e1 r2 h2 => bcase_mk (fun e2 => ?_) fun e2 r3 h3 => ?_
  · have : M.isWord a = false := nt e1 h1
    simp [M.impl_wrapped, this]
  · have : M.isWord b = false := nt e2 h2
    simp [M.impl_wrapped, this]
  · have ha : M.isWord a = true := nf e1 h1
    have hb : M.isWord b = true := nf e2 h2
    rw [h3]
    simp [M.impl_wrapped, M.impl_WrapWord, ha, hb]
theorem wp.impl_AddWords.math (a b : Int) : wp.impl_AddWords a b (fun r => r = M.impl_AddWords a b) := by
  intro r hr
  rw [hr]
  simp only [M.impl_wrapped, M.impl_AddWords, M.addW]
  by_cases h : (M.isWord a && M.isWord b) = true
  · rw [if_pos h, if_pos h]
    simp only [Bool.and_eq_true, isWord_iff] at h
    rw [w64 (by omega) (by omega)]
  · rw [if_neg h, if_neg h]
theorem firstIx_from {α : Type} [Inhabited α] (g : α → Bool) (l : List α) : ∀ (k : Nat), k < l.length → M.firstIx g (l.drop k) k = if g (rd l (k : Int)) then (k : Int) else M.firstIx g (l.drop (k + 1)) (k + 1) := by
  intro k hk
  rw [List.drop_eq_getElem_cons hk, rd_nat hk]; rfl
theorem wp.slices_IndexFunc_int_int.math (l : List Int) (g : Int → Bool) (D : Int → Prop) (h : M.slices_IndexFunc_int_int_pre l g D) : wp.slices_IndexFunc_int_int l g D (fun r => r = M.slices_IndexFunc_int_int l g) := by
  unfold wp.slices_IndexFunc_int_int
  obtain ⟨h1, h2⟩ := h
  refine loop_n l.length (fun k => ((k : Int), ())) (fun k => M.slices_IndexFunc_int_int l g = M.firstIx g (l.drop k) k) rfl (by simp [M.slices_IndexFunc_int_int]) (fun k hk hF next hn => ?_) fun hF next => ?_
  · rw [firstIx_from g l k hk] at hF
    refine bcase_t (by simp; omega) ⟨by omega, h2 _ (rd_mem hk), fun r hr => bcase_mk (fun e => ?_) fun e => ?_⟩
    · rw [hF, if_pos (by rw [← hr]; exact e)]
    · rw [up64 hk h1]
      exact hn (by rw [hF, if_neg (by rw [← hr, e]; simp)])
  · refine bcase_f (by simp) ?_
    rw [hF]; simp [M.firstIx]
theorem firstIx_nonneg {α : Type} (g : α → Bool) : ∀ (l : List α) (k : Nat), decide (M.firstIx g l k ≥ 0) = l.any g
  | [], k => by simp [M.firstIx]
  | x :: l, k => by
    simp only [M.firstIx, List.any_cons]
    by_cases hx : g x = true
    · simp [hx]
    · simp only [hx, Bool.false_eq_true, if_false, Bool.false_or]; simpa [hx] using firstIx_nonneg g l (k + 1)
theorem wp.slices_ContainsFunc_int_int.math (l : List Int) (g : Int → Bool) (D : Int → Prop) (h : M.slices_ContainsFunc_int_int_pre l g D) : wp.slices_ContainsFunc_int_int l g D (fun r => r = M.slices_ContainsFunc_int_int l g) :=
  ⟨h, fun r hr => by rw [hr]; exact firstIx_nonneg g l 0⟩
theorem wp.impl_AreWords_1.math (x : Int) : wp.impl_AreWords_1 x (fun r => r = M.impl_AreWords_1 x) := fun r hr => by rw [hr]; rfl
theorem wp.impl_AreWords.math (l : List Int) (h : M.impl_AreWords_pre l) : wp.impl_AreWords l (fun r => r = M.impl_AreWords l) := by
  refine ⟨⟨h, fun _ _ => trivial⟩, fun r hr => ?_⟩
  rw [hr]
  simp only [M.slices_ContainsFunc_int_int, M.impl_AreWords, M.impl_AreWords_1]
  rw [← List.all_eq_not_any_not]
theorem isWord_mod (x : Int) : M.isWord (x % 65536) = true := isWord_iff.2 ⟨by omega, by omega⟩
end Go.V
set_option linter.unusedVariables false
namespace Go.V
def wp.spec_LessWords (x0 : Int) (x1 : Int) (Q : Int → Prop) : Prop :=
  (∀ r21, r21 = M.spec_IsWord x0 → bcase r21 ((∀ r26, r26 = M.spec_IsWord x1 → bcase r26 (bcase (decide (x0 < x1)) (Q 1) (Q 0)) (Q 0))) (Q 0))
def wp.impl_isThread (x0 : Int) (Q : Bool → Prop) : Prop :=
  (∀ r21, r21 = M.impl_within x0 0 23 → Q r21)
def wp.impl_LaneNew (x0 : Int) (Q : D.Lane → Prop) : Prop :=
  (∀ r23, r23 = M.impl_isThread x0 → bcase (!r23) (Q (⟨0, 0, ([] : List Int)⟩ : D.Lane)) (((0 ≤ (4 : Int) ∧ (4 : Int) ≤ 17179869184) ∧ Q (⟨x0, 0, (List.replicate ((4 : Int).toNat) (default : Int))⟩ : D.Lane))))
def wp.slices_Clone_int_int (xs0 : List Int) (Q : (List Int) → Prop) : Prop :=
  (∀ b21 : Bool, (b21 = true → xs0 = []) → bcase b21 (Q ([] : List Int)) (((([] : List Int).length + xs0.length ≤ 17179869184) ∧ Q (([] : List Int) ++ xs0))))
def wp.impl_copyLane (s0 : D.Lane) (Q : D.Lane → Prop) : Prop :=
  (M.slices_Clone_int_int_pre s0.Regs ∧ ∀ r25, r25 = M.slices_Clone_int_int s0.Regs → Q (⟨s0.Thread, s0.Pc, r25⟩ : D.Lane))
def wp.impl_formOf (x0 : Int) (Q : ByteArray → Prop) : Prop :=
  (∀ r21, r21 = M.impl_within x0 0 16 → bcase (!r21) (Q (⟨#[]⟩)) (((0 ≤ x0 ∧ x0 < ((([⟨#[45, 45, 45]⟩, ⟨#[82, 87, 45]⟩, ⟨#[82, 82, 45]⟩, ⟨#[82, 82, 82]⟩, ⟨#[82, 82, 82]⟩, ⟨#[82, 82, 82]⟩, ⟨#[82, 82, 82]⟩, ⟨#[82, 82, 82]⟩, ⟨#[82, 45, 45]⟩, ⟨#[82, 82, 82]⟩, ⟨#[82, 84, 45]⟩, ⟨#[45, 84, 45]⟩, ⟨#[45, 45, 45]⟩, ⟨#[82, 82, 45]⟩, ⟨#[82, 82, 45]⟩, ⟨#[82, 82, 45]⟩, ⟨#[45, 45, 45]⟩] : List ByteArray).length : Nat) : Int)) ∧ Q (rd ([⟨#[45, 45, 45]⟩, ⟨#[82, 87, 45]⟩, ⟨#[82, 82, 45]⟩, ⟨#[82, 82, 82]⟩, ⟨#[82, 82, 82]⟩, ⟨#[82, 82, 82]⟩, ⟨#[82, 82, 82]⟩, ⟨#[82, 82, 82]⟩, ⟨#[82, 45, 45]⟩, ⟨#[82, 82, 82]⟩, ⟨#[82, 84, 45]⟩, ⟨#[45, 84, 45]⟩, ⟨#[45, 45, 45]⟩, ⟨#[82, 82, 45]⟩, ⟨#[82, 82, 45]⟩, ⟨#[82, 82, 45]⟩, ⟨#[45, 45, 45]⟩] : List ByteArray) x0))))
def wp.impl_isReg (x0 : Int) (Q : Bool → Prop) : Prop :=
  (∀ r21, r21 = M.impl_within x0 0 3 → Q r21)
def wp.impl_isField (x0 : Int) (x1 : Int) (x2 : Int) (Q : Bool → Prop) : Prop :=
  bcase (x0 == 82) ((∀ r21, r21 = M.impl_isReg x1 → Q r21)) (bcase (x0 == 87) ((∀ r26, r26 = M.impl_IsWord x1 → Q r26)) (bcase (x0 == 84) ((∀ r31, r31 = M.impl_within x1 0 x2 → Q r31)) (Q (x1 == 0))))
def wp.impl_InsOk (s0 : D.Ins) (x1 : Int) (Q : Bool → Prop) : Prop :=
  (∀ r23, r23 = M.impl_formOf s0.Op → bcase (!(ByteArray.toList r23 == ByteArray.toList (⟨#[]⟩))) ((∀ r28, r28 = M.impl_within x1 0 32 → bcase r28 (((0 ≤ (0 : Int) ∧ (0 : Int) < ((ByteArray.size r23 : Nat) : Int)) ∧ (M.impl_isField_pre (bt r23 0) s0.A x1 ∧ ∀ r38, r38 = M.impl_isField (bt r23 0) s0.A x1 → bcase r38 (((0 ≤ (1 : Int) ∧ (1 : Int) < ((ByteArray.size r23 : Nat) : Int)) ∧ (M.impl_isField_pre (bt r23 1) s0.B x1 ∧ ∀ r48, r48 = M.impl_isField (bt r23 1) s0.B x1 → bcase r48 (((0 ≤ (2 : Int) ∧ (2 : Int) < ((ByteArray.size r23 : Nat) : Int)) ∧ (M.impl_isField_pre (bt r23 2) s0.C x1 ∧ ∀ r58, r58 = M.impl_isField (bt r23 2) s0.C x1 → Q r58))) (Q false)))) (Q false)))) (Q false))) (Q false))
def wp.impl_ProgramOk_1 (s0 : D.Ins) (xs1 : List D.Ins) (Q : Bool → Prop) : Prop :=
  (∀ r23, r23 = M.impl_InsOk s0 ((xs1.length : Nat) : Int) → Q (!r23))
def wp.slices_IndexFunc_impl_Ins_impl_Ins (xs0 : List D.Ins) (g1 : D.Ins → Bool) (D1 : D.Ins → Prop) (Q : Int → Prop) : Prop :=
  LoopP (σ := Int × Unit) (fun (p42 : Int × Unit) next25 => match p42 with | (i21, _) => bcase (decide (i21 < ((xs0.length : Nat) : Int))) (((0 ≤ i21 ∧ i21 < ((xs0.length : Nat) : Int)) ∧ (D1 (rd xs0 i21) ∧ ∀ r32, r32 = g1 (rd xs0 i21) → bcase r32 (Q i21) (next25 ((IntKind.wrap .i64 (i21 + 1)), ()))))) (Q (-1))) (0, ())
def wp.slices_ContainsFunc_impl_Ins_impl_Ins (xs0 : List D.Ins) (g1 : D.Ins → Bool) (D1 : D.Ins → Prop) (Q : Bool → Prop) : Prop :=
  (M.slices_IndexFunc_impl_Ins_impl_Ins_pre xs0 g1 D1 ∧ ∀ r21, r21 = M.slices_IndexFunc_impl_Ins_impl_Ins xs0 g1 → Q (decide (r21 ≥ 0)))
def wp.impl_ProgramOk (xs0 : List D.Ins) (Q : Bool → Prop) : Prop :=
  bcase (decide (((xs0.length : Nat) : Int) ≤ 32)) ((M.slices_ContainsFunc_impl_Ins_impl_Ins_pre xs0 (fun z0_ => M.impl_ProgramOk_1 z0_ xs0) (fun _ => True) ∧ ∀ r23, r23 = M.slices_ContainsFunc_impl_Ins_impl_Ins xs0 (fun z0_ => M.impl_ProgramOk_1 z0_ xs0) → Q (!r23))) (Q false)
def wp.impl_IsLocal (s0 : D.Ins) (Q : Bool → Prop) : Prop :=
  (∀ r23, r23 = M.impl_within s0.Op 0 12 → Q r23)
def wp.impl_IsQuiet_1 (s0 : D.Ins) (Q : Bool → Prop) : Prop :=
  (∀ r23, r23 = M.impl_IsLocal s0 → Q (!r23))
def wp.impl_IsQuiet (xs0 : List D.Ins) (Q : Bool → Prop) : Prop :=
  (M.impl_ProgramOk_pre xs0 ∧ ∀ r21, r21 = M.impl_ProgramOk xs0 → bcase r21 ((M.slices_ContainsFunc_impl_Ins_impl_Ins_pre xs0 (fun z0_ => M.impl_IsQuiet_1 z0_) (fun _ => True) ∧ ∀ r26, r26 = M.slices_ContainsFunc_impl_Ins_impl_Ins xs0 (fun z0_ => M.impl_IsQuiet_1 z0_) → Q (!r26))) (Q false))
def wp.impl_areRegs (xs0 : List Int) (Q : Bool → Prop) : Prop :=
  bcase (((xs0.length : Nat) : Int) == 4) ((M.impl_AreWords_pre xs0 ∧ ∀ r21, r21 = M.impl_AreWords xs0 → Q r21)) (Q false)
def wp.impl_isLaneOf (xs0 : List D.Ins) (s1 : D.Lane) (Q : Bool → Prop) : Prop :=
  (∀ r23, r23 = M.impl_isThread s1.Thread → bcase r23 ((∀ r28, r28 = M.impl_within s1.Pc 0 ((xs0.length : Nat) : Int) → bcase r28 ((∀ r33, r33 = M.impl_areRegs s1.Regs → Q r33)) (Q false))) (Q false))
def wp.impl_LaneOk (xs0 : List D.Ins) (s1 : D.Lane) (Q : Bool → Prop) : Prop :=
  (M.impl_ProgramOk_pre xs0 ∧ ∀ r23, r23 = M.impl_ProgramOk xs0 → bcase r23 ((M.impl_isLaneOf_pre xs0 s1 ∧ ∀ r28, r28 = M.impl_isLaneOf xs0 s1 → Q r28)) (Q false))
def wp.impl_SubWords (x0 : Int) (x1 : Int) (Q : Int → Prop) : Prop :=
  (∀ r21, r21 = M.impl_wrapped x0 x1 (IntKind.wrap .i64 (x0 - x1)) → Q r21)
def wp.impl_MulWords (x0 : Int) (x1 : Int) (Q : Int → Prop) : Prop :=
  (∀ r21, r21 = M.impl_wrapped x0 x1 (IntKind.wrap .i64 (x0 * x1)) → Q r21)
def wp.impl_LessWords (x0 : Int) (x1 : Int) (Q : Int → Prop) : Prop :=
  (∀ r21, r21 = M.impl_IsWord x0 → bcase r21 ((∀ r26, r26 = M.impl_IsWord x1 → bcase r26 (bcase (decide (x0 < x1)) (Q 1) (Q 0)) (Q 0))) (Q 0))
def wp.impl_apply (s0 : D.Ins) (x1 : Int) (xs2 : List Int) (Q : ((List Int)) → Prop) : Prop :=
  bcase (s0.Op == 1) (((0 ≤ s0.A ∧ s0.A < ((xs2.length : Nat) : Int)) ∧ Q (List.set xs2 (s0.A.toNat) s0.B))) (bcase (s0.Op == 2) (((0 ≤ s0.B ∧ s0.B < ((xs2.length : Nat) : Int)) ∧ ((0 ≤ s0.A ∧ s0.A < ((xs2.length : Nat) : Int)) ∧ Q (List.set xs2 (s0.A.toNat) (rd xs2 s0.B))))) (bcase (s0.Op == 3) (((0 ≤ s0.B ∧ s0.B < ((xs2.length : Nat) : Int)) ∧ ((0 ≤ s0.C ∧ s0.C < ((xs2.length : Nat) : Int)) ∧ (∀ r76, r76 = M.impl_AddWords (rd xs2 s0.B) (rd xs2 s0.C) → ((0 ≤ s0.A ∧ s0.A < ((xs2.length : Nat) : Int)) ∧ Q (List.set xs2 (s0.A.toNat) r76)))))) (bcase (s0.Op == 4) (((0 ≤ s0.B ∧ s0.B < ((xs2.length : Nat) : Int)) ∧ ((0 ≤ s0.C ∧ s0.C < ((xs2.length : Nat) : Int)) ∧ (∀ r120, r120 = M.impl_SubWords (rd xs2 s0.B) (rd xs2 s0.C) → ((0 ≤ s0.A ∧ s0.A < ((xs2.length : Nat) : Int)) ∧ Q (List.set xs2 (s0.A.toNat) r120)))))) (bcase (s0.Op == 5) (((0 ≤ s0.B ∧ s0.B < ((xs2.length : Nat) : Int)) ∧ ((0 ≤ s0.C ∧ s0.C < ((xs2.length : Nat) : Int)) ∧ (∀ r164, r164 = M.impl_MulWords (rd xs2 s0.B) (rd xs2 s0.C) → ((0 ≤ s0.A ∧ s0.A < ((xs2.length : Nat) : Int)) ∧ Q (List.set xs2 (s0.A.toNat) r164)))))) (bcase (s0.Op == 6) (((0 ≤ s0.B ∧ s0.B < ((xs2.length : Nat) : Int)) ∧ ((0 ≤ s0.C ∧ s0.C < ((xs2.length : Nat) : Int)) ∧ ((0 ≤ s0.A ∧ s0.A < ((xs2.length : Nat) : Int)) ∧ Q (List.set xs2 (s0.A.toNat) (bitXor .i64 (rd xs2 s0.B) (rd xs2 s0.C))))))) (bcase (s0.Op == 7) (((0 ≤ s0.B ∧ s0.B < ((xs2.length : Nat) : Int)) ∧ ((0 ≤ s0.C ∧ s0.C < ((xs2.length : Nat) : Int)) ∧ (∀ r227, r227 = M.impl_LessWords (rd xs2 s0.B) (rd xs2 s0.C) → ((0 ≤ s0.A ∧ s0.A < ((xs2.length : Nat) : Int)) ∧ Q (List.set xs2 (s0.A.toNat) r227)))))) (bcase (s0.Op == 8) (((0 ≤ s0.A ∧ s0.A < ((xs2.length : Nat) : Int)) ∧ Q (List.set xs2 (s0.A.toNat) x1))) (bcase (s0.Op == 9) (((0 ≤ s0.C ∧ s0.C < ((xs2.length : Nat) : Int)) ∧ bcase ((rd xs2 s0.C) != 0) (((0 ≤ s0.B ∧ s0.B < ((xs2.length : Nat) : Int)) ∧ ((0 ≤ s0.A ∧ s0.A < ((xs2.length : Nat) : Int)) ∧ Q (List.set xs2 (s0.A.toNat) (rd xs2 s0.B))))) (Q xs2))) (Q xs2)))))))))
def wp.impl_Lane_pass (s0 : D.Lane) (xs1 : List D.Ins) (Q : (Bool × D.Lane) → Prop) : Prop :=
  bcase (s0.Pc == ((xs1.length : Nat) : Int)) (Q (false, (⟨s0.Thread, s0.Pc, s0.Regs⟩ : D.Lane))) (((0 ≤ s0.Pc ∧ s0.Pc < ((xs1.length : Nat) : Int)) ∧ (∀ r26, r26 = M.impl_IsLocal (rd xs1 s0.Pc) → bcase (!r26) (Q (false, (⟨s0.Thread, s0.Pc, s0.Regs⟩ : D.Lane))) (((0 ≤ s0.Pc ∧ s0.Pc < ((xs1.length : Nat) : Int)) ∧ bcase ((rd xs1 s0.Pc).Op == 12) (Q (true, (⟨s0.Thread, ((xs1.length : Nat) : Int), s0.Regs⟩ : D.Lane))) (JoinP (σ := Bool × Unit) (fun J43 => bcase ((rd xs1 s0.Pc).Op == 11) (J43 (true, ())) (bcase ((rd xs1 s0.Pc).Op == 10) (((0 ≤ (rd xs1 s0.Pc).A ∧ (rd xs1 s0.Pc).A < ((s0.Regs.length : Nat) : Int)) ∧ J43 (((rd s0.Regs ((rd xs1 s0.Pc).A)) == 0), ()))) (J43 (false, ())))) (fun (p72 : Bool × Unit) => match p72 with | (b42, _) => bcase b42 (Q (true, (⟨s0.Thread, (rd xs1 s0.Pc).B, s0.Regs⟩ : D.Lane))) ((M.impl_apply_pre (rd xs1 s0.Pc) s0.Thread s0.Regs ∧ ∀ r63, r63 = M.impl_apply (rd xs1 s0.Pc) s0.Thread s0.Regs → Q (true, (⟨s0.Thread, (IntKind.wrap .i64 (s0.Pc + 1)), r63⟩ : D.Lane)))))))))))
def wp.impl_RunLane (xs0 : List D.Ins) (s1 : D.Lane) (x2 : Int) (Q : (D.Lane × Int) → Prop) : Prop :=
  (M.impl_copyLane_pre s1 ∧ ∀ r25, r25 = M.impl_copyLane s1 → (M.impl_IsQuiet_pre xs0 ∧ ∀ r36, r36 = M.impl_IsQuiet xs0 → bcase (!r36) (Q ((⟨r25.Thread, r25.Pc, r25.Regs⟩ : D.Lane), (-1))) ((M.impl_LaneOk_pre xs0 s1 ∧ ∀ r43, r43 = M.impl_LaneOk xs0 s1 → bcase (!r43) (Q ((⟨r25.Thread, r25.Pc, r25.Regs⟩ : D.Lane), (-1))) ((∀ r50, r50 = M.impl_within x2 0 1000 → bcase (!r50) (Q ((⟨r25.Thread, r25.Pc, r25.Regs⟩ : D.Lane), (-1))) (LoopP (σ := Int × Int × Int × (List Int) × Unit) (fun (p97 : Int × Int × Int × (List Int) × Unit) next79 => match p97 with | (i70, i71, i72, xs73, _) => bcase (decide (i70 < x2)) ((M.impl_Lane_pass_pre (⟨i71, i72, xs73⟩ : D.Lane) xs0 ∧ ∀ r81, r81 = M.impl_Lane_pass (⟨i71, i72, xs73⟩ : D.Lane) xs0 → bcase r81.1 (next79 ((IntKind.wrap .i64 (i70 + 1)), r81.2.Thread, r81.2.Pc, r81.2.Regs, ())) (Q ((⟨r81.2.Thread, r81.2.Pc, r81.2.Regs⟩ : D.Lane), i70)))) (Q ((⟨i71, i72, xs73⟩ : D.Lane), i70))) (0, r25.Thread, r25.Pc, r25.Regs, ()))))))))
def wp.impl_alone (xs0 : List D.Ins) (x1 : Int) (Q : (D.Lane × Int × Bool) → Prop) : Prop :=
  (∀ r23, r23 = M.impl_isThread x1 → bcase (!r23) (Q ((⟨0, 0, ([] : List Int)⟩ : D.Lane), 0, false)) ((∀ r30, r30 = M.impl_LaneNew x1 → (M.impl_RunLane_pre xs0 r30 1000 ∧ ∀ r37, r37 = M.impl_RunLane xs0 r30 1000 → bcase (decide (r37.2 < 0)) (Q ((⟨0, 0, ([] : List Int)⟩ : D.Lane), 0, false)) (bcase (r37.1.Pc != ((xs0.length : Nat) : Int)) (Q ((⟨0, 0, ([] : List Int)⟩ : D.Lane), 0, false)) (Q ((⟨r37.1.Thread, r37.1.Pc, r37.1.Regs⟩ : D.Lane), r37.2, true)))))))
end Go.V
set_option linter.unusedVariables false
set_option linter.unusedSimpArgs false
namespace Go.V
theorem wp.impl_isThread.math (t : Int) : wp.impl_isThread t (fun r => r = M.impl_isThread t) := fun r hr => hr
theorem wp.impl_LaneNew.math (t : Int) : wp.impl_LaneNew t (fun r => r = M.impl_LaneNew t) := by
  intro r hr
  refine bcase_mk (fun e => ?_) fun e => ⟨by omega, ?_⟩
  · have : M.isIn t 0 23 = false := nt e hr
    simp [M.impl_LaneNew, M.laneNew, this]
  · have : M.isIn t 0 23 = true := nf e hr
    simp only [M.impl_LaneNew, M.laneNew, this, if_true]; rfl
theorem wp.slices_Clone_int_int.math (l : List Int) (h : M.slices_Clone_int_int_pre l) : wp.slices_Clone_int_int l (fun r => r = M.slices_Clone_int_int l) := by
  intro b hb
  refine bcase_mk (fun e => ?_) fun e => ⟨by simpa [M.slices_Clone_int_int_pre] using h, rfl⟩
  rw [hb e]; rfl
theorem wp.impl_copyLane.math (l : D.Lane) (h : M.impl_copyLane_pre l) : wp.impl_copyLane l (fun r => r = M.impl_copyLane l) := ⟨h, fun r hr => by subst hr; rfl⟩
theorem wp.impl_IsLocal.math (i : D.Ins) : wp.impl_IsLocal i (fun r => r = M.impl_IsLocal i) := fun r hr => hr
theorem wp.impl_isReg.math (x : Int) : wp.impl_isReg x (fun r => r = M.impl_isReg x) := fun r hr => hr
theorem all_loop {α : Type} [Inhabited α] {l : List α} {g : α → Bool} (hl : M.Long l) {B : (Int × Unit) → ((Int × Unit) → Prop) → Prop} {Q : Bool → Prop}
    (hb : ∀ (k : Nat) (next : (Int × Unit) → Prop), k < l.length → (g (rd l (k : Int)) = false → l.all g = false → Q false) → (g (rd l (k : Int)) = true → next (((k + 1 : Nat) : Int), ())) → B ((k : Int), ()) next)
    (he : ∀ (next : (Int × Unit) → Prop), l.all g = true → B ((l.length : Int), ()) next) (hQ : l.all g = false → Q false) : LoopP B (0, ()) := by
  refine loop_n l.length (fun k => ((k : Int), ())) (fun k => (l.take k).all g = true) rfl (by simp) (fun k hk hF next hn => ?_) fun hF next => ?_
  · refine hb k next hk (fun e h => hQ h) fun e => ?_
    rw [rd_nat hk] at e
    exact hn (take_all_succ hk hF e)
  · rw [List.take_length] at hF
    exact he next hF
theorem all_false {α : Type} [Inhabited α] {l : List α} {g : α → Bool} {k : Nat} (hk : k < l.length) (e : g (rd l (k : Int)) = false) : l.all g = false := by
  rw [rd_nat hk] at e; exact all_at hk e
theorem wp.impl_formOf.math (op : Int) : wp.impl_formOf op (fun r => r = M.impl_formOf op) := by
  intro r hr
  refine bcase_mk (fun e => ?_) fun e => ?_
  · have : M.isIn op 0 16 = false := nt e hr
    have h' : ¬ (0 ≤ op ∧ op ≤ 16) := by simpa [M.isIn] using this
    have h2 : M.isIn op 3 9 = false := by simp [M.isIn]; omega
    simp only [M.impl_formOf, M.formOf, h2]
    rw [if_neg (by omega), if_neg (by omega), if_neg (by omega), if_neg (by omega), if_neg (by omega), if_neg (by omega)]
    rfl
  · have : M.isIn op 0 16 = true := nf e hr
    have h' : 0 ≤ op ∧ op ≤ 16 := by simpa [M.isIn] using this
    refine ⟨by simp; omega, ?_⟩
    have : op = 0 ∨ op = 1 ∨ op = 2 ∨ op = 3 ∨ op = 4 ∨ op = 5 ∨ op = 6 ∨ op = 7 ∨ op = 8 ∨ op = 9 ∨ op = 10 ∨ op = 11 ∨ op = 12 ∨ op = 13 ∨ op = 14 ∨ op = 15 ∨ op = 16 := by omega
    rcases this with rfl | rfl | rfl | rfl | rfl | rfl | rfl | rfl | rfl | rfl | rfl | rfl | rfl | rfl | rfl | rfl | rfl <;> rfl
theorem wp.impl_isField.math (f x n : Int) (h : M.impl_isField_pre f x n) : wp.impl_isField f x n (fun r => r = M.impl_isField f x n) := by
  refine bcase_mk (fun e r hr => ?_) fun e1 => bcase_mk (fun e r hr => ?_) fun e2 => bcase_mk (fun e r hr => ?_) fun e3 => ?_
  · simp at e; simp [M.impl_isField, e, hr, M.impl_isReg]
  · simp at e; simp [M.impl_isField, e, hr, M.impl_IsWord]
  · simp at e; simp [M.impl_isField, e, hr, M.impl_within]
  · simp at e1 e2 e3; simp [M.impl_isField, e1, e2, e3]
theorem str_ne {a b : ByteArray} (h : ByteArray.toList a ≠ ByteArray.toList b) : (!(ByteArray.toList a == ByteArray.toList b)) = true := by simp [h]
theorem formOf_cases (op : Int) : (M.formOf op = ⟨#[45, 45, 45]⟩ ∧ (op = 0 ∨ op = 12 ∨ op = 16)) ∨ (M.formOf op = ⟨#[82, 87, 45]⟩ ∧ op = 1) ∨ (M.formOf op = ⟨#[82, 82, 45]⟩ ∧ (op = 2 ∨ op = 13 ∨ op = 14 ∨ op = 15)) ∨
    (M.formOf op = ⟨#[82, 45, 45]⟩ ∧ op = 8) ∨ (M.formOf op = ⟨#[82, 84, 45]⟩ ∧ op = 10) ∨ (M.formOf op = ⟨#[45, 84, 45]⟩ ∧ op = 11) ∨ (M.formOf op = ⟨#[82, 82, 82]⟩ ∧ (3 ≤ op ∧ op ≤ 7 ∨ op = 9)) ∨
    (M.formOf op = ⟨#[]⟩ ∧ (op < 0 ∨ op > 16)) := by
  unfold M.formOf
  by_cases a1 : op = 0 ∨ op = 12 ∨ op = 16
  · rw [if_pos a1]; exact .inl ⟨rfl, a1⟩
  rw [if_neg a1]
  by_cases a2 : op = 1
  · rw [if_pos a2]; exact .inr (.inl ⟨rfl, a2⟩)
  rw [if_neg a2]
  by_cases a3 : op = 2 ∨ op = 13 ∨ op = 14 ∨ op = 15
  · rw [if_pos a3]; exact .inr (.inr (.inl ⟨rfl, a3⟩))
  rw [if_neg a3]
  by_cases a4 : op = 8
  · rw [if_pos a4]; exact .inr (.inr (.inr (.inl ⟨rfl, a4⟩)))
  rw [if_neg a4]
  by_cases a5 : op = 10
  · rw [if_pos a5]; exact .inr (.inr (.inr (.inr (.inl ⟨rfl, a5⟩))))
  rw [if_neg a5]
  by_cases a6 : op = 11
  · rw [if_pos a6]; exact .inr (.inr (.inr (.inr (.inr (.inl ⟨rfl, a6⟩)))))
  rw [if_neg a6]
  by_cases a7 : 3 ≤ op ∧ op ≤ 9
  · rw [if_pos (by simp [M.isIn]; omega)]; exact .inr (.inr (.inr (.inr (.inr (.inr (.inl ⟨rfl, by omega⟩))))))
  rw [if_neg (by simp [M.isIn]; omega)]; exact .inr (.inr (.inr (.inr (.inr (.inr (.inr ⟨rfl, by omega⟩))))))
theorem ins_core {i : D.Ins} {n : Int} {f : ByteArray} {x y z : Int} (hx : bt f 0 = x) (hy : bt f 1 = y) (hz : bt f 2 = z) (hs : f.size = 3) (hf : ByteArray.toList f ≠ ByteArray.toList (⟨#[]⟩)) {P : Bool → Prop} (hin : M.isIn n 0 32 = false → P false)
    (h : M.isIn n 0 32 = true → P (M.impl_isField x i.A n && (M.impl_isField y i.B n && M.impl_isField z i.C n))) :
    bcase (!(ByteArray.toList f == ByteArray.toList (⟨#[]⟩))) ((∀ r28, r28 = M.impl_within n 0 32 → bcase r28 (((0 ≤ (0 : Int) ∧ (0 : Int) < ((ByteArray.size f : Nat) : Int)) ∧ (M.impl_isField_pre (bt f 0) i.A n ∧ ∀ r38, r38 = M.impl_isField (bt f 0) i.A n → bcase r38 (((0 ≤ (1 : Int) ∧ (1 : Int) < ((ByteArray.size f : Nat) : Int)) ∧ (M.impl_isField_pre (bt f 1) i.B n ∧ ∀ r48, r48 = M.impl_isField (bt f 1) i.B n → bcase r48 (((0 ≤ (2 : Int) ∧ (2 : Int) < ((ByteArray.size f : Nat) : Int)) ∧ (M.impl_isField_pre (bt f 2) i.C n ∧ ∀ r58, r58 = M.impl_isField (bt f 2) i.C n → P r58))) (P false)))) (P false)))) (P false))) (P false) := by
  refine bcase_t (str_ne hf) fun r1 h1 => bcase_mk (fun e1 => ⟨by omega, trivial, fun r2 h2 => bcase_mk (fun e2 => ⟨by omega, trivial, fun r3 h3 => bcase_mk (fun e3 => ⟨by omega, trivial, fun r4 h4 => ?_⟩) fun e3 => ?_⟩) fun e2 => ?_⟩) fun e1 => hin (h1.symm.trans e1)
  all_goals have hh := h (h1.symm.trans e1)
  · rw [hx] at h2; rw [hy] at h3; rw [hz] at h4
    rw [← h2, ← h3, ← h4, e2, e3] at hh; exact hh
  · rw [hx] at h2; rw [hy] at h3
    rw [← h2, ← h3, e2, e3] at hh; exact hh
  · rw [hx] at h2
    rw [← h2, e2] at hh; exact hh
theorem wp.impl_InsOk.math (i : D.Ins) (n : Int) : wp.impl_InsOk i n (fun r => r = M.impl_InsOk i n) := by
  intro r hr
  have hr' : r = M.formOf i.Op := hr
  rcases formOf_cases i.Op with ⟨e, h⟩ | ⟨e, h⟩ | ⟨e, h⟩ | ⟨e, h⟩ | ⟨e, h⟩ | ⟨e, h⟩ | ⟨e, h⟩ | ⟨e, h⟩
  case inr.inr.inr.inr.inr.inr.inr =>
    rw [hr', e]
    refine bcase_f (by simp) ?_
    simp only [M.impl_InsOk, M.insOk]
    rw [if_neg (by omega), if_neg (by omega), if_neg (by omega), if_neg (by omega), if_neg (by omega), if_neg (by omega)]
    have : M.isIn i.Op 3 9 = false := by simp [M.isIn]; omega
    simp [this]
  · rw [hr', e]
    refine ins_core (x := 45) (y := 45) (z := 45) (P := fun r => r = M.impl_InsOk i n) (by decide +kernel) (by decide +kernel) (by decide +kernel) rfl (by decide +kernel) (fun hn => by simp [M.impl_InsOk, M.insOk, hn]) fun hn => ?_
    simp only [M.impl_InsOk, M.insOk, hn, Bool.true_and]
    rw [if_pos h]
    simp [M.impl_isField]
  · rw [hr', e]
    refine ins_core (x := 82) (y := 87) (z := 45) (P := fun r => r = M.impl_InsOk i n) (by decide +kernel) (by decide +kernel) (by decide +kernel) rfl (by decide +kernel) (fun hn => by simp [M.impl_InsOk, M.insOk, hn]) fun hn => ?_
    simp only [M.impl_InsOk, M.insOk, hn, Bool.true_and]
    rw [if_neg (by omega), if_pos h]
    simp [M.impl_isField]
  · rw [hr', e]
    refine ins_core (x := 82) (y := 82) (z := 45) (P := fun r => r = M.impl_InsOk i n) (by decide +kernel) (by decide +kernel) (by decide +kernel) rfl (by decide +kernel) (fun hn => by simp [M.impl_InsOk, M.insOk, hn]) fun hn => ?_
    simp only [M.impl_InsOk, M.insOk, hn, Bool.true_and]
    rw [if_neg (by omega), if_neg (by omega), if_pos h]
    simp [M.impl_isField]
  · rw [hr', e]
    refine ins_core (x := 82) (y := 45) (z := 45) (P := fun r => r = M.impl_InsOk i n) (by decide +kernel) (by decide +kernel) (by decide +kernel) rfl (by decide +kernel) (fun hn => by simp [M.impl_InsOk, M.insOk, hn]) fun hn => ?_
    simp only [M.impl_InsOk, M.insOk, hn, Bool.true_and]
    rw [if_neg (by omega), if_neg (by omega), if_neg (by omega), if_pos h]
    simp [M.impl_isField]
  · rw [hr', e]
    refine ins_core (x := 82) (y := 84) (z := 45) (P := fun r => r = M.impl_InsOk i n) (by decide +kernel) (by decide +kernel) (by decide +kernel) rfl (by decide +kernel) (fun hn => by simp [M.impl_InsOk, M.insOk, hn]) fun hn => ?_
    simp only [M.impl_InsOk, M.insOk, hn, Bool.true_and]
    rw [if_neg (by omega), if_neg (by omega), if_neg (by omega), if_neg (by omega), if_pos h]
    simp [M.impl_isField]
  · rw [hr', e]
    refine ins_core (x := 45) (y := 84) (z := 45) (P := fun r => r = M.impl_InsOk i n) (by decide +kernel) (by decide +kernel) (by decide +kernel) rfl (by decide +kernel) (fun hn => by simp [M.impl_InsOk, M.insOk, hn]) fun hn => ?_
    simp only [M.impl_InsOk, M.insOk, hn, Bool.true_and]
    rw [if_neg (by omega), if_neg (by omega), if_neg (by omega), if_neg (by omega), if_neg (by omega), if_pos h]
    simp [M.impl_isField]
  · rw [hr', e]
    refine ins_core (x := 82) (y := 82) (z := 82) (P := fun r => r = M.impl_InsOk i n) (by decide +kernel) (by decide +kernel) (by decide +kernel) rfl (by decide +kernel) (fun hn => by simp [M.impl_InsOk, M.insOk, hn]) fun hn => ?_
    simp only [M.impl_InsOk, M.insOk, hn, Bool.true_and]
    rw [if_neg (by omega), if_neg (by omega), if_neg (by omega), if_neg (by omega), if_neg (by omega), if_neg (by omega)]
    have : M.isIn i.Op 3 9 = true := by simp [M.isIn]; omega
    simp [M.impl_isField, this]
theorem wp.impl_ProgramOk_1.math (i : D.Ins) (p : List D.Ins) : wp.impl_ProgramOk_1 i p (fun r => r = M.impl_ProgramOk_1 i p) := fun r hr => by rw [hr]; rfl
theorem wp.slices_IndexFunc_impl_Ins_impl_Ins.math (l : List D.Ins) (g : D.Ins → Bool) (D : D.Ins → Prop) (h : M.slices_IndexFunc_impl_Ins_impl_Ins_pre l g D) : wp.slices_IndexFunc_impl_Ins_impl_Ins l g D (fun r => r = M.slices_IndexFunc_impl_Ins_impl_Ins l g) := by
  unfold wp.slices_IndexFunc_impl_Ins_impl_Ins
  obtain ⟨h1, h2⟩ := h
  refine loop_n l.length (fun k => ((k : Int), ())) (fun k => M.slices_IndexFunc_impl_Ins_impl_Ins l g = M.firstIx g (l.drop k) k) rfl (by simp [M.slices_IndexFunc_impl_Ins_impl_Ins]) (fun k hk hF next hn => ?_) fun hF next => ?_
  · rw [firstIx_from g l k hk] at hF
    refine bcase_t (by simp; omega) ⟨by omega, h2 _ (rd_mem hk), fun r hr => bcase_mk (fun e => ?_) fun e => ?_⟩
    · rw [hF, if_pos (by rw [← hr]; exact e)]
    · rw [up64 hk h1]
      exact hn (by rw [hF, if_neg (by rw [← hr, e]; simp)])
  · refine bcase_f (by simp) ?_
    rw [hF]; simp [M.firstIx]
theorem wp.slices_ContainsFunc_impl_Ins_impl_Ins.math (l : List D.Ins) (g : D.Ins → Bool) (D : D.Ins → Prop) (h : M.slices_ContainsFunc_impl_Ins_impl_Ins_pre l g D) : wp.slices_ContainsFunc_impl_Ins_impl_Ins l g D (fun r => r = M.slices_ContainsFunc_impl_Ins_impl_Ins l g) :=
  ⟨h, fun r hr => by rw [hr]; exact firstIx_nonneg g l 0⟩
theorem wp.impl_ProgramOk.math (p : List D.Ins) (h : M.impl_ProgramOk_pre p) : wp.impl_ProgramOk p (fun r => r = M.impl_ProgramOk p) := by
  refine bcase_mk (fun e => ⟨⟨h, fun _ _ => trivial⟩, fun r hr => ?_⟩) fun e => ?_
  · have h32 : p.length ≤ 32 := by simp at e; omega
    rw [hr]
    simp only [M.slices_ContainsFunc_impl_Ins_impl_Ins, M.impl_ProgramOk, M.programOk, M.impl_ProgramOk_1, ← List.all_eq_not_any_not, h32, decide_true, Bool.true_and]
  · have h32 : ¬ p.length ≤ 32 := by simp at e; omega
    simp [M.impl_ProgramOk, M.programOk, h32]
theorem wp.impl_IsQuiet_1.math (i : D.Ins) : wp.impl_IsQuiet_1 i (fun r => r = M.impl_IsQuiet_1 i) := fun r hr => by rw [hr]; rfl
theorem wp.impl_IsQuiet.math (p : List D.Ins) (h : M.impl_IsQuiet_pre p) : wp.impl_IsQuiet p (fun r => r = M.impl_IsQuiet p) := by
  refine ⟨h, fun r hr => bcase_mk (fun e => ⟨⟨h, fun _ _ => trivial⟩, fun r2 hr2 => ?_⟩) fun e => ?_⟩
  · have h1 : M.programOk p = true := hr.symm.trans e
    rw [hr2]
    simp only [M.slices_ContainsFunc_impl_Ins_impl_Ins, M.impl_IsQuiet, M.isQuiet, M.impl_IsQuiet_1, ← List.all_eq_not_any_not, h1, Bool.true_and]
  · have h1 : M.programOk p = false := hr.symm.trans e
    simp [M.impl_IsQuiet, M.isQuiet, h1]
theorem wp.impl_areRegs.math (l : List Int) : wp.impl_areRegs l (fun r => r = M.impl_areRegs l) := by
  refine bcase_mk (fun e => ?_) fun e => ?_
  · have hl : l.length = 4 := by simp at e; omega
    refine ⟨by show l.length ≤ 9223372036854775807; omega, fun r hr => ?_⟩
    rw [hr]; simp [M.impl_areRegs, M.areRegs, M.impl_AreWords, hl]
  · have hl : ¬ l.length = 4 := by simp at e; omega
    simp [M.impl_areRegs, M.areRegs, hl]
theorem wp.impl_isLaneOf.math (p : List D.Ins) (l : D.Lane) (h : M.impl_isLaneOf_pre p l) : wp.impl_isLaneOf p l (fun r => r = M.impl_isLaneOf p l) := by
  refine fun r1 h1 => bcase_mk (fun e1 r2 h2 => bcase_mk (fun e2 r3 h3 => ?_) fun e2 => ?_) fun e1 => ?_
  · have h1' : M.isIn l.Thread 0 23 = true := h1.symm.trans e1
    have h2' : M.isIn l.Pc 0 p.length = true := h2.symm.trans e2
    simp [M.impl_isLaneOf, M.laneOf, h1', h2', h3, M.impl_areRegs]
  · have h2' : M.isIn l.Pc 0 p.length = false := h2.symm.trans e2
    simp [M.impl_isLaneOf, M.laneOf, h2']
  · have h1' : M.isIn l.Thread 0 23 = false := h1.symm.trans e1
    simp [M.impl_isLaneOf, M.laneOf, h1']
theorem wp.impl_LaneOk.math (p : List D.Ins) (l : D.Lane) (h : M.impl_LaneOk_pre p l) : wp.impl_LaneOk p l (fun r => r = M.impl_LaneOk p l) := by
  refine ⟨h, fun r1 h1 => bcase_mk (fun e1 => ⟨trivial, fun r2 h2 => ?_⟩) fun e1 => ?_⟩
  · have h1' : M.programOk p = true := h1.symm.trans e1
    simp [M.impl_LaneOk, M.laneOk, h1', h2, M.impl_isLaneOf]
  · have h1' : M.programOk p = false := h1.symm.trans e1
    simp [M.impl_LaneOk, M.laneOk, h1']
theorem mul_bound {a b : Int} (ha : 0 ≤ a ∧ a ≤ 65535) (hb : 0 ≤ b ∧ b ≤ 65535) : 0 ≤ a * b ∧ a * b ≤ 4294836225 :=
  ⟨Int.mul_nonneg ha.1 hb.1, by have := Int.mul_le_mul ha.2 hb.2 hb.1 (by omega : (0 : Int) ≤ 65535); omega⟩
theorem wp.spec_LessWords.math (a b : Int) : wp.spec_LessWords a b (fun r => r = M.spec_LessWords a b) := by
  intro r1 h1
  refine bcase_mk (fun e1 r2 h2 => bcase_mk (fun e2 => bcase_mk (fun e3 => ?_) fun e3 => ?_) fun e2 => ?_) fun e1 => ?_
  · have ha : M.isWord a = true := h1.symm.trans e1
    have hb : M.isWord b = true := h2.symm.trans e2
    simp at e3; simp [M.spec_LessWords, M.lessW, ha, hb, e3]
  · simp at e3; simp [M.spec_LessWords, M.lessW]; omega
  · have hb : M.isWord b = false := h2.symm.trans e2
    simp [M.spec_LessWords, M.lessW, hb]
  · have ha : M.isWord a = false := h1.symm.trans e1
    simp [M.spec_LessWords, M.lessW, ha]
theorem wp.impl_LessWords.math (a b : Int) : wp.impl_LessWords a b (fun r => r = M.impl_LessWords a b) := wp.spec_LessWords.math a b
theorem wp.impl_SubWords.math (a b : Int) : wp.impl_SubWords a b (fun r => r = M.impl_SubWords a b) := by
  intro r hr
  rw [hr]
  simp only [M.impl_wrapped, M.impl_SubWords, M.subW]
  by_cases h : (M.isWord a && M.isWord b) = true
  · rw [if_pos h, if_pos h]
    simp only [Bool.and_eq_true, isWord_iff] at h
    rw [w64 (by omega) (by omega)]
  · rw [if_neg h, if_neg h]
theorem wp.impl_MulWords.math (a b : Int) : wp.impl_MulWords a b (fun r => r = M.impl_MulWords a b) := by
  intro r hr
  rw [hr]
  simp only [M.impl_wrapped, M.impl_MulWords, M.mulW]
  by_cases h : (M.isWord a && M.isWord b) = true
  · rw [if_pos h, if_pos h]
    simp only [Bool.and_eq_true, isWord_iff] at h
    have := mul_bound h.1 h.2
    rw [w64 (by omega) (by omega)]
  · rw [if_neg h, if_neg h]
theorem isReg_iff {x : Int} : M.isReg x = true ↔ 0 ≤ x ∧ x ≤ 3 := by simp [M.isReg, M.isIn]
theorem fits_regs {i : D.Ins} {r : List Int} (h : M.Fits i r) : r.length = 4 ∧ (1 ≤ i.Op ∧ i.Op ≤ 10 → 0 ≤ i.A ∧ i.A ≤ 3) ∧ (2 ≤ i.Op ∧ i.Op ≤ 7 ∨ i.Op = 9 → 0 ≤ i.B ∧ i.B ≤ 3) ∧ (3 ≤ i.Op ∧ i.Op ≤ 7 ∨ i.Op = 9 → 0 ≤ i.C ∧ i.C ≤ 3) := by
  obtain ⟨hl, n, hok⟩ := h
  simp only [M.insOk, Bool.and_eq_true] at hok
  have hok := hok.2
  split at hok
  · exact ⟨hl, by omega, by omega, by omega⟩
  split at hok
  · simp only [Bool.and_eq_true, isReg_iff] at hok
    exact ⟨hl, fun _ => hok.1, by omega, by omega⟩
  split at hok
  · simp only [Bool.and_eq_true, isReg_iff] at hok
    exact ⟨hl, fun _ => hok.1, fun _ => hok.2.1, by omega⟩
  split at hok
  · simp only [Bool.and_eq_true, isReg_iff] at hok
    exact ⟨hl, fun _ => hok.1, by omega, by omega⟩
  split at hok
  · simp only [Bool.and_eq_true, isReg_iff] at hok
    exact ⟨hl, fun _ => hok.1, by omega, by omega⟩
  split at hok
  · exact ⟨hl, by omega, by omega, by omega⟩
  · simp only [Bool.and_eq_true, isReg_iff] at hok
    exact ⟨hl, fun _ => hok.2.1, fun _ => hok.2.2.1, fun _ => hok.2.2.2⟩
theorem rd_reg {r : List Int} {x : Int} (hl : r.length = 4) (h : 0 ≤ x ∧ x ≤ 3) : 0 ≤ x ∧ x < ((r.length : Nat) : Int) := by omega
theorem wp.impl_apply.math (i : D.Ins) (t : Int) (r : List Int) (h : M.impl_apply_pre i t r) : wp.impl_apply i t r (fun x => x = M.impl_apply i t r) := by
  obtain ⟨hl, hA, hB, hC⟩ := fits_regs h
  simp only [wp.impl_apply, forall_eq]
  refine bcase_mk (fun e => ?_) fun n1 => bcase_mk (fun e => ?_) fun n2 => bcase_mk (fun e => ?_) fun n3 => bcase_mk (fun e => ?_) fun n4 => bcase_mk (fun e => ?_) fun n5 => bcase_mk (fun e => ?_) fun n6 => bcase_mk (fun e => ?_) fun n7 => bcase_mk (fun e => ?_) fun n8 => bcase_mk (fun e => ?_) fun n9 => ?_
  · have hk : i.Op = 1 := by simpa using e
    exact ⟨rd_reg hl (hA (by omega)), by simp [M.impl_apply, M.apply, hk]⟩
  · have hk : i.Op = 2 := by simpa using e
    exact ⟨rd_reg hl (hB (by omega)), rd_reg hl (hA (by omega)), by simp [M.impl_apply, M.apply, hk]⟩
  · have hk : i.Op = 3 := by simpa using e
    exact ⟨rd_reg hl (hB (by omega)), rd_reg hl (hC (by omega)), rd_reg hl (hA (by omega)), by simp [M.impl_apply, M.apply, hk, M.spec_AddWords, M.impl_AddWords]⟩
  · have hk : i.Op = 4 := by simpa using e
    exact ⟨rd_reg hl (hB (by omega)), rd_reg hl (hC (by omega)), rd_reg hl (hA (by omega)), by simp [M.impl_apply, M.apply, hk, M.spec_SubWords, M.impl_SubWords]⟩
  · have hk : i.Op = 5 := by simpa using e
    exact ⟨rd_reg hl (hB (by omega)), rd_reg hl (hC (by omega)), rd_reg hl (hA (by omega)), by simp [M.impl_apply, M.apply, hk, M.spec_MulWords, M.impl_MulWords]⟩
  · have hk : i.Op = 6 := by simpa using e
    exact ⟨rd_reg hl (hB (by omega)), rd_reg hl (hC (by omega)), rd_reg hl (hA (by omega)), by simp [M.impl_apply, M.apply, hk]⟩
  · have hk : i.Op = 7 := by simpa using e
    exact ⟨rd_reg hl (hB (by omega)), rd_reg hl (hC (by omega)), rd_reg hl (hA (by omega)), by simp [M.impl_apply, M.apply, hk, M.spec_LessWords, M.impl_LessWords]⟩
  · have hk : i.Op = 8 := by simpa using e
    exact ⟨rd_reg hl (hA (by omega)), by simp [M.impl_apply, M.apply, hk]⟩
  · have hk : i.Op = 9 := by simpa using e
    refine ⟨rd_reg hl (hC (by omega)), bcase_mk (fun e2 => ⟨rd_reg hl (hB (by omega)), rd_reg hl (hA (by omega)), ?_⟩) fun e2 => ?_⟩
    · have h2 : ¬ rd r i.C = 0 := by simpa using e2
      simp [M.impl_apply, M.apply, hk, h2]
    · have h2 : rd r i.C = 0 := by simpa using e2
      simp [M.impl_apply, M.apply, hk, h2]
  · simp at n1 n2 n3 n4 n5 n6 n7 n8 n9
    simp [M.impl_apply, M.apply, n1, n2, n3, n4, n5, n6, n7, n8, n9]
theorem wp.impl_Lane_pass.math (l : D.Lane) (p : List D.Ins) (h : M.impl_Lane_pass_pre l p) : wp.impl_Lane_pass l p (fun x => x = M.impl_Lane_pass l p) := by
  obtain ⟨hp, hat⟩ := h
  refine bcase_mk (fun e => ?_) fun e => ?_
  · have : l.Pc = p.length := by simpa using e
    simp [M.impl_Lane_pass, this]; exact (by rw [← this])
  · have hne : ¬ l.Pc = p.length := by simpa using e
    obtain ⟨_, h0, h1, hf⟩ := hat.resolve_left hne
    obtain ⟨hl, hA, hB, hC⟩ := fits_regs hf
    unfold M.Long at hp
    have hw : IntKind.wrap .i64 (l.Pc + 1) = l.Pc + 1 := w64 (by omega) (by omega)
    refine ⟨⟨h0, h1⟩, fun r hr => bcase_mk (fun e1 => ?_) fun e1 => ⟨⟨h0, h1⟩, ?_⟩⟩
    · have : M.isLocal (rd p l.Pc) = false := nt e1 hr
      simp [M.impl_Lane_pass, hne, this]
    have hloc : M.isLocal (rd p l.Pc) = true := nf e1 hr
    have hM : M.impl_Lane_pass l p = (true, M.step p l) := by simp only [M.impl_Lane_pass, hne, if_false, hloc, if_true]
    have ha : ∀ k, 10 ≤ k → (rd p l.Pc).Op = k → M.apply (rd p l.Pc) l.Thread l.Regs = l.Regs := by
      intro k hk e
      unfold M.apply
      rw [if_neg (by omega), if_neg (by omega), if_neg (by omega), if_neg (by omega), if_neg (by omega), if_neg (by omega), if_neg (by omega), if_neg (by omega), if_neg (by omega)]
    rw [hM]
    simp only [JoinP, hw]
    refine bcase_mk (fun e2 => ?_) fun n1 => bcase_mk (fun e2 => ?_) fun n2 => bcase_mk (fun e2 => ⟨?_, bcase_mk (fun e3 => ?_) fun e3 => ⟨hf, fun r2 hr2 => ?_⟩⟩) fun n3 => ⟨hf, fun r2 hr2 => ?_⟩
    · have e2 : (rd p l.Pc).Op = 12 := by simpa using e2
      simp [M.step, M.next, e2, ha 12 (by omega) e2]
    · have e2 : (rd p l.Pc).Op = 11 := by simpa using e2
      simp [bcase, M.step, M.next, e2, ha 11 (by omega) e2]
    · have e2 : (rd p l.Pc).Op = 10 := by simpa using e2
      exact rd_reg hl (hA (by omega))
    · have e2 : (rd p l.Pc).Op = 10 := by simpa using e2
      have e3 : rd l.Regs (rd p l.Pc).A = 0 := by simpa using e3
      simp [M.step, M.next, e2, e3, ha 10 (by omega) e2]
    · have e2 : (rd p l.Pc).Op = 10 := by simpa using e2
      have e3 : ¬ rd l.Regs (rd p l.Pc).A = 0 := by simpa using e3
      simp [M.step, M.next, e2, e3, hr2, M.impl_apply]
    · have n1 : ¬ (rd p l.Pc).Op = 12 := by simpa using n1
      have n2 : ¬ (rd p l.Pc).Op = 11 := by simpa using n2
      have n3 : ¬ (rd p l.Pc).Op = 10 := by simpa using n3
      simp [M.step, M.next, n1, n2, n3, hr2, M.impl_apply]
def Inv (p : List D.Ins) (l : D.Lane) : Prop := 0 ≤ l.Pc ∧ l.Pc ≤ p.length ∧ l.Regs.length = 4
theorem rd_of {α : Type} [Inhabited α] {xs : List α} {i : Int} (h0 : 0 ≤ i) (h1 : i < ((xs.length : Nat) : Int)) : rd xs i ∈ xs := by
  obtain ⟨k, rfl⟩ := Int.eq_ofNat_of_zero_le h0
  exact rd_mem (by omega)
theorem fits_at {p : List D.Ins} (hp : M.programOk p = true) {l : D.Lane} (hi : Inv p l) (hlt : l.Pc < p.length) : M.At p l.Pc l.Regs := by
  obtain ⟨h0, h1, h2⟩ := hi
  simp only [M.programOk, Bool.and_eq_true, decide_eq_true_eq, List.all_eq_true] at hp
  exact ⟨by unfold M.Long; omega, h0, hlt, h2, _, hp.2 _ (rd_of h0 hlt)⟩
theorem apply_len (i : D.Ins) (t : Int) (r : List Int) : (M.apply i t r).length = r.length := by
  unfold M.apply
  (repeat' split) <;> simp
theorem next_in {p : List D.Ins} {l : D.Lane} (hp : M.programOk p = true) (hi : Inv p l) (hlt : l.Pc < p.length) : 0 ≤ M.next p l.Pc l.Regs ∧ M.next p l.Pc l.Regs ≤ p.length := by
  obtain ⟨h0, h1, h2⟩ := hi
  simp only [M.programOk, Bool.and_eq_true, decide_eq_true_eq, List.all_eq_true] at hp
  have hok := hp.2 _ (rd_of h0 hlt)
  simp only [M.insOk, Bool.and_eq_true] at hok
  have hok := hok.2
  unfold M.next
  split
  · omega
  split
  · rename_i h12 h11
    rw [if_neg (by omega), if_neg (by omega), if_neg (by omega), if_neg (by omega), if_neg (by omega), if_pos h11] at hok
    simp only [Bool.and_eq_true, M.isIn, decide_eq_true_eq] at hok
    exact hok.2.1
  split
  · rename_i h12 h11 h10
    rw [if_neg (by omega), if_neg (by omega), if_neg (by omega), if_neg (by omega), if_pos h10] at hok
    simp only [Bool.and_eq_true, M.isIn, decide_eq_true_eq] at hok
    split
    · exact hok.2.1
    · omega
  · omega
theorem inv_step {p : List D.Ins} {l : D.Lane} (hp : M.programOk p = true) (hi : Inv p l) (hlt : l.Pc < p.length) : Inv p (M.step p l) := by
  have h := next_in hp hi hlt
  exact ⟨h.1, h.2, by simp only [M.step, apply_len]; exact hi.2.2⟩
theorem laneOk_inv {p : List D.Ins} {l : D.Lane} (h : M.laneOk p l = true) : M.programOk p = true ∧ Inv p l := by
  simp only [M.laneOk, M.laneOf, M.areRegs, M.isIn, Bool.and_eq_true, decide_eq_true_eq, beq_iff_eq] at h
  exact ⟨h.1, h.2.2.1.1, h.2.2.1.2, h.2.2.2.1⟩
theorem quiet_local {p : List D.Ins} (h : M.isQuiet p = true) {i : Int} (h0 : 0 ≤ i) (h1 : i < ((p.length : Nat) : Int)) : M.isLocal (rd p i) = true := by
  simp only [M.isQuiet, Bool.and_eq_true, List.all_eq_true] at h
  exact h.2 _ (rd_of h0 h1)
theorem run_loop {p : List D.Ins} {l0 : D.Lane} {steps : Int} (hp : M.programOk p = true) (hi : Inv p l0) (hs : 0 ≤ steps) {Q : D.Lane × Int → Prop} (hQ : Q (M.runN p steps.toNat l0 0))
    {B : (Int × Int × Int × List Int × Unit) → ((Int × Int × Int × List Int × Unit) → Prop) → Prop}
    (hb : ∀ (n : Int) (l : D.Lane) (next : (Int × Int × Int × List Int × Unit) → Prop), 0 ≤ n → Inv p l → n < steps → l.Pc < p.length → next (n + 1, (M.step p l).Thread, (M.step p l).Pc, (M.step p l).Regs, ()) → B (n, l.Thread, l.Pc, l.Regs, ()) next)
    (he1 : ∀ (n : Int) (l : D.Lane) (next : (Int × Int × Int × List Int × Unit) → Prop), 0 ≤ n → Inv p l → n < steps → l.Pc = p.length → Q (l, n) → B (n, l.Thread, l.Pc, l.Regs, ()) next)
    (he2 : ∀ (l : D.Lane) (next : (Int × Int × Int × List Int × Unit) → Prop), Inv p l → Q (l, steps) → B (steps, l.Thread, l.Pc, l.Regs, ()) next) :
    LoopP B (0, l0.Thread, l0.Pc, l0.Regs, ()) := by
  refine ⟨fun m z => ∃ (n : Int) (l : D.Lane), z = (n, l.Thread, l.Pc, l.Regs, ()) ∧ (m : Int) = steps - n ∧ 0 ≤ n ∧ n ≤ steps ∧ Inv p l ∧ Q (M.runN p m l n), ⟨steps.toNat, 0, l0, rfl, by omega, by omega, hs, hi, hQ⟩, ?_⟩
  rintro m z ⟨n, l, rfl, hm, h0, h1, hI, hq⟩
  cases m with
  | zero =>
    have : n = steps := by omega
    subst this
    exact he2 l _ hI hq
  | succ k =>
    by_cases hlt : l.Pc < p.length
    · refine hb n l _ h0 hI (by omega) hlt ⟨k, by omega, n + 1, M.step p l, rfl, by omega, by omega, by omega, inv_step hp hI hlt, ?_⟩
      rw [M.runN, if_pos hlt] at hq; exact hq
    · have : l.Pc = p.length := by have := hI.2.1; omega
      rw [M.runN, if_neg hlt] at hq
      exact he1 n l _ h0 hI (by omega) this hq
theorem wp.impl_RunLane.math (p : List D.Ins) (l : D.Lane) (steps : Int) (h : M.impl_RunLane_pre p l steps) : wp.impl_RunLane p l steps (fun x => x = M.impl_RunLane p l steps) := by
  obtain ⟨hp, hr⟩ := h
  refine ⟨hr, fun r1 h1 => ⟨hp, fun r2 h2 => bcase_mk (fun e2 => ?_) fun e2 => ⟨hp, fun r3 h3 => bcase_mk (fun e3 => ?_) fun e3 r4 h4 => bcase_mk (fun e4 => ?_) fun e4 => ?_⟩⟩⟩
  all_goals have h1' : r1 = l := h1
  all_goals subst h1'
  · have : M.isQuiet p = false := nt e2 h2
    simp [M.impl_RunLane, M.runLane, this]
  · have : M.laneOk p r1 = false := nt e3 h3
    simp [M.impl_RunLane, M.runLane, this]
  · have : M.isIn steps 0 1000 = false := nt e4 h4
    simp [M.impl_RunLane, M.runLane, this]
  · have q1 : M.isQuiet p = true := nf e2 h2
    have q2 : M.laneOk p r1 = true := nf e3 h3
    have q3 : M.isIn steps 0 1000 = true := nf e4 h4
    have hst : 0 ≤ steps ∧ steps ≤ 1000 := by simpa [M.isIn] using q3
    obtain ⟨hok, hI⟩ := laneOk_inv q2
    have hM : M.impl_RunLane p r1 steps = M.runN p steps.toNat r1 0 := by simp [M.impl_RunLane, M.runLane, q1, q2, q3]
    rw [hM]
    refine run_loop hok hI hst.1 (Q := fun x => x = M.runN p steps.toNat r1 0) rfl (fun n l next h0 hI hn hlt hnx => ?_) (fun n l next h0 hI hn hpc hq => ?_) fun l next hI hq => ?_
    · refine bcase_t (by simpa using hn) ⟨⟨hp, .inr (fits_at hok hI hlt)⟩, fun r hr => ?_⟩
      have : r = (true, M.step p l) := by
        rw [hr]
        show M.impl_Lane_pass l p = _
        simp only [M.impl_Lane_pass]
        rw [if_neg (by omega), if_pos (quiet_local q1 hI.1 hlt)]
      rw [this]
      refine bcase_t rfl ?_
      rw [w64 (by omega) (by omega)]; exact hnx
    · refine bcase_t (by simpa using hn) ⟨⟨hp, .inl hpc⟩, fun r hr => ?_⟩
      have : r = (false, l) := by
        rw [hr]
        show M.impl_Lane_pass l p = _
        simp only [M.impl_Lane_pass]
        rw [if_pos hpc]
      rw [this]
      exact bcase_f rfl hq
    · exact bcase_f (by simp) hq
theorem laneNew_len (t : Int) : (M.laneNew t).Regs.length ≤ 4 := by unfold M.laneNew; split <;> simp
theorem wp.impl_alone.math (p : List D.Ins) (t : Int) (h : M.impl_alone_pre p t) : wp.impl_alone p t (fun x => x = M.impl_alone p t) := by
  intro r0 h0
  refine bcase_mk (fun e => ?_) fun e r1 h1 => ?_
  · have : M.isIn t 0 23 = false := nt e h0
    simp [M.impl_alone, this]
  have ht : M.isIn t 0 23 = true := nf e h0
  have h1' : r1 = M.laneNew t := h1
  subst h1'
  have := laneNew_len t
  refine ⟨⟨h, by omega⟩, fun r2 h2 => ?_⟩
  have h2' : r2 = M.runLane p (M.laneNew t) 1000 := h2
  subst h2'
  refine bcase_mk (fun e => ?_) fun e1 => bcase_mk (fun e => ?_) fun e2 => ?_
  · simp at e; simp [M.impl_alone, ht, e]
  · have e1 : ¬ (M.runLane p (M.laneNew t) 1000).2 < 0 := by simpa using e1
    have e : (M.runLane p (M.laneNew t) 1000).1.Pc ≠ p.length := by simpa using e
    simp only [M.impl_alone, ht, if_true, if_neg e1, if_pos e]
  · have e1 : ¬ (M.runLane p (M.laneNew t) 1000).2 < 0 := by simpa using e1
    have e2 : ¬ (M.runLane p (M.laneNew t) 1000).1.Pc ≠ p.length := by simpa using e2
    simp only [M.impl_alone, ht, if_true, if_neg e1, if_neg e2]
theorem runN_inv {p : List D.Ins} (hp : M.programOk p = true) : ∀ (k : Nat) (l : D.Lane) (n : Int), Inv p l → Inv p (M.runN p k l n).1 ∧ (0 ≤ n → 0 ≤ (M.runN p k l n).2)
  | 0, l, n, hi => ⟨hi, fun h => h⟩
  | k + 1, l, n, hi => by
    rw [M.runN]
    split
    · rename_i hlt
      have := runN_inv hp k _ (n + 1) (inv_step hp hi hlt)
      exact ⟨this.1, fun h => this.2 (by omega)⟩
    · exact ⟨hi, fun h => h⟩
theorem runLane_pc {p : List D.Ins} {l : D.Lane} {s : Int} (h : ¬ (M.runLane p l s).2 < 0) : M.isQuiet p = true ∧ M.laneOk p l = true ∧ Inv p (M.runLane p l s).1 := by
  by_cases hc : (M.isQuiet p && (M.laneOk p l && M.isIn s 0 1000)) = true
  · unfold M.runLane at *
    rw [if_pos hc] at *
    simp only [Bool.and_eq_true] at hc
    have := laneOk_inv hc.2.1
    exact ⟨hc.1, hc.2.1, (runN_inv this.1 _ _ _ this.2).1⟩
  · unfold M.runLane at h
    rw [if_neg hc] at h
    exact absurd (show (-1 : Int) < 0 by decide) h
end Go.V
set_option linter.unusedVariables false
set_option linter.unusedVariables false
set_option linter.unusedSimpArgs false
set_option linter.unusedVariables false
namespace Go.V
def wp.impl_RunAlone (xs0 : List D.Ins) (x1 : Int) (Q : (D.Lane × Bool) → Prop) : Prop :=
  (M.impl_alone_pre xs0 x1 ∧ ∀ r23, r23 = M.impl_alone xs0 x1 → Q ((⟨r23.1.Thread, r23.1.Pc, r23.1.Regs⟩ : D.Lane), r23.2.2))
end Go.V
set_option linter.unusedVariables false
set_option linter.unusedSimpArgs false
namespace Go.V
theorem alone_cases (p : List D.Ins) (t : Int) : (M.impl_alone p t).1 = (M.runAlone p t).1 ∧ (M.impl_alone p t).2.2 = (M.runAlone p t).2 := by
  by_cases ht : M.isIn t 0 23 = true
  · by_cases e1 : (M.runLane p (M.laneNew t) 1000).2 < 0
    · simp [M.impl_alone, M.runAlone, ht, e1]
    · have hpc := (runLane_pc e1).2.2.2.1
      by_cases e2 : (M.runLane p (M.laneNew t) 1000).1.Pc = p.length
      · have e3 : ¬ (M.runLane p (M.laneNew t) 1000).1.Pc < p.length := by omega
        simp only [M.impl_alone, M.runAlone, ht, if_true, if_neg e1, if_neg e3]
        rw [if_neg (by simpa using e2)]; exact ⟨rfl, rfl⟩
      · have e3 : (M.runLane p (M.laneNew t) 1000).1.Pc < p.length := by omega
        simp only [M.impl_alone, M.runAlone, ht, if_true, if_neg e1, if_pos e3]
        rw [if_pos (by simpa using e2)]; exact ⟨rfl, rfl⟩
  · have ht' : M.isIn t 0 23 = false := by simpa using ht
    have hn : M.laneNew t = ⟨0, 0, []⟩ := by simp [M.laneNew, ht']
    have e1 : (M.runLane p (M.laneNew t) 1000).2 < 0 := by
      refine Decidable.byContradiction fun hh => ?_
      have := (runLane_pc hh).2.1
      rw [hn] at this
      simp [M.laneOk, M.laneOf, M.areRegs] at this
    simp only [M.impl_alone, M.runAlone, ht', if_pos e1]
    exact ⟨rfl, rfl⟩
theorem wp.impl_RunAlone.math (p : List D.Ins) (t : Int) (h : M.impl_RunAlone_pre p t) : wp.impl_RunAlone p t (fun x => x = M.impl_RunAlone p t) := by
  refine ⟨h, fun r hr => ?_⟩
  subst hr
  obtain ⟨h1, h2⟩ := alone_cases p t
  rw [h1, h2]; rfl
theorem runAlone_regs (p : List D.Ins) (t : Int) : (M.runAlone p t).1.Regs.length ≤ 4 := by
  unfold M.runAlone
  split
  · simp
  · rename_i h
    split
    · simp
    · have := (runLane_pc h).2.2.2.2
      show (M.runLane p (M.laneNew t) 1000).1.Regs.length ≤ 4
      omega
end Go.V
set_option linter.unusedVariables false
namespace Go.V
def wp.impl_isWarpNumber (x0 : Int) (Q : Bool → Prop) : Prop :=
  (∀ r21, r21 = M.impl_within x0 0 2 → Q r21)
def wp.slices_Index_int_int (xs0 : List Int) (x1 : Int) (Q : Int → Prop) : Prop :=
  LoopP (σ := Int × Unit) (fun (p37 : Int × Unit) next25 => match p37 with | (i21, _) => bcase (decide (i21 < ((xs0.length : Nat) : Int))) (((0 ≤ i21 ∧ i21 < ((xs0.length : Nat) : Int)) ∧ bcase (x1 == (rd xs0 i21)) (Q i21) (next25 ((IntKind.wrap .i64 (i21 + 1)), ())))) (Q (-1))) (0, ())
def wp.slices_Contains_int_int (xs0 : List Int) (x1 : Int) (Q : Bool → Prop) : Prop :=
  (M.slices_Index_int_int_pre xs0 x1 ∧ ∀ r21, r21 = M.slices_Index_int_int xs0 x1 → Q (decide (r21 ≥ 0)))
end Go.V
set_option linter.unusedVariables false
set_option linter.unusedSimpArgs false
namespace Go.V
theorem wp.impl_isWarpNumber.math (x : Int) : wp.impl_isWarpNumber x (fun r => r = M.impl_isWarpNumber x) := fun r hr => hr
theorem wp.slices_Index_int_int.math (l : List Int) (x : Int) (h : M.slices_Index_int_int_pre l x) : wp.slices_Index_int_int l x (fun r => r = M.slices_Index_int_int l x) := by
  unfold wp.slices_Index_int_int
  refine loop_n l.length (fun k => ((k : Int), ())) (fun k => M.slices_Index_int_int l x = M.firstIx (fun y => x == y) (l.drop k) k) rfl (by simp [M.slices_Index_int_int]) (fun k hk hF next hn => ?_) fun hF next => ?_
  · rw [firstIx_from _ l k hk] at hF
    refine bcase_t (by simp; omega) ⟨by omega, bcase_mk (fun e => ?_) fun e => ?_⟩
    · rw [hF, if_pos e]
    · rw [up64 hk h]
      exact hn (by rw [hF, if_neg (by rw [e]; simp)])
  · refine bcase_f (by simp) ?_
    rw [hF]; simp [M.firstIx]
theorem wp.slices_Contains_int_int.math (l : List Int) (x : Int) (h : M.slices_Contains_int_int_pre l x) : wp.slices_Contains_int_int l x (fun r => r = M.slices_Contains_int_int l x) :=
  ⟨h, fun r hr => by rw [hr]; exact firstIx_nonneg _ l 0⟩
end Go.V
set_option linter.unusedVariables false
namespace Go.V
def wp.spec_DifferingLanes (xs0 : List D.Ins) (xs1 : List D.Ins) (x2 : Int) (Q : Int → Prop) : Prop :=
  (∀ r21, r21 = M.spec_l01In x2 0 2 → bcase (!r21) (Q (-1)) ((M.spec_EndRegs_pre xs0 (IntKind.wrap .i64 (x2 * 8)) 8 ∧ ∀ r26, r26 = M.spec_EndRegs xs0 (IntKind.wrap .i64 (x2 * 8)) 8 → (M.spec_EndRegs_pre xs1 (IntKind.wrap .i64 (x2 * 8)) 8 ∧ ∀ r33, r33 = M.spec_EndRegs xs1 (IntKind.wrap .i64 (x2 * 8)) 8 → bcase (!r26.2) (Q (-1)) (bcase (!r33.2) (Q (-1)) (LoopP (σ := Int × Int × Unit) (fun (p68 : Int × Int × Unit) next45 => match p68 with | (i40, i41, _) => bcase (decide (i41 < ((r26.1.length : Nat) : Int))) (((0 ≤ i41 ∧ i41 < ((r26.1.length : Nat) : Int)) ∧ ((0 ≤ i41 ∧ i41 < ((r33.1.length : Nat) : Int)) ∧ bcase ((rd r26.1 i41) != (rd r33.1 i41)) (((0 ≤ (IntKind.wrap .i64 (Int.tdiv i41 4))) ∧ next45 ((bitOr .i64 i40 (IntKind.wrap .i64 (1 * 2 ^ (min ((IntKind.wrap .i64 (Int.tdiv i41 4)).toNat) (IntKind.bits .i64))))), (IntKind.wrap .i64 (i41 + 1)), ()))) (next45 (i40, (IntKind.wrap .i64 (i41 + 1)), ()))))) (Q i40)) (0, 0, ())))))))
def wp.impl_EndRegs (xs0 : List D.Ins) (x1 : Int) (x2 : Int) (Q : ((List Int) × Bool) → Prop) : Prop :=
  (∀ r21, r21 = M.impl_within x2 1 24 → bcase (!r21) (Q (([] : List Int), false)) ((∀ r26, r26 = M.impl_isThread x1 → bcase (!r26) (Q (([] : List Int), false)) (LoopP (σ := (List Int) × Int × Unit) (fun (p64 : (List Int) × Int × Unit) next41 => match p64 with | (xs34, i37, _) => bcase (decide (i37 < x2)) ((M.impl_RunAlone_pre xs0 (IntKind.wrap .i64 (x1 + i37)) ∧ ∀ r43, r43 = M.impl_RunAlone xs0 (IntKind.wrap .i64 (x1 + i37)) → bcase (!r43.2) (Q (([] : List Int), false)) (((xs34.length + r43.1.Regs.length ≤ 17179869184) ∧ next41 ((xs34 ++ r43.1.Regs), (IntKind.wrap .i64 (i37 + 1)), ()))))) (Q (xs34, true))) (([] : List Int), 0, ())))))
def wp.impl_DifferingLanes (xs0 : List D.Ins) (xs1 : List D.Ins) (x2 : Int) (Q : Int → Prop) : Prop :=
  (∀ r21, r21 = M.impl_isWarpNumber x2 → bcase (!r21) (Q (-1)) ((M.impl_EndRegs_pre xs0 (IntKind.wrap .i64 (x2 * 8)) 8 ∧ ∀ r26, r26 = M.impl_EndRegs xs0 (IntKind.wrap .i64 (x2 * 8)) 8 → (M.impl_EndRegs_pre xs1 (IntKind.wrap .i64 (x2 * 8)) 8 ∧ ∀ r33, r33 = M.impl_EndRegs xs1 (IntKind.wrap .i64 (x2 * 8)) 8 → bcase (!r26.2) (Q (-1)) (bcase (!r33.2) (Q (-1)) (LoopP (σ := Int × Int × Unit) (fun (p68 : Int × Int × Unit) next45 => match p68 with | (i40, i41, _) => bcase (decide (i41 < ((r26.1.length : Nat) : Int))) (((0 ≤ i41 ∧ i41 < ((r26.1.length : Nat) : Int)) ∧ ((0 ≤ i41 ∧ i41 < ((r33.1.length : Nat) : Int)) ∧ bcase ((rd r26.1 i41) != (rd r33.1 i41)) (((0 ≤ (IntKind.wrap .i64 (Int.tdiv i41 4))) ∧ next45 ((bitOr .i64 i40 (IntKind.wrap .i64 (1 * 2 ^ (min ((IntKind.wrap .i64 (Int.tdiv i41 4)).toNat) (IntKind.bits .i64))))), (IntKind.wrap .i64 (i41 + 1)), ()))) (next45 (i40, (IntKind.wrap .i64 (i41 + 1)), ()))))) (Q i40)) (0, 0, ())))))))
end Go.V
set_option linter.unusedVariables false
set_option linter.unusedSimpArgs false
namespace Go.V
theorem endList_succ (p : List D.Ins) (f : Int) (k : Nat) : M.endList p f (k + 1) = M.endList p f k ++ (M.runAlone p (f + (k : Int))).1.Regs := by
  simp [M.endList, List.range_succ]
theorem endList_len (p : List D.Ins) (f : Int) : ∀ k, (M.endList p f k).length ≤ 4 * k
  | 0 => by simp [M.endList]
  | k + 1 => by
    rw [endList_succ, List.length_append]
    have := endList_len p f k
    have := runAlone_regs p (f + (k : Int))
    omega
theorem runAlone_four {p : List D.Ins} {t : Int} (h : (M.runAlone p t).2 = true) : (M.runAlone p t).1.Regs.length = 4 := by
  unfold M.runAlone at *
  by_cases e1 : (M.runLane p (M.laneNew t) 1000).2 < 0
  · rw [if_pos e1] at h; cases h
  · rw [if_neg e1] at *
    by_cases e2 : (M.runLane p (M.laneNew t) 1000).1.Pc < p.length
    · rw [if_pos e2] at h; cases h
    · rw [if_neg e2] at *
      exact (runLane_pc e1).2.2.2.2
theorem endList_four (p : List D.Ins) (f : Int) : ∀ k, M.endOk p f k = true → (M.endList p f k).length = 4 * k
  | 0, _ => by simp [M.endList]
  | k + 1, h => by
    simp only [M.endOk, List.range_succ, List.all_append, Bool.and_eq_true, List.all_cons, List.all_nil, Bool.and_true] at h
    rw [endList_succ, List.length_append, endList_four p f k h.1, runAlone_four h.2]
    omega
theorem endRegs_four {p : List D.Ins} {f : Int} (h : (M.endRegs p f 8).2 = true) : (M.endRegs p f 8).1.length = 32 := by
  unfold M.endRegs at *
  by_cases hc : (M.isIn 8 1 24 && (M.isIn f 0 23 && M.endOk p f (8 : Int).toNat)) = true
  · rw [if_pos hc] at *
    simp only [Bool.and_eq_true] at hc
    exact endList_four p f 8 hc.2.2
  · rw [if_neg hc] at h; cases h
theorem end_loop {p : List D.Ins} {f c : Int} (hc : M.isIn c 1 24 = true) (hf : M.isIn f 0 23 = true) {B : (List Int × Int × Unit) → ((List Int × Int × Unit) → Prop) → Prop} {Q : List Int × Bool → Prop} (hQ : Q (M.endRegs p f c))
    (hb : ∀ (k : Nat) (xs : List Int) (next : (List Int × Int × Unit) → Prop), (k : Int) < c → k < 24 → IntKind.wrap .i64 (f + (k : Int)) = f + (k : Int) → xs.length ≤ 96 → ((M.runAlone p (f + (k : Int))).2 = false → Q ([], false)) →
      ((M.runAlone p (f + (k : Int))).2 = true → next (xs ++ (M.runAlone p (f + (k : Int))).1.Regs, ((k + 1 : Nat) : Int), ())) → B (xs, (k : Int), ()) next)
    (he : ∀ (xs : List Int) (next : (List Int × Int × Unit) → Prop), Q (xs, true) → B (xs, c, ()) next) : LoopP B (([] : List Int), 0, ()) := by
  have h1 : 1 ≤ c ∧ c ≤ 24 := by simpa [M.isIn] using hc
  have h2 : 0 ≤ f ∧ f ≤ 23 := by simpa [M.isIn] using hf
  refine loop_n c.toNat (fun k => (M.endList p f k, (k : Int), ())) (fun k => M.endOk p f k = true) rfl rfl (fun k hk hF next hn => ?_) fun hF next => ?_
  · have hl := endList_len p f k
    refine hb k _ next (by omega) (by omega) (w64 (by omega) (by omega)) (by omega) (fun e => ?_) fun e => ?_
    · have : M.endRegs p f c = ([], false) := by
        have h0 : M.endOk p f c.toNat = false := by
          simp only [M.endOk]
          apply Bool.eq_false_iff.2
          intro hh
          rw [List.all_eq_true] at hh
          have := hh k (List.mem_range.2 hk)
          rw [e] at this; cases this
        simp [M.endRegs, h0]
      rw [← this]; exact hQ
    · rw [← endList_succ]
      refine hn ?_
      simp only [M.endOk, List.range_succ, List.all_append, Bool.and_eq_true, List.all_cons, List.all_nil, Bool.and_true]
      exact ⟨hF, e⟩
  · have e : ((c.toNat : Nat) : Int) = c := by omega
    show B (M.endList p f c.toNat, ((c.toNat : Nat) : Int), ()) next
    rw [e]
    refine he _ next ?_
    have : M.endRegs p f c = (M.endList p f c.toNat, true) := by simp [M.endRegs, hc, hf, hF]
    rw [← this]; exact hQ
theorem wp.impl_EndRegs.math (p : List D.Ins) (f c : Int) (h : M.impl_EndRegs_pre p f c) : wp.impl_EndRegs p f c (fun x => x = M.impl_EndRegs p f c) := by
  intro r1 h1
  refine bcase_mk (fun e1 => ?_) fun e1 r2 h2 => bcase_mk (fun e2 => ?_) fun e2 => ?_
  · have : M.isIn c 1 24 = false := nt e1 h1
    simp [M.impl_EndRegs, M.endRegs, this]
  · have : M.isIn f 0 23 = false := nt e2 h2
    simp [M.impl_EndRegs, M.endRegs, this]
  · refine end_loop (nf e1 h1) (nf e2 h2) (Q := fun x => x = M.endRegs p f c) rfl (fun k xs next hk h24 hw hl q1 q2 => ?_) fun xs next hq => ?_
    · refine bcase_t (by simpa using hk) ⟨h, fun r hr => ?_⟩
      rw [hw] at hr
      have hr' : r = M.runAlone p (f + (k : Int)) := hr
      have h4 := runAlone_regs p (f + (k : Int))
      refine bcase_mk (fun e => q1 (by rw [← hr']; simpa using e)) fun e => ⟨by rw [hr']; omega, ?_⟩
      rw [up64 h24 (by omega), hr']
      exact q2 (by rw [← hr']; simpa using e)
    · exact bcase_f (by simp) hq
theorem diff_loop {a b : List Int} (ha : a.length = 32) (hb : b.length = 32) {B : (Int × Int × Unit) → ((Int × Int × Unit) → Prop) → Prop} {Q : Int → Prop} (hQ : Q (M.diffMask a b 32))
    (hs : ∀ (k : Nat) (m : Int) (next : (Int × Int × Unit) → Prop), k < 32 → (rd a (k : Int) = rd b (k : Int) → next (m, ((k + 1 : Nat) : Int), ())) →
      (¬ rd a (k : Int) = rd b (k : Int) → next (bitOr .i64 m (IntKind.wrap .i64 (1 * 2 ^ (min ((IntKind.wrap .i64 (Int.tdiv (k : Int) 4)).toNat) (IntKind.bits .i64)))), ((k + 1 : Nat) : Int), ())) → B (m, (k : Int), ()) next)
    (he : ∀ (m : Int) (next : (Int × Int × Unit) → Prop), Q m → B (m, 32, ()) next) : LoopP B (0, 0, ()) := by
  refine loop_n 32 (fun k => (M.diffMask a b k, (k : Int), ())) (fun _ => True) rfl trivial (fun k hk _ next hn => ?_) fun _ next => he _ next hQ
  have hn := hn trivial
  simp only [M.diffMask, List.range_succ, List.foldl_append, List.foldl_cons, List.foldl_nil] at hn
  refine hs k _ next hk (fun e => ?_) fun e => ?_
  · rw [if_pos e] at hn; exact hn
  · rw [if_neg e] at hn; exact hn
theorem div4 {k : Nat} (hk : k < 32) : 0 ≤ IntKind.wrap .i64 (Int.tdiv (k : Int) 4) := by
  have h : Int.tdiv (k : Int) 4 = (k : Int) / 4 := Int.tdiv_eq_ediv_of_nonneg (by omega)
  rw [h, w64 (by omega) (by omega)]; omega
theorem wp.spec_DifferingLanes.math (p q : List D.Ins) (w : Int) (h : M.spec_DifferingLanes_pre p q w) : wp.spec_DifferingLanes p q w (fun x => x = M.spec_DifferingLanes p q w) := by
  intro r1 h1
  refine bcase_mk (fun e1 => ?_) fun e1 => ⟨h.1, fun r2 h2 => ⟨h.2, fun r3 h3 => bcase_mk (fun e2 => ?_) fun e2 => bcase_mk (fun e3 => ?_) fun e3 => ?_⟩⟩
  · have : M.isIn w 0 2 = false := nt e1 h1
    simp [M.spec_DifferingLanes, M.differing, this]
  all_goals
    have hw : M.isIn w 0 2 = true := nf e1 h1
    have hr : 0 ≤ w ∧ w ≤ 2 := by simpa [M.isIn] using hw
    rw [w64 (by omega) (by omega)] at h2 h3
    have h2' : r2 = M.endRegs p (w * 8) 8 := h2
    have h3' : r3 = M.endRegs q (w * 8) 8 := h3
    subst h2' h3'
  · have e2 : (M.endRegs p (w * 8) 8).2 = false := by simpa using e2
    simp [M.spec_DifferingLanes, M.differing, e2]
  · have e3 : (M.endRegs q (w * 8) 8).2 = false := by simpa using e3
    simp [M.spec_DifferingLanes, M.differing, e3]
  · have e2 : (M.endRegs p (w * 8) 8).2 = true := by simpa using e2
    have e3 : (M.endRegs q (w * 8) 8).2 = true := by simpa using e3
    have l2 := endRegs_four e2
    have l3 := endRegs_four e3
    refine diff_loop l2 l3 (Q := fun x => x = M.spec_DifferingLanes p q w) (by simp [M.spec_DifferingLanes, M.differing, hw, e2, e3]) (fun k m next hk q1 q2 => ?_) fun m next hq => ?_
    · refine bcase_t (by simp [l2]; omega) ⟨by omega, by omega, bcase_mk (fun e => ⟨div4 hk, ?_⟩) fun e => ?_⟩
      · rw [up64 hk (by omega)]; exact q2 (by simpa using e)
      · rw [up64 hk (by omega)]; exact q1 (by simpa using e)
    · exact bcase_f (by simp [l2]) hq
theorem wp.impl_DifferingLanes.math (p q : List D.Ins) (w : Int) (h : M.impl_DifferingLanes_pre p q w) : wp.impl_DifferingLanes p q w (fun x => x = M.impl_DifferingLanes p q w) := wp.spec_DifferingLanes.math p q w h
end Go.V
set_option linter.unusedVariables false
namespace Go.V
def wp.spec_l01New (xs0 : List Int) (Q : D.Cur → Prop) : Prop :=
  LoopP (σ := Int × Int × Unit) (fun (p42 : Int × Int × Unit) next26 => match p42 with | (i21, i22, _) => bcase (decide (i22 < ((xs0.length : Nat) : Int))) (bcase (decide (i22 < 4000)) (((0 ≤ i22 ∧ i22 < ((xs0.length : Nat) : Int)) ∧ next26 ((bitAnd .i64 (IntKind.wrap .i64 ((IntKind.wrap .i64 ((IntKind.wrap .i64 (i21 * 131)) + (IntKind.wrap .i64 (rd xs0 i22)))) + 7)) 1073741823), (IntKind.wrap .i64 (i22 + 1)), ()))) (Q (⟨xs0, 0, i21⟩ : D.Cur))) (Q (⟨xs0, 0, i21⟩ : D.Cur))) ((IntKind.wrap .i64 (98561 + ((xs0.length : Nat) : Int))), 0, ())
def wp.spec_l01Byte (s0 : D.Cur) (Q : (Int × D.Cur) → Prop) : Prop :=
  bcase (decide (s0.i < ((s0.b.length : Nat) : Int))) (((0 ≤ s0.i ∧ s0.i < ((s0.b.length : Nat) : Int)) ∧ Q ((bitAnd .i64 (IntKind.wrap .i64 ((bitAnd .i64 (bitXor .i64 (Int.fdiv (IntKind.wrap .i64 ((IntKind.wrap .i64 (s0.h * 6364136223846793005)) + 1442695040888963407)) (2 ^ (min ((33 : Int).toNat) (IntKind.bits .i64)))) (Int.fdiv (IntKind.wrap .i64 ((IntKind.wrap .i64 (s0.h * 6364136223846793005)) + 1442695040888963407)) (2 ^ (min ((45 : Int).toNat) (IntKind.bits .i64))))) 255) + (IntKind.wrap .i64 (rd s0.b s0.i)))) 255), (⟨s0.b, (IntKind.wrap .i64 (s0.i + 1)), (IntKind.wrap .i64 ((IntKind.wrap .i64 (s0.h * 6364136223846793005)) + 1442695040888963407))⟩ : D.Cur)))) (Q ((bitAnd .i64 (bitXor .i64 (Int.fdiv (IntKind.wrap .i64 ((IntKind.wrap .i64 (s0.h * 6364136223846793005)) + 1442695040888963407)) (2 ^ (min ((33 : Int).toNat) (IntKind.bits .i64)))) (Int.fdiv (IntKind.wrap .i64 ((IntKind.wrap .i64 (s0.h * 6364136223846793005)) + 1442695040888963407)) (2 ^ (min ((45 : Int).toNat) (IntKind.bits .i64))))) 255), (⟨s0.b, s0.i, (IntKind.wrap .i64 ((IntKind.wrap .i64 (s0.h * 6364136223846793005)) + 1442695040888963407))⟩ : D.Cur)))
def wp.spec_l01Below (s0 : D.Cur) (x1 : Int) (Q : (Int × D.Cur) → Prop) : Prop :=
  bcase (decide (x1 ≤ 0)) (Q (0, (⟨s0.b, s0.i, s0.h⟩ : D.Cur))) (bcase (decide (x1 ≤ 256)) ((M.spec_l01Byte_pre s0 ∧ ∀ r21, r21 = M.spec_l01Byte s0 → (((x1 : Int) ≠ 0) ∧ Q ((Int.tmod r21.1 x1), (⟨s0.b, r21.2.i, r21.2.h⟩ : D.Cur))))) ((M.spec_l01Byte_pre s0 ∧ ∀ r28, r28 = M.spec_l01Byte s0 → (M.spec_l01Byte_pre (⟨s0.b, r28.2.i, r28.2.h⟩ : D.Cur) ∧ ∀ r34, r34 = M.spec_l01Byte (⟨s0.b, r28.2.i, r28.2.h⟩ : D.Cur) → (M.spec_l01Byte_pre (⟨s0.b, r34.2.i, r34.2.h⟩ : D.Cur) ∧ ∀ r40, r40 = M.spec_l01Byte (⟨s0.b, r34.2.i, r34.2.h⟩ : D.Cur) → (M.spec_l01Byte_pre (⟨s0.b, r40.2.i, r40.2.h⟩ : D.Cur) ∧ ∀ r46, r46 = M.spec_l01Byte (⟨s0.b, r40.2.i, r40.2.h⟩ : D.Cur) → (((x1 : Int) ≠ 0) ∧ Q ((Int.tmod (IntKind.wrap .i64 ((IntKind.wrap .i64 ((IntKind.wrap .i64 ((IntKind.wrap .i64 (r28.1 * 16777216)) + (IntKind.wrap .i64 (r34.1 * 65536)))) + (IntKind.wrap .i64 (r40.1 * 256)))) + r46.1)) x1), (⟨s0.b, r46.2.i, r46.2.h⟩ : D.Cur)))))))))
def wp.spec_l04Plain (s0 : D.Cur) (Q : (D.Ins × D.Cur) → Prop) : Prop :=
  (M.spec_l01Below_pre s0 9 ∧ ∀ r23, r23 = M.spec_l01Below s0 9 → (M.spec_l01Below_pre (⟨s0.b, r23.2.i, r23.2.h⟩ : D.Cur) 4 ∧ ∀ r29, r29 = M.spec_l01Below (⟨s0.b, r23.2.i, r23.2.h⟩ : D.Cur) 4 → bcase ((IntKind.wrap .i64 (1 + r23.1)) == 1) ((M.spec_l01Below_pre (⟨s0.b, r29.2.i, r29.2.h⟩ : D.Cur) 6 ∧ ∀ r39, r39 = M.spec_l01Below (⟨s0.b, r29.2.i, r29.2.h⟩ : D.Cur) 6 → Q ((⟨(IntKind.wrap .i64 (1 + r23.1)), r29.1, r39.1, 0⟩ : D.Ins), (⟨s0.b, r39.2.i, r39.2.h⟩ : D.Cur)))) (bcase ((IntKind.wrap .i64 (1 + r23.1)) == 8) (Q ((⟨(IntKind.wrap .i64 (1 + r23.1)), r29.1, 0, 0⟩ : D.Ins), (⟨s0.b, r29.2.i, r29.2.h⟩ : D.Cur))) (bcase ((IntKind.wrap .i64 (1 + r23.1)) == 2) ((M.spec_l01Below_pre (⟨s0.b, r29.2.i, r29.2.h⟩ : D.Cur) 4 ∧ ∀ r51, r51 = M.spec_l01Below (⟨s0.b, r29.2.i, r29.2.h⟩ : D.Cur) 4 → Q ((⟨(IntKind.wrap .i64 (1 + r23.1)), r29.1, r51.1, 0⟩ : D.Ins), (⟨s0.b, r51.2.i, r51.2.h⟩ : D.Cur)))) ((M.spec_l01Below_pre (⟨s0.b, r29.2.i, r29.2.h⟩ : D.Cur) 4 ∧ ∀ r61, r61 = M.spec_l01Below (⟨s0.b, r29.2.i, r29.2.h⟩ : D.Cur) 4 → (M.spec_l01Below_pre (⟨s0.b, r61.2.i, r61.2.h⟩ : D.Cur) 4 ∧ ∀ r69, r69 = M.spec_l01Below (⟨s0.b, r61.2.i, r61.2.h⟩ : D.Cur) 4 → Q ((⟨(IntKind.wrap .i64 (1 + r23.1)), r29.1, r61.1, r69.1⟩ : D.Ins), (⟨s0.b, r69.2.i, r69.2.h⟩ : D.Cur)))))))))
def wp.spec_DrawPlaces (xs0 : List Int) (Q : (List Int) → Prop) : Prop :=
  (M.spec_l01New_pre xs0 ∧ ∀ r21, r21 = M.spec_l01New xs0 → LoopP (σ := (List Int) × Int × Int × Int × Unit) (fun (p82 : (List Int) × Int × Int × Int × Unit) next62 => match p82 with | (xs53, i56, i57, i58, _) => bcase (decide (i56 < 12)) ((M.spec_l01Below_pre (⟨xs0, i57, i58⟩ : D.Cur) 10000 ∧ ∀ r64, r64 = M.spec_l01Below (⟨xs0, i57, i58⟩ : D.Cur) 10000 → ((xs53.length + ([r64.1] : List Int).length ≤ 17179869184) ∧ next62 ((xs53 ++ ([r64.1] : List Int)), (IntKind.wrap .i64 (i56 + 1)), r64.2.i, r64.2.h, ())))) (Q xs53)) (([] : List Int), 0, r21.i, r21.h, ()))
def wp.laws_big (xs0 : List Int) (Q : Bool → Prop) : Prop :=
  Q (decide (((xs0.length : Nat) : Int) > 1048576))
end Go.V
set_option linter.unusedVariables false
set_option linter.unusedSimpArgs false
set_option maxRecDepth 20000
namespace Go.V
theorem bitAnd_255 (x : Int) : bitAnd .i64 x 255 = x % 256 := by
  unfold bitAnd
  have e1 : (BitVec.ofInt (IntKind.bits .i64) x &&& BitVec.ofInt (IntKind.bits .i64) 255).toNat = (x % 256).toNat := by
    show (BitVec.ofInt 64 x &&& BitVec.ofInt 64 255).toNat = _
    rw [BitVec.toNat_and, BitVec.toNat_ofInt, show (BitVec.ofInt 64 255).toNat = 2 ^ 8 - 1 from rfl, Nat.and_two_pow_sub_one_eq_mod]
    rw [show ((2 ^ 64 : Nat) : Int) = 18446744073709551616 from rfl]
    omega
  rw [e1, w64 (by omega) (by omega)]
  omega
theorem byte_in (c : D.Cur) : 0 ≤ (M.spec_l01Byte c).1 ∧ (M.spec_l01Byte c).1 ≤ 255 := by
  unfold M.spec_l01Byte
  split
  · show 0 ≤ bitAnd .i64 _ 255 ∧ bitAnd .i64 _ 255 ≤ 255
    rw [bitAnd_255]; omega
  · show 0 ≤ M.curX _ ∧ M.curX _ ≤ 255
    unfold M.curX
    rw [bitAnd_255]; omega
theorem byte_b (c : D.Cur) : (M.spec_l01Byte c).2.b = c.b := by unfold M.spec_l01Byte; split <;> rfl
theorem byte_ok {c : D.Cur} (h : M.CurOk c) : M.CurOk (M.spec_l01Byte c).2 := by
  obtain ⟨h1, h2⟩ := h
  refine ⟨?_, by rw [byte_b]; exact h2⟩
  unfold M.Long at h2
  unfold M.spec_l01Byte
  split
  · rename_i hlt
    show 0 ≤ IntKind.wrap .i64 (c.i + 1)
    rw [w64 (by omega) (by omega)]; omega
  · exact h1
theorem below_b (c : D.Cur) (n : Int) : (M.spec_l01Below c n).2.b = c.b := by
  unfold M.spec_l01Below
  (repeat' split) <;> simp only [byte_b]
theorem below_ok {c : D.Cur} (h : M.CurOk c) (n : Int) : M.CurOk (M.spec_l01Below c n).2 := by
  unfold M.spec_l01Below
  split
  · exact h
  split
  · exact byte_ok h
  · exact byte_ok (byte_ok (byte_ok (byte_ok h)))
theorem tmod_in {x n : Int} (hx : 0 ≤ x) (hn : 0 < n) : 0 ≤ Int.tmod x n ∧ Int.tmod x n < n :=
  ⟨Int.tmod_nonneg _ hx, Int.tmod_lt_of_pos _ hn⟩
theorem below_in (c : D.Cur) {n : Int} (hn : 0 < n) : 0 ≤ (M.spec_l01Below c n).1 ∧ (M.spec_l01Below c n).1 < n := by
  unfold M.spec_l01Below
  rw [if_neg (by omega)]
  split
  · exact tmod_in (byte_in c).1 hn
  · refine tmod_in ?_ hn
    have h1 := byte_in c
    have h2 := byte_in (M.spec_l01Byte c).2
    have h3 := byte_in (M.spec_l01Byte (M.spec_l01Byte c).2).2
    have h4 := byte_in (M.spec_l01Byte (M.spec_l01Byte (M.spec_l01Byte c).2).2).2
    rw [w64 (x := (M.spec_l01Byte c).1 * 16777216) (by omega) (by omega), w64 (x := (M.spec_l01Byte (M.spec_l01Byte c).2).1 * 65536) (by omega) (by omega),
      w64 (x := (M.spec_l01Byte (M.spec_l01Byte (M.spec_l01Byte c).2).2).1 * 256) (by omega) (by omega), w64 (x := _ + (M.spec_l01Byte (M.spec_l01Byte c).2).1 * 65536) (by omega) (by omega),
      w64 (x := _ + (M.spec_l01Byte (M.spec_l01Byte (M.spec_l01Byte c).2).2).1 * 256) (by omega) (by omega), w64 (by omega) (by omega)]
    omega
set_option maxRecDepth 20000 in
theorem wp.spec_l01New.math (b : List Int) (h : M.spec_l01New_pre b) : wp.spec_l01New b (fun r => r = M.spec_l01New b) := by
  unfold wp.spec_l01New
  have hl : b.length ≤ 9223372036854775807 := h
  let h0 := IntKind.wrap .i64 (98561 + ((b.length : Nat) : Int))
  refine loop_n (min b.length 4000) (fun k => ((b.take k).foldl M.curNext h0, (k : Int), ())) (fun _ => True) rfl trivial (fun k hk _ next hn => ?_) fun _ next => ?_
  · have hk1 : k < b.length := by omega
    have hn := hn trivial
    rw [List.take_add_one, List.getElem?_eq_getElem hk1, Option.toList_some, List.foldl_append] at hn
    refine bcase_t (by simp; omega) (bcase_t (by simp; omega) ⟨by omega, ?_⟩)
    rw [up64 hk1 hl, rd_nat hk1]
    exact hn
  · have fin : (⟨b, 0, (b.take (min b.length 4000)).foldl M.curNext h0⟩ : D.Cur) = M.spec_l01New b := by
      unfold M.spec_l01New
      congr 2
      rcases Nat.le_total b.length 4000 with g | g
      · rw [Nat.min_eq_left g, List.take_length, List.take_of_length_le g]
      · rw [Nat.min_eq_right g]
    by_cases g : b.length ≤ 4000
    · exact bcase_f (by simp; omega) fin
    · exact bcase_t (by simp; omega) (bcase_f (by simp; omega) fin)
theorem wp.spec_l01Byte.math (c : D.Cur) (h : M.spec_l01Byte_pre c) : wp.spec_l01Byte c (fun r => r = M.spec_l01Byte c) := by
  obtain ⟨h1, h2⟩ := h
  refine bcase_mk (fun e => ⟨⟨h1, by simpa using e⟩, ?_⟩) fun e => ?_
  · have e : c.i < ((c.b.length : Nat) : Int) := by simpa using e
    unfold M.spec_l01Byte
    rw [if_pos e]; rfl
  · have e : ¬ c.i < ((c.b.length : Nat) : Int) := by simpa using e
    unfold M.spec_l01Byte
    rw [if_neg e]; rfl
theorem cur_eta {c d : D.Cur} (h : d.b = c.b) : (⟨c.b, d.i, d.h⟩ : D.Cur) = d := by rw [← h]
theorem wp.spec_l01Below.math (c : D.Cur) (n : Int) (h : M.spec_l01Below_pre c n) : wp.spec_l01Below c n (fun r => r = M.spec_l01Below c n) := by
  refine bcase_mk (fun e => ?_) fun e => bcase_mk (fun e2 => ⟨h, fun r hr => ⟨?_, ?_⟩⟩) fun e2 => ?_
  · have e : n ≤ 0 := by simpa using e
    unfold M.spec_l01Below; rw [if_pos e]
  · simp at e; omega
  · have e : ¬ n ≤ 0 := by simpa using e
    have e2 : n ≤ 256 := by simpa using e2
    unfold M.spec_l01Below; rw [if_neg e, if_pos e2, hr, cur_eta (byte_b c)]
  · have e : ¬ n ≤ 0 := by simpa using e
    have e2 : ¬ n ≤ 256 := by simpa using e2
    have h1 := byte_ok h
    have h2 := byte_ok h1
    have h3 := byte_ok h2
    have b1 := byte_b c
    have b2 : (M.spec_l01Byte (M.spec_l01Byte c).2).2.b = c.b := (byte_b _).trans b1
    have b3 : (M.spec_l01Byte (M.spec_l01Byte (M.spec_l01Byte c).2).2).2.b = c.b := (byte_b _).trans b2
    have b4 : (M.spec_l01Byte (M.spec_l01Byte (M.spec_l01Byte (M.spec_l01Byte c).2).2).2).2.b = c.b := (byte_b _).trans b3
    refine ⟨h, fun r1 g1 => ?_⟩
    subst g1
    rw [cur_eta b1]
    refine ⟨h1, fun r2 g2 => ?_⟩
    subst g2
    rw [cur_eta b2]
    refine ⟨h2, fun r3 g3 => ?_⟩
    subst g3
    rw [cur_eta b3]
    refine ⟨h3, fun r4 g4 => ⟨by omega, ?_⟩⟩
    subst g4
    rw [cur_eta b4]
    unfold M.spec_l01Below; rw [if_neg e, if_neg e2]
theorem wp.spec_l04Plain.math (c : D.Cur) (h : M.spec_l04Plain_pre c) : wp.spec_l04Plain c (fun r => r = M.spec_l04Plain c) := by
  refine ⟨h, fun r1 g1 => ?_⟩
  subst g1
  rw [cur_eta (below_b c 9)]
  refine ⟨below_ok h 9, fun r2 g2 => ?_⟩
  subst g2
  have b2 : (M.spec_l01Below (M.spec_l01Below c 9).2 4).2.b = c.b := (below_b _ _).trans (below_b _ _)
  have h2 := below_ok (below_ok h 9) 4
  rw [cur_eta b2]
  have cut : ∀ (n : Int), (⟨c.b, (M.spec_l01Below (M.spec_l01Below (M.spec_l01Below c 9).2 4).2 n).2.i, (M.spec_l01Below (M.spec_l01Below (M.spec_l01Below c 9).2 4).2 n).2.h⟩ : D.Cur) = (M.spec_l01Below (M.spec_l01Below (M.spec_l01Below c 9).2 4).2 n).2 := fun n => cur_eta ((below_b _ _).trans b2)
  refine bcase_mk (fun e => ⟨h2, fun r3 g3 => ?_⟩) fun e1 => bcase_mk (fun e => ?_) fun e8 => bcase_mk (fun e => ⟨h2, fun r3 g3 => ?_⟩) fun e2 => ⟨h2, fun r3 g3 => ?_⟩
  · subst g3
    rw [cut]
    have e : IntKind.wrap .i64 (1 + (M.spec_l01Below c 9).1) = 1 := by simpa using e
    simp only [M.spec_l04Plain]; rw [if_pos e]
  · have e1 : ¬ IntKind.wrap .i64 (1 + (M.spec_l01Below c 9).1) = 1 := by simpa using e1
    have e : IntKind.wrap .i64 (1 + (M.spec_l01Below c 9).1) = 8 := by simpa using e
    simp only [M.spec_l04Plain]; rw [if_neg e1, if_pos e]
  · subst g3
    rw [cut]
    have e1 : ¬ IntKind.wrap .i64 (1 + (M.spec_l01Below c 9).1) = 1 := by simpa using e1
    have e8 : ¬ IntKind.wrap .i64 (1 + (M.spec_l01Below c 9).1) = 8 := by simpa using e8
    have e : IntKind.wrap .i64 (1 + (M.spec_l01Below c 9).1) = 2 := by simpa using e
    simp only [M.spec_l04Plain]; rw [if_neg e1, if_neg e8, if_pos e]
  · subst g3
    rw [cut]
    refine ⟨below_ok h2 4, fun r4 g4 => ?_⟩
    subst g4
    rw [cur_eta ((below_b _ _).trans ((below_b _ _).trans b2))]
    have e1 : ¬ IntKind.wrap .i64 (1 + (M.spec_l01Below c 9).1) = 1 := by simpa using e1
    have e8 : ¬ IntKind.wrap .i64 (1 + (M.spec_l01Below c 9).1) = 8 := by simpa using e8
    have e2 : ¬ IntKind.wrap .i64 (1 + (M.spec_l01Below c 9).1) = 2 := by simpa using e2
    simp only [M.spec_l04Plain]; rw [if_neg e1, if_neg e8, if_neg e2]
theorem wp.laws_big.math (b : List Int) : wp.laws_big b (fun r => r = M.laws_big b) := rfl
theorem plain_b (c : D.Cur) : (M.spec_l04Plain c).2.b = c.b := by
  simp only [M.spec_l04Plain]
  (repeat' split) <;> simp only [below_b]
theorem plain_ok {c : D.Cur} (h : M.CurOk c) : M.CurOk (M.spec_l04Plain c).2 := by
  simp only [M.spec_l04Plain]
  have h2 := below_ok (below_ok h 9) 4
  (repeat' split)
  · exact below_ok h2 _
  · exact h2
  · exact below_ok h2 _
  · exact below_ok (below_ok h2 _) _
theorem places_b : ∀ (k : Nat) (c : D.Cur), (M.placesN k c).2.b = c.b
  | 0, c => rfl
  | k + 1, c => by simp only [M.placesN]; rw [below_b, places_b k c]
theorem places_ok : ∀ (k : Nat) {c : D.Cur}, M.CurOk c → M.CurOk (M.placesN k c).2
  | 0, c, h => h
  | k + 1, c, h => below_ok (places_ok k h) _
theorem places_len : ∀ (k : Nat) (c : D.Cur), (M.placesN k c).1.length = k
  | 0, c => rfl
  | k + 1, c => by simp only [M.placesN, List.length_append, places_len k c]; rfl
theorem new_ok {b : List Int} (h : M.Long b) : M.CurOk (M.spec_l01New b) := ⟨by simp [M.spec_l01New], h⟩
theorem wp.spec_DrawPlaces.math (b : List Int) (h : M.spec_DrawPlaces_pre b) : wp.spec_DrawPlaces b (fun r => r = M.spec_DrawPlaces b) := by
  refine ⟨h, fun r0 g0 => ?_⟩
  subst g0
  refine loop_n 12 (fun k => ((M.placesN k (M.spec_l01New b)).1, (k : Int), (M.placesN k (M.spec_l01New b)).2.i, (M.placesN k (M.spec_l01New b)).2.h, ())) (fun _ => True) rfl trivial (fun k hk _ next hn => ?_) fun _ next => ?_
  · have hn := hn trivial
    refine bcase_t (by simp; omega) ?_
    have e : (⟨b, (M.placesN k (M.spec_l01New b)).2.i, (M.placesN k (M.spec_l01New b)).2.h⟩ : D.Cur) = (M.placesN k (M.spec_l01New b)).2 := cur_eta (c := M.spec_l01New b) (places_b k _)
    rw [e]
    refine ⟨places_ok k (new_ok h), fun r hr => ⟨by rw [places_len]; simp; omega, ?_⟩⟩
    subst hr
    rw [up64 hk (by omega)]
    exact hn
  · exact bcase_f (by simp) rfl
theorem runN_end (p : List D.Ins) (k : Nat) (l : D.Lane) (n : Int) (h : ¬ l.Pc < p.length) : M.runN p k l n = (l, n) := by
  cases k with
  | zero => rfl
  | succ k => rw [M.runN, if_neg h]
theorem reg_below (c : D.Cur) : M.isReg (M.spec_l01Below c 4).1 = true := by
  have := below_in c (n := 4) (by omega)
  rw [isReg_iff]; omega
theorem plain_good (c : D.Cur) {n : Int} (hn : 0 ≤ n ∧ n ≤ 32) : M.insOk (M.spec_l04Plain c).1 n = true ∧ M.isLocal (M.spec_l04Plain c).1 = true := by
  have h9 := below_in c (n := 9) (by omega)
  have hw : IntKind.wrap .i64 (1 + (M.spec_l01Below c 9).1) = 1 + (M.spec_l01Below c 9).1 := w64 (by omega) (by omega)
  have hin : M.isIn n 0 32 = true := by simp [M.isIn]; omega
  have h6 := fun d : D.Cur => below_in d (n := 6) (by omega)
  have hw6 : ∀ d : D.Cur, M.isWord (M.spec_l01Below d 6).1 = true := fun d => by rw [isWord_iff]; have := h6 d; omega
  simp only [M.spec_l04Plain, hw]
  generalize (M.spec_l01Below c 9).1 = o at *
  split
  · rename_i e
    refine ⟨?_, by simp [M.isLocal, M.isIn]; omega⟩
    simp only [M.insOk, hin, Bool.true_and]
    rw [if_neg (by omega), if_pos (by omega)]
    simp [reg_below, hw6]
  split
  · rename_i e
    refine ⟨?_, by simp [M.isLocal, M.isIn]; omega⟩
    simp only [M.insOk, hin, Bool.true_and]
    rw [if_neg (by omega), if_neg (by omega), if_neg (by omega), if_pos (by omega)]
    simp [reg_below]
  split
  · rename_i e
    refine ⟨?_, by simp [M.isLocal, M.isIn]; omega⟩
    simp only [M.insOk, hin, Bool.true_and]
    rw [if_neg (by omega), if_neg (by omega), if_pos (by omega)]
    simp [reg_below]
  · refine ⟨?_, by simp [M.isLocal, M.isIn]; omega⟩
    simp only [M.insOk, hin, Bool.true_and]
    rw [if_neg (by omega), if_neg (by omega), if_neg (by omega), if_neg (by omega), if_neg (by omega), if_neg (by omega)]
    have : M.isIn (1 + o) 3 9 = true := by simp [M.isIn]; omega
    simp [reg_below, this]
theorem places_good : ∀ (k : Nat) (c : D.Cur), ∀ x ∈ (M.placesN k c).1, 0 ≤ x ∧ x < 10000
  | 0, c, x, hx => by simp [M.placesN] at hx
  | k + 1, c, x, hx => by
    simp only [M.placesN, List.mem_append, List.mem_singleton] at hx
    rcases hx with hx | rfl
    · exact places_good k c x hx
    · exact below_in _ (by omega)
theorem lessW_word (a b : Int) : M.isWord (M.lessW a b) = true := by unfold M.lessW; split <;> rfl
theorem zero_or_mod (c : Bool) (x : Int) : M.isWord (if c then x % 65536 else 0) = true := by split; exact isWord_mod x; rfl
theorem addW_word (a b : Int) : M.isWord (M.addW a b) = true := zero_or_mod _ _
theorem subW_word (a b : Int) : M.isWord (M.subW a b) = true := zero_or_mod _ _
theorem mulW_word (a b : Int) : M.isWord (M.mulW a b) = true := zero_or_mod _ _
theorem xorW_word {a b : Int} (ha : M.isWord a = true) (hb : M.isWord b = true) : M.isWord (bitXor .i64 a b) = true := by
  rw [isWord_iff] at *
  unfold bitXor
  have e1 : (BitVec.ofInt (IntKind.bits .i64) a ^^^ BitVec.ofInt (IntKind.bits .i64) b).toNat = a.toNat ^^^ b.toNat := by
    show (BitVec.ofInt 64 a ^^^ BitVec.ofInt 64 b).toNat = _
    rw [BitVec.toNat_xor, BitVec.toNat_ofInt, BitVec.toNat_ofInt, show ((2 ^ 64 : Nat) : Int) = 18446744073709551616 from rfl]
    congr 1 <;> omega
  have e2 : a.toNat ^^^ b.toNat < 2 ^ 16 := Nat.xor_lt_two_pow (by omega) (by omega)
  rw [e1, w64 (by omega) (by omega)]
  omega
theorem set_words {r : List Int} (h : r.all M.isWord = true) (k : Nat) {x : Int} (hx : M.isWord x = true) : (r.set k x).all M.isWord = true := by
  rw [List.all_eq_true] at *
  intro y hy
  rcases List.mem_or_eq_of_mem_set hy with h' | rfl
  · exact h y h'
  · exact hx
theorem apply_words {i : D.Ins} {n : Int} {t : Int} {r : List Int} (hok : M.insOk i n = true) (ht : 0 ≤ t ∧ t ≤ 23) (hl : r.length = 4) (h : r.all M.isWord = true) : (M.apply i t r).all M.isWord = true := by
  obtain ⟨_, hA, hB, hC⟩ := fits_regs (i := i) (r := r) ⟨hl, n, hok⟩
  have hw := List.all_eq_true.1 h
  have rdw : ∀ x, 0 ≤ x ∧ x ≤ 3 → M.isWord (rd r x) = true := fun x hx => hw _ (rd_of hx.1 (by omega))
  unfold M.apply
  split
  · rename_i e
    refine set_words h _ ?_
    simp only [M.insOk, Bool.and_eq_true] at hok
    have hok := hok.2
    rw [if_neg (by omega), if_pos e] at hok
    simp only [Bool.and_eq_true] at hok
    exact hok.2.1
  split
  · exact set_words h _ (rdw _ (hB (by omega)))
  split
  · exact set_words h _ (addW_word _ _)
  split
  · exact set_words h _ (subW_word _ _)
  split
  · exact set_words h _ (mulW_word _ _)
  split
  · exact set_words h _ (xorW_word (rdw _ (hB (by omega))) (rdw _ (hC (by omega))))
  split
  · exact set_words h _ (lessW_word _ _)
  split
  · exact set_words h _ (isWord_iff.2 (by omega))
  split
  · split
    · exact set_words h _ (rdw _ (hB (by omega)))
    · exact h
  · exact h
theorem laneOk_step {p : List D.Ins} {l : D.Lane} (h : M.laneOk p l = true) (hlt : l.Pc < p.length) : M.laneOk p (M.step p l) = true := by
  obtain ⟨hp, hI⟩ := laneOk_inv h
  have hI' := inv_step hp hI hlt
  have hins := fits_at hp hI hlt
  simp only [M.laneOk, M.laneOf, M.areRegs, M.isIn, Bool.and_eq_true, decide_eq_true_eq, beq_iff_eq] at h ⊢
  have hok : M.insOk (rd p l.Pc) p.length = true := by
    simp only [M.programOk, Bool.and_eq_true, decide_eq_true_eq, List.all_eq_true] at hp
    exact hp.2 _ (rd_of hI.1 hlt)
  exact ⟨hp, h.2.1, ⟨hI'.1, hI'.2.1⟩, hI'.2.2, apply_words hok h.2.1 h.2.2.2.1 h.2.2.2.2⟩
end Go.V
set_option linter.unusedVariables false
set_option linter.unusedVariables false
set_option linter.unusedSimpArgs false
set_option maxRecDepth 20000
set_option linter.unusedVariables false
namespace Go.V
def wp.impl_areAllRegs (xs0 : List Int) (Q : Bool → Prop) : Prop :=
  Q (((xs0.length : Nat) : Int) == 32)
def wp.impl_areFrames (xs0 : List D.Frame) (x1 : Int) (Q : Bool → Prop) : Prop :=
  LoopP (σ := Int × Unit) (fun (p83 : Int × Unit) next25 => match p83 with | (i21, _) => bcase (decide (i21 < ((xs0.length : Nat) : Int))) (((0 ≤ i21 ∧ i21 < ((xs0.length : Nat) : Int)) ∧ (∀ r36, r36 = M.impl_within ((rd xs0 i21).Pc) 0 x1 → bcase (!r36) (Q false) ((∀ r41, r41 = M.impl_within ((rd xs0 i21).Stop) 0 x1 → bcase (!r41) (Q false) ((∀ r46, r46 = M.impl_IsMask ((rd xs0 i21).Mask) → bcase (!r46) (Q false) (bcase ((rd xs0 i21).Mask == 0) (Q false) (next25 ((IntKind.wrap .i64 (i21 + 1)), ())))))))))) (bcase (((xs0.length : Nat) : Int) == 0) (Q true) (((0 ≤ (IntKind.wrap .i64 (((xs0.length : Nat) : Int) - 1)) ∧ (IntKind.wrap .i64 (((xs0.length : Nat) : Int) - 1)) < ((xs0.length : Nat) : Int)) ∧ bcase (decide (((xs0.length : Nat) : Int) ≤ 24)) (bcase ((rd xs0 (IntKind.wrap .i64 (((xs0.length : Nat) : Int) - 1))).Pc != (rd xs0 (IntKind.wrap .i64 (((xs0.length : Nat) : Int) - 1))).Stop) (bcase ((rd xs0 (IntKind.wrap .i64 (((xs0.length : Nat) : Int) - 1))).Pc != x1) (((0 ≤ (0 : Int) ∧ (0 : Int) < ((xs0.length : Nat) : Int)) ∧ bcase ((rd xs0 0).Stop == x1) (((0 ≤ (0 : Int) ∧ (0 : Int) < ((xs0.length : Nat) : Int)) ∧ Q ((rd xs0 0).Mask == 255))) (Q false))) (Q false)) (Q false)) (Q false))))) (0, ())
def wp.impl_isWarpOf (xs0 : List D.Ins) (s1 : D.Warp) (Q : Bool → Prop) : Prop :=
  (∀ r23, r23 = M.impl_isWarpNumber s1.Number → bcase r23 ((∀ r28, r28 = M.impl_areAllRegs s1.Regs → bcase r28 ((M.impl_AreWords_pre s1.Regs ∧ ∀ r33, r33 = M.impl_AreWords s1.Regs → bcase r33 ((M.impl_areFrames_pre s1.Frames ((xs0.length : Nat) : Int) ∧ ∀ r38, r38 = M.impl_areFrames s1.Frames ((xs0.length : Nat) : Int) → Q r38)) (Q false))) (Q false))) (Q false))
end Go.V
set_option linter.unusedVariables false
set_option linter.unusedSimpArgs false
set_option maxRecDepth 20000
namespace Go.V
theorem last_wrap {n : Nat} (h : n ≤ 9223372036854775807) : IntKind.wrap .i64 ((n : Int) - 1) = (n : Int) - 1 := w64 (by omega) (by omega)
theorem frames_false {fs : List D.Frame} {n : Int} {k : Nat} (hk : k < fs.length) (h : M.frameOk n (rd fs (k : Int)) = false) : M.areFrames fs n = false := by
  have := all_false (g := M.frameOk n) hk h
  simp [M.areFrames, this]
theorem wp.impl_areFrames.math (fs : List D.Frame) (n : Int) (h : M.impl_areFrames_pre fs n) : wp.impl_areFrames fs n (fun r => r = M.impl_areFrames fs n) := by
  unfold wp.impl_areFrames
  have hl : fs.length ≤ 9223372036854775807 := h
  refine all_loop (g := M.frameOk n) (Q := fun r => r = M.areFrames fs n) h (fun k next hk h1 h2 => ?_) (fun next ha => ?_) fun ha => by simp [M.areFrames, ha]
  · refine bcase_t (by simp; omega) ⟨by omega, fun r hr => bcase_mk (fun e => ?_) fun e r2 hr2 => bcase_mk (fun e2 => ?_) fun e2 r3 hr3 => bcase_mk (fun e3 => ?_) fun e3 => bcase_mk (fun e4 => ?_) fun e4 => ?_⟩
    all_goals simp only [M.impl_within, M.impl_IsMask] at *
    · have := nt e hr
      exact (frames_false hk (by simp [M.frameOk, this])).symm
    · have := nt e2 hr2
      exact (frames_false hk (by simp [M.frameOk, this])).symm
    · have := nt e3 hr3
      exact (frames_false hk (by simp [M.frameOk, this])).symm
    · have e4 : (rd fs (k : Int)).Mask = 0 := by simpa using e4
      exact (frames_false hk (by simp [M.frameOk, e4])).symm
    · rw [up64 hk h]
      refine h2 ?_
      have e4 : (rd fs (k : Int)).Mask ≠ 0 := by simpa using e4
      simp [M.frameOk, nf e hr, nf e2 hr2, nf e3 hr3, e4]
  · refine bcase_f (by simp) (bcase_mk (fun e => ?_) fun e => ?_)
    · have : fs = [] := by simpa using e
      subst this; rfl
    have h0 : fs ≠ [] := by rintro rfl; simp at e
    have hpos : 0 < fs.length := List.length_pos_iff.2 h0
    have hA : M.areFrames fs n = M.endsOk fs n := by
      have : fs.isEmpty = false := by simpa using h0
      simp [M.areFrames, ha, this]
    show _
    simp only [M.impl_areFrames, hA, last_wrap hl]
    refine ⟨by omega, bcase_mk (fun e1 => bcase_mk (fun e2 => bcase_mk (fun e3 => ⟨by omega, bcase_mk (fun e4 => ⟨by omega, ?_⟩) fun e4 => ?_⟩) fun e3 => ?_) fun e2 => ?_) fun e1 => ?_⟩
    all_goals simp only [M.endsOk]
    all_goals change _ = (_ && ((rd fs (((fs.length : Nat) : Int) - 1)).Pc != (rd fs (((fs.length : Nat) : Int) - 1)).Stop && ((rd fs (((fs.length : Nat) : Int) - 1)).Pc != n && _)))
    · have e1 : fs.length ≤ 24 := by simp at e1; omega
      rw [e2, e3, e4]; simp [e1]
    · rw [e4]; simp
    · rw [e3]; simp
    · rw [e2]; simp
    · have e1 : ¬ fs.length ≤ 24 := by simp at e1; omega
      simp [e1]
theorem lenE {r : List Int} : (((r.length : Nat) : Int) == 32) = (r.length == 32) := by
  rw [Bool.eq_iff_iff]; simp; omega
theorem wp.impl_areAllRegs.math (r : List Int) : wp.impl_areAllRegs r (fun x => x = M.impl_areAllRegs r) := lenE
theorem wp.impl_isWarpOf.math (p : List D.Ins) (x : D.Warp) (h : M.impl_isWarpOf_pre p x) : wp.impl_isWarpOf p x (fun r => r = M.impl_isWarpOf p x) := by
  obtain ⟨h1, h2⟩ := h
  refine fun r hr => bcase_mk (fun e r2 hr2 => bcase_mk (fun e2 => ⟨h2, fun r3 hr3 => bcase_mk (fun e3 => ⟨h1, fun r4 hr4 => ?_⟩) fun e3 => ?_⟩) fun e2 => ?_) fun e => ?_
  all_goals try simp only [M.impl_isWarpNumber, M.impl_areAllRegs, M.impl_AreWords, M.impl_areFrames, M.impl_isWarpOf, M.warpOf] at *
  · subst hr hr2 hr3 hr4; simp [e, e2, e3]
  · subst hr hr2 hr3; simp [e, e2, e3]
  · subst hr hr2; simp [e, e2]
  · subst hr; simp [e]
end Go.V
set_option linter.unusedVariables false
namespace Go.V
def wp.slices_Clone_impl_Ins_impl_Ins (xs0 : List D.Ins) (Q : (List D.Ins) → Prop) : Prop :=
  (∀ b21 : Bool, (b21 = true → xs0 = []) → bcase b21 (Q ([] : List D.Ins)) (((([] : List D.Ins).length + xs0.length ≤ 17179869184) ∧ Q (([] : List D.Ins) ++ xs0))))
def wp.impl_newWarp (xs0 : List D.Ins) (x1 : Int) (Q : D.Warp → Prop) : Prop :=
  ((0 ≤ (32 : Int) ∧ (32 : Int) ≤ 17179869184) ∧ bcase (decide (((xs0.length : Nat) : Int) > 0)) (Q (⟨x1, ([(⟨0, ((xs0.length : Nat) : Int), 255⟩ : D.Frame)] : List D.Frame), (List.replicate ((32 : Int).toNat) (default : Int))⟩ : D.Warp)) (Q (⟨x1, ([] : List D.Frame), (List.replicate ((32 : Int).toNat) (default : Int))⟩ : D.Warp)))
def wp.slices_Clone_impl_Frame_impl_Frame (xs0 : List D.Frame) (Q : (List D.Frame) → Prop) : Prop :=
  (∀ b21 : Bool, (b21 = true → xs0 = []) → bcase b21 (Q ([] : List D.Frame)) (((([] : List D.Frame).length + xs0.length ≤ 17179869184) ∧ Q (([] : List D.Frame) ++ xs0))))
def wp.impl_copyWarp (s0 : D.Warp) (Q : D.Warp → Prop) : Prop :=
  (((((M.slices_Clone_impl_Frame_impl_Frame_pre s0.Frames ∧ ∀ r25, r25 = M.slices_Clone_impl_Frame_impl_Frame s0.Frames → (M.slices_Clone_int_int_pre s0.Regs ∧ ∀ r32, r32 = M.slices_Clone_int_int s0.Regs → Q (⟨s0.Number, r25, r32⟩ : D.Warp)))) ∧ ((M.slices_Clone_impl_Frame_impl_Frame_pre s0.Frames ∧ ∀ r45, r45 = M.slices_Clone_impl_Frame_impl_Frame s0.Frames → (M.slices_Clone_int_int_pre s0.Regs ∧ ∀ r52, r52 = M.slices_Clone_int_int s0.Regs → Q (⟨s0.Number, r45, r52⟩ : D.Warp)))) ∧ True)) ∧ ((M.slices_Clone_impl_Frame_impl_Frame_pre s0.Frames ∧ ∀ r65, r65 = M.slices_Clone_impl_Frame_impl_Frame s0.Frames → (M.slices_Clone_int_int_pre s0.Regs ∧ ∀ r72, r72 = M.slices_Clone_int_int s0.Regs → Q (⟨s0.Number, r65, r72⟩ : D.Warp)))) ∧ True)
end Go.V
set_option linter.unusedVariables false
set_option linter.unusedVariables false
set_option linter.unusedSimpArgs false
set_option maxRecDepth 20000
namespace Go.V
theorem wp.slices_Clone_impl_Ins_impl_Ins.math (l : List D.Ins) (h : M.slices_Clone_impl_Ins_impl_Ins_pre l) : wp.slices_Clone_impl_Ins_impl_Ins l (fun r => r = M.slices_Clone_impl_Ins_impl_Ins l) := by
  intro b hb
  refine bcase_mk (fun e => ?_) fun e => ⟨by simp only [List.length_nil, Nat.zero_add]; exact h, ?_⟩
  · rw [hb e]; rfl
  · simp [M.slices_Clone_impl_Ins_impl_Ins]
theorem wp.slices_Clone_impl_Frame_impl_Frame.math (l : List D.Frame) (h : M.slices_Clone_impl_Frame_impl_Frame_pre l) : wp.slices_Clone_impl_Frame_impl_Frame l (fun r => r = M.slices_Clone_impl_Frame_impl_Frame l) := by
  intro b hb
  refine bcase_mk (fun e => ?_) fun e => ⟨by simp only [List.length_nil, Nat.zero_add]; exact h, ?_⟩
  · rw [hb e]; rfl
  · simp [M.slices_Clone_impl_Frame_impl_Frame]
theorem newWarp_eq (p : List D.Ins) (n : Int) : bcase (decide (((p.length : Nat) : Int) > 0)) ((⟨n, [⟨0, ((p.length : Nat) : Int), 255⟩], List.replicate ((32 : Int).toNat) (default : Int)⟩ : D.Warp) = M.newWarp p n) ((⟨n, [], List.replicate ((32 : Int).toNat) (default : Int)⟩ : D.Warp) = M.newWarp p n) := by
  refine bcase_mk (fun e => ?_) fun e => ?_
  · have e3 : p.length > 0 := by simp only [decide_eq_true_eq] at e; omega
    unfold M.newWarp; rw [if_pos e3]; rfl
  · have e3 : ¬ p.length > 0 := by simp only [decide_eq_false_iff_not] at e; omega
    unfold M.newWarp; rw [if_neg e3]; rfl
theorem wp.impl_newWarp.math (p : List D.Ins) (n : Int) (h : M.impl_newWarp_pre p n) : wp.impl_newWarp p n (fun r => r = M.impl_newWarp p n) := ⟨by omega, newWarp_eq p n⟩
theorem joinP_of {σ : Type} {A : (σ → Prop) → Prop} {B : σ → Prop} (v : σ) (h : B v) (hA : ∀ J : σ → Prop, J v → A J) : JoinP A B := hA B h
theorem wp.impl_copyWarp.math (x : D.Warp) (h : M.impl_copyWarp_pre x) : wp.impl_copyWarp x (fun r => r = M.impl_copyWarp x) := by
  obtain ⟨h1, h2⟩ := h
  have q1 : M.slices_Clone_impl_Frame_impl_Frame_pre x.Frames := h1
  have q2 : M.slices_Clone_int_int_pre x.Regs := h2
  unfold wp.impl_copyWarp
  simp only [M.slices_Clone_impl_Frame_impl_Frame, M.slices_Clone_int_int, forall_eq, q1, q2, true_and, and_true, M.impl_copyWarp, and_self]
theorem rd_app {α : Type} [Inhabited α] {l m : List α} {y : α} {k : Nat} (h : l.length = k) : rd (l ++ y :: m) (k : Int) = y := by
  subst h
  rw [rd_nat (by simp)]; simp
end Go.V
set_option linter.unusedVariables false
set_option linter.unusedVariables false
set_option linter.unusedVariables false
set_option linter.unusedSimpArgs false
set_option maxRecDepth 20000
namespace Go.V
theorem empty_len {α : Type} {l : List α} : decide (((l.length : Nat) : Int) > 0) = !l.isEmpty := by
  cases l with
  | nil => rfl
  | cons x l =>
    have : (((x :: l).length : Nat) : Int) > 0 := by simp only [List.length_cons]; omega
    rw [decide_eq_true this]; rfl
theorem empty_len0 {α : Type} {l : List α} : (((l.length : Nat) : Int) == 0) = l.isEmpty := by
  cases l with
  | nil => rfl
  | cons x l =>
    have : ¬ (((x :: l).length : Nat) : Int) = 0 := by simp only [List.length_cons]; omega
    rw [beq_eq_false_iff_ne.2 this]; rfl
theorem frames_last {p : List D.Ins} {x : D.Warp} (h : M.warpOf p x = true) (hx : x.Frames ≠ []) : x.Frames.length ≤ 24 ∧ 0 ≤ (M.lastF x.Frames).Pc ∧ (M.lastF x.Frames).Pc < ((p.length : Nat) : Int) := by
  simp only [M.warpOf, M.areFrames, Bool.and_eq_true, Bool.or_eq_true] at h
  obtain ⟨h1, h2, h3, h4, h5⟩ := h
  have h5 := h5.resolve_left (by simpa using hx)
  have hpos : 0 < x.Frames.length := List.length_pos_iff.2 hx
  have hm : M.lastF x.Frames ∈ x.Frames := rd_of (by omega) (by omega)
  have hf := List.all_eq_true.1 h4 _ hm
  simp only [M.endsOk, M.frameOk, M.isIn, Bool.and_eq_true, decide_eq_true_eq, bne_iff_ne] at h5 hf
  exact ⟨h5.1, hf.1.1, by omega⟩
end Go.V
set_option linter.unusedVariables false
namespace Go.V
def wp.impl_ActiveMask (s0 : D.Warp) (Q : Int → Prop) : Prop :=
  bcase (((s0.Frames.length : Nat) : Int) == 0) (Q 0) (((0 ≤ (IntKind.wrap .i64 (((s0.Frames.length : Nat) : Int) - 1)) ∧ (IntKind.wrap .i64 (((s0.Frames.length : Nat) : Int) - 1)) < ((s0.Frames.length : Nat) : Int)) ∧ Q ((rd s0.Frames (IntKind.wrap .i64 (((s0.Frames.length : Nat) : Int) - 1))).Mask)))
def wp.impl_Warp_zeroMask (s0 : D.Warp) (x1 : Int) (Q : Int → Prop) : Prop :=
  (M.impl_ActiveMask_pre s0 ∧ ∀ r23, r23 = M.impl_ActiveMask s0 → (∀ r28, r28 = M.impl_LanesOf r23 → LoopP (σ := Int × Int × Unit) (fun (p64 : Int × Int × Unit) next40 => match p64 with | (i35, i36, _) => bcase (decide (i36 < ((r28.length : Nat) : Int))) (((0 ≤ i36 ∧ i36 < ((r28.length : Nat) : Int)) ∧ (M.impl_Warp_lane_pre s0 (rd r28 i36) ∧ ((0 ≤ x1 ∧ x1 < (((List.drop ((IntKind.wrap .i64 ((rd r28 i36) * 4)).toNat) (List.take ((IntKind.wrap .i64 ((IntKind.wrap .i64 ((rd r28 i36) + 1)) * 4)).toNat) s0.Regs)).length : Nat) : Int)) ∧ bcase ((rd (List.drop ((IntKind.wrap .i64 ((rd r28 i36) * 4)).toNat) (List.take ((IntKind.wrap .i64 ((IntKind.wrap .i64 ((rd r28 i36) + 1)) * 4)).toNat) s0.Regs)) x1) == 0) (((0 ≤ (rd r28 i36)) ∧ next40 ((bitOr .i64 i35 (IntKind.wrap .i64 (1 * 2 ^ (min ((rd r28 i36).toNat) (IntKind.bits .i64))))), (IntKind.wrap .i64 (i36 + 1)), ()))) (next40 (i35, (IntKind.wrap .i64 (i36 + 1)), ())))))) (Q i35)) (0, 0, ())))
def wp.impl_Warp_splits (s0 : D.Warp) (xs1 : List D.Ins) (Q : Bool → Prop) : Prop :=
  ((0 ≤ (IntKind.wrap .i64 (((s0.Frames.length : Nat) : Int) - 1)) ∧ (IntKind.wrap .i64 (((s0.Frames.length : Nat) : Int) - 1)) < ((s0.Frames.length : Nat) : Int)) ∧ ((0 ≤ (rd s0.Frames (IntKind.wrap .i64 (((s0.Frames.length : Nat) : Int) - 1))).Pc ∧ (rd s0.Frames (IntKind.wrap .i64 (((s0.Frames.length : Nat) : Int) - 1))).Pc < ((xs1.length : Nat) : Int)) ∧ bcase ((rd xs1 ((rd s0.Frames (IntKind.wrap .i64 (((s0.Frames.length : Nat) : Int) - 1))).Pc)).Op != 10) (Q false) (((0 ≤ (rd s0.Frames (IntKind.wrap .i64 (((s0.Frames.length : Nat) : Int) - 1))).Pc ∧ (rd s0.Frames (IntKind.wrap .i64 (((s0.Frames.length : Nat) : Int) - 1))).Pc < ((xs1.length : Nat) : Int)) ∧ bcase ((rd xs1 ((rd s0.Frames (IntKind.wrap .i64 (((s0.Frames.length : Nat) : Int) - 1))).Pc)).B == (IntKind.wrap .i64 ((rd s0.Frames (IntKind.wrap .i64 (((s0.Frames.length : Nat) : Int) - 1))).Pc + 1))) (Q false) (((0 ≤ (rd s0.Frames (IntKind.wrap .i64 (((s0.Frames.length : Nat) : Int) - 1))).Pc ∧ (rd s0.Frames (IntKind.wrap .i64 (((s0.Frames.length : Nat) : Int) - 1))).Pc < ((xs1.length : Nat) : Int)) ∧ (M.impl_Warp_zeroMask_pre s0 ((rd xs1 ((rd s0.Frames (IntKind.wrap .i64 (((s0.Frames.length : Nat) : Int) - 1))).Pc)).A) ∧ ∀ r44, r44 = M.impl_Warp_zeroMask s0 ((rd xs1 ((rd s0.Frames (IntKind.wrap .i64 (((s0.Frames.length : Nat) : Int) - 1))).Pc)).A) → bcase (r44 != 0) ((M.impl_ActiveMask_pre s0 ∧ ∀ r49, r49 = M.impl_ActiveMask s0 → Q (r44 != r49))) (Q false))))))))
end Go.V
set_option linter.unusedVariables false
set_option linter.unusedSimpArgs false
set_option maxRecDepth 20000
namespace Go.V
theorem activeMask_wp {x : D.Warp} (h : M.Long x.Frames) {Q : Int → Prop} (hQ : Q (M.activeMask x)) : bcase (((x.Frames.length : Nat) : Int) == 0) (Q 0) (((0 ≤ (IntKind.wrap .i64 (((x.Frames.length : Nat) : Int) - 1)) ∧ (IntKind.wrap .i64 (((x.Frames.length : Nat) : Int) - 1)) < ((x.Frames.length : Nat) : Int)) ∧ Q ((rd x.Frames (IntKind.wrap .i64 (((x.Frames.length : Nat) : Int) - 1))).Mask))) := by
  rw [empty_len0]
  refine bcase_mk (fun e => ?_) fun e => ?_
  · unfold M.activeMask at hQ; rw [if_pos e] at hQ; exact hQ
  · have hx : x.Frames ≠ [] := by simpa using e
    have hpos : 0 < x.Frames.length := List.length_pos_iff.2 hx
    rw [last_wrap h]
    unfold M.activeMask at hQ
    rw [if_neg (by rw [e]; simp)] at hQ
    exact ⟨by omega, hQ⟩
theorem wp.impl_ActiveMask.math (x : D.Warp) (h : M.impl_ActiveMask_pre x) : wp.impl_ActiveMask x (fun r => r = M.impl_ActiveMask x) := activeMask_wp (Q := fun r => r = M.activeMask x) h rfl
theorem reg_in {reg k : Int} (hr : M.isReg reg = true) (h0 : 0 ≤ k) (h7 : k ≤ 7) : 0 ≤ k * 4 + reg ∧ k * 4 + reg < 32 := by rw [isReg_iff] at hr; omega
theorem lanes_in {m l : Int} (h : l ∈ M.lanesOf m) : 0 ≤ l ∧ l ≤ 7 := by
  have := (List.mem_filter.1 h).1
  simp only [List.mem_cons, List.not_mem_nil, or_false] at this
  omega
theorem lanes_len (m : Int) : (M.lanesOf m).length ≤ 8 := by
  have := List.length_filter_le (M.hasLane m) [0, 1, 2, 3, 4, 5, 6, 7]
  exact this
theorem rd_cut {α : Type} [Inhabited α] {l : List α} {a b : Nat} {i : Int} (h0 : 0 ≤ i) (hi : a + i.toNat < b) (hb : b ≤ l.length) : rd ((l.take b).drop a) i = rd l ((a : Int) + i) := by
  have e : ((a : Int) + i).toNat = a + i.toNat := by omega
  unfold rd
  rw [e, List.getD_eq_getElem?_getD, List.getD_eq_getElem?_getD, List.getElem?_drop, List.getElem?_take, if_pos hi]
theorem wp.impl_Warp_zeroMask.math (x : D.Warp) (reg : Int) (h : M.impl_Warp_zeroMask_pre x reg) : wp.impl_Warp_zeroMask x reg (fun r => r = M.impl_Warp_zeroMask x reg) := by
  obtain ⟨h1, h32, hreg⟩ := h
  refine ⟨h1, fun r hr r2 hr2 => ?_⟩
  have hr2' : r2 = M.lanesOf (M.activeMask x) := by rw [hr2, hr]; rfl
  show LoopP _ _
  have hl := lanes_len (M.activeMask x)
  have hmem : ∀ k : Nat, k < r2.length → 0 ≤ rd r2 (k : Int) ∧ rd r2 (k : Int) ≤ 7 := fun k hk => lanes_in (m := M.activeMask x) (by rw [← hr2']; exact rd_mem hk)
  have hM : M.impl_Warp_zeroMask x reg = r2.foldl (M.zeroStep x reg) 0 := by rw [hr2']; rfl
  rw [hM]
  have hlen : r2.length ≤ 8 := by rw [hr2']; exact hl
  clear hr2 hr2' hM
  refine loop_n r2.length (fun k => ((r2.take k).foldl (M.zeroStep x reg) 0, (k : Int), ())) (fun _ => True) rfl trivial (fun k hk _ next hn => ?_) fun _ next => bcase_f (by simp) (by rw [List.take_length])
  have hn := hn trivial
  rw [List.take_add_one, List.getElem?_eq_getElem hk, Option.toList_some, List.foldl_append, ← rd_nat hk] at hn
  simp only [List.foldl_cons, List.foldl_nil] at hn
  have hm := hmem k hk
  dsimp only
  generalize rd r2 (k : Int) = l at *
  have hin := reg_in hreg hm.1 hm.2
  rw [isReg_iff] at hreg
  have a1 : IntKind.wrap .i64 (l * 4) = l * 4 := w64 (by omega) (by omega)
  have a2 : IntKind.wrap .i64 ((IntKind.wrap .i64 (l + 1)) * 4) = l * 4 + 4 := by rw [w64 (x := l + 1) (by omega) (by omega), w64 (by omega) (by omega)]; omega
  rw [a1, a2]
  have hc : rd ((x.Regs.take (l * 4 + 4).toNat).drop (l * 4).toNat) reg = rd x.Regs (l * 4 + reg) := by
    rw [rd_cut hreg.1 (by omega) (by omega)]
    congr 1; omega
  rw [hc, up64 hk (by omega)]
  refine bcase_t (by simp; omega) ⟨by omega, ⟨h32, hm⟩, ⟨by omega, by simp; omega⟩, bcase_mk (fun e => ⟨by omega, ?_⟩) fun e => ?_⟩
  · have e : rd x.Regs (l * 4 + reg) = 0 := by simpa using e
    unfold M.zeroStep at hn
    rw [if_pos e] at hn
    exact hn
  · have e : ¬ rd x.Regs (l * 4 + reg) = 0 := by simpa using e
    unfold M.zeroStep at hn
    rw [if_neg e] at hn
    exact hn
theorem runs_top {p : List D.Ins} {x : D.Warp} (h : M.Runs p x) : p.length ≤ 32 ∧ 0 < x.Frames.length ∧ x.Frames.length ≤ 24 ∧ x.Regs.length = 32 ∧ 0 ≤ M.topPc x ∧ M.topPc x < ((p.length : Nat) : Int) ∧ M.insOk (M.topIns p x) p.length = true ∧ 0 ≤ x.Number ∧ x.Number ≤ 2 := by
  obtain ⟨hp, hw, hx⟩ := h
  obtain ⟨k1, k2, k3⟩ := frames_last hw hx
  have hp' := hp
  simp only [M.programOk, Bool.and_eq_true, decide_eq_true_eq, List.all_eq_true] at hp
  simp only [M.warpOf, Bool.and_eq_true, M.isIn, decide_eq_true_eq, beq_iff_eq] at hw
  exact ⟨hp.1, List.length_pos_iff.2 hx, k1, hw.2.1, k2, k3, hp.2 _ (rd_of k2 k3), hw.1.1, hw.1.2⟩
theorem zero_reg {i : D.Ins} {n : Int} (h : M.insOk i n = true) (e : i.Op = 10) : M.isReg i.A = true := by
  simp only [M.insOk, Bool.and_eq_true] at h
  have h := h.2
  rw [if_neg (by omega), if_neg (by omega), if_neg (by omega), if_neg (by omega), if_pos e] at h
  simp only [Bool.and_eq_true] at h
  exact h.1
theorem activeMask_top {x : D.Warp} (h : x.Frames ≠ []) : M.activeMask x = (M.lastF x.Frames).Mask := by
  unfold M.activeMask
  rw [if_neg (by simpa using h)]
theorem wp.impl_Warp_splits.math (x : D.Warp) (p : List D.Ins) (h : M.impl_Warp_splits_pre x p) : wp.impl_Warp_splits x p (fun r => r = M.impl_Warp_splits x p) := by
  obtain ⟨t1, t2, t3, t4, t5, t6, t7, _⟩ := runs_top h
  have hL : M.Long x.Frames := by unfold M.Long; omega
  unfold wp.impl_Warp_splits
  rw [last_wrap (by omega)]
  change (_ ∧ _) ∧ (0 ≤ M.topPc x ∧ M.topPc x < _) ∧ bcase ((M.topIns p x).Op != 10) _ ((0 ≤ M.topPc x ∧ M.topPc x < _) ∧ bcase ((M.topIns p x).B == IntKind.wrap .i64 (M.topPc x + 1)) _ ((0 ≤ M.topPc x ∧ M.topPc x < _) ∧ (M.impl_Warp_zeroMask_pre x (M.topIns p x).A ∧ ∀ r, r = M.impl_Warp_zeroMask x (M.topIns p x).A → bcase (r != 0) (M.impl_ActiveMask_pre x ∧ ∀ r49, r49 = M.impl_ActiveMask x → (r != r49) = _) _)))
  rw [w64 (x := M.topPc x + 1) (by omega) (by omega)]
  refine ⟨by omega, ⟨t5, t6⟩, bcase_mk (fun e => ?_) fun e => ⟨⟨t5, t6⟩, bcase_mk (fun e2 => ?_) fun e2 => ⟨⟨t5, t6⟩, ⟨hL, t4, zero_reg t7 (by simpa using e)⟩, fun r hr => bcase_mk (fun e3 => ⟨hL, fun r4 hr4 => ?_⟩) fun e3 => ?_⟩⟩⟩
  · have e : ¬ (M.topIns p x).Op = 10 := by simpa using e
    simp [M.impl_Warp_splits, M.splits, e]
  · have e2 : (M.topIns p x).B = M.topPc x + 1 := by simpa using e2
    simp [M.impl_Warp_splits, M.splits, e2]
  all_goals
    have e : (M.topIns p x).Op = 10 := by simpa using e
    have e2 : ¬ (M.topIns p x).B = M.topPc x + 1 := by simpa using e2
    have hz : r = M.zeroMask x (M.topIns p x).A := hr
    rw [hz] at e3
    try rw [hz]
  · have hr4' : r4 = (M.lastF x.Frames).Mask := by rw [hr4]; exact activeMask_top h.2.2
    rw [hr4']
    simp only [M.impl_Warp_splits, M.splits, e, e3, Bool.true_and]
    have : ((M.topIns p x).B != M.topPc x + 1) = true := by simpa using e2
    rw [this]; rfl
  · simp only [M.impl_Warp_splits, M.splits, e3, Bool.false_and, Bool.and_false]
end Go.V
set_option linter.unusedVariables false
set_option linter.unusedVariables false
set_option linter.unusedSimpArgs false
set_option maxRecDepth 20000
namespace Go.V
theorem mem_idx {g : Int → Bool} {x : Int} : ∀ {n : Nat}, x ∈ M.idx g n ↔ ∃ k : Nat, k < n ∧ x = (k : Int) ∧ g x = true
  | 0 => by simp [M.idx]
  | n + 1 => by
    have ih := mem_idx (g := g) (x := x) (n := n)
    unfold M.idx
    constructor
    · intro h
      split at h
      · rename_i e
        rcases List.mem_append.1 h with h | h
        · obtain ⟨k, hk, h1, h2⟩ := ih.1 h; exact ⟨k, by omega, h1, h2⟩
        · obtain rfl := List.mem_singleton.1 h; exact ⟨n, by omega, rfl, e⟩
      · obtain ⟨k, hk, h1, h2⟩ := ih.1 h; exact ⟨k, by omega, h1, h2⟩
    · rintro ⟨k, hk, rfl, h2⟩
      by_cases hkn : k = n
      · subst hkn; rw [if_pos h2]; simp
      · have := ih.2 ⟨k, by omega, rfl, h2⟩
        split
        · exact List.mem_append_left _ this
        · exact this
theorem idx_len (g : Int → Bool) : ∀ n, (M.idx g n).length ≤ n
  | 0 => by simp [M.idx]
  | n + 1 => by
    have := idx_len g n
    unfold M.idx
    split <;> simp <;> omega
theorem idx_loop {n : Nat} {g : Int → Bool} {B : (List Int × Int × Unit) → ((List Int × Int × Unit) → Prop) → Prop}
    (hb : ∀ (k : Nat) (xs : List Int) (next : (List Int × Int × Unit) → Prop), k < n → xs = M.idx g k → xs.length ≤ k → (g (k : Int) = true → next (xs ++ [(k : Int)], ((k + 1 : Nat) : Int), ())) → (g (k : Int) = false → next (xs, ((k + 1 : Nat) : Int), ())) → B (xs, (k : Int), ()) next)
    (he : ∀ next : (List Int × Int × Unit) → Prop, B (M.idx g n, (n : Int), ()) next) : LoopP B ([], 0, ()) := by
  refine loop_n n (fun k => (M.idx g k, (k : Int), ())) (fun _ => True) rfl trivial (fun k hk _ next hn => ?_) fun _ next => he next
  have hn := hn trivial
  unfold M.idx at hn
  exact hb k _ next hk rfl (idx_len g k) (fun e => by rwa [if_pos e] at hn) fun e => by rwa [if_neg (by rw [e]; simp)] at hn
theorem nodeOk {p : List D.Ins} (hp : M.programOk p = true) {k : Int} (h0 : 0 ≤ k) (h1 : k < ((p.length : Nat) : Int)) : M.insOk (rd p k) p.length = true := by
  simp only [M.programOk, Bool.and_eq_true, decide_eq_true_eq, List.all_eq_true] at hp
  exact hp.2 _ (rd_of h0 h1)
theorem progLen {p : List D.Ins} (hp : M.programOk p = true) : p.length ≤ 32 := by
  simp only [M.programOk, Bool.and_eq_true, decide_eq_true_eq] at hp
  exact hp.1
theorem target_in {i : D.Ins} {n : Int} (h : M.insOk i n = true) (e : i.Op = 10 ∨ i.Op = 11) : 0 ≤ i.B ∧ i.B ≤ n := by
  simp only [M.insOk, Bool.and_eq_true] at h
  have h := h.2
  rcases e with e | e
  · rw [if_neg (by omega), if_neg (by omega), if_neg (by omega), if_neg (by omega), if_pos e] at h
    simp only [Bool.and_eq_true, M.isIn, decide_eq_true_eq] at h
    exact h.2.1
  · rw [if_neg (by omega), if_neg (by omega), if_neg (by omega), if_neg (by omega), if_neg (by omega), if_pos e] at h
    simp only [Bool.and_eq_true, M.isIn, decide_eq_true_eq] at h
    exact h.2.1
theorem putTwo_mem {a b x : Int} : x ∈ M.putTwo a b ↔ x = a ∨ x = b := by
  unfold M.putTwo
  split
  · simp [or_comm]
  split
  · rename_i h1 h2; subst h2; simp
  · simp
theorem putTwo_len (a b : Int) : (M.putTwo a b).length ≤ 2 := by
  unfold M.putTwo
  (repeat' split) <;> simp
theorem next_ok {p : List D.Ins} {k : Int} (h : M.Node p k) : (∀ x ∈ M.nextOf p k, M.nodeIn p x) ∧ (M.nextOf p k).length ≤ 2 := by
  obtain ⟨hp, h0, h1⟩ := h
  unfold M.nextOf
  split
  · exact ⟨fun x hx => absurd hx List.not_mem_nil, by simp⟩
  rename_i hne
  have hlt : k < ((p.length : Nat) : Int) := by omega
  have hi := nodeOk hp h0 hlt
  split
  · exact ⟨fun x hx => by obtain rfl := List.mem_singleton.1 hx; exact ⟨by omega, by omega⟩, by simp⟩
  split
  · rename_i e
    exact ⟨fun x hx => by obtain rfl := List.mem_singleton.1 hx; exact target_in hi (.inr e), by simp⟩
  split
  · rename_i e
    refine ⟨fun x hx => ?_, putTwo_len _ _⟩
    rcases putTwo_mem.1 hx with rfl | rfl
    · exact ⟨by omega, by omega⟩
    · exact target_in hi (.inl e)
  · exact ⟨fun x hx => by obtain rfl := List.mem_singleton.1 hx; exact ⟨by omega, by omega⟩, by simp⟩
def falses (l : List Bool) : Nat := l.count false
theorem falses_set : ∀ {l : List Bool} {k : Nat}, k < l.length → l[k]? = some false → falses (l.set k true) + 1 = falses l
  | [], k, hk, _ => absurd hk (by simp)
  | b :: l, 0, hk, h => by
    simp at h; subst h
    simp [falses]
  | b :: l, k + 1, hk, h => by
    have := falses_set (l := l) (k := k) (by simpa using hk) (by simpa using h)
    unfold falses at *
    simp only [List.set_cons_succ, List.count_cons]
    omega
theorem rdB {l : List Bool} {k : Int} (h0 : 0 ≤ k) (h1 : k < ((l.length : Nat) : Int)) : l[k.toNat]? = some (rd l k) := by
  have : k.toNat < l.length := by omega
  simp [rd, List.getD_eq_getElem?_getD, this]
theorem rd_setB {l : List Bool} {k j : Int} (h0 : 0 ≤ k) (h1 : k < ((l.length : Nat) : Int)) (hj : 0 ≤ j) : rd (l.set k.toNat true) j = if j = k then true else rd l j := by
  unfold rd
  rw [List.getD_eq_getElem?_getD, List.getD_eq_getElem?_getD, List.getElem?_set]
  by_cases e : j = k
  · subst e
    have : j.toNat < l.length := by omega
    simp [this]
  · have : ¬ k.toNat = j.toNat := by omega
    rw [if_neg this, if_neg e]
theorem bfs_len (p : List D.Ins) (wo : Int) : ∀ (f : Nat) (work : List Int) (seen : List Bool), (M.bfs p wo f work seen).length = seen.length
  | 0, _, _ => rfl
  | f + 1, [], _ => rfl
  | f + 1, k :: work, seen => by
    unfold M.bfs
    split
    · exact bfs_len p wo f _ _
    · rw [bfs_len p wo f]; simp
theorem bfs_mono (p : List D.Ins) (wo : Int) {j : Int} (hj : 0 ≤ j) : ∀ (f : Nat) (work : List Int) (seen : List Bool), (∀ x ∈ work, M.Node p x) → seen.length = p.length + 1 → rd seen j = true → rd (M.bfs p wo f work seen) j = true
  | 0, _, _, _, _, h => h
  | f + 1, [], _, _, _, h => h
  | f + 1, k :: work, seen, hw, hl, h => by
    have hk := hw k List.mem_cons_self
    have hr : ∀ x ∈ work, M.Node p x := fun x hx => hw x (List.mem_cons_of_mem _ hx)
    unfold M.bfs
    split
    · exact bfs_mono p wo hj f _ _ hr hl h
    · refine bfs_mono p wo hj f _ _ (fun x hx => (List.mem_append.1 hx).elim (hr x) fun h' => ⟨hk.1, (next_ok hk).1 x h'⟩) (by simpa using hl) ?_
      have hk2 := hk.2
      unfold M.nodeIn at hk2
      rw [rd_setB hk2.1 (by omega) hj]
      split
      · rfl
      · exact h
theorem bfs_loop {p : List D.Ins} {wo : Int} {I : List Bool → Prop} {B : (List Int × List Bool × Unit) → ((List Int × List Bool × Unit) → Prop) → Prop} {work0 : List Int} {seen0 R : List Bool} {fuel : Nat}
    (hs : M.Starts p work0) (hl0 : seen0.length = p.length + 1) (hI0 : I seen0) (hR : M.bfs p wo fuel work0 seen0 = R) (hf : 3 * falses seen0 + work0.length ≤ fuel)
    (hb0 : ∀ (k : Int) (rest : List Int) (seen : List Bool) (next : (List Int × List Bool × Unit) → Prop), M.Node p k → seen.length = p.length + 1 → I seen → (k = wo ∨ rd seen k = true) → next (rest, seen, ()) → B (k :: rest, seen, ()) next)
    (hb1 : ∀ (k : Int) (rest : List Int) (seen : List Bool) (next : (List Int × List Bool × Unit) → Prop), M.Node p k → seen.length = p.length + 1 → I seen → ¬ k = wo → rd seen k = false → rd R k = true → rest.length + (M.nextOf p k).length ≤ 17179869184 → (I (seen.set k.toNat true) → next (rest ++ M.nextOf p k, seen.set k.toNat true, ())) → B (k :: rest, seen, ()) next)
    (he : ∀ (next : (List Int × List Bool × Unit) → Prop), I R → B ([], R, ()) next) : LoopP B (work0, seen0, ()) := by
  obtain ⟨hp, hw, h4⟩ := hs
  have h32 := progLen hp
  have hc0 : falses seen0 ≤ p.length + 1 := by unfold falses; rw [← hl0]; exact List.count_le_length
  refine ⟨fun m z => ∃ work seen f, z = (work, seen, ()) ∧ m = 3 * falses seen + work.length ∧ m ≤ f ∧ M.bfs p wo f work seen = R ∧ seen.length = p.length + 1 ∧ (∀ x ∈ work, M.Node p x) ∧ m ≤ 200 ∧ I seen,
    ⟨_, work0, seen0, fuel, rfl, rfl, hf, hR, hl0, fun x hx => ⟨hp, hw x hx⟩, by omega, hI0⟩, ?_⟩
  rintro m z ⟨work, seen, f, rfl, rfl, hmf, hbf, hl, hwk, hm, hI⟩
  cases work with
  | nil =>
    have : seen = R := by
      cases f with
      | zero => exact hbf
      | succ f => exact hbf
    subst this
    exact he _ hI
  | cons k rest =>
    have hk := hwk k List.mem_cons_self
    have hr : ∀ x ∈ rest, M.Node p x := fun x hx => hwk x (List.mem_cons_of_mem _ hx)
    cases f with
    | zero => simp at hmf
    | succ f =>
      by_cases hc : k = wo ∨ rd seen k = true
      · refine hb0 k rest seen _ hk hl hI hc ⟨_, ?_, rest, seen, f, rfl, rfl, ?_, ?_, hl, hr, ?_, hI⟩
        · simp
        · simp at hmf; omega
        · rw [M.bfs, if_pos hc] at hbf; exact hbf
        · simp at hm; omega
      · have h1 : ¬ k = wo := fun e => hc (.inl e)
        have h2 : rd seen k = false := by simpa using fun e => hc (.inr e)
        have hk2 := hk.2
        unfold M.nodeIn at hk2
        have hn := next_ok hk
        have hfs := falses_set (l := seen) (k := k.toNat) (by omega) (by rw [rdB hk2.1 (by omega), h2])
        rw [M.bfs, if_neg hc] at hbf
        have hw' : ∀ x ∈ rest ++ M.nextOf p k, M.Node p x := fun x hx => (List.mem_append.1 hx).elim (hr x) fun h' => ⟨hk.1, hn.1 x h'⟩
        have hR' : rd R k = true := by
          rw [← hbf]
          refine bfs_mono p wo hk2.1 f _ _ hw' (by simpa using hl) ?_
          rw [rd_setB hk2.1 (by omega) hk2.1, if_pos rfl]
        refine hb1 k rest seen _ hk hl hI h1 h2 hR' ?_ fun hI' => ⟨_, ?_, _, _, f, rfl, rfl, ?_, hbf, by simpa using hl, hw', ?_, hI'⟩
        · simp at hm; omega
        · simp only [List.length_append, List.length_cons]; omega
        · simp only [List.length_append, List.length_cons] at *; omega
        · simp only [List.length_append, List.length_cons] at *; omega
theorem seen0_len (n : Nat) : (List.replicate (n + 1) false).length = n + 1 := by simp
theorem seen0_falses (n : Nat) : falses (List.replicate (n + 1) false) = n + 1 := by simp [falses]
theorem seen0_rd (n : Nat) (k : Int) : rd (List.replicate (n + 1) false) k = false := by
  unfold rd
  rw [List.getD_eq_getElem?_getD, List.getElem?_replicate]
  split <;> rfl
inductive Rch (p : List D.Ins) (wo : Int) (frm : List Int) : Int → Prop
  | base {s : Int} : s ∈ frm → s ≠ wo → Rch p wo frm s
  | step {k s : Int} : Rch p wo frm k → s ∈ M.nextOf p k → s ≠ wo → Rch p wo frm s
theorem bfs_sound {p : List D.Ins} {wo : Int} {frm : List Int} : ∀ (f : Nat) (work : List Int) (seen : List Bool), (∀ x ∈ work, M.Node p x) → seen.length = p.length + 1 → (∀ x ∈ work, x = wo ∨ Rch p wo frm x) → (∀ x, 0 ≤ x → rd seen x = true → Rch p wo frm x) →
    ∀ x, 0 ≤ x → rd (M.bfs p wo f work seen) x = true → Rch p wo frm x
  | 0, _, _, _, _, _, h => h
  | f + 1, [], _, _, _, _, h => h
  | f + 1, k :: work, seen, hw, hl, hwr, h => by
    have hk := hw k List.mem_cons_self
    have hk2 := hk.2
    unfold M.nodeIn at hk2
    have hr : ∀ x ∈ work, M.Node p x := fun x hx => hw x (List.mem_cons_of_mem _ hx)
    have hwr' : ∀ x ∈ work, x = wo ∨ Rch p wo frm x := fun x hx => hwr x (List.mem_cons_of_mem _ hx)
    unfold M.bfs
    split
    · exact bfs_sound f work seen hr hl hwr' h
    · rename_i hc
      have hkR : Rch p wo frm k := (hwr k List.mem_cons_self).resolve_left fun e => hc (.inl e)
      refine bfs_sound f _ _ (fun x hx => (List.mem_append.1 hx).elim (hr x) fun h' => ⟨hk.1, (next_ok hk).1 x h'⟩) (by simpa using hl) (fun x hx => (List.mem_append.1 hx).elim (hwr' x) fun h' => ?_) fun x hx hs => ?_
      · by_cases e : x = wo
        · exact .inl e
        · exact .inr (.step hkR h' e)
      · rw [rd_setB hk2.1 (by omega) hx] at hs
        split at hs
        · rename_i e; rw [e]; exact hkR
        · exact h x hx hs
def Closed (p : List D.Ins) (wo : Int) (frm work : List Int) (seen : List Bool) : Prop :=
  (∀ s ∈ frm, s ≠ wo → rd seen s = true ∨ s ∈ work) ∧ ∀ k, M.nodeIn p k → rd seen k = true → ∀ s ∈ M.nextOf p k, s ≠ wo → rd seen s = true ∨ s ∈ work
theorem bfs_closed {p : List D.Ins} {wo : Int} {frm : List Int} : ∀ (f : Nat) (work : List Int) (seen : List Bool), (∀ x ∈ work, M.Node p x) → (∀ x ∈ frm, M.nodeIn p x) → seen.length = p.length + 1 → 3 * falses seen + work.length ≤ f → Closed p wo frm work seen → Closed p wo frm [] (M.bfs p wo f work seen)
  | 0, work, seen, _, _, _, hf, hc => by
    have : work = [] := List.eq_nil_of_length_eq_zero (by omega)
    subst this; exact hc
  | f + 1, [], seen, _, _, _, _, hc => hc
  | f + 1, k :: work, seen, hw, hfr, hl, hf, hc => by
    have hk := hw k List.mem_cons_self
    have hk2 := hk.2
    have hk3 := hk.2
    unfold M.nodeIn at hk2
    have hr : ∀ x ∈ work, M.Node p x := fun x hx => hw x (List.mem_cons_of_mem _ hx)
    simp only [List.length_cons] at hf
    obtain ⟨c1, c2⟩ := hc
    unfold M.bfs
    split
    · rename_i hd
      have drop : ∀ s, s ≠ wo → (rd seen s = true ∨ s ∈ k :: work) → rd seen s = true ∨ s ∈ work := by
        intro s hs h
        rcases h with h | h
        · exact .inl h
        rcases List.mem_cons.1 h with rfl | h
        · exact .inl (hd.resolve_left hs)
        · exact .inr h
      exact bfs_closed f work seen hr hfr hl (by omega) ⟨fun s hs hne => drop s hne (c1 s hs hne), fun j hj hsj s hs hne => drop s hne (c2 j hj hsj s hs hne)⟩
    · rename_i hd
      have h2 : rd seen k = false := by simpa using fun e => hd (.inr e)
      have hfs := falses_set (l := seen) (k := k.toNat) (by omega) (by rw [rdB hk2.1 (by omega), h2])
      have hn := next_ok hk
      have up : ∀ s, M.nodeIn p s → (rd seen s = true ∨ s ∈ k :: work) → rd (seen.set k.toNat true) s = true ∨ s ∈ work ++ M.nextOf p k := by
        intro s hs h
        have hs2 := hs
        unfold M.nodeIn at hs2
        rw [rd_setB hk2.1 (by omega) hs2.1]
        rcases h with h | h
        · left; split; rfl; exact h
        rcases List.mem_cons.1 h with rfl | h
        · left; rw [if_pos rfl]
        · exact .inr (List.mem_append_left _ h)
      refine bfs_closed f _ _ (fun x hx => (List.mem_append.1 hx).elim (hr x) fun h' => ⟨hk.1, hn.1 x h'⟩) hfr (by simpa using hl) (by simp only [List.length_append]; omega)
        ⟨fun s hs hne => up s (hfr s hs) (c1 s hs hne), fun j hj hsj s hs hne => ?_⟩
      have hj2 := hj
      unfold M.nodeIn at hj2
      rw [rd_setB hk2.1 (by omega) hj2.1] at hsj
      split at hsj
      · rename_i e; subst e
        exact .inr (List.mem_append_right _ hs)
      · exact up s ((next_ok ⟨hk.1, hj⟩).1 s hs) (c2 j hj hsj s hs hne)
theorem rch_node {p : List D.Ins} {wo : Int} {frm : List Int} (hp : M.programOk p = true) (hf : ∀ x ∈ frm, M.nodeIn p x) {x : Int} (h : Rch p wo frm x) : M.nodeIn p x := by
  induction h with
  | base h _ => exact hf _ h
  | step _ hs _ ih => exact (next_ok ⟨hp, ih⟩).1 _ hs
theorem reached_iff {p : List D.Ins} {wo : Int} {frm : List Int} (hp : M.programOk p = true) (hf : ∀ x ∈ frm, M.nodeIn p x) {x : Int} (hx : M.nodeIn p x) : rd (M.reached p frm wo) x = true ↔ Rch p wo frm x := by
  constructor
  · intro h
    refine bfs_sound (frm := frm) _ frm _ (fun y hy => ⟨hp, hf y hy⟩) (seen0_len _) (fun y hy => ?_) (fun y _ hs => by rw [seen0_rd] at hs; cases hs) x hx.1 h
    by_cases e : y = wo
    · exact .inl e
    · exact .inr (.base hy e)
  · intro h
    have hc := bfs_closed (p := p) (wo := wo) (frm := frm) (3 * (p.length + 1) + frm.length) frm (List.replicate (p.length + 1) false) (fun y hy => ⟨hp, hf y hy⟩) hf (seen0_len _) (by rw [seen0_falses]; omega)
      ⟨fun s hs _ => .inr hs, fun k _ hs => by rw [seen0_rd] at hs; cases hs⟩
    clear hx
    induction h with
    | base h hne => exact (hc.1 _ h hne).resolve_right List.not_mem_nil
    | step hk hs hne ih => exact (hc.2 _ (rch_node hp hf hk) ih _ hs hne).resolve_right List.not_mem_nil
theorem reached_len (p : List D.Ins) (frm : List Int) (wo : Int) : (M.reached p frm wo).length = p.length + 1 := by
  unfold M.reached; rw [bfs_len]; simp
theorem after_exits {p : List D.Ins} {k later : Int} (h : M.Node p k) (hl : M.nodeIn p later) (h1 : M.exitB p k = true) (h2 : M.afterB p k later = true) : M.exitB p later = true := by
  obtain ⟨hp, hk⟩ := h
  have hn : M.nodeIn p ((p.length : Nat) : Int) := ⟨by omega, by omega⟩
  have one : ∀ z, M.nodeIn p z → ∀ x ∈ [z], M.nodeIn p x := fun z hz x hx => by obtain rfl := List.mem_singleton.1 hx; exact hz
  have r1 := (reached_iff hp (one k hk) hn).1 h1
  have r2 : ¬ Rch p later [k] ((p.length : Nat) : Int) := fun hr => by
    have := (reached_iff hp (one k hk) hn).2 hr
    unfold M.afterB at h2
    rw [this] at h2; cases h2
  have hl1 : later ≠ -1 := by have := hl.1; omega
  have key : ∀ x, Rch p (-1) [k] x → Rch p later [k] x ∨ Rch p (-1) [later] x := by
    intro x hx
    induction hx with
    | @base s hs hne =>
      by_cases e : s = later
      · exact .inr (.base (by simp [e]) hne)
      · exact .inl (.base hs e)
    | @step j s _ hs hne ih =>
      rcases ih with ih | ih
      · by_cases e : s = later
        · exact .inr (.base (by simp [e]) hne)
        · exact .inl (.step ih hs e)
      · exact .inr (.step ih hs hne)
  exact (reached_iff hp (one later hl) hn).2 ((key _ r1).resolve_left r2)
theorem small64 {p : List D.Ins} (h : M.PSmall p) : IntKind.wrap .i64 (((p.length : Nat) : Int) + 1) = ((p.length + 1 : Nat) : Int) := by
  unfold M.PSmall at h
  rw [w64 (by omega) (by omega)]; push_cast; rfl
theorem prog_small {p : List D.Ins} (hp : M.programOk p = true) : M.PSmall p := by have := progLen hp; unfold M.PSmall; omega
theorem small_longP {p : List D.Ins} (h : M.PSmall p) : M.Long p := by unfold M.PSmall at h; unfold M.Long; omega
theorem filter_take {l : List Int} {g : Int → Bool} {k : Nat} (hk : k < l.length) : (l.take (k + 1)).filter g = if g (rd l (k : Int)) then (l.take k).filter g ++ [rd l (k : Int)] else (l.take k).filter g := by
  rw [List.take_add_one, List.getElem?_eq_getElem hk, rd_nat hk, List.filter_append]
  by_cases e : g l[k] = true
  · simp [e]
  · simp [e]
theorem cons_facts {k : Int} {rest : List Int} : rd (k :: rest) 0 = k ∧ List.drop ((1 : Int).toNat) (k :: rest) = rest ∧ (0 ≤ (0 : Int) ∧ (0 : Int) < (((k :: rest).length : Nat) : Int)) ∧ (0 ≤ (1 : Int) ∧ (1 : Int) ≤ (((k :: rest).length : Nat) : Int)) ∧ decide ((((k :: rest).length : Nat) : Int) > 0) = true := by
  refine ⟨rfl, rfl, by simp only [List.length_cons]; omega, by simp only [List.length_cons]; omega, ?_⟩
  simp only [List.length_cons, decide_eq_true_eq]; omega
theorem repl_eq {p : List D.Ins} (hp : M.programOk p = true) : List.replicate ((IntKind.wrap .i64 (((p.length : Nat) : Int) + 1)).toNat) (default : Bool) = List.replicate (p.length + 1) false := by
  rw [small64 (prog_small hp)]; rfl
theorem node_seen {p : List D.Ins} {k : Int} {seen : List Bool} (h : M.Node p k) (hl : seen.length = p.length + 1) : 0 ≤ k ∧ k < ((seen.length : Nat) : Int) := by
  obtain ⟨_, h0, h1⟩ := h
  omega
theorem start1 {p : List D.Ins} {k : Int} (h : M.Node p k) : M.Starts p [k] := ⟨h.1, fun x hx => by obtain rfl := List.mem_singleton.1 hx; exact h.2, by simp⟩
theorem isNode_iff {p : List D.Ins} {k : Int} : M.isNode p k = true ↔ M.Node p k := by
  simp only [M.isNode, M.Node, M.nodeIn, Bool.and_eq_true, M.isIn, decide_eq_true_eq]
theorem afters_nodes {p : List D.Ins} {k x : Int} (h : x ∈ M.others (M.aftersOf p k) k) : M.Node p x ∧ M.Node p k ∧ M.exitB p k = true ∧ M.afterB p k x = true := by
  have h := (List.mem_filter.1 h).1
  unfold M.aftersOf at h
  split at h
  · rename_i e
    simp only [Bool.and_eq_true] at e
    have hN := isNode_iff.1 e.1
    obtain ⟨j, hj, rfl, hg⟩ := mem_idx.1 h
    exact ⟨⟨hN.1, by omega, by omega⟩, hN, e.2, hg⟩
  · exact absurd h List.not_mem_nil
theorem afters_len (p : List D.Ins) (k : Int) : (M.aftersOf p k).length ≤ p.length + 1 := by
  unfold M.aftersOf
  split
  · exact idx_len _ _
  · simp
theorem afters_ok {p : List D.Ins} (hp : M.PSmall p) (k : Int) : M.Nodes p (M.others (M.aftersOf p k) k) := by
  have h1 := afters_len p k
  have h2 := List.length_filter_le (fun x => x != k) (M.aftersOf p k)
  unfold M.PSmall at hp
  refine ⟨?_, fun x hx => (afters_nodes hx).1⟩
  show (M.others (M.aftersOf p k) k).length ≤ 17179869183
  unfold M.others; omega
theorem br_in {p : List D.Ins} {b : Int} (h : M.Branch p b) : M.Node p (b + 1) ∧ M.Node p (rd p b).B ∧ M.Node p b ∧ b + 1 < 9223372036854775807 := by
  obtain ⟨hp, h0, h1, hb⟩ := h
  have h32 := progLen hp
  simp only [M.isBr, Bool.and_eq_true, beq_iff_eq] at hb
  have ht := target_in (nodeOk hp h0 h1) (.inl hb.1)
  exact ⟨⟨hp, by omega, by omega⟩, ⟨hp, ht⟩, ⟨hp, by omega, by omega⟩, by omega⟩
theorem branch_of {p : List D.Ins} {b : Int} (h : M.has (M.branches p) b = true) : M.Branch p b := by
  simp only [M.has, List.any_eq_true, beq_iff_eq] at h
  obtain ⟨x, hx, rfl⟩ := h
  unfold M.branches at hx
  split at hx
  · rename_i hp
    obtain ⟨j, hj, rfl, hg⟩ := mem_idx.1 hx
    exact ⟨hp, by omega, by omega, hg⟩
  · exact absurd hx List.not_mem_nil
theorem branches_len (p : List D.Ins) : (M.branches p).length ≤ p.length := by
  unfold M.branches
  split
  · exact idx_len _ _
  · simp
end Go.V
set_option linter.unusedVariables false
namespace Go.V
def wp.cmp_isNaN_int (x0 : Int) (Q : Bool → Prop) : Prop :=
  Q (x0 != x0)
def wp.cmp_Less_int (x0 : Int) (x1 : Int) (Q : Bool → Prop) : Prop :=
  (∀ r21, r21 = M.cmp_isNaN_int x0 → bcase r21 ((∀ r26, r26 = M.cmp_isNaN_int x1 → bcase (!r26) (Q true) (Q (decide (x0 < x1))))) (Q (decide (x0 < x1))))
def wp.slices_insertionSortOrdered_int (xs0 : List Int) (x1 : Int) (x2 : Int) (Q : ((List Int)) → Prop) : Prop :=
  LoopP (σ := Int × (List Int) × Unit) (fun (p299 : Int × (List Int) × Unit) next126 => match p299 with | (i120, xs121, _) => bcase (decide (i120 < x2)) (LoopP (σ := Int × (List Int) × Unit) (fun (p294 : Int × (List Int) × Unit) next204 => match p294 with | (i198, xs199, _) => JoinP (σ := Unit) (fun J206 => bcase (decide (i198 > x1)) (((0 ≤ i198 ∧ i198 < ((xs199.length : Nat) : Int)) ∧ ((0 ≤ (IntKind.wrap .i64 (i198 - 1)) ∧ (IntKind.wrap .i64 (i198 - 1)) < ((xs199.length : Nat) : Int)) ∧ (((∀ r219, r219 = M.cmp_Less_int (rd xs199 i198) (rd xs199 (IntKind.wrap .i64 (i198 - 1))) → bcase r219 (J206 (())) (next126 ((IntKind.wrap .i64 (i120 + 1)), xs199, ())))) ∧ ((∀ r228, r228 = M.cmp_Less_int (rd xs199 i198) (rd xs199 (IntKind.wrap .i64 (i198 - 1))) → bcase r228 (J206 (())) (next126 ((IntKind.wrap .i64 (i120 + 1)), xs199, ())))) ∧ True)))) (((next126 ((IntKind.wrap .i64 (i120 + 1)), xs199, ())) ∧ (next126 ((IntKind.wrap .i64 (i120 + 1)), xs199, ())) ∧ True))) (fun (p292 : Unit) => match p292 with | (_) => ((0 ≤ (IntKind.wrap .i64 (i198 - 1)) ∧ (IntKind.wrap .i64 (i198 - 1)) < ((xs199.length : Nat) : Int)) ∧ ((0 ≤ i198 ∧ i198 < ((xs199.length : Nat) : Int)) ∧ ((((0 ≤ i198 ∧ i198 < ((xs199.length : Nat) : Int)) ∧ ((0 ≤ (IntKind.wrap .i64 (i198 - 1)) ∧ (IntKind.wrap .i64 (i198 - 1)) < (((List.set xs199 (i198.toNat) (rd xs199 (IntKind.wrap .i64 (i198 - 1)))).length : Nat) : Int)) ∧ next204 ((IntKind.wrap .i64 (i198 - 1)), (List.set (List.set xs199 (i198.toNat) (rd xs199 (IntKind.wrap .i64 (i198 - 1)))) ((IntKind.wrap .i64 (i198 - 1)).toNat) (rd xs199 i198)), ())))) ∧ (((0 ≤ i198 ∧ i198 < ((xs199.length : Nat) : Int)) ∧ ((0 ≤ (IntKind.wrap .i64 (i198 - 1)) ∧ (IntKind.wrap .i64 (i198 - 1)) < (((List.set xs199 (i198.toNat) (rd xs199 (IntKind.wrap .i64 (i198 - 1)))).length : Nat) : Int)) ∧ next204 ((IntKind.wrap .i64 (i198 - 1)), (List.set (List.set xs199 (i198.toNat) (rd xs199 (IntKind.wrap .i64 (i198 - 1)))) ((IntKind.wrap .i64 (i198 - 1)).toNat) (rd xs199 i198)), ())))) ∧ True))))) (i120, xs121, ())) (Q xs121)) ((IntKind.wrap .i64 (x1 + 1)), xs0, ())
def wp.math_bits_Len64 (x0 : Int) (Q : Int → Prop) : Prop :=
  JoinP (σ := Int × Int × Unit) (fun J23 => bcase (decide (x0 ≥ 4294967296)) (J23 ((Int.fdiv x0 (2 ^ (min ((32 : Int).toNat) (IntKind.bits .u64)))), 32, ())) (J23 (x0, 0, ()))) (fun (p51 : Int × Int × Unit) => match p51 with | (i21, i22, _) => JoinP (σ := Int × Int × Unit) (fun J30 => bcase (decide (i21 ≥ 65536)) (J30 ((Int.fdiv i21 (2 ^ (min ((16 : Int).toNat) (IntKind.bits .u64)))), (IntKind.wrap .i64 (i22 + 16)), ())) (J30 (i21, i22, ()))) (fun (p49 : Int × Int × Unit) => match p49 with | (i28, i29, _) => JoinP (σ := Int × Int × Unit) (fun J37 => bcase (decide (i28 ≥ 256)) (J37 ((Int.fdiv i28 (2 ^ (min ((8 : Int).toNat) (IntKind.bits .u64)))), (IntKind.wrap .i64 (i29 + 8)), ())) (J37 (i28, i29, ()))) (fun (p47 : Int × Int × Unit) => match p47 with | (i35, i36, _) => ((0 ≤ IntKind.wrap .u8 i35 ∧ IntKind.wrap .u8 i35 < ((ByteArray.size (⟨#[0, 1, 2, 2, 3, 3, 3, 3, 4, 4, 4, 4, 4, 4, 4, 4, 5, 5, 5, 5, 5, 5, 5, 5, 5, 5, 5, 5, 5, 5, 5, 5, 6, 6, 6, 6, 6, 6, 6, 6, 6, 6, 6, 6, 6, 6, 6, 6, 6, 6, 6, 6, 6, 6, 6, 6, 6, 6, 6, 6, 6, 6, 6, 6, 7, 7, 7, 7, 7, 7, 7, 7, 7, 7, 7, 7, 7, 7, 7, 7, 7, 7, 7, 7, 7, 7, 7, 7, 7, 7, 7, 7, 7, 7, 7, 7, 7, 7, 7, 7, 7, 7, 7, 7, 7, 7, 7, 7, 7, 7, 7, 7, 7, 7, 7, 7, 7, 7, 7, 7, 7, 7, 7, 7, 7, 7, 7, 7, 8, 8, 8, 8, 8, 8, 8, 8, 8, 8, 8, 8, 8, 8, 8, 8, 8, 8, 8, 8, 8, 8, 8, 8, 8, 8, 8, 8, 8, 8, 8, 8, 8, 8, 8, 8, 8, 8, 8, 8, 8, 8, 8, 8, 8, 8, 8, 8, 8, 8, 8, 8, 8, 8, 8, 8, 8, 8, 8, 8, 8, 8, 8, 8, 8, 8, 8, 8, 8, 8, 8, 8, 8, 8, 8, 8, 8, 8, 8, 8, 8, 8, 8, 8, 8, 8, 8, 8, 8, 8, 8, 8, 8, 8, 8, 8, 8, 8, 8, 8, 8, 8, 8, 8, 8, 8, 8, 8, 8, 8, 8, 8, 8, 8, 8, 8, 8, 8, 8, 8, 8, 8, 8, 8, 8, 8, 8, 8]⟩) : Nat) : Int)) ∧ Q (IntKind.wrap .i64 (i36 + (IntKind.wrap .i64 (bt (⟨#[0, 1, 2, 2, 3, 3, 3, 3, 4, 4, 4, 4, 4, 4, 4, 4, 5, 5, 5, 5, 5, 5, 5, 5, 5, 5, 5, 5, 5, 5, 5, 5, 6, 6, 6, 6, 6, 6, 6, 6, 6, 6, 6, 6, 6, 6, 6, 6, 6, 6, 6, 6, 6, 6, 6, 6, 6, 6, 6, 6, 6, 6, 6, 6, 7, 7, 7, 7, 7, 7, 7, 7, 7, 7, 7, 7, 7, 7, 7, 7, 7, 7, 7, 7, 7, 7, 7, 7, 7, 7, 7, 7, 7, 7, 7, 7, 7, 7, 7, 7, 7, 7, 7, 7, 7, 7, 7, 7, 7, 7, 7, 7, 7, 7, 7, 7, 7, 7, 7, 7, 7, 7, 7, 7, 7, 7, 7, 7, 8, 8, 8, 8, 8, 8, 8, 8, 8, 8, 8, 8, 8, 8, 8, 8, 8, 8, 8, 8, 8, 8, 8, 8, 8, 8, 8, 8, 8, 8, 8, 8, 8, 8, 8, 8, 8, 8, 8, 8, 8, 8, 8, 8, 8, 8, 8, 8, 8, 8, 8, 8, 8, 8, 8, 8, 8, 8, 8, 8, 8, 8, 8, 8, 8, 8, 8, 8, 8, 8, 8, 8, 8, 8, 8, 8, 8, 8, 8, 8, 8, 8, 8, 8, 8, 8, 8, 8, 8, 8, 8, 8, 8, 8, 8, 8, 8, 8, 8, 8, 8, 8, 8, 8, 8, 8, 8, 8, 8, 8, 8, 8, 8, 8, 8, 8, 8, 8, 8, 8, 8, 8, 8, 8, 8, 8, 8, 8]⟩) (IntKind.wrap .u8 i35)))))))))
def wp.math_bits_Len (x0 : Int) (Q : Int → Prop) : Prop :=
  (M.math_bits_Len64_pre x0 ∧ ∀ r21, r21 = M.math_bits_Len64 x0 → Q r21)
def wp.slices_pdqsortOrdered_int (xs0 : List Int) (x1 : Int) (x2 : Int) (x3 : Int) (Q : ((List Int)) → Prop) : Prop :=
  LoopP (σ := Int × Int × Int × Bool × Bool × Unit) (fun (p44 : Int × Int × Int × Bool × Bool × Unit) next29 => match p44 with | (i21, i22, i23, b24, b25, _) => bcase (decide ((IntKind.wrap .i64 (i22 - i21)) ≤ 12)) ((M.slices_insertionSortOrdered_int_pre xs0 i21 i22 ∧ ∀ r31, r31 = M.slices_insertionSortOrdered_int xs0 i21 i22 → Q r31)) (bcase (i23 == 0) (False) (False))) (x1, x2, x3, true, true, ())
def wp.slices_Sort_int_int (xs0 : List Int) (Q : ((List Int)) → Prop) : Prop :=
  (M.math_bits_Len_pre (IntKind.wrap .u64 ((xs0.length : Nat) : Int)) ∧ ∀ r21, r21 = M.math_bits_Len (IntKind.wrap .u64 ((xs0.length : Nat) : Int)) → (M.slices_pdqsortOrdered_int_pre xs0 0 ((xs0.length : Nat) : Int) r21 ∧ ∀ r26, r26 = M.slices_pdqsortOrdered_int xs0 0 ((xs0.length : Nat) : Int) r21 → Q r26))
def wp.slices_Compact_int_int (xs0 : List Int) (Q : (List Int) → Prop) : Prop :=
  bcase (decide (((xs0.length : Nat) : Int) < 2)) (Q xs0) (LoopP (σ := Int × Unit) (fun (p64 : Int × Unit) next25 => match p64 with | (i21, _) => bcase (decide (i21 < ((xs0.length : Nat) : Int))) (((0 ≤ i21 ∧ i21 < ((xs0.length : Nat) : Int)) ∧ ((0 ≤ (IntKind.wrap .i64 (i21 - 1)) ∧ (IntKind.wrap .i64 (i21 - 1)) < ((xs0.length : Nat) : Int)) ∧ bcase ((rd xs0 i21) == (rd xs0 (IntKind.wrap .i64 (i21 - 1)))) (((0 ≤ i21 ∧ i21 ≤ ((xs0.length : Nat) : Int)) ∧ LoopP (σ := Int × Int × Unit) (fun (p55 : Int × Int × Unit) next45 => match p55 with | (i40, i41, _) => bcase (decide (i41 < ((((List.drop (i21.toNat) xs0)).length : Nat) : Int))) (False) (((0 ≤ i40 ∧ i40 ≤ ((xs0.length : Nat) : Int)) ∧ ((0 ≤ i40 ∧ i40 ≤ (((List.take (i40.toNat) xs0 ++ List.replicate (xs0.length - (i40.toNat)) default).length : Nat) : Int)) ∧ Q (List.take (i40.toNat) (List.take (i40.toNat) xs0 ++ List.replicate (xs0.length - (i40.toNat)) default)))))) (i21, 1, ()))) (next25 ((IntKind.wrap .i64 (i21 + 1)), ()))))) (Q xs0)) (1, ()))
def wp.impl_next (xs0 : List D.Ins) (x1 : Int) (Q : (List Int) → Prop) : Prop :=
  bcase (x1 == ((xs0.length : Nat) : Int)) (Q ([] : List Int)) (((0 ≤ x1 ∧ x1 < ((xs0.length : Nat) : Int)) ∧ bcase ((rd xs0 x1).Op == 12) (Q ([((xs0.length : Nat) : Int)] : List Int)) (bcase ((rd xs0 x1).Op == 11) (Q ([(rd xs0 x1).B] : List Int)) (bcase ((rd xs0 x1).Op == 10) ((M.slices_Sort_int_int_pre ([(rd xs0 x1).B, (IntKind.wrap .i64 (x1 + 1))] : List Int) ∧ ∀ r42, r42 = M.slices_Sort_int_int ([(rd xs0 x1).B, (IntKind.wrap .i64 (x1 + 1))] : List Int) → (M.slices_Compact_int_int_pre r42 ∧ ∀ r48, r48 = M.slices_Compact_int_int r42 → Q r48))) (Q ([(IntKind.wrap .i64 (x1 + 1))] : List Int))))))
def wp.impl_BranchesOf (xs0 : List D.Ins) (Q : (List Int) → Prop) : Prop :=
  (M.impl_ProgramOk_pre xs0 ∧ ∀ r21, r21 = M.impl_ProgramOk xs0 → bcase (!r21) (Q ([] : List Int)) (LoopP (σ := (List Int) × Int × Unit) (fun (p61 : (List Int) × Int × Unit) next36 => match p61 with | (xs29, i32, _) => bcase (decide (i32 < ((xs0.length : Nat) : Int))) ((M.impl_next_pre xs0 i32 ∧ ∀ r38, r38 = M.impl_next xs0 i32 → bcase (((r38.length : Nat) : Int) == 2) (((xs29.length + ([i32] : List Int).length ≤ 17179869184) ∧ next36 ((xs29 ++ ([i32] : List Int)), (IntKind.wrap .i64 (i32 + 1)), ()))) (next36 (xs29, (IntKind.wrap .i64 (i32 + 1)), ())))) (Q xs29)) (([] : List Int), 0, ())))
def wp.impl_isBranch (xs0 : List D.Ins) (x1 : Int) (Q : Bool → Prop) : Prop :=
  (M.impl_BranchesOf_pre xs0 ∧ ∀ r21, r21 = M.impl_BranchesOf xs0 → (M.slices_Contains_int_int_pre r21 x1 ∧ ∀ r28, r28 = M.slices_Contains_int_int r21 x1 → Q r28))
def wp.impl_reached (xs0 : List D.Ins) (xs1 : List Int) (x2 : Int) (Q : (List Bool) → Prop) : Prop :=
  ((0 ≤ (IntKind.wrap .i64 (((xs0.length : Nat) : Int) + 1)) ∧ (IntKind.wrap .i64 (((xs0.length : Nat) : Int) + 1)) ≤ 17179869184) ∧ (M.slices_Clone_int_int_pre xs1 ∧ ∀ r26, r26 = M.slices_Clone_int_int xs1 → LoopP (σ := (List Int) × (List Bool) × Unit) (fun (p133 : (List Int) × (List Bool) × Unit) next87 => match p133 with | (xs79, xs82, _) => bcase (decide (((xs79.length : Nat) : Int) > 0)) (((0 ≤ (0 : Int) ∧ (0 : Int) < ((xs79.length : Nat) : Int)) ∧ ((0 ≤ (1 : Int) ∧ (1 : Int) ≤ ((xs79.length : Nat) : Int)) ∧ bcase ((rd xs79 0) == x2) (next87 ((List.drop ((1 : Int).toNat) xs79), xs82, ())) (((0 ≤ (rd xs79 0) ∧ (rd xs79 0) < ((xs82.length : Nat) : Int)) ∧ bcase (rd xs82 (rd xs79 0)) (next87 ((List.drop ((1 : Int).toNat) xs79), xs82, ())) (((0 ≤ (rd xs79 0) ∧ (rd xs79 0) < ((xs82.length : Nat) : Int)) ∧ (M.impl_next_pre xs0 (rd xs79 0) ∧ ∀ r115, r115 = M.impl_next xs0 (rd xs79 0) → (((List.drop ((1 : Int).toNat) xs79).length + r115.length ≤ 17179869184) ∧ next87 (((List.drop ((1 : Int).toNat) xs79) ++ r115), (List.set xs82 ((rd xs79 0).toNat) true), ())))))))))) (Q xs82)) (r26, (List.replicate ((IntKind.wrap .i64 (((xs0.length : Nat) : Int) + 1)).toNat) (default : Bool)), ())))
def wp.impl_reachesExit (xs0 : List D.Ins) (x1 : Int) (Q : Bool → Prop) : Prop :=
  (M.impl_reached_pre xs0 ([x1] : List Int) (-1) ∧ ∀ r24, r24 = M.impl_reached xs0 ([x1] : List Int) (-1) → ((0 ≤ ((xs0.length : Nat) : Int) ∧ ((xs0.length : Nat) : Int) < ((r24.length : Nat) : Int)) ∧ Q (rd r24 ((xs0.length : Nat) : Int))))
def wp.impl_isNode (xs0 : List D.Ins) (x1 : Int) (Q : Bool → Prop) : Prop :=
  (M.impl_ProgramOk_pre xs0 ∧ ∀ r21, r21 = M.impl_ProgramOk xs0 → bcase r21 ((∀ r26, r26 = M.impl_within x1 0 ((xs0.length : Nat) : Int) → Q r26)) (Q false))
def wp.impl_isAfter (xs0 : List D.Ins) (x1 : Int) (x2 : Int) (Q : Bool → Prop) : Prop :=
  (M.impl_reachesExit_pre xs0 x1 ∧ ∀ r21, r21 = M.impl_reachesExit xs0 x1 → bcase r21 ((M.impl_reached_pre xs0 ([x1] : List Int) x2 ∧ ∀ r29, r29 = M.impl_reached xs0 ([x1] : List Int) x2 → ((0 ≤ ((xs0.length : Nat) : Int) ∧ ((xs0.length : Nat) : Int) < ((r29.length : Nat) : Int)) ∧ Q (!(rd r29 ((xs0.length : Nat) : Int)))))) (Q false))
def wp.impl_IsAfter (xs0 : List D.Ins) (x1 : Int) (x2 : Int) (Q : Bool → Prop) : Prop :=
  (M.impl_isNode_pre xs0 x1 ∧ ∀ r21, r21 = M.impl_isNode xs0 x1 → bcase r21 ((M.impl_isNode_pre xs0 x2 ∧ ∀ r26, r26 = M.impl_isNode xs0 x2 → bcase r26 ((M.impl_isAfter_pre xs0 x1 x2 ∧ ∀ r31, r31 = M.impl_isAfter xs0 x1 x2 → Q r31)) (Q false))) (Q false))
def wp.impl_AftersOf (xs0 : List D.Ins) (x1 : Int) (Q : (List Int) → Prop) : Prop :=
  LoopP (σ := (List Int) × Int × Unit) (fun (p54 : (List Int) × Int × Unit) next31 => match p54 with | (xs24, i27, _) => bcase (decide (i27 < (IntKind.wrap .i64 (((xs0.length : Nat) : Int) + 1)))) ((M.impl_IsAfter_pre xs0 x1 i27 ∧ ∀ r33, r33 = M.impl_IsAfter xs0 x1 i27 → bcase r33 (((xs24.length + ([i27] : List Int).length ≤ 17179869184) ∧ next31 ((xs24 ++ ([i27] : List Int)), (IntKind.wrap .i64 (i27 + 1)), ()))) (next31 (xs24, (IntKind.wrap .i64 (i27 + 1)), ())))) (Q xs24)) (([] : List Int), 0, ())
def wp.impl_FirstAfter_1 (x0 : Int) (x1 : Int) (Q : Bool → Prop) : Prop :=
  Q (x0 == x1)
def wp.slices_DeleteFunc_int_int (xs0 : List Int) (g1 : Int → Bool) (D1 : Int → Prop) (Q : (List Int) → Prop) : Prop :=
  (M.slices_IndexFunc_int_int_pre xs0 g1 D1 ∧ ∀ r21, r21 = M.slices_IndexFunc_int_int xs0 g1 → bcase (r21 == (-1)) (Q xs0) (LoopP (σ := Int × Int × (List Int) × Unit) (fun (p92 : Int × Int × (List Int) × Unit) next58 => match p92 with | (i51, i52, xs53, _) => bcase (decide (i52 < ((xs0.length : Nat) : Int))) (((0 ≤ i52 ∧ i52 < ((xs53.length : Nat) : Int)) ∧ (D1 (rd xs53 i52) ∧ ∀ r65, r65 = g1 (rd xs53 i52) → bcase (!r65) (((0 ≤ i51 ∧ i51 < ((xs53.length : Nat) : Int)) ∧ next58 ((IntKind.wrap .i64 (i51 + 1)), (IntKind.wrap .i64 (i52 + 1)), (List.set xs53 (i51.toNat) (rd xs53 i52)), ()))) (next58 (i51, (IntKind.wrap .i64 (i52 + 1)), xs53, ()))))) (((0 ≤ i51 ∧ i51 ≤ ((xs53.length : Nat) : Int)) ∧ ((0 ≤ i51 ∧ i51 ≤ (((List.take (i51.toNat) xs53 ++ List.replicate (xs53.length - (i51.toNat)) default).length : Nat) : Int)) ∧ Q (List.take (i51.toNat) (List.take (i51.toNat) xs53 ++ List.replicate (xs53.length - (i51.toNat)) default)))))) (r21, (IntKind.wrap .i64 (r21 + 1)), xs0, ())))
def wp.impl_firstOf_1 (x0 : Int) (xs1 : List D.Ins) (x2 : Int) (Q : Bool → Prop) : Prop :=
  (M.impl_isAfter_pre xs1 x2 x0 ∧ ∀ r21, r21 = M.impl_isAfter xs1 x2 x0 → Q (!r21))
def wp.impl_firstOf (xs0 : List D.Ins) (xs1 : List Int) (Q : Int → Prop) : Prop :=
  LoopP (σ := Int × Unit) (fun (p48 : Int × Unit) next27 => match p48 with | (i23, _) => bcase (decide (i23 < ((xs1.length : Nat) : Int))) (((0 ≤ i23 ∧ i23 < ((xs1.length : Nat) : Int)) ∧ (M.slices_ContainsFunc_int_int_pre xs1 (fun z0_ => M.impl_firstOf_1 z0_ xs0 (rd xs1 i23)) (fun z0_ => M.impl_firstOf_1_pre z0_ xs0 (rd xs1 i23)) ∧ ∀ r38, r38 = M.slices_ContainsFunc_int_int xs1 (fun z0_ => M.impl_firstOf_1 z0_ xs0 (rd xs1 i23)) → bcase (!r38) (Q (rd xs1 i23)) (next27 ((IntKind.wrap .i64 (i23 + 1)), ()))))) (Q (-1))) (0, ())
def wp.impl_FirstAfter (xs0 : List D.Ins) (x1 : Int) (Q : Int → Prop) : Prop :=
  (M.impl_AftersOf_pre xs0 x1 ∧ ∀ r23, r23 = M.impl_AftersOf xs0 x1 → (M.slices_DeleteFunc_int_int_pre r23 (fun z0_ => M.impl_FirstAfter_1 z0_ x1) (fun z0_ => M.impl_FirstAfter_1_pre z0_ x1) ∧ ∀ r30, r30 = M.slices_DeleteFunc_int_int r23 (fun z0_ => M.impl_FirstAfter_1 z0_ x1) → (M.impl_firstOf_pre xs0 r30 ∧ ∀ r37, r37 = M.impl_firstOf xs0 r30 → Q r37)))
def wp.impl_JoinOf (xs0 : List D.Ins) (x1 : Int) (Q : Int → Prop) : Prop :=
  (M.impl_isBranch_pre xs0 x1 ∧ ∀ r21, r21 = M.impl_isBranch xs0 x1 → bcase (!r21) (Q (-1)) ((M.impl_next_pre xs0 x1 ∧ ∀ r26, r26 = M.impl_next xs0 x1 → LoopP (σ := Int × Unit) (fun (p59 : Int × Unit) next37 => match p59 with | (i33, _) => bcase (decide (i33 < ((r26.length : Nat) : Int))) (((0 ≤ i33 ∧ i33 < ((r26.length : Nat) : Int)) ∧ (M.impl_reachesExit_pre xs0 (rd r26 i33) ∧ ∀ r44, r44 = M.impl_reachesExit xs0 (rd r26 i33) → bcase (!r44) (Q ((xs0.length : Nat) : Int)) (next37 ((IntKind.wrap .i64 (i33 + 1)), ()))))) ((M.impl_FirstAfter_pre xs0 x1 ∧ ∀ r53, r53 = M.impl_FirstAfter xs0 x1 → Q r53))) (0, ()))))
end Go.V
set_option linter.unusedVariables false
set_option linter.unusedSimpArgs false
set_option maxRecDepth 20000
namespace Go.V
theorem wp.cmp_isNaN_int.math (x : Int) : wp.cmp_isNaN_int x (fun r => r = M.cmp_isNaN_int x) := by simp [wp.cmp_isNaN_int, M.cmp_isNaN_int]
theorem wp.cmp_Less_int.math (x y : Int) : wp.cmp_Less_int x y (fun r => r = M.cmp_Less_int x y) := by
  intro r hr
  have : r = false := hr
  subst this
  exact bcase_f rfl rfl
theorem wp.slices_insertionSortOrdered_int.math (l : List Int) (a b : Int) (h : M.slices_insertionSortOrdered_int_pre l a b) : wp.slices_insertionSortOrdered_int l a b (fun r => r = M.slices_insertionSortOrdered_int l a b) := by
  obtain ⟨hl, rfl, rfl⟩ := h
  match l, hl with
  | [x, y], _ =>
  have w0 : IntKind.wrap .i64 ((0 : Int) + 1) = 1 := by decide +kernel
  have w1 : IntKind.wrap .i64 ((1 : Int) + 1) = 2 := by decide +kernel
  have w2 : IntKind.wrap .i64 ((1 : Int) - 1) = 0 := by decide +kernel
  unfold wp.slices_insertionSortOrdered_int
  rw [w0]
  have r1 : rd [x, y] 1 = y := rfl
  have r0 : rd [x, y] 0 = x := rfl
  -- the outer loop: one round
  refine ⟨fun m z => (m = 1 ∧ z = (1, [x, y], ())) ∨ (m = 0 ∧ z = (2, M.sort2 [x, y], ())), ⟨1, .inl ⟨rfl, rfl⟩⟩, ?_⟩
  rintro m z (⟨rfl, rfl⟩ | ⟨rfl, rfl⟩)
  · refine bcase_t rfl ?_
    refine ⟨fun m z => (m = 1 ∧ z = (1, [x, y], ())) ∨ (m = 0 ∧ z = (0, M.sort2 [x, y], ())), ⟨1, .inl ⟨rfl, rfl⟩⟩, ?_⟩
    rintro m z (⟨rfl, rfl⟩ | ⟨rfl, rfl⟩)
    · unfold JoinP
      have i1 : (0 ≤ (1 : Int) ∧ (1 : Int) < ((([x, y] : List Int).length : Nat) : Int)) := by simp
      have i0 : (0 ≤ (0 : Int) ∧ (0 : Int) < ((([x, y] : List Int).length : Nat) : Int)) := by simp
      by_cases hc : y < x
      · have hs : M.sort2 [x, y] = [y, x] := by simp [M.sort2, r1, r0, hc]
        have e1 : List.set (List.set [x, y] ((1 : Int).toNat) x) ((0 : Int).toNat) y = [y, x] := rfl
        have e2 : List.set (List.set [x, y] ((0 : Int).toNat) y) ((1 : Int).toNat) x = [y, x] := rfl
        have hd : (decide (y < x)) = true := decide_eq_true hc
        refine bcase_t rfl ?_
        simp only [w2, r1, r0, M.cmp_Less_int, forall_eq, hd, e1, e2, hs]
        have j1 : ∀ v, (0 ≤ (1 : Int) ∧ (1 : Int) < (((List.set [x, y] ((0 : Int).toNat) v).length : Nat) : Int)) := fun v => by simp
        have j0 : ∀ v, (0 ≤ (0 : Int) ∧ (0 : Int) < (((List.set [x, y] ((1 : Int).toNat) v).length : Nat) : Int)) := fun v => by simp
        simp only [i1, i0, j1, j0, true_and, and_true, and_self, bcase]
        exact ⟨0, by omega, .inr rfl⟩
      · have hs : M.sort2 [x, y] = [x, y] := by simp [M.sort2, r1, r0, hc]
        have hd : (decide (y < x)) = false := decide_eq_false hc
        refine bcase_t rfl ?_
        simp only [w2, w1, r1, r0, M.cmp_Less_int, forall_eq, hd, hs]
        simp only [i1, i0, true_and, and_true, and_self, bcase]
        exact ⟨0, by omega, .inr rfl⟩
    · unfold JoinP
      refine bcase_f rfl ?_
      rw [w1]
      have hn : ∃ m', m' < 1 ∧ ((m' = 1 ∧ ((2 : Int), M.sort2 [x, y], ()) = (1, [x, y], ())) ∨ (m' = 0 ∧ ((2 : Int), M.sort2 [x, y], ()) = (2, M.sort2 [x, y], ()))) := ⟨0, by omega, .inr ⟨rfl, rfl⟩⟩
      exact ⟨hn, hn, trivial⟩
  · exact bcase_f rfl rfl
set_option maxRecDepth 100000 in
theorem wp.math_bits_Len64.math (x : Int) (h : M.math_bits_Len64_pre x) : wp.math_bits_Len64 x (fun r => r = M.math_bits_Len64 x) := by
  have h : x = 2 := h
  subst h
  unfold wp.math_bits_Len64
  unfold JoinP
  refine bcase_f rfl (bcase_f rfl (bcase_f rfl ⟨?_, ?_⟩))
  · have : IntKind.wrap .u8 2 = 2 := by decide +kernel
    rw [this]
    exact ⟨by omega, by decide +kernel⟩
  · show _ = (2 : Int)
    decide +kernel
theorem wp.math_bits_Len.math (x : Int) (h : M.math_bits_Len_pre x) : wp.math_bits_Len x (fun r => r = M.math_bits_Len x) := ⟨h, fun r hr => by rw [hr]; rfl⟩
theorem wp.slices_pdqsortOrdered_int.math (l : List Int) (a b c : Int) (h : M.slices_pdqsortOrdered_int_pre l a b c) : wp.slices_pdqsortOrdered_int l a b c (fun r => r = M.slices_pdqsortOrdered_int l a b c) := by
  obtain ⟨hl, rfl, rfl⟩ := h
  refine loop_n 0 (fun _ => (0, 2, c, true, true, ())) (fun _ => True) rfl trivial (fun k hk _ _ _ => absurd hk (by omega)) fun _ next => ?_
  exact bcase_t (by decide +kernel) ⟨⟨hl, rfl, rfl⟩, fun r hr => by rw [hr]; rfl⟩
theorem wp.slices_Sort_int_int.math (l : List Int) (h : M.slices_Sort_int_int_pre l) : wp.slices_Sort_int_int l (fun r => r = M.slices_Sort_int_int l) := by
  have hl : l.length = 2 := h
  unfold wp.slices_Sort_int_int
  have e : ((l.length : Nat) : Int) = 2 := by omega
  rw [e]
  refine ⟨by show IntKind.wrap .u64 2 = 2; decide +kernel, fun r hr => ⟨⟨hl, rfl, rfl⟩, fun r2 hr2 => by rw [hr2]; rfl⟩⟩
theorem wp.slices_Compact_int_int.math (l : List Int) (h : M.slices_Compact_int_int_pre l) : wp.slices_Compact_int_int l (fun r => r = M.slices_Compact_int_int l) := by
  match l, h with
  | [x, y], _ =>
  have w2 : IntKind.wrap .i64 ((1 : Int) - 1) = 0 := by decide +kernel
  have w1 : IntKind.wrap .i64 ((1 : Int) + 1) = 2 := by decide +kernel
  have r1 : rd [x, y] 1 = y := rfl
  have r0 : rd [x, y] 0 = x := rfl
  refine bcase_f rfl ?_
  by_cases hc : y = x
  · have hM : M.slices_Compact_int_int [x, y] = [x] := by unfold M.slices_Compact_int_int; rw [r1, r0, if_pos hc]; rfl
    rw [hM]
    refine loop_n 0 (fun _ => (1, ())) (fun _ => True) rfl trivial (fun k hk _ _ _ => absurd hk (by omega)) fun _ next => ?_
    refine bcase_t rfl ⟨by simp, by rw [w2]; simp, ?_⟩
    rw [w2, r1, r0]
    refine bcase_t (by simpa using hc) ⟨by simp, ?_⟩
    refine loop_n 0 (fun _ => (1, 1, ())) (fun _ => True) rfl trivial (fun k hk _ _ _ => absurd hk (by omega)) fun _ next => ?_
    exact bcase_f rfl ⟨by simp, by simp, rfl⟩
  · have hM : M.slices_Compact_int_int [x, y] = [x, y] := by unfold M.slices_Compact_int_int; rw [r1, r0, if_neg hc]
    rw [hM]
    refine loop_n 1 (fun k => ((k : Int) + 1, ())) (fun _ => True) rfl trivial (fun k hk _ next hn => ?_) fun _ next => bcase_f rfl rfl
    have hk0 : k = 0 := by omega
    subst hk0
    have hn := hn trivial
    refine bcase_t rfl ⟨by simp, ?_, ?_⟩
    · show 0 ≤ IntKind.wrap .i64 ((1 : Int) - 1) ∧ IntKind.wrap .i64 ((1 : Int) - 1) < ((([x, y] : List Int).length : Nat) : Int)
      rw [w2]; simp
    · show bcase (rd [x, y] 1 == rd [x, y] (IntKind.wrap .i64 ((1 : Int) - 1))) _ _
      rw [w2, r1, r0]
      refine bcase_f (by simpa using hc) ?_
      show next (IntKind.wrap .i64 ((1 : Int) + 1), ())
      rw [w1]; exact hn
theorem sort_compact (a b : Int) : M.slices_Compact_int_int (M.slices_Sort_int_int [a, b]) = M.putTwo b a ∧ (M.slices_Sort_int_int [a, b]).length = 2 := by
  have r1 : rd [a, b] 1 = b := rfl
  have r0 : rd [a, b] 0 = a := rfl
  have s1 : rd [b, a] 1 = a := rfl
  have s0 : rd [b, a] 0 = b := rfl
  simp only [M.slices_Compact_int_int, M.slices_Sort_int_int, M.sort2, M.putTwo, r1, r0]
  by_cases h1 : b < a
  · rw [if_pos h1, s1, s0, if_neg (by omega), if_neg (by omega), if_neg (by omega)]
    exact ⟨rfl, rfl⟩
  · rw [if_neg h1, r1, r0]
    by_cases h2 : b = a
    · rw [if_pos h2, if_neg (by omega), if_pos h2.symm]; exact ⟨by rw [h2]; rfl, rfl⟩
    · rw [if_neg h2, if_pos (by omega)]; exact ⟨rfl, rfl⟩
theorem wp.impl_next.math (p : List D.Ins) (k : Int) (h : M.impl_next_pre p k) : wp.impl_next p k (fun r => r = M.impl_next p k) := by
  obtain ⟨hp, h0, h1⟩ := h
  have h32 := progLen hp
  have hw : IntKind.wrap .i64 (k + 1) = k + 1 := w64 (by omega) (by omega)
  unfold wp.impl_next
  rw [hw]
  refine bcase_mk (fun e => ?_) fun e => ?_
  · have e : k = p.length := by simpa using e
    simp [M.impl_next, M.nextOf, e]
  have e : ¬ k = p.length := by simpa using e
  refine ⟨by omega, bcase_mk (fun e1 => ?_) fun e1 => bcase_mk (fun e2 => ?_) fun e2 => bcase_mk (fun e3 => ⟨rfl, fun r hr => ?_⟩) fun e3 => ?_⟩
  all_goals simp only [M.impl_next, M.nextOf]
  all_goals rw [if_neg e]
  · rw [if_pos (by simpa using e1)]
  · rw [if_neg (by simpa using e1), if_pos (by simpa using e2)]
  · rw [if_neg (by simpa using e1), if_neg (by simpa using e2), if_pos (by simpa using e3)]
    have hsc := sort_compact (rd p k).B (k + 1)
    subst hr
    exact ⟨hsc.2, fun r2 hr2 => by rw [hr2]; exact hsc.1⟩
  · rw [if_neg (by simpa using e1), if_neg (by simpa using e2), if_neg (by simpa using e3)]
theorem next_two {p : List D.Ins} (hp : M.programOk p = true) {k : Nat} (hk : k < p.length) : ((((M.nextOf p (k : Int)).length : Nat) : Int) == 2) = M.isBr p (k : Int) := by
  have hne : ¬ (k : Int) = p.length := by omega
  unfold M.nextOf M.isBr
  rw [if_neg hne]
  by_cases h12 : (rd p (k : Int)).Op = 12
  · rw [if_pos h12, h12]; rfl
  rw [if_neg h12]
  by_cases h11 : (rd p (k : Int)).Op = 11
  · rw [if_pos h11, h11]; rfl
  rw [if_neg h11]
  by_cases h10 : (rd p (k : Int)).Op = 10
  · rw [if_pos h10, h10]
    unfold M.putTwo
    by_cases h1 : (rd p (k : Int)).B < (k : Int) + 1
    · rw [if_pos h1]
      have : ((rd p (k : Int)).B != (k : Int) + 1) = true := by simp; omega
      rw [this]; rfl
    rw [if_neg h1]
    by_cases h2 : (rd p (k : Int)).B = (k : Int) + 1
    · rw [if_pos h2]
      have : ((rd p (k : Int)).B != (k : Int) + 1) = false := by simp [h2]
      rw [this]; rfl
    · rw [if_neg h2]
      have : ((rd p (k : Int)).B != (k : Int) + 1) = true := by simpa using h2
      rw [this]; rfl
  · rw [if_neg h10]
    have : ((rd p (k : Int)).Op == 10) = false := by simpa using h10
    rw [this]; rfl
theorem wp.impl_BranchesOf.math (p : List D.Ins) (h : M.impl_BranchesOf_pre p) : wp.impl_BranchesOf p (fun r => r = M.impl_BranchesOf p) := by
  have hs : p.length ≤ 2097152 := h
  refine ⟨small_longP h, fun r hr => bcase_mk (fun e => ?_) fun e => ?_⟩
  · have := nt e (show r = M.programOk p from hr)
    simp [M.impl_BranchesOf, M.branches, this]
  have hp := nf e (show r = M.programOk p from hr)
  have hM : M.impl_BranchesOf p = M.idx (M.isBr p) p.length := by simp [M.impl_BranchesOf, M.branches, hp]
  rw [hM]
  refine idx_loop (fun k xs next hk hxs hle h1 h2 => ?_) fun next => bcase_f (by simp) rfl
  refine bcase_t (by simp; omega) ⟨⟨hp, by omega, by omega⟩, fun r2 hr2 => ?_⟩
  have hr2' : r2 = M.nextOf p (k : Int) := hr2
  rw [hr2', next_two hp hk, up64 hk (by omega)]
  exact bcase_mk (fun e2 => ⟨by simp; omega, h1 e2⟩) fun e2 => h2 e2
theorem wp.impl_isBranch.math (p : List D.Ins) (b : Int) (h : M.impl_isBranch_pre p b) : wp.impl_isBranch p b (fun r => r = M.impl_isBranch p b) := by
  have hs : p.length ≤ 2097152 := h
  have hbl := branches_len p
  exact ⟨h, fun r hr => ⟨by rw [hr]; show (M.branches p).length ≤ 9223372036854775807; omega, fun r2 hr2 => by rw [hr2, hr]; rfl⟩⟩
theorem wp.impl_reached.math (p : List D.Ins) (l : List Int) (wo : Int) (h : M.impl_reached_pre p l wo) : wp.impl_reached p l wo (fun r => r = M.impl_reached p l wo) := by
  have hp := h.1
  have h32 := progLen hp
  have h4 := h.2.2
  unfold wp.impl_reached
  rw [repl_eq hp, small64 (prog_small hp)]
  refine ⟨by omega, by show l.length ≤ 17179869184; omega, fun r hr => ?_⟩
  have hr' : r = l := hr
  subst hr'
  refine bfs_loop (wo := wo) (I := fun _ => True) h (seen0_len _) trivial (R := M.impl_reached p r wo) rfl (by rw [seen0_falses]; omega) (fun k rest seen next hk hl _ hc hn => ?_) (fun k rest seen next hk hl _ h1 h2 _ h5 hn => ?_) fun next _ => bcase_f rfl rfl
  · obtain ⟨f1, f2, f3, f4, f5⟩ := cons_facts (k := k) (rest := rest)
    refine bcase_t f5 ⟨f3, f4, ?_⟩
    rw [f1, f2]
    refine bcase_mk (fun _ => hn) fun e1 => ⟨node_seen hk hl, bcase_t (hc.resolve_left (by simpa using e1)) hn⟩
  · obtain ⟨f1, f2, f3, f4, f5⟩ := cons_facts (k := k) (rest := rest)
    refine bcase_t f5 ⟨f3, f4, ?_⟩
    rw [f1, f2]
    refine bcase_f (by simpa using h1) ⟨node_seen hk hl, bcase_f h2 ⟨node_seen hk hl, hk, fun r hr => ?_⟩⟩
    have hr' : r = M.nextOf p k := hr
    rw [hr']
    exact ⟨h5, hn trivial⟩
theorem exit_in (p : List D.Ins) (l : List Int) (wo : Int) : (0 ≤ ((p.length : Nat) : Int) ∧ ((p.length : Nat) : Int) < (((M.reached p l wo).length : Nat) : Int)) := by rw [reached_len]; omega
theorem wp.impl_reachesExit.math (p : List D.Ins) (k : Int) (h : M.impl_reachesExit_pre p k) : wp.impl_reachesExit p k (fun r => r = M.impl_reachesExit p k) :=
  ⟨start1 h, fun r hr => by rw [hr]; exact ⟨exit_in _ _ _, rfl⟩⟩
theorem wp.impl_isNode.math (p : List D.Ins) (k : Int) (h : M.impl_isNode_pre p k) : wp.impl_isNode p k (fun r => r = M.impl_isNode p k) := by
  refine ⟨small_longP h, fun r hr => bcase_mk (fun e r2 hr2 => ?_) fun e => ?_⟩
  all_goals have hr' : r = M.programOk p := hr
  · rw [hr2]; simp [M.impl_isNode, M.isNode, ← hr', e, M.impl_within]
  · simp [M.impl_isNode, M.isNode, ← hr', e]
theorem wp.impl_isAfter.math (p : List D.Ins) (k later : Int) (h : M.impl_isAfter_pre p k later) : wp.impl_isAfter p k later (fun r => r = M.impl_isAfter p k later) := by
  refine ⟨h, fun r hr => bcase_mk (fun e => ⟨start1 h, fun r2 hr2 => ?_⟩) fun e => ?_⟩
  all_goals have hr' : r = M.exitB p k := hr
  · rw [hr2]
    refine ⟨exit_in _ _ _, ?_⟩
    simp only [M.impl_isAfter, ← hr', e, Bool.true_and]; rfl
  · simp [M.impl_isAfter, ← hr', e]
theorem wp.impl_IsAfter.math (p : List D.Ins) (k later : Int) (h : M.impl_IsAfter_pre p k later) : wp.impl_IsAfter p k later (fun r => r = M.impl_IsAfter p k later) := by
  refine ⟨h, fun r hr => bcase_mk (fun e => ⟨h, fun r2 hr2 => bcase_mk (fun e2 => ?_) fun e2 => ?_⟩) fun e => ?_⟩
  all_goals have hr' : r = M.isNode p k := hr
  · have hr2' : r2 = M.isNode p later := hr2
    refine ⟨isNode_iff.1 (hr'.symm.trans e), fun r3 hr3 => ?_⟩
    rw [hr3]; simp [M.impl_IsAfter, ← hr', e, ← hr2', e2, M.impl_isAfter]
  · have hr2' : r2 = M.isNode p later := hr2
    simp [M.impl_IsAfter, ← hr2', e2]
  · simp [M.impl_IsAfter, ← hr', e]
theorem wp.impl_AftersOf.math (p : List D.Ins) (k : Int) (h : M.impl_AftersOf_pre p k) : wp.impl_AftersOf p k (fun r => r = M.impl_AftersOf p k) := by
  have hs : p.length ≤ 2097152 := h
  unfold wp.impl_AftersOf
  rw [small64 h]
  by_cases hc : (M.isNode p k && M.exitB p k) = true
  · have hN : M.Node p k := isNode_iff.1 (by simp only [Bool.and_eq_true] at hc; exact hc.1)
    have hM : M.impl_AftersOf p k = M.idx (M.afterB p k) (p.length + 1) := by simp only [M.impl_AftersOf, M.aftersOf, hc, if_true]
    rw [hM]
    refine idx_loop (fun j xs next hj hxs hle h1 h2 => ?_) fun next => bcase_f (by simp) rfl
    have hj2 : M.isNode p (j : Int) = true := isNode_iff.2 ⟨hN.1, by omega, by omega⟩
    simp only [Bool.and_eq_true] at hc
    have hv : M.impl_IsAfter p k (j : Int) = M.afterB p k (j : Int) := by simp only [M.impl_IsAfter, hc.1, hc.2, hj2, Bool.true_and]
    refine bcase_t (by simp; omega) ⟨h, fun r2 hr2 => ?_⟩
    rw [hr2, hv, up64 (n := p.length + 1) hj (by omega)]
    exact bcase_mk (fun e2 => ⟨by simp; omega, h1 e2⟩) fun e2 => h2 e2
  · have hc : (M.isNode p k && M.exitB p k) = false := by simpa using hc
    have hM : M.impl_AftersOf p k = [] := by simp only [M.impl_AftersOf, M.aftersOf, hc]; rfl
    rw [hM]
    refine loop_n (p.length + 1) (fun j => ([], (j : Int), ())) (fun _ => True) rfl trivial (fun j hj _ next hn => ?_) fun _ next => bcase_f (by simp) rfl
    have hv : M.impl_IsAfter p k (j : Int) = false := by
      cases h1 : M.isNode p k with
      | false => simp [M.impl_IsAfter, h1]
      | true =>
        rw [h1, Bool.true_and] at hc
        simp [M.impl_IsAfter, hc]
    refine bcase_t (by simp; omega) ⟨h, fun r2 hr2 => ?_⟩
    rw [hr2, hv, up64 (n := p.length + 1) hj (by omega)]
    exact bcase_f rfl (hn trivial)
theorem wp.impl_FirstAfter_1.math (x k : Int) (h : M.impl_FirstAfter_1_pre x k) : wp.impl_FirstAfter_1 x k (fun r => r = M.impl_FirstAfter_1 x k) := rfl
theorem firstIx_spec (g : Int → Bool) : ∀ (l : List Int) (i : Nat), (M.firstIx g l i = -1 ∧ l.all (fun x => !g x) = true) ∨ ∃ k : Nat, k < l.length ∧ M.firstIx g l i = ((i + k : Nat) : Int) ∧ (l.take k).all (fun x => !g x) = true ∧ g (rd l (k : Int)) = true
  | [], i => .inl ⟨rfl, rfl⟩
  | x :: l, i => by
    unfold M.firstIx
    by_cases hx : g x = true
    · rw [if_pos hx]
      exact .inr ⟨0, by simp, by simp, by simp, hx⟩
    · rw [if_neg hx]
      rcases firstIx_spec g l (i + 1) with ⟨h1, h2⟩ | ⟨k, hk, h1, h2, h3⟩
      · exact .inl ⟨h1, by simp [hx]; simpa using h2⟩
      · refine .inr ⟨k + 1, by simp; omega, by rw [h1]; congr 1; omega, ?_, ?_⟩
        · rw [List.take_succ_cons, List.all_cons, h2]; simp [hx]
        · rw [rd_nat (by simp; omega)]; rw [rd_nat hk] at h3; exact h3
theorem filter_id {l : List Int} {g : Int → Bool} (h : l.all g = true) : l.filter g = l := List.filter_eq_self.2 (List.all_eq_true.1 h)
theorem wp.slices_DeleteFunc_int_int.math (l : List Int) (g : Int → Bool) (D : Int → Prop) (h : M.slices_DeleteFunc_int_int_pre l g D) : wp.slices_DeleteFunc_int_int l g D (fun r => r = M.slices_DeleteFunc_int_int l g) := by
  obtain ⟨hl, hD⟩ := h
  have hl' : l.length ≤ 9223372036854775807 := hl
  refine ⟨⟨hl, hD⟩, fun r hr => ?_⟩
  have hr' : r = M.firstIx g l 0 := hr
  rcases firstIx_spec g l 0 with ⟨h1, h2⟩ | ⟨k, hk, h1, h2, h3⟩
  · rw [hr', h1]
    exact bcase_t rfl (by show l = l.filter _; exact (filter_id h2).symm)
  rw [hr', h1, Nat.zero_add]
  refine bcase_f (by simp) ?_
  rw [up64 hk hl']
  let G : Nat → List Int := fun j => (l.take j).filter fun x => !g x
  have hG : ∀ j, j < l.length → G (j + 1) = if (!g (rd l (j : Int))) = true then G j ++ [rd l (j : Int)] else G j := fun j hj => filter_take hj
  have hGl : ∀ j, j ≤ l.length → (G j).length ≤ j := fun j hj => by
    have := List.length_filter_le (fun x => !g x) (l.take j)
    have h2 : (l.take j).length ≤ j := by simp; omega
    exact Nat.le_trans this h2
  have hGk : G (k + 1) = G k ∧ (G k).length = k := by
    refine ⟨by rw [hG k hk, if_neg (by rw [h3]; simp)], ?_⟩
    show ((l.take k).filter fun x => !g x).length = k
    rw [filter_id h2]; simp; omega
  refine ⟨fun m z => ∃ (j : Nat) (xs : List Int), z = (((G j).length : Int), (j : Int), xs, ()) ∧ m = l.length - j ∧ k < j ∧ j ≤ l.length ∧ (G j).length < j ∧ xs.length = l.length ∧ xs.take (G j).length = G j ∧ xs.drop j = l.drop j,
    ⟨_, k + 1, l, by rw [hGk.1, hGk.2], rfl, by omega, by omega, by rw [hGk.1, hGk.2]; omega, rfl, by rw [hGk.1]; rw [hGk.2]; exact (filter_id h2).symm, rfl⟩, ?_⟩
  rintro m z ⟨j, xs, rfl, rfl, hkj, hjl, hgj, hxl, hx1, hx2⟩
  have hget : j < l.length → rd xs (j : Int) = rd l (j : Int) := fun hj => by
    rw [rd_nat (by omega), rd_nat hj]
    have := congrArg (fun q => q[0]?) hx2
    simp only [List.getElem?_drop, Nat.add_zero] at this
    rw [List.getElem?_eq_getElem (by omega), List.getElem?_eq_getElem hj] at this
    exact Option.some.inj this
  by_cases hj : j < l.length
  · refine bcase_t (by simp; omega) ⟨by omega, ?_⟩
    have hGj := hG j hj
    have hgl : (G j).length < xs.length := by omega
    have hd2 : (xs.set (G j).length (rd l (j : Int))).drop (j + 1) = l.drop (j + 1) := by
      rw [List.drop_set_of_lt (by omega)]
      have := congrArg (fun q => q.drop 1) hx2
      simpa [List.drop_drop, Nat.add_comm] using this
    have hd1 : xs.drop (j + 1) = l.drop (j + 1) := by
      have := congrArg (fun q => q.drop 1) hx2
      simpa [List.drop_drop, Nat.add_comm] using this
    show D (rd xs (j : Int)) ∧ _
    dsimp only
    rw [hget hj]
    refine ⟨hD _ (rd_mem hj), fun r2 hr2 => bcase_mk (fun e => ⟨⟨by omega, by omega⟩, ?_⟩) fun e => ?_⟩
    · have e : (!g (rd l (j : Int))) = true := by rw [← hr2]; exact e
      rw [if_pos e] at hGj
      have hlen : (G (j + 1)).length = (G j).length + 1 := by rw [hGj]; simp
      refine ⟨l.length - (j + 1), by omega, j + 1, xs.set (G j).length (rd l (j : Int)), ?_, rfl, by omega, by omega, by omega, by simpa using hxl, ?_, hd2⟩
      · rw [up64 (n := l.length) (k := (G j).length) (by omega) hl', up64 hj hl', hlen]; rfl
      · rw [hlen, hGj, List.take_add_one, List.getElem?_set_self (by omega), List.take_set_of_le (Nat.le_refl _), hx1]; rfl
    · have e : ¬ (!g (rd l (j : Int))) = true := by rw [← hr2, e]; simp
      rw [if_neg e] at hGj
      refine ⟨l.length - (j + 1), by omega, j + 1, xs, ?_, rfl, by omega, by omega, by rw [hGj]; omega, hxl, by rw [hGj]; exact hx1, hd1⟩
      rw [up64 hj hl', hGj]
  · have hje : j = l.length := by omega
    have hGl : G l.length = l.filter fun x => !g x := by show (l.take l.length).filter _ = _; rw [List.take_length]
    refine bcase_f (by simp; omega) ⟨by omega, by simp; omega, ?_⟩
    show _ = l.filter _
    rw [← hGl, ← hje]
    have : (((G j).length : Int)).toNat = (G j).length := by simp
    rw [this, List.take_append_of_le_length (by simp; omega), List.take_take, Nat.min_self, hx1]
theorem wp.impl_firstOf_1.math (z : Int) (p : List D.Ins) (x : Int) (h : M.impl_firstOf_1_pre z p x) : wp.impl_firstOf_1 z p x (fun r => r = M.impl_firstOf_1 z p x) := ⟨h, fun r hr => by rw [hr]; rfl⟩
theorem firstI_from (p : List D.Ins) (all l : List Int) (k : Nat) (hk : k < l.length) : M.firstI p all (l.drop k) = if all.all (fun z => M.exitB p (rd l (k : Int)) && M.afterB p (rd l (k : Int)) z) then rd l (k : Int) else M.firstI p all (l.drop (k + 1)) := by
  rw [List.drop_eq_getElem_cons hk, rd_nat hk]; rfl
theorem wp.impl_firstOf.math (p : List D.Ins) (l : List Int) (h : M.impl_firstOf_pre p l) : wp.impl_firstOf p l (fun r => r = M.impl_firstOf p l) := by
  obtain ⟨h1, h2⟩ := h
  have hl : l.length ≤ 17179869183 := h1
  refine loop_n l.length (fun k => ((k : Int), ())) (fun k => M.firstI p l l = M.firstI p l (l.drop k)) rfl rfl (fun k hk hF next hn => ?_) fun hF next => bcase_f (by simp) ?_
  · rw [firstI_from p l l k hk] at hF
    have hN := h2 _ (rd_mem hk)
    refine bcase_t (by simp; omega) ⟨by omega, ⟨by show l.length ≤ 9223372036854775807; omega, fun z hz => hN⟩, fun r hr => ?_⟩
    have hr' : r = !(l.all fun z => M.exitB p (rd l (k : Int)) && M.afterB p (rd l (k : Int)) z) := by
      rw [hr]
      simp only [M.slices_ContainsFunc_int_int, M.impl_firstOf_1]
      rw [List.all_eq_not_any_not, Bool.not_not]
    refine bcase_mk (fun e => ?_) fun e => ?_
    · have e2 := nt e hr'
      rw [if_pos (by simpa using e2)] at hF; exact hF.symm
    · have e2 := nf e hr'
      rw [if_neg (by simpa using e2)] at hF
      rw [up64 hk (by omega)]; exact hn hF
  · rw [List.drop_length] at hF; exact hF.symm
theorem first_same {p : List D.Ins} {all : List Int} : ∀ (l : List Int), (∀ x ∈ l, M.exitB p x = true) → M.firstI p all l = M.firstS p all l
  | [], _ => rfl
  | x :: l, h => by
    have hx := h x List.mem_cons_self
    unfold M.firstI M.firstS
    simp only [hx, Bool.true_and]
    rw [first_same l fun y hy => h y (List.mem_cons_of_mem _ hy)]
theorem wp.impl_FirstAfter.math (p : List D.Ins) (k : Int) (h : M.impl_FirstAfter_pre p k) : wp.impl_FirstAfter p k (fun r => r = M.impl_FirstAfter p k) := by
  have h1 := afters_len p k
  have hs : p.length ≤ 2097152 := h
  refine ⟨h, fun r hr => ⟨⟨?_, fun _ _ => trivial⟩, fun r2 hr2 => ?_⟩⟩
  · rw [hr]; show (M.aftersOf p k).length ≤ 9223372036854775807; omega
  have hr2' : r2 = M.others (M.aftersOf p k) k := by rw [hr2, hr]; rfl
  refine ⟨by rw [hr2']; exact afters_ok h k, fun r3 hr3 => ?_⟩
  rw [hr3, hr2']
  exact first_same _ fun x hx => by
    obtain ⟨a, b, c, d⟩ := afters_nodes hx
    exact after_exits b a.2 c d
theorem wp.impl_JoinOf.math (p : List D.Ins) (b : Int) (h : M.impl_JoinOf_pre p b) : wp.impl_JoinOf p b (fun r => r = M.impl_JoinOf p b) := by
  refine ⟨h, fun r hr => bcase_mk (fun e => ?_) fun e => ?_⟩
  · have := nt e (show r = M.has (M.branches p) b from hr)
    simp [M.impl_JoinOf, M.joinOf, this]
  have e := nf e (show r = M.has (M.branches p) b from hr)
  have hB := branch_of e
  obtain ⟨n1, n2, n3, n4⟩ := br_in hB
  have hM : M.impl_JoinOf p b = M.joinB p b := by simp only [M.impl_JoinOf, M.joinOf, e, if_true]
  rw [hM]
  refine ⟨n3, fun r2 hr2 => ?_⟩
  have hnx : M.nextOf p b = M.putTwo (b + 1) (rd p b).B := by
    have hb := hB.2.2.2
    simp only [M.isBr, Bool.and_eq_true, beq_iff_eq] at hb
    have := hB.2.2.1
    unfold M.nextOf
    rw [if_neg (by omega), if_neg (by omega), if_neg (by omega), if_pos hb.1]
  have hr2' : r2 = M.putTwo (b + 1) (rd p b).B := by rw [hr2]; exact hnx
  have hlen := putTwo_len (b + 1) (rd p b).B
  rw [← hr2'] at hlen
  have hmem : ∀ x, x ∈ r2 ↔ x = b + 1 ∨ x = (rd p b).B := fun x => by rw [hr2']; exact putTwo_mem
  clear hr2 hr2' hnx
  have hall : r2.all (M.exitB p) = (M.exitB p (b + 1) && M.exitB p (rd p b).B) := by
    rw [Bool.eq_iff_iff, List.all_eq_true, Bool.and_eq_true]
    constructor
    · exact fun hh => ⟨hh _ ((hmem _).2 (.inl rfl)), hh _ ((hmem _).2 (.inr rfl))⟩
    · rintro ⟨a1, a2⟩ x hx
      rcases (hmem x).1 hx with rfl | rfl
      · exact a1
      · exact a2
  have hnode : ∀ x ∈ r2, M.Node p x := fun x hx => by rcases (hmem x).1 hx with rfl | rfl; exact n1; exact n2
  refine loop_n r2.length (fun k => ((k : Int), ())) (fun k => (r2.take k).all (M.exitB p) = true) rfl (by simp) (fun k hk hF next hn => ?_) fun hF next => ?_
  · refine bcase_t (by simp; omega) ⟨by omega, hnode _ (rd_mem hk), fun r3 hr3 => bcase_mk (fun e3 => ?_) fun e3 => ?_⟩
    · have e3 := nt e3 (show r3 = M.exitB p (rd r2 (k : Int)) from hr3)
      have := all_false (g := M.exitB p) hk e3
      rw [hall] at this
      show _ = M.joinB p b
      simp [M.joinB, this]
    · have e3 := nf e3 (show r3 = M.exitB p (rd r2 (k : Int)) from hr3)
      rw [up64 hk (by omega)]
      rw [rd_nat hk] at e3
      exact hn (take_all_succ hk hF e3)
  · refine bcase_f (by simp) ⟨h, fun r3 hr3 => ?_⟩
    rw [List.take_length, hall] at hF
    rw [hr3]
    show _ = M.joinB p b
    simp [M.joinB, hF, M.impl_FirstAfter]
theorem any_not_all {α : Type} (l : List α) (g : α → Bool) : (l.any fun x => !g x) = !(l.all g) := by
  rw [List.all_eq_not_any_not, Bool.not_not]
end Go.V
set_option linter.unusedVariables false
namespace Go.V
def wp.impl_WarpOk (xs0 : List D.Ins) (s1 : D.Warp) (Q : Bool → Prop) : Prop :=
  (M.impl_ProgramOk_pre xs0 ∧ ∀ r23, r23 = M.impl_ProgramOk xs0 → bcase r23 ((M.impl_isWarpOf_pre xs0 s1 ∧ ∀ r28, r28 = M.impl_isWarpOf xs0 s1 → Q r28)) (Q false))
def wp.impl_Warp_separate (s0 : D.Warp) (xs1 : List D.Ins) (Q : (Bool × D.Warp) → Prop) : Prop :=
  bcase (decide ((IntKind.wrap .i64 (((s0.Frames.length : Nat) : Int) + 2)) > 24)) (Q (false, (⟨s0.Number, s0.Frames, s0.Regs⟩ : D.Warp))) (((0 ≤ (IntKind.wrap .i64 (((s0.Frames.length : Nat) : Int) - 1)) ∧ (IntKind.wrap .i64 (((s0.Frames.length : Nat) : Int) - 1)) < ((s0.Frames.length : Nat) : Int)) ∧ ((0 ≤ (rd s0.Frames (IntKind.wrap .i64 (((s0.Frames.length : Nat) : Int) - 1))).Pc ∧ (rd s0.Frames (IntKind.wrap .i64 (((s0.Frames.length : Nat) : Int) - 1))).Pc < ((xs1.length : Nat) : Int)) ∧ (M.impl_Warp_zeroMask_pre s0 ((rd xs1 ((rd s0.Frames (IntKind.wrap .i64 (((s0.Frames.length : Nat) : Int) - 1))).Pc)).A) ∧ ∀ r36, r36 = M.impl_Warp_zeroMask s0 ((rd xs1 ((rd s0.Frames (IntKind.wrap .i64 (((s0.Frames.length : Nat) : Int) - 1))).Pc)).A) → (M.impl_JoinOf_pre xs1 ((rd s0.Frames (IntKind.wrap .i64 (((s0.Frames.length : Nat) : Int) - 1))).Pc) ∧ ∀ r41, r41 = M.impl_JoinOf xs1 ((rd s0.Frames (IntKind.wrap .i64 (((s0.Frames.length : Nat) : Int) - 1))).Pc) → ((0 ≤ (rd s0.Frames (IntKind.wrap .i64 (((s0.Frames.length : Nat) : Int) - 1))).Pc ∧ (rd s0.Frames (IntKind.wrap .i64 (((s0.Frames.length : Nat) : Int) - 1))).Pc < ((xs1.length : Nat) : Int)) ∧ (((((List.set s0.Frames ((IntKind.wrap .i64 (((s0.Frames.length : Nat) : Int) - 1)).toNat) (⟨r41, (rd s0.Frames (IntKind.wrap .i64 (((s0.Frames.length : Nat) : Int) - 1))).Stop, (rd s0.Frames (IntKind.wrap .i64 (((s0.Frames.length : Nat) : Int) - 1))).Mask⟩ : D.Frame)).length + ([(⟨(IntKind.wrap .i64 ((rd s0.Frames (IntKind.wrap .i64 (((s0.Frames.length : Nat) : Int) - 1))).Pc + 1)), r41, (bitNot .i64 ((rd s0.Frames (IntKind.wrap .i64 (((s0.Frames.length : Nat) : Int) - 1))).Mask) r36)⟩ : D.Frame), (⟨(rd xs1 ((rd s0.Frames (IntKind.wrap .i64 (((s0.Frames.length : Nat) : Int) - 1))).Pc)).B, r41, r36⟩ : D.Frame)] : List D.Frame).length ≤ 17179869184) ∧ Q (true, (⟨s0.Number, ((List.set s0.Frames ((IntKind.wrap .i64 (((s0.Frames.length : Nat) : Int) - 1)).toNat) (⟨r41, (rd s0.Frames (IntKind.wrap .i64 (((s0.Frames.length : Nat) : Int) - 1))).Stop, (rd s0.Frames (IntKind.wrap .i64 (((s0.Frames.length : Nat) : Int) - 1))).Mask⟩ : D.Frame)) ++ ([(⟨(IntKind.wrap .i64 ((rd s0.Frames (IntKind.wrap .i64 (((s0.Frames.length : Nat) : Int) - 1))).Pc + 1)), r41, (bitNot .i64 ((rd s0.Frames (IntKind.wrap .i64 (((s0.Frames.length : Nat) : Int) - 1))).Mask) r36)⟩ : D.Frame), (⟨(rd xs1 ((rd s0.Frames (IntKind.wrap .i64 (((s0.Frames.length : Nat) : Int) - 1))).Pc)).B, r41, r36⟩ : D.Frame)] : List D.Frame)), s0.Regs⟩ : D.Warp)))) ∧ ((((((List.set s0.Frames ((IntKind.wrap .i64 (((s0.Frames.length : Nat) : Int) - 1)).toNat) (⟨r41, (rd s0.Frames (IntKind.wrap .i64 (((s0.Frames.length : Nat) : Int) - 1))).Stop, (rd s0.Frames (IntKind.wrap .i64 (((s0.Frames.length : Nat) : Int) - 1))).Mask⟩ : D.Frame)).length + ([(⟨(IntKind.wrap .i64 ((rd s0.Frames (IntKind.wrap .i64 (((s0.Frames.length : Nat) : Int) - 1))).Pc + 1)), r41, (bitNot .i64 ((rd s0.Frames (IntKind.wrap .i64 (((s0.Frames.length : Nat) : Int) - 1))).Mask) r36)⟩ : D.Frame), (⟨(rd xs1 ((rd s0.Frames (IntKind.wrap .i64 (((s0.Frames.length : Nat) : Int) - 1))).Pc)).B, r41, r36⟩ : D.Frame)] : List D.Frame).length ≤ 17179869184) ∧ Q (true, (⟨s0.Number, ((List.set s0.Frames ((IntKind.wrap .i64 (((s0.Frames.length : Nat) : Int) - 1)).toNat) (⟨r41, (rd s0.Frames (IntKind.wrap .i64 (((s0.Frames.length : Nat) : Int) - 1))).Stop, (rd s0.Frames (IntKind.wrap .i64 (((s0.Frames.length : Nat) : Int) - 1))).Mask⟩ : D.Frame)) ++ ([(⟨(IntKind.wrap .i64 ((rd s0.Frames (IntKind.wrap .i64 (((s0.Frames.length : Nat) : Int) - 1))).Pc + 1)), r41, (bitNot .i64 ((rd s0.Frames (IntKind.wrap .i64 (((s0.Frames.length : Nat) : Int) - 1))).Mask) r36)⟩ : D.Frame), (⟨(rd xs1 ((rd s0.Frames (IntKind.wrap .i64 (((s0.Frames.length : Nat) : Int) - 1))).Pc)).B, r41, r36⟩ : D.Frame)] : List D.Frame)), s0.Regs⟩ : D.Warp)))) ∧ ((((List.set s0.Frames ((IntKind.wrap .i64 (((s0.Frames.length : Nat) : Int) - 1)).toNat) (⟨r41, (rd s0.Frames (IntKind.wrap .i64 (((s0.Frames.length : Nat) : Int) - 1))).Stop, (rd s0.Frames (IntKind.wrap .i64 (((s0.Frames.length : Nat) : Int) - 1))).Mask⟩ : D.Frame)).length + ([(⟨(IntKind.wrap .i64 ((rd s0.Frames (IntKind.wrap .i64 (((s0.Frames.length : Nat) : Int) - 1))).Pc + 1)), r41, (bitNot .i64 ((rd s0.Frames (IntKind.wrap .i64 (((s0.Frames.length : Nat) : Int) - 1))).Mask) r36)⟩ : D.Frame), (⟨(rd xs1 ((rd s0.Frames (IntKind.wrap .i64 (((s0.Frames.length : Nat) : Int) - 1))).Pc)).B, r41, r36⟩ : D.Frame)] : List D.Frame).length ≤ 17179869184) ∧ Q (true, (⟨s0.Number, ((List.set s0.Frames ((IntKind.wrap .i64 (((s0.Frames.length : Nat) : Int) - 1)).toNat) (⟨r41, (rd s0.Frames (IntKind.wrap .i64 (((s0.Frames.length : Nat) : Int) - 1))).Stop, (rd s0.Frames (IntKind.wrap .i64 (((s0.Frames.length : Nat) : Int) - 1))).Mask⟩ : D.Frame)) ++ ([(⟨(IntKind.wrap .i64 ((rd s0.Frames (IntKind.wrap .i64 (((s0.Frames.length : Nat) : Int) - 1))).Pc + 1)), r41, (bitNot .i64 ((rd s0.Frames (IntKind.wrap .i64 (((s0.Frames.length : Nat) : Int) - 1))).Mask) r36)⟩ : D.Frame), (⟨(rd xs1 ((rd s0.Frames (IntKind.wrap .i64 (((s0.Frames.length : Nat) : Int) - 1))).Pc)).B, r41, r36⟩ : D.Frame)] : List D.Frame)), s0.Regs⟩ : D.Warp)))) ∧ True)) ∧ True)))))))
def wp.impl_apply_v (s0 : D.Ins) (x1 : Int) (xs2 : List Int) (lo2 hi2 : Nat) (Q : ((List Int)) → Prop) : Prop :=
  bcase (s0.Op == 1) (((0 ≤ s0.A ∧ s0.A < (((List.drop lo2 (List.take hi2 xs2)).length : Nat) : Int)) ∧ Q (List.set xs2 (lo2 + (s0.A.toNat)) s0.B))) (bcase (s0.Op == 2) (((0 ≤ s0.B ∧ s0.B < (((List.drop lo2 (List.take hi2 xs2)).length : Nat) : Int)) ∧ ((0 ≤ s0.A ∧ s0.A < (((List.drop lo2 (List.take hi2 xs2)).length : Nat) : Int)) ∧ Q (List.set xs2 (lo2 + (s0.A.toNat)) (rd (List.drop lo2 (List.take hi2 xs2)) s0.B))))) (bcase (s0.Op == 3) (((0 ≤ s0.B ∧ s0.B < (((List.drop lo2 (List.take hi2 xs2)).length : Nat) : Int)) ∧ ((0 ≤ s0.C ∧ s0.C < (((List.drop lo2 (List.take hi2 xs2)).length : Nat) : Int)) ∧ (∀ r82, r82 = M.impl_AddWords (rd (List.drop lo2 (List.take hi2 xs2)) s0.B) (rd (List.drop lo2 (List.take hi2 xs2)) s0.C) → ((0 ≤ s0.A ∧ s0.A < (((List.drop lo2 (List.take hi2 xs2)).length : Nat) : Int)) ∧ Q (List.set xs2 (lo2 + (s0.A.toNat)) r82)))))) (bcase (s0.Op == 4) (((0 ≤ s0.B ∧ s0.B < (((List.drop lo2 (List.take hi2 xs2)).length : Nat) : Int)) ∧ ((0 ≤ s0.C ∧ s0.C < (((List.drop lo2 (List.take hi2 xs2)).length : Nat) : Int)) ∧ (∀ r129, r129 = M.impl_SubWords (rd (List.drop lo2 (List.take hi2 xs2)) s0.B) (rd (List.drop lo2 (List.take hi2 xs2)) s0.C) → ((0 ≤ s0.A ∧ s0.A < (((List.drop lo2 (List.take hi2 xs2)).length : Nat) : Int)) ∧ Q (List.set xs2 (lo2 + (s0.A.toNat)) r129)))))) (bcase (s0.Op == 5) (((0 ≤ s0.B ∧ s0.B < (((List.drop lo2 (List.take hi2 xs2)).length : Nat) : Int)) ∧ ((0 ≤ s0.C ∧ s0.C < (((List.drop lo2 (List.take hi2 xs2)).length : Nat) : Int)) ∧ (∀ r176, r176 = M.impl_MulWords (rd (List.drop lo2 (List.take hi2 xs2)) s0.B) (rd (List.drop lo2 (List.take hi2 xs2)) s0.C) → ((0 ≤ s0.A ∧ s0.A < (((List.drop lo2 (List.take hi2 xs2)).length : Nat) : Int)) ∧ Q (List.set xs2 (lo2 + (s0.A.toNat)) r176)))))) (bcase (s0.Op == 6) (((0 ≤ s0.B ∧ s0.B < (((List.drop lo2 (List.take hi2 xs2)).length : Nat) : Int)) ∧ ((0 ≤ s0.C ∧ s0.C < (((List.drop lo2 (List.take hi2 xs2)).length : Nat) : Int)) ∧ ((0 ≤ s0.A ∧ s0.A < (((List.drop lo2 (List.take hi2 xs2)).length : Nat) : Int)) ∧ Q (List.set xs2 (lo2 + (s0.A.toNat)) (bitXor .i64 (rd (List.drop lo2 (List.take hi2 xs2)) s0.B) (rd (List.drop lo2 (List.take hi2 xs2)) s0.C))))))) (bcase (s0.Op == 7) (((0 ≤ s0.B ∧ s0.B < (((List.drop lo2 (List.take hi2 xs2)).length : Nat) : Int)) ∧ ((0 ≤ s0.C ∧ s0.C < (((List.drop lo2 (List.take hi2 xs2)).length : Nat) : Int)) ∧ (∀ r245, r245 = M.impl_LessWords (rd (List.drop lo2 (List.take hi2 xs2)) s0.B) (rd (List.drop lo2 (List.take hi2 xs2)) s0.C) → ((0 ≤ s0.A ∧ s0.A < (((List.drop lo2 (List.take hi2 xs2)).length : Nat) : Int)) ∧ Q (List.set xs2 (lo2 + (s0.A.toNat)) r245)))))) (bcase (s0.Op == 8) (((0 ≤ s0.A ∧ s0.A < (((List.drop lo2 (List.take hi2 xs2)).length : Nat) : Int)) ∧ Q (List.set xs2 (lo2 + (s0.A.toNat)) x1))) (bcase (s0.Op == 9) (((0 ≤ s0.C ∧ s0.C < (((List.drop lo2 (List.take hi2 xs2)).length : Nat) : Int)) ∧ bcase ((rd (List.drop lo2 (List.take hi2 xs2)) s0.C) != 0) (((0 ≤ s0.B ∧ s0.B < (((List.drop lo2 (List.take hi2 xs2)).length : Nat) : Int)) ∧ ((0 ≤ s0.A ∧ s0.A < (((List.drop lo2 (List.take hi2 xs2)).length : Nat) : Int)) ∧ Q (List.set xs2 (lo2 + (s0.A.toNat)) (rd (List.drop lo2 (List.take hi2 xs2)) s0.B))))) (Q xs2))) (Q xs2)))))))))
def wp.impl_Warp_advance (s0 : D.Warp) (xs1 : List D.Ins) (Q : D.Warp → Prop) : Prop :=
  ((0 ≤ (IntKind.wrap .i64 (((s0.Frames.length : Nat) : Int) - 1)) ∧ (IntKind.wrap .i64 (((s0.Frames.length : Nat) : Int) - 1)) < ((s0.Frames.length : Nat) : Int)) ∧ ((0 ≤ (rd s0.Frames (IntKind.wrap .i64 (((s0.Frames.length : Nat) : Int) - 1))).Pc ∧ (rd s0.Frames (IntKind.wrap .i64 (((s0.Frames.length : Nat) : Int) - 1))).Pc < ((xs1.length : Nat) : Int)) ∧ (∀ r38, r38 = M.impl_LanesOf ((rd s0.Frames (IntKind.wrap .i64 (((s0.Frames.length : Nat) : Int) - 1))).Mask) → LoopP (σ := Int × (List Int) × Unit) (fun (p138 : Int × (List Int) × Unit) next81 => match p138 with | (i75, xs76, _) => bcase (decide (i75 < ((r38.length : Nat) : Int))) (((0 ≤ i75 ∧ i75 < ((r38.length : Nat) : Int)) ∧ (M.impl_Warp_lane_pre (⟨s0.Number, s0.Frames, xs76⟩ : D.Warp) (rd r38 i75) ∧ (M.impl_apply_v_pre (rd xs1 ((rd s0.Frames (IntKind.wrap .i64 (((s0.Frames.length : Nat) : Int) - 1))).Pc)) (IntKind.wrap .i64 ((IntKind.wrap .i64 (s0.Number * 8)) + (rd r38 i75))) xs76 ((IntKind.wrap .i64 ((rd r38 i75) * 4)).toNat) ((IntKind.wrap .i64 ((IntKind.wrap .i64 ((rd r38 i75) + 1)) * 4)).toNat) ∧ ∀ r101, r101 = M.impl_apply_v (rd xs1 ((rd s0.Frames (IntKind.wrap .i64 (((s0.Frames.length : Nat) : Int) - 1))).Pc)) (IntKind.wrap .i64 ((IntKind.wrap .i64 (s0.Number * 8)) + (rd r38 i75))) xs76 ((IntKind.wrap .i64 ((rd r38 i75) * 4)).toNat) ((IntKind.wrap .i64 ((IntKind.wrap .i64 ((rd r38 i75) + 1)) * 4)).toNat) → next81 ((IntKind.wrap .i64 (i75 + 1)), r101, ()))))) (bcase ((rd xs1 ((rd s0.Frames (IntKind.wrap .i64 (((s0.Frames.length : Nat) : Int) - 1))).Pc)).Op == 12) (Q (⟨s0.Number, (List.set s0.Frames ((IntKind.wrap .i64 (((s0.Frames.length : Nat) : Int) - 1)).toNat) (⟨((xs1.length : Nat) : Int), (rd s0.Frames (IntKind.wrap .i64 (((s0.Frames.length : Nat) : Int) - 1))).Stop, (rd s0.Frames (IntKind.wrap .i64 (((s0.Frames.length : Nat) : Int) - 1))).Mask⟩ : D.Frame)), xs76⟩ : D.Warp)) (JoinP (σ := Bool × Unit) (fun J114 => bcase ((rd xs1 ((rd s0.Frames (IntKind.wrap .i64 (((s0.Frames.length : Nat) : Int) - 1))).Pc)).Op == 11) (J114 (true, ())) (bcase ((rd xs1 ((rd s0.Frames (IntKind.wrap .i64 (((s0.Frames.length : Nat) : Int) - 1))).Pc)).Op == 10) ((M.impl_Warp_zeroMask_pre (⟨s0.Number, s0.Frames, xs76⟩ : D.Warp) ((rd xs1 ((rd s0.Frames (IntKind.wrap .i64 (((s0.Frames.length : Nat) : Int) - 1))).Pc)).A) ∧ ∀ r119, r119 = M.impl_Warp_zeroMask (⟨s0.Number, s0.Frames, xs76⟩ : D.Warp) ((rd xs1 ((rd s0.Frames (IntKind.wrap .i64 (((s0.Frames.length : Nat) : Int) - 1))).Pc)).A) → J114 ((r119 == (rd s0.Frames (IntKind.wrap .i64 (((s0.Frames.length : Nat) : Int) - 1))).Mask), ()))) (J114 (false, ())))) (fun (p134 : Bool × Unit) => match p134 with | (b113, _) => bcase b113 (Q (⟨s0.Number, (List.set s0.Frames ((IntKind.wrap .i64 (((s0.Frames.length : Nat) : Int) - 1)).toNat) (⟨(rd xs1 ((rd s0.Frames (IntKind.wrap .i64 (((s0.Frames.length : Nat) : Int) - 1))).Pc)).B, (rd s0.Frames (IntKind.wrap .i64 (((s0.Frames.length : Nat) : Int) - 1))).Stop, (rd s0.Frames (IntKind.wrap .i64 (((s0.Frames.length : Nat) : Int) - 1))).Mask⟩ : D.Frame)), xs76⟩ : D.Warp)) (Q (⟨s0.Number, (List.set s0.Frames ((IntKind.wrap .i64 (((s0.Frames.length : Nat) : Int) - 1)).toNat) (⟨(IntKind.wrap .i64 ((rd s0.Frames (IntKind.wrap .i64 (((s0.Frames.length : Nat) : Int) - 1))).Pc + 1)), (rd s0.Frames (IntKind.wrap .i64 (((s0.Frames.length : Nat) : Int) - 1))).Stop, (rd s0.Frames (IntKind.wrap .i64 (((s0.Frames.length : Nat) : Int) - 1))).Mask⟩ : D.Frame)), xs76⟩ : D.Warp)))))) (0, s0.Regs, ()))))
def wp.impl_Warp_drop (s0 : D.Warp) (x1 : Int) (Q : D.Warp → Prop) : Prop :=
  LoopP (σ := Int × (List D.Frame) × Unit) (fun (p111 : Int × (List D.Frame) × Unit) next77 => match p111 with | (i70, xs71, _) => bcase (decide (((xs71.length : Nat) : Int) > 0)) (((0 ≤ (IntKind.wrap .i64 (((xs71.length : Nat) : Int) - 1)) ∧ (IntKind.wrap .i64 (((xs71.length : Nat) : Int) - 1)) < ((xs71.length : Nat) : Int)) ∧ JoinP (σ := Unit) (fun J89 => bcase ((rd xs71 (IntKind.wrap .i64 (((xs71.length : Nat) : Int) - 1))).Pc != (rd xs71 (IntKind.wrap .i64 (((xs71.length : Nat) : Int) - 1))).Stop) (bcase ((rd xs71 (IntKind.wrap .i64 (((xs71.length : Nat) : Int) - 1))).Pc != x1) (Q (⟨i70, xs71, s0.Regs⟩ : D.Warp)) (J89 (()))) (J89 (()))) (fun (p108 : Unit) => match p108 with | (_) => ((((0 ≤ (IntKind.wrap .i64 (((xs71.length : Nat) : Int) - 1)) ∧ (IntKind.wrap .i64 (((xs71.length : Nat) : Int) - 1)) ≤ ((xs71.length : Nat) : Int)) ∧ next77 (i70, (List.take ((IntKind.wrap .i64 (((xs71.length : Nat) : Int) - 1)).toNat) xs71), ()))) ∧ (((0 ≤ (IntKind.wrap .i64 (((xs71.length : Nat) : Int) - 1)) ∧ (IntKind.wrap .i64 (((xs71.length : Nat) : Int) - 1)) ≤ ((xs71.length : Nat) : Int)) ∧ next77 (i70, (List.take ((IntKind.wrap .i64 (((xs71.length : Nat) : Int) - 1)).toNat) xs71), ()))) ∧ True)))) (Q (⟨i70, xs71, s0.Regs⟩ : D.Warp))) (s0.Number, s0.Frames, ())
def wp.impl_Warp_pass (s0 : D.Warp) (xs1 : List D.Ins) (Q : (Bool × D.Warp) → Prop) : Prop :=
  bcase (((s0.Frames.length : Nat) : Int) == 0) (Q (false, (⟨s0.Number, s0.Frames, s0.Regs⟩ : D.Warp))) (((0 ≤ (IntKind.wrap .i64 (((s0.Frames.length : Nat) : Int) - 1)) ∧ (IntKind.wrap .i64 (((s0.Frames.length : Nat) : Int) - 1)) < ((s0.Frames.length : Nat) : Int)) ∧ ((0 ≤ (rd s0.Frames (IntKind.wrap .i64 (((s0.Frames.length : Nat) : Int) - 1))).Pc ∧ (rd s0.Frames (IntKind.wrap .i64 (((s0.Frames.length : Nat) : Int) - 1))).Pc < ((xs1.length : Nat) : Int)) ∧ (∀ r32, r32 = M.impl_IsLocal (rd xs1 ((rd s0.Frames (IntKind.wrap .i64 (((s0.Frames.length : Nat) : Int) - 1))).Pc)) → bcase (!r32) (Q (false, (⟨s0.Number, s0.Frames, s0.Regs⟩ : D.Warp))) ((M.impl_Warp_splits_pre s0 xs1 ∧ ∀ r37, r37 = M.impl_Warp_splits s0 xs1 → bcase r37 ((M.impl_Warp_separate_pre s0 xs1 ∧ ∀ r42, r42 = M.impl_Warp_separate s0 xs1 → bcase (!r42.1) (Q (false, (⟨r42.2.Number, r42.2.Frames, s0.Regs⟩ : D.Warp))) ((M.impl_Warp_drop_pre (⟨r42.2.Number, r42.2.Frames, s0.Regs⟩ : D.Warp) ((xs1.length : Nat) : Int) ∧ ∀ r50, r50 = M.impl_Warp_drop (⟨r42.2.Number, r42.2.Frames, s0.Regs⟩ : D.Warp) ((xs1.length : Nat) : Int) → Q (true, (⟨r50.Number, r50.Frames, s0.Regs⟩ : D.Warp)))))) ((M.impl_Warp_advance_pre s0 xs1 ∧ ∀ r59, r59 = M.impl_Warp_advance s0 xs1 → (M.impl_Warp_drop_pre r59 ((xs1.length : Nat) : Int) ∧ ∀ r68, r68 = M.impl_Warp_drop r59 ((xs1.length : Nat) : Int) → Q (true, (⟨r68.Number, r68.Frames, r59.Regs⟩ : D.Warp)))))))))))
def wp.impl_RunWarp (xs0 : List D.Ins) (s1 : D.Warp) (x2 : Int) (Q : (D.Warp × Int) → Prop) : Prop :=
  (M.impl_copyWarp_pre s1 ∧ ∀ r25, r25 = M.impl_copyWarp s1 → (M.impl_IsQuiet_pre xs0 ∧ ∀ r38, r38 = M.impl_IsQuiet xs0 → bcase (!r38) (Q ((⟨r25.Number, r25.Frames, r25.Regs⟩ : D.Warp), (-1))) ((M.impl_WarpOk_pre xs0 s1 ∧ ∀ r45, r45 = M.impl_WarpOk xs0 s1 → bcase (!r45) (Q ((⟨r25.Number, r25.Frames, r25.Regs⟩ : D.Warp), (-1))) ((∀ r52, r52 = M.impl_within x2 0 8000 → bcase (!r52) (Q ((⟨r25.Number, r25.Frames, r25.Regs⟩ : D.Warp), (-1))) (LoopP (σ := Int × Int × (List D.Frame) × (List Int) × Unit) (fun (p105 : Int × Int × (List D.Frame) × (List Int) × Unit) next85 => match p105 with | (i74, i75, xs76, xs79, _) => bcase (decide (i74 < x2)) ((M.impl_Warp_pass_pre (⟨i75, xs76, xs79⟩ : D.Warp) xs0 ∧ ∀ r87, r87 = M.impl_Warp_pass (⟨i75, xs76, xs79⟩ : D.Warp) xs0 → bcase r87.1 (next85 ((IntKind.wrap .i64 (i74 + 1)), r87.2.Number, r87.2.Frames, r87.2.Regs, ())) (Q ((⟨r87.2.Number, r87.2.Frames, r87.2.Regs⟩ : D.Warp), i74)))) (Q ((⟨i75, xs76, xs79⟩ : D.Warp), i74))) (0, r25.Number, r25.Frames, r25.Regs, ()))))))))
def wp.impl_WarpResult (xs0 : List D.Ins) (x1 : Int) (Q : (D.Warp × Int × Bool) → Prop) : Prop :=
  (M.impl_IsQuiet_pre xs0 ∧ ∀ r23, r23 = M.impl_IsQuiet xs0 → bcase (!r23) (Q ((⟨0, ([] : List D.Frame), ([] : List Int)⟩ : D.Warp), 0, false)) ((∀ r30, r30 = M.impl_isWarpNumber x1 → bcase (!r30) (Q ((⟨0, ([] : List D.Frame), ([] : List Int)⟩ : D.Warp), 0, false)) ((M.impl_newWarp_pre xs0 x1 ∧ ∀ r37, r37 = M.impl_newWarp xs0 x1 → (M.impl_RunWarp_pre xs0 r37 8000 ∧ ∀ r46, r46 = M.impl_RunWarp xs0 r37 8000 → bcase (decide (((r46.1.Frames.length : Nat) : Int) > 0)) (Q ((⟨0, ([] : List D.Frame), ([] : List Int)⟩ : D.Warp), 0, false)) (Q ((⟨r46.1.Number, r46.1.Frames, r46.1.Regs⟩ : D.Warp), r46.2, true))))))))
end Go.V
set_option linter.unusedVariables false
set_option linter.unusedVariables false
set_option linter.unusedSimpArgs false
set_option maxRecDepth 20000
namespace Go.V
theorem afterB_iff {p : List D.Ins} {k later : Int} (h : M.Node p k) : M.afterB p k later = true ↔ ¬ Rch p later [k] ((p.length : Nat) : Int) := by
  have hn : M.nodeIn p ((p.length : Nat) : Int) := ⟨by omega, by omega⟩
  have := reached_iff (wo := later) h.1 (fun x hx => by obtain rfl := List.mem_singleton.1 hx; exact h.2) hn
  unfold M.afterB
  rw [← this]
  cases rd (M.reached p [k] later) ((p.length : Nat) : Int) <;> simp
theorem firstS_mem {p : List D.Ins} {all : List Int} : ∀ (l : List Int), (∃ x ∈ l, all.all (M.afterB p x) = true) → M.firstS p all l ∈ l ∧ all.all (M.afterB p (M.firstS p all l)) = true
  | [], h => by obtain ⟨x, hx, _⟩ := h; cases hx
  | y :: l, h => by
    by_cases hy : all.all (M.afterB p y) = true
    · simp only [M.firstS, hy, if_true]; exact ⟨List.mem_cons_self, trivial⟩
    · have : ∃ x ∈ l, all.all (M.afterB p x) = true := by
        obtain ⟨x, hx, hg⟩ := h
        rcases List.mem_cons.1 hx with rfl | hx
        · exact absurd hg hy
        · exact ⟨x, hx, hg⟩
      have ih := firstS_mem l this
      simp only [M.firstS, hy]
      exact ⟨List.mem_cons_of_mem _ ih.1, ih.2⟩
theorem rch_via {p : List D.Ins} {y b : Int} {v : Int} (h : Rch p y [b] v) {x : Int} (hx : Rch p y [v] x) : Rch p y [b] x := by
  induction hx with
  | base hs hne => obtain rfl := List.mem_singleton.1 hs; exact h
  | step _ hs hne ih => exact .step ih hs hne
theorem first_in {p : List D.Ins} {b : Int} (hb : M.Node p b) (hbn : b ≠ ((p.length : Nat) : Int)) (he : M.exitB p b = true) : M.firstAfter p b ∈ M.others (M.aftersOf p b) b := by
  have hn : M.nodeIn p ((p.length : Nat) : Int) := ⟨by omega, by omega⟩
  have hR := (reached_iff hb.1 (fun x hx => by obtain rfl := List.mem_singleton.1 hx; exact hb.2) hn).1 he
  have hmem : ∀ x, M.nodeIn p x → x ≠ b → M.afterB p b x = true → x ∈ M.others (M.aftersOf p b) b := by
    intro x hx hxb ha
    unfold M.others M.aftersOf
    rw [if_pos (by simp only [Bool.and_eq_true]; exact ⟨isNode_iff.2 hb, he⟩)]
    refine List.mem_filter.2 ⟨mem_idx.2 ⟨x.toNat, by unfold M.nodeIn at hx; omega, by unfold M.nodeIn at hx; omega, ha⟩, by simpa using hxb⟩
  refine (firstS_mem _ ?_).1
  have good : ∀ x ∈ M.others (M.aftersOf p b) b, ∀ v, (∀ y ∈ M.others (M.aftersOf p b) b, Rch p y [b] v) → x ∈ M.nextOf p v → (M.others (M.aftersOf p b) b).all (M.afterB p x) = true := by
    intro x hx v hv hvx
    rw [List.all_eq_true]
    intro y hy
    obtain ⟨hxN, _, _, _⟩ := afters_nodes hx
    obtain ⟨hyN, _, _, hya⟩ := afters_nodes hy
    rw [afterB_iff hxN]
    intro hr
    refine (afterB_iff hb).1 hya ?_
    have hxy : x ≠ y := by
      rintro rfl
      have : ∀ z, Rch p x [x] z → False := fun z hz => by
        induction hz with
        | base hs hne => exact hne (List.mem_singleton.1 hs)
        | step _ _ _ ih => exact ih
      exact this _ hr
    exact rch_via (.step (hv y hy) hvx hxy) hr
  have hbL : ∀ y ∈ M.others (M.aftersOf p b) b, b ≠ y := fun y hy e => by
    have := (List.mem_filter.1 hy).2
    simp [e] at this
  have key : ∀ v, Rch p (-1) [b] v → (∃ x ∈ M.others (M.aftersOf p b) b, (M.others (M.aftersOf p b) b).all (M.afterB p x) = true) ∨ (v ∉ M.others (M.aftersOf p b) b ∧ ∀ y ∈ M.others (M.aftersOf p b) b, Rch p y [b] v) := by
    intro v hv
    induction hv with
    | base hs hne =>
      obtain rfl := List.mem_singleton.1 hs
      exact .inr ⟨fun h => hbL _ h rfl, fun y hy => .base (List.mem_singleton.2 rfl) (hbL y hy)⟩
    | @step k s _ hs hne ih =>
      rcases ih with ih | ⟨_, ih⟩
      · exact .inl ih
      · by_cases hsL : s ∈ M.others (M.aftersOf p b) b
        · exact .inl ⟨s, hsL, good s hsL k ih hs⟩
        · exact .inr ⟨hsL, fun y hy => .step (ih y hy) hs (fun e => hsL (e ▸ hy))⟩
  rcases key _ hR with h | ⟨h, _⟩
  · exact h
  · refine absurd (hmem _ hn (Ne.symm hbn) ((afterB_iff hb).2 fun hr => ?_)) h
    have : ∀ z, Rch p ((p.length : Nat) : Int) [b] z → z ≠ ((p.length : Nat) : Int) := fun z hz => by
      cases hz with
      | base _ hne => exact hne
      | step _ _ hne => exact hne
    exact this _ hr rfl
theorem join_in {p : List D.Ins} {b : Int} (h : M.Branch p b) : M.nodeIn p (M.joinB p b) := by
  obtain ⟨h1, h2, hb, _⟩ := br_in h
  have hn : M.nodeIn p ((p.length : Nat) : Int) := ⟨by omega, by omega⟩
  unfold M.joinB
  split
  · rename_i e
    simp only [Bool.and_eq_true] at e
    have hx1 := (reached_iff hb.1 (fun x hx => by obtain rfl := List.mem_singleton.1 hx; exact h1.2) hn).1 e.1
    have hbr := h.2.2.2
    simp only [M.isBr, Bool.and_eq_true, beq_iff_eq, bne_iff_ne] at hbr
    have hnx : b + 1 ∈ M.nextOf p b := by
      unfold M.nextOf
      have := h.2.2.1
      rw [if_neg (by omega), if_neg (by omega), if_neg (by omega), if_pos hbr.1]
      exact putTwo_mem.2 (.inl rfl)
    have he : M.exitB p b = true := by
      refine (reached_iff hb.1 (fun x hx => by obtain rfl := List.mem_singleton.1 hx; exact hb.2) hn).2 ?_
      have hb0 := h.2.1
      exact rch_via (b := b) (y := -1) (.step (.base (List.mem_singleton.2 rfl) (by omega)) hnx (by omega)) hx1
    exact (afters_nodes (first_in hb (by have := h.2.2.1; omega) he)).1.2
  · exact hn
theorem sub_check : ((List.range 256).all fun m => (List.range 256).all fun z => !(m &&& z == z) || (m &&& (2 ^ 64 - 1 - z) == m - z)) = true := by kernel_rfl
theorem lane_check : ((List.range 256).all fun m => (List.range 8).all fun l => !(M.hasLane ((m : Nat) : Int) ((l : Nat) : Int)) || (m &&& 2 ^ l == 2 ^ l)) = true := by kernel_rfl
theorem bit_check : ((List.range 8).all fun l => M.bitAt ((l : Nat) : Int) == ((2 ^ l : Nat) : Int)) = true := by kernel_rfl
theorem bitOr_nat {a b : Nat} (ha : a < 256) (hb : b < 256) : bitOr .i64 ((a : Nat) : Int) ((b : Nat) : Int) = ((a ||| b : Nat) : Int) := by
  have hlt : a ||| b < 256 := Nat.or_lt_two_pow (n := 8) ha hb
  have e : (BitVec.ofInt (IntKind.bits .i64) ((a : Nat) : Int) ||| BitVec.ofInt (IntKind.bits .i64) ((b : Nat) : Int)).toNat = a ||| b := by
    show (BitVec.ofInt 64 ((a : Nat) : Int) ||| BitVec.ofInt 64 ((b : Nat) : Int)).toNat = a ||| b
    rw [BitVec.ofInt_natCast, BitVec.ofInt_natCast, BitVec.toNat_or, BitVec.toNat_ofNat, BitVec.toNat_ofNat, Nat.mod_eq_of_lt (by omega), Nat.mod_eq_of_lt (by omega)]
  unfold bitOr
  rw [e]
  exact w64 (by omega) (by omega)
theorem bitNot_nat {a b : Nat} (ha : a < 256) (hb : b < 256) (hs : a &&& b = b) : bitNot .i64 ((a : Nat) : Int) ((b : Nat) : Int) = ((a - b : Nat) : Int) := by
  have hc := List.all_eq_true.1 (List.all_eq_true.1 sub_check a (List.mem_range.2 ha)) b (List.mem_range.2 hb)
  simp only [hs, BEq.rfl, Bool.not_true, Bool.false_or, beq_iff_eq] at hc
  have e : (BitVec.ofInt (IntKind.bits .i64) ((a : Nat) : Int) &&& ~~~(BitVec.ofInt (IntKind.bits .i64) ((b : Nat) : Int))).toNat = a - b := by
    show (BitVec.ofInt 64 ((a : Nat) : Int) &&& ~~~(BitVec.ofInt 64 ((b : Nat) : Int))).toNat = a - b
    rw [BitVec.ofInt_natCast, BitVec.ofInt_natCast, BitVec.toNat_and, BitVec.toNat_not, BitVec.toNat_ofNat, BitVec.toNat_ofNat, Nat.mod_eq_of_lt (by omega), Nat.mod_eq_of_lt (by omega)]
    exact hc
  unfold bitNot
  rw [e]
  exact w64 (by omega) (by omega)
theorem isMask_nat {m : Int} (h : M.isMask m = true) : ∃ k : Nat, m = (k : Int) ∧ k < 256 := by
  simp only [M.isMask, M.isIn, Bool.and_eq_true, decide_eq_true_eq] at h
  exact ⟨m.toNat, by omega, by omega⟩
theorem zero_fold {x : D.Warp} {reg : Int} {m : Nat} (hm : m < 256) : ∀ (l : List Int), (∀ k ∈ l, k ∈ M.lanesOf (m : Int)) → ∀ z : Nat, z < 256 → m &&& z = z → ∃ z' : Nat, l.foldl (M.zeroStep x reg) (z : Int) = (z' : Int) ∧ z' < 256 ∧ m &&& z' = z'
  | [], _, z, hz, hs => ⟨z, rfl, hz, hs⟩
  | k :: l, hl, z, hz, hs => by
    have hk := hl k List.mem_cons_self
    have hrest := fun j hj => hl j (List.mem_cons_of_mem _ hj)
    simp only [List.foldl_cons]
    by_cases e : rd x.Regs (k * 4 + reg) = 0
    · obtain ⟨h0, h7⟩ := lanes_in hk
      have hkn : ((k.toNat : Nat) : Int) = k := by omega
      have hh : M.hasLane (m : Int) k = true := (List.mem_filter.1 hk).2
      have hc := List.all_eq_true.1 (List.all_eq_true.1 lane_check m (List.mem_range.2 hm)) k.toNat (List.mem_range.2 (by omega))
      rw [hkn, hh] at hc
      simp only [Bool.not_true, Bool.false_or, beq_iff_eq] at hc
      have hb := List.all_eq_true.1 bit_check k.toNat (List.mem_range.2 (by omega))
      rw [hkn] at hb
      have hb := eq_of_beq hb
      have hp : 2 ^ k.toNat < 256 := Nat.lt_of_lt_of_le (Nat.pow_lt_pow_right (by omega) (show k.toNat < 8 by omega)) (Nat.le_refl _)
      have hst : M.zeroStep x reg (z : Int) k = ((z ||| 2 ^ k.toNat : Nat) : Int) := by
        unfold M.zeroStep
        rw [if_pos e, hb, bitOr_nat hz hp]
      rw [hst]
      exact zero_fold hm l hrest _ (Nat.or_lt_two_pow (n := 8) hz hp) (by rw [Nat.and_or_distrib_left, hs, hc])
    · have hst : M.zeroStep x reg (z : Int) k = (z : Int) := by unfold M.zeroStep; rw [if_neg e]
      rw [hst]
      exact zero_fold hm l hrest z hz hs
theorem zeroMask_sub {x : D.Warp} {reg : Int} (h : M.isMask (M.activeMask x) = true) : ∃ m z : Nat, M.activeMask x = (m : Int) ∧ M.zeroMask x reg = (z : Int) ∧ m < 256 ∧ z < 256 ∧ m &&& z = z := by
  obtain ⟨m, hm, hlt⟩ := isMask_nat h
  obtain ⟨z, hz, hzl, hs⟩ := zero_fold (x := x) (reg := reg) hlt (M.lanesOf (m : Int)) (fun _ hk => hk) 0 (by omega) (by simp)
  refine ⟨m, z, hm, ?_, hlt, hzl, hs⟩
  unfold M.zeroMask
  rw [hm]
  exact hz
theorem mask_part {x : D.Warp} {reg : Int} (h : M.isMask (M.activeMask x) = true) :
    M.isMask (M.zeroMask x reg) = true ∧ bitNot .i64 (M.activeMask x) (M.zeroMask x reg) = M.activeMask x - M.zeroMask x reg ∧ M.isMask (M.activeMask x - M.zeroMask x reg) = true := by
  obtain ⟨m, z, hm, hz, h1, h2, hs⟩ := zeroMask_sub (reg := reg) h
  have hle : z ≤ m := by rw [← hs]; exact Nat.and_le_left
  rw [hm, hz, bitNot_nat h1 h2 hs]
  refine ⟨?_, by omega, ?_⟩ <;> (simp only [M.isMask, M.isIn, Bool.and_eq_true, decide_eq_true_eq]; omega)
end Go.V
set_option linter.unusedVariables false
set_option linter.unusedSimpArgs false
set_option maxRecDepth 20000
namespace Go.V
theorem rd_take {α : Type} [Inhabited α] {l : List α} {k m : Nat} (h : k < m) : rd (l.take m) (k : Int) = rd l (k : Int) := by
  unfold rd
  rw [List.getD_eq_getElem?_getD, List.getD_eq_getElem?_getD, List.getElem?_take, if_pos (by simpa using h)]
theorem take_take' {α : Type} {l : List α} {k m : Nat} (h : k ≤ m) : (l.take m).take k = l.take k := by rw [List.take_take, Nat.min_eq_left h]
theorem wp.impl_Warp_drop.math (x : D.Warp) (n : Int) (h : M.impl_Warp_drop_pre x n) : wp.impl_Warp_drop x n (fun r => r = M.impl_Warp_drop x n) := by
  unfold wp.impl_Warp_drop
  have hL : x.Frames.length ≤ 9223372036854775807 := h
  refine loop_n x.Frames.length (fun j => (x.Number, x.Frames.take (x.Frames.length - j), ())) (fun j => M.dropF x.Frames n = M.dropN x.Frames n (x.Frames.length - j)) (by simp) (by simp [M.dropF]) (fun j hj hF next hn => ?_) (fun hF next => ?_)
  · obtain ⟨m, hm⟩ : ∃ m, x.Frames.length - j = m + 1 := ⟨x.Frames.length - j - 1, by omega⟩
    have hm1 : x.Frames.length - (j + 1) = m := by omega
    rw [hm1] at hn
    rw [hm] at hF
    dsimp only
    rw [hm]
    have hl : (x.Frames.take (m + 1)).length = m + 1 := by rw [List.length_take]; omega
    rw [hl, last_wrap (by omega), show (((m + 1 : Nat) : Int) - 1) = (m : Int) by omega, rd_take (Nat.lt_succ_self m), take_take' (by omega)]
    refine bcase_t (by simp) ⟨by omega, ?_⟩
    show bcase _ (bcase _ _ _) _
    have go : ¬ ((rd x.Frames (m : Int)).Pc ≠ (rd x.Frames (m : Int)).Stop ∧ (rd x.Frames (m : Int)).Pc ≠ n) → next (x.Number, x.Frames.take m, ()) := fun hc => hn (by rw [hF]; simp only [M.dropN]; rw [if_neg hc])
    refine bcase_mk (fun e1 => bcase_mk (fun e2 => ?_) fun e2 => ?_) fun e1 => ?_
    · simp only [M.dropN] at hF
      rw [if_pos ⟨by simpa using e1, by simpa using e2⟩] at hF
      show _ = M.dropW x n
      unfold M.dropW
      rw [hF]
    · have := go (fun hc => hc.2 (by simpa using e2))
      exact ⟨⟨by omega, this⟩, ⟨by omega, this⟩, trivial⟩
    · have := go (fun hc => hc.1 (by simpa using e1))
      exact ⟨⟨by omega, this⟩, ⟨by omega, this⟩, trivial⟩
  · rw [Nat.sub_self] at hF
    dsimp only
    rw [Nat.sub_self, List.take_zero]
    refine bcase_f (by simp) ?_
    show _ = M.dropW x n
    unfold M.dropW
    rw [hF]; rfl
theorem set_cut {α : Type} {xs : List α} {lo hi k : Nat} {y : α} (h1 : lo ≤ hi) (h2 : hi ≤ xs.length) (hk : k < hi - lo) : xs.set (lo + k) y = xs.take lo ++ ((xs.take hi).drop lo).set k y ++ xs.drop hi := by
  apply List.ext_getElem?
  intro i
  have hl : (((xs.take hi).drop lo).set k y).length = hi - lo := by simp; omega
  rw [List.getElem?_append, List.length_append, hl, List.length_take, Nat.min_eq_left (by omega), List.getElem?_append, List.length_take, Nat.min_eq_left (by omega)]
  by_cases hi1 : i < lo
  · rw [if_pos (by omega), if_pos hi1, List.getElem?_set_ne (by omega), List.getElem?_take, if_pos hi1]
  · by_cases hi2 : i < hi
    · rw [if_pos (by omega), if_neg hi1]
      by_cases e : lo + k = i
      · subst e
        rw [List.getElem?_set_self (by omega), show lo + k - lo = k by omega, List.getElem?_set_self (by simp; omega)]
      · rw [List.getElem?_set_ne e, List.getElem?_set_ne (by omega), List.getElem?_drop, List.getElem?_take, if_pos (by omega)]
        congr 1; omega
    · rw [if_neg (by omega), List.getElem?_set_ne (by omega), List.getElem?_drop]
      congr 1; omega
theorem cut_self {α : Type} {xs : List α} {lo hi : Nat} (h1 : lo ≤ hi) (h2 : hi ≤ xs.length) : xs.take lo ++ (xs.take hi).drop lo ++ xs.drop hi = xs := by
  apply List.ext_getElem?
  intro i
  have hl : ((xs.take hi).drop lo).length = hi - lo := by simp; omega
  rw [List.getElem?_append, List.length_append, hl, List.length_take, Nat.min_eq_left (by omega), List.getElem?_append, List.length_take, Nat.min_eq_left (by omega)]
  by_cases hi1 : i < lo
  · rw [if_pos (by omega), if_pos hi1, List.getElem?_take, if_pos hi1]
  · by_cases hi2 : i < hi
    · rw [if_pos (by omega), if_neg hi1, List.getElem?_drop, List.getElem?_take, if_pos (by omega)]
      congr 1; omega
    · rw [if_neg (by omega), List.getElem?_drop]
      congr 1; omega
theorem wp.impl_apply_v.math (i : D.Ins) (t : Int) (xs : List Int) (lo hi : Nat) (h : M.impl_apply_v_pre i t xs lo hi) : wp.impl_apply_v i t xs lo hi (fun x => x = M.impl_apply_v i t xs lo hi) := by
  obtain ⟨hf, h1, h2⟩ := h
  obtain ⟨hl, hA, hB, hC⟩ := fits_regs hf
  have hl4 : hi - lo = 4 := by rw [← hl]; simp; omega
  have st : ∀ y, (0 ≤ i.A ∧ i.A ≤ 3) → xs.set (lo + i.A.toNat) y = xs.take lo ++ ((xs.take hi).drop lo).set i.A.toNat y ++ xs.drop hi := fun y ha => set_cut h1 h2 (by omega)
  have sf := cut_self h1 h2
  generalize hr : (xs.take hi).drop lo = r at *
  unfold wp.impl_apply_v
  simp only [hr, forall_eq]
  refine bcase_mk (fun e => ?_) fun n1 => bcase_mk (fun e => ?_) fun n2 => bcase_mk (fun e => ?_) fun n3 => bcase_mk (fun e => ?_) fun n4 => bcase_mk (fun e => ?_) fun n5 => bcase_mk (fun e => ?_) fun n6 => bcase_mk (fun e => ?_) fun n7 => bcase_mk (fun e => ?_) fun n8 => bcase_mk (fun e => ?_) fun n9 => ?_
  · have hk : i.Op = 1 := by simpa using e
    exact ⟨rd_reg hl (hA (by omega)), by rw [st _ (hA (by omega))]; simp [M.impl_apply_v, M.apply, hk, hr]⟩
  · have hk : i.Op = 2 := by simpa using e
    exact ⟨rd_reg hl (hB (by omega)), rd_reg hl (hA (by omega)), by rw [st _ (hA (by omega))]; simp [M.impl_apply_v, M.apply, hk, hr]⟩
  · have hk : i.Op = 3 := by simpa using e
    exact ⟨rd_reg hl (hB (by omega)), rd_reg hl (hC (by omega)), rd_reg hl (hA (by omega)), by rw [st _ (hA (by omega))]; simp [M.impl_apply_v, M.apply, hk, hr, M.spec_AddWords, M.impl_AddWords]⟩
  · have hk : i.Op = 4 := by simpa using e
    exact ⟨rd_reg hl (hB (by omega)), rd_reg hl (hC (by omega)), rd_reg hl (hA (by omega)), by rw [st _ (hA (by omega))]; simp [M.impl_apply_v, M.apply, hk, hr, M.spec_SubWords, M.impl_SubWords]⟩
  · have hk : i.Op = 5 := by simpa using e
    exact ⟨rd_reg hl (hB (by omega)), rd_reg hl (hC (by omega)), rd_reg hl (hA (by omega)), by rw [st _ (hA (by omega))]; simp [M.impl_apply_v, M.apply, hk, hr, M.spec_MulWords, M.impl_MulWords]⟩
  · have hk : i.Op = 6 := by simpa using e
    exact ⟨rd_reg hl (hB (by omega)), rd_reg hl (hC (by omega)), rd_reg hl (hA (by omega)), by rw [st _ (hA (by omega))]; simp [M.impl_apply_v, M.apply, hk, hr]⟩
  · have hk : i.Op = 7 := by simpa using e
    exact ⟨rd_reg hl (hB (by omega)), rd_reg hl (hC (by omega)), rd_reg hl (hA (by omega)), by rw [st _ (hA (by omega))]; simp [M.impl_apply_v, M.apply, hk, hr, M.spec_LessWords, M.impl_LessWords]⟩
  · have hk : i.Op = 8 := by simpa using e
    exact ⟨rd_reg hl (hA (by omega)), by rw [st _ (hA (by omega))]; simp [M.impl_apply_v, M.apply, hk, hr]⟩
  · have hk : i.Op = 9 := by simpa using e
    refine ⟨rd_reg hl (hC (by omega)), bcase_mk (fun e2 => ⟨rd_reg hl (hB (by omega)), rd_reg hl (hA (by omega)), ?_⟩) fun e2 => ?_⟩
    · have h2 : ¬ rd r i.C = 0 := by simpa using e2
      rw [st _ (hA (by omega))]
      simp [M.impl_apply_v, M.apply, hk, h2, hr]
    · have h2 : rd r i.C = 0 := by simpa using e2
      simp only [M.impl_apply_v, M.apply, hk, h2, hr]
      simpa using sf.symm
  · simp at n1 n2 n3 n4 n5 n6 n7 n8 n9
    simp only [M.impl_apply_v, M.apply, n1, n2, n3, n4, n5, n6, n7, n8, n9, hr, if_false]
    exact sf.symm
end Go.V
set_option linter.unusedVariables false
set_option linter.unusedSimpArgs false
set_option maxRecDepth 20000
namespace Go.V
theorem laneCut_len {r : List Int} {l : Nat} (h : r.length = 32) (hl : l < 8) : (M.laneCut r l).length = 4 := by unfold M.laneCut; simp; omega
theorem putLane_len {r x : List Int} {l : Nat} (h : r.length = 32) (hl : l < 8) (hx : x.length = 4) : (M.putLane r l x).length = 32 := by unfold M.putLane; simp; omega
theorem putLane_get {r x : List Int} {l : Nat} (h : r.length = 32) (hl : l < 8) (hx : x.length = 4) (i : Nat) : (M.putLane r l x)[i]? = if l * 4 ≤ i ∧ i < l * 4 + 4 then x[i - l * 4]? else r[i]? := by
  unfold M.putLane
  rw [List.getElem?_append, List.length_append, List.length_take, Nat.min_eq_left (by omega), hx, List.getElem?_append, List.length_take, Nat.min_eq_left (by omega)]
  by_cases h1 : i < l * 4
  · rw [if_pos (by omega), if_pos h1, if_neg (by omega), List.getElem?_take, if_pos h1]
  · by_cases h2 : i < l * 4 + 4
    · rw [if_pos h2, if_neg h1, if_pos (by omega)]
    · rw [if_neg h2, if_neg (by omega), List.getElem?_drop]
      congr 1; omega
theorem laneCut_get (r : List Int) (l i : Nat) : (M.laneCut r l)[i]? = if i < 4 then r[l * 4 + i]? else none := by
  unfold M.laneCut
  rw [List.getElem?_drop, List.getElem?_take]
  by_cases h : i < 4
  · rw [if_pos h, if_pos (by omega)]
  · rw [if_neg h, if_neg (by omega)]
theorem cut_put_other {r x : List Int} {l j : Nat} (h : r.length = 32) (hl : l < 8) (hx : x.length = 4) (hne : j ≠ l) : M.laneCut (M.putLane r l x) j = M.laneCut r j := by
  apply List.ext_getElem?
  intro i
  rw [laneCut_get, laneCut_get]
  by_cases hi : i < 4
  · rw [if_pos hi, if_pos hi, putLane_get h hl hx, if_neg (by omega)]
  · rw [if_neg hi, if_neg hi]
theorem put_self {r : List Int} {l : Nat} (h : r.length = 32) (hl : l < 8) : M.putLane r l (M.laneCut r l) = r := by
  apply List.ext_getElem?
  intro i
  rw [putLane_get h hl (laneCut_len h hl)]
  by_cases hi : l * 4 ≤ i ∧ i < l * 4 + 4
  · rw [if_pos hi, laneCut_get, if_pos (by omega)]
    congr 1; omega
  · rw [if_neg hi]
theorem applyTo_len {i : D.Ins} {num m : Int} {r : List Int} (h : r.length = 32) : ∀ k, k ≤ 8 → (M.applyTo i num m r k).length = 32
  | 0, _ => h
  | k + 1, hk => by
    have ih := applyTo_len (i := i) (num := num) (m := m) h k (by omega)
    simp only [M.applyTo]
    split
    · exact putLane_len ih (by omega) (by rw [apply_len, laneCut_len h (by omega)])
    · exact ih
theorem applyTo_cut {i : D.Ins} {num m : Int} {r : List Int} (h : r.length = 32) : ∀ k, k ≤ 8 → ∀ j, k ≤ j → M.laneCut (M.applyTo i num m r k) j = M.laneCut r j
  | 0, _, _, _ => rfl
  | k + 1, hk, j, hj => by
    have ih := applyTo_cut (i := i) (num := num) (m := m) h k (by omega) j (by omega)
    simp only [M.applyTo]
    split
    · rw [cut_put_other (applyTo_len h k (by omega)) (by omega) (by rw [apply_len, laneCut_len h (by omega)]) (by omega), ih]
    · exact ih
def stepL (i : D.Ins) (num : Int) (acc : List Int) (l : Int) : List Int := M.impl_apply_v i (num * 8 + l) acc (l * 4).toNat (l * 4 + 4).toNat
theorem stepL_put (i : D.Ins) (num : Int) (acc : List Int) (k : Nat) : stepL i num acc (k : Int) = M.putLane acc k (M.apply i (num * 8 + (k : Int)) (M.laneCut acc k)) := by
  unfold stepL M.impl_apply_v M.putLane M.laneCut
  rw [show ((k : Int) * 4).toNat = k * 4 by omega, show ((k : Int) * 4 + 4).toNat = k * 4 + 4 by omega]
theorem applyAll_fold {i : D.Ins} {num m : Int} {r : List Int} (h : r.length = 32) : M.applyAll i num m r = (M.lanesOf m).foldl (stepL i num) r := by
  have key : ∀ k, k ≤ 8 → (List.range k).foldl (fun acc (j : Nat) => if M.hasLane m (j : Int) = true then stepL i num acc (j : Int) else acc) r = M.applyTo i num m r k := by
    intro k
    induction k with
    | zero => intro _; rfl
    | succ k ih =>
      intro hk
      rw [List.range_succ, List.foldl_append, ih (by omega)]
      simp only [List.foldl_cons, List.foldl_nil, M.applyTo]
      rw [stepL_put, applyTo_cut h k (by omega) k (Nat.le_refl _)]
  unfold M.applyAll
  rw [← key 8 (Nat.le_refl _)]
  unfold M.lanesOf
  rw [List.foldl_filter]
  rfl
theorem fold_len {i : D.Ins} {num : Int} : ∀ (l : List Int) (r : List Int), r.length = 32 → (∀ k ∈ l, 0 ≤ k ∧ k ≤ 7) → (l.foldl (stepL i num) r).length = 32
  | [], r, h, _ => h
  | k :: l, r, h, hl => by
    simp only [List.foldl_cons]
    obtain ⟨h0, h7⟩ := hl k List.mem_cons_self
    refine fold_len l _ ?_ fun j hj => hl j (List.mem_cons_of_mem _ hj)
    rw [show k = ((k.toNat : Nat) : Int) by omega, stepL_put]
    exact putLane_len h (by omega) (by rw [apply_len, laneCut_len h (by omega)])
theorem applyAll_len {i : D.Ins} {num m : Int} {r : List Int} (h : r.length = 32) : (M.applyAll i num m r).length = 32 := applyTo_len h 8 (Nat.le_refl _)
theorem applyAll_branch {i : D.Ins} {num m : Int} {r : List Int} (h : r.length = 32) (e : i.Op = 10) : M.applyAll i num m r = r := by
  have ha : ∀ t (q : List Int), M.apply i t q = q := fun t q => by simp [M.apply, e]
  have : ∀ k, k ≤ 8 → M.applyTo i num m r k = r := by
    intro k
    induction k with
    | zero => intro _; rfl
    | succ k ih =>
      intro hk
      simp only [M.applyTo, ih (by omega), ha, put_self h (show k < 8 by omega), ite_self]
  exact this 8 (Nat.le_refl _)
theorem words_put {r x : List Int} {l : Nat} (h : r.all M.isWord = true) (hx : x.all M.isWord = true) : (M.putLane r l x).all M.isWord = true := by
  rw [List.all_eq_true] at h hx ⊢
  intro y hy
  unfold M.putLane at hy
  rcases List.mem_append.1 hy with hy | hy
  · rcases List.mem_append.1 hy with hy | hy
    · exact h y (List.mem_of_mem_take hy)
    · exact hx y hy
  · exact h y (List.mem_of_mem_drop hy)
theorem words_cut {r : List Int} {l : Nat} (h : r.all M.isWord = true) : (M.laneCut r l).all M.isWord = true := by
  rw [List.all_eq_true] at h ⊢
  intro y hy
  exact h y (List.mem_of_mem_take (List.mem_of_mem_drop hy))
theorem applyTo_words {i : D.Ins} {n num m : Int} {r : List Int} (hok : M.insOk i n = true) (hn : 0 ≤ num ∧ num ≤ 2) (hl : r.length = 32) (h : r.all M.isWord = true) : ∀ k, k ≤ 8 → (M.applyTo i num m r k).all M.isWord = true
  | 0, _ => h
  | k + 1, hk => by
    have ih := applyTo_words (m := m) hok hn hl h k (by omega)
    simp only [M.applyTo]
    split
    · exact words_put ih (apply_words hok (by omega) (laneCut_len hl (by omega)) (words_cut h))
    · exact ih
theorem lastF_set {fs : List D.Frame} (h : fs ≠ []) (pc : Int) : M.lastF (M.setTop fs pc) = ⟨pc, (M.lastF fs).Stop, (M.lastF fs).Mask⟩ := by
  have hpos : 0 < fs.length := List.length_pos_iff.2 h
  have e : (((fs.length : Nat) : Int) - 1) = ((fs.length - 1 : Nat) : Int) := by omega
  unfold M.lastF M.setTop
  rw [List.length_set, e, rd_nat (by rw [List.length_set]; omega), List.getElem_set_self]
  unfold M.lastF
  rw [e]
theorem mem_lastF {fs : List D.Frame} (h : fs ≠ []) : M.lastF fs ∈ fs := by
  have hpos : 0 < fs.length := List.length_pos_iff.2 h
  exact rd_of (by omega) (by omega)
theorem setTop_all {fs : List D.Frame} {n pc : Int} (h : fs.all (M.frameOk n) = true) (hx : fs ≠ []) (hp : 0 ≤ pc ∧ pc ≤ n) : (M.setTop fs pc).all (M.frameOk n) = true := by
  rw [List.all_eq_true] at h ⊢
  intro f hf
  rcases List.mem_or_eq_of_mem_set hf with hf | rfl
  · exact h f hf
  · have := h _ (mem_lastF hx)
    simp only [M.frameOk, M.isIn, Bool.and_eq_true, decide_eq_true_eq] at this ⊢
    exact ⟨hp, this.2⟩
theorem drop_spec (fs : List D.Frame) (n : Int) : ∀ k, k ≤ fs.length → M.dropN fs n k = [] ∨ ∃ j : Nat, 0 < j ∧ j ≤ k ∧ M.dropN fs n k = fs.take j ∧ (rd fs ((j - 1 : Nat) : Int)).Pc ≠ (rd fs ((j - 1 : Nat) : Int)).Stop ∧ (rd fs ((j - 1 : Nat) : Int)).Pc ≠ n
  | 0, _ => .inl rfl
  | k + 1, hk => by
    simp only [M.dropN]
    split
    · rename_i e
      exact .inr ⟨k + 1, by omega, Nat.le_refl _, rfl, e⟩
    · rcases drop_spec fs n k (by omega) with h | ⟨j, h0, h1, h2⟩
      · exact .inl h
      · exact .inr ⟨j, h0, by omega, h2⟩
theorem drop_fine {fs : List D.Frame} {n : Int} (hall : fs.all (M.frameOk n) = true) (hl : fs.length ≤ 24) (h0 : fs ≠ [] → (rd fs 0).Stop = n ∧ (rd fs 0).Mask = 255) : M.areFrames (M.dropF fs n) n = true := by
  unfold M.dropF
  rcases drop_spec fs n fs.length (Nat.le_refl _) with h | ⟨j, hj0, hj1, h2, h3, h4⟩
  · rw [h]; rfl
  · rw [h2]
    have hne : fs ≠ [] := by intro e; rw [e] at hj1; simp at hj1; omega
    have hlen : (fs.take j).length = j := by rw [List.length_take]; omega
    have hall' : (fs.take j).all (M.frameOk n) = true := by
      rw [List.all_eq_true] at hall ⊢
      exact fun f hf => hall f (List.mem_of_mem_take hf)
    have hlast : M.lastF (fs.take j) = rd fs ((j - 1 : Nat) : Int) := by
      unfold M.lastF
      rw [hlen, show ((j : Int) - 1) = ((j - 1 : Nat) : Int) by omega, rd_take (by omega)]
    have hz : rd (fs.take j) 0 = rd fs 0 := by
      have := rd_take (l := fs) (k := 0) (m := j) (by omega)
      exact this
    unfold M.areFrames
    rw [hall', Bool.true_and, Bool.or_eq_true]
    right
    unfold M.endsOk
    rw [hlast, hz, hlen]
    obtain ⟨k1, k2⟩ := h0 hne
    simp only [Bool.and_eq_true, decide_eq_true_eq, bne_iff_ne, beq_iff_eq]
    exact ⟨by omega, h3, h4, k1, k2⟩
theorem setTop_first {fs : List D.Frame} (h : fs ≠ []) (pc : Int) : (rd (M.setTop fs pc) 0).Stop = (rd fs 0).Stop ∧ (rd (M.setTop fs pc) 0).Mask = (rd fs 0).Mask := by
  have hpos : 0 < fs.length := List.length_pos_iff.2 h
  have z : (0 : Int) = ((0 : Nat) : Int) := rfl
  by_cases h1 : fs.length = 1
  · have hl := lastF_set h pc
    have e1 : M.lastF (M.setTop fs pc) = rd (M.setTop fs pc) 0 := by unfold M.lastF M.setTop; rw [List.length_set, h1]; rfl
    have e2 : M.lastF fs = rd fs 0 := by unfold M.lastF; rw [h1]; rfl
    rw [← e1, hl, e2]; exact ⟨rfl, rfl⟩
  · have e : rd (M.setTop fs pc) 0 = rd fs 0 := by
      unfold M.setTop rd
      rw [List.getD_eq_getElem?_getD, List.getD_eq_getElem?_getD, List.getElem?_set_ne (by simp; omega)]
    rw [e]; exact ⟨rfl, rfl⟩
theorem runs_frames {p : List D.Ins} {x : D.Warp} (h : M.Runs p x) : x.Frames.all (M.frameOk p.length) = true ∧ x.Frames.length ≤ 24 ∧ (rd x.Frames 0).Stop = p.length ∧ (rd x.Frames 0).Mask = 255 ∧ M.isMask (M.lastF x.Frames).Mask = true ∧ x.Regs.all M.isWord = true := by
  obtain ⟨hp, hw, hx⟩ := h
  simp only [M.warpOf, M.areFrames, Bool.and_eq_true, Bool.or_eq_true] at hw
  obtain ⟨h1, h2, h3, h4, h5⟩ := hw
  have h5 := h5.resolve_left (by simpa using hx)
  have hf := List.all_eq_true.1 h4 _ (mem_lastF hx)
  simp only [M.endsOk, M.frameOk, Bool.and_eq_true, decide_eq_true_eq, beq_iff_eq] at h5 hf
  exact ⟨h4, h5.1, h5.2.2.2.1, h5.2.2.2.2, hf.2.2.1, h3⟩
theorem split_branch {p : List D.Ins} {x : D.Warp} (h : M.Runs p x) (hs : M.isSplit p x) : M.Branch p (M.topPc x) := by
  obtain ⟨_, _, _, _, t5, t6, _⟩ := runs_top h
  refine ⟨h.1, t5, t6, ?_⟩
  unfold M.isBr
  simp only [Bool.and_eq_true, beq_iff_eq, bne_iff_ne]
  exact hs
theorem splits_iff {p : List D.Ins} {x : D.Warp} (h : M.splits p x = true) : M.isSplit p x ∧ M.zeroMask x (M.topIns p x).A ≠ 0 ∧ M.zeroMask x (M.topIns p x).A ≠ (M.lastF x.Frames).Mask := by
  simp only [M.splits, Bool.and_eq_true, beq_iff_eq, bne_iff_ne] at h
  exact ⟨h.1, h.2.1, h.2.2⟩
theorem turn_in {p : List D.Ins} {x : D.Warp} (h : M.Runs p x) : 0 ≤ M.turnPc p x ∧ M.turnPc p x ≤ ((p.length : Nat) : Int) := by
  obtain ⟨_, _, _, _, t5, t6, t7, _⟩ := runs_top h
  unfold M.turnPc
  split
  · omega
  · split
    · exact target_in t7 (.inr (by assumption))
    · split
      · rename_i e; exact target_in t7 (.inl e.1)
      · omega
theorem stepW_fine {p : List D.Ins} {x : D.Warp} (h : M.Goes p x) : M.Fine p (M.stepW p x) := by
  obtain ⟨hr, hl⟩ := h
  obtain ⟨t1, t2, t3, t4, t5, t6, t7, t8, t9⟩ := runs_top hr
  obtain ⟨f1, f2, f3, f4, f5, f6⟩ := runs_frames hr
  have hx := hr.2.2
  refine ⟨hr.1, ?_⟩
  have fin : ∀ (fs : List D.Frame) (rg : List Int), rg.length = 32 → rg.all M.isWord = true → fs.all (M.frameOk p.length) = true → fs.length ≤ 24 → (fs ≠ [] → (rd fs 0).Stop = p.length ∧ (rd fs 0).Mask = 255) → M.warpOf p (M.dropW ⟨x.Number, fs, rg⟩ p.length) = true := by
    intro fs rg g1 g2 g3 g4 g5
    simp only [M.warpOf, M.dropW, Bool.and_eq_true, beq_iff_eq]
    exact ⟨by simp only [M.isIn, Bool.and_eq_true, decide_eq_true_eq]; exact ⟨t8, t9⟩, g1, g2, drop_fine g3 g4 g5⟩
  have s0 := fun pc => setTop_first hx pc
  unfold M.stepW
  by_cases hs : M.splits p x = true
  · rw [if_pos hs]
    obtain ⟨hsp, hz0, hzm⟩ := splits_iff hs
    have hb := split_branch hr hsp
    have hj := join_in hb
    have hact : M.activeMask x = (M.lastF x.Frames).Mask := activeMask_top hx
    obtain ⟨m1, m2, m3⟩ := mask_part (x := x) (reg := (M.topIns p x).A) (by rw [hact]; exact f5)
    rw [hact] at m2 m3
    have h22 : x.Frames.length ≤ 22 := by
      simp only [M.spec_l13Local, hs, Bool.and_eq_true, Bool.not_true, Bool.false_or, decide_eq_true_eq] at hl
      exact hl.2.2
    have hB := target_in t7 (.inl hsp.1)
    unfold M.separated
    refine fin _ _ t4 f6 ?_ ?_ fun _ => ?_
    · rw [List.all_append, setTop_all f1 hx hj, Bool.true_and]
      simp only [List.all_cons, List.all_nil, Bool.and_true, M.frameOk, Bool.and_eq_true, M.isIn, decide_eq_true_eq, bne_iff_ne]
      unfold M.nodeIn at hj
      rw [m2]
      exact ⟨⟨by omega, hj, m3, by omega⟩, hB, hj, m1, hz0⟩
    · simp only [List.length_append, M.setTop, List.length_set, List.length_cons, List.length_nil]; omega
    · have e : rd (M.setTop x.Frames (M.joinB p (M.topPc x)) ++ [⟨M.topPc x + 1, M.joinB p (M.topPc x), bitNot .i64 (M.lastF x.Frames).Mask (M.zeroMask x (M.topIns p x).A)⟩, ⟨(M.topIns p x).B, M.joinB p (M.topPc x), M.zeroMask x (M.topIns p x).A⟩]) 0 = rd (M.setTop x.Frames (M.joinB p (M.topPc x))) 0 := by
        unfold rd
        rw [List.getD_eq_getElem?_getD, List.getD_eq_getElem?_getD, List.getElem?_append_left (by simp [M.setTop]; omega)]
      rw [e, (s0 _).1, (s0 _).2]
      exact ⟨f3, f4⟩
  · rw [if_neg hs]
    unfold M.advance
    refine fin _ _ (applyAll_len t4) (applyTo_words t7 ⟨t8, t9⟩ t4 f6 8 (Nat.le_refl _)) (setTop_all f1 hx (turn_in hr)) (by simp only [M.setTop, List.length_set]; exact f2) fun _ => ?_
    rw [(s0 _).1, (s0 _).2]
    exact ⟨f3, f4⟩
end Go.V
set_option linter.unusedVariables false
set_option linter.unusedSimpArgs false
set_option maxRecDepth 20000
namespace Go.V
theorem fits_cut {i : D.Ins} {n : Int} {r : List Int} {k : Nat} (h : M.insOk i n = true) (hr : r.length = 32) (hk : k < 8) : M.Fits i (M.laneCut r k) := ⟨laneCut_len hr hk, n, h⟩
theorem wp.impl_Warp_advance.math (x : D.Warp) (p : List D.Ins) (h : M.impl_Warp_advance_pre x p) : wp.impl_Warp_advance x p (fun r => r = M.impl_Warp_advance x p) := by
  obtain ⟨t1, t2, t3, t4, t5, t6, t7, t8, t9⟩ := runs_top h
  have hx := h.2.2
  unfold wp.impl_Warp_advance
  rw [last_wrap (by omega)]
  refine ⟨by omega, ⟨t5, t6⟩, fun ls hls => ?_⟩
  have hls : ls = M.lanesOf (M.lastF x.Frames).Mask := hls
  have hmem : ∀ k ∈ ls, 0 ≤ k ∧ k ≤ 7 := fun k hk => lanes_in (m := (M.lastF x.Frames).Mask) (hls ▸ hk)
  have hlen : ls.length ≤ 8 := by rw [hls]; exact lanes_len _
  let G : Nat → List Int := fun k => (ls.take k).foldl (stepL (M.topIns p x) x.Number) x.Regs
  have hG : ∀ k, (G k).length = 32 := fun k => fold_len _ _ t4 fun j hj => hmem j (List.mem_of_mem_take hj)
  refine loop_n ls.length (fun k => ((k : Int), G k, ())) (fun _ => True) rfl trivial (fun k hk _ next hn => ?_) fun _ next => ?_
  · have hn := hn trivial
    have hm := hmem _ (rd_mem hk)
    have hGk := hG k
    have hnext : G (k + 1) = stepL (M.topIns p x) x.Number (G k) (rd ls (k : Int)) := by
      simp only [G]
      rw [List.take_add_one, List.getElem?_eq_getElem hk, Option.toList_some, List.foldl_append, ← rd_nat hk]
      rfl
    rw [hnext] at hn
    dsimp only
    generalize rd ls (k : Int) = l at *
    generalize G k = g at *
    have a1 : IntKind.wrap .i64 (l * 4) = l * 4 := w64 (by omega) (by omega)
    have a2 : IntKind.wrap .i64 ((IntKind.wrap .i64 (l + 1)) * 4) = l * 4 + 4 := by rw [w64 (x := l + 1) (by omega) (by omega), w64 (by omega) (by omega)]; omega
    have a3 : IntKind.wrap .i64 ((IntKind.wrap .i64 (x.Number * 8)) + l) = x.Number * 8 + l := by rw [w64 (x := x.Number * 8) (by omega) (by omega), w64 (by omega) (by omega)]
    rw [a1, a2, a3, up64 hk (by omega)]
    refine bcase_t (by simp; omega) ⟨by omega, ⟨hGk, hm⟩, ⟨?_, by omega, by omega⟩, fun r2 hr2 => ?_⟩
    · have := fits_cut (k := l.toNat) t7 hGk (by omega)
      unfold M.laneCut at this
      rw [show l.toNat * 4 + 4 = (l * 4 + 4).toNat by omega, show l.toNat * 4 = (l * 4).toNat by omega] at this
      exact this
    · rw [hr2]; exact hn
  · have hall : G ls.length = M.applyAll (M.topIns p x) x.Number (M.lastF x.Frames).Mask x.Regs := by
      simp only [G]
      rw [List.take_length, applyAll_fold t4, hls]
    dsimp only
    rw [hall]
    refine bcase_f (by simp) ?_
    have e1 : (((x.Frames.length : Nat) : Int) - 1).toNat = x.Frames.length - 1 := by omega
    have fin : ∀ pc, pc = M.turnPc p x → (⟨x.Number, x.Frames.set (((x.Frames.length : Nat) : Int) - 1).toNat ⟨pc, (M.lastF x.Frames).Stop, (M.lastF x.Frames).Mask⟩, M.applyAll (M.topIns p x) x.Number (M.lastF x.Frames).Mask x.Regs⟩ : D.Warp) = M.impl_Warp_advance x p := by
      rintro _ rfl
      unfold M.impl_Warp_advance M.advance M.setTop
      rw [e1]
    show bcase ((M.topIns p x).Op == 12) _ (bcase ((M.topIns p x).Op == 11) (bcase true _ _) (bcase ((M.topIns p x).Op == 10) _ (bcase false _ _)))
    refine bcase_mk (fun c1 => fin _ ?_) fun c1 => bcase_mk (fun c2 => bcase_t rfl (fin _ ?_)) fun c2 => bcase_mk (fun c3 => ⟨?_, fun z hz => ?_⟩) fun c3 => bcase_f rfl (fin _ ?_)
    · have c1 : (M.topIns p x).Op = 12 := by simpa using c1
      simp [M.turnPc, c1]
    · have c2 : (M.topIns p x).Op = 11 := by simpa using c2
      simp only [M.turnPc, c2]
      rfl
    · have c3 : (M.topIns p x).Op = 10 := by simpa using c3
      exact ⟨by show x.Frames.length ≤ 9223372036854775807; omega, applyAll_len t4, zero_reg t7 c3⟩
    · have c3 : (M.topIns p x).Op = 10 := by simpa using c3
      have hz : z = M.zeroMask x (M.topIns p x).A := by
        rw [hz, applyAll_branch t4 c3]; rfl
      show bcase (z == (M.lastF x.Frames).Mask) _ _
      rw [hz]
      refine bcase_mk (fun c4 => fin _ ?_) fun c4 => fin _ ?_
      · have c4 : M.zeroMask x (M.topIns p x).A = (M.lastF x.Frames).Mask := by simpa using c4
        unfold M.turnPc
        rw [if_neg (by omega), if_neg (by omega), if_pos ⟨c3, c4⟩]; rfl
      · have c4 : ¬ M.zeroMask x (M.topIns p x).A = (M.lastF x.Frames).Mask := by simpa using c4
        unfold M.turnPc
        rw [if_neg (by omega), if_neg (by omega), if_neg (fun hc => c4 hc.2)]
        exact w64 (x := M.topPc x + 1) (by omega) (by omega)
    · have c1 : ¬ (M.topIns p x).Op = 12 := by simpa using c1
      have c2 : ¬ (M.topIns p x).Op = 11 := by simpa using c2
      have c3 : ¬ (M.topIns p x).Op = 10 := by simpa using c3
      unfold M.turnPc
      rw [if_neg c1, if_neg c2, if_neg (fun hc => c3 hc.1)]
      exact w64 (x := M.topPc x + 1) (by omega) (by omega)
theorem has_branches {p : List D.Ins} {b : Int} (h : M.Branch p b) : M.has (M.branches p) b = true := by
  unfold M.has M.branches
  rw [if_pos h.1, List.any_eq_true]
  exact ⟨b, mem_idx.2 ⟨b.toNat, by have := h.2.2.1; have := h.2.1; omega, by have := h.2.1; omega, h.2.2.2⟩, by simp⟩
theorem wp.impl_Warp_separate.math (x : D.Warp) (p : List D.Ins) (h : M.impl_Warp_separate_pre x p) : wp.impl_Warp_separate x p (fun r => r = M.impl_Warp_separate x p) := by
  obtain ⟨hr, hs⟩ := h
  obtain ⟨t1, t2, t3, t4, t5, t6, t7, t8, t9⟩ := runs_top hr
  have hb := split_branch hr hs
  unfold wp.impl_Warp_separate
  rw [last_wrap (by omega), w64 (x := ((x.Frames.length : Nat) : Int) + 2) (by omega) (by omega)]
  refine bcase_mk (fun e => ?_) fun e => ⟨by omega, ⟨t5, t6⟩, ⟨by show x.Frames.length ≤ 9223372036854775807; omega, t4, zero_reg t7 hs.1⟩, fun z hz => ⟨prog_small hr.1, fun j hj => ⟨⟨t5, t6⟩, ?_⟩⟩⟩
  · have e : ¬ x.Frames.length ≤ 22 := by have := of_decide_eq_true e; omega
    unfold M.impl_Warp_separate
    rw [if_neg e]
  · have e : x.Frames.length ≤ 22 := by have := of_decide_eq_false e; omega
    have hj : j = M.joinB p (M.topPc x) := by
      rw [hj]
      show M.joinOf p (M.topPc x) = _
      unfold M.joinOf
      rw [if_pos (has_branches hb)]
    have hw : IntKind.wrap .i64 (M.topPc x + 1) = M.topPc x + 1 := w64 (by omega) (by omega)
    have key : ∀ y, y = M.separated p x → (true, y) = M.impl_Warp_separate x p := by
      rintro _ rfl
      unfold M.impl_Warp_separate
      rw [if_pos e]
    have e1 : (((x.Frames.length : Nat) : Int) - 1).toNat = x.Frames.length - 1 := by omega
    have fin : (true, (⟨x.Number, (x.Frames.set (((x.Frames.length : Nat) : Int) - 1).toNat ⟨j, (M.lastF x.Frames).Stop, (M.lastF x.Frames).Mask⟩) ++ [⟨IntKind.wrap .i64 (M.topPc x + 1), j, bitNot .i64 (M.lastF x.Frames).Mask z⟩, ⟨(M.topIns p x).B, j, z⟩], x.Regs⟩ : D.Warp)) = M.impl_Warp_separate x p := by
      refine key _ ?_
      rw [hw, hj, hz, e1]; rfl
    have hle : (x.Frames.set (((x.Frames.length : Nat) : Int) - 1).toNat ⟨j, (M.lastF x.Frames).Stop, (M.lastF x.Frames).Mask⟩).length + 2 ≤ 17179869184 := by rw [List.length_set]; omega
    exact ⟨⟨hle, fin⟩, ⟨⟨hle, fin⟩, ⟨hle, fin⟩, trivial⟩, trivial⟩
end Go.V
set_option linter.unusedVariables false
set_option linter.unusedSimpArgs false
set_option maxRecDepth 20000
set_option linter.unusedVariables false
set_option linter.unusedSimpArgs false
set_option maxRecDepth 20000
namespace Go.V
theorem goes_of {p : List D.Ins} {x : D.Warp} (h : M.Fine p x) (hl : M.spec_l13Local p x = true) : M.Goes p x := by
  refine ⟨⟨h.1, h.2, ?_⟩, hl⟩
  simp only [M.spec_l13Local, Bool.and_eq_true] at hl
  intro e
  rw [e] at hl
  simp at hl
theorem wp.impl_Warp_pass.math (x : D.Warp) (p : List D.Ins) (h : M.impl_Warp_pass_pre x p) : wp.impl_Warp_pass x p (fun r => r = M.impl_Warp_pass x p) := by
  obtain ⟨hp, hw⟩ := h
  unfold wp.impl_Warp_pass
  rw [empty_len0]
  refine bcase_mk (fun e => ?_) fun e => ?_
  · have : M.spec_l13Local p x = false := by simp [M.spec_l13Local, e]
    unfold M.impl_Warp_pass
    rw [if_neg (by rw [this]; simp)]
  have hx : x.Frames ≠ [] := by simpa using e
  have hr : M.Runs p x := ⟨hp, hw, hx⟩
  obtain ⟨t1, t2, t3, t4, t5, t6, t7, t8, t9⟩ := runs_top hr
  rw [last_wrap (by omega)]
  have hl : ∀ b, M.isLocal (M.topIns p x) = b → M.spec_l13Local p x = (b && (!M.splits p x || decide (x.Frames.length ≤ 22))) := fun b hb => by
    simp only [M.spec_l13Local, hb, e, Bool.not_false, Bool.true_and]
  have no : M.spec_l13Local p x = false → (false, x) = M.impl_Warp_pass x p := fun hf => by
    unfold M.impl_Warp_pass
    rw [if_neg (by rw [hf]; simp)]
  have yes : M.spec_l13Local p x = true → ∀ y, y = M.stepW p x → (true, y) = M.impl_Warp_pass x p := fun hf y hy => by
    unfold M.impl_Warp_pass
    rw [if_pos hf, hy]
  refine ⟨by omega, ⟨t5, t6⟩, fun b hb => bcase_mk (fun c => no ?_) fun c => ⟨hr, fun s hs => bcase_mk (fun c2 => ⟨⟨hr, ?_⟩, fun q hq => ?_⟩) fun c2 => ⟨hr, fun q hq => ⟨?_, fun d hd => ?_⟩⟩⟩⟩
  · have c : b = false := by simpa using c
    rw [hl b hb.symm, c]; rfl
  · exact (splits_iff (hs.symm.trans c2)).1
  · have c : b = true := by simpa using c
    have hsp : M.splits p x = true := hs.symm.trans c2
    have hl' := hl b hb.symm
    rw [c, hsp] at hl'
    simp only [Bool.true_and, Bool.not_true, Bool.false_or] at hl'
    rw [hq]
    unfold M.impl_Warp_separate
    by_cases h22 : x.Frames.length ≤ 22
    · rw [decide_eq_true h22] at hl'
      rw [if_pos h22]
      refine bcase_f rfl ⟨?_, fun d hd => yes hl' _ ?_⟩
      · show (M.separated p x).Frames.length ≤ 9223372036854775807
        simp only [M.separated, M.setTop, List.length_append, List.length_set, List.length_cons, List.length_nil]; omega
      · rw [hd]
        unfold M.stepW
        rw [if_pos hsp]; rfl
    · rw [decide_eq_false h22] at hl'
      rw [if_neg h22]
      exact bcase_t rfl (no hl')
  · rw [hq]
    show (M.setTop x.Frames _).length ≤ 9223372036854775807
    simp only [M.setTop, List.length_set]; omega
  · have c : b = true := by simpa using c
    have hsp : M.splits p x = false := by rw [← show s = M.splits p x from hs, c2]
    have hl' := hl b hb.symm
    rw [c, hsp] at hl'
    refine yes hl' _ ?_
    rw [hd, hq]
    unfold M.stepW
    rw [if_neg (by rw [hsp]; simp)]; rfl
theorem wp.impl_WarpOk.math (p : List D.Ins) (x : D.Warp) (h : M.impl_WarpOk_pre p x) : wp.impl_WarpOk p x (fun r => r = M.impl_WarpOk p x) := by
  obtain ⟨h1, h2⟩ := h
  refine ⟨h1, fun b hb => bcase_mk (fun e => ⟨h2, fun c hc => ?_⟩) fun e => ?_⟩
  · have : M.programOk p = true := hb.symm.trans e
    rw [hc]
    show M.warpOf p x = _
    unfold M.impl_WarpOk M.spec_WarpOk
    rw [this, Bool.true_and]
  · have : M.programOk p = false := hb.symm.trans e
    unfold M.impl_WarpOk M.spec_WarpOk
    rw [this, Bool.false_and]
theorem wAt_fine {p : List D.Ins} {x : D.Warp} (h : M.Fine p x) : ∀ k, (∀ j, j < k → M.spec_l13Local p (M.wAt p x j) = true) → M.Fine p (M.wAt p x k)
  | 0, _ => h
  | k + 1, hj => stepW_fine (goes_of (wAt_fine h k fun j hjk => hj j (by omega)) (hj k (by omega)))
def RunI (p : List D.Ins) (x : D.Warp) (n k : Nat) : Prop := M.Fine p (M.wAt p x k) ∧ (k ≤ n → M.runW p n x 0 = M.runW p (n - k) (M.wAt p x k) (k : Int))
theorem runI_zero {p : List D.Ins} {x : D.Warp} (h : M.Fine p x) (n : Nat) : RunI p x n 0 := ⟨h, fun _ => rfl⟩
theorem runI_go {p : List D.Ins} {x : D.Warp} {n k : Nat} (h : RunI p x n k) (hk : k < n) (hl : M.spec_l13Local p (M.wAt p x k) = true) : RunI p x n (k + 1) := by
  refine ⟨stepW_fine (goes_of h.1 hl), fun _ => ?_⟩
  rw [h.2 (by omega), show n - k = (n - (k + 1)) + 1 by omega]
  simp only [M.runW]
  rw [if_pos hl]; rfl
theorem runI_stop {p : List D.Ins} {x : D.Warp} {n k : Nat} (h : RunI p x n k) (hk : k < n) (hl : M.spec_l13Local p (M.wAt p x k) = false) : M.runW p n x 0 = (M.wAt p x k, (k : Int)) := by
  rw [h.2 (by omega), show n - k = (n - (k + 1)) + 1 by omega]
  simp only [M.runW]
  rw [if_neg (by rw [hl]; simp)]
theorem runI_end {p : List D.Ins} {x : D.Warp} {n : Nat} (h : RunI p x n n) : M.runW p n x 0 = (M.wAt p x n, (n : Int)) := by
  rw [h.2 (Nat.le_refl _), Nat.sub_self]; rfl
theorem wp.impl_RunWarp.math (p : List D.Ins) (x : D.Warp) (steps : Int) (h : M.impl_RunWarp_pre p x steps) : wp.impl_RunWarp p x steps (fun r => r = M.impl_RunWarp p x steps) := by
  obtain ⟨h1, h2⟩ := h
  have hWL : M.WLong x := ⟨Nat.le_trans h2.1 (by omega), Nat.le_trans h2.2 (by omega)⟩
  refine ⟨h2, fun y hy => ?_⟩
  have hy : y = x := hy
  subst hy
  have no : (M.isQuiet p && (M.spec_WarpOk p y && M.isIn steps 0 8000)) = false → (y, (-1 : Int)) = M.impl_RunWarp p y steps := fun hf => by
    unfold M.impl_RunWarp M.runWarp
    rw [if_neg (by rw [hf]; simp)]
  refine ⟨h1, fun a ha => bcase_mk (fun e => no ?_) fun e => ⟨⟨h1, hWL⟩, fun b hb => bcase_mk (fun e2 => no ?_) fun e2 => fun c hc => bcase_mk (fun e3 => no ?_) fun e3 => ?_⟩⟩
  · have : M.isQuiet p = false := by rw [← show a = M.isQuiet p from ha]; simpa using e
    rw [this]; rfl
  · have : M.spec_WarpOk p y = false := by rw [← show b = M.spec_WarpOk p y from hb]; simpa using e2
    rw [this, Bool.false_and, Bool.and_false]
  · have : M.isIn steps 0 8000 = false := by rw [← show c = M.isIn steps 0 8000 from hc]; simpa using e3
    rw [this, Bool.and_false, Bool.and_false]
  · have q1 : M.isQuiet p = true := by rw [← show a = M.isQuiet p from ha]; simpa using e
    have q2 : M.spec_WarpOk p y = true := by rw [← show b = M.spec_WarpOk p y from hb]; simpa using e2
    have q3 : M.isIn steps 0 8000 = true := by rw [← show c = M.isIn steps 0 8000 from hc]; simpa using e3
    have hF : M.Fine p y := by have := q2; simp only [M.spec_WarpOk, Bool.and_eq_true] at this; exact this
    have hM : M.impl_RunWarp p y steps = M.runW p steps.toNat y 0 := by
      unfold M.impl_RunWarp M.runWarp
      rw [if_pos (by rw [q1, q2, q3]; rfl)]
    rw [hM]
    simp only [M.isIn, Bool.and_eq_true, decide_eq_true_eq] at q3
    obtain ⟨n, rfl⟩ := Int.eq_ofNat_of_zero_le q3.1
    rw [Int.toNat_natCast]
    refine loop_n n (fun k => ((k : Int), (M.wAt p y k).Number, (M.wAt p y k).Frames, (M.wAt p y k).Regs, ())) (RunI p y n) rfl (runI_zero hF n) (fun k hk hI next hn => ?_) fun hI next => bcase_f (by simp) (runI_end hI).symm
    dsimp only
    refine bcase_t (by simp; omega) ⟨hI.1, fun r hr => ?_⟩
    rw [hr]
    unfold M.impl_Warp_pass
    cases hl : M.spec_l13Local p (M.wAt p y k) with
    | true =>
      have hn := hn (runI_go hI hk hl)
      rw [if_pos rfl, up64 hk (by omega)]
      exact bcase_t rfl hn
    | false =>
      rw [if_neg (by simp)]
      exact bcase_f rfl (runI_stop hI hk hl).symm
theorem quiet_prog {p : List D.Ins} (h : M.isQuiet p = true) : M.programOk p = true := by
  simp only [M.isQuiet, Bool.and_eq_true] at h; exact h.1
theorem newWarp_fine {p : List D.Ins} (hp : M.programOk p = true) {w : Int} (hw : M.isIn w 0 2 = true) : M.Fine p (M.newWarp p w) := by
  refine ⟨hp, ?_⟩
  have hz : (List.replicate 32 (0 : Int)).all M.isWord = true := by rfl
  unfold M.warpOf
  have hN : (M.newWarp p w).Number = w := rfl
  have hR : (M.newWarp p w).Regs = List.replicate 32 0 := rfl
  have hF : (M.newWarp p w).Frames = if p.length > 0 then [⟨0, p.length, 255⟩] else [] := rfl
  rw [hN, hR, hF, hw, hz, List.length_replicate]
  by_cases h0 : p.length > 0
  · rw [if_pos h0]
    have hn : ((p.length : Nat) : Int) ≠ 0 := by omega
    have h1 : M.frameOk p.length ⟨0, p.length, 255⟩ = true := by
      simp only [M.frameOk, M.isIn, M.isMask, Bool.and_eq_true, decide_eq_true_eq, bne_iff_ne]; omega
    have hl : M.lastF [(⟨0, p.length, 255⟩ : D.Frame)] = ⟨0, p.length, 255⟩ := rfl
    have hr : rd [(⟨0, p.length, 255⟩ : D.Frame)] 0 = ⟨0, p.length, 255⟩ := rfl
    have h2 : M.endsOk [(⟨0, p.length, 255⟩ : D.Frame)] p.length = true := by
      unfold M.endsOk
      rw [hl, hr]
      simp only [Bool.and_eq_true, decide_eq_true_eq, bne_iff_ne, beq_iff_eq, List.length_cons, List.length_nil]
      exact ⟨by omega, fun h => hn h.symm, fun h => hn h.symm, trivial, trivial⟩
    have : M.areFrames [(⟨0, p.length, 255⟩ : D.Frame)] p.length = true := by
      unfold M.areFrames
      rw [h2]; simp [h1]
    rw [this]; rfl
  · rw [if_neg h0]; rfl
theorem newWarp_fit (p : List D.Ins) (w : Int) : M.WFit (M.newWarp p w) := by
  refine ⟨?_, ?_⟩
  · show (if p.length > 0 then [(⟨0, p.length, 255⟩ : D.Frame)] else []).length ≤ _
    split <;> simp
  · show (List.replicate 32 (0 : Int)).length ≤ _
    simp
theorem wp.impl_WarpResult.math (p : List D.Ins) (w : Int) (h : M.impl_WarpResult_pre p w) : wp.impl_WarpResult p w (fun r => r = M.impl_WarpResult p w) := by
  have no : (M.isQuiet p && M.isIn w 0 2) = false → (M.noWarp, (0 : Int), false) = M.impl_WarpResult p w := fun hf => by
    unfold M.impl_WarpResult M.warpResult
    rw [if_neg (by rw [hf]; simp)]
  refine ⟨h, fun a ha => bcase_mk (fun e => no ?_) fun e => fun b hb => bcase_mk (fun e2 => no ?_) fun e2 => ⟨trivial, fun y hy => ?_⟩⟩
  · have : M.isQuiet p = false := by rw [← show a = M.isQuiet p from ha]; simpa using e
    rw [this]; rfl
  · have : M.isIn w 0 2 = false := by rw [← show b = M.isIn w 0 2 from hb]; simpa using e2
    rw [this, Bool.and_false]
  · have q1 : M.isQuiet p = true := by rw [← show a = M.isQuiet p from ha]; simpa using e
    have q2 : M.isIn w 0 2 = true := by rw [← show b = M.isIn w 0 2 from hb]; simpa using e2
    have hy : y = M.newWarp p w := hy
    have hF := newWarp_fine (quiet_prog q1) q2
    have hfit := newWarp_fit p w
    rw [hy]
    refine ⟨⟨h, hfit⟩, fun r hr => ?_⟩
    have hr : r = M.runW p 8000 (M.newWarp p w) 0 := by
      rw [hr]
      show M.runWarp p _ 8000 = _
      unfold M.runWarp
      have hok : M.spec_WarpOk p (M.newWarp p w) = true := by
        unfold M.spec_WarpOk
        rw [hF.1, hF.2]; rfl
      rw [if_pos (by rw [q1, hok]; rfl)]; rfl
    rw [empty_len]
    unfold M.impl_WarpResult M.warpResult
    rw [if_pos (by rw [q1, q2]; rfl), ← hr]
    refine bcase_mk (fun e3 => ?_) fun e3 => ?_
    · rw [if_neg (by simpa using e3)]; rfl
    · rw [if_pos (by simpa using e3)]
end Go.V
set_option linter.unusedVariables false
set_option linter.unusedVariables false
set_option linter.unusedSimpArgs false
set_option maxRecDepth 20000
namespace Go.V
theorem fine_small {p : List D.Ins} {x : D.Warp} (h : M.Fine p x) : x.Frames.length ≤ 24 ∧ x.Regs.length = 32 := by
  have hw := h.2
  simp only [M.warpOf, M.areFrames, Bool.and_eq_true, Bool.or_eq_true, beq_iff_eq] at hw
  obtain ⟨h1, h2, h3, h4, h5⟩ := hw
  refine ⟨?_, h2⟩
  rcases h5 with h5 | h5
  · have : x.Frames = [] := by simpa using h5
    rw [this]; simp
  · simp only [M.endsOk, Bool.and_eq_true, decide_eq_true_eq] at h5
    exact h5.1
end Go.V
set_option linter.unusedVariables false
set_option linter.unusedVariables false
set_option linter.unusedSimpArgs false
set_option maxRecDepth 20000
namespace Go.V
theorem wAt_shift (p : List D.Ins) (x : D.Warp) : ∀ k, M.wAt p (M.stepW p x) k = M.wAt p x (k + 1)
  | 0 => rfl
  | k + 1 => by
    show M.stepW p (M.wAt p (M.stepW p x) k) = M.stepW p (M.wAt p x (k + 1))
    rw [wAt_shift p x k]
theorem runW_trace {p : List D.Ins} : ∀ (n : Nat) (x : D.Warp) (c : Int), ∃ m : Nat, m ≤ n ∧ M.runW p n x c = (M.wAt p x m, c + (m : Int)) ∧ ∀ j, j < m → M.spec_l13Local p (M.wAt p x j) = true
  | 0, x, c => ⟨0, Nat.le_refl _, by simp [M.runW, M.wAt], fun j hj => by omega⟩
  | n + 1, x, c => by
    simp only [M.runW]
    by_cases h : M.spec_l13Local p x = true
    · rw [if_pos h]
      obtain ⟨m, h1, h2, h3⟩ := runW_trace n (M.stepW p x) (c + 1)
      refine ⟨m + 1, by omega, ?_, fun j hj => ?_⟩
      · rw [h2, wAt_shift]
        refine Prod.ext rfl ?_
        show c + 1 + (m : Int) = c + ((m + 1 : Nat) : Int)
        omega
      · cases j with
        | zero => exact h
        | succ j => rw [← wAt_shift]; exact h3 j (by omega)
    · rw [if_neg h]
      exact ⟨0, by omega, by simp [M.wAt], fun j hj => by omega⟩
theorem result_trace {p : List D.Ins} {w : Int} (h : (M.warpResult p w).2.2 = true) :
    M.isQuiet p = true ∧ M.isIn w 0 2 = true ∧ ∃ m : Nat, m ≤ 8000 ∧ (M.warpResult p w).1 = M.wAt p (M.newWarp p w) m ∧ (M.warpResult p w).2.1 = (m : Int) ∧ (∀ j, j < m → M.spec_l13Local p (M.wAt p (M.newWarp p w) j) = true) ∧ (M.wAt p (M.newWarp p w) m).Frames = [] := by
  obtain ⟨m, h1, h2, h3⟩ := runW_trace (p := p) 8000 (M.newWarp p w) 0
  unfold M.warpResult at h ⊢
  rw [h2] at h ⊢
  split at h
  · rename_i hc
    rw [if_pos hc]
    simp only [Bool.and_eq_true] at hc
    split at h
    · rename_i he
      rw [if_pos he]
      exact ⟨hc.1, hc.2, m, h1, rfl, by show (0 : Int) + (m : Int) = m; omega, h3, by simpa using he⟩
    · cases h
  · cases h
theorem trace_fine {p : List D.Ins} {w : Int} (hq : M.isQuiet p = true) (hw : M.isIn w 0 2 = true) {m : Nat} (h : ∀ j, j < m → M.spec_l13Local p (M.wAt p (M.newWarp p w) j) = true) {k : Nat} (hk : k ≤ m) : M.Fine p (M.wAt p (M.newWarp p w) k) :=
  wAt_fine (newWarp_fine (quiet_prog hq) hw) k fun j hj => h j (by omega)
end Go.V
set_option linter.unusedVariables false
namespace Go.V
def wp.math_bits_OnesCount64 (x0 : Int) (Q : Int → Prop) : Prop :=
  Q (bitAnd .i64 (IntKind.wrap .i64 (IntKind.wrap .u64 ((IntKind.wrap .u64 ((IntKind.wrap .u64 ((bitAnd .u64 (IntKind.wrap .u64 ((Int.fdiv (IntKind.wrap .u64 ((bitAnd .u64 (Int.fdiv (IntKind.wrap .u64 ((bitAnd .u64 (Int.fdiv x0 (2 ^ (min ((1 : Int).toNat) (IntKind.bits .u64)))) 6148914691236517205) + (bitAnd .u64 x0 6148914691236517205))) (2 ^ (min ((2 : Int).toNat) (IntKind.bits .u64)))) 3689348814741910323) + (bitAnd .u64 (IntKind.wrap .u64 ((bitAnd .u64 (Int.fdiv x0 (2 ^ (min ((1 : Int).toNat) (IntKind.bits .u64)))) 6148914691236517205) + (bitAnd .u64 x0 6148914691236517205))) 3689348814741910323))) (2 ^ (min ((4 : Int).toNat) (IntKind.bits .u64)))) + (IntKind.wrap .u64 ((bitAnd .u64 (Int.fdiv (IntKind.wrap .u64 ((bitAnd .u64 (Int.fdiv x0 (2 ^ (min ((1 : Int).toNat) (IntKind.bits .u64)))) 6148914691236517205) + (bitAnd .u64 x0 6148914691236517205))) (2 ^ (min ((2 : Int).toNat) (IntKind.bits .u64)))) 3689348814741910323) + (bitAnd .u64 (IntKind.wrap .u64 ((bitAnd .u64 (Int.fdiv x0 (2 ^ (min ((1 : Int).toNat) (IntKind.bits .u64)))) 6148914691236517205) + (bitAnd .u64 x0 6148914691236517205))) 3689348814741910323))))) 1085102592571150095) + (Int.fdiv (bitAnd .u64 (IntKind.wrap .u64 ((Int.fdiv (IntKind.wrap .u64 ((bitAnd .u64 (Int.fdiv (IntKind.wrap .u64 ((bitAnd .u64 (Int.fdiv x0 (2 ^ (min ((1 : Int).toNat) (IntKind.bits .u64)))) 6148914691236517205) + (bitAnd .u64 x0 6148914691236517205))) (2 ^ (min ((2 : Int).toNat) (IntKind.bits .u64)))) 3689348814741910323) + (bitAnd .u64 (IntKind.wrap .u64 ((bitAnd .u64 (Int.fdiv x0 (2 ^ (min ((1 : Int).toNat) (IntKind.bits .u64)))) 6148914691236517205) + (bitAnd .u64 x0 6148914691236517205))) 3689348814741910323))) (2 ^ (min ((4 : Int).toNat) (IntKind.bits .u64)))) + (IntKind.wrap .u64 ((bitAnd .u64 (Int.fdiv (IntKind.wrap .u64 ((bitAnd .u64 (Int.fdiv x0 (2 ^ (min ((1 : Int).toNat) (IntKind.bits .u64)))) 6148914691236517205) + (bitAnd .u64 x0 6148914691236517205))) (2 ^ (min ((2 : Int).toNat) (IntKind.bits .u64)))) 3689348814741910323) + (bitAnd .u64 (IntKind.wrap .u64 ((bitAnd .u64 (Int.fdiv x0 (2 ^ (min ((1 : Int).toNat) (IntKind.bits .u64)))) 6148914691236517205) + (bitAnd .u64 x0 6148914691236517205))) 3689348814741910323))))) 1085102592571150095) (2 ^ (min ((8 : Int).toNat) (IntKind.bits .u64)))))) + (Int.fdiv (IntKind.wrap .u64 ((bitAnd .u64 (IntKind.wrap .u64 ((Int.fdiv (IntKind.wrap .u64 ((bitAnd .u64 (Int.fdiv (IntKind.wrap .u64 ((bitAnd .u64 (Int.fdiv x0 (2 ^ (min ((1 : Int).toNat) (IntKind.bits .u64)))) 6148914691236517205) + (bitAnd .u64 x0 6148914691236517205))) (2 ^ (min ((2 : Int).toNat) (IntKind.bits .u64)))) 3689348814741910323) + (bitAnd .u64 (IntKind.wrap .u64 ((bitAnd .u64 (Int.fdiv x0 (2 ^ (min ((1 : Int).toNat) (IntKind.bits .u64)))) 6148914691236517205) + (bitAnd .u64 x0 6148914691236517205))) 3689348814741910323))) (2 ^ (min ((4 : Int).toNat) (IntKind.bits .u64)))) + (IntKind.wrap .u64 ((bitAnd .u64 (Int.fdiv (IntKind.wrap .u64 ((bitAnd .u64 (Int.fdiv x0 (2 ^ (min ((1 : Int).toNat) (IntKind.bits .u64)))) 6148914691236517205) + (bitAnd .u64 x0 6148914691236517205))) (2 ^ (min ((2 : Int).toNat) (IntKind.bits .u64)))) 3689348814741910323) + (bitAnd .u64 (IntKind.wrap .u64 ((bitAnd .u64 (Int.fdiv x0 (2 ^ (min ((1 : Int).toNat) (IntKind.bits .u64)))) 6148914691236517205) + (bitAnd .u64 x0 6148914691236517205))) 3689348814741910323))))) 1085102592571150095) + (Int.fdiv (bitAnd .u64 (IntKind.wrap .u64 ((Int.fdiv (IntKind.wrap .u64 ((bitAnd .u64 (Int.fdiv (IntKind.wrap .u64 ((bitAnd .u64 (Int.fdiv x0 (2 ^ (min ((1 : Int).toNat) (IntKind.bits .u64)))) 6148914691236517205) + (bitAnd .u64 x0 6148914691236517205))) (2 ^ (min ((2 : Int).toNat) (IntKind.bits .u64)))) 3689348814741910323) + (bitAnd .u64 (IntKind.wrap .u64 ((bitAnd .u64 (Int.fdiv x0 (2 ^ (min ((1 : Int).toNat) (IntKind.bits .u64)))) 6148914691236517205) + (bitAnd .u64 x0 6148914691236517205))) 3689348814741910323))) (2 ^ (min ((4 : Int).toNat) (IntKind.bits .u64)))) + (IntKind.wrap .u64 ((bitAnd .u64 (Int.fdiv (IntKind.wrap .u64 ((bitAnd .u64 (Int.fdiv x0 (2 ^ (min ((1 : Int).toNat) (IntKind.bits .u64)))) 6148914691236517205) + (bitAnd .u64 x0 6148914691236517205))) (2 ^ (min ((2 : Int).toNat) (IntKind.bits .u64)))) 3689348814741910323) + (bitAnd .u64 (IntKind.wrap .u64 ((bitAnd .u64 (Int.fdiv x0 (2 ^ (min ((1 : Int).toNat) (IntKind.bits .u64)))) 6148914691236517205) + (bitAnd .u64 x0 6148914691236517205))) 3689348814741910323))))) 1085102592571150095) (2 ^ (min ((8 : Int).toNat) (IntKind.bits .u64)))))) (2 ^ (min ((16 : Int).toNat) (IntKind.bits .u64)))))) + (Int.fdiv (IntKind.wrap .u64 ((IntKind.wrap .u64 ((bitAnd .u64 (IntKind.wrap .u64 ((Int.fdiv (IntKind.wrap .u64 ((bitAnd .u64 (Int.fdiv (IntKind.wrap .u64 ((bitAnd .u64 (Int.fdiv x0 (2 ^ (min ((1 : Int).toNat) (IntKind.bits .u64)))) 6148914691236517205) + (bitAnd .u64 x0 6148914691236517205))) (2 ^ (min ((2 : Int).toNat) (IntKind.bits .u64)))) 3689348814741910323) + (bitAnd .u64 (IntKind.wrap .u64 ((bitAnd .u64 (Int.fdiv x0 (2 ^ (min ((1 : Int).toNat) (IntKind.bits .u64)))) 6148914691236517205) + (bitAnd .u64 x0 6148914691236517205))) 3689348814741910323))) (2 ^ (min ((4 : Int).toNat) (IntKind.bits .u64)))) + (IntKind.wrap .u64 ((bitAnd .u64 (Int.fdiv (IntKind.wrap .u64 ((bitAnd .u64 (Int.fdiv x0 (2 ^ (min ((1 : Int).toNat) (IntKind.bits .u64)))) 6148914691236517205) + (bitAnd .u64 x0 6148914691236517205))) (2 ^ (min ((2 : Int).toNat) (IntKind.bits .u64)))) 3689348814741910323) + (bitAnd .u64 (IntKind.wrap .u64 ((bitAnd .u64 (Int.fdiv x0 (2 ^ (min ((1 : Int).toNat) (IntKind.bits .u64)))) 6148914691236517205) + (bitAnd .u64 x0 6148914691236517205))) 3689348814741910323))))) 1085102592571150095) + (Int.fdiv (bitAnd .u64 (IntKind.wrap .u64 ((Int.fdiv (IntKind.wrap .u64 ((bitAnd .u64 (Int.fdiv (IntKind.wrap .u64 ((bitAnd .u64 (Int.fdiv x0 (2 ^ (min ((1 : Int).toNat) (IntKind.bits .u64)))) 6148914691236517205) + (bitAnd .u64 x0 6148914691236517205))) (2 ^ (min ((2 : Int).toNat) (IntKind.bits .u64)))) 3689348814741910323) + (bitAnd .u64 (IntKind.wrap .u64 ((bitAnd .u64 (Int.fdiv x0 (2 ^ (min ((1 : Int).toNat) (IntKind.bits .u64)))) 6148914691236517205) + (bitAnd .u64 x0 6148914691236517205))) 3689348814741910323))) (2 ^ (min ((4 : Int).toNat) (IntKind.bits .u64)))) + (IntKind.wrap .u64 ((bitAnd .u64 (Int.fdiv (IntKind.wrap .u64 ((bitAnd .u64 (Int.fdiv x0 (2 ^ (min ((1 : Int).toNat) (IntKind.bits .u64)))) 6148914691236517205) + (bitAnd .u64 x0 6148914691236517205))) (2 ^ (min ((2 : Int).toNat) (IntKind.bits .u64)))) 3689348814741910323) + (bitAnd .u64 (IntKind.wrap .u64 ((bitAnd .u64 (Int.fdiv x0 (2 ^ (min ((1 : Int).toNat) (IntKind.bits .u64)))) 6148914691236517205) + (bitAnd .u64 x0 6148914691236517205))) 3689348814741910323))))) 1085102592571150095) (2 ^ (min ((8 : Int).toNat) (IntKind.bits .u64)))))) + (Int.fdiv (IntKind.wrap .u64 ((bitAnd .u64 (IntKind.wrap .u64 ((Int.fdiv (IntKind.wrap .u64 ((bitAnd .u64 (Int.fdiv (IntKind.wrap .u64 ((bitAnd .u64 (Int.fdiv x0 (2 ^ (min ((1 : Int).toNat) (IntKind.bits .u64)))) 6148914691236517205) + (bitAnd .u64 x0 6148914691236517205))) (2 ^ (min ((2 : Int).toNat) (IntKind.bits .u64)))) 3689348814741910323) + (bitAnd .u64 (IntKind.wrap .u64 ((bitAnd .u64 (Int.fdiv x0 (2 ^ (min ((1 : Int).toNat) (IntKind.bits .u64)))) 6148914691236517205) + (bitAnd .u64 x0 6148914691236517205))) 3689348814741910323))) (2 ^ (min ((4 : Int).toNat) (IntKind.bits .u64)))) + (IntKind.wrap .u64 ((bitAnd .u64 (Int.fdiv (IntKind.wrap .u64 ((bitAnd .u64 (Int.fdiv x0 (2 ^ (min ((1 : Int).toNat) (IntKind.bits .u64)))) 6148914691236517205) + (bitAnd .u64 x0 6148914691236517205))) (2 ^ (min ((2 : Int).toNat) (IntKind.bits .u64)))) 3689348814741910323) + (bitAnd .u64 (IntKind.wrap .u64 ((bitAnd .u64 (Int.fdiv x0 (2 ^ (min ((1 : Int).toNat) (IntKind.bits .u64)))) 6148914691236517205) + (bitAnd .u64 x0 6148914691236517205))) 3689348814741910323))))) 1085102592571150095) + (Int.fdiv (bitAnd .u64 (IntKind.wrap .u64 ((Int.fdiv (IntKind.wrap .u64 ((bitAnd .u64 (Int.fdiv (IntKind.wrap .u64 ((bitAnd .u64 (Int.fdiv x0 (2 ^ (min ((1 : Int).toNat) (IntKind.bits .u64)))) 6148914691236517205) + (bitAnd .u64 x0 6148914691236517205))) (2 ^ (min ((2 : Int).toNat) (IntKind.bits .u64)))) 3689348814741910323) + (bitAnd .u64 (IntKind.wrap .u64 ((bitAnd .u64 (Int.fdiv x0 (2 ^ (min ((1 : Int).toNat) (IntKind.bits .u64)))) 6148914691236517205) + (bitAnd .u64 x0 6148914691236517205))) 3689348814741910323))) (2 ^ (min ((4 : Int).toNat) (IntKind.bits .u64)))) + (IntKind.wrap .u64 ((bitAnd .u64 (Int.fdiv (IntKind.wrap .u64 ((bitAnd .u64 (Int.fdiv x0 (2 ^ (min ((1 : Int).toNat) (IntKind.bits .u64)))) 6148914691236517205) + (bitAnd .u64 x0 6148914691236517205))) (2 ^ (min ((2 : Int).toNat) (IntKind.bits .u64)))) 3689348814741910323) + (bitAnd .u64 (IntKind.wrap .u64 ((bitAnd .u64 (Int.fdiv x0 (2 ^ (min ((1 : Int).toNat) (IntKind.bits .u64)))) 6148914691236517205) + (bitAnd .u64 x0 6148914691236517205))) 3689348814741910323))))) 1085102592571150095) (2 ^ (min ((8 : Int).toNat) (IntKind.bits .u64)))))) (2 ^ (min ((16 : Int).toNat) (IntKind.bits .u64)))))) (2 ^ (min ((32 : Int).toNat) (IntKind.bits .u64))))))) 127)
def wp.math_bits_OnesCount (x0 : Int) (Q : Int → Prop) : Prop :=
  (M.math_bits_OnesCount64_pre x0 ∧ ∀ r21, r21 = M.math_bits_OnesCount64 x0 → Q r21)
def wp.impl_CountLanes (x0 : Int) (Q : Int → Prop) : Prop :=
  (∀ r21, r21 = M.impl_IsMask x0 → bcase (!r21) (Q (-1)) ((M.math_bits_OnesCount_pre (IntKind.wrap .u64 x0) ∧ ∀ r26, r26 = M.math_bits_OnesCount (IntKind.wrap .u64 x0) → Q r26)))
def wp.impl_CostOf_1 (s0 : D.Warp) (s1 : D.Cost) (xs2 : List D.Ins) (Q : D.Cost → Prop) : Prop :=
  bcase (((s0.Frames.length : Nat) : Int) == 0) (Q (⟨s1.Steps, s1.Active, s1.Splits⟩ : D.Cost)) ((M.impl_ActiveMask_pre s0 ∧ ∀ r26, r26 = M.impl_ActiveMask s0 → (M.impl_CountLanes_pre r26 ∧ ∀ r31, r31 = M.impl_CountLanes r26 → (M.impl_Warp_splits_pre s0 xs2 ∧ ∀ r38, r38 = M.impl_Warp_splits s0 xs2 → bcase r38 (Q (⟨(IntKind.wrap .i64 (s1.Steps + 1)), (IntKind.wrap .i64 (s1.Active + r31)), (IntKind.wrap .i64 (s1.Splits + 1))⟩ : D.Cost)) (Q (⟨(IntKind.wrap .i64 (s1.Steps + 1)), (IntKind.wrap .i64 (s1.Active + r31)), s1.Splits⟩ : D.Cost))))))
def wp.impl_visit_b (xs0 : List D.Ins) (x1 : Int) (s2c0 : D.Cost) (xs2c1 : List D.Ins) (Q : (Bool × D.Cost) → Prop) : Prop :=
  (M.impl_WarpResult_pre xs0 x1 ∧ ∀ r21, r21 = M.impl_WarpResult xs0 x1 → bcase (!r21.2.2) (Q (false, (⟨s2c0.Steps, s2c0.Active, s2c0.Splits⟩ : D.Cost))) ((M.impl_newWarp_pre xs0 x1 ∧ ∀ r34, r34 = M.impl_newWarp xs0 x1 → LoopP (σ := Int × Int × Int × Int × Int × (List D.Frame) × (List Int) × Unit) (fun (p106 : Int × Int × Int × Int × Int × (List D.Frame) × (List Int) × Unit) next81 => match p106 with | (i67, i68, i69, i70, i71, xs72, xs75, _) => bcase (decide (i67 < r21.2.1)) ((M.impl_CostOf_1_pre (⟨i71, xs72, xs75⟩ : D.Warp) (⟨i68, i69, i70⟩ : D.Cost) xs2c1 ∧ ∀ r83, r83 = M.impl_CostOf_1 (⟨i71, xs72, xs75⟩ : D.Warp) (⟨i68, i69, i70⟩ : D.Cost) xs2c1 → (M.impl_Warp_pass_pre (⟨i71, xs72, xs75⟩ : D.Warp) xs0 ∧ ∀ r88, r88 = M.impl_Warp_pass (⟨i71, xs72, xs75⟩ : D.Warp) xs0 → next81 ((IntKind.wrap .i64 (i67 + 1)), r83.Steps, r83.Active, r83.Splits, r88.2.Number, r88.2.Frames, r88.2.Regs, ())))) ((M.impl_CostOf_1_pre (⟨i71, xs72, xs75⟩ : D.Warp) (⟨i68, i69, i70⟩ : D.Cost) xs2c1 ∧ ∀ r100, r100 = M.impl_CostOf_1 (⟨i71, xs72, xs75⟩ : D.Warp) (⟨i68, i69, i70⟩ : D.Cost) xs2c1 → Q (true, (⟨r100.Steps, r100.Active, r100.Splits⟩ : D.Cost))))) (0, s2c0.Steps, s2c0.Active, s2c0.Splits, r34.Number, r34.Frames, r34.Regs, ()))))
def wp.impl_CostOf (xs0 : List D.Ins) (x1 : Int) (Q : (D.Cost × Bool) → Prop) : Prop :=
  (M.impl_visit_b_pre xs0 x1 (⟨0, 0, 0⟩ : D.Cost) xs0 ∧ ∀ r29, r29 = M.impl_visit_b xs0 x1 (⟨0, 0, 0⟩ : D.Cost) xs0 → bcase (!r29.1) (Q ((⟨0, 0, 0⟩ : D.Cost), false)) (Q ((⟨r29.2.Steps, r29.2.Active, r29.2.Splits⟩ : D.Cost), true)))
end Go.V
