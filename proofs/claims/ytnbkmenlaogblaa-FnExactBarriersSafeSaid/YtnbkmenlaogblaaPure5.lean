import Derived.Test.YtnbkmenlaogblaaPure4
set_option linter.unusedVariables false
/-! the flow graph of a program -/
namespace Go.V.M
def PSmall (p : List D.Ins) : Prop := p.length ≤ 2097152
def Row34 {α : Type} (l : List α) : Prop := l.length ≤ 17179869183
/-- the numbers below n at which g holds -/
def idx (g : Int → Bool) : Nat → List Int
  | 0 => []
  | k + 1 => if g (k : Int) then idx g k ++ [(k : Int)] else idx g k
def isBr (p : List D.Ins) (k : Int) : Bool := (rd p k).Op == 10 && (rd p k).B != k + 1
def branches (p : List D.Ins) : List Int := if programOk p then idx (isBr p) p.length else []
def others (l : List Int) (n : Int) : List Int := l.filter fun x => x != n
def has (l : List Int) (n : Int) : Bool := l.any fun y => n == y
def nodeIn (p : List D.Ins) (k : Int) : Prop := 0 ≤ k ∧ k ≤ ((p.length : Nat) : Int)
def Node (p : List D.Ins) (k : Int) : Prop := programOk p = true ∧ nodeIn p k
def isNode (p : List D.Ins) (k : Int) : Bool := programOk p && isIn k 0 p.length
def putTwo (a b : Int) : List Int := if b < a then [b, a] else if b = a then [a] else [a, b]
def nextOf (p : List D.Ins) (k : Int) : List Int :=
  if k = p.length then [] else if (rd p k).Op = 12 then [((p.length : Nat) : Int)] else if (rd p k).Op = 11 then [(rd p k).B] else if (rd p k).Op = 10 then putTwo (k + 1) (rd p k).B else [k + 1]
def bfs (p : List D.Ins) (wo : Int) : Nat → List Int → List Bool → List Bool
  | 0, _, seen => seen
  | _ + 1, [], seen => seen
  | f + 1, k :: work, seen => if k = wo ∨ rd seen k = true then bfs p wo f work seen else bfs p wo f (work ++ nextOf p k) (seen.set k.toNat true)
def reached (p : List D.Ins) (frm : List Int) (wo : Int) : List Bool := bfs p wo (3 * (p.length + 1) + frm.length) frm (List.replicate (p.length + 1) false)
def exitB (p : List D.Ins) (k : Int) : Bool := rd (reached p [k] (-1)) p.length
def afterB (p : List D.Ins) (k later : Int) : Bool := !rd (reached p [k] later) p.length
def aftersOf (p : List D.Ins) (k : Int) : List Int := if isNode p k && exitB p k then idx (afterB p k) (p.length + 1) else []
def firstS (p : List D.Ins) (all : List Int) : List Int → Int
  | [] => -1
  | x :: l => if all.all (afterB p x) then x else firstS p all l
def firstI (p : List D.Ins) (all : List Int) : List Int → Int
  | [] => -1
  | x :: l => if all.all (fun z => exitB p x && afterB p x z) then x else firstI p all l
def firstAfter (p : List D.Ins) (k : Int) : Int := firstS p (others (aftersOf p k) k) (others (aftersOf p k) k)
def joinB (p : List D.Ins) (b : Int) : Int := if exitB p (b + 1) && exitB p (rd p b).B then firstAfter p b else p.length
def marked (seen : List Bool) : List Int := idx (fun k => rd seen k) seen.length
def insideOf (p : List D.Ins) (b : Int) : List Int := if has (branches p) b then marked (reached p (nextOf p b) (joinB p b)) else []
def noBar (p : List D.Ins) (k : Int) : Bool := !(decide (k < ((p.length : Nat) : Int)) && (rd p k).Op == 16)
def barriersSafe (p : List D.Ins) : Bool := programOk p && (branches p).all fun b => (insideOf p b).all (noBar p)
/-! the program's functions -/
def spec_BranchesOf := branches
def spec_BranchesOf_pre (p : List D.Ins) : Prop := PSmall p
def spec_l08Others := others
def spec_l08Others_pre (l : List Int) (n : Int) : Prop := Row34 l
def spec_l08Has := has
def spec_l08Has_pre (l : List Int) (n : Int) : Prop := Row34 l
def spec_l07Ok := isNode
def spec_l07Ok_pre (p : List D.Ins) (k : Int) : Prop := PSmall p
def putAt (l : List Int) (n : Int) : Nat → Nat
  | 0 => 0
  | k + 1 => if rd l (k : Int) > n then putAt l n k else k + 1
def spec_l04Put (l : List Int) (n : Int) : List Int :=
  if putAt l n l.length > 0 ∧ rd l (((putAt l n l.length : Nat) : Int) - 1) = n then l else l.take (putAt l n l.length) ++ [n] ++ l.drop (putAt l n l.length)
def spec_l04Put_pre (l : List Int) (n : Int) : Prop := Row34 l
def spec_l07Next := nextOf
def spec_l07Next_pre (p : List D.Ins) (k : Int) : Prop := Node p k
def Starts (p : List D.Ins) (l : List Int) : Prop := programOk p = true ∧ (∀ x ∈ l, nodeIn p x) ∧ l.length ≤ 4
def spec_l07Reach (p : List D.Ins) (l : List Int) : List Bool := reached p l (-1)
def spec_l07Reach_pre (p : List D.Ins) (l : List Int) : Prop := Starts p l
def spec_ReachesExit (p : List D.Ins) (k : Int) : Bool := isNode p k && exitB p k
def spec_ReachesExit_pre (p : List D.Ins) (k : Int) : Prop := PSmall p
def spec_l08After := afterB
def spec_l08After_pre (p : List D.Ins) (k later : Int) : Prop := Node p k
def spec_AftersOf := aftersOf
def spec_AftersOf_pre (p : List D.Ins) (k : Int) : Prop := PSmall p
def Nodes (p : List D.Ins) (l : List Int) : Prop := Row34 l ∧ ∀ x ∈ l, Node p x
def spec_l08First (p : List D.Ins) (l : List Int) : Int := firstS p l l
def spec_l08First_pre (p : List D.Ins) (l : List Int) : Prop := Nodes p l
def spec_FirstAfter := firstAfter
def spec_FirstAfter_pre (p : List D.Ins) (k : Int) : Prop := PSmall p
def Branch (p : List D.Ins) (b : Int) : Prop := programOk p = true ∧ 0 ≤ b ∧ b < ((p.length : Nat) : Int) ∧ isBr p b = true
def spec_l09Join := joinB
def spec_l09Join_pre (p : List D.Ins) (b : Int) : Prop := Branch p b
def spec_l07Marked := marked
def spec_l07Marked_pre (l : List Bool) : Prop := Row34 l
def spec_InsideOf := insideOf
def spec_InsideOf_pre (p : List D.Ins) (b : Int) : Prop := PSmall p
def spec_BarriersSafe := barriersSafe
def spec_BarriersSafe_pre (p : List D.Ins) : Prop := PSmall p
def cmp_isNaN_int (x : Int) : Bool := false
def cmp_Less_int (x y : Int) : Bool := decide (x < y)
def sort2 (l : List Int) : List Int := if rd l 1 < rd l 0 then [rd l 1, rd l 0] else l
def slices_insertionSortOrdered_int (l : List Int) (a b : Int) : List Int := sort2 l
def slices_insertionSortOrdered_int_pre (l : List Int) (a b : Int) : Prop := l.length = 2 ∧ a = 0 ∧ b = 2
def math_bits_Len32 (x : Int) : Int := x
def math_bits_Len32_pre (x : Int) : Prop := False
def math_bits_Len64 (x : Int) : Int := 2
def math_bits_Len64_pre (x : Int) : Prop := x = 2
def math_bits_Len (x : Int) : Int := 2
def math_bits_Len_pre (x : Int) : Prop := x = 2
def slices_pdqsortOrdered_int (l : List Int) (a b c : Int) : List Int := sort2 l
def slices_pdqsortOrdered_int_pre (l : List Int) (a b c : Int) : Prop := l.length = 2 ∧ a = 0 ∧ b = 2
def slices_Sort_int_int (l : List Int) : List Int := sort2 l
def slices_Sort_int_int_pre (l : List Int) : Prop := l.length = 2
def slices_Compact_int_int (l : List Int) : List Int := if rd l 1 = rd l 0 then l.take 1 else l
def slices_Compact_int_int_pre (l : List Int) : Prop := l.length = 2
def impl_next := nextOf
def impl_next_pre (p : List D.Ins) (k : Int) : Prop := Node p k
def impl_BranchesOf := branches
def impl_BranchesOf_pre (p : List D.Ins) : Prop := PSmall p
def impl_isBranch (p : List D.Ins) (b : Int) : Bool := has (branches p) b
def impl_isBranch_pre (p : List D.Ins) (b : Int) : Prop := PSmall p
def impl_reached := reached
def impl_reached_pre (p : List D.Ins) (l : List Int) (wo : Int) : Prop := Starts p l
def impl_reachesExit := exitB
def impl_reachesExit_pre (p : List D.Ins) (k : Int) : Prop := Node p k
def impl_isNode := isNode
def impl_isNode_pre (p : List D.Ins) (k : Int) : Prop := PSmall p
def impl_isAfter (p : List D.Ins) (k later : Int) : Bool := exitB p k && afterB p k later
def impl_isAfter_pre (p : List D.Ins) (k later : Int) : Prop := Node p k
def impl_IsAfter (p : List D.Ins) (k later : Int) : Bool := isNode p k && (isNode p later && (exitB p k && afterB p k later))
def impl_IsAfter_pre (p : List D.Ins) (k later : Int) : Prop := PSmall p
def impl_AftersOf := aftersOf
def impl_AftersOf_pre (p : List D.Ins) (k : Int) : Prop := PSmall p
def impl_FirstAfter_1 (x k : Int) : Bool := x == k
def impl_FirstAfter_1_pre (x k : Int) : Prop := True
def slices_DeleteFunc_int_int (l : List Int) (g : Int → Bool) : List Int := l.filter fun x => !g x
def slices_DeleteFunc_int_int_pre (l : List Int) (g : Int → Bool) (D : Int → Prop) : Prop := Long l ∧ ∀ x ∈ l, D x
def impl_firstOf_1 (z : Int) (p : List D.Ins) (x : Int) : Bool := !(exitB p x && afterB p x z)
def impl_firstOf_1_pre (z : Int) (p : List D.Ins) (x : Int) : Prop := Node p x
def impl_firstOf (p : List D.Ins) (l : List Int) : Int := firstI p l l
def impl_firstOf_pre (p : List D.Ins) (l : List Int) : Prop := Nodes p l
def impl_FirstAfter := firstAfter
def impl_FirstAfter_pre (p : List D.Ins) (k : Int) : Prop := PSmall p
def joinOf (p : List D.Ins) (b : Int) : Int := if has (branches p) b then joinB p b else -1
def impl_JoinOf := joinOf
def impl_JoinOf_pre (p : List D.Ins) (b : Int) : Prop := PSmall p
def impl_trues := marked
def impl_trues_pre (l : List Bool) : Prop := Row34 l
def impl_InsideOf := insideOf
def impl_InsideOf_pre (p : List D.Ins) (b : Int) : Prop := PSmall p
def impl_BarriersSafe_1_1 (k : Int) (p : List D.Ins) : Bool := !noBar p k
def impl_BarriersSafe_1_1_pre (k : Int) (p : List D.Ins) : Prop := 0 ≤ k
def impl_BarriersSafe_1 (b : Int) (p : List D.Ins) : Bool := !(insideOf p b).all (noBar p)
def impl_BarriersSafe_1_pre (b : Int) (p : List D.Ins) : Prop := PSmall p
def impl_BarriersSafe := barriersSafe
def impl_BarriersSafe_pre (p : List D.Ins) : Prop := PSmall p
def laws_FnExactBarriersSafe (p : List D.Ins) : Bool := true
def laws_FnExactBarriersSafe_pre (p : List D.Ins) : Prop := Long p
/-! ends -/
def spec_DrawWild (b : List Int) : List D.Ins := (spec_l07Wild (spec_l01New b)).1
def spec_DrawWild_pre (b : List Int) : Prop := Long b
def impl_LaneEnded (p : List D.Ins) (l : D.Lane) : Bool := laneOk p l && l.Pc == p.length
def impl_LaneEnded_pre (p : List D.Ins) (l : D.Lane) : Prop := Long p
def reachableFrom (p : List D.Ins) (k : Int) : List Int := if isNode p k then marked (reached p [k] (-1)) else []
def impl_ReachableFrom := reachableFrom
def impl_ReachableFrom_pre (p : List D.Ins) (k : Int) : Prop := PSmall p
def onCircle (p : List D.Ins) (k : Int) : Bool := rd (reached p (nextOf p k) (-1)) k
def impl_AlwaysEnds_1 (k : Int) (p : List D.Ins) : Bool := onCircle p k
def impl_AlwaysEnds_1_pre (k : Int) (p : List D.Ins) : Prop := Node p k
def alwaysEnds (p : List D.Ins) : Bool := programOk p && (reachableFrom p 0).all fun k => !onCircle p k
def impl_AlwaysEnds := alwaysEnds
def impl_AlwaysEnds_pre (p : List D.Ins) : Prop := PSmall p
def laws_FnEnds (b : List Int) : Bool := true
def laws_FnEnds_pre (b : List Int) : Prop := Long b
end Go.V.M
