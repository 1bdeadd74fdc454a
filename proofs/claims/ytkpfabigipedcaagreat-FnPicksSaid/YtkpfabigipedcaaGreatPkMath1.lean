import Derived.Test.YtkpfabigipedcaaGreatPkVBase
import Derived.Test.YtkpfabigipedcaaGreatPkVWords
import Derived.Test.YtkpfabigipedcaaGreatPkVOwn
import Derived.Test.YtkpfabigipedcaaGreatPkVLoop
import Derived.Test.YtkpfabigipedcaaGreatPkVDeep
import Derived.Test.YtkpfabigipedcaaGreatPkVEq
import Derived.Test.YtkpfabigipedcaaGreatPkVCut
import Derived.Test.YtkpfabigipedcaaGreatPkVPlc
import Derived.Test.YtkpfabigipedcaaGreatPkVFoc
import Derived.Test.YtkpfabigipedcaaGreatPkPure2
set_option linter.unusedVariables false
set_option linter.unusedSimpArgs false
set_option maxRecDepth 20000
namespace Go.V.M
open IntKind (wrap)
def qdE (p : List D.Ins) (n : Int) : D.Warp := ⟨n, if p.length > 0 then [⟨0, p.length, 255⟩] else [], List.replicate 32 0⟩
def qmU : D.Warp := ⟨0, [], []⟩
def qlL : D.Block := ⟨[], [], [], 0, 0⟩
def qck (p : List D.Ins) (n : Int) : D.Warp × Bool := if qaW p && isIn n 0 2 then (qdE p n, true) else (qmU, false)
def qgp (p : List D.Ins) (n : Int) : Prop := Long p
def qes (p : List D.Ins) (c : Int) : D.Block := ⟨p, (List.range c.toNat).map fun k : Nat => qdE p (k : Int), List.replicate 32 0, 0, 0⟩
def qf7 (p : List D.Ins) (c : Int) : D.Block × Bool := if qaW p && isIn c 1 3 then (qes p c, true) else (qlL, false)
def qbt := qf7
def qg4 (p : List D.Ins) (c : Int) : Prop := Long p
def qan (l : List D.Ins) : List D.Ins := l
def qbK (l : List D.Ins) : Prop := l.length ≤ 17179869184
def qai (l : List D.Frame) : List D.Frame := l
def qb2 (l : List D.Frame) : Prop := l.length ≤ 17179869184
def WFit (x : D.Warp) : Prop := x.Frames.length ≤ 17179869184 ∧ x.Regs.length ≤ 17179869184
def BFit (b : D.Block) : Prop := b.Code.length ≤ 17179869184 ∧ (b.Warps.length ≤ 17179869184 ∧ ∀ x ∈ b.Warps, WFit x) ∧ b.Memory.length ≤ 17179869184
def qbZ (x : D.Warp) : D.Warp := x
def qey (x : D.Warp) : Prop := WFit x
def qdj (b : D.Block) : D.Block := b
def qgt (b : D.Block) : Prop := BFit b
def qcJ (x : D.Warp) : D.Warp := x
def qfT (x : D.Warp) : Prop := WFit x
def qcw (b : D.Block) : D.Block := b
def qfK (b : D.Block) : Prop := BFit b
end Go.V.M
namespace Go.V.M
open IntKind (wrap)
def qec (x : D.Warp) (l : Int) : Prop := x.Regs.length = 32 ∧ 0 ≤ l ∧ l ≤ 7
def qb5 (x : D.Warp) : Int := if x.Frames.isEmpty then 0 else (qd0 x.Frames).Mask
def qbE := qb5
def qe7 (x : D.Warp) : Prop := Long x.Frames
def qbh := qb5
def qdi (x : D.Warp) : Prop := Long x.Frames
def qj1 (k : Int) : Int := wrap .i64 (1 * 2 ^ (min (k.toNat) (IntKind.bits .i64)))
def qev (x : D.Warp) (reg : Int) (m : Int) (k : Int) : Int := if rd x.Regs (k * 4 + reg) = 0 then qgS .i64 m (qj1 k) else m
def qct (x : D.Warp) (reg : Int) : Int := (qfk (qb5 x)).foldl (qev x reg) 0
def qaN := qct
def qd8 (x : D.Warp) (reg : Int) : Prop := Long x.Frames ∧ x.Regs.length = 32 ∧ qgB reg = true
def qaO (x : D.Warp) (reg : Int) : Int := if qgB reg && x.Regs.length == 32 then qct x reg else 0
def qe1 (x : D.Warp) (reg : Int) : Prop := Long x.Frames
def Runs (p : List D.Ins) (x : D.Warp) : Prop := qaW p = true ∧ qfN p x = true ∧ x.Frames ≠ []
def qdF (x : D.Warp) : Int := (qd0 x.Frames).Pc
def qaI (p : List D.Ins) (x : D.Warp) : D.Ins := rd p (qdF x)
def splits (p : List D.Ins) (x : D.Warp) : Bool :=
 ((qaI p x).Op == 10 && (qaI p x).B != qdF x + 1) && (qct x (qaI p x).A != 0 && qct x (qaI p x).A != (qd0 x.Frames).Mask)
def qbd := splits
def qeE (p : List D.Ins) (x : D.Warp) : Prop := Runs p x
def qaV (x : D.Warp) (p : List D.Ins) : Bool := splits p x
def qem (x : D.Warp) (p : List D.Ins) : Prop := Runs p x
def qaJ (p : List D.Ins) (x : D.Warp) : Bool := !x.Frames.isEmpty && (qcM (qaI p x) && (!splits p x || decide (x.Frames.length ≤ 22)))
def qfY (p : List D.Ins) (x : D.Warp) : Prop := qaW p = true ∧ qfN p x = true
def qfq (b : D.Block) (w : Int) : Bool :=
 let x := rd b.Warps w
 !x.Frames.isEmpty && (!waits b w && (if qcM (qaI b.Code x) then !splits b.Code x || decide (x.Frames.length ≤ 22) else (qaI b.Code x).Op != 16 || x.Frames.length == 1))
def qcC := qfq
def qgJ (b : D.Block) (w : Int) : Prop := Has b w
def qaz := qfq
def qdy (b : D.Block) (w : Int) : Prop := Has b w
def qiE (b : D.Block) (w : Int) : Bool := qhs b w && qfq b w
def qd3 := qiE
def qgw (b : D.Block) (w : Int) : Prop := qix b
def qf5 (b : D.Block) (n f : Int) : Nat → Int → Int
 | 0, _ => -1
 | r + 1, k => if qfq b (Int.tmod (f + k) n) then Int.tmod (f + k) n else qf5 b n f r (k + 1)
def pick (b : D.Block) (q : Int) : Int := qf5 b b.Warps.length (Int.tmod q b.Warps.length) b.Warps.length 0
def Good (b : D.Block) : Prop := qix b ∧ qcT b = true
def qdt := pick
def qgi (b : D.Block) (q : Int) : Prop := Good b ∧ 0 ≤ q ∧ q ≤ 9223372036854775807
def qaX := pick
def qdV (b : D.Block) (q : Int) : Prop := Good b ∧ 0 ≤ q ∧ q ≤ 9223372036854775807
def qgc (b : D.Block) (q : Int) : Int := if qcT b && decide (0 ≤ q) then pick b q else -1
def qcp := qgc
def qg6 (b : D.Block) (q : Int) : Prop := qix b ∧ q ≤ 9223372036854775807
def qi3 (b : D.Block) : Bool := qcT b && (!ended b && (List.range b.Warps.length).all fun k : Nat => !qfq b (k : Int))
def qbY := qi3
def qf6 (b : D.Block) : Prop := qix b
end Go.V.M
namespace Go.V.M
open IntKind (wrap)
def qfB (p : List D.Ins) : Prop := p.length ≤ 2097152
def qnY {α : Type} (l : List α) : Prop := l.length ≤ 17179869183
def idx (g : Int → Bool) : Nat → List Int
 | 0 => []
 | k + 1 => if g (k : Int) then idx g k ++ [(k : Int)] else idx g k
def isBr (p : List D.Ins) (k : Int) : Bool := (rd p k).Op == 10 && (rd p k).B != k + 1
def branches (p : List D.Ins) : List Int := if qaW p then idx (isBr p) p.length else []
def others (l : List Int) (n : Int) : List Int := l.filter fun x => x != n
def has (l : List Int) (n : Int) : Bool := l.any fun y => n == y
def qe2 (p : List D.Ins) (k : Int) : Prop := 0 ≤ k ∧ k ≤ (p.length : Int)
def Node (p : List D.Ins) (k : Int) : Prop := qaW p = true ∧ qe2 p k
def qeW (p : List D.Ins) (k : Int) : Bool := qaW p && isIn k 0 p.length
def qhm (a b : Int) : List Int := if b < a then [b, a] else if b = a then [a] else [a, b]
def qer (p : List D.Ins) (k : Int) : List Int :=
 if k = p.length then [] else if (rd p k).Op = 12 then [(p.length : Int)] else if (rd p k).Op = 11 then [(rd p k).B] else if (rd p k).Op = 10 then qhm (k + 1) (rd p k).B else [k + 1]
def bfs (p : List D.Ins) (wo : Int) : Nat → List Int → List Bool → List Bool
 | 0, _, seen => seen
 | _ + 1, [], seen => seen
 | f + 1, k :: work, seen => if k = wo ∨ rd seen k = true then bfs p wo f work seen else bfs p wo f (work ++ qer p k) (seen.set k.toNat true)
def reached (p : List D.Ins) (frm : List Int) (wo : Int) : List Bool := bfs p wo (3 * (p.length + 1) + frm.length) frm (List.replicate (p.length + 1) false)
def qff (p : List D.Ins) (k : Int) : Bool := rd (reached p [k] (-1)) p.length
def qdx (p : List D.Ins) (k later : Int) : Bool := !rd (reached p [k] later) p.length
def qcs (p : List D.Ins) (k : Int) : List Int := if qeW p k && qff p k then idx (qdx p k) (p.length + 1) else []
def qh7 (p : List D.Ins) (all : List Int) : List Int → Int
 | [] => -1
 | x :: l => if all.all (qdx p x) then x else qh7 p all l
def qiS (p : List D.Ins) (all : List Int) : List Int → Int
 | [] => -1
 | x :: l => if all.all (fun z => qff p x && qdx p x z) then x else qiS p all l
def qhJ (p : List D.Ins) (k : Int) : Int := qh7 p (others (qcs p k) k) (others (qcs p k) k)
def qgY (p : List D.Ins) (b : Int) : Int := if qff p (b + 1) && qff p (rd p b).B then qhJ p b else p.length
def qcS := others
def qfC (l : List Int) (n : Int) : Prop := qnY l
def qdK := qeW
def qh0 (p : List D.Ins) (k : Int) : Prop := qfB p
def putAt (l : List Int) (n : Int) : Nat → Nat
 | 0 => 0
 | k + 1 => if rd l (k : Int) > n then putAt l n k else k + 1
def qcP (l : List Int) (n : Int) : List Int :=
 if putAt l n l.length > 0 ∧ rd l (((putAt l n l.length : Nat) : Int) - 1) = n then l else l.take (putAt l n l.length) ++ [n] ++ l.drop (putAt l n l.length)
def qgQ (l : List Int) (n : Int) : Prop := qnY l
def qci := qer
def qfa (p : List D.Ins) (k : Int) : Prop := Node p k
def Starts (p : List D.Ins) (l : List Int) : Prop := qaW p = true ∧ (∀ x ∈ l, qe2 p x) ∧ l.length ≤ 4
def qcG (p : List D.Ins) (l : List Int) : List Bool := reached p l (-1)
def qfP (p : List D.Ins) (l : List Int) : Prop := Starts p l
def qaH (p : List D.Ins) (k : Int) : Bool := qeW p k && qff p k
def qdT (p : List D.Ins) (k : Int) : Prop := qfB p
def qcF := qdx
def qeV (p : List D.Ins) (k later : Int) : Prop := Node p k
def qco := qcs
def qg7 (p : List D.Ins) (k : Int) : Prop := qfB p
def Nodes (p : List D.Ins) (l : List Int) : Prop := qnY l ∧ ∀ x ∈ l, Node p x
def qdd (p : List D.Ins) (l : List Int) : Int := qh7 p l l
def qg2 (p : List D.Ins) (l : List Int) : Prop := Nodes p l
def qc7 := qhJ
def qfe (p : List D.Ins) (k : Int) : Prop := qfB p
def Branch (p : List D.Ins) (b : Int) : Prop := qaW p = true ∧ 0 ≤ b ∧ b < (p.length : Int) ∧ isBr p b = true
def qcB := qgY
def qgq (p : List D.Ins) (b : Int) : Prop := Branch p b
def cmp_isNaN_int (x : Int) : Bool := false
def cmp_Less_int (x y : Int) : Bool := decide (x < y)
def qiD (l : List Int) : List Int := if rd l 1 < rd l 0 then [rd l 1, rd l 0] else l
def qat (l : List Int) (a b : Int) : List Int := qiD l
def qdh (l : List Int) (a b : Int) : Prop := l.length = 2 ∧ a = 0 ∧ b = 2
def qca (x : Int) : Int := 2
def qfo (x : Int) : Prop := x = 2
def qdb (x : Int) : Int := 2
def qfR (x : Int) : Prop := x = 2
def qaL (l : List Int) (a b c : Int) : List Int := qiD l
def qdP (l : List Int) (a b c : Int) : Prop := l.length = 2 ∧ a = 0 ∧ b = 2
def qaR (l : List Int) : List Int := qiD l
def qew (l : List Int) : Prop := l.length = 2
def qay (l : List Int) : List Int := if rd l 1 = rd l 0 then l.take 1 else l
def qea (l : List Int) : Prop := l.length = 2
def qdr := qer
def qfH (p : List D.Ins) (k : Int) : Prop := Node p k
def qbC := branches
def qfj (p : List D.Ins) : Prop := qfB p
def qdc (p : List D.Ins) (b : Int) : Bool := has (branches p) b
def qfO (p : List D.Ins) (b : Int) : Prop := qfB p
def qcx := reached
def qfc (p : List D.Ins) (l : List Int) (wo : Int) : Prop := Starts p l
def qbA := qff
def qek (p : List D.Ins) (k : Int) : Prop := Node p k
def qd1 := qeW
def qfE (p : List D.Ins) (k : Int) : Prop := qfB p
def qcl (p : List D.Ins) (k later : Int) : Bool := qff p k && qdx p k later
def qf9 (p : List D.Ins) (k later : Int) : Prop := Node p k
def qbF (p : List D.Ins) (k later : Int) : Bool := qeW p k && (qeW p later && (qff p k && qdx p k later))
def qgk (p : List D.Ins) (k later : Int) : Prop := qfB p
def qbS := qcs
def qg8 (p : List D.Ins) (k : Int) : Prop := qfB p
def qby (x k : Int) : Bool := x == k
def qeM (x k : Int) : Prop := True
def qaw (l : List Int) (g : Int → Bool) : List Int := l.filter fun x => !g x
def qdN (l : List Int) (g : Int → Bool) (D : Int → Prop) : Prop := Long l ∧ ∀ x ∈ l, D x
def qcf (z : Int) (p : List D.Ins) (x : Int) : Bool := !(qff p x && qdx p x z)
def qfD (z : Int) (p : List D.Ins) (x : Int) : Prop := Node p x
def qdv (p : List D.Ins) (l : List Int) : Int := qiS p l l
def qgn (p : List D.Ins) (l : List Int) : Prop := Nodes p l
def qc8 := qhJ
def qfm (p : List D.Ins) (k : Int) : Prop := qfB p
def qln (p : List D.Ins) (b : Int) : Int := if has (branches p) b then qgY p b else -1
def qde := qln
def qgL (p : List D.Ins) (b : Int) : Prop := qfB p
end Go.V.M
namespace Go.V.M
open IntKind (wrap)
def qjy (fs : List D.Frame) (n : Int) : Nat → List D.Frame
 | 0 => []
 | k + 1 => if (rd fs (k : Int)).Pc ≠ (rd fs (k : Int)).Stop ∧ (rd fs (k : Int)).Pc ≠ n then fs.take (k + 1) else qjy fs n k
def qlE (fs : List D.Frame) (n : Int) : List D.Frame := qjy fs n fs.length
def qgD (x : D.Warp) (n : Int) : D.Warp := ⟨x.Number, qlE x.Frames n, x.Regs⟩
def qbw := qgD
def qef (x : D.Warp) (n : Int) : Prop := Long x.Frames
def qaG (p : List D.Ins) (x : D.Warp) : D.Warp := qgD x p.length
def qcO (p : List D.Ins) (x : D.Warp) : Prop := WFit x
def qeJ (r : List Int) (l : Nat) : List Int := (r.take (l * 4 + 4)).drop (l * 4)
def qfs (r : List Int) (l : Nat) (x : List Int) : List Int := r.take (l * 4) ++ x ++ r.drop (l * 4 + 4)
def qfG (i : D.Ins) (num m : Int) (r : List Int) : Nat → List Int
 | 0 => r
 | k + 1 => if qdo m (k : Int) then qfs (qfG i num m r k) k (apply i (num * 8 + (k : Int)) (qeJ r k)) else qfG i num m r k
def qgE (i : D.Ins) (num m : Int) (r : List Int) : List Int := qfG i num m r 8
def qcY (p : List D.Ins) (x : D.Warp) : List Int := qgE (qaI p x) x.Number (qd0 x.Frames).Mask x.Regs
def qfW (p : List D.Ins) (x : D.Warp) : Prop := Runs p x
def qb3 (i : D.Ins) (t : Int) (xs : List Int) (lo hi : Nat) : List Int := xs.take lo ++ apply i t ((xs.take hi).drop lo) ++ xs.drop hi
def qgm (i : D.Ins) (t : Int) (xs : List Int) (lo hi : Nat) : Prop := Fits i ((xs.take hi).drop lo) ∧ lo ≤ hi ∧ hi ≤ xs.length
def qgy (p : List D.Ins) (x : D.Warp) : Int :=
 if (qaI p x).Op = 12 then (p.length : Int) else if (qaI p x).Op = 11 then (qaI p x).B else if (qaI p x).Op = 10 ∧ qct x (qaI p x).A = (qd0 x.Frames).Mask then (qaI p x).B else qdF x + 1
def qei (fs : List D.Frame) (pc : Int) : List D.Frame := fs.set (fs.length - 1) ⟨pc, (qd0 fs).Stop, (qd0 fs).Mask⟩
def advance (p : List D.Ins) (x : D.Warp) : D.Warp := ⟨x.Number, qei x.Frames (qgy p x), qgE (qaI p x) x.Number (qd0 x.Frames).Mask x.Regs⟩
def qba (x : D.Warp) (p : List D.Ins) : D.Warp := advance p x
def qeN (x : D.Warp) (p : List D.Ins) : Prop := Runs p x
def qlv (p : List D.Ins) (x : D.Warp) : Prop := (qaI p x).Op = 10 ∧ (qaI p x).B ≠ qdF x + 1
def separated (p : List D.Ins) (x : D.Warp) : D.Warp :=
 ⟨x.Number, qei x.Frames (qgY p (qdF x)) ++ [⟨qdF x + 1, qgY p (qdF x), qeY .i64 (qd0 x.Frames).Mask (qct x (qaI p x).A)⟩, ⟨(qaI p x).B, qgY p (qdF x), qct x (qaI p x).A⟩], x.Regs⟩
def qaM (x : D.Warp) (p : List D.Ins) : Bool × D.Warp := if x.Frames.length ≤ 22 then (true, separated p x) else (false, x)
def qeB (x : D.Warp) (p : List D.Ins) : Prop := Runs p x ∧ qlv p x
def stepW (p : List D.Ins) (x : D.Warp) : D.Warp := qgD (if splits p x then separated p x else advance p x) p.length
def Goes (p : List D.Ins) (x : D.Warp) : Prop := Runs p x ∧ qaJ p x = true
def qdk := stepW
def qgu (p : List D.Ins) (x : D.Warp) : Prop := Goes p x
def Fine (p : List D.Ins) (x : D.Warp) : Prop := qaW p = true ∧ qfN p x = true
def qbg (x : D.Warp) (p : List D.Ins) : Bool × D.Warp := if qaJ p x then (true, stepW p x) else (false, x)
def qfr (x : D.Warp) (p : List D.Ins) : Prop := Fine p x
end Go.V.M
namespace Go.V.M
open IntKind (wrap)
def once (c : D.Cur) (n : Int) : Bool × D.Cur := ((qa0 c n).1 == 0, (qa0 c n).2)
def qcN := once
def qfb (c : D.Cur) (n : Int) : Prop := qdz c
def setB (p : List D.Ins) (k : Nat) (v : Int) : List D.Ins := p.set k ⟨(rd p (k : Int)).Op, (rd p (k : Int)).A, v, (rd p (k : Int)).C⟩
def qi7 (p : List D.Ins) : List D.Ins := p ++ [(⟨8, 3, 0, 0⟩ : D.Ins)]
def qjv (p : List D.Ins) : List D.Ins := ((qi7 p ++ [(⟨10, 3, 0, 0⟩ : D.Ins)]) ++ [(⟨3, 0, 0, 1⟩ : D.Ins), (⟨1, 2, 1, 0⟩ : D.Ins), (⟨4, 3, 3, 2⟩ : D.Ins)]) ++ [(⟨11, 0, ((qi7 p).length : Int), 0⟩ : D.Ins)]
def qi6 (p : List D.Ins) : List D.Ins := setB (qjv p) (qi7 p).length ((qjv p).length : Int)
def qd4 (rec : D.Cur → List D.Ins → List D.Ins × D.Cur) (c : D.Cur) (p : List D.Ins) : List D.Ins × D.Cur := rec (qa0 c 4).2 (p ++ [⟨10, (qa0 c 4).1, 0, 0⟩])
def qht (rec : D.Cur → List D.Ins → List D.Ins × D.Cur) (c : D.Cur) (p q : List D.Ins) : List D.Ins × D.Cur := rec c (setB (q ++ [⟨11, 0, 0, 0⟩]) p.length ((q ++ [(⟨11, 0, 0, 0⟩ : D.Ins)]).length : Int))
def ifIn (rec : D.Cur → List D.Ins → List D.Ins × D.Cur) (c : D.Cur) (p : List D.Ins) : List D.Ins × D.Cur :=
 if (once (qd4 rec c p).2 2).1 then (setB (qd4 rec c p).1 p.length ((qd4 rec c p).1.length : Int), (once (qd4 rec c p).2 2).2)
 else (setB (qht rec (once (qd4 rec c p).2 2).2 p (qd4 rec c p).1).1 (qd4 rec c p).1.length ((qht rec (once (qd4 rec c p).2 2).2 p (qd4 rec c p).1).1.length : Int), (qht rec (once (qd4 rec c p).2 2).2 p (qd4 rec c p).1).2)
def qeI (rec : D.Cur → List D.Ins → List D.Ins × D.Cur) (deep : Bool) (c : D.Cur) (p : List D.Ins) : List D.Ins × D.Cur :=
 if (qa0 c 5).1 = 0 then (if deep then ifIn rec (qa0 c 5).2 p else (p, (qa0 c 5).2))
 else if (qa0 c 5).1 = 1 then (if deep ∧ ¬ (p.length : Int) > 14 then (qi6 p, (qa0 c 5).2) else (p, (qa0 c 5).2))
 else (p ++ [(qaA (qa0 c 5).2).1], (qaA (qa0 c 5).2).2)
def qiX (rec : D.Cur → List D.Ins → List D.Ins × D.Cur) (deep : Bool) : Nat → D.Cur → List D.Ins → List D.Ins × D.Cur
 | 0, c, p => (p, c)
 | n + 1, c, p => if (p.length : Int) < 20 then qiX rec deep n (qeI rec deep c p).2 (qeI rec deep c p).1 else (p, c)
def body : Nat → D.Cur → List D.Ins → List D.Ins × D.Cur
 | 0, c, p => qiX (fun c p => (p, c)) false (qa0 c 4).1.toNat (qa0 c 4).2 p
 | d + 1, c, p => qiX (body d) true (qa0 c 4).1.toNat (qa0 c 4).2 p
def qaT (c : D.Cur) (p : List D.Ins) (d : Int) : List D.Ins × D.Cur := body d.toNat c p
def qdS (c : D.Cur) (p : List D.Ins) (d : Int) : Prop := qdz c ∧ p.length ≤ 24 ∧ 0 ≤ d ∧ d ≤ 2
end Go.V.M
namespace Go.V.M
open IntKind (wrap)
def qbJ (c : D.Cur) : D.Ins × D.Cur :=
 (⟨(qau c [13, 14, 15]).1, (qa0 (qau c [13, 14, 15]).2 4).1, (qa0 (qa0 (qau c [13, 14, 15]).2 4).2 4).1, 0⟩, (qa0 (qa0 (qau c [13, 14, 15]).2 4).2 4).2)
def qfA (c : D.Cur) : Prop := qdz c
def qjb (c : D.Cur) : List D.Ins × D.Cur := ([⟨8, 0, 0, 0⟩, ⟨14, 0, (qa0 c 4).1, 0⟩], (qa0 c 4).2)
def qkm (c : D.Cur) : List D.Ins × D.Cur := ([⟨1, 1, (qau c [1, 8, 31]).1, 0⟩, ⟨8, 0, 0, 0⟩, ⟨3, 0, 0, 1⟩, ⟨13, 2, 0, 0⟩], (qau c [1, 8, 31]).2)
def qkD (c : D.Cur) : List D.Ins × D.Cur := ([⟨1, 1, 24 + (qa0 c 8).1, 0⟩, ⟨15, 1, (qa0 (qa0 c 8).2 4).1, 0⟩], (qa0 (qa0 c 8).2 4).2)
def qgv (c : D.Cur) (p : List D.Ins) : List D.Ins × D.Cur :=
 if (qa0 c 7).1 = 0 then (p ++ [⟨16, 0, 0, 0⟩], (qa0 c 7).2)
 else if (qa0 c 7).1 = 1 then (p ++ (qjb (qa0 c 7).2).1, (qjb (qa0 c 7).2).2)
 else if (qa0 c 7).1 = 2 then (p ++ (qkm (qa0 c 7).2).1, (qkm (qa0 c 7).2).2)
 else if (qa0 c 7).1 = 3 then (p ++ (qkD (qa0 c 7).2).1, (qkD (qa0 c 7).2).2)
 else if (qa0 c 7).1 = 4 then (if (p.length : Int) < 12 then body 1 (qa0 c 7).2 p else (p, (qa0 c 7).2))
 else if (qa0 c 7).1 = 5 then (p ++ [(qbJ (qa0 c 7).2).1], (qbJ (qa0 c 7).2).2)
 else (p ++ [(qaA (qa0 c 7).2).1], (qaA (qa0 c 7).2).2)
def qhT : Nat → D.Cur → List D.Ins → List D.Ins × D.Cur
 | 0, c, p => (p, c)
 | n + 1, c, p => if (p.length : Int) + 4 ≤ 32 then qhT n (qgv c p).2 (qgv c p).1 else (p, c)
def qa9 (c : D.Cur) : List D.Ins × D.Cur := qhT (1 + (qa0 c 5).1).toNat (qa0 c 5).2 [⟨8, 0, 0, 0⟩]
def qfg (c : D.Cur) : Prop := qdz c
end Go.V.M
namespace Go.V.M
open IntKind (wrap)
def qfd (i : D.Ins) (s : List Int × List Int) (k : Int) : List Int × List Int :=
 if i.Op = 13 then (s.1.set (k * 4 + i.A).toNat (rd s.2 (Int.tmod (rd s.1 (k * 4 + i.B)) 32)), s.2)
 else if i.Op = 14 then (s.1, s.2.set (Int.tmod (rd s.1 (k * 4 + i.A)) 32).toNat (rd s.1 (k * 4 + i.B)))
 else if i.Op = 15 then (s.1, s.2.set (Int.tmod (rd s.1 (k * 4 + i.A)) 32).toNat (addW (rd s.2 (Int.tmod (rd s.1 (k * 4 + i.A)) 32)) (rd s.1 (k * 4 + i.B))))
 else s
def qkG (i : D.Ins) (m : Int) (s : List Int × List Int) : Nat → List Int × List Int
 | 0 => s
 | k + 1 => if qdo m (k : Int) then qfd i (qkG i m s k) (k : Int) else qkG i m s k
def qjm (i : D.Ins) (x : D.Warp) (mem : List Int) : List Int × List Int := qkG i (qb5 x) (x.Regs, mem) 8
def qlu (b : D.Block) (w : Int) (x : D.Warp) : D.Block := ⟨b.Code, b.Warps.set w.toNat x, b.Memory, b.Waiting, b.Phase⟩
def qcK (b : D.Block) (w : Int) (i : D.Ins) : D.Block :=
 ⟨b.Code, b.Warps.set w.toNat ⟨(rd b.Warps w).Number, (rd b.Warps w).Frames, (qjm i (rd b.Warps w) b.Memory).1⟩, (qjm i (rd b.Warps w) b.Memory).2, b.Waiting, b.Phase⟩
def Live (b : D.Block) (w : Int) : Prop := Has b w ∧ (rd b.Warps w).Frames ≠ []
def qbV (b : D.Block) (w : Int) : D.Block × List D.Warp × List Int := (qcK b w (qd6 b w), (qcK b w (qd6 b w)).Warps, (qcK b w (qd6 b w)).Memory)
def qfI (b : D.Block) (w : Int) : Prop := Live b w ∧ qcM (qd6 b w) = false
def qbM (b : D.Block) (w : Int) (i : D.Ins) : D.Block := qcK b w i
def qeL (b : D.Block) (w : Int) (i : D.Ins) : Prop := Live b w ∧ i = qd6 b w ∧ qcM i = false
def qfh (b : D.Block) : Nat → Bool
 | 0 => true
 | k + 1 => qfh b k && ((rd b.Warps (k : Int)).Frames.isEmpty || waits b (k : Int))
def qbp (b : D.Block) : Bool := qfh b b.Warps.length && b.Waiting != 0
def qgN (b : D.Block) : Prop := Long b.Warps
def qhz (p : List D.Ins) (x : D.Warp) : D.Warp := qgD ⟨x.Number, qei x.Frames (qdF x + 1), x.Regs⟩ p.length
def actB (b : D.Block) (w : Int) : D.Block :=
 if qcM (qd6 b w) then qlu b w (stepW b.Code (rd b.Warps w))
 else ⟨b.Code, b.Warps.set w.toNat (qhz b.Code (rd (qcK b w (qd6 b w)).Warps w)), (qcK b w (qd6 b w)).Memory, if (qd6 b w).Op = 16 then qgS .i64 b.Waiting (qj1 w) else b.Waiting, b.Phase⟩
def qhN (b : D.Block) : D.Block := if qbp b then ⟨b.Code, b.Warps, b.Memory, 0, b.Phase + 1⟩ else b
def qf1 (b : D.Block) (w : Int) : D.Block := qhN (actB b w)
def qiW (b : D.Block) (w : Int) : Prop := Has b w ∧ qfq b w = true
def qds := qf1
def qgs (b : D.Block) (w : Int) : Prop := qiW b w
def qbo (b : D.Block) (w : Int) : Bool × D.Block := (decide ((qf1 b w).Phase ≤ 100000), qf1 b w)
def qfl (b : D.Block) (w : Int) : Prop := qiW b w
end Go.V.M
namespace Go.V.M
open IntKind (wrap)
def stops (f : Nat → Int) (x : D.Block) (k : Nat) : Bool := decide (f k < 0) || (x.Phase == 100000 || decide (pick x (f k) < 0))
def goTo (f : Nat → Int) : Nat → D.Block → Nat → D.Block × Int
 | 0, x, k => (x, (k : Int))
 | m + 1, x, k => if stops f x k then (x, (k : Int)) else goTo f m (qf1 x (pick x (f k))) (k + 1)
def goAt (f : Nat → Int) (b : D.Block) : Nat → D.Block
 | 0 => b
 | k + 1 => qf1 (goAt f b k) (pick (goAt f b k) (f k))
def MaxL (l : List Int) : Prop := Long l ∧ ∀ y ∈ l, y ≤ 9223372036854775807
def qb1 (b : D.Block) (l : List Int) : D.Block × Int := if qcT b && decide (l.length ≤ 400) then goTo (fun k => rd l (k : Int)) l.length b 0 else (b, -1)
def qbm (k : Int) (l : List Int) : Int × Bool := if k = l.length then (0, false) else (rd l k, true)
def qfn (k : Int) (l : List Int) : Prop := 0 ≤ k ∧ k ≤ (l.length : Int)
def qcr (w : Int) : Unit := ()
def qaF (b : D.Block) (l : List Int) : Int × D.Block := ((goTo (fun k => rd l (k : Int)) l.length b 0).2, (goTo (fun k => rd l (k : Int)) l.length b 0).1)
def qeu (b : D.Block) (l : List Int) : Prop := Good b ∧ l.length ≤ 400 ∧ MaxL l
def qbi := qb1
def qdC (b : D.Block) (l : List Int) : Prop := BFit b ∧ MaxL l
def qeD (s : Int) (k : Nat) : Int := (k : Int) * s
end Go.V.M
namespace Go.V.M
open IntKind (wrap)
def qdg (b : D.Block) (s n : Int) : D.Block := (goTo (qeD s) n.toNat b 0).1
def qgI (b : D.Block) (s n : Int) : Prop := Good b ∧ 0 ≤ s ∧ s ≤ 100 ∧ 0 ≤ n ∧ n ≤ 9000
def qbH (c : D.Cur) : D.Block × D.Cur :=
 let p := qa9 c; let n := qa0 p.2 3; let b := (qf7 p.1 (1 + n.1)).1; let o := once n.2 3
 if o.1 then (⟨b.Code, b.Warps, (qbs o.2 32).1, b.Waiting, b.Phase⟩, (qbs o.2 32).2) else (b, o.2)
def qcE (c : D.Cur) : D.Block × D.Cur :=
 (qdg (qbH c).1 (qa0 (qbH c).2 4).1 (qa0 (qa0 (qbH c).2 4).2 40).1, (qa0 (qa0 (qbH c).2 4).2 40).2)
def qg5 (c : D.Cur) : Prop := qdz c
def qcu (b : List Int) : D.Block := (qcE (qaK b)).1
def qfu (b : List Int) : Prop := Long b
def qkx (c : D.Cur) : D.Cur := (qa0 (qa0 c 30).2 4).2
def qkE (c : D.Cur) : Int := (qa0 (qa0 c 30).2 4).1
def qhg : Nat → Nat → D.Cur → List Int → List Int × D.Cur
 | 0, k, c, l => (l, (qa0 c 30).2)
 | m + 1, k, c, l => if (k : Int) < (qa0 c 30).1 then qhg m (k + 1) (qkx c) (l ++ [qkE c]) else (l, (qa0 c 30).2)
def qcI (c : D.Cur) : List Int × D.Cur := qhg 30 0 c []
def qfV (c : D.Cur) : Prop := qdz c
def qcb (b : List Int) : List Int := (qcI (qaK b)).1
def qfx (b : List Int) : Prop := Long b
def qdG (b : List Int) : Bool := true
def qgj (b : List Int) : Prop := Long b
end Go.V.M
namespace Go.V
open IntKind (wrap)
def wp.qar (x0 : Int) (x1 : Int) (x2 : Int) (Q : Bool → Prop) : Prop :=
 qa1 (decide (x0 ≥ x1)) (Q (decide (x0 ≤ x2))) (Q false)
def wp.qaQ (x0 : Int) (x1 : Int) (x2 : Int) (Q : Bool → Prop) : Prop :=
 qa1 (decide (x0 ≥ x1)) (Q (decide (x0 ≤ x2))) (Q false)
def wp.qbD (x0 : Int) (Q : Bool → Prop) : Prop :=
 (∀ r21, r21 = M.qar x0 0 65535 → Q r21)
def wp.qb4 (x0 : Int) (Q : Bool → Prop) : Prop :=
 (∀ r21, r21 = M.qaQ x0 0 65535 → Q r21)
def wp.qdf (x0 : Int) (Q : Bool → Prop) : Prop :=
 (∀ r21, r21 = M.qar x0 0 255 → Q r21)
def wp.qdM (x0 : Int) (Q : Bool → Prop) : Prop :=
 (∀ r21, r21 = M.qar x0 0 7 → Q r21)
def wp.qcQ (x0 : Int) (x1 : Int) (Q : Bool → Prop) : Prop :=
 (∀ r21, r21 = M.qdf x0 → qa1 r21 ((∀ r26, r26 = M.qdM x1 → qa1 r26 (((0 ≤ x1) ∧ Q ((qdH .i64 (Int.fdiv x0 (2 ^ (min (x1.toNat) (IntKind.bits .i64)))) 1) == 1))) (Q false))) (Q false))
def wp.qcj (x0 : Int) (Q : (List Int) → Prop) : Prop :=
 qd7 (σ := (List Int) × Int × Unit) (fun (p54 : (List Int) × Int × Unit) next31 => match p54 with | (xs24, i27, _) => qa1 (decide (i27 < 8)) ((∀ r33, r33 = M.qcQ x0 i27 → qa1 r33 (((xs24.length + ([i27] : List Int).length ≤ 17179869184) ∧ next31 ((xs24 ++ ([i27] : List Int)), (wrap .i64 (i27 + 1)), ()))) (next31 (xs24, (wrap .i64 (i27 + 1)), ())))) (Q xs24)) (([] : List Int), 0, ())
end Go.V
namespace Go.V
open IntKind (wrap)
theorem wp.qar.math (x a b : Int) : wp.qar x a b (fun r => r = M.qar x a b) := by
 simp only [wp.qar, qgP, M.qar, M.isIn]
 exact ⟨fun h => by simp at h; simp [h], fun h => by simp at h; simp; omega⟩
theorem wp.qaQ.math (x a b : Int) : wp.qaQ x a b (fun r => r = M.qaQ x a b) := wp.qar.math x a b
theorem wp.qbD.math (x : Int) : wp.qbD x (fun r => r = M.qbD x) := fun r h => h
theorem wp.qb4.math (x : Int) : wp.qb4 x (fun r => r = M.qb4 x) := fun r h => h
theorem wp.qdf.math (x : Int) : wp.qdf x (fun r => r = M.qdf x) := fun r h => h
theorem wp.qdM.math (x : Int) : wp.qdM x (fun r => r = M.qdM x) := fun r h => h
theorem wp.qcQ.math (m l : Int) : wp.qcQ m l (fun r => r = M.qcQ m l) := by
 intro r1 h1
 refine qa3 (fun e1 r2 h2 => qa3 (fun e2 => ?_) fun e2 => ?_) fun e1 => ?_
 ·have : M.qio l = true := by rw [← e2, h2]; rfl
  have h0 : 0 ≤ l := by simp [M.qio, M.isIn] at this; omega
  refine ⟨h0, ?_⟩
  have e1' : M.qfM m = true := by rw [← e1, h1]; rfl
  simp [M.qcQ, M.qdo, e1', this]
 ·have : M.qio l = false := by rw [← e2, h2]; rfl
  simp [M.qcQ, M.qdo, this]
 ·have : M.qfM m = false := by rw [← e1, h1]; rfl
  simp [M.qcQ, M.qdo, this]
theorem wp.qcj.math (m : Int) : wp.qcj m (fun r => r = M.qcj m) := by
 unfold wp.qcj
 refine ⟨fun k p => (k : Int) = 8 - p.2.1 ∧ 0 ≤ p.2.1 ∧ p.2.1 ≤ 8 ∧ p.1 = ([0, 1, 2, 3, 4, 5, 6, 7].take p.2.1.toNat).filter (M.qdo m), ⟨8, by simp⟩, ?_⟩
 rintro k ⟨xs, i, _⟩ ⟨hk, h0, h8, hx⟩
 simp only at hk h0 h8 hx ⊢
 refine qa3 (fun e => ?_) fun e => ?_
 ·have hlt : i < 8 := by simpa using e
  intro r hr
  have hs : (([0, 1, 2, 3, 4, 5, 6, 7] : List Int).take (i + 1).toNat) = ([0, 1, 2, 3, 4, 5, 6, 7] : List Int).take i.toNat ++ [i] := by
   have : i = 0 ∨ i = 1 ∨ i = 2 ∨ i = 3 ∨ i = 4 ∨ i = 5 ∨ i = 6 ∨ i = 7 := by omega
   rcases this with rfl | rfl | rfl | rfl | rfl | rfl | rfl | rfl <;> rfl
  have hw : wrap .i64 (i + 1) = i + 1 := w64 (by omega) (by omega)
  refine qa3 (fun e2 => ⟨?_, (k - 1), by omega, ?_⟩) fun e2 => ⟨k - 1, by omega, ?_⟩
  ·rw [hx]
   have := List.length_filter_le (M.qdo m) (([0, 1, 2, 3, 4, 5, 6, 7] : List Int).take i.toNat)
   simp at this ⊢; omega
  ·simp only [hw, hs, List.filter_append]
   refine ⟨by omega, by omega, by omega, ?_⟩
   rw [hx, List.filter_cons, if_pos (by rw [← e2, hr]; rfl)]; rfl
  ·simp only [hw, hs, List.filter_append]
   refine ⟨by omega, by omega, by omega, ?_⟩
   rw [hx, List.filter_cons, if_neg (by rw [show M.qdo m i = r from hr.symm, e2]; simp)]; simp
 ·have : i = 8 := by simp at e; omega
  subst this
  rw [hx]; rfl
end Go.V
namespace Go.V
open IntKind (wrap)
def wp.qbq (x0 : Int) (Q : Int → Prop) : Prop :=
 Q (Int.tmod (wrap .i64 ((Int.tmod x0 65536) + 65536)) 65536)
def wp.qbr (x0 : Int) (x1 : Int) (Q : Int → Prop) : Prop :=
 (∀ r21, r21 = M.qb4 x0 → qa1 (!r21) (Q 0) ((∀ r26, r26 = M.qb4 x1 → qa1 (!r26) (Q 0) ((∀ r31, r31 = M.qbq (wrap .i64 (x0 + x1)) → Q r31)))))
def wp.qam (xs0 : List Int) (g1 : Int → Bool) (D1 : Int → Prop) (Q : Int → Prop) : Prop :=
 qd7 (σ := Int × Unit) (fun (p42 : Int × Unit) next25 => match p42 with | (i21, _) => qa1 (decide (i21 < (xs0.length : Int))) (((0 ≤ i21 ∧ i21 < (xs0.length : Int)) ∧ (D1 (rd xs0 i21) ∧ ∀ r32, r32 = g1 (rd xs0 i21) → qa1 r32 (Q i21) (next25 ((wrap .i64 (i21 + 1)), ()))))) (Q (-1))) (0, ())
def wp.qak (xs0 : List Int) (g1 : Int → Bool) (D1 : Int → Prop) (Q : Bool → Prop) : Prop :=
 (M.qdm xs0 g1 D1 ∧ ∀ r21, r21 = M.qam xs0 g1 → Q (decide (r21 ≥ 0)))
def wp.qbR (x0 : Int) (Q : Bool → Prop) : Prop :=
 (∀ r21, r21 = M.qbD x0 → Q (!r21))
def wp.qbT (xs0 : List Int) (Q : Bool → Prop) : Prop :=
 (M.qcU xs0 (fun z0_ => M.qbR z0_) (fun _ => True) ∧ ∀ r21, r21 = M.qak xs0 (fun z0_ => M.qbR z0_) → Q (!r21))
def wp.qcW (x0 : Int) (Q : Int → Prop) : Prop :=
 Q (qdH .i64 x0 65535)
def wp.qbk (x0 : Int) (x1 : Int) (x2 : Int) (Q : Int → Prop) : Prop :=
 (∀ r21, r21 = M.qbD x0 → qa1 (!r21) (Q 0) ((∀ r26, r26 = M.qbD x1 → qa1 (!r26) (Q 0) ((∀ r31, r31 = M.qcW x2 → Q r31)))))
def wp.qbQ (x0 : Int) (x1 : Int) (Q : Int → Prop) : Prop :=
 (∀ r21, r21 = M.qbk x0 x1 (wrap .i64 (x0 + x1)) → Q r21)
def wp.qdQ (x0 : Int) (Q : Bool → Prop) : Prop :=
 (∀ r21, r21 = M.qaQ x0 0 255 → Q r21)
def wp.qbG (x0 : Int) (x1 : Int) (Q : Bool → Prop) : Prop :=
 (∀ r21, r21 = M.qdQ x0 → qa1 r21 ((∀ r26, r26 = M.qaQ x1 0 7 → qa1 r26 (((0 ≤ x1) ∧ Q ((qdH .i64 (Int.fdiv x0 (2 ^ (min (x1.toNat) (IntKind.bits .i64)))) 1) == 1))) (Q false))) (Q false))
end Go.V
namespace Go.V
open IntKind (wrap)
theorem qdL {x : Int} : M.isWord x = true ↔ 0 ≤ x ∧ x ≤ 65535 := by simp [M.isWord, M.isIn]
theorem qmw {x : Int} : M.qio x = true ↔ 0 ≤ x ∧ x ≤ 7 := by simp [M.qio, M.isIn]
theorem qgg {α : Type} [Inhabited α] {xs : List α} {k : Nat} (h : k < xs.length) : rd xs (k : Int) ∈ xs := by rw [qdU h]; exact List.getElem_mem h
theorem nt {r x : Bool} (e : (!r) = true) (h : r = x) : x = false := by subst h; simpa using e
theorem nf {r x : Bool} (e : (!r) = false) (h : r = x) : x = true := by subst h; simpa using e
theorem qmp (x : Int) : qdH .i64 x 65535 = x % 65536 := by
 unfold qdH
 have e1 : (BitVec.ofInt (IntKind.bits .i64) x &&& BitVec.ofInt (IntKind.bits .i64) 65535).toNat = (x % 65536).toNat := by
  show (BitVec.ofInt 64 x &&& BitVec.ofInt 64 65535).toNat = _
  rw [BitVec.toNat_and, BitVec.toNat_ofInt, show (BitVec.ofInt 64 65535).toNat = 2 ^ 16 - 1 from rfl, Nat.and_two_pow_sub_one_eq_mod]
  rw [show ((2 ^ 64 : Nat) : Int) = 18446744073709551616 from rfl]
  omega
 rw [e1, w64 (by omega) (by omega)]
 omega
theorem wp.qcW.math (x : Int) : wp.qcW x (fun r => r = M.qcW x) := qmp x
theorem wp.qbq.math (x : Int) : wp.qbq x (fun r => r = M.qbq x) := by
 show Int.tmod (wrap .i64 (Int.tmod x 65536 + 65536)) 65536 = x % 65536
 have h1 : Int.tmod x 65536 < 65536 := Int.tmod_lt_of_pos x (by omega)
 have h2 : -65536 < Int.tmod x 65536 := by
  have := Int.tmod_lt_of_pos (-x) (b := 65536) (by omega)
  rw [Int.neg_tmod] at this; omega
 rw [w64 (by omega) (by omega), Int.tmod_eq_emod_of_nonneg (by omega)]
 have h3 : x = 65536 * Int.tdiv x 65536 + Int.tmod x 65536 := (Int.mul_tdiv_add_tmod x 65536).symm
 omega
theorem wp.qbr.math (a b : Int) : wp.qbr a b (fun r => r = M.qbr a b) := by
 intro r1 h1
 refine qa3 (fun e1 => ?_) fun e1 r2 h2 => qa3 (fun e2 => ?_) fun e2 r3 h3 => ?_
 ·have : M.isWord a = false := nt e1 h1
  simp [M.qbr, M.addW, this]
 ·have : M.isWord b = false := nt e2 h2
  simp [M.qbr, M.addW, this]
 ·have ha : M.isWord a = true := nf e1 h1
  have hb : M.isWord b = true := nf e2 h2
  have := qdL.1 ha
  have := qdL.1 hb
  rw [h3, w64 (by omega) (by omega)]
  simp [M.qbr, M.addW, M.qbq, ha, hb]
theorem wp.qbk.math (a b n : Int) : wp.qbk a b n (fun r => r = M.qbk a b n) := by
 intro r1 h1
 refine qa3 (fun e1 => ?_) fun e1 r2 h2 => qa3 (fun e2 => ?_) fun e2 r3 h3 => ?_
 ·have : M.isWord a = false := nt e1 h1
  simp [M.qbk, this]
 ·have : M.isWord b = false := nt e2 h2
  simp [M.qbk, this]
 ·have ha : M.isWord a = true := nf e1 h1
  have hb : M.isWord b = true := nf e2 h2
  rw [h3]
  simp [M.qbk, M.qcW, ha, hb]
theorem wp.qbQ.math (a b : Int) : wp.qbQ a b (fun r => r = M.qbQ a b) := by
 intro r hr
 rw [hr]
 simp only [M.qbk, M.qbQ, M.addW]
 by_cases h : (M.isWord a && M.isWord b) = true
 ·rw [if_pos h, if_pos h]
  simp only [Bool.and_eq_true, qdL] at h
  rw [w64 (by omega) (by omega)]
 ·rw [if_neg h, if_neg h]
theorem qgU {α : Type} [Inhabited α] (g : α → Bool) (l : List α) : ∀ (k : Nat), k < l.length → M.qe9 g (l.drop k) k = if g (rd l (k : Int)) then (k : Int) else M.qe9 g (l.drop (k + 1)) (k + 1) := by
 intro k hk
 rw [List.drop_eq_getElem_cons hk, qdU hk]; rfl
theorem wp.qam.math (l : List Int) (g : Int → Bool) (D : Int → Prop) (h : M.qdm l g D) : wp.qam l g D (fun r => r = M.qam l g) := by
 unfold wp.qam
 obtain ⟨h1, h2⟩ := h
 refine qd9 l.length (fun k => ((k : Int), ())) (fun k => M.qam l g = M.qe9 g (l.drop k) k) rfl (by simp [M.qam]) (fun k hk hF next hn => ?_) fun hF next => ?_
 ·rw [qgU g l k hk] at hF
  refine qaE (by simp; omega) ⟨by omega, h2 _ (qgg hk), fun r hr => qa3 (fun e => ?_) fun e => ?_⟩
  ·rw [hF, if_pos (by rw [← hr]; exact e)]
  ·rw [up64 hk h1]
   exact hn (by rw [hF, if_neg (by rw [← hr, e]; simp)])
 ·refine qaC (by simp) ?_
  rw [hF]; simp [M.qe9]
theorem qf3 {α : Type} (g : α → Bool) : ∀ (l : List α) (k : Nat), decide (M.qe9 g l k ≥ 0) = l.any g
 | [], k => by simp [M.qe9]
 | x :: l, k => by
  simp only [M.qe9, List.any_cons]
  by_cases hx : g x = true
  ·simp [hx]
  ·simp only [hx, Bool.false_eq_true, if_false, Bool.false_or]; simpa [hx] using qf3 g l (k + 1)
theorem wp.qak.math (l : List Int) (g : Int → Bool) (D : Int → Prop) (h : M.qcU l g D) : wp.qak l g D (fun r => r = M.qak l g) :=
 ⟨h, fun r hr => by rw [hr]; exact qf3 g l 0⟩
theorem wp.qbR.math (x : Int) : wp.qbR x (fun r => r = M.qbR x) := fun r hr => by rw [hr]; rfl
theorem wp.qbT.math (l : List Int) (h : M.qeS l) : wp.qbT l (fun r => r = M.qbT l) := by
 refine ⟨⟨h, fun _ _ => trivial⟩, fun r hr => ?_⟩
 rw [hr]
 simp only [M.qak, M.qbT, M.qbR]
 rw [← List.all_eq_not_any_not]
theorem wp.qdQ.math (x : Int) : wp.qdQ x (fun r => r = M.qdQ x) := fun r hr => hr
theorem wp.qbG.math (m l : Int) : wp.qbG m l (fun r => r = M.qbG m l) := by
 intro r1 h1
 refine qa3 (fun e1 r2 h2 => qa3 (fun e2 => ?_) fun e2 => ?_) fun e1 => ?_
 ·have : M.qio l = true := by rw [← e2, h2]; rfl
  have h0 : 0 ≤ l := (qmw.1 this).1
  refine ⟨h0, ?_⟩
  have e1' : M.qfM m = true := by rw [← e1, h1]; rfl
  simp [M.qbG, M.qdo, e1', this]
 ·have : M.qio l = false := by rw [← e2, h2]; rfl
  simp [M.qbG, M.qdo, this]
 ·have : M.qfM m = false := by rw [← e1, h1]; rfl
  simp [M.qbG, M.qdo, this]
theorem qmu (x : Int) : M.isWord (x % 65536) = true := qdL.2 ⟨by omega, by omega⟩
end Go.V
namespace Go.V
open IntKind (wrap)
def wp.qcA (s0 : D.Ins) (Q : Bool → Prop) : Prop :=
 (∀ r23, r23 = M.qaQ s0.Op 0 12 → Q r23)
def wp.qaZ (x0 : Int) (Q : Bool → Prop) : Prop :=
 (∀ r21, r21 = M.qaQ x0 0 3 → Q r21)
def wp.qdJ (s0 : D.Ins) (x1 : Int) (Q : Bool → Prop) : Prop :=
 (∀ r23, r23 = M.qaQ x1 0 32 → qa1 (!r23) (Q false) (qeZ (σ := Bool × Unit) (fun J29 => qa1 (s0.Op == 0) (J29 (true, ())) (qa1 (s0.Op == 12) (J29 (true, ())) (J29 ((s0.Op == 16), ())))) (fun (p124 : Bool × Unit) => match p124 with | (b28, _) => qa1 b28 (qa1 (s0.A == 0) (qa1 (s0.B == 0) (Q (s0.C == 0)) (Q false)) (Q false)) (qa1 (s0.Op == 1) ((∀ r36, r36 = M.qaZ s0.A → qa1 r36 ((∀ r41, r41 = M.qb4 s0.B → qa1 r41 (Q (s0.C == 0)) (Q false))) (Q false))) (qeZ (σ := Bool × Unit) (fun J49 => qa1 (s0.Op == 2) (J49 (true, ())) (qa1 (s0.Op == 13) (J49 (true, ())) (qa1 (s0.Op == 14) (J49 (true, ())) (J49 ((s0.Op == 15), ()))))) (fun (p120 : Bool × Unit) => match p120 with | (b48, _) => qa1 b48 ((∀ r55, r55 = M.qaZ s0.A → qa1 r55 ((∀ r60, r60 = M.qaZ s0.B → qa1 r60 (Q (s0.C == 0)) (Q false))) (Q false))) (qa1 (s0.Op == 8) ((∀ r67, r67 = M.qaZ s0.A → qa1 r67 (qa1 (s0.B == 0) (Q (s0.C == 0)) (Q false)) (Q false))) (qa1 (s0.Op == 10) ((∀ r74, r74 = M.qaZ s0.A → qa1 r74 ((∀ r79, r79 = M.qaQ s0.B 0 x1 → qa1 r79 (Q (s0.C == 0)) (Q false))) (Q false))) (qa1 (s0.Op == 11) (qa1 (s0.A == 0) ((∀ r86, r86 = M.qaQ s0.B 0 x1 → qa1 r86 (Q (s0.C == 0)) (Q false))) (Q false)) ((∀ r93, r93 = M.qaQ s0.Op 3 9 → qa1 r93 ((∀ r98, r98 = M.qaZ s0.A → qa1 r98 ((∀ r103, r103 = M.qaZ s0.B → qa1 r103 ((∀ r108, r108 = M.qaZ s0.C → Q r108)) (Q false))) (Q false))) (Q false))))))))))))
def wp.qb6 (xs0 : List D.Ins) (Q : Bool → Prop) : Prop :=
 qd7 (σ := Int × Unit) (fun (p42 : Int × Unit) next25 => match p42 with | (i21, _) => qa1 (decide (i21 < (xs0.length : Int))) (((0 ≤ i21 ∧ i21 < (xs0.length : Int)) ∧ (∀ r32, r32 = M.qdJ (rd xs0 i21) (xs0.length : Int) → qa1 (!r32) (Q false) (next25 ((wrap .i64 (i21 + 1)), ()))))) (Q (decide ((xs0.length : Int) ≤ 32)))) (0, ())
def wp.qbP (x0 : Int) (x1 : Int) (Q : Int → Prop) : Prop :=
 (∀ r21, r21 = M.qb4 x0 → qa1 (!r21) (Q 0) ((∀ r26, r26 = M.qb4 x1 → qa1 (!r26) (Q 0) ((∀ r31, r31 = M.qbq (wrap .i64 (x0 - x1)) → Q r31)))))
def wp.qbN (x0 : Int) (x1 : Int) (Q : Int → Prop) : Prop :=
 (∀ r21, r21 = M.qb4 x0 → qa1 (!r21) (Q 0) ((∀ r26, r26 = M.qb4 x1 → qa1 (!r26) (Q 0) ((∀ r31, r31 = M.qbq (wrap .i64 (x0 * x1)) → Q r31)))))
def wp.qbc (x0 : Int) (x1 : Int) (Q : Int → Prop) : Prop :=
 (∀ r21, r21 = M.qb4 x0 → qa1 r21 ((∀ r26, r26 = M.qb4 x1 → qa1 r26 (qa1 (decide (x0 < x1)) (Q 1) (Q 0)) (Q 0))) (Q 0))
def wp.qaY (s0 : D.Ins) (x1 : Int) (xs2 : List Int) (Q : (List Int) → Prop) : Prop :=
 ((([] : List Int).length + xs2.length ≤ 17179869184) ∧ qa1 (s0.Op == 1) (((0 ≤ s0.A ∧ s0.A < ((([] : List Int) ++ xs2).length : Int)) ∧ Q (List.set (([] : List Int) ++ xs2) (s0.A.toNat) s0.B))) (qa1 (s0.Op == 2) (((0 ≤ s0.B ∧ s0.B < (xs2.length : Int)) ∧ ((0 ≤ s0.A ∧ s0.A < ((([] : List Int) ++ xs2).length : Int)) ∧ Q (List.set (([] : List Int) ++ xs2) (s0.A.toNat) (rd xs2 s0.B))))) (qa1 (s0.Op == 3) (((0 ≤ s0.B ∧ s0.B < (xs2.length : Int)) ∧ ((0 ≤ s0.C ∧ s0.C < (xs2.length : Int)) ∧ (∀ r84, r84 = M.qbr (rd xs2 s0.B) (rd xs2 s0.C) → ((0 ≤ s0.A ∧ s0.A < ((([] : List Int) ++ xs2).length : Int)) ∧ Q (List.set (([] : List Int) ++ xs2) (s0.A.toNat) r84)))))) (qa1 (s0.Op == 4) (((0 ≤ s0.B ∧ s0.B < (xs2.length : Int)) ∧ ((0 ≤ s0.C ∧ s0.C < (xs2.length : Int)) ∧ (∀ r128, r128 = M.qbP (rd xs2 s0.B) (rd xs2 s0.C) → ((0 ≤ s0.A ∧ s0.A < ((([] : List Int) ++ xs2).length : Int)) ∧ Q (List.set (([] : List Int) ++ xs2) (s0.A.toNat) r128)))))) (qa1 (s0.Op == 5) (((0 ≤ s0.B ∧ s0.B < (xs2.length : Int)) ∧ ((0 ≤ s0.C ∧ s0.C < (xs2.length : Int)) ∧ (∀ r172, r172 = M.qbN (rd xs2 s0.B) (rd xs2 s0.C) → ((0 ≤ s0.A ∧ s0.A < ((([] : List Int) ++ xs2).length : Int)) ∧ Q (List.set (([] : List Int) ++ xs2) (s0.A.toNat) r172)))))) (qa1 (s0.Op == 6) (((0 ≤ s0.B ∧ s0.B < (xs2.length : Int)) ∧ ((0 ≤ s0.C ∧ s0.C < (xs2.length : Int)) ∧ ((0 ≤ s0.A ∧ s0.A < ((([] : List Int) ++ xs2).length : Int)) ∧ Q (List.set (([] : List Int) ++ xs2) (s0.A.toNat) (qgK .i64 (rd xs2 s0.B) (rd xs2 s0.C))))))) (qa1 (s0.Op == 7) (((0 ≤ s0.B ∧ s0.B < (xs2.length : Int)) ∧ ((0 ≤ s0.C ∧ s0.C < (xs2.length : Int)) ∧ (∀ r235, r235 = M.qbc (rd xs2 s0.B) (rd xs2 s0.C) → ((0 ≤ s0.A ∧ s0.A < ((([] : List Int) ++ xs2).length : Int)) ∧ Q (List.set (([] : List Int) ++ xs2) (s0.A.toNat) r235)))))) (qa1 (s0.Op == 8) (((0 ≤ s0.A ∧ s0.A < ((([] : List Int) ++ xs2).length : Int)) ∧ Q (List.set (([] : List Int) ++ xs2) (s0.A.toNat) x1))) (qa1 (s0.Op == 9) (((0 ≤ s0.C ∧ s0.C < (xs2.length : Int)) ∧ qa1 ((rd xs2 s0.C) != 0) (((0 ≤ s0.B ∧ s0.B < (xs2.length : Int)) ∧ ((0 ≤ s0.A ∧ s0.A < ((([] : List Int) ++ xs2).length : Int)) ∧ Q (List.set (([] : List Int) ++ xs2) (s0.A.toNat) (rd xs2 s0.B))))) (Q (([] : List Int) ++ xs2)))) (Q (([] : List Int) ++ xs2)))))))))))
def wp.qao (xs0 : List Int) (Q : (List Int) → Prop) : Prop :=
 (∀ b21 : Bool, (b21 = true → xs0 = []) → qa1 b21 (Q ([] : List Int)) (((([] : List Int).length + xs0.length ≤ 17179869184) ∧ Q (([] : List Int) ++ xs0))))
def wp.qdB (x0 : Int) (Q : ByteArray → Prop) : Prop :=
 (∀ r21, r21 = M.qar x0 0 16 → qa1 (!r21) (Q (⟨#[]⟩)) (((0 ≤ x0 ∧ x0 < (([⟨#[45, 45, 45]⟩, ⟨#[82, 87, 45]⟩, ⟨#[82, 82, 45]⟩, ⟨#[82, 82, 82]⟩, ⟨#[82, 82, 82]⟩, ⟨#[82, 82, 82]⟩, ⟨#[82, 82, 82]⟩, ⟨#[82, 82, 82]⟩, ⟨#[82, 45, 45]⟩, ⟨#[82, 82, 82]⟩, ⟨#[82, 84, 45]⟩, ⟨#[45, 84, 45]⟩, ⟨#[45, 45, 45]⟩, ⟨#[82, 82, 45]⟩, ⟨#[82, 82, 45]⟩, ⟨#[82, 82, 45]⟩, ⟨#[45, 45, 45]⟩] : List ByteArray).length : Int)) ∧ Q (rd ([⟨#[45, 45, 45]⟩, ⟨#[82, 87, 45]⟩, ⟨#[82, 82, 45]⟩, ⟨#[82, 82, 82]⟩, ⟨#[82, 82, 82]⟩, ⟨#[82, 82, 82]⟩, ⟨#[82, 82, 82]⟩, ⟨#[82, 82, 82]⟩, ⟨#[82, 45, 45]⟩, ⟨#[82, 82, 82]⟩, ⟨#[82, 84, 45]⟩, ⟨#[45, 84, 45]⟩, ⟨#[45, 45, 45]⟩, ⟨#[82, 82, 45]⟩, ⟨#[82, 82, 45]⟩, ⟨#[82, 82, 45]⟩, ⟨#[45, 45, 45]⟩] : List ByteArray) x0))))
def wp.qe0 (x0 : Int) (Q : Bool → Prop) : Prop :=
 (∀ r21, r21 = M.qar x0 0 3 → Q r21)
def wp.qaD (x0 : Int) (x1 : Int) (x2 : Int) (Q : Bool → Prop) : Prop :=
 qa1 (x0 == 82) ((∀ r21, r21 = M.qe0 x1 → Q r21)) (qa1 (x0 == 87) ((∀ r26, r26 = M.qbD x1 → Q r26)) (qa1 (x0 == 84) ((∀ r31, r31 = M.qar x1 0 x2 → Q r31)) (Q (x1 == 0))))
def wp.qb0 (s0 : D.Ins) (x1 : Int) (Q : Bool → Prop) : Prop :=
 (∀ r23, r23 = M.qdB s0.Op → qa1 (!(ByteArray.toList r23 == ByteArray.toList (⟨#[]⟩))) ((∀ r28, r28 = M.qar x1 0 32 → qa1 r28 (((0 ≤ (0 : Int) ∧ (0 : Int) < ((ByteArray.size r23 : Nat) : Int)) ∧ (M.qdu (bt r23 0) s0.A x1 ∧ ∀ r38, r38 = M.qaD (bt r23 0) s0.A x1 → qa1 r38 (((0 ≤ (1 : Int) ∧ (1 : Int) < ((ByteArray.size r23 : Nat) : Int)) ∧ (M.qdu (bt r23 1) s0.B x1 ∧ ∀ r48, r48 = M.qaD (bt r23 1) s0.B x1 → qa1 r48 (((0 ≤ (2 : Int) ∧ (2 : Int) < ((ByteArray.size r23 : Nat) : Int)) ∧ (M.qdu (bt r23 2) s0.C x1 ∧ ∀ r58, r58 = M.qaD (bt r23 2) s0.C x1 → Q r58))) (Q false)))) (Q false)))) (Q false))) (Q false))
def wp.qbz (s0 : D.Ins) (xs1 : List D.Ins) (Q : Bool → Prop) : Prop :=
 (∀ r23, r23 = M.qb0 s0 (xs1.length : Int) → Q (!r23))
def wp.qae (xs0 : List D.Ins) (g1 : D.Ins → Bool) (D1 : D.Ins → Prop) (Q : Int → Prop) : Prop :=
 qd7 (σ := Int × Unit) (fun (p42 : Int × Unit) next25 => match p42 with | (i21, _) => qa1 (decide (i21 < (xs0.length : Int))) (((0 ≤ i21 ∧ i21 < (xs0.length : Int)) ∧ (D1 (rd xs0 i21) ∧ ∀ r32, r32 = g1 (rd xs0 i21) → qa1 r32 (Q i21) (next25 ((wrap .i64 (i21 + 1)), ()))))) (Q (-1))) (0, ())
def wp.qaf (xs0 : List D.Ins) (g1 : D.Ins → Bool) (D1 : D.Ins → Prop) (Q : Bool → Prop) : Prop :=
 (M.qcX xs0 g1 D1 ∧ ∀ r21, r21 = M.qae xs0 g1 → Q (decide (r21 ≥ 0)))
def wp.qbe (xs0 : List D.Ins) (Q : Bool → Prop) : Prop :=
 qa1 (decide ((xs0.length : Int) ≤ 32)) ((M.qcD xs0 (fun z0_ => M.qbz z0_ xs0) (fun _ => True) ∧ ∀ r23, r23 = M.qaf xs0 (fun z0_ => M.qbz z0_ xs0) → Q (!r23))) (Q false)
def wp.qcz (s0 : D.Ins) (Q : Bool → Prop) : Prop :=
 (∀ r23, r23 = M.qar s0.Op 0 12 → Q r23)
def wp.qcq (x0 : Int) (x1 : Int) (Q : Int → Prop) : Prop :=
 (∀ r21, r21 = M.qbk x0 x1 (wrap .i64 (x0 - x1)) → Q r21)
def wp.qcn (x0 : Int) (x1 : Int) (Q : Int → Prop) : Prop :=
 (∀ r21, r21 = M.qbk x0 x1 (wrap .i64 (x0 * x1)) → Q r21)
def wp.qcd (x0 : Int) (x1 : Int) (Q : Int → Prop) : Prop :=
 (∀ r21, r21 = M.qbD x0 → qa1 r21 ((∀ r26, r26 = M.qbD x1 → qa1 r26 (qa1 (decide (x0 < x1)) (Q 1) (Q 0)) (Q 0))) (Q 0))
end Go.V
namespace Go.V
open IntKind (wrap)
theorem bcq {b x z : Bool} : qa1 b (x = z) (false = z) ↔ (b && x) = z := by cases b <;> simp [qa1]
theorem wp.qao.math (l : List Int) (h : M.qaP l) : wp.qao l (fun r => r = M.qao l) := by
 intro b hb
 refine qa3 (fun e => ?_) fun e => ⟨by simpa [M.qaP] using h, rfl⟩
 rw [hb e]; rfl
theorem wp.qcA.math (i : D.Ins) : wp.qcA i (fun r => r = M.qcA i) := fun r hr => hr
theorem wp.qcz.math (i : D.Ins) : wp.qcz i (fun r => r = M.qcz i) := fun r hr => hr
theorem wp.qaZ.math (x : Int) : wp.qaZ x (fun r => r = M.qaZ x) := fun r hr => hr
theorem wp.qe0.math (x : Int) : wp.qe0 x (fun r => r = M.qe0 x) := fun r hr => hr
theorem wp.qdJ.math (i : D.Ins) (n : Int) : wp.qdJ i n (fun r => r = M.qdJ i n) := by
 simp only [wp.qdJ, qeZ, forall_eq, M.qaQ, M.qaZ, M.qb4, bcq, M.qdJ, M.qdw]
 refine qa3 (fun e => ?_) fun e => ?_
 ·have hn : M.isIn n 0 32 = false := by simpa using e
  simp [hn]
 have hn : M.isIn n 0 32 = true := by simpa using e
 rw [hn, Bool.true_and]
 by_cases h0 : i.Op = 0
 ·simp [h0, qa1, Bool.and_assoc]
 by_cases h12 : i.Op = 12
 ·simp [h12, qa1, Bool.and_assoc]
 by_cases h16 : i.Op = 16
 ·simp [h16, qa1, Bool.and_assoc]
 by_cases h1 : i.Op = 1
 ·simp [h1, qa1, Bool.and_assoc]
 by_cases h2 : i.Op = 2
 ·simp [h2, qa1, Bool.and_assoc]
 by_cases h13 : i.Op = 13
 ·simp [h13, qa1, Bool.and_assoc]
 by_cases h14 : i.Op = 14
 ·simp [h14, qa1, Bool.and_assoc]
 by_cases h15 : i.Op = 15
 ·simp [h15, qa1, Bool.and_assoc]
 by_cases h8 : i.Op = 8
 ·simp [h8, qa1, Bool.and_assoc]
 by_cases h10 : i.Op = 10
 ·simp [h10, qa1, Bool.and_assoc]
 by_cases h11 : i.Op = 11
 ·simp [h11, qa1, Bool.and_assoc]
 have b0 : (i.Op == 0) = false := by simp [h0]
 have b12 : (i.Op == 12) = false := by simp [h12]
 have b16 : (i.Op == 16) = false := by simp [h16]
 have b1 : (i.Op == 1) = false := by simp [h1]
 have b2 : (i.Op == 2) = false := by simp [h2]
 have b13 : (i.Op == 13) = false := by simp [h13]
 have b14 : (i.Op == 14) = false := by simp [h14]
 have b15 : (i.Op == 15) = false := by simp [h15]
 have b8 : (i.Op == 8) = false := by simp [h8]
 have b10 : (i.Op == 10) = false := by simp [h10]
 have b11 : (i.Op == 11) = false := by simp [h11]
 simp only [b0, b12, b16, b1, b2, b13, b14, b15, b8, b10, b11, qa1, h0, h12, h16, h1, h2, h13, h14, h15, h8, h10, h11, or_self, if_false]
theorem qmd {α : Type} [Inhabited α] {l : List α} {g : α → Bool} (hl : M.Long l) {B : (Int × Unit) → ((Int × Unit) → Prop) → Prop} {Q : Bool → Prop}
    (hb : ∀ (k : Nat) (next : (Int × Unit) → Prop), k < l.length → (g (rd l (k : Int)) = false → l.all g = false → Q false) → (g (rd l (k : Int)) = true → next (((k + 1 : Nat) : Int), ())) → B ((k : Int), ()) next)
    (he : ∀ (next : (Int × Unit) → Prop), l.all g = true → B ((l.length : Int), ()) next) (hQ : l.all g = false → Q false) : qd7 B (0, ()) := by
 refine qd9 l.length (fun k => ((k : Int), ())) (fun k => (l.take k).all g = true) rfl (by simp) (fun k hk hF next hn => ?_) fun hF next => ?_
 ·refine hb k next hk (fun e h => hQ h) fun e => ?_
  rw [qdU hk] at e
  exact hn (qi9 hk hF e)
 ·rw [List.take_length] at hF
  exact he next hF
theorem all_false {α : Type} [Inhabited α] {l : List α} {g : α → Bool} {k : Nat} (hk : k < l.length) (e : g (rd l (k : Int)) = false) : l.all g = false := by
 rw [qdU hk] at e; exact qov hk e
theorem wp.qb6.math (p : List D.Ins) (h : M.qeb p) : wp.qb6 p (fun r => r = M.qb6 p) := by
 unfold wp.qb6
 refine qmd (g := fun i => M.qdw i p.length) (Q := fun r => r = M.qaW p) h (fun k next hk h1 h2 => ?_) (fun next ha => ?_) fun ha => by simp only [M.qaW, ha, Bool.and_false]
 ·refine qaE (by simp; omega) ⟨by omega, fun r hr => qa3 (fun e => ?_) fun e => ?_⟩
  ·have := nt e hr
   exact h1 this (all_false (g := fun i => M.qdw i p.length) hk this)
  ·rw [up64 hk h]; exact h2 (nf e hr)
 ·refine qaC (by simp) ?_
  simp only [M.qb6, M.qaW, ha, Bool.and_true]
  by_cases h32 : p.length ≤ 32
  ·simp [h32]; omega
  ·simp [h32]; omega
theorem wp.qdB.math (op : Int) : wp.qdB op (fun r => r = M.qdB op) := by
 intro r hr
 refine qa3 (fun e => ?_) fun e => ?_
 ·have : M.isIn op 0 16 = false := nt e hr
  have h' : ¬ (0 ≤ op ∧ op ≤ 16) := by simpa [M.isIn] using this
  have h2 : M.isIn op 3 9 = false := by simp [M.isIn]; omega
  simp only [M.qdB, M.qho, h2]
  rw [if_neg (by omega), if_neg (by omega), if_neg (by omega), if_neg (by omega), if_neg (by omega), if_neg (by omega)]
  rfl
 ·have : M.isIn op 0 16 = true := nf e hr
  have h' : 0 ≤ op ∧ op ≤ 16 := by simpa [M.isIn] using this
  refine ⟨by simp; omega, ?_⟩
  have : op = 0 ∨ op = 1 ∨ op = 2 ∨ op = 3 ∨ op = 4 ∨ op = 5 ∨ op = 6 ∨ op = 7 ∨ op = 8 ∨ op = 9 ∨ op = 10 ∨ op = 11 ∨ op = 12 ∨ op = 13 ∨ op = 14 ∨ op = 15 ∨ op = 16 := by omega
  rcases this with rfl | rfl | rfl | rfl | rfl | rfl | rfl | rfl | rfl | rfl | rfl | rfl | rfl | rfl | rfl | rfl | rfl <;> rfl
theorem wp.qaD.math (f x n : Int) (h : M.qdu f x n) : wp.qaD f x n (fun r => r = M.qaD f x n) := by
 refine qa3 (fun e r hr => ?_) fun e1 => qa3 (fun e r hr => ?_) fun e2 => qa3 (fun e r hr => ?_) fun e3 => ?_
 ·simp at e; simp [M.qaD, e, hr, M.qe0]
 ·simp at e; simp [M.qaD, e, hr, M.qbD]
 ·simp at e; simp [M.qaD, e, hr, M.qar]
 ·simp at e1 e2 e3; simp [M.qaD, e1, e2, e3]
theorem qoy {a b : ByteArray} (h : ByteArray.toList a ≠ ByteArray.toList b) : (!(ByteArray.toList a == ByteArray.toList b)) = true := by simp [h]
theorem qkR (op : Int) : (M.qho op = ⟨#[45, 45, 45]⟩ ∧ (op = 0 ∨ op = 12 ∨ op = 16)) ∨ (M.qho op = ⟨#[82, 87, 45]⟩ ∧ op = 1) ∨ (M.qho op = ⟨#[82, 82, 45]⟩ ∧ (op = 2 ∨ op = 13 ∨ op = 14 ∨ op = 15)) ∨
    (M.qho op = ⟨#[82, 45, 45]⟩ ∧ op = 8) ∨ (M.qho op = ⟨#[82, 84, 45]⟩ ∧ op = 10) ∨ (M.qho op = ⟨#[45, 84, 45]⟩ ∧ op = 11) ∨ (M.qho op = ⟨#[82, 82, 82]⟩ ∧ (3 ≤ op ∧ op ≤ 7 ∨ op = 9)) ∨
    (M.qho op = ⟨#[]⟩ ∧ (op < 0 ∨ op > 16)) := by
 unfold M.qho
 by_cases a1 : op = 0 ∨ op = 12 ∨ op = 16
 ·rw [if_pos a1]; exact .inl ⟨rfl, a1⟩
 rw [if_neg a1]
 by_cases a2 : op = 1
 ·rw [if_pos a2]; exact .inr (.inl ⟨rfl, a2⟩)
 rw [if_neg a2]
 by_cases a3 : op = 2 ∨ op = 13 ∨ op = 14 ∨ op = 15
 ·rw [if_pos a3]; exact .inr (.inr (.inl ⟨rfl, a3⟩))
 rw [if_neg a3]
 by_cases a4 : op = 8
 ·rw [if_pos a4]; exact .inr (.inr (.inr (.inl ⟨rfl, a4⟩)))
 rw [if_neg a4]
 by_cases a5 : op = 10
 ·rw [if_pos a5]; exact .inr (.inr (.inr (.inr (.inl ⟨rfl, a5⟩))))
 rw [if_neg a5]
 by_cases a6 : op = 11
 ·rw [if_pos a6]; exact .inr (.inr (.inr (.inr (.inr (.inl ⟨rfl, a6⟩)))))
 rw [if_neg a6]
 by_cases a7 : 3 ≤ op ∧ op ≤ 9
 ·rw [if_pos (by simp [M.isIn]; omega)]; exact .inr (.inr (.inr (.inr (.inr (.inr (.inl ⟨rfl, by omega⟩))))))
 rw [if_neg (by simp [M.isIn]; omega)]; exact .inr (.inr (.inr (.inr (.inr (.inr (.inr ⟨rfl, by omega⟩))))))
theorem qhb {i : D.Ins} {n : Int} {f : ByteArray} {x y z : Int} (hx : bt f 0 = x) (hy : bt f 1 = y) (hz : bt f 2 = z) (hs : f.size = 3) (hf : ByteArray.toList f ≠ ByteArray.toList (⟨#[]⟩)) {P : Bool → Prop} (hin : M.isIn n 0 32 = false → P false)
    (h : M.isIn n 0 32 = true → P (M.qaD x i.A n && (M.qaD y i.B n && M.qaD z i.C n))) :
    qa1 (!(ByteArray.toList f == ByteArray.toList (⟨#[]⟩))) ((∀ r28, r28 = M.qar n 0 32 → qa1 r28 (((0 ≤ (0 : Int) ∧ (0 : Int) < ((ByteArray.size f : Nat) : Int)) ∧ (M.qdu (bt f 0) i.A n ∧ ∀ r38, r38 = M.qaD (bt f 0) i.A n → qa1 r38 (((0 ≤ (1 : Int) ∧ (1 : Int) < ((ByteArray.size f : Nat) : Int)) ∧ (M.qdu (bt f 1) i.B n ∧ ∀ r48, r48 = M.qaD (bt f 1) i.B n → qa1 r48 (((0 ≤ (2 : Int) ∧ (2 : Int) < ((ByteArray.size f : Nat) : Int)) ∧ (M.qdu (bt f 2) i.C n ∧ ∀ r58, r58 = M.qaD (bt f 2) i.C n → P r58))) (P false)))) (P false)))) (P false))) (P false) := by
 refine qaE (qoy hf) fun r1 h1 => qa3 (fun e1 => ⟨by omega, trivial, fun r2 h2 => qa3 (fun e2 => ⟨by omega, trivial, fun r3 h3 => qa3 (fun e3 => ⟨by omega, trivial, fun r4 h4 => ?_⟩) fun e3 => ?_⟩) fun e2 => ?_⟩) fun e1 => hin (h1.symm.trans e1)
 all_goals have hh := h (h1.symm.trans e1)
 ·rw [hx] at h2; rw [hy] at h3; rw [hz] at h4
  rw [← h2, ← h3, ← h4, e2, e3] at hh; exact hh
 ·rw [hx] at h2; rw [hy] at h3
  rw [← h2, ← h3, e2, e3] at hh; exact hh
 ·rw [hx] at h2
  rw [← h2, e2] at hh; exact hh
theorem wp.qb0.math (i : D.Ins) (n : Int) : wp.qb0 i n (fun r => r = M.qb0 i n) := by
 intro r hr
 have hr' : r = M.qho i.Op := hr
 rcases qkR i.Op with ⟨e, h⟩ | ⟨e, h⟩ | ⟨e, h⟩ | ⟨e, h⟩ | ⟨e, h⟩ | ⟨e, h⟩ | ⟨e, h⟩ | ⟨e, h⟩
 case inr.inr.inr.inr.inr.inr.inr =>
  rw [hr', e]
  refine qaC (by simp) ?_
  simp only [M.qb0, M.qdw]
  rw [if_neg (by omega), if_neg (by omega), if_neg (by omega), if_neg (by omega), if_neg (by omega), if_neg (by omega)]
  have : M.isIn i.Op 3 9 = false := by simp [M.isIn]; omega
  simp [this]
 ·rw [hr', e]
  refine qhb (x := 45) (y := 45) (z := 45) (P := fun r => r = M.qb0 i n) (by decide +kernel) (by decide +kernel) (by decide +kernel) rfl (by decide +kernel) (fun hn => by simp [M.qb0, M.qdw, hn]) fun hn => ?_
  simp only [M.qb0, M.qdw, hn, Bool.true_and]
  rw [if_pos h]
  simp [M.qaD]
 ·rw [hr', e]
  refine qhb (x := 82) (y := 87) (z := 45) (P := fun r => r = M.qb0 i n) (by decide +kernel) (by decide +kernel) (by decide +kernel) rfl (by decide +kernel) (fun hn => by simp [M.qb0, M.qdw, hn]) fun hn => ?_
  simp only [M.qb0, M.qdw, hn, Bool.true_and]
  rw [if_neg (by omega), if_pos h]
  simp [M.qaD]
 ·rw [hr', e]
  refine qhb (x := 82) (y := 82) (z := 45) (P := fun r => r = M.qb0 i n) (by decide +kernel) (by decide +kernel) (by decide +kernel) rfl (by decide +kernel) (fun hn => by simp [M.qb0, M.qdw, hn]) fun hn => ?_
  simp only [M.qb0, M.qdw, hn, Bool.true_and]
  rw [if_neg (by omega), if_neg (by omega), if_pos h]
  simp [M.qaD]
 ·rw [hr', e]
  refine qhb (x := 82) (y := 45) (z := 45) (P := fun r => r = M.qb0 i n) (by decide +kernel) (by decide +kernel) (by decide +kernel) rfl (by decide +kernel) (fun hn => by simp [M.qb0, M.qdw, hn]) fun hn => ?_
  simp only [M.qb0, M.qdw, hn, Bool.true_and]
  rw [if_neg (by omega), if_neg (by omega), if_neg (by omega), if_pos h]
  simp [M.qaD]
 ·rw [hr', e]
  refine qhb (x := 82) (y := 84) (z := 45) (P := fun r => r = M.qb0 i n) (by decide +kernel) (by decide +kernel) (by decide +kernel) rfl (by decide +kernel) (fun hn => by simp [M.qb0, M.qdw, hn]) fun hn => ?_
  simp only [M.qb0, M.qdw, hn, Bool.true_and]
  rw [if_neg (by omega), if_neg (by omega), if_neg (by omega), if_neg (by omega), if_pos h]
  simp [M.qaD]
 ·rw [hr', e]
  refine qhb (x := 45) (y := 84) (z := 45) (P := fun r => r = M.qb0 i n) (by decide +kernel) (by decide +kernel) (by decide +kernel) rfl (by decide +kernel) (fun hn => by simp [M.qb0, M.qdw, hn]) fun hn => ?_
  simp only [M.qb0, M.qdw, hn, Bool.true_and]
  rw [if_neg (by omega), if_neg (by omega), if_neg (by omega), if_neg (by omega), if_neg (by omega), if_pos h]
  simp [M.qaD]
 ·rw [hr', e]
  refine qhb (x := 82) (y := 82) (z := 82) (P := fun r => r = M.qb0 i n) (by decide +kernel) (by decide +kernel) (by decide +kernel) rfl (by decide +kernel) (fun hn => by simp [M.qb0, M.qdw, hn]) fun hn => ?_
  simp only [M.qb0, M.qdw, hn, Bool.true_and]
  rw [if_neg (by omega), if_neg (by omega), if_neg (by omega), if_neg (by omega), if_neg (by omega), if_neg (by omega)]
  have : M.isIn i.Op 3 9 = true := by simp [M.isIn]; omega
  simp [M.qaD, this]
theorem wp.qbz.math (i : D.Ins) (p : List D.Ins) : wp.qbz i p (fun r => r = M.qbz i p) := fun r hr => by rw [hr]; rfl
theorem wp.qae.math (l : List D.Ins) (g : D.Ins → Bool) (D : D.Ins → Prop) (h : M.qcX l g D) : wp.qae l g D (fun r => r = M.qae l g) := by
 unfold wp.qae
 obtain ⟨h1, h2⟩ := h
 refine qd9 l.length (fun k => ((k : Int), ())) (fun k => M.qae l g = M.qe9 g (l.drop k) k) rfl (by simp [M.qae]) (fun k hk hF next hn => ?_) fun hF next => ?_
 ·rw [qgU g l k hk] at hF
  refine qaE (by simp; omega) ⟨by omega, h2 _ (qgg hk), fun r hr => qa3 (fun e => ?_) fun e => ?_⟩
  ·rw [hF, if_pos (by rw [← hr]; exact e)]
  ·rw [up64 hk h1]
   exact hn (by rw [hF, if_neg (by rw [← hr, e]; simp)])
 ·refine qaC (by simp) ?_
  rw [hF]; simp [M.qe9]
theorem wp.qaf.math (l : List D.Ins) (g : D.Ins → Bool) (D : D.Ins → Prop) (h : M.qcD l g D) : wp.qaf l g D (fun r => r = M.qaf l g) :=
 ⟨h, fun r hr => by rw [hr]; exact qf3 g l 0⟩
theorem wp.qbe.math (p : List D.Ins) (h : M.qee p) : wp.qbe p (fun r => r = M.qbe p) := by
 refine qa3 (fun e => ⟨⟨h, fun _ _ => trivial⟩, fun r hr => ?_⟩) fun e => ?_
 ·have h32 : p.length ≤ 32 := by simp at e; omega
  rw [hr]
  simp only [M.qaf, M.qbe, M.qaW, M.qbz, ← List.all_eq_not_any_not, h32, decide_true, Bool.true_and]
 ·have h32 : ¬ p.length ≤ 32 := by simp at e; omega
  simp [M.qbe, M.qaW, h32]
theorem wp.qbP.math (a b : Int) : wp.qbP a b (fun r => r = M.qbP a b) := by
 intro r1 h1
 refine qa3 (fun e1 => ?_) fun e1 r2 h2 => qa3 (fun e2 => ?_) fun e2 r3 h3 => ?_
 ·have : M.isWord a = false := nt e1 h1
  simp [M.qbP, M.subW, this]
 ·have : M.isWord b = false := nt e2 h2
  simp [M.qbP, M.subW, this]
 ·have ha : M.isWord a = true := nf e1 h1
  have hb : M.isWord b = true := nf e2 h2
  have := qdL.1 ha
  have := qdL.1 hb
  rw [h3, w64 (by omega) (by omega)]
  simp [M.qbP, M.subW, M.qbq, ha, hb]
theorem qle {a b : Int} (ha : 0 ≤ a ∧ a ≤ 65535) (hb : 0 ≤ b ∧ b ≤ 65535) : 0 ≤ a * b ∧ a * b ≤ 4294836225 :=
 ⟨Int.mul_nonneg ha.1 hb.1, by have := Int.mul_le_mul ha.2 hb.2 hb.1 (by omega : (0 : Int) ≤ 65535); omega⟩
theorem wp.qbN.math (a b : Int) : wp.qbN a b (fun r => r = M.qbN a b) := by
 intro r1 h1
 refine qa3 (fun e1 => ?_) fun e1 r2 h2 => qa3 (fun e2 => ?_) fun e2 r3 h3 => ?_
 ·have : M.isWord a = false := nt e1 h1
  simp [M.qbN, M.mulW, this]
 ·have : M.isWord b = false := nt e2 h2
  simp [M.qbN, M.mulW, this]
 ·have ha : M.isWord a = true := nf e1 h1
  have hb : M.isWord b = true := nf e2 h2
  have := qle (qdL.1 ha) (qdL.1 hb)
  rw [h3, w64 (by omega) (by omega)]
  simp [M.qbN, M.mulW, M.qbq, ha, hb]
theorem wp.qbc.math (a b : Int) : wp.qbc a b (fun r => r = M.qbc a b) := by
 intro r1 h1
 refine qa3 (fun e1 r2 h2 => qa3 (fun e2 => qa3 (fun e3 => ?_) fun e3 => ?_) fun e2 => ?_) fun e1 => ?_
 ·have ha : M.isWord a = true := h1.symm.trans e1
  have hb : M.isWord b = true := h2.symm.trans e2
  simp at e3; simp [M.qbc, M.qkz, ha, hb, e3]
 ·simp at e3; simp [M.qbc, M.qkz]; omega
 ·have hb : M.isWord b = false := h2.symm.trans e2
  simp [M.qbc, M.qkz, hb]
 ·have ha : M.isWord a = false := h1.symm.trans e1
  simp [M.qbc, M.qkz, ha]
theorem wp.qcd.math (a b : Int) : wp.qcd a b (fun r => r = M.qcd a b) := wp.qbc.math a b
theorem wp.qcq.math (a b : Int) : wp.qcq a b (fun r => r = M.qcq a b) := by
 intro r hr
 rw [hr]
 simp only [M.qbk, M.qcq, M.subW]
 by_cases h : (M.isWord a && M.isWord b) = true
 ·rw [if_pos h, if_pos h]
  simp only [Bool.and_eq_true, qdL] at h
  rw [w64 (by omega) (by omega)]
 ·rw [if_neg h, if_neg h]
theorem wp.qcn.math (a b : Int) : wp.qcn a b (fun r => r = M.qcn a b) := by
 intro r hr
 rw [hr]
 simp only [M.qbk, M.qcn, M.mulW]
 by_cases h : (M.isWord a && M.isWord b) = true
 ·rw [if_pos h, if_pos h]
  simp only [Bool.and_eq_true, qdL] at h
  have := qle h.1 h.2
  rw [w64 (by omega) (by omega)]
 ·rw [if_neg h, if_neg h]
theorem qgd {x : Int} : M.qgB x = true ↔ 0 ≤ x ∧ x ≤ 3 := by simp [M.qgB, M.isIn]
theorem qjB {i : D.Ins} {r : List Int} (h : M.Fits i r) : r.length = 4 ∧ (1 ≤ i.Op ∧ i.Op ≤ 10 → 0 ≤ i.A ∧ i.A ≤ 3) ∧ (2 ≤ i.Op ∧ i.Op ≤ 7 ∨ i.Op = 9 → 0 ≤ i.B ∧ i.B ≤ 3) ∧ (3 ≤ i.Op ∧ i.Op ≤ 7 ∨ i.Op = 9 → 0 ≤ i.C ∧ i.C ≤ 3) := by
 obtain ⟨hl, n, hok⟩ := h
 simp only [M.qdw, Bool.and_eq_true] at hok
 have hok := hok.2
 split at hok
 ·exact ⟨hl, by omega, by omega, by omega⟩
 split at hok
 ·simp only [Bool.and_eq_true, qgd] at hok
  exact ⟨hl, fun _ => hok.1, by omega, by omega⟩
 split at hok
 ·simp only [Bool.and_eq_true, qgd] at hok
  exact ⟨hl, fun _ => hok.1, fun _ => hok.2.1, by omega⟩
 split at hok
 ·simp only [Bool.and_eq_true, qgd] at hok
  exact ⟨hl, fun _ => hok.1, by omega, by omega⟩
 split at hok
 ·simp only [Bool.and_eq_true, qgd] at hok
  exact ⟨hl, fun _ => hok.1, by omega, by omega⟩
 split at hok
 ·exact ⟨hl, by omega, by omega, by omega⟩
 ·simp only [Bool.and_eq_true, qgd] at hok
  exact ⟨hl, fun _ => hok.2.1, fun _ => hok.2.2.1, fun _ => hok.2.2.2⟩
theorem qd5 {r : List Int} {x : Int} (hl : r.length = 4) (h : 0 ≤ x ∧ x ≤ 3) : 0 ≤ x ∧ x < (r.length : Int) := by omega
theorem wp.qaY.math (i : D.Ins) (t : Int) (r : List Int) (h : M.qg1 i t r) : wp.qaY i t r (fun x => x = M.qaY i t r) := by
 obtain ⟨hl, hA, hB, hC⟩ := qjB h
 simp only [wp.qaY, List.nil_append, List.length_nil, forall_eq]
 refine ⟨by omega, ?_⟩
 refine qa3 (fun e => ?_) fun n1 => qa3 (fun e => ?_) fun n2 => qa3 (fun e => ?_) fun n3 => qa3 (fun e => ?_) fun n4 => qa3 (fun e => ?_) fun n5 => qa3 (fun e => ?_) fun n6 => qa3 (fun e => ?_) fun n7 => qa3 (fun e => ?_) fun n8 => qa3 (fun e => ?_) fun n9 => ?_
 ·have hk : i.Op = 1 := by simpa using e
  exact ⟨qd5 hl (hA (by omega)), by simp [M.qaY, M.apply, hk]⟩
 ·have hk : i.Op = 2 := by simpa using e
  exact ⟨qd5 hl (hB (by omega)), qd5 hl (hA (by omega)), by simp [M.qaY, M.apply, hk]⟩
 ·have hk : i.Op = 3 := by simpa using e
  exact ⟨qd5 hl (hB (by omega)), qd5 hl (hC (by omega)), qd5 hl (hA (by omega)), by simp [M.qaY, M.apply, hk, M.qbr, M.qbQ]⟩
 ·have hk : i.Op = 4 := by simpa using e
  exact ⟨qd5 hl (hB (by omega)), qd5 hl (hC (by omega)), qd5 hl (hA (by omega)), by simp [M.qaY, M.apply, hk, M.qbP, M.qcq]⟩
 ·have hk : i.Op = 5 := by simpa using e
  exact ⟨qd5 hl (hB (by omega)), qd5 hl (hC (by omega)), qd5 hl (hA (by omega)), by simp [M.qaY, M.apply, hk, M.qbN, M.qcn]⟩
 ·have hk : i.Op = 6 := by simpa using e
  exact ⟨qd5 hl (hB (by omega)), qd5 hl (hC (by omega)), qd5 hl (hA (by omega)), by simp [M.qaY, M.apply, hk]⟩
 ·have hk : i.Op = 7 := by simpa using e
  exact ⟨qd5 hl (hB (by omega)), qd5 hl (hC (by omega)), qd5 hl (hA (by omega)), by simp [M.qaY, M.apply, hk, M.qbc, M.qcd]⟩
 ·have hk : i.Op = 8 := by simpa using e
  exact ⟨qd5 hl (hA (by omega)), by simp [M.qaY, M.apply, hk]⟩
 ·have hk : i.Op = 9 := by simpa using e
  refine ⟨qd5 hl (hC (by omega)), qa3 (fun e2 => ⟨qd5 hl (hB (by omega)), qd5 hl (hA (by omega)), ?_⟩) fun e2 => ?_⟩
  ·have h2 : ¬ rd r i.C = 0 := by simpa using e2
   simp [M.qaY, M.apply, hk, h2]
  ·have h2 : rd r i.C = 0 := by simpa using e2
   simp [M.qaY, M.apply, hk, h2]
 ·simp at n1 n2 n3 n4 n5 n6 n7 n8 n9
  simp [M.qaY, M.apply, n1, n2, n3, n4, n5, n6, n7, n8, n9]
theorem qjR {α : Type} [Inhabited α] {xs : List α} {i : Int} (h0 : 0 ≤ i) (h1 : i < (xs.length : Int)) : rd xs i ∈ xs := by
 obtain ⟨k, rfl⟩ := Int.eq_ofNat_of_zero_le h0
 exact qgg (by omega)
theorem qi8 (i : D.Ins) (t : Int) (r : List Int) : (M.apply i t r).length = r.length := by
 unfold M.apply
 (repeat' split) <;> simp
end Go.V
namespace Go.V
open IntKind (wrap)
def wp.qbx (x0 : Int) (Q : Bool → Prop) : Prop :=
 (∀ r21, r21 = M.qar x0 0 2 → Q r21)
def wp.qaS (xs0 : List Int) (x1 : Int) (Q : Int → Prop) : Prop :=
 qd7 (σ := Int × Unit) (fun (p37 : Int × Unit) next25 => match p37 with | (i21, _) => qa1 (decide (i21 < (xs0.length : Int))) (((0 ≤ i21 ∧ i21 < (xs0.length : Int)) ∧ qa1 (x1 == (rd xs0 i21)) (Q i21) (next25 ((wrap .i64 (i21 + 1)), ())))) (Q (-1))) (0, ())
def wp.qaU (xs0 : List Int) (x1 : Int) (Q : Bool → Prop) : Prop :=
 (M.qeq xs0 x1 ∧ ∀ r21, r21 = M.qaS xs0 x1 → Q (decide (r21 ≥ 0)))
end Go.V
namespace Go.V
open IntKind (wrap)
theorem wp.qbx.math (x : Int) : wp.qbx x (fun r => r = M.qbx x) := fun r hr => hr
theorem wp.qaS.math (l : List Int) (x : Int) (h : M.qeq l x) : wp.qaS l x (fun r => r = M.qaS l x) := by
 unfold wp.qaS
 refine qd9 l.length (fun k => ((k : Int), ())) (fun k => M.qaS l x = M.qe9 (fun y => x == y) (l.drop k) k) rfl (by simp [M.qaS]) (fun k hk hF next hn => ?_) fun hF next => ?_
 ·rw [qgU _ l k hk] at hF
  refine qaE (by simp; omega) ⟨by omega, qa3 (fun e => ?_) fun e => ?_⟩
  ·rw [hF, if_pos e]
  ·rw [up64 hk h]
   exact hn (by rw [hF, if_neg (by rw [e]; simp)])
 ·refine qaC (by simp) ?_
  rw [hF]; simp [M.qe9]
theorem wp.qaU.math (l : List Int) (x : Int) (h : M.qe4 l x) : wp.qaU l x (fun r => r = M.qaU l x) :=
 ⟨h, fun r hr => by rw [hr]; exact qf3 _ l 0⟩
end Go.V
namespace Go.V
open IntKind (wrap)
def wp.qaK (xs0 : List Int) (Q : D.Cur → Prop) : Prop :=
 qd7 (σ := Int × Int × Unit) (fun (p42 : Int × Int × Unit) next26 => match p42 with | (i21, i22, _) => qa1 (decide (i22 < (xs0.length : Int))) (qa1 (decide (i22 < 4000)) (((0 ≤ i22 ∧ i22 < (xs0.length : Int)) ∧ next26 ((qdH .i64 (wrap .i64 ((wrap .i64 ((wrap .i64 (i21 * 131)) + (wrap .i64 (rd xs0 i22)))) + 7)) 1073741823), (wrap .i64 (i22 + 1)), ()))) (Q (⟨xs0, 0, i21⟩ : D.Cur))) (Q (⟨xs0, 0, i21⟩ : D.Cur))) ((wrap .i64 (98561 + (xs0.length : Int))), 0, ())
def wp.qaj (s0 : D.Cur) (Q : (Int × D.Cur) → Prop) : Prop :=
 qa1 (decide (s0.i < (s0.b.length : Int))) (((0 ≤ s0.i ∧ s0.i < (s0.b.length : Int)) ∧ Q ((qdH .i64 (wrap .i64 ((qdH .i64 (qgK .i64 (Int.fdiv (wrap .i64 ((wrap .i64 (s0.h * 6364136223846793005)) + 1442695040888963407)) (2 ^ (min ((33 : Int).toNat) (IntKind.bits .i64)))) (Int.fdiv (wrap .i64 ((wrap .i64 (s0.h * 6364136223846793005)) + 1442695040888963407)) (2 ^ (min ((45 : Int).toNat) (IntKind.bits .i64))))) 255) + (wrap .i64 (rd s0.b s0.i)))) 255), (⟨s0.b, (wrap .i64 (s0.i + 1)), (wrap .i64 ((wrap .i64 (s0.h * 6364136223846793005)) + 1442695040888963407))⟩ : D.Cur)))) (Q ((qdH .i64 (qgK .i64 (Int.fdiv (wrap .i64 ((wrap .i64 (s0.h * 6364136223846793005)) + 1442695040888963407)) (2 ^ (min ((33 : Int).toNat) (IntKind.bits .i64)))) (Int.fdiv (wrap .i64 ((wrap .i64 (s0.h * 6364136223846793005)) + 1442695040888963407)) (2 ^ (min ((45 : Int).toNat) (IntKind.bits .i64))))) 255), (⟨s0.b, s0.i, (wrap .i64 ((wrap .i64 (s0.h * 6364136223846793005)) + 1442695040888963407))⟩ : D.Cur)))
def wp.qa0 (s0 : D.Cur) (x1 : Int) (Q : (Int × D.Cur) → Prop) : Prop :=
 qa1 (decide (x1 ≤ 0)) (Q (0, (⟨s0.b, s0.i, s0.h⟩ : D.Cur))) (qa1 (decide (x1 ≤ 256)) ((M.qdO s0 ∧ ∀ r21, r21 = M.qaj s0 → (((x1 : Int) ≠ 0) ∧ Q ((Int.tmod r21.1 x1), (⟨s0.b, r21.2.i, r21.2.h⟩ : D.Cur))))) ((M.qdO s0 ∧ ∀ r28, r28 = M.qaj s0 → (M.qdO (⟨s0.b, r28.2.i, r28.2.h⟩ : D.Cur) ∧ ∀ r34, r34 = M.qaj (⟨s0.b, r28.2.i, r28.2.h⟩ : D.Cur) → (M.qdO (⟨s0.b, r34.2.i, r34.2.h⟩ : D.Cur) ∧ ∀ r40, r40 = M.qaj (⟨s0.b, r34.2.i, r34.2.h⟩ : D.Cur) → (M.qdO (⟨s0.b, r40.2.i, r40.2.h⟩ : D.Cur) ∧ ∀ r46, r46 = M.qaj (⟨s0.b, r40.2.i, r40.2.h⟩ : D.Cur) → (((x1 : Int) ≠ 0) ∧ Q ((Int.tmod (wrap .i64 ((wrap .i64 ((wrap .i64 ((wrap .i64 (r28.1 * 16777216)) + (wrap .i64 (r34.1 * 65536)))) + (wrap .i64 (r40.1 * 256)))) + r46.1)) x1), (⟨s0.b, r46.2.i, r46.2.h⟩ : D.Cur)))))))))
def wp.qau (s0 : D.Cur) (xs1 : List Int) (Q : (Int × D.Cur) → Prop) : Prop :=
 (M.qas s0 (xs1.length : Int) ∧ ∀ r21, r21 = M.qa0 s0 (xs1.length : Int) → ((0 ≤ r21.1 ∧ r21.1 < (xs1.length : Int)) ∧ Q ((rd xs1 r21.1), (⟨s0.b, r21.2.i, r21.2.h⟩ : D.Cur))))
def wp.qaA (s0 : D.Cur) (Q : (D.Ins × D.Cur) → Prop) : Prop :=
 (M.qas s0 9 ∧ ∀ r23, r23 = M.qa0 s0 9 → (M.qas (⟨s0.b, r23.2.i, r23.2.h⟩ : D.Cur) 4 ∧ ∀ r29, r29 = M.qa0 (⟨s0.b, r23.2.i, r23.2.h⟩ : D.Cur) 4 → qa1 ((wrap .i64 (1 + r23.1)) == 1) ((M.qas (⟨s0.b, r29.2.i, r29.2.h⟩ : D.Cur) 6 ∧ ∀ r39, r39 = M.qa0 (⟨s0.b, r29.2.i, r29.2.h⟩ : D.Cur) 6 → Q ((⟨(wrap .i64 (1 + r23.1)), r29.1, r39.1, 0⟩ : D.Ins), (⟨s0.b, r39.2.i, r39.2.h⟩ : D.Cur)))) (qa1 ((wrap .i64 (1 + r23.1)) == 8) (Q ((⟨(wrap .i64 (1 + r23.1)), r29.1, 0, 0⟩ : D.Ins), (⟨s0.b, r29.2.i, r29.2.h⟩ : D.Cur))) (qa1 ((wrap .i64 (1 + r23.1)) == 2) ((M.qas (⟨s0.b, r29.2.i, r29.2.h⟩ : D.Cur) 4 ∧ ∀ r51, r51 = M.qa0 (⟨s0.b, r29.2.i, r29.2.h⟩ : D.Cur) 4 → Q ((⟨(wrap .i64 (1 + r23.1)), r29.1, r51.1, 0⟩ : D.Ins), (⟨s0.b, r51.2.i, r51.2.h⟩ : D.Cur)))) ((M.qas (⟨s0.b, r29.2.i, r29.2.h⟩ : D.Cur) 4 ∧ ∀ r61, r61 = M.qa0 (⟨s0.b, r29.2.i, r29.2.h⟩ : D.Cur) 4 → (M.qas (⟨s0.b, r61.2.i, r61.2.h⟩ : D.Cur) 4 ∧ ∀ r69, r69 = M.qa0 (⟨s0.b, r61.2.i, r61.2.h⟩ : D.Cur) 4 → Q ((⟨(wrap .i64 (1 + r23.1)), r29.1, r61.1, r69.1⟩ : D.Ins), (⟨s0.b, r69.2.i, r69.2.h⟩ : D.Cur)))))))))
def wp.qbO (s0 : D.Cur) (Q : (Int × D.Cur) → Prop) : Prop :=
 (M.qas s0 9 ∧ ∀ r21, r21 = M.qa0 s0 9 → (M.qas (⟨s0.b, r21.2.i, r21.2.h⟩ : D.Cur) 9000 ∧ ∀ r27, r27 = M.qa0 (⟨s0.b, r21.2.i, r21.2.h⟩ : D.Cur) 9000 → (M.qe3 (⟨s0.b, r27.2.i, r27.2.h⟩ : D.Cur) ([0, 1, 2, 7, 100, 65535, 32768, r21.1, r27.1] : List Int) ∧ ∀ r36, r36 = M.qau (⟨s0.b, r27.2.i, r27.2.h⟩ : D.Cur) ([0, 1, 2, 7, 100, 65535, 32768, r21.1, r27.1] : List Int) → Q (r36.1, (⟨s0.b, r36.2.i, r36.2.h⟩ : D.Cur)))))
def wp.qbs (s0 : D.Cur) (x1 : Int) (Q : ((List Int) × D.Cur) → Prop) : Prop :=
 qd7 (σ := (List Int) × Int × Int × Int × Unit) (fun (p76 : (List Int) × Int × Int × Int × Unit) next56 => match p76 with | (xs47, i50, i51, i52, _) => qa1 (decide (i50 < x1)) ((M.qgl (⟨s0.b, i51, i52⟩ : D.Cur) ∧ ∀ r58, r58 = M.qbO (⟨s0.b, i51, i52⟩ : D.Cur) → ((xs47.length + ([r58.1] : List Int).length ≤ 17179869184) ∧ next56 ((xs47 ++ ([r58.1] : List Int)), (wrap .i64 (i50 + 1)), r58.2.i, r58.2.h, ())))) (Q (xs47, (⟨s0.b, i51, i52⟩ : D.Cur)))) (([] : List Int), 0, s0.i, s0.h, ())
def wp.qb7 (xs0 : List Int) (Q : (List Int) → Prop) : Prop :=
 (M.qeK xs0 ∧ ∀ r21, r21 = M.qaK xs0 → qd7 (σ := (List Int) × Int × Int × Int × Unit) (fun (p82 : (List Int) × Int × Int × Int × Unit) next62 => match p82 with | (xs53, i56, i57, i58, _) => qa1 (decide (i56 < 12)) ((M.qas (⟨xs0, i57, i58⟩ : D.Cur) 10000 ∧ ∀ r64, r64 = M.qa0 (⟨xs0, i57, i58⟩ : D.Cur) 10000 → ((xs53.length + ([r64.1] : List Int).length ≤ 17179869184) ∧ next62 ((xs53 ++ ([r64.1] : List Int)), (wrap .i64 (i56 + 1)), r64.2.i, r64.2.h, ())))) (Q xs53)) (([] : List Int), 0, r21.i, r21.h, ()))
def wp.qf8 (xs0 : List Int) (Q : Bool → Prop) : Prop :=
 Q (decide ((xs0.length : Int) > 1048576))
end Go.V
namespace Go.V
open IntKind (wrap)
theorem qke (x : Int) : qdH .i64 x 255 = x % 256 := by
 unfold qdH
 have e1 : (BitVec.ofInt (IntKind.bits .i64) x &&& BitVec.ofInt (IntKind.bits .i64) 255).toNat = (x % 256).toNat := by
  show (BitVec.ofInt 64 x &&& BitVec.ofInt 64 255).toNat = _
  rw [BitVec.toNat_and, BitVec.toNat_ofInt, show (BitVec.ofInt 64 255).toNat = 2 ^ 8 - 1 from rfl, Nat.and_two_pow_sub_one_eq_mod]
  rw [show ((2 ^ 64 : Nat) : Int) = 18446744073709551616 from rfl]
  omega
 rw [e1, w64 (by omega) (by omega)]
 omega
theorem qji (c : D.Cur) : 0 ≤ (M.qaj c).1 ∧ (M.qaj c).1 ≤ 255 := by
 unfold M.qaj
 split
 ·show 0 ≤ qdH .i64 _ 255 ∧ qdH .i64 _ 255 ≤ 255
  rw [qke]; omega
 ·show 0 ≤ M.curX _ ∧ M.curX _ ≤ 255
  unfold M.curX
  rw [qke]; omega
theorem qjl (c : D.Cur) : (M.qaj c).2.b = c.b := by unfold M.qaj; split <;> rfl
theorem qhr {c : D.Cur} (h : M.qdz c) : M.qdz (M.qaj c).2 := by
 obtain ⟨h1, h2⟩ := h
 refine ⟨?_, by rw [qjl]; exact h2⟩
 unfold M.Long at h2
 unfold M.qaj
 split
 ·rename_i hlt
  show 0 ≤ wrap .i64 (c.i + 1)
  rw [w64 (by omega) (by omega)]; omega
 ·exact h1
theorem qbW (c : D.Cur) (n : Int) : (M.qa0 c n).2.b = c.b := by
 unfold M.qa0
 (repeat' split) <;> simp only [qjl]
theorem qbj {c : D.Cur} (h : M.qdz c) (n : Int) : M.qdz (M.qa0 c n).2 := by
 unfold M.qa0
 split
 ·exact h
 split
 ·exact qhr h
 ·exact qhr (qhr (qhr (qhr h)))
theorem qlB {x n : Int} (hx : 0 ≤ x) (hn : 0 < n) : 0 ≤ Int.tmod x n ∧ Int.tmod x n < n :=
 ⟨Int.tmod_nonneg _ hx, Int.tmod_lt_of_pos _ hn⟩
theorem qcZ (c : D.Cur) {n : Int} (hn : 0 < n) : 0 ≤ (M.qa0 c n).1 ∧ (M.qa0 c n).1 < n := by
 unfold M.qa0
 rw [if_neg (by omega)]
 split
 ·exact qlB (qji c).1 hn
 ·refine qlB ?_ hn
  have h1 := qji c
  have h2 := qji (M.qaj c).2
  have h3 := qji (M.qaj (M.qaj c).2).2
  have h4 := qji (M.qaj (M.qaj (M.qaj c).2).2).2
  rw [w64 (x := (M.qaj c).1 * 16777216) (by omega) (by omega), w64 (x := (M.qaj (M.qaj c).2).1 * 65536) (by omega) (by omega),
   w64 (x := (M.qaj (M.qaj (M.qaj c).2).2).1 * 256) (by omega) (by omega), w64 (x := _ + (M.qaj (M.qaj c).2).1 * 65536) (by omega) (by omega),
   w64 (x := _ + (M.qaj (M.qaj (M.qaj c).2).2).1 * 256) (by omega) (by omega), w64 (by omega) (by omega)]
  omega
set_option maxRecDepth 20000 in
theorem wp.qaK.math (b : List Int) (h : M.qeK b) : wp.qaK b (fun r => r = M.qaK b) := by
 unfold wp.qaK
 have hl : b.length ≤ 9223372036854775807 := h
 let h0 := wrap .i64 (98561 + (b.length : Int))
 refine qd9 (min b.length 4000) (fun k => ((b.take k).foldl M.qlD h0, (k : Int), ())) (fun _ => True) rfl trivial (fun k hk _ next hn => ?_) fun _ next => ?_
 ·have hk1 : k < b.length := by omega
  have hn := hn trivial
  rw [List.take_add_one, List.getElem?_eq_getElem hk1, Option.toList_some, List.foldl_append] at hn
  refine qaE (by simp; omega) (qaE (by simp; omega) ⟨by omega, ?_⟩)
  rw [up64 hk1 hl, qdU hk1]
  exact hn
 ·have fin : (⟨b, 0, (b.take (min b.length 4000)).foldl M.qlD h0⟩ : D.Cur) = M.qaK b := by
    unfold M.qaK
    congr 2
    rcases Nat.le_total b.length 4000 with g | g
    ·rw [Nat.min_eq_left g, List.take_length, List.take_of_length_le g]
    ·rw [Nat.min_eq_right g]
  by_cases g : b.length ≤ 4000
  ·exact qaC (by simp; omega) fin
  ·exact qaE (by simp; omega) (qaC (by simp; omega) fin)
theorem wp.qaj.math (c : D.Cur) (h : M.qdO c) : wp.qaj c (fun r => r = M.qaj c) := by
 obtain ⟨h1, h2⟩ := h
 refine qa3 (fun e => ⟨⟨h1, by simpa using e⟩, ?_⟩) fun e => ?_
 ·have e : c.i < (c.b.length : Int) := by simpa using e
  unfold M.qaj
  rw [if_pos e]; rfl
 ·have e : ¬ c.i < (c.b.length : Int) := by simpa using e
  unfold M.qaj
  rw [if_neg e]; rfl
theorem qbX {c d : D.Cur} (h : d.b = c.b) : (⟨c.b, d.i, d.h⟩ : D.Cur) = d := by rw [← h]
theorem wp.qau.math (c : D.Cur) (l : List Int) (h : M.qe3 c l) : wp.qau c l (fun r => r = M.qau c l) := by
 obtain ⟨h1, h2, h3⟩ := h
 have hpos : (0 : Int) < (l.length : Int) := by have := List.length_pos_iff.2 h2; omega
 refine ⟨h1, fun r hr => ?_⟩
 have := qcZ c hpos
 refine ⟨by rw [hr]; exact this, ?_⟩
 rw [hr, qbX (qbW c _)]; rfl
theorem wp.qa0.math (c : D.Cur) (n : Int) (h : M.qas c n) : wp.qa0 c n (fun r => r = M.qa0 c n) := by
 refine qa3 (fun e => ?_) fun e => qa3 (fun e2 => ⟨h, fun r hr => ⟨?_, ?_⟩⟩) fun e2 => ?_
 ·have e : n ≤ 0 := by simpa using e
  unfold M.qa0; rw [if_pos e]
 ·simp at e; omega
 ·have e : ¬ n ≤ 0 := by simpa using e
  have e2 : n ≤ 256 := by simpa using e2
  unfold M.qa0; rw [if_neg e, if_pos e2, hr, qbX (qjl c)]
 ·have e : ¬ n ≤ 0 := by simpa using e
  have e2 : ¬ n ≤ 256 := by simpa using e2
  have h1 := qhr h
  have h2 := qhr h1
  have h3 := qhr h2
  have b1 := qjl c
  have b2 : (M.qaj (M.qaj c).2).2.b = c.b := (qjl _).trans b1
  have b3 : (M.qaj (M.qaj (M.qaj c).2).2).2.b = c.b := (qjl _).trans b2
  have b4 : (M.qaj (M.qaj (M.qaj (M.qaj c).2).2).2).2.b = c.b := (qjl _).trans b3
  refine ⟨h, fun r1 g1 => ?_⟩
  subst g1
  rw [qbX b1]
  refine ⟨h1, fun r2 g2 => ?_⟩
  subst g2
  rw [qbX b2]
  refine ⟨h2, fun r3 g3 => ?_⟩
  subst g3
  rw [qbX b3]
  refine ⟨h3, fun r4 g4 => ⟨by omega, ?_⟩⟩
  subst g4
  rw [qbX b4]
  unfold M.qa0; rw [if_neg e, if_neg e2]
theorem wp.qaA.math (c : D.Cur) (h : M.qeQ c) : wp.qaA c (fun r => r = M.qaA c) := by
 refine ⟨h, fun r1 g1 => ?_⟩
 subst g1
 rw [qbX (qbW c 9)]
 refine ⟨qbj h 9, fun r2 g2 => ?_⟩
 subst g2
 have b2 : (M.qa0 (M.qa0 c 9).2 4).2.b = c.b := (qbW _ _).trans (qbW _ _)
 have h2 := qbj (qbj h 9) 4
 rw [qbX b2]
 have cut : ∀ (n : Int), (⟨c.b, (M.qa0 (M.qa0 (M.qa0 c 9).2 4).2 n).2.i, (M.qa0 (M.qa0 (M.qa0 c 9).2 4).2 n).2.h⟩ : D.Cur) = (M.qa0 (M.qa0 (M.qa0 c 9).2 4).2 n).2 := fun n => qbX ((qbW _ _).trans b2)
 refine qa3 (fun e => ⟨h2, fun r3 g3 => ?_⟩) fun e1 => qa3 (fun e => ?_) fun e8 => qa3 (fun e => ⟨h2, fun r3 g3 => ?_⟩) fun e2 => ⟨h2, fun r3 g3 => ?_⟩
 ·subst g3
  rw [cut]
  have e : wrap .i64 (1 + (M.qa0 c 9).1) = 1 := by simpa using e
  simp only [M.qaA]; rw [if_pos e]
 ·have e1 : ¬ wrap .i64 (1 + (M.qa0 c 9).1) = 1 := by simpa using e1
  have e : wrap .i64 (1 + (M.qa0 c 9).1) = 8 := by simpa using e
  simp only [M.qaA]; rw [if_neg e1, if_pos e]
 ·subst g3
  rw [cut]
  have e1 : ¬ wrap .i64 (1 + (M.qa0 c 9).1) = 1 := by simpa using e1
  have e8 : ¬ wrap .i64 (1 + (M.qa0 c 9).1) = 8 := by simpa using e8
  have e : wrap .i64 (1 + (M.qa0 c 9).1) = 2 := by simpa using e
  simp only [M.qaA]; rw [if_neg e1, if_neg e8, if_pos e]
 ·subst g3
  rw [cut]
  refine ⟨qbj h2 4, fun r4 g4 => ?_⟩
  subst g4
  rw [qbX ((qbW _ _).trans ((qbW _ _).trans b2))]
  have e1 : ¬ wrap .i64 (1 + (M.qa0 c 9).1) = 1 := by simpa using e1
  have e8 : ¬ wrap .i64 (1 + (M.qa0 c 9).1) = 8 := by simpa using e8
  have e2 : ¬ wrap .i64 (1 + (M.qa0 c 9).1) = 2 := by simpa using e2
  simp only [M.qaA]; rw [if_neg e1, if_neg e8, if_neg e2]
theorem ql2 (c : D.Cur) (l : List Int) : (M.qau c l).2.b = c.b := qbW _ _
theorem qkH {c : D.Cur} (h : M.qdz c) (l : List Int) : M.qdz (M.qau c l).2 := qbj h _
theorem qoB (c : D.Cur) : (M.qbO c).2.b = c.b := by
 simp only [M.qbO]; rw [ql2, qbW, qbW]
theorem qop {c : D.Cur} (h : M.qdz c) : M.qdz (M.qbO c).2 := qkH (qbj (qbj h _) _) _
theorem wp.qbO.math (c : D.Cur) (h : M.qgl c) : wp.qbO c (fun r => r = M.qbO c) := by
 refine ⟨h, fun r1 g1 => ?_⟩
 subst g1
 rw [qbX (qbW c 9)]
 refine ⟨qbj h 9, fun r2 g2 => ?_⟩
 subst g2
 have b2 : (M.qa0 (M.qa0 c 9).2 9000).2.b = c.b := (qbW _ _).trans (qbW _ _)
 rw [qbX b2]
 refine ⟨⟨qbj (qbj h 9) 9000, by simp, by simp⟩, fun r3 g3 => ?_⟩
 subst g3
 rw [qbX ((ql2 _ _).trans b2)]
 rfl
theorem qks : ∀ (k : Nat) (c : D.Cur), (M.qgW k c).2.b = c.b
 | 0, c => rfl
 | k + 1, c => by simp only [M.qgW]; rw [qoB, qks k c]
theorem qkv : ∀ (k : Nat) {c : D.Cur}, M.qdz c → M.qdz (M.qgW k c).2
 | 0, c, h => h
 | k + 1, c, h => qop (qkv k h)
theorem qjI : ∀ (k : Nat) (c : D.Cur), (M.qgW k c).1.length = k
 | 0, c => rfl
 | k + 1, c => by simp only [M.qgW, List.length_append, qjI k c]; rfl
theorem wp.qbs.math (c : D.Cur) (n : Int) (h : M.qg0 c n) : wp.qbs c n (fun r => r = M.qbs c n) := by
 obtain ⟨h1, h2, h3⟩ := h
 refine qd9 n.toNat (fun k => ((M.qgW k c).1, (k : Int), (M.qgW k c).2.i, (M.qgW k c).2.h, ())) (fun _ => True) rfl trivial (fun k hk _ next hn => ?_) fun _ next => ?_
 ·have hn := hn trivial
  refine qaE (by simp; omega) ?_
  rw [qbX (qks k c)]
  refine ⟨qkv k h1, fun r hr => ⟨by rw [qjI]; simp; omega, ?_⟩⟩
  subst hr
  rw [up64 (n := n.toNat) hk (by omega)]
  exact hn
 ·refine qaC (by simp; omega) ?_
  rw [qbX (qks _ c)]; rfl
theorem qnt (c : D.Cur) (n : Int) : (M.qbs c n).2.b = c.b := qks _ _
theorem wp.qf8.math (b : List Int) : wp.qf8 b (fun r => r = M.qf8 b) := rfl
theorem qnd (c : D.Cur) : (M.qaA c).2.b = c.b := by
 simp only [M.qaA]
 (repeat' split) <;> simp only [qbW]
theorem qlV {c : D.Cur} (h : M.qdz c) : M.qdz (M.qaA c).2 := by
 simp only [M.qaA]
 have h2 := qbj (qbj h 9) 4
 (repeat' split)
 ·exact qbj h2 _
 ·exact h2
 ·exact qbj h2 _
 ·exact qbj (qbj h2 _) _
theorem qm3 : ∀ (k : Nat) (c : D.Cur), (M.qeA k c).2.b = c.b
 | 0, c => rfl
 | k + 1, c => by simp only [M.qeA]; rw [qbW, qm3 k c]
theorem qkO : ∀ (k : Nat) {c : D.Cur}, M.qdz c → M.qdz (M.qeA k c).2
 | 0, c, h => h
 | k + 1, c, h => qbj (qkO k h) _
theorem qhG : ∀ (k : Nat) (c : D.Cur), (M.qeA k c).1.length = k
 | 0, c => rfl
 | k + 1, c => by simp only [M.qeA, List.length_append, qhG k c]; rfl
theorem qm6 {b : List Int} (h : M.Long b) : M.qdz (M.qaK b) := ⟨by simp [M.qaK], h⟩
theorem wp.qb7.math (b : List Int) (h : M.qfi b) : wp.qb7 b (fun r => r = M.qb7 b) := by
 refine ⟨h, fun r0 g0 => ?_⟩
 subst g0
 refine qd9 12 (fun k => ((M.qeA k (M.qaK b)).1, (k : Int), (M.qeA k (M.qaK b)).2.i, (M.qeA k (M.qaK b)).2.h, ())) (fun _ => True) rfl trivial (fun k hk _ next hn => ?_) fun _ next => ?_
 ·have hn := hn trivial
  refine qaE (by simp; omega) ?_
  have e : (⟨b, (M.qeA k (M.qaK b)).2.i, (M.qeA k (M.qaK b)).2.h⟩ : D.Cur) = (M.qeA k (M.qaK b)).2 := qbX (c := M.qaK b) (qm3 k _)
  rw [e]
  refine ⟨qkO k (qm6 h), fun r hr => ⟨by rw [qhG]; simp; omega, ?_⟩⟩
  subst hr
  rw [up64 hk (by omega)]
  exact hn
 ·exact qaC (by simp) rfl
theorem qif (c : D.Cur) : M.qgB (M.qa0 c 4).1 = true := by
 have := qcZ c (n := 4) (by omega)
 rw [qgd]; omega
theorem qmE (c : D.Cur) {n : Int} (hn : 0 ≤ n ∧ n ≤ 32) : M.qdw (M.qaA c).1 n = true ∧ M.qcM (M.qaA c).1 = true := by
 have h9 := qcZ c (n := 9) (by omega)
 have hw : wrap .i64 (1 + (M.qa0 c 9).1) = 1 + (M.qa0 c 9).1 := w64 (by omega) (by omega)
 have hin : M.isIn n 0 32 = true := by simp [M.isIn]; omega
 have h6 := fun d : D.Cur => qcZ d (n := 6) (by omega)
 have hw6 : ∀ d : D.Cur, M.isWord (M.qa0 d 6).1 = true := fun d => by rw [qdL]; have := h6 d; omega
 simp only [M.qaA, hw]
 generalize (M.qa0 c 9).1 = o at *
 split
 ·rename_i e
  refine ⟨?_, by simp [M.qcM, M.isIn]; omega⟩
  simp only [M.qdw, hin, Bool.true_and]
  rw [if_neg (by omega), if_pos (by omega)]
  simp [qif, hw6]
 split
 ·rename_i e
  refine ⟨?_, by simp [M.qcM, M.isIn]; omega⟩
  simp only [M.qdw, hin, Bool.true_and]
  rw [if_neg (by omega), if_neg (by omega), if_neg (by omega), if_pos (by omega)]
  simp [qif]
 split
 ·rename_i e
  refine ⟨?_, by simp [M.qcM, M.isIn]; omega⟩
  simp only [M.qdw, hin, Bool.true_and]
  rw [if_neg (by omega), if_neg (by omega), if_pos (by omega)]
  simp [qif]
 ·refine ⟨?_, by simp [M.qcM, M.isIn]; omega⟩
  simp only [M.qdw, hin, Bool.true_and]
  rw [if_neg (by omega), if_neg (by omega), if_neg (by omega), if_neg (by omega), if_neg (by omega), if_neg (by omega)]
  have : M.isIn (1 + o) 3 9 = true := by simp [M.isIn]; omega
  simp [qif, this]
theorem qn1 (c : D.Cur) : M.isWord (M.qbO c).1 = true := by
 have h9 := qcZ c (n := 9) (by omega)
 have h9000 := qcZ (M.qa0 c 9).2 (n := 9000) (by omega)
 simp only [M.qbO, M.qau]
 generalize (M.qa0 c 9).1 = a at *
 generalize M.qa0 (M.qa0 c 9).2 9000 = b at *
 have hi := qcZ b.2 (n := (([0, 1, 2, 7, 100, 65535, 32768, a, b.1] : List Int).length : Int)) (by simp)
 have hm := qjR hi.1 hi.2
 rw [qdL]
 generalize rd ([0, 1, 2, 7, 100, 65535, 32768, a, b.1] : List Int) _ = x at *
 simp only [List.mem_cons, List.not_mem_nil, or_false] at hm
 omega
theorem qk0 : ∀ (k : Nat) (c : D.Cur), (M.qgW k c).1.all M.isWord = true
 | 0, c => rfl
 | k + 1, c => by simp only [M.qgW, List.all_append, qk0 k c, List.all_cons, List.all_nil, qn1, Bool.and_self]
theorem qi2 : ∀ (k : Nat) (c : D.Cur), ∀ x ∈ (M.qeA k c).1, 0 ≤ x ∧ x < 10000
 | 0, c, x, hx => by simp [M.qeA] at hx
 | k + 1, c, x, hx => by
  simp only [M.qeA, List.mem_append, List.mem_singleton] at hx
  rcases hx with hx | rfl
  ·exact qi2 k c x hx
  ·exact qcZ _ (by omega)
theorem qmC (a b : Int) : M.isWord (M.qkz a b) = true := by unfold M.qkz; split <;> rfl
theorem qhU (c : Bool) (x : Int) : M.isWord (if c then x % 65536 else 0) = true := by split; exact qmu x; rfl
theorem ql6 (a b : Int) : M.isWord (M.addW a b) = true := qhU _ _
theorem qmM (a b : Int) : M.isWord (M.subW a b) = true := qhU _ _
theorem qmQ (a b : Int) : M.isWord (M.mulW a b) = true := qhU _ _
theorem qmW {a b : Int} (ha : M.isWord a = true) (hb : M.isWord b = true) : M.isWord (qgK .i64 a b) = true := by
 rw [qdL] at *
 unfold qgK
 have e1 : (BitVec.ofInt (IntKind.bits .i64) a ^^^ BitVec.ofInt (IntKind.bits .i64) b).toNat = a.toNat ^^^ b.toNat := by
  show (BitVec.ofInt 64 a ^^^ BitVec.ofInt 64 b).toNat = _
  rw [BitVec.toNat_xor, BitVec.toNat_ofInt, BitVec.toNat_ofInt, show ((2 ^ 64 : Nat) : Int) = 18446744073709551616 from rfl]
  congr 1 <;> omega
 have e2 : a.toNat ^^^ b.toNat < 2 ^ 16 := Nat.xor_lt_two_pow (by omega) (by omega)
 rw [e1, w64 (by omega) (by omega)]
 omega
theorem qfz {r : List Int} (h : r.all M.isWord = true) (k : Nat) {x : Int} (hx : M.isWord x = true) : (r.set k x).all M.isWord = true := by
 rw [List.all_eq_true] at *
 intro y hy
 rcases List.mem_or_eq_of_mem_set hy with h' | rfl
 ·exact h y h'
 ·exact hx
theorem qlI {i : D.Ins} {n : Int} {t : Int} {r : List Int} (hok : M.qdw i n = true) (ht : 0 ≤ t ∧ t ≤ 23) (hl : r.length = 4) (h : r.all M.isWord = true) : (M.apply i t r).all M.isWord = true := by
 obtain ⟨_, hA, hB, hC⟩ := qjB (i := i) (r := r) ⟨hl, n, hok⟩
 have hw := List.all_eq_true.1 h
 have rdw : ∀ x, 0 ≤ x ∧ x ≤ 3 → M.isWord (rd r x) = true := fun x hx => hw _ (qjR hx.1 (by omega))
 unfold M.apply
 split
 ·rename_i e
  refine qfz h _ ?_
  simp only [M.qdw, Bool.and_eq_true] at hok
  have hok := hok.2
  rw [if_neg (by omega), if_pos e] at hok
  simp only [Bool.and_eq_true] at hok
  exact hok.2.1
 split
 ·exact qfz h _ (rdw _ (hB (by omega)))
 split
 ·exact qfz h _ (ql6 _ _)
 split
 ·exact qfz h _ (qmM _ _)
 split
 ·exact qfz h _ (qmQ _ _)
 split
 ·exact qfz h _ (qmW (rdw _ (hB (by omega))) (rdw _ (hC (by omega))))
 split
 ·exact qfz h _ (qmC _ _)
 split
 ·exact qfz h _ (qdL.2 (by omega))
 split
 ·split
  ·exact qfz h _ (rdw _ (hB (by omega)))
  ·exact h
 ·exact h
end Go.V
namespace Go.V
open IntKind (wrap)
theorem qoq {α : Type} [Inhabited α] [BEq α] [LawfulBEq α] {a b : List α} (ha : M.Long a) (hl : a.length = b.length) {B : (Int × Unit) → ((Int × Unit) → Prop) → Prop} {Q : Bool → Prop}
    (hb : ∀ (k : Nat) (next : (Int × Unit) → Prop), k < a.length → k < b.length → (rd a (k : Int) ≠ rd b (k : Int) → Q false) → (rd a (k : Int) = rd b (k : Int) → next (((k + 1 : Nat) : Int), ())) → B ((k : Int), ()) next)
    (he : ∀ (next : (Int × Unit) → Prop), a = b → B ((a.length : Int), ()) next) (hQ : a ≠ b → Q false) : qd7 B (0, ()) := by
 refine qd9 a.length (fun k => ((k : Int), ())) (fun k => ∀ j : Nat, j < k → rd a j = rd b j) rfl (by simp) (fun k hk hF next hn => ?_) fun hF next => ?_
 ·refine hb k next hk (by omega) (fun e => hQ (fun h => e (by rw [h]))) fun e => hn fun j hj => ?_
  by_cases hjk : j = k
  ·subst hjk; exact e
  ·exact hF j (by omega)
 ·exact he next (qls hl hF)
end Go.V
namespace Go.V
open IntKind (wrap)
def wp.qbL (x0 : Int) (Q : Bool → Prop) : Prop :=
 (∀ r21, r21 = M.qar x0 1 3 → Q r21)
def wp.qbf (xs0 : List Int) (Q : Bool → Prop) : Prop :=
 qa1 ((xs0.length : Int) == 32) ((M.qeS xs0 ∧ ∀ r21, r21 = M.qbT xs0 → Q r21)) (Q false)
def wp.qc9 (xs0 : List Int) (Q : Bool → Prop) : Prop :=
 Q ((xs0.length : Int) == 32)
def wp.qbU (xs0 : List D.Frame) (x1 : Int) (Q : Bool → Prop) : Prop :=
 qd7 (σ := Int × Unit) (fun (p83 : Int × Unit) next25 => match p83 with | (i21, _) => qa1 (decide (i21 < (xs0.length : Int))) (((0 ≤ i21 ∧ i21 < (xs0.length : Int)) ∧ (∀ r36, r36 = M.qar ((rd xs0 i21).Pc) 0 x1 → qa1 (!r36) (Q false) ((∀ r41, r41 = M.qar ((rd xs0 i21).Stop) 0 x1 → qa1 (!r41) (Q false) ((∀ r46, r46 = M.qdf ((rd xs0 i21).Mask) → qa1 (!r46) (Q false) (qa1 ((rd xs0 i21).Mask == 0) (Q false) (next25 ((wrap .i64 (i21 + 1)), ())))))))))) (qa1 ((xs0.length : Int) == 0) (Q true) (((0 ≤ (wrap .i64 ((xs0.length : Int) - 1)) ∧ (wrap .i64 ((xs0.length : Int) - 1)) < (xs0.length : Int)) ∧ qa1 (decide ((xs0.length : Int) ≤ 24)) (qa1 ((rd xs0 (wrap .i64 ((xs0.length : Int) - 1))).Pc != (rd xs0 (wrap .i64 ((xs0.length : Int) - 1))).Stop) (qa1 ((rd xs0 (wrap .i64 ((xs0.length : Int) - 1))).Pc != x1) (((0 ≤ (0 : Int) ∧ (0 : Int) < (xs0.length : Int)) ∧ qa1 ((rd xs0 0).Stop == x1) (((0 ≤ (0 : Int) ∧ (0 : Int) < (xs0.length : Int)) ∧ Q ((rd xs0 0).Mask == 255))) (Q false))) (Q false)) (Q false)) (Q false))))) (0, ())
def wp.qcH (xs0 : List D.Ins) (s1 : D.Warp) (Q : Bool → Prop) : Prop :=
 (∀ r23, r23 = M.qbx s1.Number → qa1 r23 ((∀ r28, r28 = M.qc9 s1.Regs → qa1 r28 ((M.qeS s1.Regs ∧ ∀ r33, r33 = M.qbT s1.Regs → qa1 r33 ((M.qfv s1.Frames (xs0.length : Int) ∧ ∀ r38, r38 = M.qbU s1.Frames (xs0.length : Int) → Q r38)) (Q false))) (Q false))) (Q false))
def wp.qbl (s0 : D.Block) (Q : Bool → Prop) : Prop :=
 (M.qee s0.Code ∧ ∀ r29, r29 = M.qbe s0.Code → qa1 (!r29) (Q false) ((∀ r34, r34 = M.qbL (s0.Warps.length : Int) → qa1 (!r34) (Q false) ((M.qfX s0.Memory ∧ ∀ r39, r39 = M.qbf s0.Memory → qa1 (!r39) (Q false) (((0 ≤ (s0.Warps.length : Int)) ∧ (∀ r45, r45 = M.qar s0.Waiting 0 (wrap .i64 ((wrap .i64 (1 * 2 ^ (min ((s0.Warps.length : Int).toNat) (IntKind.bits .i64)))) - 2)) → qa1 (!r45) (Q false) ((∀ r50, r50 = M.qar s0.Phase 0 100000 → qa1 (!r50) (Q false) (qd7 (σ := Int × Unit) (fun (p92 : Int × Unit) next59 => match p92 with | (i55, _) => qa1 (decide (i55 < (s0.Warps.length : Int))) (((0 ≤ i55 ∧ i55 < (s0.Warps.length : Int)) ∧ qa1 ((rd s0.Warps i55).Number != i55) (Q false) ((M.qfQ s0.Code (rd s0.Warps i55) ∧ ∀ r81, r81 = M.qcH s0.Code (rd s0.Warps i55) → qa1 (!r81) (Q false) (next59 ((wrap .i64 (i55 + 1)), ())))))) (Q true)) (0, ()))))))))))))
def wp.qdl (s0 : D.Block) (x1 : Int) (Q : Bool → Prop) : Prop :=
 (M.qdR s0 ∧ ∀ r23, r23 = M.qbl s0 → qa1 r23 ((∀ r28, r28 = M.qar x1 0 (wrap .i64 ((s0.Warps.length : Int) - 1)) → Q r28)) (Q false))
def wp.qbB (s0 : D.Block) (x1 : Int) (Q : Bool → Prop) : Prop :=
 ((0 ≤ x1) ∧ Q ((qdH .i64 (Int.fdiv s0.Waiting (2 ^ (min (x1.toNat) (IntKind.bits .i64)))) 1) == 1))
end Go.V
namespace Go.V
open IntKind (wrap)
theorem qdp {n : Nat} (h : n ≤ 9223372036854775807) : wrap .i64 ((n : Int) - 1) = (n : Int) - 1 := w64 (by omega) (by omega)
theorem qgV {fs : List D.Frame} {n : Int} {k : Nat} (hk : k < fs.length) (h : M.qeg n (rd fs (k : Int)) = false) : M.qe5 fs n = false := by
 have := all_false (g := M.qeg n) hk h
 simp [M.qe5, this]
theorem wp.qbU.math (fs : List D.Frame) (n : Int) (h : M.qfv fs n) : wp.qbU fs n (fun r => r = M.qbU fs n) := by
 unfold wp.qbU
 have hl : fs.length ≤ 9223372036854775807 := h
 refine qmd (g := M.qeg n) (Q := fun r => r = M.qe5 fs n) h (fun k next hk h1 h2 => ?_) (fun next ha => ?_) fun ha => by simp [M.qe5, ha]
 ·refine qaE (by simp; omega) ⟨by omega, fun r hr => qa3 (fun e => ?_) fun e r2 hr2 => qa3 (fun e2 => ?_) fun e2 r3 hr3 => qa3 (fun e3 => ?_) fun e3 => qa3 (fun e4 => ?_) fun e4 => ?_⟩
  all_goals simp only [M.qar, M.qdf] at *
  ·have := nt e hr
   exact (qgV hk (by simp [M.qeg, this])).symm
  ·have := nt e2 hr2
   exact (qgV hk (by simp [M.qeg, this])).symm
  ·have := nt e3 hr3
   exact (qgV hk (by simp [M.qeg, this])).symm
  ·have e4 : (rd fs (k : Int)).Mask = 0 := by simpa using e4
   exact (qgV hk (by simp [M.qeg, e4])).symm
  ·rw [up64 hk h]
   refine h2 ?_
   have e4 : (rd fs (k : Int)).Mask ≠ 0 := by simpa using e4
   simp [M.qeg, nf e hr, nf e2 hr2, nf e3 hr3, e4]
 ·refine qaC (by simp) (qa3 (fun e => ?_) fun e => ?_)
  ·have : fs = [] := by simpa using e
   subst this; rfl
  have h0 : fs ≠ [] := by rintro rfl; simp at e
  have hpos : 0 < fs.length := List.length_pos_iff.2 h0
  have hA : M.qe5 fs n = M.qia fs n := by
   have : fs.isEmpty = false := by simpa using h0
   simp [M.qe5, ha, this]
  show _
  simp only [M.qbU, hA, qdp hl]
  refine ⟨by omega, qa3 (fun e1 => qa3 (fun e2 => qa3 (fun e3 => ⟨by omega, qa3 (fun e4 => ⟨by omega, ?_⟩) fun e4 => ?_⟩) fun e3 => ?_) fun e2 => ?_) fun e1 => ?_⟩
  all_goals simp only [M.qia]
  all_goals change _ = (_ && ((rd fs ((fs.length : Int) - 1)).Pc != (rd fs ((fs.length : Int) - 1)).Stop && ((rd fs ((fs.length : Int) - 1)).Pc != n && _)))
  ·have e1 : fs.length ≤ 24 := by simp at e1; omega
   rw [e2, e3, e4]; simp [e1]
  ·rw [e4]; simp
  ·rw [e3]; simp
  ·rw [e2]; simp
  ·have e1 : ¬ fs.length ≤ 24 := by simp at e1; omega
   simp [e1]
theorem lenE {r : List Int} : ((r.length : Int) == 32) = (r.length == 32) := by
 rw [Bool.eq_iff_iff]; simp; omega
theorem wp.qc9.math (r : List Int) : wp.qc9 r (fun x => x = M.qc9 r) := lenE
theorem wp.qbL.math (n : Int) : wp.qbL n (fun x => x = M.qbL n) := fun r hr => hr
theorem wp.qbf.math (m : List Int) (h : M.qfX m) : wp.qbf m (fun x => x = M.qbf m) := by
 refine qa3 (fun e => ⟨h, fun r hr => ?_⟩) fun e => ?_
 ·have : m.length = 32 := by simp at e; omega
  rw [hr]; simp [M.qbf, this, M.qbT]
 ·have : ¬ m.length = 32 := by simp at e; omega
  simp [M.qbf, this]
theorem wp.qcH.math (p : List D.Ins) (x : D.Warp) (h : M.qfQ p x) : wp.qcH p x (fun r => r = M.qcH p x) := by
 obtain ⟨h1, h2⟩ := h
 refine fun r hr => qa3 (fun e r2 hr2 => qa3 (fun e2 => ⟨h2, fun r3 hr3 => qa3 (fun e3 => ⟨h1, fun r4 hr4 => ?_⟩) fun e3 => ?_⟩) fun e2 => ?_) fun e => ?_
 all_goals try simp only [M.qbx, M.qc9, M.qbT, M.qbU, M.qcH, M.qfN] at *
 ·subst hr hr2 hr3 hr4; simp [e, e2, e3]
 ·subst hr hr2 hr3; simp [e, e2, e3]
 ·subst hr hr2; simp [e, e2]
 ·subst hr; simp [e]
theorem lenB {r : List Int} : ((r.length : Int) != 32) = !(r.length == 32) := by rw [← lenE]; rfl
theorem qmD (p : List D.Ins) (l : List D.Warp) (k : Nat) (hk : k < l.length) : M.qdq p k (l.drop k) = (M.qgT p k (rd l (k : Int)) && M.qdq p (k + 1) (l.drop (k + 1))) := by
 rw [List.drop_eq_getElem_cons hk, qdU hk]; rfl
theorem qmr {p : List D.Ins} {l : List D.Warp} (hl : M.Long l) {B : (Int × Unit) → ((Int × Unit) → Prop) → Prop}
    (hb : ∀ (k : Nat) (next : (Int × Unit) → Prop), k < l.length → (M.qgT p k (rd l (k : Int)) = false → false = M.qdq p 0 l) → (M.qgT p k (rd l (k : Int)) = true → next (((k + 1 : Nat) : Int), ())) → B ((k : Int), ()) next)
    (he : ∀ (next : (Int × Unit) → Prop), true = M.qdq p 0 l → B ((l.length : Int), ()) next) : qd7 B (0, ()) := by
 refine qd9 l.length (fun k => ((k : Int), ())) (fun k => M.qdq p 0 l = M.qdq p k (l.drop k)) rfl rfl (fun k hk hF next hn => ?_) fun hF next => ?_
 ·rw [qmD p l k hk] at hF
  refine hb k next hk (fun e => by rw [hF, e]; rfl) fun e => hn (by rw [hF, e]; rfl)
 ·refine he next ?_
  rw [hF, List.drop_length]; rfl
theorem wp.qbl.math (b : D.Block) (h : M.qdR b) : wp.qbl b (fun r => r = M.qbl b) := by
 obtain ⟨h1, ⟨h2, hW⟩, h3⟩ := h
 refine ⟨h1, fun r hr => qa3 (fun e => ?_) fun e r2 hr2 => qa3 (fun e2 => ?_) fun e2 => ⟨h3, fun r4 hr4 => qa3 (fun e4 => ?_) fun e4 => ⟨by omega, fun r5 hr5 => qa3 (fun e5 => ?_) fun e5 r6 hr6 => qa3 (fun e6 => ?_) fun e6 => ?_⟩⟩⟩
 all_goals simp only [M.qbe, M.qbL, M.qar] at *
 all_goals simp only [M.qbl, M.qcT]
 ·rw [nt e hr]; rfl
 ·rw [nt e2 hr2]; simp
 ·rw [nt e4 hr4]; simp
 ·have := nt e5 hr5
  unfold M.qhB; rw [this]; simp
 ·rw [nt e6 hr6]; simp
 have h5 := nf e5 hr5
 unfold M.qhB
 rw [nf e hr, nf e2 hr2, nf e4 hr4, h5, nf e6 hr6]
 simp only [Bool.true_and]
 refine qmr h2 (fun k next hk g1 g2 => ?_) fun next hh => qaC (by simp) hh
 refine qaE (by simp; omega) ⟨by omega, qa3 (fun e2 => ?_) fun e2 => ⟨hW _ (qgg hk), fun r hr => qa3 (fun e => ?_) fun e => ?_⟩⟩
 all_goals simp only [M.qcH] at *
 ·have e2 : (rd b.Warps (k : Int)).Number ≠ (k : Int) := by simpa using e2
  exact g1 (by simp [M.qgT, e2])
 ·exact g1 (by simp [M.qgT, nt e hr])
 ·have e2 : (rd b.Warps (k : Int)).Number = (k : Int) := by simpa using e2
  rw [up64 hk h2]; exact g2 (by simp [M.qgT, e2, nf e hr])
theorem wp.qdl.math (b : D.Block) (w : Int) (h : M.qgo b w) : wp.qdl b w (fun r => r = M.qdl b w) := by
 refine ⟨h, fun r hr => qa3 (fun e r2 hr2 => ?_) fun e => ?_⟩
 all_goals simp only [M.qbl, M.qar, M.qdl, M.qhs] at *
 ·rw [hr2, ← hr, e]; rfl
 ·rw [← hr, e]; rfl
theorem wp.qbB.math (b : D.Block) (w : Int) (h : M.qej b w) : wp.qbB b w (fun r => r = M.qbB b w) := ⟨h, rfl⟩
theorem qou {b : D.Block} {w : Int} (hb : M.Long b.Warps) (h : M.qhs b w = true) : 0 ≤ w ∧ w < (b.Warps.length : Int) ∧ M.qcT b = true := by
 have hl : b.Warps.length ≤ 9223372036854775807 := hb
 simp only [M.qhs, Bool.and_eq_true, M.isIn, decide_eq_true_eq, qdp hl] at h
 exact ⟨h.2.1, by omega, h.1⟩
theorem qk3 {b : D.Block} (h : M.qn3 b) : M.qix b := by
 obtain ⟨h1, ⟨h2, h3⟩, h4⟩ := h
 unfold M.qix M.qnj M.qnp M.Long
 exact ⟨by omega, ⟨by omega, fun x hx => by have := h3 x hx; unfold M.qm7 at this; omega⟩, by omega⟩
end Go.V
namespace Go.V
open IntKind (wrap)
def wp.qaa (xs0 : List D.Warp) (g1 : D.Warp → Bool) (D1 : D.Warp → Prop) (Q : Int → Prop) : Prop :=
 qd7 (σ := Int × Unit) (fun (p53 : Int × Unit) next25 => match p53 with | (i21, _) => qa1 (decide (i21 < (xs0.length : Int))) (((0 ≤ i21 ∧ i21 < (xs0.length : Int)) ∧ (D1 (rd xs0 i21) ∧ ∀ r43, r43 = g1 (rd xs0 i21) → qa1 r43 (Q i21) (next25 ((wrap .i64 (i21 + 1)), ()))))) (Q (-1))) (0, ())
def wp.qab (xs0 : List D.Warp) (g1 : D.Warp → Bool) (D1 : D.Warp → Prop) (Q : Bool → Prop) : Prop :=
 (M.qcL xs0 g1 D1 ∧ ∀ r21, r21 = M.qaa xs0 g1 → Q (decide (r21 ≥ 0)))
def wp.qb9 (s0 : D.Warp) (Q : Bool → Prop) : Prop :=
 Q (decide ((s0.Frames.length : Int) > 0))
def wp.qbb (s0 : D.Block) (Q : Bool → Prop) : Prop :=
 (M.qcm s0.Warps (fun z0_ => M.qb9 z0_) (fun z0_ => M.qeC z0_) ∧ ∀ r23, r23 = M.qab s0.Warps (fun z0_ => M.qb9 z0_) → Q (!r23))
def wp.qbn (s0 : D.Block) (Q : Bool → Prop) : Prop :=
 (M.qdR s0 ∧ ∀ r23, r23 = M.qbl s0 → qa1 r23 ((M.qel s0 ∧ ∀ r28, r28 = M.qbb s0 → Q r28)) (Q false))
def wp.qch (s0 : D.Block) (x1 : Int) (Q : D.Ins → Prop) : Prop :=
 ((0 ≤ x1 ∧ x1 < (s0.Warps.length : Int)) ∧ ((0 ≤ (wrap .i64 (((rd s0.Warps x1).Frames.length : Int) - 1)) ∧ (wrap .i64 (((rd s0.Warps x1).Frames.length : Int) - 1)) < (((rd s0.Warps x1).Frames).length : Int)) ∧ ((0 ≤ (rd ((rd s0.Warps x1).Frames) (wrap .i64 (((rd s0.Warps x1).Frames.length : Int) - 1))).Pc ∧ (rd ((rd s0.Warps x1).Frames) (wrap .i64 (((rd s0.Warps x1).Frames.length : Int) - 1))).Pc < (s0.Code.length : Int)) ∧ Q (⟨(rd s0.Code ((rd ((rd s0.Warps x1).Frames) (wrap .i64 (((rd s0.Warps x1).Frames.length : Int) - 1))).Pc)).Op, (rd s0.Code ((rd ((rd s0.Warps x1).Frames) (wrap .i64 (((rd s0.Warps x1).Frames.length : Int) - 1))).Pc)).A, (rd s0.Code ((rd ((rd s0.Warps x1).Frames) (wrap .i64 (((rd s0.Warps x1).Frames.length : Int) - 1))).Pc)).B, (rd s0.Code ((rd ((rd s0.Warps x1).Frames) (wrap .i64 (((rd s0.Warps x1).Frames.length : Int) - 1))).Pc)).C⟩ : D.Ins))))
def wp.qaB (s0 : D.Block) (x1 : Int) (Q : (D.Ins × Bool) → Prop) : Prop :=
 ((0 ≤ x1 ∧ x1 < (s0.Warps.length : Int)) ∧ qa1 (((rd s0.Warps x1).Frames.length : Int) == 0) (Q ((⟨0, 0, 0, 0⟩ : D.Ins), false)) (((0 ≤ (wrap .i64 (((rd s0.Warps x1).Frames.length : Int) - 1)) ∧ (wrap .i64 (((rd s0.Warps x1).Frames.length : Int) - 1)) < (((rd s0.Warps x1).Frames).length : Int)) ∧ ((0 ≤ (rd ((rd s0.Warps x1).Frames) (wrap .i64 (((rd s0.Warps x1).Frames.length : Int) - 1))).Pc ∧ (rd ((rd s0.Warps x1).Frames) (wrap .i64 (((rd s0.Warps x1).Frames.length : Int) - 1))).Pc < (s0.Code.length : Int)) ∧ Q ((⟨(rd s0.Code ((rd ((rd s0.Warps x1).Frames) (wrap .i64 (((rd s0.Warps x1).Frames.length : Int) - 1))).Pc)).Op, (rd s0.Code ((rd ((rd s0.Warps x1).Frames) (wrap .i64 (((rd s0.Warps x1).Frames.length : Int) - 1))).Pc)).A, (rd s0.Code ((rd ((rd s0.Warps x1).Frames) (wrap .i64 (((rd s0.Warps x1).Frames.length : Int) - 1))).Pc)).B, (rd s0.Code ((rd ((rd s0.Warps x1).Frames) (wrap .i64 (((rd s0.Warps x1).Frames.length : Int) - 1))).Pc)).C⟩ : D.Ins), true)))))
end Go.V
namespace Go.V
open IntKind (wrap)
theorem qni {α : Type} {l : List α} : decide ((l.length : Int) > 0) = !l.isEmpty := by
 cases l with
 | nil => rfl
 | cons x l =>
  have : ((x :: l).length : Int) > 0 := by simp only [List.length_cons]; omega
  rw [decide_eq_true this]; rfl
theorem qh8 {α : Type} {l : List α} : ((l.length : Int) == 0) = l.isEmpty := by
 cases l with
 | nil => rfl
 | cons x l =>
  have : ¬ ((x :: l).length : Int) = 0 := by simp only [List.length_cons]; omega
  rw [beq_eq_false_iff_ne.2 this]; rfl
theorem wp.qaa.math (l : List D.Warp) (g : D.Warp → Bool) (D : D.Warp → Prop) (h : M.qcL l g D) : wp.qaa l g D (fun r => r = M.qaa l g) := by
 unfold wp.qaa
 obtain ⟨h1, h2⟩ := h
 refine qd9 l.length (fun k => ((k : Int), ())) (fun k => M.qaa l g = M.qe9 g (l.drop k) k) rfl (by simp [M.qaa]) (fun k hk hF next hn => ?_) fun hF next => ?_
 ·rw [qgU g l k hk] at hF
  refine qaE (by simp; omega) ⟨by omega, h2 _ (qgg hk), fun r hr => qa3 (fun e => ?_) fun e => ?_⟩
  ·rw [hF, if_pos (by rw [← hr]; exact e)]
  ·rw [up64 hk h1]
   exact hn (by rw [hF, if_neg (by rw [← hr, e]; simp)])
 ·refine qaC (by simp) ?_
  rw [hF]; simp [M.qe9]
theorem wp.qab.math (l : List D.Warp) (g : D.Warp → Bool) (D : D.Warp → Prop) (h : M.qcm l g D) : wp.qab l g D (fun r => r = M.qab l g) :=
 ⟨h, fun r hr => by rw [hr]; exact qf3 g l 0⟩
theorem wp.qb9.math (x : D.Warp) (h : M.qeC x) : wp.qb9 x (fun r => r = M.qb9 x) := qni
theorem wp.qbb.math (b : D.Block) (h : M.qel b) : wp.qbb b (fun r => r = M.qbb b) := by
 refine ⟨⟨h, fun _ _ => trivial⟩, fun r hr => ?_⟩
 rw [hr]
 simp only [M.qab, M.qbb, M.ended, M.qb9, ← List.all_eq_not_any_not]
theorem wp.qbn.math (b : D.Block) (h : M.qet b) : wp.qbn b (fun r => r = M.qbn b) := by
 refine ⟨h, fun r hr => qa3 (fun e => ⟨h.2.1.1, fun r2 hr2 => ?_⟩) fun e => ?_⟩
 ·have : M.qcT b = true := hr.symm.trans e
  rw [hr2]; simp [M.qbn, M.qgF, this, M.qbb]
 ·have : M.qcT b = false := hr.symm.trans e
  simp [M.qbn, M.qgF, this]
theorem qnb {p : List D.Ins} : ∀ {l : List D.Warp} {k n : Nat}, M.qdq p k l = true → n < l.length → M.qgT p (k + n) (rd l (n : Int)) = true
 | [], k, n, h, hn => absurd hn (by simp)
 | x :: l, k, 0, h, hn => by
  simp only [M.qdq, Bool.and_eq_true] at h
  exact h.1
 | x :: l, k, n + 1, h, hn => by
  simp only [M.qdq, Bool.and_eq_true] at h
  have := qnb (n := n) h.2 (by simpa using hn)
  rw [show k + (n + 1) = k + 1 + n by omega]
  have e : rd (x :: l) ((n + 1 : Nat) : Int) = rd l (n : Int) := by
   have hn' : n < l.length := by simpa using hn
   rw [qdU hn, qdU hn']; rfl
  rw [e]; exact this
theorem qen {b : D.Block} {w : Int} (h : M.Has b w) : 0 ≤ w ∧ w < (b.Warps.length : Int) ∧ M.qaW b.Code = true ∧ M.qfN b.Code (rd b.Warps w) = true ∧ (rd b.Warps w).Number = w ∧ M.qcT b = true := by
 obtain ⟨hb, hh⟩ := h
 obtain ⟨h0, h1, hok⟩ := qou hb.2.1.1 hh
 have hok' := hok
 simp only [M.qcT, Bool.and_eq_true] at hok
 obtain ⟨k, rfl⟩ := Int.eq_ofNat_of_zero_le h0
 have := qnb (n := k) hok.2.2.2.2.2 (by omega)
 rw [Nat.zero_add] at this
 simp only [M.qgT, Bool.and_eq_true, beq_iff_eq] at this
 exact ⟨h0, h1, hok.1, this.2, this.1, hok'⟩
theorem qhW {p : List D.Ins} {x : D.Warp} (h : M.qfN p x = true) (hx : x.Frames ≠ []) : x.Frames.length ≤ 24 ∧ 0 ≤ (M.qd0 x.Frames).Pc ∧ (M.qd0 x.Frames).Pc < (p.length : Int) := by
 simp only [M.qfN, M.qe5, Bool.and_eq_true, Bool.or_eq_true] at h
 obtain ⟨h1, h2, h3, h4, h5⟩ := h
 have h5 := h5.resolve_left (by simpa using hx)
 have hpos : 0 < x.Frames.length := List.length_pos_iff.2 hx
 have hm : M.qd0 x.Frames ∈ x.Frames := qjR (by omega) (by omega)
 have hf := List.all_eq_true.1 h4 _ hm
 simp only [M.qia, M.qeg, M.isIn, Bool.and_eq_true, decide_eq_true_eq, bne_iff_ne] at h5 hf
 exact ⟨h5.1, hf.1.1, by omega⟩
theorem wp.qch.math (b : D.Block) (w : Int) (h : M.qez b w) : wp.qch b w (fun r => r = M.qch b w) := by
 obtain ⟨hh, hx⟩ := h
 obtain ⟨h0, h1, hp, hw, hn, hok⟩ := qen hh
 obtain ⟨k1, k2, k3⟩ := qhW hw hx
 have hpos : 0 < (rd b.Warps w).Frames.length := List.length_pos_iff.2 hx
 unfold wp.qch
 rw [qdp (by omega)]
 exact ⟨⟨h0, h1⟩, ⟨by omega, by omega⟩, ⟨k2, k3⟩, rfl⟩
theorem wp.qaB.math (b : D.Block) (w : Int) (h : M.qe8 b w) : wp.qaB b w (fun r => r = M.qaB b w) := by
 obtain ⟨h0, h1, hp, hw, hn, hok⟩ := qen h
 unfold wp.qaB
 rw [qh8]
 refine ⟨⟨h0, h1⟩, qa3 (fun e => ?_) fun e => ?_⟩
 ·simp [M.qaB, e]
 ·have hx : (rd b.Warps w).Frames ≠ [] := by simpa using e
  obtain ⟨k1, k2, k3⟩ := qhW hw hx
  have hpos : 0 < (rd b.Warps w).Frames.length := List.length_pos_iff.2 hx
  rw [qdp (by omega)]
  refine ⟨⟨by omega, by omega⟩, ⟨k2, k3⟩, ?_⟩
  simp only [M.qaB, e]; rfl
end Go.V
namespace Go.V
open IntKind (wrap)
def wp.qal (xs0 : List D.Ins) (xs1 : List D.Ins) (Q : Bool → Prop) : Prop :=
 qa1 ((xs0.length : Int) != (xs1.length : Int)) (Q false) (qd7 (σ := Int × Unit) (fun (p43 : Int × Unit) next25 => match p43 with | (i21, _) => qa1 (decide (i21 < (xs0.length : Int))) (((0 ≤ i21 ∧ i21 < (xs0.length : Int)) ∧ ((0 ≤ i21 ∧ i21 < (xs1.length : Int)) ∧ qa1 (!(((rd xs0 i21).Op == (rd xs1 i21).Op) && ((rd xs0 i21).A == (rd xs1 i21).A) && ((rd xs0 i21).B == (rd xs1 i21).B) && ((rd xs0 i21).C == (rd xs1 i21).C))) (Q false) (next25 ((wrap .i64 (i21 + 1)), ()))))) (Q true)) (0, ()))
def wp.qa4 (xs0 : List D.Warp) (xs1 : List D.Warp) (g2 : D.Warp → D.Warp → Bool) (D2 : D.Warp → D.Warp → Prop) (Q : Bool → Prop) : Prop :=
 qa1 ((xs0.length : Int) != (xs1.length : Int)) (Q false) (qd7 (σ := Int × Unit) (fun (p77 : Int × Unit) next25 => match p77 with | (i21, _) => qa1 (decide (i21 < (xs0.length : Int))) (((0 ≤ i21 ∧ i21 < (xs0.length : Int)) ∧ ((0 ≤ i21 ∧ i21 < (xs1.length : Int)) ∧ (D2 (rd xs0 i21) (rd xs1 i21) ∧ ∀ r67, r67 = g2 (rd xs0 i21) (rd xs1 i21) → qa1 (!r67) (Q false) (next25 ((wrap .i64 (i21 + 1)), ())))))) (Q true)) (0, ()))
def wp.qah (xs0 : List D.Frame) (xs1 : List D.Frame) (Q : Bool → Prop) : Prop :=
 qa1 ((xs0.length : Int) != (xs1.length : Int)) (Q false) (qd7 (σ := Int × Unit) (fun (p43 : Int × Unit) next25 => match p43 with | (i21, _) => qa1 (decide (i21 < (xs0.length : Int))) (((0 ≤ i21 ∧ i21 < (xs0.length : Int)) ∧ ((0 ≤ i21 ∧ i21 < (xs1.length : Int)) ∧ qa1 (!(((rd xs0 i21).Pc == (rd xs1 i21).Pc) && ((rd xs0 i21).Stop == (rd xs1 i21).Stop) && ((rd xs0 i21).Mask == (rd xs1 i21).Mask))) (Q false) (next25 ((wrap .i64 (i21 + 1)), ()))))) (Q true)) (0, ()))
def wp.qav (xs0 : List Int) (xs1 : List Int) (Q : Bool → Prop) : Prop :=
 qa1 ((xs0.length : Int) != (xs1.length : Int)) (Q false) (qd7 (σ := Int × Unit) (fun (p43 : Int × Unit) next25 => match p43 with | (i21, _) => qa1 (decide (i21 < (xs0.length : Int))) (((0 ≤ i21 ∧ i21 < (xs0.length : Int)) ∧ ((0 ≤ i21 ∧ i21 < (xs1.length : Int)) ∧ qa1 ((rd xs0 i21) != (rd xs1 i21)) (Q false) (next25 ((wrap .i64 (i21 + 1)), ()))))) (Q true)) (0, ()))
def wp.qc0 (s0 : D.Warp) (s1 : D.Warp) (Q : Bool → Prop) : Prop :=
 qa1 (s0.Number == s1.Number) ((M.qcV s0.Frames s1.Frames ∧ ∀ r25, r25 = M.qah s0.Frames s1.Frames → qa1 r25 ((M.qdI s0.Regs s1.Regs ∧ ∀ r30, r30 = M.qav s0.Regs s1.Regs → Q r30)) (Q false))) (Q false)
def wp.qce (s0 : D.Block) (s1 : D.Block) (Q : Bool → Prop) : Prop :=
 (M.qdn s0.Code s1.Code ∧ ∀ r25, r25 = M.qal s0.Code s1.Code → qa1 r25 ((M.qb8 s0.Warps s1.Warps (fun z0_ z1_ => M.qc0 z0_ z1_) (fun z0_ z1_ => M.qfU z0_ z1_) ∧ ∀ r30, r30 = M.qa4 s0.Warps s1.Warps (fun z0_ z1_ => M.qc0 z0_ z1_) → qa1 r30 ((M.qdI s0.Memory s1.Memory ∧ ∀ r35, r35 = M.qav s0.Memory s1.Memory → qa1 r35 (qa1 (s0.Waiting == s1.Waiting) (Q (s0.Phase == s1.Phase)) (Q false)) (Q false))) (Q false))) (Q false))
end Go.V
namespace Go.V
open IntKind (wrap)
theorem insB (a b : D.Ins) : ((a.Op == b.Op) && (a.A == b.A) && (a.B == b.B) && (a.C == b.C)) = (a == b) := by
 cases a; cases b; rw [Bool.eq_iff_iff]; simp [and_assoc]
theorem qoE (a b : D.Frame) : ((a.Pc == b.Pc) && (a.Stop == b.Stop) && (a.Mask == b.Mask)) = (a == b) := by
 cases a; cases b; rw [Bool.eq_iff_iff]; simp [and_assoc]
theorem qj9 {α : Type} [Inhabited α] [BEq α] [LawfulBEq α] {a b : List α} (ha : M.Long a) {Q : Bool → Prop} {B : (Int × Unit) → ((Int × Unit) → Prop) → Prop}
    (hb : a.length = b.length → ∀ (k : Nat) (next : (Int × Unit) → Prop), k < a.length → k < b.length → (rd a (k : Int) ≠ rd b (k : Int) → Q false) → (rd a (k : Int) = rd b (k : Int) → next (((k + 1 : Nat) : Int), ())) → B ((k : Int), ()) next)
    (he : ∀ (next : (Int × Unit) → Prop), a = b → B ((a.length : Int), ()) next) (hQ : a ≠ b → Q false) : qa1 ((a.length : Int) != (b.length : Int)) (Q false) (qd7 B (0, ())) := by
 refine qa3 (fun e => hQ ?_) fun e => ?_
 ·rintro rfl; simp at e
 ·have hl : a.length = b.length := by simp at e; omega
  exact qoq ha hl (hb hl) he hQ
theorem wp.qal.math (a b : List D.Ins) (h : M.qdn a b) : wp.qal a b (fun r => r = M.qal a b) := by
 unfold wp.qal
 simp only [insB]
 refine qj9 h (Q := fun r => r = M.qal a b) (fun hl k next hk hk' h1 h2 => ?_) (fun next e => qaC (by simp) (by simp [M.qal, e])) fun hne => by simp [M.qal, hne]
 refine qaE (by simp; omega) ⟨by omega, by omega, qa3 (fun e => h1 (by simpa using e)) fun e => ?_⟩
 rw [up64 hk h]; exact h2 (by simpa using e)
theorem wp.qah.math (a b : List D.Frame) (h : M.qcV a b) : wp.qah a b (fun r => r = M.qah a b) := by
 unfold wp.qah
 simp only [qoE]
 refine qj9 h (Q := fun r => r = M.qah a b) (fun hl k next hk hk' h1 h2 => ?_) (fun next e => qaC (by simp) (by simp [M.qah, e])) fun hne => by simp [M.qah, hne]
 refine qaE (by simp; omega) ⟨by omega, by omega, qa3 (fun e => h1 (by simpa using e)) fun e => ?_⟩
 rw [up64 hk h]; exact h2 (by simpa using e)
theorem wp.qav.math (a b : List Int) (h : M.qdI a b) : wp.qav a b (fun r => r = M.qav a b) := by
 unfold wp.qav
 refine qj9 h (Q := fun r => r = M.qav a b) (fun hl k next hk hk' h1 h2 => ?_) (fun next e => qaC (by simp) (by simp [M.qav, e])) fun hne => by simp [M.qav, hne]
 refine qaE (by simp; omega) ⟨by omega, by omega, qa3 (fun e => h1 (by simpa using e)) fun e => ?_⟩
 rw [up64 hk h]; exact h2 (by simpa using e)
theorem qlr {a b : D.Warp} (h : a.Number ≠ b.Number ∨ a.Frames ≠ b.Frames ∨ a.Regs ≠ b.Regs) : (a == b) = false := by
 refine beq_eq_false_iff_ne.2 ?_
 rintro rfl
 simp at h
theorem qo6 {a b : D.Warp} (h1 : a.Number = b.Number) (h2 : a.Frames = b.Frames) (h3 : a.Regs = b.Regs) : (a == b) = true := by
 cases a; cases b; simp at *; exact ⟨h1, h2, h3⟩
theorem qin {a b : D.Block} (h : a.Code ≠ b.Code ∨ a.Warps ≠ b.Warps ∨ a.Memory ≠ b.Memory ∨ a.Waiting ≠ b.Waiting ∨ a.Phase ≠ b.Phase) : (a == b) = false := by
 refine beq_eq_false_iff_ne.2 ?_
 rintro rfl
 simp at h
theorem qnK {a b : D.Block} (h1 : a.Code = b.Code) (h2 : a.Warps = b.Warps) (h3 : a.Memory = b.Memory) (h4 : a.Waiting = b.Waiting) (h5 : a.Phase = b.Phase) : (a == b) = true := by
 cases a; cases b; simp at *; exact ⟨h1, h2, h3, h4, h5⟩
theorem qnF (g : D.Warp → D.Warp → Bool) (a b : List D.Warp) (k : Nat) (hk : k < a.length) (hk' : k < b.length) : M.allTwo g (a.drop k) (b.drop k) = (g (rd a (k : Int)) (rd b (k : Int)) && M.allTwo g (a.drop (k + 1)) (b.drop (k + 1))) := by
 rw [List.drop_eq_getElem_cons hk, List.drop_eq_getElem_cons hk', qdU hk, qdU hk']; rfl
theorem qmO (g : D.Warp → D.Warp → Bool) : ∀ (a b : List D.Warp), a.length ≠ b.length → M.allTwo g a b = false
 | [], [], h => by simp at h
 | [], y :: b, h => rfl
 | x :: a, [], h => rfl
 | x :: a, y :: b, h => by
  simp only [M.allTwo, qmO g a b (by simpa using h), Bool.and_false]
theorem wp.qa4.math (a b : List D.Warp) (g : D.Warp → D.Warp → Bool) (D : D.Warp → D.Warp → Prop) (h : M.qb8 a b g D) :
    wp.qa4 a b g D (fun r => r = M.qa4 a b g) := by
 obtain ⟨h1, h2⟩ := h
 refine qa3 (fun e => ?_) fun e => ?_
 ·exact (qmO g a b (by simp at e; omega)).symm
 have hl : a.length = b.length := by simp at e; omega
 refine qd9 a.length (fun k => ((k : Int), ())) (fun k => M.allTwo g a b = M.allTwo g (a.drop k) (b.drop k)) rfl rfl (fun k hk hF next hn => ?_) fun hF next => ?_
 ·rw [qnF g a b k hk (by omega)] at hF
  refine qaE (by simp; omega) ⟨by omega, by omega, h2 _ (qgg hk) _, fun r hr => qa3 (fun e => ?_) fun e => ?_⟩
  ·show false = M.allTwo g a b
   rw [hF, nt e hr]; rfl
  ·rw [up64 hk h1]
   exact hn (by rw [hF, nf e hr]; rfl)
 ·refine qaC (by simp) ?_
  show true = M.allTwo g a b
  rw [hF, List.drop_length, hl, List.drop_length]; rfl
theorem wp.qc0.math (a b : D.Warp) (h : M.qfU a b) : wp.qc0 a b (fun r => r = M.qc0 a b) := by
 obtain ⟨h1, h2⟩ := h
 refine qa3 (fun e => ⟨h1, fun r hr => qa3 (fun e2 => ⟨h2, fun r3 hr3 => ?_⟩) fun e2 => ?_⟩) fun e => ?_
 ·have e : a.Number = b.Number := by simpa using e
  have e2 : a.Frames = b.Frames := by have := hr.symm.trans e2; simpa [M.qah] using this
  by_cases e3 : a.Regs = b.Regs
  ·rw [hr3, show M.qc0 a b = true from qo6 e e2 e3]; simp [M.qav, e3]
  ·rw [hr3, show M.qc0 a b = false from qlr (.inr (.inr e3))]; simp [M.qav, e3]
 ·have := hr.symm.trans e2
  exact (qlr (.inr (.inl (by simpa [M.qah] using this)))).symm
 ·exact (qlr (.inl (by simpa using e))).symm
theorem qnU : ∀ (a b : List D.Warp), M.allTwo (fun x y => M.qc0 x y) a b = (a == b)
 | [], [] => rfl
 | [], y :: b => rfl
 | x :: a, [] => rfl
 | x :: a, y :: b => by
  rw [M.allTwo, qnU a b]
  show ((x == y) && (a == b)) = _
  rw [Bool.eq_iff_iff]; simp
theorem wp.qce.math (a b : D.Block) (h : M.qfy a b) : wp.qce a b (fun r => r = M.qce a b) := by
 obtain ⟨h1, ⟨h2, hW⟩, h3⟩ := h
 refine ⟨h1, fun r hr => qa3 (fun e => ⟨⟨h2, fun x hx y => hW x hx⟩, fun r2 hr2 => qa3 (fun e2 => ⟨h3, fun r3 hr3 => qa3 (fun e3 => qa3 (fun e4 => ?_) fun e4 => ?_) fun e3 => ?_⟩) fun e2 => ?_⟩) fun e => ?_⟩
 all_goals try simp only [M.qa4, qnU] at hr2
 all_goals try simp only [M.qal] at hr
 all_goals try simp only [M.qav] at hr3
 ·have k1 : a.Code = b.Code := by have := hr.symm.trans e; simpa using this
  have k2 : a.Warps = b.Warps := by have := hr2.symm.trans e2; simpa using this
  have k3 : a.Memory = b.Memory := by have := hr3.symm.trans e3; simpa using this
  have k4 : a.Waiting = b.Waiting := by simpa using e4
  by_cases k5 : a.Phase = b.Phase
  ·rw [show M.qce a b = true from qnK k1 k2 k3 k4 k5]; simp [k5]
  ·rw [show M.qce a b = false from qin (.inr (.inr (.inr (.inr k5))))]; simp [k5]
 ·exact (qin (.inr (.inr (.inr (.inl (by simpa using e4)))))).symm
 ·exact (qin (.inr (.inr (.inl (by have := hr3.symm.trans e3; simpa using this))))).symm
 ·exact (qin (.inr (.inl (by have := hr2.symm.trans e2; simpa using this)))).symm
 ·exact (qin (.inl (by have := hr.symm.trans e; simpa using this))).symm
end Go.V
namespace Go.V
open IntKind (wrap)
def wp.qck (xs0 : List D.Ins) (x1 : Int) (Q : (D.Warp × Bool) → Prop) : Prop :=
 (M.qeb xs0 ∧ ∀ r23, r23 = M.qb6 xs0 → qa1 (!r23) (Q ((⟨0, ([] : List D.Frame), ([] : List Int)⟩ : D.Warp), false)) ((∀ r30, r30 = M.qaQ x1 0 2 → qa1 (!r30) (Q ((⟨0, ([] : List D.Frame), ([] : List Int)⟩ : D.Warp), false)) (((0 ≤ (32 : Int) ∧ (32 : Int) ≤ 17179869184) ∧ qa1 (decide ((xs0.length : Int) > 0)) (Q ((⟨x1, ([(⟨0, (xs0.length : Int), 255⟩ : D.Frame)] : List D.Frame), (List.replicate ((32 : Int).toNat) (default : Int))⟩ : D.Warp), true)) (Q ((⟨x1, ([] : List D.Frame), (List.replicate ((32 : Int).toNat) (default : Int))⟩ : D.Warp), true)))))))
def wp.qbt (xs0 : List D.Ins) (x1 : Int) (Q : (D.Block × Bool) → Prop) : Prop :=
 (M.qeb xs0 ∧ ∀ r23, r23 = M.qb6 xs0 → qa1 (!r23) (Q ((⟨([] : List D.Ins), ([] : List D.Warp), ([] : List Int), 0, 0⟩ : D.Block), false)) ((∀ r30, r30 = M.qaQ x1 1 3 → qa1 (!r30) (Q ((⟨([] : List D.Ins), ([] : List D.Warp), ([] : List Int), 0, 0⟩ : D.Block), false)) (qeZ (σ := (List D.Ins) × (List D.Warp) × (List Int) × Int × Int × Unit) (fun J49 => ((((((([] : List D.Ins).length + xs0.length ≤ 17179869184) ∧ ((((0 ≤ (32 : Int) ∧ (32 : Int) ≤ 17179869184) ∧ J49 ((([] : List D.Ins) ++ xs0), [], (List.replicate ((32 : Int).toNat) (default : Int)), 0, 0, ()))) ∧ (((0 ≤ (32 : Int) ∧ (32 : Int) ≤ 17179869184) ∧ J49 ((([] : List D.Ins) ++ xs0), [], (List.replicate ((32 : Int).toNat) (default : Int)), 0, 0, ()))) ∧ True))) ∧ (((0 ≤ (32 : Int) ∧ (32 : Int) ≤ 17179869184) ∧ ((((([] : List D.Ins).length + xs0.length ≤ 17179869184) ∧ J49 ((([] : List D.Ins) ++ xs0), [], (List.replicate ((32 : Int).toNat) (default : Int)), 0, 0, ()))) ∧ (((([] : List D.Ins).length + xs0.length ≤ 17179869184) ∧ J49 ((([] : List D.Ins) ++ xs0), [], (List.replicate ((32 : Int).toNat) (default : Int)), 0, 0, ()))) ∧ True))) ∧ (((((([] : List D.Ins).length + xs0.length ≤ 17179869184) ∧ ((0 ≤ (32 : Int) ∧ (32 : Int) ≤ 17179869184) ∧ J49 ((([] : List D.Ins) ++ xs0), [], (List.replicate ((32 : Int).toNat) (default : Int)), 0, 0, ())))) ∧ (((0 ≤ (32 : Int) ∧ (32 : Int) ≤ 17179869184) ∧ ((([] : List D.Ins).length + xs0.length ≤ 17179869184) ∧ J49 ((([] : List D.Ins) ++ xs0), [], (List.replicate ((32 : Int).toNat) (default : Int)), 0, 0, ())))) ∧ True)) ∧ True)) ∧ (((0 ≤ (32 : Int) ∧ (32 : Int) ≤ 17179869184) ∧ ((((((([] : List D.Ins).length + xs0.length ≤ 17179869184) ∧ J49 ((([] : List D.Ins) ++ xs0), [], (List.replicate ((32 : Int).toNat) (default : Int)), 0, 0, ()))) ∧ (((([] : List D.Ins).length + xs0.length ≤ 17179869184) ∧ J49 ((([] : List D.Ins) ++ xs0), [], (List.replicate ((32 : Int).toNat) (default : Int)), 0, 0, ()))) ∧ True)) ∧ (((([] : List D.Ins).length + xs0.length ≤ 17179869184) ∧ J49 ((([] : List D.Ins) ++ xs0), [], (List.replicate ((32 : Int).toNat) (default : Int)), 0, 0, ()))) ∧ True))) ∧ (((((((([] : List D.Ins).length + xs0.length ≤ 17179869184) ∧ ((0 ≤ (32 : Int) ∧ (32 : Int) ≤ 17179869184) ∧ J49 ((([] : List D.Ins) ++ xs0), [], (List.replicate ((32 : Int).toNat) (default : Int)), 0, 0, ())))) ∧ (((0 ≤ (32 : Int) ∧ (32 : Int) ≤ 17179869184) ∧ ((([] : List D.Ins).length + xs0.length ≤ 17179869184) ∧ J49 ((([] : List D.Ins) ++ xs0), [], (List.replicate ((32 : Int).toNat) (default : Int)), 0, 0, ())))) ∧ True)) ∧ (((0 ≤ (32 : Int) ∧ (32 : Int) ≤ 17179869184) ∧ ((([] : List D.Ins).length + xs0.length ≤ 17179869184) ∧ J49 ((([] : List D.Ins) ++ xs0), [], (List.replicate ((32 : Int).toNat) (default : Int)), 0, 0, ())))) ∧ True)) ∧ True)) (fun (p333 : (List D.Ins) × (List D.Warp) × (List Int) × Int × Int × Unit) => match p333 with | (xs37, xs41, xs44, i47, i48, _) => qd7 (σ := Int × (List D.Warp) × Int × Int × Unit) (fun (p329 : Int × (List D.Warp) × Int × Int × Unit) next293 => match p329 with | (i283, xs285, i288, i289, _) => qa1 (decide (i283 < x1)) ((M.qgp xs0 i283 ∧ ∀ r295, r295 = M.qck xs0 i283 → ((xs285.length + ([r295.1] : List D.Warp).length ≤ 17179869184) ∧ next293 ((wrap .i64 (i283 + 1)), (xs285 ++ ([r295.1] : List D.Warp)), i288, i289, ())))) (Q ((⟨xs37, xs285, xs44, i288, i289⟩ : D.Block), true))) (0, xs41, i47, i48, ()))))))
def wp.qan (xs0 : List D.Ins) (Q : (List D.Ins) → Prop) : Prop :=
 (∀ b21 : Bool, (b21 = true → xs0 = []) → qa1 b21 (Q ([] : List D.Ins)) (((([] : List D.Ins).length + xs0.length ≤ 17179869184) ∧ Q (([] : List D.Ins) ++ xs0))))
def wp.qbZ (s0 : D.Warp) (Q : D.Warp → Prop) : Prop :=
 ((((((([] : List D.Frame).length + s0.Frames.length ≤ 17179869184) ∧ ((([] : List Int).length + s0.Regs.length ≤ 17179869184) ∧ Q (⟨s0.Number, (([] : List D.Frame) ++ s0.Frames), (([] : List Int) ++ s0.Regs)⟩ : D.Warp)))) ∧ (((([] : List D.Frame).length + s0.Frames.length ≤ 17179869184) ∧ ((([] : List Int).length + s0.Regs.length ≤ 17179869184) ∧ Q (⟨s0.Number, (([] : List D.Frame) ++ s0.Frames), (([] : List Int) ++ s0.Regs)⟩ : D.Warp)))) ∧ True)) ∧ (((([] : List D.Frame).length + s0.Frames.length ≤ 17179869184) ∧ ((([] : List Int).length + s0.Regs.length ≤ 17179869184) ∧ Q (⟨s0.Number, (([] : List D.Frame) ++ s0.Frames), (([] : List Int) ++ s0.Regs)⟩ : D.Warp)))) ∧ True)
def wp.qdj (s0 : D.Block) (Q : D.Block → Prop) : Prop :=
 qeZ (σ := (List D.Ins) × (List D.Warp) × (List Int) × Int × Int × Unit) (fun J37 => ((((((([] : List D.Ins).length + s0.Code.length ≤ 17179869184) ∧ ((((((([] : List Int).length + s0.Memory.length ≤ 17179869184) ∧ J37 ((([] : List D.Ins) ++ s0.Code), [], (([] : List Int) ++ s0.Memory), s0.Waiting, s0.Phase, ()))) ∧ (((([] : List Int).length + s0.Memory.length ≤ 17179869184) ∧ J37 ((([] : List D.Ins) ++ s0.Code), [], (([] : List Int) ++ s0.Memory), s0.Waiting, s0.Phase, ()))) ∧ True)) ∧ (((([] : List Int).length + s0.Memory.length ≤ 17179869184) ∧ J37 ((([] : List D.Ins) ++ s0.Code), [], (([] : List Int) ++ s0.Memory), s0.Waiting, s0.Phase, ()))) ∧ True))) ∧ (((((([] : List D.Ins).length + s0.Code.length ≤ 17179869184) ∧ ((((([] : List Int).length + s0.Memory.length ≤ 17179869184) ∧ J37 ((([] : List D.Ins) ++ s0.Code), [], (([] : List Int) ++ s0.Memory), s0.Waiting, s0.Phase, ()))) ∧ (((([] : List Int).length + s0.Memory.length ≤ 17179869184) ∧ J37 ((([] : List D.Ins) ++ s0.Code), [], (([] : List Int) ++ s0.Memory), s0.Waiting, s0.Phase, ()))) ∧ True))) ∧ (((([] : List D.Ins).length + s0.Code.length ≤ 17179869184) ∧ ((([] : List Int).length + s0.Memory.length ≤ 17179869184) ∧ J37 ((([] : List D.Ins) ++ s0.Code), [], (([] : List Int) ++ s0.Memory), s0.Waiting, s0.Phase, ())))) ∧ True)) ∧ (((((([] : List D.Ins).length + s0.Code.length ≤ 17179869184) ∧ ((([] : List Int).length + s0.Memory.length ≤ 17179869184) ∧ J37 ((([] : List D.Ins) ++ s0.Code), [], (([] : List Int) ++ s0.Memory), s0.Waiting, s0.Phase, ())))) ∧ (((([] : List D.Ins).length + s0.Code.length ≤ 17179869184) ∧ ((([] : List Int).length + s0.Memory.length ≤ 17179869184) ∧ J37 ((([] : List D.Ins) ++ s0.Code), [], (([] : List Int) ++ s0.Memory), s0.Waiting, s0.Phase, ())))) ∧ True)) ∧ True)) ∧ (((((((([] : List D.Ins).length + s0.Code.length ≤ 17179869184) ∧ ((((([] : List Int).length + s0.Memory.length ≤ 17179869184) ∧ J37 ((([] : List D.Ins) ++ s0.Code), [], (([] : List Int) ++ s0.Memory), s0.Waiting, s0.Phase, ()))) ∧ (((([] : List Int).length + s0.Memory.length ≤ 17179869184) ∧ J37 ((([] : List D.Ins) ++ s0.Code), [], (([] : List Int) ++ s0.Memory), s0.Waiting, s0.Phase, ()))) ∧ True))) ∧ (((([] : List D.Ins).length + s0.Code.length ≤ 17179869184) ∧ ((([] : List Int).length + s0.Memory.length ≤ 17179869184) ∧ J37 ((([] : List D.Ins) ++ s0.Code), [], (([] : List Int) ++ s0.Memory), s0.Waiting, s0.Phase, ())))) ∧ True)) ∧ (((([] : List D.Ins).length + s0.Code.length ≤ 17179869184) ∧ ((([] : List Int).length + s0.Memory.length ≤ 17179869184) ∧ J37 ((([] : List D.Ins) ++ s0.Code), [], (([] : List Int) ++ s0.Memory), s0.Waiting, s0.Phase, ())))) ∧ True)) ∧ (((((((([] : List D.Ins).length + s0.Code.length ≤ 17179869184) ∧ ((([] : List Int).length + s0.Memory.length ≤ 17179869184) ∧ J37 ((([] : List D.Ins) ++ s0.Code), [], (([] : List Int) ++ s0.Memory), s0.Waiting, s0.Phase, ())))) ∧ (((([] : List D.Ins).length + s0.Code.length ≤ 17179869184) ∧ ((([] : List Int).length + s0.Memory.length ≤ 17179869184) ∧ J37 ((([] : List D.Ins) ++ s0.Code), [], (([] : List Int) ++ s0.Memory), s0.Waiting, s0.Phase, ())))) ∧ True)) ∧ (((([] : List D.Ins).length + s0.Code.length ≤ 17179869184) ∧ ((([] : List Int).length + s0.Memory.length ≤ 17179869184) ∧ J37 ((([] : List D.Ins) ++ s0.Code), [], (([] : List Int) ++ s0.Memory), s0.Waiting, s0.Phase, ())))) ∧ True)) ∧ True)) (fun (p543 : (List D.Ins) × (List D.Warp) × (List Int) × Int × Int × Unit) => match p543 with | (xs25, xs29, xs32, i35, i36, _) => qd7 (σ := Int × (List D.Warp) × Int × Int × Unit) (fun (p539 : Int × (List D.Warp) × Int × Int × Unit) next452 => match p539 with | (i442, xs444, i447, i448, _) => qa1 (decide (i442 < (s0.Warps.length : Int))) (((0 ≤ i442 ∧ i442 < (s0.Warps.length : Int)) ∧ (M.qey (rd s0.Warps i442) ∧ ∀ r509, r509 = M.qbZ (rd s0.Warps i442) → ((xs444.length + ([r509] : List D.Warp).length ≤ 17179869184) ∧ next452 ((wrap .i64 (i442 + 1)), (xs444 ++ ([r509] : List D.Warp)), i447, i448, ()))))) (Q (⟨xs25, xs444, xs32, i447, i448⟩ : D.Block))) (0, xs29, i35, i36, ()))
def wp.qai (xs0 : List D.Frame) (Q : (List D.Frame) → Prop) : Prop :=
 (∀ b21 : Bool, (b21 = true → xs0 = []) → qa1 b21 (Q ([] : List D.Frame)) (((([] : List D.Frame).length + xs0.length ≤ 17179869184) ∧ Q (([] : List D.Frame) ++ xs0))))
def wp.qcJ (s0 : D.Warp) (Q : D.Warp → Prop) : Prop :=
 (((((M.qb2 s0.Frames ∧ ∀ r25, r25 = M.qai s0.Frames → (M.qaP s0.Regs ∧ ∀ r32, r32 = M.qao s0.Regs → Q (⟨s0.Number, r25, r32⟩ : D.Warp)))) ∧ ((M.qb2 s0.Frames ∧ ∀ r45, r45 = M.qai s0.Frames → (M.qaP s0.Regs ∧ ∀ r52, r52 = M.qao s0.Regs → Q (⟨s0.Number, r45, r52⟩ : D.Warp)))) ∧ True)) ∧ ((M.qb2 s0.Frames ∧ ∀ r65, r65 = M.qai s0.Frames → (M.qaP s0.Regs ∧ ∀ r72, r72 = M.qao s0.Regs → Q (⟨s0.Number, r65, r72⟩ : D.Warp)))) ∧ True)
def wp.qcw (s0 : D.Block) (Q : D.Block → Prop) : Prop :=
 qeZ (σ := (List D.Ins) × (List D.Warp) × (List Int) × Int × Int × Unit) (fun J37 => (((M.qbK s0.Code ∧ ∀ r41, r41 = M.qan s0.Code → (((M.qaP s0.Memory ∧ ∀ r48, r48 = M.qao s0.Memory → J37 (r41, [], r48, s0.Waiting, s0.Phase, ()))) ∧ ((M.qaP s0.Memory ∧ ∀ r61, r61 = M.qao s0.Memory → J37 (r41, [], r61, s0.Waiting, s0.Phase, ()))) ∧ True))) ∧ ((M.qbK s0.Code ∧ ∀ r72, r72 = M.qan s0.Code → (M.qaP s0.Memory ∧ ∀ r79, r79 = M.qao s0.Memory → J37 (r72, [], r79, s0.Waiting, s0.Phase, ())))) ∧ True)) (fun (p328 : (List D.Ins) × (List D.Warp) × (List Int) × Int × Int × Unit) => match p328 with | (xs25, xs29, xs32, i35, i36, _) => qd7 (σ := Int × (List D.Warp) × Int × Int × Unit) (fun (p324 : Int × (List D.Warp) × Int × Int × Unit) next249 => match p324 with | (i239, xs241, i244, i245, _) => qa1 (decide (i239 < (s0.Warps.length : Int))) (((0 ≤ i239 ∧ i239 < (s0.Warps.length : Int)) ∧ (M.qfT (rd s0.Warps i239) ∧ ∀ r294, r294 = M.qcJ (rd s0.Warps i239) → ((xs241.length + ([r294] : List D.Warp).length ≤ 17179869184) ∧ next249 ((wrap .i64 (i239 + 1)), (xs241 ++ ([r294] : List D.Warp)), i244, i245, ()))))) (Q (⟨xs25, xs241, xs32, i244, i245⟩ : D.Block))) (0, xs29, i35, i36, ()))
end Go.V
namespace Go.V
open IntKind (wrap)
theorem wp.qan.math (l : List D.Ins) (h : M.qbK l) : wp.qan l (fun r => r = M.qan l) := by
 intro b hb
 refine qa3 (fun e => ?_) fun e => ⟨by simp only [List.length_nil, Nat.zero_add]; exact h, ?_⟩
 ·rw [hb e]; rfl
 ·simp [M.qan]
theorem wp.qai.math (l : List D.Frame) (h : M.qb2 l) : wp.qai l (fun r => r = M.qai l) := by
 intro b hb
 refine qa3 (fun e => ?_) fun e => ⟨by simp only [List.length_nil, Nat.zero_add]; exact h, ?_⟩
 ·rw [hb e]; rfl
 ·simp [M.qai]
theorem qmB (p : List D.Ins) (n : Int) : qa1 (decide ((p.length : Int) > 0)) ((⟨n, [⟨0, (p.length : Int), 255⟩], List.replicate ((32 : Int).toNat) (default : Int)⟩ : D.Warp) = M.qdE p n) ((⟨n, [], List.replicate ((32 : Int).toNat) (default : Int)⟩ : D.Warp) = M.qdE p n) := by
 refine qa3 (fun e => ?_) fun e => ?_
 ·have e3 : p.length > 0 := by simp only [decide_eq_true_eq] at e; omega
  unfold M.qdE; rw [if_pos e3]; rfl
 ·have e3 : ¬ p.length > 0 := by simp only [decide_eq_false_iff_not] at e; omega
  unfold M.qdE; rw [if_neg e3]; rfl
theorem wp.qck.math (p : List D.Ins) (n : Int) (h : M.qgp p n) : wp.qck p n (fun r => r = M.qck p n) := by
 refine ⟨h, fun r hr => qa3 (fun e => ?_) fun e r2 hr2 => qa3 (fun e2 => ?_) fun e2 => ⟨by omega, ?_⟩⟩
 all_goals simp only [M.qb6, M.qaQ] at *
 ·simp [M.qck, nt e hr, M.qmU]
 ·simp [M.qck, nt e2 hr2, M.qmU]
 ·have hM : M.qck p n = (M.qdE p n, true) := by simp [M.qck, nf e hr, nf e2 hr2]
  rw [hM]
  have := qgP.1 (qmB p n)
  exact qa3 (fun e3 => by rw [this.1 e3]) fun e3 => by rw [this.2 e3]
theorem qfF {σ : Type} {A : (σ → Prop) → Prop} {B : σ → Prop} (v : σ) (h : B v) (hA : ∀ J : σ → Prop, J v → A J) : qeZ A B := hA B h
theorem qjU {α : Type} (g : Nat → α) (k : Nat) : (List.range (k + 1)).map g = (List.range k).map g ++ [g k] := by simp [List.range_succ]
theorem qjZ {p : List D.Ins} (h : M.qaW p = true) : p.length ≤ 32 := by
 simp only [M.qaW, Bool.and_eq_true, decide_eq_true_eq] at h
 exact h.1
theorem wp.qbt.math (p : List D.Ins) (c : Int) (h : M.qg4 p c) : wp.qbt p c (fun r => r = M.qbt p c) := by
 refine ⟨h, fun r hr => qa3 (fun e => ?_) fun e r2 hr2 => qa3 (fun e2 => ?_) fun e2 => ?_⟩
 all_goals simp only [M.qb6, M.qaQ] at *
 ·simp [M.qbt, M.qf7, nt e hr, M.qlL]
 ·simp [M.qbt, M.qf7, nt e2 hr2, M.qlL]
 have h1 := nf e hr
 have h2 := nf e2 hr2
 have h3 := qjZ h1
 have h4 : 1 ≤ c ∧ c ≤ 3 := by simpa [M.isIn] using h2
 have hM : M.qbt p c = (M.qes p c, true) := by simp [M.qbt, M.qf7, h1, h2]
 rw [hM]
 have hm : (0 ≤ (32 : Int) ∧ (32 : Int) ≤ 17179869184) := by omega
 have hl : ([] : List D.Ins).length + p.length ≤ 17179869184 := by simp; omega
 refine qfF (p, [], List.replicate 32 0, 0, 0, ()) ?_ fun J hJ => ?_
 ·refine qd9 c.toNat (fun k => ((k : Int), (List.range k).map (fun j : Nat => M.qdE p (j : Int)), 0, 0, ())) (fun _ => True) rfl trivial (fun k hk _ next hn => ?_) fun _ next => ?_
  ·refine qaE (by simp; omega) ⟨h, fun r hr => ⟨by simp; omega, ?_⟩⟩
   have hin : M.isIn (k : Int) 0 2 = true := by simp [M.isIn]; omega
   have : r = (M.qdE p (k : Int), true) := by rw [hr]; simp [M.qck, h1, hin]
   rw [up64 hk (by omega), this]
   have := hn trivial
   rwa [qjU] at this
  ·exact qaC (by simp; omega) rfl
 ·have hJ' : J ((([] : List D.Ins) ++ p), [], (List.replicate ((32 : Int).toNat) (default : Int)), 0, 0, ()) := hJ
  simp only [and_true]
  simp only [hl, hm, hJ', and_self]
theorem wp.qcJ.math (x : D.Warp) (h : M.qfT x) : wp.qcJ x (fun r => r = M.qcJ x) := by
 obtain ⟨h1, h2⟩ := h
 have q1 : M.qb2 x.Frames := h1
 have q2 : M.qaP x.Regs := h2
 unfold wp.qcJ
 simp only [M.qai, M.qao, forall_eq, q1, q2, true_and, and_true, M.qcJ, and_self]
theorem wp.qcw.math (b : D.Block) (h : M.qfK b) : wp.qcw b (fun r => r = M.qcw b) := by
 obtain ⟨h1, ⟨h2, hW⟩, h3⟩ := h
 have q1 : M.qbK b.Code := h1
 have q2 : M.qaP b.Memory := h3
 unfold wp.qcw
 simp only [M.qan, M.qao, forall_eq]
 refine qfF (b.Code, [], b.Memory, b.Waiting, b.Phase, ()) ?_ fun J hJ => ⟨⟨q1, ⟨q2, hJ⟩, ⟨q2, hJ⟩, trivial⟩, ⟨q1, q2, hJ⟩, trivial⟩
 refine qd9 b.Warps.length (fun k => ((k : Int), b.Warps.take k, b.Waiting, b.Phase, ())) (fun _ => True) rfl trivial (fun k hk _ next hn => ?_) fun _ next => ?_
 ·refine qaE (by simp; omega) ⟨by omega, hW _ (qgg hk), by simp; omega, ?_⟩
  rw [up64 hk (by omega)]
  have := hn trivial
  rw [List.take_add_one, List.getElem?_eq_getElem hk, Option.toList_some] at this
  rw [qdU hk]; exact this
 ·refine qaC (by simp) ?_
  rw [List.take_length]; rfl
theorem qoG {α : Type} [Inhabited α] {l m : List α} {y : α} {k : Nat} (h : l.length = k) : rd (l ++ y :: m) (k : Int) = y := by
 subst h
 rw [qdU (by simp)]; simp
theorem wp.qbZ.math (x : D.Warp) (h : M.qey x) : wp.qbZ x (fun r => r = M.qbZ x) := by
 obtain ⟨h1, h2⟩ := h
 unfold wp.qbZ
 simp only [List.nil_append, List.length_nil, Nat.zero_add, h1, h2, true_and, and_true, and_self, M.qbZ]
theorem wp.qdj.math (b : D.Block) (h : M.qgt b) : wp.qdj b (fun r => r = M.qdj b) := by
 obtain ⟨h1, ⟨h2, hW⟩, h3⟩ := h
 unfold wp.qdj
 simp only [List.nil_append, List.length_nil, Nat.zero_add]
 refine qfF (b.Code, [], b.Memory, b.Waiting, b.Phase, ()) ?_ fun J hJ => by simp only [h1, h3, hJ, true_and, and_true, and_self]
 refine qd9 b.Warps.length (fun k => ((k : Int), b.Warps.take k, b.Waiting, b.Phase, ())) (fun _ => True) rfl trivial (fun k hk _ next hn => ?_) fun _ next => ?_
 ·refine qaE (by simp; omega) ⟨by omega, hW _ (qgg hk), fun r hr => ⟨by simp; omega, ?_⟩⟩
  rw [up64 hk (by omega), hr]
  have := hn trivial
  rw [List.take_add_one, List.getElem?_eq_getElem hk, Option.toList_some] at this
  rw [qdU hk]; exact this
 ·refine qaC (by simp) ?_
  rw [List.take_length]; rfl
theorem qnC {b : D.Block} (h : M.BFit b) : M.qix b := by
 obtain ⟨h1, ⟨h2, hW⟩, h3⟩ := h
 unfold M.qix M.qnj M.qnp M.Long
 exact ⟨by omega, ⟨by omega, fun x hx => by have := hW x hx; unfold M.WFit at this; omega⟩, by omega⟩
theorem qi5 {b : D.Block} (h : M.qn3 b) : M.BFit b := by
 obtain ⟨h1, ⟨h2, hW⟩, h3⟩ := h
 exact ⟨by omega, ⟨by omega, fun x hx => by have := hW x hx; unfold M.qm7 at this; unfold M.WFit; omega⟩, by omega⟩
end Go.V
namespace Go.V
open IntKind (wrap)
def wp.qbE (s0 : D.Warp) (Q : Int → Prop) : Prop :=
 qa1 ((s0.Frames.length : Int) == 0) (Q 0) (((0 ≤ (wrap .i64 ((s0.Frames.length : Int) - 1)) ∧ (wrap .i64 ((s0.Frames.length : Int) - 1)) < (s0.Frames.length : Int)) ∧ Q ((rd s0.Frames (wrap .i64 ((s0.Frames.length : Int) - 1))).Mask)))
def wp.qaO (s0 : D.Warp) (x1 : Int) (Q : Int → Prop) : Prop :=
 (∀ r23, r23 = M.qaZ x1 → qa1 (!r23) (Q 0) (qa1 ((s0.Regs.length : Int) != 32) (Q 0) (qd7 (σ := Int × Int × Unit) (fun (p63 : Int × Int × Unit) next33 => match p63 with | (i28, i29, _) => qa1 (decide (i29 < 8)) ((M.qe7 s0 ∧ ∀ r35, r35 = M.qbE s0 → (∀ r40, r40 = M.qbG r35 i29 → qa1 r40 (((0 ≤ (wrap .i64 ((wrap .i64 (i29 * 4)) + x1)) ∧ (wrap .i64 ((wrap .i64 (i29 * 4)) + x1)) < (s0.Regs.length : Int)) ∧ qa1 ((rd s0.Regs (wrap .i64 ((wrap .i64 (i29 * 4)) + x1))) == 0) (((0 ≤ i29) ∧ next33 ((qgS .i64 i28 (wrap .i64 (1 * 2 ^ (min (i29.toNat) (IntKind.bits .i64))))), (wrap .i64 (i29 + 1)), ()))) (next33 (i28, (wrap .i64 (i29 + 1)), ())))) (next33 (i28, (wrap .i64 (i29 + 1)), ()))))) (Q i28)) (0, 0, ()))))
def wp.qbd (xs0 : List D.Ins) (s1 : D.Warp) (Q : Bool → Prop) : Prop :=
 ((0 ≤ (wrap .i64 ((s1.Frames.length : Int) - 1)) ∧ (wrap .i64 ((s1.Frames.length : Int) - 1)) < (s1.Frames.length : Int)) ∧ ((0 ≤ (rd s1.Frames (wrap .i64 ((s1.Frames.length : Int) - 1))).Pc ∧ (rd s1.Frames (wrap .i64 ((s1.Frames.length : Int) - 1))).Pc < (xs0.length : Int)) ∧ qa1 ((rd xs0 ((rd s1.Frames (wrap .i64 ((s1.Frames.length : Int) - 1))).Pc)).Op != 10) (Q false) (((0 ≤ (rd s1.Frames (wrap .i64 ((s1.Frames.length : Int) - 1))).Pc ∧ (rd s1.Frames (wrap .i64 ((s1.Frames.length : Int) - 1))).Pc < (xs0.length : Int)) ∧ qa1 ((rd xs0 ((rd s1.Frames (wrap .i64 ((s1.Frames.length : Int) - 1))).Pc)).B == (wrap .i64 ((rd s1.Frames (wrap .i64 ((s1.Frames.length : Int) - 1))).Pc + 1))) (Q false) (((0 ≤ (rd s1.Frames (wrap .i64 ((s1.Frames.length : Int) - 1))).Pc ∧ (rd s1.Frames (wrap .i64 ((s1.Frames.length : Int) - 1))).Pc < (xs0.length : Int)) ∧ (M.qe1 s1 ((rd xs0 ((rd s1.Frames (wrap .i64 ((s1.Frames.length : Int) - 1))).Pc)).A) ∧ ∀ r49, r49 = M.qaO s1 ((rd xs0 ((rd s1.Frames (wrap .i64 ((s1.Frames.length : Int) - 1))).Pc)).A) → qa1 (r49 != 0) (Q (r49 != (rd s1.Frames (wrap .i64 ((s1.Frames.length : Int) - 1))).Mask)) (Q false))))))))
def wp.qaJ (xs0 : List D.Ins) (s1 : D.Warp) (Q : Bool → Prop) : Prop :=
 qa1 ((s1.Frames.length : Int) == 0) (Q false) (((0 ≤ (wrap .i64 ((s1.Frames.length : Int) - 1)) ∧ (wrap .i64 ((s1.Frames.length : Int) - 1)) < (s1.Frames.length : Int)) ∧ ((0 ≤ (rd s1.Frames (wrap .i64 ((s1.Frames.length : Int) - 1))).Pc ∧ (rd s1.Frames (wrap .i64 ((s1.Frames.length : Int) - 1))).Pc < (xs0.length : Int)) ∧ (∀ r33, r33 = M.qcA (rd xs0 ((rd s1.Frames (wrap .i64 ((s1.Frames.length : Int) - 1))).Pc)) → qa1 (!r33) (Q false) ((M.qeE xs0 s1 ∧ ∀ r38, r38 = M.qbd xs0 s1 → qa1 (!r38) (Q true) (Q (decide ((s1.Frames.length : Int) ≤ 22)))))))))
def wp.qcC (s0 : D.Block) (x1 : Int) (Q : Bool → Prop) : Prop :=
 ((0 ≤ x1 ∧ x1 < (s0.Warps.length : Int)) ∧ qa1 (((rd s0.Warps x1).Frames.length : Int) == 0) (Q false) (((0 ≤ x1) ∧ qa1 ((qdH .i64 (Int.fdiv s0.Waiting (2 ^ (min (x1.toNat) (IntKind.bits .i64)))) 1) == 1) (Q false) ((M.qez s0 x1 ∧ ∀ r44, r44 = M.qch s0 x1 → (∀ r53, r53 = M.qcA r44 → qa1 r53 ((M.qfY s0.Code (rd s0.Warps x1) ∧ ∀ r58, r58 = M.qaJ s0.Code (rd s0.Warps x1) → Q r58)) (qa1 (r44.Op != 16) (Q true) (Q (((rd s0.Warps x1).Frames.length : Int) == 1)))))))))
def wp.qbh (s0 : D.Warp) (Q : Int → Prop) : Prop :=
 qa1 ((s0.Frames.length : Int) == 0) (Q 0) (((0 ≤ (wrap .i64 ((s0.Frames.length : Int) - 1)) ∧ (wrap .i64 ((s0.Frames.length : Int) - 1)) < (s0.Frames.length : Int)) ∧ Q ((rd s0.Frames (wrap .i64 ((s0.Frames.length : Int) - 1))).Mask)))
def wp.qaN (s0 : D.Warp) (x1 : Int) (Q : Int → Prop) : Prop :=
 (M.qdi s0 ∧ ∀ r23, r23 = M.qbh s0 → (∀ r28, r28 = M.qcj r23 → qd7 (σ := Int × Int × Unit) (fun (p64 : Int × Int × Unit) next40 => match p64 with | (i35, i36, _) => qa1 (decide (i36 < (r28.length : Int))) (((0 ≤ i36 ∧ i36 < (r28.length : Int)) ∧ (M.qec s0 (rd r28 i36) ∧ ((0 ≤ x1 ∧ x1 < ((List.drop ((wrap .i64 ((rd r28 i36) * 4)).toNat) (List.take ((wrap .i64 ((wrap .i64 ((rd r28 i36) + 1)) * 4)).toNat) s0.Regs)).length : Int)) ∧ qa1 ((rd (List.drop ((wrap .i64 ((rd r28 i36) * 4)).toNat) (List.take ((wrap .i64 ((wrap .i64 ((rd r28 i36) + 1)) * 4)).toNat) s0.Regs)) x1) == 0) (((0 ≤ (rd r28 i36)) ∧ next40 ((qgS .i64 i35 (wrap .i64 (1 * 2 ^ (min ((rd r28 i36).toNat) (IntKind.bits .i64))))), (wrap .i64 (i36 + 1)), ()))) (next40 (i35, (wrap .i64 (i36 + 1)), ())))))) (Q i35)) (0, 0, ())))
def wp.qaV (s0 : D.Warp) (xs1 : List D.Ins) (Q : Bool → Prop) : Prop :=
 ((0 ≤ (wrap .i64 ((s0.Frames.length : Int) - 1)) ∧ (wrap .i64 ((s0.Frames.length : Int) - 1)) < (s0.Frames.length : Int)) ∧ ((0 ≤ (rd s0.Frames (wrap .i64 ((s0.Frames.length : Int) - 1))).Pc ∧ (rd s0.Frames (wrap .i64 ((s0.Frames.length : Int) - 1))).Pc < (xs1.length : Int)) ∧ qa1 ((rd xs1 ((rd s0.Frames (wrap .i64 ((s0.Frames.length : Int) - 1))).Pc)).Op != 10) (Q false) (((0 ≤ (rd s0.Frames (wrap .i64 ((s0.Frames.length : Int) - 1))).Pc ∧ (rd s0.Frames (wrap .i64 ((s0.Frames.length : Int) - 1))).Pc < (xs1.length : Int)) ∧ qa1 ((rd xs1 ((rd s0.Frames (wrap .i64 ((s0.Frames.length : Int) - 1))).Pc)).B == (wrap .i64 ((rd s0.Frames (wrap .i64 ((s0.Frames.length : Int) - 1))).Pc + 1))) (Q false) (((0 ≤ (rd s0.Frames (wrap .i64 ((s0.Frames.length : Int) - 1))).Pc ∧ (rd s0.Frames (wrap .i64 ((s0.Frames.length : Int) - 1))).Pc < (xs1.length : Int)) ∧ (M.qd8 s0 ((rd xs1 ((rd s0.Frames (wrap .i64 ((s0.Frames.length : Int) - 1))).Pc)).A) ∧ ∀ r44, r44 = M.qaN s0 ((rd xs1 ((rd s0.Frames (wrap .i64 ((s0.Frames.length : Int) - 1))).Pc)).A) → qa1 (r44 != 0) ((M.qdi s0 ∧ ∀ r49, r49 = M.qbh s0 → Q (r44 != r49))) (Q false))))))))
def wp.qaz (s0 : D.Block) (x1 : Int) (Q : Bool → Prop) : Prop :=
 (M.qe8 s0 x1 ∧ ∀ r23, r23 = M.qaB s0 x1 → qeZ (σ := Bool × Unit) (fun J33 => qa1 (!r23.2) (J33 (true, ())) ((M.qej s0 x1 ∧ ∀ r36, r36 = M.qbB s0 x1 → J33 (r36, ())))) (fun (p126 : Bool × Unit) => match p126 with | (b32, _) => qa1 b32 (Q false) (qa1 (r23.1.Op == 16) (((0 ≤ x1 ∧ x1 < (s0.Warps.length : Int)) ∧ Q (((rd s0.Warps x1).Frames.length : Int) == 1))) ((∀ r58, r58 = M.qcz r23.1 → qa1 r58 (((0 ≤ x1 ∧ x1 < (s0.Warps.length : Int)) ∧ (M.qem (rd s0.Warps x1) s0.Code ∧ ∀ r101, r101 = M.qaV (rd s0.Warps x1) s0.Code → qa1 (!r101) (Q true) (((0 ≤ x1 ∧ x1 < (s0.Warps.length : Int)) ∧ Q (decide ((wrap .i64 (((rd s0.Warps x1).Frames.length : Int) + 2)) ≤ 24))))))) (Q true))))))
def wp.qd3 (s0 : D.Block) (x1 : Int) (Q : Bool → Prop) : Prop :=
 (M.qgo s0 x1 ∧ ∀ r23, r23 = M.qdl s0 x1 → qa1 r23 ((M.qdy s0 x1 ∧ ∀ r28, r28 = M.qaz s0 x1 → Q r28)) (Q false))
def wp.qdt (s0 : D.Block) (x1 : Int) (Q : Int → Prop) : Prop :=
 ((((s0.Warps.length : Int) : Int) ≠ 0) ∧ qd7 (σ := Int × Unit) (fun (p41 : Int × Unit) next28 => match p41 with | (i24, _) => qa1 (decide (i24 < (s0.Warps.length : Int))) (((((s0.Warps.length : Int) : Int) ≠ 0) ∧ (M.qgJ s0 (Int.tmod (wrap .i64 ((Int.tmod x1 (s0.Warps.length : Int)) + i24)) (s0.Warps.length : Int)) ∧ ∀ r31, r31 = M.qcC s0 (Int.tmod (wrap .i64 ((Int.tmod x1 (s0.Warps.length : Int)) + i24)) (s0.Warps.length : Int)) → qa1 r31 (Q (Int.tmod (wrap .i64 ((Int.tmod x1 (s0.Warps.length : Int)) + i24)) (s0.Warps.length : Int))) (next28 ((wrap .i64 (i24 + 1)), ()))))) (Q (-1))) (0, ()))
def wp.qaX (s0 : D.Block) (x1 : Int) (Q : Int → Prop) : Prop :=
 qd7 (σ := Int × Unit) (fun (p41 : Int × Unit) next27 => match p41 with | (i23, _) => qa1 (decide (i23 < (s0.Warps.length : Int))) (((((s0.Warps.length : Int) : Int) ≠ 0) ∧ ((((s0.Warps.length : Int) : Int) ≠ 0) ∧ (M.qdy s0 (Int.tmod (wrap .i64 ((Int.tmod x1 (s0.Warps.length : Int)) + i23)) (s0.Warps.length : Int)) ∧ ∀ r31, r31 = M.qaz s0 (Int.tmod (wrap .i64 ((Int.tmod x1 (s0.Warps.length : Int)) + i23)) (s0.Warps.length : Int)) → qa1 r31 (Q (Int.tmod (wrap .i64 ((Int.tmod x1 (s0.Warps.length : Int)) + i23)) (s0.Warps.length : Int))) (next27 ((wrap .i64 (i23 + 1)), ())))))) (Q (-1))) (0, ())
def wp.qcp (s0 : D.Block) (x1 : Int) (Q : Int → Prop) : Prop :=
 qa1 (decide (x1 < 0)) (Q (-1)) ((M.qdR s0 ∧ ∀ r23, r23 = M.qbl s0 → qa1 (!r23) (Q (-1)) ((M.qdV s0 x1 ∧ ∀ r28, r28 = M.qaX s0 x1 → Q r28))))
def wp.qbY (s0 : D.Block) (Q : Bool → Prop) : Prop :=
 (M.qdR s0 ∧ ∀ r23, r23 = M.qbl s0 → qa1 (!r23) (Q false) ((M.qel s0 ∧ ∀ r28, r28 = M.qbb s0 → qa1 r28 (Q false) (qd7 (σ := Int × Unit) (fun (p49 : Int × Unit) next37 => match p49 with | (i33, _) => qa1 (decide (i33 < (s0.Warps.length : Int))) ((M.qdy s0 i33 ∧ ∀ r39, r39 = M.qaz s0 i33 → qa1 r39 (Q false) (next37 ((wrap .i64 (i33 + 1)), ())))) (Q true)) (0, ())))))
end Go.V
namespace Go.V
open IntKind (wrap)
theorem qih {x : D.Warp} (h : M.Long x.Frames) {Q : Int → Prop} (hQ : Q (M.qb5 x)) : qa1 ((x.Frames.length : Int) == 0) (Q 0) (((0 ≤ (wrap .i64 ((x.Frames.length : Int) - 1)) ∧ (wrap .i64 ((x.Frames.length : Int) - 1)) < (x.Frames.length : Int)) ∧ Q ((rd x.Frames (wrap .i64 ((x.Frames.length : Int) - 1))).Mask))) := by
 rw [qh8]
 refine qa3 (fun e => ?_) fun e => ?_
 ·unfold M.qb5 at hQ; rw [if_pos e] at hQ; exact hQ
 ·have hx : x.Frames ≠ [] := by simpa using e
  have hpos : 0 < x.Frames.length := List.length_pos_iff.2 hx
  rw [qdp h]
  unfold M.qb5 at hQ
  rw [if_neg (by rw [e]; simp)] at hQ
  exact ⟨by omega, hQ⟩
theorem wp.qbE.math (x : D.Warp) (h : M.qe7 x) : wp.qbE x (fun r => r = M.qbE x) := qih (Q := fun r => r = M.qb5 x) h rfl
theorem wp.qbh.math (x : D.Warp) (h : M.qdi x) : wp.qbh x (fun r => r = M.qbh x) := qih (Q := fun r => r = M.qb5 x) h rfl
theorem qjT (x : D.Warp) (reg : Int) : M.qct x reg = (List.range 8).foldl (fun m (k : Nat) => if M.qdo (M.qb5 x) (k : Int) = true then M.qev x reg m (k : Int) else m) 0 := by
 unfold M.qct M.qfk
 rw [List.foldl_filter]
 rfl
theorem qnr {reg k : Int} (hr : M.qgB reg = true) (h0 : 0 ≤ k) (h7 : k ≤ 7) : 0 ≤ k * 4 + reg ∧ k * 4 + reg < 32 := by rw [qgd] at hr; omega
theorem wp.qaO.math (x : D.Warp) (reg : Int) (h : M.qe1 x reg) : wp.qaO x reg (fun r => r = M.qaO x reg) := by
 unfold wp.qaO
 simp only [lenB]
 refine fun r hr => qa3 (fun e => ?_) fun e => qa3 (fun e2 => ?_) fun e2 => ?_
 all_goals simp only [M.qaZ] at hr
 ·simp [M.qaO, nt e hr]
 ·have : (x.Regs.length == 32) = false := by simpa using e2
  simp [M.qaO, this]
 have hreg := nf e hr
 have h32 : (x.Regs.length == 32) = true := by simpa using e2
 have h32' : x.Regs.length = 32 := by simpa using h32
 have hM : M.qaO x reg = M.qct x reg := by simp [M.qaO, hreg, h32]
 rw [hM, qjT]
 let F : Nat → Int := fun k => (List.range k).foldl (fun m (k : Nat) => if M.qdo (M.qb5 x) (k : Int) = true then M.qev x reg m (k : Int) else m) 0
 have hF : ∀ k, F (k + 1) = if M.qdo (M.qb5 x) (k : Int) = true then M.qev x reg (F k) (k : Int) else F k := fun k => by simp [F, List.range_succ]
 refine qd9 8 (fun k => (F k, (k : Int), ())) (fun _ => True) rfl trivial (fun k hk _ next hn => ?_) fun _ next => qaC (by simp) rfl
 have hn := hn trivial
 rw [hF] at hn
 have hw : wrap .i64 (wrap .i64 ((k : Int) * 4) + reg) = (k : Int) * 4 + reg := by
  have := qnr hreg (k := (k : Int)) (by omega) (by omega)
  rw [w64 (x := (k : Int) * 4) (by omega) (by omega), w64 (by omega) (by omega)]
 have hin := qnr hreg (k := (k : Int)) (by omega) (by omega)
 refine qaE (by simp; omega) ⟨h, fun r2 hr2 r3 hr3 => qa3 (fun e3 => ?_) fun e3 => ?_⟩
 all_goals simp only [M.qbE] at hr2
 all_goals simp only [M.qbG, hr2] at hr3
 ·rw [hw, h32']
  rw [if_pos (hr3.symm.trans e3)] at hn
  refine ⟨⟨hin.1, by omega⟩, qa3 (fun e4 => ⟨Int.natCast_nonneg k, ?_⟩) fun e4 => ?_⟩
  ·have e4 : rd x.Regs ((k : Int) * 4 + reg) = 0 := by simpa using e4
   unfold M.qev at hn
   rw [if_pos e4] at hn
   rw [up64 (n := 8) hk (by omega)]; exact hn
  ·have e4 : ¬ rd x.Regs ((k : Int) * 4 + reg) = 0 := by simpa using e4
   unfold M.qev at hn
   rw [if_neg e4] at hn
   rw [up64 (n := 8) hk (by omega)]; exact hn
 ·have e3 : ¬ M.qdo (M.qb5 x) (k : Int) = true := by rw [← hr3, e3]; simp
  rw [if_neg e3] at hn
  rw [up64 (n := 8) hk (by omega)]; exact hn
theorem qiZ {m l : Int} (h : l ∈ M.qfk m) : 0 ≤ l ∧ l ≤ 7 := by
 have := (List.mem_filter.1 h).1
 simp only [List.mem_cons, List.not_mem_nil, or_false] at this
 omega
theorem qld (m : Int) : (M.qfk m).length ≤ 8 := by
 have := List.length_filter_le (M.qdo m) [0, 1, 2, 3, 4, 5, 6, 7]
 exact this
theorem qnn {α : Type} [Inhabited α] {l : List α} {a b : Nat} {i : Int} (h0 : 0 ≤ i) (hi : a + i.toNat < b) (hb : b ≤ l.length) : rd ((l.take b).drop a) i = rd l ((a : Int) + i) := by
 have e : ((a : Int) + i).toNat = a + i.toNat := by omega
 unfold rd
 rw [e, List.getD_eq_getElem?_getD, List.getD_eq_getElem?_getD, List.getElem?_drop, List.getElem?_take, if_pos hi]
theorem wp.qaN.math (x : D.Warp) (reg : Int) (h : M.qd8 x reg) : wp.qaN x reg (fun r => r = M.qaN x reg) := by
 obtain ⟨h1, h32, hreg⟩ := h
 refine ⟨h1, fun r hr r2 hr2 => ?_⟩
 have hr2' : r2 = M.qfk (M.qb5 x) := by rw [hr2, hr]; rfl
 show qd7 _ _
 have hl := qld (M.qb5 x)
 have hmem : ∀ k : Nat, k < r2.length → 0 ≤ rd r2 (k : Int) ∧ rd r2 (k : Int) ≤ 7 := fun k hk => qiZ (m := M.qb5 x) (by rw [← hr2']; exact qgg hk)
 have hM : M.qaN x reg = r2.foldl (M.qev x reg) 0 := by rw [hr2']; rfl
 rw [hM]
 have hlen : r2.length ≤ 8 := by rw [hr2']; exact hl
 clear hr2 hr2' hM
 refine qd9 r2.length (fun k => ((r2.take k).foldl (M.qev x reg) 0, (k : Int), ())) (fun _ => True) rfl trivial (fun k hk _ next hn => ?_) fun _ next => qaC (by simp) (by rw [List.take_length])
 have hn := hn trivial
 rw [List.take_add_one, List.getElem?_eq_getElem hk, Option.toList_some, List.foldl_append, ← qdU hk] at hn
 simp only [List.foldl_cons, List.foldl_nil] at hn
 have hm := hmem k hk
 dsimp only
 generalize rd r2 (k : Int) = l at *
 have hin := qnr hreg hm.1 hm.2
 rw [qgd] at hreg
 have a1 : wrap .i64 (l * 4) = l * 4 := w64 (by omega) (by omega)
 have a2 : wrap .i64 ((wrap .i64 (l + 1)) * 4) = l * 4 + 4 := by rw [w64 (x := l + 1) (by omega) (by omega), w64 (by omega) (by omega)]; omega
 rw [a1, a2]
 have hc : rd ((x.Regs.take (l * 4 + 4).toNat).drop (l * 4).toNat) reg = rd x.Regs (l * 4 + reg) := by
  rw [qnn hreg.1 (by omega) (by omega)]
  congr 1; omega
 rw [hc, up64 hk (by omega)]
 refine qaE (by simp; omega) ⟨by omega, ⟨h32, hm⟩, ⟨by omega, by simp; omega⟩, qa3 (fun e => ⟨by omega, ?_⟩) fun e => ?_⟩
 ·have e : rd x.Regs (l * 4 + reg) = 0 := by simpa using e
  unfold M.qev at hn
  rw [if_pos e] at hn
  exact hn
 ·have e : ¬ rd x.Regs (l * 4 + reg) = 0 := by simpa using e
  unfold M.qev at hn
  rw [if_neg e] at hn
  exact hn
theorem qdX {p : List D.Ins} {x : D.Warp} (h : M.Runs p x) : p.length ≤ 32 ∧ 0 < x.Frames.length ∧ x.Frames.length ≤ 24 ∧ x.Regs.length = 32 ∧ 0 ≤ M.qdF x ∧ M.qdF x < (p.length : Int) ∧ M.qdw (M.qaI p x) p.length = true ∧ 0 ≤ x.Number ∧ x.Number ≤ 2 := by
 obtain ⟨hp, hw, hx⟩ := h
 obtain ⟨k1, k2, k3⟩ := qhW hw hx
 have hp' := hp
 simp only [M.qaW, Bool.and_eq_true, decide_eq_true_eq, List.all_eq_true] at hp
 simp only [M.qfN, Bool.and_eq_true, M.isIn, decide_eq_true_eq, beq_iff_eq] at hw
 exact ⟨hp.1, List.length_pos_iff.2 hx, k1, hw.2.1, k2, k3, hp.2 _ (qjR k2 k3), hw.1.1, hw.1.2⟩
theorem qhK {i : D.Ins} {n : Int} (h : M.qdw i n = true) (e : i.Op = 10) : M.qgB i.A = true := by
 simp only [M.qdw, Bool.and_eq_true] at h
 have h := h.2
 rw [if_neg (by omega), if_neg (by omega), if_neg (by omega), if_neg (by omega), if_pos e] at h
 simp only [Bool.and_eq_true] at h
 exact h.1
theorem qh1 {x : D.Warp} (h : x.Frames ≠ []) : M.qb5 x = (M.qd0 x.Frames).Mask := by
 unfold M.qb5
 rw [if_neg (by simpa using h)]
theorem wp.qbd.math (p : List D.Ins) (x : D.Warp) (h : M.qeE p x) : wp.qbd p x (fun r => r = M.qbd p x) := by
 obtain ⟨t1, t2, t3, t4, t5, t6, t7, _⟩ := qdX h
 unfold wp.qbd
 rw [qdp (by omega)]
 change (_ ∧ _) ∧ (0 ≤ M.qdF x ∧ M.qdF x < _) ∧ qa1 ((M.qaI p x).Op != 10) _ ((0 ≤ M.qdF x ∧ M.qdF x < _) ∧ qa1 ((M.qaI p x).B == wrap .i64 (M.qdF x + 1)) _ ((0 ≤ M.qdF x ∧ M.qdF x < _) ∧ (M.qe1 x (M.qaI p x).A ∧ ∀ r, r = M.qaO x (M.qaI p x).A → qa1 (r != 0) ((r != (M.qd0 x.Frames).Mask) = _) _)))
 rw [w64 (x := M.qdF x + 1) (by omega) (by omega)]
 refine ⟨by omega, ⟨t5, t6⟩, qa3 (fun e => ?_) fun e => ⟨⟨t5, t6⟩, qa3 (fun e2 => ?_) fun e2 => ⟨⟨t5, t6⟩, by show x.Frames.length ≤ 9223372036854775807; omega, fun r hr => qa3 (fun e3 => ?_) fun e3 => ?_⟩⟩⟩
 ·have e : ¬ (M.qaI p x).Op = 10 := by simpa using e
  simp [M.qbd, M.splits, e]
 ·have e2 : (M.qaI p x).B = M.qdF x + 1 := by simpa using e2
  simp [M.qbd, M.splits, e2]
 all_goals
  have e : (M.qaI p x).Op = 10 := by simpa using e
  have e2 : ¬ (M.qaI p x).B = M.qdF x + 1 := by simpa using e2
  have hz : r = M.qct x (M.qaI p x).A := by
   rw [hr]
   simp [M.qaO, qhK t7 e, t4]
  rw [hz] at e3
  try rw [hz]
 ·simp only [M.qbd, M.splits, e, e3, Bool.true_and]
  have : ((M.qaI p x).B != M.qdF x + 1) = true := by simpa using e2
  rw [this]; rfl
 ·simp only [M.qbd, M.splits, e3, Bool.false_and, Bool.and_false]
theorem wp.qaV.math (x : D.Warp) (p : List D.Ins) (h : M.qem x p) : wp.qaV x p (fun r => r = M.qaV x p) := by
 obtain ⟨t1, t2, t3, t4, t5, t6, t7, _⟩ := qdX h
 have hL : M.Long x.Frames := by unfold M.Long; omega
 unfold wp.qaV
 rw [qdp (by omega)]
 change (_ ∧ _) ∧ (0 ≤ M.qdF x ∧ M.qdF x < _) ∧ qa1 ((M.qaI p x).Op != 10) _ ((0 ≤ M.qdF x ∧ M.qdF x < _) ∧ qa1 ((M.qaI p x).B == wrap .i64 (M.qdF x + 1)) _ ((0 ≤ M.qdF x ∧ M.qdF x < _) ∧ (M.qd8 x (M.qaI p x).A ∧ ∀ r, r = M.qaN x (M.qaI p x).A → qa1 (r != 0) (M.qdi x ∧ ∀ r49, r49 = M.qbh x → (r != r49) = _) _)))
 rw [w64 (x := M.qdF x + 1) (by omega) (by omega)]
 refine ⟨by omega, ⟨t5, t6⟩, qa3 (fun e => ?_) fun e => ⟨⟨t5, t6⟩, qa3 (fun e2 => ?_) fun e2 => ⟨⟨t5, t6⟩, ⟨hL, t4, qhK t7 (by simpa using e)⟩, fun r hr => qa3 (fun e3 => ⟨hL, fun r4 hr4 => ?_⟩) fun e3 => ?_⟩⟩⟩
 ·have e : ¬ (M.qaI p x).Op = 10 := by simpa using e
  simp [M.qaV, M.splits, e]
 ·have e2 : (M.qaI p x).B = M.qdF x + 1 := by simpa using e2
  simp [M.qaV, M.splits, e2]
 all_goals
  have e : (M.qaI p x).Op = 10 := by simpa using e
  have e2 : ¬ (M.qaI p x).B = M.qdF x + 1 := by simpa using e2
  have hz : r = M.qct x (M.qaI p x).A := hr
  rw [hz] at e3
  try rw [hz]
 ·have hr4' : r4 = (M.qd0 x.Frames).Mask := by rw [hr4]; exact qh1 h.2.2
  rw [hr4']
  simp only [M.qaV, M.splits, e, e3, Bool.true_and]
  have : ((M.qaI p x).B != M.qdF x + 1) = true := by simpa using e2
  rw [this]; rfl
 ·simp only [M.qaV, M.splits, e3, Bool.false_and, Bool.and_false]
theorem wp.qaJ.math (p : List D.Ins) (x : D.Warp) (h : M.qfY p x) : wp.qaJ p x (fun r => r = M.qaJ p x) := by
 unfold wp.qaJ
 rw [qh8]
 refine qa3 (fun e => ?_) fun e => ?_
 ·simp [M.qaJ, e]
 have hx : x.Frames ≠ [] := by simpa using e
 obtain ⟨t1, t2, t3, t4, t5, t6, t7, _⟩ := qdX ⟨h.1, h.2, hx⟩
 rw [qdp (by omega)]
 refine ⟨by omega, ⟨t5, t6⟩, fun r hr => qa3 (fun e2 => ?_) fun e2 => ⟨⟨h.1, h.2, hx⟩, fun r2 hr2 => qa3 (fun e3 => ?_) fun e3 => ?_⟩⟩
 all_goals have hr' : r = M.qcM (M.qaI p x) := hr
 ·have := nt e2 hr'
  simp [M.qaJ, this]
 ·have := nt e3 (show r2 = M.splits p x from hr2)
  simp [M.qaJ, e, nf e2 hr', this]
 ·have := nf e3 (show r2 = M.splits p x from hr2)
  simp only [M.qaJ, e, nf e2 hr', this, Bool.not_false, Bool.not_true, Bool.true_and, Bool.false_or]
  congr 1; exact propext (by omega)
theorem qgA {b : D.Block} {w : Int} (h : M.Has b w) (hx : (rd b.Warps w).Frames ≠ []) : M.Runs b.Code (rd b.Warps w) := by
 obtain ⟨_, _, hp, hw, _⟩ := qen h
 exact ⟨hp, hw, hx⟩
theorem qnl {α : Type} {l : List α} : ((l.length : Int) == 1) = (l.length == 1) := by
 rw [Bool.eq_iff_iff]; simp; omega
theorem wp.qcC.math (b : D.Block) (w : Int) (h : M.qgJ b w) : wp.qcC b w (fun r => r = M.qcC b w) := by
 obtain ⟨h0, h1, hp, hw, hn, hok⟩ := qen h
 unfold wp.qcC
 rw [qh8, qnl]
 refine ⟨⟨h0, h1⟩, qa3 (fun e => ?_) fun e => ⟨h0, qa3 (fun e2 => ?_) fun e2 => ?_⟩⟩
 ·simp [M.qcC, M.qfq, e]
 ·have : M.waits b w = true := e2
  simp [M.qcC, M.qfq, this]
 have hx : (rd b.Warps w).Frames ≠ [] := by simpa using e
 have e2 : M.waits b w = false := e2
 refine ⟨⟨h, hx⟩, fun r hr r2 hr2 => qa3 (fun e3 => ⟨⟨hp, hw⟩, fun r3 hr3 => ?_⟩) fun e3 => qa3 (fun e4 => ?_) fun e4 => ?_⟩
 all_goals
  have hr' : r = M.qaI b.Code (rd b.Warps w) := hr
  have hr2' : r2 = M.qcM (M.qaI b.Code (rd b.Warps w)) := by rw [hr2, hr']; rfl
 ·have hl := hr2'.symm.trans e3
  rw [hr3]
  simp only [M.qaJ, M.qcC, M.qfq, e, e2, hl, if_true, Bool.not_false, Bool.true_and]
 ·have hl := hr2'.symm.trans e3
  rw [hr'] at e4
  simp [M.qcC, M.qfq, e, e2, hl, e4]
 ·have hl := hr2'.symm.trans e3
  rw [hr'] at e4
  simp [M.qcC, M.qfq, e, e2, hl, e4]
theorem wp.qaz.math (b : D.Block) (w : Int) (h : M.qdy b w) : wp.qaz b w (fun r => r = M.qaz b w) := by
 obtain ⟨h0, h1, hp, hw, hn, hok⟩ := qen h
 refine ⟨h, fun r hr => ?_⟩
 by_cases e : (rd b.Warps w).Frames.isEmpty = true
 ·have hr' : r = (⟨0, 0, 0, 0⟩, false) := by rw [hr]; simp [M.qaB, e]
  rw [hr']
  unfold qeZ
  refine qaE rfl (qaE rfl ?_)
  simp [M.qaz, M.qfq, e]
 have e : (rd b.Warps w).Frames.isEmpty = false := by simpa using e
 have hx : (rd b.Warps w).Frames ≠ [] := by simpa using e
 have hr' : r = (M.qaI b.Code (rd b.Warps w), true) := by
  rw [hr]; simp only [M.qaB]; rw [if_neg (by rw [e]; simp)]; rfl
 have hruns := qgA h hx
 obtain ⟨t1, t2, t3, t4, t5, t6, t7, _⟩ := qdX hruns
 rw [hr']
 unfold qeZ
 refine qaC rfl ⟨h0, fun r2 hr2 => ?_⟩
 have hr2' : r2 = M.waits b w := hr2
 refine qa3 (fun e2 => ?_) fun e2 => qa3 (fun e3 => ?_) fun e3 => ?_
 ·have := hr2'.symm.trans e2
  simp [M.qaz, M.qfq, this]
 ·have e2 := hr2'.symm.trans e2
  have e3 : (M.qaI b.Code (rd b.Warps w)).Op = 16 := by simpa using e3
  have hl : M.qcM (M.qaI b.Code (rd b.Warps w)) = false := by simp [M.qcM, M.isIn, e3]
  refine ⟨⟨h0, h1⟩, ?_⟩
  rw [qnl]
  simp only [M.qaz, M.qfq, e, e2, hl, e3, Bool.not_false, Bool.true_and, bne_self_eq_false, Bool.false_or, Bool.false_eq_true, if_false]
 ·have e2 := hr2'.symm.trans e2
  have e3 : ¬ (M.qaI b.Code (rd b.Warps w)).Op = 16 := by simpa using e3
  intro r3 hr3
  refine qa3 (fun e4 => ⟨⟨h0, h1⟩, hruns, fun r4 hr4 => qa3 (fun e5 => ?_) fun e5 => ⟨⟨h0, h1⟩, ?_⟩⟩) fun e4 => ?_
  ·have e4 := (show r3 = M.qcM (M.qaI b.Code (rd b.Warps w)) from hr3).symm.trans e4
   have := nt e5 (show r4 = M.splits b.Code (rd b.Warps w) from hr4)
   simp [M.qaz, M.qfq, e, e2, e4, this]
  ·have e4 := (show r3 = M.qcM (M.qaI b.Code (rd b.Warps w)) from hr3).symm.trans e4
   have := nf e5 (show r4 = M.splits b.Code (rd b.Warps w) from hr4)
   rw [w64 (by omega) (by omega)]
   simp only [M.qaz, M.qfq, e, e2, e4, this, Bool.not_false, Bool.not_true, Bool.true_and, Bool.false_or, if_true]
   congr 1; exact propext (by omega)
  ·have e4 := (show r3 = M.qcM (M.qaI b.Code (rd b.Warps w)) from hr3).symm.trans e4
   simp [M.qaz, M.qfq, e, e2, e4, e3]
theorem wp.qd3.math (b : D.Block) (w : Int) (h : M.qgw b w) : wp.qd3 b w (fun r => r = M.qd3 b w) := by
 refine ⟨h, fun r hr => qa3 (fun e => ⟨⟨h, hr.symm.trans e⟩, fun r2 hr2 => ?_⟩) fun e => ?_⟩
 all_goals have hr' : r = M.qhs b w := hr
 ·rw [hr2]; simp [M.qd3, M.qiE, ← hr', e, M.qaz]
 ·simp [M.qd3, M.qiE, ← hr', e]
theorem qeR {b : D.Block} (h : M.Good b) : 1 ≤ b.Warps.length ∧ b.Warps.length ≤ 3 := by
 have := h.2
 simp only [M.qcT, Bool.and_eq_true, M.isIn, decide_eq_true_eq] at this
 omega
theorem qkL {b : D.Block} (h : M.Good b) {w : Int} (h0 : 0 ≤ w) (h1 : w < (b.Warps.length : Int)) : M.Has b w := by
 have hc := qeR h
 refine ⟨h.1, ?_⟩
 simp only [M.qhs, h.2, Bool.true_and, M.isIn, qdp (n := b.Warps.length) (by omega), Bool.and_eq_true, decide_eq_true_eq]
 omega
theorem qgz {x n : Int} (hx : 0 ≤ x) (hn : 0 < n) : 0 ≤ Int.tmod x n ∧ Int.tmod x n < n :=
 ⟨Int.tmod_nonneg _ hx, Int.tmod_lt_of_pos _ hn⟩
theorem ql5 {b : D.Block} (h : M.Good b) {q : Int} (h0 : 0 ≤ q) (hq : q ≤ 9223372036854775807) {B : (Int × Unit) → ((Int × Unit) → Prop) → Prop} {Q : Int → Prop} (hQ : Q (M.pick b q))
    (hb : ∀ (k : Nat) (next : (Int × Unit) → Prop), k < b.Warps.length → M.Has b (Int.tmod (Int.tmod q b.Warps.length + k) b.Warps.length) → (M.qfq b (Int.tmod (Int.tmod q b.Warps.length + k) b.Warps.length) = true → Q (Int.tmod (Int.tmod q b.Warps.length + k) b.Warps.length)) →
     (M.qfq b (Int.tmod (Int.tmod q b.Warps.length + k) b.Warps.length) = false → next (((k + 1 : Nat) : Int), ())) → wrap .i64 (Int.tmod q b.Warps.length + k) = Int.tmod q b.Warps.length + k → B ((k : Int), ()) next)
    (he : ∀ next : (Int × Unit) → Prop, Q (-1) → B ((b.Warps.length : Int), ()) next) : qd7 B (0, ()) := by
 have hc := qeR h
 have ht := qgz (x := q) (n := b.Warps.length) h0 (by omega)
 refine qd9 b.Warps.length (fun k => ((k : Int), ())) (fun k => M.pick b q = M.qf5 b b.Warps.length (Int.tmod q b.Warps.length) (b.Warps.length - k) (k : Int)) rfl rfl (fun k hk hF next hn => ?_) fun hF next => ?_
 ·rw [show b.Warps.length - k = (b.Warps.length - (k + 1)) + 1 by omega, M.qf5] at hF
  have ht2 := qgz (x := Int.tmod q b.Warps.length + k) (n := b.Warps.length) (by omega) (by omega)
  refine hb k next hk (qkL h ht2.1 ht2.2) (fun e => ?_) (fun e => hn ?_) (w64 (by omega) (by omega))
  ·rw [if_pos e] at hF; rw [← hF]; exact hQ
  ·rw [if_neg (by rw [e]; simp)] at hF; rw [hF]; rfl
 ·refine he next ?_
  rw [Nat.sub_self, M.qf5] at hF
  rw [← hF]; exact hQ
theorem wp.qdt.math (b : D.Block) (q : Int) (h : M.qgi b q) : wp.qdt b q (fun r => r = M.qdt b q) := by
 obtain ⟨hg, h0, hq⟩ := h
 have hc := qeR hg
 refine ⟨by omega, ql5 hg h0 hq (Q := fun r => r = M.pick b q) rfl (fun k next hk hh h1 h2 hw => ?_) fun next hh => qaC (by simp) hh⟩
 refine qaE (by simp; omega) ⟨by omega, ?_⟩
 simp only [hw]
 refine ⟨hh, fun r hr => qa3 (fun e => h1 (hr.symm.trans e)) fun e => ?_⟩
 rw [up64 hk (by omega)]; exact h2 (hr.symm.trans e)
theorem wp.qaX.math (b : D.Block) (q : Int) (h : M.qdV b q) : wp.qaX b q (fun r => r = M.qaX b q) := by
 obtain ⟨hg, h0, hq⟩ := h
 have hc := qeR hg
 refine ql5 hg h0 hq (Q := fun r => r = M.pick b q) rfl (fun k next hk hh h1 h2 hw => ?_) fun next hh => qaC (by simp) hh
 refine qaE (by simp; omega) ⟨by omega, by omega, ?_⟩
 simp only [hw]
 refine ⟨hh, fun r hr => qa3 (fun e => h1 (hr.symm.trans e)) fun e => ?_⟩
 rw [up64 hk (by omega)]; exact h2 (hr.symm.trans e)
theorem wp.qcp.math (b : D.Block) (q : Int) (h : M.qg6 b q) : wp.qcp b q (fun r => r = M.qcp b q) := by
 obtain ⟨h, hq⟩ := h
 refine qa3 (fun e2 => ?_) fun e2 => ⟨h, fun r hr => qa3 (fun e => ?_) fun e => ?_⟩
 ·have e2 : ¬ 0 ≤ q := by simp at e2; omega
  simp [M.qcp, M.qgc, e2]
 ·simp [M.qcp, M.qgc, nt e (show r = M.qcT b from hr)]
 ·have e2 : 0 ≤ q := by simp at e2; omega
  have e := nf e (show r = M.qcT b from hr)
  exact ⟨⟨⟨h, e⟩, e2, hq⟩, fun r2 hr2 => by rw [hr2]; simp [M.qcp, M.qgc, e, e2, M.qaX]⟩
theorem qn8 {b : D.Block} (hl : b.Warps.length ≤ 3) {g : Nat → Bool} {B : (Int × Unit) → ((Int × Unit) → Prop) → Prop}
    (hb : ∀ (k : Nat) (next : (Int × Unit) → Prop), k < b.Warps.length → (g k = false → (List.range b.Warps.length).all g = false) → (g k = true → next (((k + 1 : Nat) : Int), ())) → B ((k : Int), ()) next)
    (he : ∀ next : (Int × Unit) → Prop, (List.range b.Warps.length).all g = true → B ((b.Warps.length : Int), ()) next) : qd7 B (0, ()) := by
 refine qd9 b.Warps.length (fun k => ((k : Int), ())) (fun k => (List.range k).all g = true) rfl rfl (fun k hk hF next hn => ?_) fun hF next => he next hF
 refine hb k next hk (fun e => ?_) fun e => hn (by rw [List.range_succ, List.all_append, hF]; simp [e])
 refine Bool.eq_false_iff.2 fun hh => ?_
 rw [List.all_eq_true] at hh
 have := hh k (List.mem_range.2 hk)
 rw [e] at this; cases this
theorem wp.qbY.math (b : D.Block) (h : M.qf6 b) : wp.qbY b (fun r => r = M.qbY b) := by
 refine ⟨h, fun r hr => qa3 (fun e => ?_) fun e => ⟨h.2.1.1, fun r2 hr2 => qa3 (fun e2 => ?_) fun e2 => ?_⟩⟩
 ·simp [M.qbY, M.qi3, nt e (show r = M.qcT b from hr)]
 ·have := (show r2 = M.ended b from hr2).symm.trans e2
  simp [M.qbY, M.qi3, this]
 ·have e := nf e (show r = M.qcT b from hr)
  have e2 := (show r2 = M.ended b from hr2).symm.trans e2
  have hg : M.Good b := ⟨h, e⟩
  have hc := qeR hg
  have hM : M.qbY b = (List.range b.Warps.length).all fun k : Nat => !M.qfq b (k : Int) := by simp only [M.qbY, M.qi3, e, e2, Bool.true_and, Bool.not_false]
  rw [hM]
  refine qn8 hc.2 (g := fun k : Nat => !M.qfq b (k : Int)) (fun k next hk h1 h2 => ?_) fun next hh => qaC (by simp) hh.symm
  refine qaE (by simp; omega) ⟨qkL hg (by omega) (by omega), fun r3 hr3 => qa3 (fun e3 => (h1 ?_).symm) fun e3 => ?_⟩
  ·have := (show r3 = M.qfq b (k : Int) from hr3).symm.trans e3
   simp [this]
  ·have := (show r3 = M.qfq b (k : Int) from hr3).symm.trans e3
   rw [up64 hk (by omega)]; exact h2 (by simp [this])
end Go.V
namespace Go.V
open IntKind (wrap)
def wp.qcS (xs0 : List Int) (x1 : Int) (Q : (List Int) → Prop) : Prop :=
 qd7 (σ := (List Int) × Int × Unit) (fun (p59 : (List Int) × Int × Unit) next31 => match p59 with | (xs24, i27, _) => qa1 (decide (i27 < (xs0.length : Int))) (((0 ≤ i27 ∧ i27 < (xs0.length : Int)) ∧ qa1 ((rd xs0 i27) != x1) (((0 ≤ i27 ∧ i27 < (xs0.length : Int)) ∧ ((xs24.length + ([(rd xs0 i27)] : List Int).length ≤ 17179869184) ∧ next31 ((xs24 ++ ([(rd xs0 i27)] : List Int)), (wrap .i64 (i27 + 1)), ())))) (next31 (xs24, (wrap .i64 (i27 + 1)), ())))) (Q xs24)) (([] : List Int), 0, ())
def wp.qdK (xs0 : List D.Ins) (x1 : Int) (Q : Bool → Prop) : Prop :=
 (M.qeb xs0 ∧ ∀ r21, r21 = M.qb6 xs0 → qa1 r21 ((∀ r26, r26 = M.qaQ x1 0 (xs0.length : Int) → Q r26)) (Q false))
def wp.qcP (xs0 : List Int) (x1 : Int) (Q : (List Int) → Prop) : Prop :=
 qeZ (σ := Int × Unit) (fun J22 => qd7 (σ := Int × Unit) (fun (p41 : Int × Unit) next29 => match p41 with | (i25, _) => qa1 (decide (i25 > 0)) (((0 ≤ (wrap .i64 (i25 - 1)) ∧ (wrap .i64 (i25 - 1)) < (xs0.length : Int)) ∧ qa1 (decide ((rd xs0 (wrap .i64 (i25 - 1))) > x1)) (next29 ((wrap .i64 (i25 - 1)), ())) (J22 (i25, ())))) (J22 (i25, ()))) ((xs0.length : Int), ())) (fun (p82 : Int × Unit) => match p82 with | (i21, _) => qeZ (σ := Unit) (fun J45 => qa1 (decide (i21 > 0)) (((0 ≤ (wrap .i64 (i21 - 1)) ∧ (wrap .i64 (i21 - 1)) < (xs0.length : Int)) ∧ qa1 ((rd xs0 (wrap .i64 (i21 - 1))) == x1) (Q xs0) (J45 (())))) (J45 (()))) (fun (p80 : Unit) => match p80 with | (_) => ((0 ≤ i21 ∧ i21 ≤ (xs0.length : Int)) ∧ ((([] : List Int).length + (List.take (i21.toNat) xs0).length ≤ 17179869184) ∧ (((([] : List Int) ++ (List.take (i21.toNat) xs0)).length + ([x1] : List Int).length ≤ 17179869184) ∧ ((0 ≤ i21 ∧ i21 ≤ (xs0.length : Int)) ∧ ((((([] : List Int) ++ (List.take (i21.toNat) xs0)) ++ ([x1] : List Int)).length + (List.drop (i21.toNat) xs0).length ≤ 17179869184) ∧ Q (((([] : List Int) ++ (List.take (i21.toNat) xs0)) ++ ([x1] : List Int)) ++ (List.drop (i21.toNat) xs0)))))))))
def wp.qci (xs0 : List D.Ins) (x1 : Int) (Q : (List Int) → Prop) : Prop :=
 qa1 (x1 == (xs0.length : Int)) (Q ([] : List Int)) (((0 ≤ x1 ∧ x1 < (xs0.length : Int)) ∧ qa1 ((rd xs0 x1).Op == 12) (Q ([(xs0.length : Int)] : List Int)) (qa1 ((rd xs0 x1).Op == 11) (((0 ≤ x1 ∧ x1 < (xs0.length : Int)) ∧ Q ([(rd xs0 x1).B] : List Int))) (qa1 ((rd xs0 x1).Op == 10) (((0 ≤ x1 ∧ x1 < (xs0.length : Int)) ∧ (M.qgQ ([(wrap .i64 (x1 + 1))] : List Int) ((rd xs0 x1).B) ∧ ∀ r48, r48 = M.qcP ([(wrap .i64 (x1 + 1))] : List Int) ((rd xs0 x1).B) → Q r48))) (Q ([(wrap .i64 (x1 + 1))] : List Int))))))
def wp.qcG (xs0 : List D.Ins) (xs1 : List Int) (Q : (List Bool) → Prop) : Prop :=
 ((0 ≤ (wrap .i64 ((xs0.length : Int) + 1)) ∧ (wrap .i64 ((xs0.length : Int) + 1)) ≤ 17179869184) ∧ ((([] : List Int).length + xs1.length ≤ 17179869184) ∧ qd7 (σ := (List Int) × (List Bool) × Unit) (fun (p127 : (List Int) × (List Bool) × Unit) next85 => match p127 with | (xs77, xs80, _) => qa1 (decide ((xs77.length : Int) > 0)) (((0 ≤ (0 : Int) ∧ (0 : Int) < (xs77.length : Int)) ∧ ((0 ≤ (1 : Int) ∧ (1 : Int) ≤ (xs77.length : Int)) ∧ ((0 ≤ (rd xs77 0) ∧ (rd xs77 0) < (xs80.length : Int)) ∧ qa1 (rd xs80 (rd xs77 0)) (next85 ((List.drop ((1 : Int).toNat) xs77), xs80, ())) (((0 ≤ (rd xs77 0) ∧ (rd xs77 0) < (xs80.length : Int)) ∧ (M.qfa xs0 (rd xs77 0) ∧ ∀ r110, r110 = M.qci xs0 (rd xs77 0) → (((List.drop ((1 : Int).toNat) xs77).length + r110.length ≤ 17179869184) ∧ next85 (((List.drop ((1 : Int).toNat) xs77) ++ r110), (List.set xs80 ((rd xs77 0).toNat) true), ()))))))))) (Q xs80)) ((([] : List Int) ++ xs1), (List.replicate ((wrap .i64 ((xs0.length : Int) + 1)).toNat) (default : Bool)), ())))
def wp.qaH (xs0 : List D.Ins) (x1 : Int) (Q : Bool → Prop) : Prop :=
 (M.qh0 xs0 x1 ∧ ∀ r21, r21 = M.qdK xs0 x1 → qa1 r21 ((M.qfP xs0 ([x1] : List Int) ∧ ∀ r29, r29 = M.qcG xs0 ([x1] : List Int) → ((0 ≤ (xs0.length : Int) ∧ (xs0.length : Int) < (r29.length : Int)) ∧ Q (rd r29 (xs0.length : Int))))) (Q false))
def wp.qcF (xs0 : List D.Ins) (x1 : Int) (x2 : Int) (Q : Bool → Prop) : Prop :=
 qa1 (x1 == x2) (Q true) (((0 ≤ (wrap .i64 ((xs0.length : Int) + 1)) ∧ (wrap .i64 ((xs0.length : Int) + 1)) ≤ 17179869184) ∧ qd7 (σ := (List Int) × (List Bool) × Unit) (fun (p130 : (List Int) × (List Bool) × Unit) next83 => match p130 with | (xs75, xs78, _) => qa1 (decide ((xs75.length : Int) > 0)) (((0 ≤ (0 : Int) ∧ (0 : Int) < (xs75.length : Int)) ∧ ((0 ≤ (1 : Int) ∧ (1 : Int) ≤ (xs75.length : Int)) ∧ ((0 ≤ (rd xs75 0) ∧ (rd xs75 0) < (xs78.length : Int)) ∧ qa1 (rd xs78 (rd xs75 0)) (next83 ((List.drop ((1 : Int).toNat) xs75), xs78, ())) (qa1 ((rd xs75 0) == x2) (next83 ((List.drop ((1 : Int).toNat) xs75), xs78, ())) (qa1 ((rd xs75 0) == (xs0.length : Int)) (Q false) (((0 ≤ (rd xs75 0) ∧ (rd xs75 0) < (xs78.length : Int)) ∧ (M.qfa xs0 (rd xs75 0) ∧ ∀ r111, r111 = M.qci xs0 (rd xs75 0) → (((List.drop ((1 : Int).toNat) xs75).length + r111.length ≤ 17179869184) ∧ next83 (((List.drop ((1 : Int).toNat) xs75) ++ r111), (List.set xs78 ((rd xs75 0).toNat) true), ()))))))))))) (Q true)) (([x1] : List Int), (List.replicate ((wrap .i64 ((xs0.length : Int) + 1)).toNat) (default : Bool)), ())))
def wp.qco (xs0 : List D.Ins) (x1 : Int) (Q : (List Int) → Prop) : Prop :=
 (M.qdT xs0 x1 ∧ ∀ r24, r24 = M.qaH xs0 x1 → qa1 (!r24) (Q ([] : List Int)) (qd7 (σ := (List Int) × Int × Unit) (fun (p59 : (List Int) × Int × Unit) next36 => match p59 with | (xs29, i32, _) => qa1 (decide (i32 ≤ (xs0.length : Int))) ((M.qeV xs0 x1 i32 ∧ ∀ r38, r38 = M.qcF xs0 x1 i32 → qa1 r38 (((xs29.length + ([i32] : List Int).length ≤ 17179869184) ∧ next36 ((xs29 ++ ([i32] : List Int)), (wrap .i64 (i32 + 1)), ()))) (next36 (xs29, (wrap .i64 (i32 + 1)), ())))) (Q xs29)) (([] : List Int), 0, ())))
def wp.qdd (xs0 : List D.Ins) (xs1 : List Int) (Q : Int → Prop) : Prop :=
 qd7 (σ := Int × Unit) (fun (p72 : Int × Unit) next25 => match p72 with | (i21, _) => qa1 (decide (i21 < (xs1.length : Int))) (qd7 (σ := Bool × Int × Unit) (fun (p67 : Bool × Int × Unit) next32 => match p67 with | (b27, i28, _) => qa1 (decide (i28 < (xs1.length : Int))) (qa1 b27 (((0 ≤ i21 ∧ i21 < (xs1.length : Int)) ∧ ((0 ≤ i28 ∧ i28 < (xs1.length : Int)) ∧ (M.qeV xs0 (rd xs1 i21) (rd xs1 i28) ∧ ∀ r45, r45 = M.qcF xs0 (rd xs1 i21) (rd xs1 i28) → next32 (r45, (wrap .i64 (i28 + 1)), ()))))) (next32 (false, (wrap .i64 (i28 + 1)), ()))) (qa1 b27 (((0 ≤ i21 ∧ i21 < (xs1.length : Int)) ∧ Q (rd xs1 i21))) (next25 ((wrap .i64 (i21 + 1)), ())))) (true, 0, ())) (Q (-1))) (0, ())
def wp.qc7 (xs0 : List D.Ins) (x1 : Int) (Q : Int → Prop) : Prop :=
 (M.qg7 xs0 x1 ∧ ∀ r21, r21 = M.qco xs0 x1 → (M.qfC r21 x1 ∧ ∀ r28, r28 = M.qcS r21 x1 → (M.qg2 xs0 r28 ∧ ∀ r35, r35 = M.qdd xs0 r28 → Q r35)))
def wp.qcB (xs0 : List D.Ins) (x1 : Int) (Q : Int → Prop) : Prop :=
 (M.qdT xs0 (wrap .i64 (x1 + 1)) ∧ ∀ r21, r21 = M.qaH xs0 (wrap .i64 (x1 + 1)) → qa1 (!r21) (Q (xs0.length : Int)) (((0 ≤ x1 ∧ x1 < (xs0.length : Int)) ∧ (M.qdT xs0 ((rd xs0 x1).B) ∧ ∀ r31, r31 = M.qaH xs0 ((rd xs0 x1).B) → qa1 (!r31) (Q (xs0.length : Int)) ((M.qfe xs0 x1 ∧ ∀ r36, r36 = M.qc7 xs0 x1 → Q r36))))))
end Go.V
namespace Go.V
open IntKind (wrap)
theorem qj7 {g : Int → Bool} {x : Int} : ∀ {n : Nat}, x ∈ M.idx g n ↔ ∃ k : Nat, k < n ∧ x = (k : Int) ∧ g x = true
 | 0 => by simp [M.idx]
 | n + 1 => by
  have ih := qj7 (g := g) (x := x) (n := n)
  unfold M.idx
  constructor
  ·intro h
   split at h
   ·rename_i e
    rcases List.mem_append.1 h with h | h
    ·obtain ⟨k, hk, h1, h2⟩ := ih.1 h; exact ⟨k, by omega, h1, h2⟩
    ·obtain rfl := List.mem_singleton.1 h; exact ⟨n, by omega, rfl, e⟩
   ·obtain ⟨k, hk, h1, h2⟩ := ih.1 h; exact ⟨k, by omega, h1, h2⟩
  ·rintro ⟨k, hk, rfl, h2⟩
   by_cases hkn : k = n
   ·subst hkn; rw [if_pos h2]; simp
   ·have := ih.2 ⟨k, by omega, rfl, h2⟩
    split
    ·exact List.mem_append_left _ this
    ·exact this
theorem qkk (g : Int → Bool) : ∀ n, (M.idx g n).length ≤ n
 | 0 => by simp [M.idx]
 | n + 1 => by
  have := qkk g n
  unfold M.idx
  split <;> simp <;> omega
theorem qko {n : Nat} {g : Int → Bool} {B : (List Int × Int × Unit) → ((List Int × Int × Unit) → Prop) → Prop}
    (hb : ∀ (k : Nat) (xs : List Int) (next : (List Int × Int × Unit) → Prop), k < n → xs = M.idx g k → xs.length ≤ k → (g (k : Int) = true → next (xs ++ [(k : Int)], ((k + 1 : Nat) : Int), ())) → (g (k : Int) = false → next (xs, ((k + 1 : Nat) : Int), ())) → B (xs, (k : Int), ()) next)
    (he : ∀ next : (List Int × Int × Unit) → Prop, B (M.idx g n, (n : Int), ()) next) : qd7 B ([], 0, ()) := by
 refine qd9 n (fun k => (M.idx g k, (k : Int), ())) (fun _ => True) rfl trivial (fun k hk _ next hn => ?_) fun _ next => he next
 have hn := hn trivial
 unfold M.idx at hn
 exact hb k _ next hk rfl (qkk g k) (fun e => by rwa [if_pos e] at hn) fun e => by rwa [if_neg (by rw [e]; simp)] at hn
theorem qnV {p : List D.Ins} (hp : M.qaW p = true) {k : Int} (h0 : 0 ≤ k) (h1 : k < (p.length : Int)) : M.qdw (rd p k) p.length = true := by
 simp only [M.qaW, Bool.and_eq_true, decide_eq_true_eq, List.all_eq_true] at hp
 exact hp.2 _ (qjR h0 h1)
theorem qhc {p : List D.Ins} (hp : M.qaW p = true) : p.length ≤ 32 := by
 simp only [M.qaW, Bool.and_eq_true, decide_eq_true_eq] at hp
 exact hp.1
theorem qh5 {i : D.Ins} {n : Int} (h : M.qdw i n = true) (e : i.Op = 10 ∨ i.Op = 11) : 0 ≤ i.B ∧ i.B ≤ n := by
 simp only [M.qdw, Bool.and_eq_true] at h
 have h := h.2
 rcases e with e | e
 ·rw [if_neg (by omega), if_neg (by omega), if_neg (by omega), if_neg (by omega), if_pos e] at h
  simp only [Bool.and_eq_true, M.isIn, decide_eq_true_eq] at h
  exact h.2.1
 ·rw [if_neg (by omega), if_neg (by omega), if_neg (by omega), if_neg (by omega), if_neg (by omega), if_pos e] at h
  simp only [Bool.and_eq_true, M.isIn, decide_eq_true_eq] at h
  exact h.2.1
theorem qiA {a b x : Int} : x ∈ M.qhm a b ↔ x = a ∨ x = b := by
 unfold M.qhm
 split
 ·simp [or_comm]
 split
 ·rename_i h1 h2; subst h2; simp
 ·simp
theorem qk1 (a b : Int) : (M.qhm a b).length ≤ 2 := by
 unfold M.qhm
 (repeat' split) <;> simp
theorem qiy {p : List D.Ins} {k : Int} (h : M.Node p k) : (∀ x ∈ M.qer p k, M.qe2 p x) ∧ (M.qer p k).length ≤ 2 := by
 obtain ⟨hp, h0, h1⟩ := h
 unfold M.qer
 split
 ·exact ⟨fun x hx => absurd hx List.not_mem_nil, by simp⟩
 rename_i hne
 have hlt : k < (p.length : Int) := by omega
 have hi := qnV hp h0 hlt
 split
 ·exact ⟨fun x hx => by obtain rfl := List.mem_singleton.1 hx; exact ⟨by omega, by omega⟩, by simp⟩
 split
 ·rename_i e
  exact ⟨fun x hx => by obtain rfl := List.mem_singleton.1 hx; exact qh5 hi (.inr e), by simp⟩
 split
 ·rename_i e
  refine ⟨fun x hx => ?_, qk1 _ _⟩
  rcases qiA.1 hx with rfl | rfl
  ·exact ⟨by omega, by omega⟩
  ·exact qh5 hi (.inl e)
 ·exact ⟨fun x hx => by obtain rfl := List.mem_singleton.1 hx; exact ⟨by omega, by omega⟩, by simp⟩
def qhp (l : List Bool) : Nat := l.count false
theorem qiF : ∀ {l : List Bool} {k : Nat}, k < l.length → l[k]? = some false → qhp (l.set k true) + 1 = qhp l
 | [], k, hk, _ => absurd hk (by simp)
 | b :: l, 0, hk, h => by
  simp at h; subst h
  simp [qhp]
 | b :: l, k + 1, hk, h => by
  have := qiF (l := l) (k := k) (by simpa using hk) (by simpa using h)
  unfold qhp at *
  simp only [List.set_cons_succ, List.count_cons]
  omega
theorem rdB {l : List Bool} {k : Int} (h0 : 0 ≤ k) (h1 : k < (l.length : Int)) : l[k.toNat]? = some (rd l k) := by
 have : k.toNat < l.length := by omega
 simp [rd, List.getD_eq_getElem?_getD, this]
theorem qiw {l : List Bool} {k j : Int} (h0 : 0 ≤ k) (h1 : k < (l.length : Int)) (hj : 0 ≤ j) : rd (l.set k.toNat true) j = if j = k then true else rd l j := by
 unfold rd
 rw [List.getD_eq_getElem?_getD, List.getD_eq_getElem?_getD, List.getElem?_set]
 by_cases e : j = k
 ·subst e
  have : j.toNat < l.length := by omega
  simp [this]
 ·have : ¬ k.toNat = j.toNat := by omega
  rw [if_neg this, if_neg e]
theorem qlK (p : List D.Ins) (wo : Int) : ∀ (f : Nat) (work : List Int) (seen : List Bool), (M.bfs p wo f work seen).length = seen.length
 | 0, _, _ => rfl
 | f + 1, [], _ => rfl
 | f + 1, k :: work, seen => by
  unfold M.bfs
  split
  ·exact qlK p wo f _ _
  ·rw [qlK p wo f]; simp
theorem qkj (p : List D.Ins) (wo : Int) {j : Int} (hj : 0 ≤ j) : ∀ (f : Nat) (work : List Int) (seen : List Bool), (∀ x ∈ work, M.Node p x) → seen.length = p.length + 1 → rd seen j = true → rd (M.bfs p wo f work seen) j = true
 | 0, _, _, _, _, h => h
 | f + 1, [], _, _, _, h => h
 | f + 1, k :: work, seen, hw, hl, h => by
  have hk := hw k List.mem_cons_self
  have hr : ∀ x ∈ work, M.Node p x := fun x hx => hw x (List.mem_cons_of_mem _ hx)
  unfold M.bfs
  split
  ·exact qkj p wo hj f _ _ hr hl h
  ·refine qkj p wo hj f _ _ (fun x hx => (List.mem_append.1 hx).elim (hr x) fun h' => ⟨hk.1, (qiy hk).1 x h'⟩) (by simpa using hl) ?_
   have hk2 := hk.2
   unfold M.qe2 at hk2
   rw [qiw hk2.1 (by omega) hj]
   split
   ·rfl
   ·exact h
theorem qky {p : List D.Ins} {wo : Int} {I : List Bool → Prop} {B : (List Int × List Bool × Unit) → ((List Int × List Bool × Unit) → Prop) → Prop} {work0 : List Int} {seen0 R : List Bool} {fuel : Nat}
    (hs : M.Starts p work0) (hl0 : seen0.length = p.length + 1) (hI0 : I seen0) (hR : M.bfs p wo fuel work0 seen0 = R) (hf : 3 * qhp seen0 + work0.length ≤ fuel)
    (hb0 : ∀ (k : Int) (rest : List Int) (seen : List Bool) (next : (List Int × List Bool × Unit) → Prop), M.Node p k → seen.length = p.length + 1 → I seen → (k = wo ∨ rd seen k = true) → next (rest, seen, ()) → B (k :: rest, seen, ()) next)
    (hb1 : ∀ (k : Int) (rest : List Int) (seen : List Bool) (next : (List Int × List Bool × Unit) → Prop), M.Node p k → seen.length = p.length + 1 → I seen → ¬ k = wo → rd seen k = false → rd R k = true → rest.length + (M.qer p k).length ≤ 17179869184 → (I (seen.set k.toNat true) → next (rest ++ M.qer p k, seen.set k.toNat true, ())) → B (k :: rest, seen, ()) next)
    (he : ∀ (next : (List Int × List Bool × Unit) → Prop), I R → B ([], R, ()) next) : qd7 B (work0, seen0, ()) := by
 obtain ⟨hp, hw, h4⟩ := hs
 have h32 := qhc hp
 have hc0 : qhp seen0 ≤ p.length + 1 := by unfold qhp; rw [← hl0]; exact List.count_le_length
 refine ⟨fun m z => ∃ work seen f, z = (work, seen, ()) ∧ m = 3 * qhp seen + work.length ∧ m ≤ f ∧ M.bfs p wo f work seen = R ∧ seen.length = p.length + 1 ∧ (∀ x ∈ work, M.Node p x) ∧ m ≤ 200 ∧ I seen,
  ⟨_, work0, seen0, fuel, rfl, rfl, hf, hR, hl0, fun x hx => ⟨hp, hw x hx⟩, by omega, hI0⟩, ?_⟩
 rintro m z ⟨work, seen, f, rfl, rfl, hmf, hbf, hl, hwk, hm, hI⟩
 cases work with
 | nil =>
  have : seen = R := by
   cases f with
   | zero => exact hbf
   | succ f => exact hbf
  subst this
  exact he _ hI
 | cons k rest =>
  have hk := hwk k List.mem_cons_self
  have hr : ∀ x ∈ rest, M.Node p x := fun x hx => hwk x (List.mem_cons_of_mem _ hx)
  cases f with
  | zero => simp at hmf
  | succ f =>
   by_cases hc : k = wo ∨ rd seen k = true
   ·refine hb0 k rest seen _ hk hl hI hc ⟨_, ?_, rest, seen, f, rfl, rfl, ?_, ?_, hl, hr, ?_, hI⟩
    ·simp
    ·simp at hmf; omega
    ·rw [M.bfs, if_pos hc] at hbf; exact hbf
    ·simp at hm; omega
   ·have h1 : ¬ k = wo := fun e => hc (.inl e)
    have h2 : rd seen k = false := by simpa using fun e => hc (.inr e)
    have hk2 := hk.2
    unfold M.qe2 at hk2
    have hn := qiy hk
    have hfs := qiF (l := seen) (k := k.toNat) (by omega) (by rw [rdB hk2.1 (by omega), h2])
    rw [M.bfs, if_neg hc] at hbf
    have hw' : ∀ x ∈ rest ++ M.qer p k, M.Node p x := fun x hx => (List.mem_append.1 hx).elim (hr x) fun h' => ⟨hk.1, hn.1 x h'⟩
    have hR' : rd R k = true := by
     rw [← hbf]
     refine qkj p wo hk2.1 f _ _ hw' (by simpa using hl) ?_
     rw [qiw hk2.1 (by omega) hk2.1, if_pos rfl]
    refine hb1 k rest seen _ hk hl hI h1 h2 hR' ?_ fun hI' => ⟨_, ?_, _, _, f, rfl, rfl, ?_, hbf, by simpa using hl, hw', ?_, hI'⟩
    ·simp at hm; omega
    ·simp only [List.length_append, List.length_cons]; omega
    ·simp only [List.length_append, List.length_cons] at *; omega
    ·simp only [List.length_append, List.length_cons] at *; omega
theorem qhE (n : Nat) : (List.replicate (n + 1) false).length = n + 1 := by simp
theorem qgX (n : Nat) : qhp (List.replicate (n + 1) false) = n + 1 := by simp [qhp]
theorem qkl (n : Nat) (k : Int) : rd (List.replicate (n + 1) false) k = false := by
 unfold rd
 rw [List.getD_eq_getElem?_getD, List.getElem?_replicate]
 split <;> rfl
inductive Rch (p : List D.Ins) (wo : Int) (frm : List Int) : Int → Prop
 | base {s : Int} : s ∈ frm → s ≠ wo → Rch p wo frm s
 | step {k s : Int} : Rch p wo frm k → s ∈ M.qer p k → s ≠ wo → Rch p wo frm s
theorem qj3 {p : List D.Ins} {wo : Int} {frm : List Int} : ∀ (f : Nat) (work : List Int) (seen : List Bool), (∀ x ∈ work, M.Node p x) → seen.length = p.length + 1 → (∀ x ∈ work, x = wo ∨ Rch p wo frm x) → (∀ x, 0 ≤ x → rd seen x = true → Rch p wo frm x) →
    ∀ x, 0 ≤ x → rd (M.bfs p wo f work seen) x = true → Rch p wo frm x
 | 0, _, _, _, _, _, h => h
 | f + 1, [], _, _, _, _, h => h
 | f + 1, k :: work, seen, hw, hl, hwr, h => by
  have hk := hw k List.mem_cons_self
  have hk2 := hk.2
  unfold M.qe2 at hk2
  have hr : ∀ x ∈ work, M.Node p x := fun x hx => hw x (List.mem_cons_of_mem _ hx)
  have hwr' : ∀ x ∈ work, x = wo ∨ Rch p wo frm x := fun x hx => hwr x (List.mem_cons_of_mem _ hx)
  unfold M.bfs
  split
  ·exact qj3 f work seen hr hl hwr' h
  ·rename_i hc
   have hkR : Rch p wo frm k := (hwr k List.mem_cons_self).resolve_left fun e => hc (.inl e)
   refine qj3 f _ _ (fun x hx => (List.mem_append.1 hx).elim (hr x) fun h' => ⟨hk.1, (qiy hk).1 x h'⟩) (by simpa using hl) (fun x hx => (List.mem_append.1 hx).elim (hwr' x) fun h' => ?_) fun x hx hs => ?_
   ·by_cases e : x = wo
    ·exact .inl e
    ·exact .inr (.step hkR h' e)
   ·rw [qiw hk2.1 (by omega) hx] at hs
    split at hs
    ·rename_i e; rw [e]; exact hkR
    ·exact h x hx hs
def Closed (p : List D.Ins) (wo : Int) (frm work : List Int) (seen : List Bool) : Prop :=
 (∀ s ∈ frm, s ≠ wo → rd seen s = true ∨ s ∈ work) ∧ ∀ k, M.qe2 p k → rd seen k = true → ∀ s ∈ M.qer p k, s ≠ wo → rd seen s = true ∨ s ∈ work
theorem qip {p : List D.Ins} {wo : Int} {frm : List Int} : ∀ (f : Nat) (work : List Int) (seen : List Bool), (∀ x ∈ work, M.Node p x) → (∀ x ∈ frm, M.qe2 p x) → seen.length = p.length + 1 → 3 * qhp seen + work.length ≤ f → Closed p wo frm work seen → Closed p wo frm [] (M.bfs p wo f work seen)
 | 0, work, seen, _, _, _, hf, hc => by
  have : work = [] := List.eq_nil_of_length_eq_zero (by omega)
  subst this; exact hc
 | f + 1, [], seen, _, _, _, _, hc => hc
 | f + 1, k :: work, seen, hw, hfr, hl, hf, hc => by
  have hk := hw k List.mem_cons_self
  have hk2 := hk.2
  have hk3 := hk.2
  unfold M.qe2 at hk2
  have hr : ∀ x ∈ work, M.Node p x := fun x hx => hw x (List.mem_cons_of_mem _ hx)
  simp only [List.length_cons] at hf
  obtain ⟨c1, c2⟩ := hc
  unfold M.bfs
  split
  ·rename_i hd
   have drop : ∀ s, s ≠ wo → (rd seen s = true ∨ s ∈ k :: work) → rd seen s = true ∨ s ∈ work := by
    intro s hs h
    rcases h with h | h
    ·exact .inl h
    rcases List.mem_cons.1 h with rfl | h
    ·exact .inl (hd.resolve_left hs)
    ·exact .inr h
   exact qip f work seen hr hfr hl (by omega) ⟨fun s hs hne => drop s hne (c1 s hs hne), fun j hj hsj s hs hne => drop s hne (c2 j hj hsj s hs hne)⟩
  ·rename_i hd
   have h2 : rd seen k = false := by simpa using fun e => hd (.inr e)
   have hfs := qiF (l := seen) (k := k.toNat) (by omega) (by rw [rdB hk2.1 (by omega), h2])
   have hn := qiy hk
   have up : ∀ s, M.qe2 p s → (rd seen s = true ∨ s ∈ k :: work) → rd (seen.set k.toNat true) s = true ∨ s ∈ work ++ M.qer p k := by
    intro s hs h
    have hs2 := hs
    unfold M.qe2 at hs2
    rw [qiw hk2.1 (by omega) hs2.1]
    rcases h with h | h
    ·left; split; rfl; exact h
    rcases List.mem_cons.1 h with rfl | h
    ·left; rw [if_pos rfl]
    ·exact .inr (List.mem_append_left _ h)
   refine qip f _ _ (fun x hx => (List.mem_append.1 hx).elim (hr x) fun h' => ⟨hk.1, hn.1 x h'⟩) hfr (by simpa using hl) (by simp only [List.length_append]; omega)
    ⟨fun s hs hne => up s (hfr s hs) (c1 s hs hne), fun j hj hsj s hs hne => ?_⟩
   have hj2 := hj
   unfold M.qe2 at hj2
   rw [qiw hk2.1 (by omega) hj2.1] at hsj
   split at hsj
   ·rename_i e; subst e
    exact .inr (List.mem_append_right _ hs)
   ·exact up s ((qiy ⟨hk.1, hj⟩).1 s hs) (c2 j hj hsj s hs hne)
theorem qnu {p : List D.Ins} {wo : Int} {frm : List Int} (hp : M.qaW p = true) (hf : ∀ x ∈ frm, M.qe2 p x) {x : Int} (h : Rch p wo frm x) : M.qe2 p x := by
 induction h with
 | base h _ => exact hf _ h
 | step _ hs _ ih => exact (qiy ⟨hp, ih⟩).1 _ hs
theorem qeG {p : List D.Ins} {wo : Int} {frm : List Int} (hp : M.qaW p = true) (hf : ∀ x ∈ frm, M.qe2 p x) {x : Int} (hx : M.qe2 p x) : rd (M.reached p frm wo) x = true ↔ Rch p wo frm x := by
 constructor
 ·intro h
  refine qj3 (frm := frm) _ frm _ (fun y hy => ⟨hp, hf y hy⟩) (qhE _) (fun y hy => ?_) (fun y _ hs => by rw [qkl] at hs; cases hs) x hx.1 h
  by_cases e : y = wo
  ·exact .inl e
  ·exact .inr (.base hy e)
 ·intro h
  have hc := qip (p := p) (wo := wo) (frm := frm) (3 * (p.length + 1) + frm.length) frm (List.replicate (p.length + 1) false) (fun y hy => ⟨hp, hf y hy⟩) hf (qhE _) (by rw [qgX]; omega)
   ⟨fun s hs _ => .inr hs, fun k _ hs => by rw [qkl] at hs; cases hs⟩
  clear hx
  induction h with
  | base h hne => exact (hc.1 _ h hne).resolve_right List.not_mem_nil
  | step hk hs hne ih => exact (hc.2 _ (qnu hp hf hk) ih _ hs hne).resolve_right List.not_mem_nil
theorem qjt (p : List D.Ins) (frm : List Int) (wo : Int) : (M.reached p frm wo).length = p.length + 1 := by
 unfold M.reached; rw [qlK]; simp
theorem qlJ {p : List D.Ins} {k later : Int} (h : M.Node p k) (hl : M.qe2 p later) (h1 : M.qff p k = true) (h2 : M.qdx p k later = true) : M.qff p later = true := by
 obtain ⟨hp, hk⟩ := h
 have hn : M.qe2 p (p.length : Int) := ⟨by omega, by omega⟩
 have one : ∀ z, M.qe2 p z → ∀ x ∈ [z], M.qe2 p x := fun z hz x hx => by obtain rfl := List.mem_singleton.1 hx; exact hz
 have r1 := (qeG hp (one k hk) hn).1 h1
 have r2 : ¬ Rch p later [k] (p.length : Int) := fun hr => by
  have := (qeG hp (one k hk) hn).2 hr
  unfold M.qdx at h2
  rw [this] at h2; cases h2
 have hl1 : later ≠ -1 := by have := hl.1; omega
 have key : ∀ x, Rch p (-1) [k] x → Rch p later [k] x ∨ Rch p (-1) [later] x := by
  intro x hx
  induction hx with
  | @base s hs hne =>
   by_cases e : s = later
   ·exact .inr (.base (by simp [e]) hne)
   ·exact .inl (.base hs e)
  | @step j s _ hs hne ih =>
   rcases ih with ih | ih
   ·by_cases e : s = later
    ·exact .inr (.base (by simp [e]) hne)
    ·exact .inl (.step ih hs e)
   ·exact .inr (.step ih hs hne)
 exact (qeG hp (one later hl) hn).2 ((key _ r1).resolve_left r2)
theorem qjM {p : List D.Ins} (h : M.qfB p) : wrap .i64 ((p.length : Int) + 1) = ((p.length + 1 : Nat) : Int) := by
 unfold M.qfB at h
 rw [w64 (by omega) (by omega)]; push_cast; rfl
theorem qgG {p : List D.Ins} (hp : M.qaW p = true) : M.qfB p := by have := qhc hp; unfold M.qfB; omega
theorem qhQ {p : List D.Ins} (h : M.qfB p) : M.Long p := by unfold M.qfB at h; unfold M.Long; omega
theorem qj8 {l : List Int} {g : Int → Bool} {k : Nat} (hk : k < l.length) : (l.take (k + 1)).filter g = if g (rd l (k : Int)) then (l.take k).filter g ++ [rd l (k : Int)] else (l.take k).filter g := by
 rw [List.take_add_one, List.getElem?_eq_getElem hk, qdU hk, List.filter_append]
 by_cases e : g l[k] = true
 ·simp [e]
 ·simp [e]
theorem wp.qcS.math (l : List Int) (n : Int) (h : M.qfC l n) : wp.qcS l n (fun r => r = M.qcS l n) := by
 have hl : l.length ≤ 17179869183 := h
 refine qd9 l.length (fun k => ((l.take k).filter (fun x => x != n), (k : Int), ())) (fun _ => True) rfl trivial (fun k hk _ next hn => ?_) fun _ next => ?_
 ·have hn := hn trivial
  rw [qj8 hk] at hn
  have hle := List.length_filter_le (fun x => x != n) (l.take k)
  have hle2 : (l.take k).length ≤ k := by simp; omega
  refine qaE (by simp; omega) ⟨by omega, qa3 (fun e => ⟨by omega, ?_, ?_⟩) fun e => ?_⟩
  ·simp only [List.length_singleton]; omega
  ·rw [if_pos e] at hn; rw [up64 hk (by omega)]; exact hn
  ·rw [if_neg (by rw [e]; simp)] at hn; rw [up64 hk (by omega)]; exact hn
 ·refine qaC (by simp) ?_
  rw [List.take_length]; rfl
theorem wp.qdK.math (p : List D.Ins) (k : Int) (h : M.qh0 p k) : wp.qdK p k (fun r => r = M.qdK p k) := by
 refine ⟨qhQ h, fun r hr => qa3 (fun e r2 hr2 => ?_) fun e => ?_⟩
 all_goals have hr' : r = M.qaW p := hr
 ·rw [hr2]; simp [M.qdK, M.qeW, ← hr', e, M.qaQ]
 ·simp [M.qdK, M.qeW, ← hr', e]
theorem qm9 (l : List Int) (n : Int) : ∀ k, M.putAt l n k ≤ k
 | 0 => Nat.le_refl _
 | k + 1 => by
  unfold M.putAt
  split
  ·have := qm9 l n k; omega
  ·exact Nat.le_refl _
theorem qmy {σ : Type} {A : (σ → Prop) → Prop} {B : σ → Prop} (v : σ) (h : B v) (hA : ∀ J : σ → Prop, J v → A J) : qeZ A B := hA B h
theorem wp.qcP.math (l : List Int) (n : Int) (h : M.qgQ l n) : wp.qcP l n (fun r => r = M.qcP l n) := by
 have hl : l.length ≤ 17179869183 := h
 have hle := qm9 l n l.length
 have wd : ∀ k : Nat, 0 < k → k ≤ l.length → wrap .i64 ((k : Int) - 1) = ((k - 1 : Nat) : Int) := fun k h0 hk => by rw [w64 (by omega) (by omega)]; omega
 refine qmy (((M.putAt l n l.length : Nat) : Int), ()) ?_ fun J hJ => ?_
 ·generalize hq : M.putAt l n l.length = q at *
  have hd : ((q : Int)).toNat = q := by simp
  have tail : ¬ (q > 0 ∧ rd l ((q : Int) - 1) = n) → (0 ≤ (q : Int) ∧ (q : Int) ≤ (l.length : Int)) ∧ (([] : List Int).length + (List.take ((q : Int).toNat) l).length ≤ 17179869184) ∧ ((([] : List Int) ++ List.take ((q : Int).toNat) l).length + ([n] : List Int).length ≤ 17179869184) ∧ (0 ≤ (q : Int) ∧ (q : Int) ≤ (l.length : Int)) ∧ (((([] : List Int) ++ List.take ((q : Int).toNat) l) ++ [n]).length + (List.drop ((q : Int).toNat) l).length ≤ 17179869184) ∧ ((([] : List Int) ++ List.take ((q : Int).toNat) l) ++ [n]) ++ List.drop ((q : Int).toNat) l = M.qcP l n := by
   intro hn
   rw [hd]
   refine ⟨by omega, by simp; omega, by simp; omega, by omega, by simp; omega, ?_⟩
   simp only [M.qcP, hq]
   rw [if_neg hn]; simp
  show qeZ (σ := Unit) _ _
  refine qa3 (fun e => ⟨?_, qa3 (fun e2 => ?_) fun e2 => ?_⟩) fun e => ?_
  ·have e : q > 0 := by simp at e; omega
   rw [wd q e hle]; omega
  ·have e : q > 0 := by simp at e; omega
   rw [wd q e hle] at e2
   have e2 : rd l ((q : Int) - 1) = n := by rw [show (q : Int) - 1 = ((q - 1 : Nat) : Int) by omega]; simpa using e2
   simp only [M.qcP, hq]
   rw [if_pos ⟨e, e2⟩]
  ·have e : q > 0 := by simp at e; omega
   rw [wd q e hle] at e2
   refine tail fun hh => ?_
   rw [show (q : Int) - 1 = ((q - 1 : Nat) : Int) by omega] at hh
   have := hh.2
   simp [this] at e2
  ·have e : ¬ q > 0 := by simp at e; omega
   exact tail fun hh => e hh.1
 ·refine ⟨fun m z => ∃ k : Nat, z = ((k : Int), ()) ∧ m = k ∧ k ≤ l.length ∧ M.putAt l n k = M.putAt l n l.length, ⟨l.length, l.length, rfl, rfl, Nat.le_refl _, rfl⟩, ?_⟩
  rintro k z ⟨_, rfl, rfl, hk, hput⟩
  refine qa3 (fun e => ⟨?_, qa3 (fun e2 => ?_) fun e2 => ?_⟩) fun e => ?_
  ·have e : k > 0 := by simp at e; omega
   rw [wd k e hk]; omega
  ·have e : k > 0 := by simp at e; omega
   rw [wd k e hk] at e2 ⊢
   refine ⟨k - 1, by omega, k - 1, rfl, rfl, by omega, ?_⟩
   rw [← hput]
   obtain ⟨j, rfl⟩ : ∃ j, k = j + 1 := ⟨k - 1, by omega⟩
   rw [M.putAt, if_pos (by simpa using e2)]; rfl
  ·have e : k > 0 := by simp at e; omega
   rw [wd k e hk] at e2
   obtain ⟨j, rfl⟩ : ∃ j, k = j + 1 := ⟨k - 1, by omega⟩
   rw [M.putAt, if_neg (by simpa using e2)] at hput
   rw [← hput] at hJ; exact hJ
  ·have e : k = 0 := by simp at e; omega
   subst e
   rw [← hput] at hJ; exact hJ
theorem qoa (a b : Int) : M.qcP [a] b = M.qhm a b := by
 unfold M.qcP M.qhm
 have hq : M.putAt [a] b 1 = if a > b then 0 else 1 := by
  unfold M.putAt
  have : rd [a] ((0 : Nat) : Int) = a := rfl
  rw [this]
  split <;> rfl
 have h1l : ([a] : List Int).length = 1 := rfl
 by_cases h1 : b < a
 ·have hq' : M.putAt [a] b ([a] : List Int).length = 0 := by rw [h1l, hq, if_pos h1]
  rw [hq', if_pos h1, if_neg (by omega)]; simp
 ·have hq' : M.putAt [a] b ([a] : List Int).length = 1 := by rw [h1l, hq, if_neg h1]
  rw [hq', if_neg h1]
  have : rd [a] (((1 : Nat) : Int) - 1) = a := rfl
  rw [this]
  by_cases h2 : b = a
  ·rw [if_pos h2, if_pos ⟨by omega, h2.symm⟩]
  ·rw [if_neg h2, if_neg (fun h => h2 h.2.symm)]; simp
theorem wp.qci.math (p : List D.Ins) (k : Int) (h : M.qfa p k) : wp.qci p k (fun r => r = M.qci p k) := by
 obtain ⟨hp, h0, h1⟩ := h
 have h32 := qhc hp
 have hw : wrap .i64 (k + 1) = k + 1 := w64 (by omega) (by omega)
 unfold wp.qci
 rw [hw]
 refine qa3 (fun e => ?_) fun e => ?_
 ·have e : k = p.length := by simpa using e
  simp [M.qci, M.qer, e]
 have e : ¬ k = p.length := by simpa using e
 refine ⟨by omega, qa3 (fun e1 => ?_) fun e1 => qa3 (fun e2 => ⟨by omega, ?_⟩) fun e2 => qa3 (fun e3 => ⟨by omega, by show (1 : Nat) ≤ 17179869183; omega, fun r hr => ?_⟩) fun e3 => ?_⟩
 all_goals simp only [M.qci, M.qer]
 all_goals rw [if_neg e]
 ·rw [if_pos (by simpa using e1)]
 ·rw [if_neg (by simpa using e1), if_pos (by simpa using e2)]
 ·rw [if_neg (by simpa using e1), if_neg (by simpa using e2), if_pos (by simpa using e3), hr, qoa]
 ·rw [if_neg (by simpa using e1), if_neg (by simpa using e2), if_neg (by simpa using e3)]
theorem qgH {k : Int} {rest : List Int} : rd (k :: rest) 0 = k ∧ List.drop ((1 : Int).toNat) (k :: rest) = rest ∧ (0 ≤ (0 : Int) ∧ (0 : Int) < ((k :: rest).length : Int)) ∧ (0 ≤ (1 : Int) ∧ (1 : Int) ≤ ((k :: rest).length : Int)) ∧ decide (((k :: rest).length : Int) > 0) = true := by
 refine ⟨rfl, rfl, by simp only [List.length_cons]; omega, by simp only [List.length_cons]; omega, ?_⟩
 simp only [List.length_cons, decide_eq_true_eq]; omega
theorem qlC {p : List D.Ins} (hp : M.qaW p = true) : List.replicate ((wrap .i64 ((p.length : Int) + 1)).toNat) (default : Bool) = List.replicate (p.length + 1) false := by
 rw [qjM (qgG hp)]; rfl
theorem qfw {p : List D.Ins} {k : Int} {seen : List Bool} (h : M.Node p k) (hl : seen.length = p.length + 1) : 0 ≤ k ∧ k < (seen.length : Int) := by
 obtain ⟨_, h0, h1⟩ := h
 omega
theorem wp.qcG.math (p : List D.Ins) (l : List Int) (h : M.qfP p l) : wp.qcG p l (fun r => r = M.qcG p l) := by
 have hp := h.1
 have h32 := qhc hp
 have h4 := h.2.2
 unfold wp.qcG
 rw [qlC hp, qjM (qgG hp)]
 refine ⟨by omega, by simp; omega, ?_⟩
 rw [List.nil_append]
 refine qky (wo := -1) (I := fun _ => True) h (qhE _) trivial (R := M.qcG p l) rfl (by rw [qgX]; omega) (fun k rest seen next hk hl _ hc hn => ?_) (fun k rest seen next hk hl _ h1 h2 _ h5 hn => ?_) fun next _ => qaC rfl rfl
 ·obtain ⟨f1, f2, f3, f4, f5⟩ := qgH (k := k) (rest := rest)
  refine qaE f5 ⟨f3, f4, ?_⟩
  rw [f1, f2]
  have hk1 : ¬ k = -1 := by have := hk.2.1; omega
  exact ⟨qfw hk hl, qaE (hc.resolve_left hk1) hn⟩
 ·obtain ⟨f1, f2, f3, f4, f5⟩ := qgH (k := k) (rest := rest)
  refine qaE f5 ⟨f3, f4, ?_⟩
  rw [f1, f2]
  refine ⟨qfw hk hl, qaC h2 ⟨qfw hk hl, hk, fun r hr => ?_⟩⟩
  have hr' : r = M.qer p k := hr
  rw [hr']
  exact ⟨h5, hn trivial⟩
theorem qm5 {p : List D.Ins} {k : Int} (h : M.Node p k) : M.Starts p [k] := ⟨h.1, fun x hx => by obtain rfl := List.mem_singleton.1 hx; exact h.2, by simp⟩
theorem qeU {p : List D.Ins} {k : Int} : M.qeW p k = true ↔ M.Node p k := by
 simp only [M.qeW, M.Node, M.qe2, Bool.and_eq_true, M.isIn, decide_eq_true_eq]
theorem wp.qaH.math (p : List D.Ins) (k : Int) (h : M.qdT p k) : wp.qaH p k (fun r => r = M.qaH p k) := by
 refine ⟨h, fun r hr => qa3 (fun e => ?_) fun e => ?_⟩
 all_goals have hr' : r = M.qeW p k := hr
 ·have hN := qeU.1 (hr'.symm.trans e)
  refine ⟨qm5 hN, fun r2 hr2 => ⟨?_, ?_⟩⟩
  ·rw [hr2]; show _ ∧ _ < ((M.reached p [k] (-1)).length : Int); rw [qjt]; omega
  ·rw [hr2]; simp only [M.qaH, ← hr', e, Bool.true_and]; rfl
 ·simp [M.qaH, ← hr', e]
theorem wp.qcF.math (p : List D.Ins) (k later : Int) (h : M.qeV p k later) : wp.qcF p k later (fun r => r = M.qcF p k later) := by
 have hp := h.1
 have h32 := qhc hp
 have hs := qm5 h
 have hn : M.qe2 p (p.length : Int) := ⟨by omega, by omega⟩
 refine qa3 (fun e => ?_) fun e => ?_
 ·have e : k = later := by simpa using e
  show true = M.qdx p k later
  have : rd (M.reached p [k] later) (p.length : Int) = false := by
   refine Bool.eq_false_iff.2 fun hr => ?_
   have hr := (qeG hp hs.2.1 hn).1 hr
   have none : ∀ x, ¬ Rch p later [k] x := by
    intro x hx
    induction hx with
    | base h1 h2 => obtain rfl := List.mem_singleton.1 h1; exact h2 e
    | step _ _ _ ih => exact ih
   exact none _ hr
  unfold M.qdx; rw [this]; rfl
 rw [qlC hp, qjM (qgG hp)]
 refine ⟨by omega, ?_⟩
 refine qky (wo := later) (I := fun seen => rd seen (p.length : Int) = false) hs (qhE _) (qkl _ _) (R := M.reached p [k] later) rfl (by rw [qgX]; simp) (fun j rest seen next hk hl _ hc hn => ?_) (fun j rest seen next hk hl hI h1 h2 h3 h5 hn => ?_) fun next hI => qaC rfl ?_
 ·obtain ⟨f1, f2, f3, f4, f5⟩ := qgH (k := j) (rest := rest)
  refine qaE f5 ⟨f3, f4, ?_⟩
  rw [f1, f2]
  refine ⟨qfw hk hl, qa3 (fun _ => hn) fun e1 => qaE ?_ hn⟩
  rcases hc with hc | hc
  ·simpa using hc
  ·rw [hc] at e1; cases e1
 ·obtain ⟨f1, f2, f3, f4, f5⟩ := qgH (k := j) (rest := rest)
  refine qaE f5 ⟨f3, f4, ?_⟩
  rw [f1, f2]
  refine ⟨qfw hk hl, qaC h2 (qaC (by simpa using h1) (qa3 (fun e1 => ?_) fun e1 => ⟨qfw hk hl, hk, fun r hr => ?_⟩))⟩
  ·have e1 : j = (p.length : Int) := by simpa using e1
   show false = M.qdx p k later
   unfold M.qdx
   rw [← e1, h3]; rfl
  ·have e1 : ¬ j = (p.length : Int) := by simpa using e1
   have hr' : r = M.qer p j := hr
   rw [hr']
   refine ⟨h5, hn ?_⟩
   have hj := hk.2
   unfold M.qe2 at hj
   rw [qiw hj.1 (by omega) (by omega), if_neg (fun e => e1 e.symm)]
   exact hI
 ·show true = M.qdx p k later
  unfold M.qdx; rw [hI]; rfl
theorem wp.qco.math (p : List D.Ins) (k : Int) (h : M.qg7 p k) : wp.qco p k (fun r => r = M.qco p k) := by
 refine ⟨h, fun r hr => qa3 (fun e => ?_) fun e => ?_⟩
 ·have := nt e (show r = (M.qeW p k && M.qff p k) from hr)
  simp [M.qco, M.qcs, this]
 ·have he := nf e (show r = (M.qeW p k && M.qff p k) from hr)
  have hN : M.Node p k := qeU.1 (by simp only [Bool.and_eq_true] at he; exact he.1)
  have h32 := qhc hN.1
  have hM : M.qco p k = M.idx (M.qdx p k) (p.length + 1) := by simp only [M.qco, M.qcs, he, if_true]
  rw [hM]
  refine qko (fun j xs next hj hxs hle h1 h2 => ?_) fun next => qaC (by simp; omega) rfl
  refine qaE (by simp; omega) ⟨hN, fun r2 hr2 => qa3 (fun e2 => ⟨by simp; omega, ?_⟩) fun e2 => ?_⟩
  ·rw [up64 (n := p.length + 1) hj (by omega)]; exact h1 ((show r2 = M.qdx p k (j : Int) from hr2).symm.trans e2)
  ·rw [up64 (n := p.length + 1) hj (by omega)]; exact h2 ((show r2 = M.qdx p k (j : Int) from hr2).symm.trans e2)
theorem qlG (p : List D.Ins) (all l : List Int) (k : Nat) (hk : k < l.length) : M.qh7 p all (l.drop k) = if all.all (M.qdx p (rd l (k : Int))) then rd l (k : Int) else M.qh7 p all (l.drop (k + 1)) := by
 rw [List.drop_eq_getElem_cons hk, qdU hk]; rfl
theorem wp.qdd.math (p : List D.Ins) (l : List Int) (h : M.qg2 p l) : wp.qdd p l (fun r => r = M.qdd p l) := by
 obtain ⟨h1, h2⟩ := h
 have hl : l.length ≤ 17179869183 := h1
 refine qd9 l.length (fun k => ((k : Int), ())) (fun k => M.qh7 p l l = M.qh7 p l (l.drop k)) rfl rfl (fun k hk hF next hn => ?_) fun hF next => qaC (by simp) ?_
 ·rw [qlG p l l k hk] at hF
  refine qaE (by simp; omega) ?_
  have hN := h2 _ (qgg hk)
  refine qd9 l.length (fun j => ((l.take j).all (M.qdx p (rd l (k : Int))), (j : Int), ())) (fun _ => True) rfl trivial (fun j hj _ next2 hn2 => ?_) fun _ next2 => ?_
  ·have hn2 := hn2 trivial
   have ht : (l.take (j + 1)).all (M.qdx p (rd l (k : Int))) = ((l.take j).all (M.qdx p (rd l (k : Int))) && M.qdx p (rd l (k : Int)) (rd l (j : Int))) := by
    rw [List.take_add_one, List.getElem?_eq_getElem hj, qdU hj, List.all_append]; simp
   rw [ht] at hn2
   refine qaE (by simp; omega) (qa3 (fun e => ⟨by omega, by omega, hN, fun r hr => ?_⟩) fun e => ?_)
   ·rw [e, Bool.true_and] at hn2
    rw [hr, up64 hj (by omega)]; exact hn2
   ·rw [e, Bool.false_and] at hn2
    rw [up64 hj (by omega)]; exact hn2
  ·refine qaC (by simp) ?_
   rw [List.take_length]
   refine qa3 (fun e => ⟨by omega, ?_⟩) fun e => ?_
   ·rw [if_pos e] at hF; exact hF.symm
   ·rw [if_neg (by rw [e]; simp)] at hF
    rw [up64 hk (by omega)]; exact hn hF
 ·rw [List.drop_length] at hF; exact hF.symm
theorem qgh {p : List D.Ins} {k x : Int} (h : x ∈ M.others (M.qcs p k) k) : M.Node p x ∧ M.Node p k ∧ M.qff p k = true ∧ M.qdx p k x = true := by
 have h := (List.mem_filter.1 h).1
 unfold M.qcs at h
 split at h
 ·rename_i e
  simp only [Bool.and_eq_true] at e
  have hN := qeU.1 e.1
  obtain ⟨j, hj, rfl, hg⟩ := qj7.1 h
  exact ⟨⟨hN.1, by omega, by omega⟩, hN, e.2, hg⟩
 ·exact absurd h List.not_mem_nil
theorem qiq (p : List D.Ins) (k : Int) : (M.qcs p k).length ≤ p.length + 1 := by
 unfold M.qcs
 split
 ·exact qkk _ _
 ·simp
theorem ql1 {p : List D.Ins} (hp : M.qfB p) (k : Int) : M.Nodes p (M.others (M.qcs p k) k) := by
 have h1 := qiq p k
 have h2 := List.length_filter_le (fun x => x != k) (M.qcs p k)
 unfold M.qfB at hp
 refine ⟨?_, fun x hx => (qgh hx).1⟩
 show (M.others (M.qcs p k) k).length ≤ 17179869183
 unfold M.others; omega
theorem wp.qc7.math (p : List D.Ins) (k : Int) (h : M.qfe p k) : wp.qc7 p k (fun r => r = M.qc7 p k) := by
 have h1 := qiq p k
 have hs : p.length ≤ 2097152 := h
 refine ⟨h, fun r hr => ⟨?_, fun r2 hr2 => ⟨?_, fun r3 hr3 => ?_⟩⟩⟩
 ·rw [hr]; show (M.qcs p k).length ≤ 17179869183; omega
 ·rw [hr2, hr]; exact ql1 h k
 ·rw [hr3, hr2, hr]; rfl
theorem qo1 {p : List D.Ins} {b : Int} (h : M.Branch p b) : M.Node p (b + 1) ∧ M.Node p (rd p b).B ∧ M.Node p b ∧ b + 1 < 9223372036854775807 := by
 obtain ⟨hp, h0, h1, hb⟩ := h
 have h32 := qhc hp
 simp only [M.isBr, Bool.and_eq_true, beq_iff_eq] at hb
 have ht := qh5 (qnV hp h0 h1) (.inl hb.1)
 exact ⟨⟨hp, by omega, by omega⟩, ⟨hp, ht⟩, ⟨hp, by omega, by omega⟩, by omega⟩
theorem wp.qcB.math (p : List D.Ins) (b : Int) (h : M.qgq p b) : wp.qcB p b (fun r => r = M.qcB p b) := by
 obtain ⟨n1, n2, n3, n4⟩ := qo1 h
 have hs := qgG h.1
 have hw : wrap .i64 (b + 1) = b + 1 := w64 (by have := h.2.1; omega) (by omega)
 have hb := h.2
 unfold wp.qcB
 rw [hw]
 have m1 : M.qaH p (b + 1) = M.qff p (b + 1) := by simp [M.qaH, qeU.2 n1]
 have m2 : M.qaH p (rd p b).B = M.qff p (rd p b).B := by simp [M.qaH, qeU.2 n2]
 refine ⟨hs, fun r hr => qa3 (fun e => ?_) fun e => ⟨⟨hb.1, hb.2.1⟩, hs, fun r2 hr2 => qa3 (fun e2 => ?_) fun e2 => ⟨hs, fun r3 hr3 => ?_⟩⟩⟩
 all_goals rw [m1] at hr
 ·simp [M.qcB, M.qgY, nt e hr]
 ·rw [m2] at hr2
  simp [M.qcB, M.qgY, nt e2 hr2]
 ·rw [m2] at hr2
  rw [hr3]; simp [M.qcB, M.qgY, nf e hr, nf e2 hr2, M.qc7]
theorem qn9 {p : List D.Ins} {b : Int} (h : M.has (M.branches p) b = true) : M.Branch p b := by
 simp only [M.has, List.any_eq_true, beq_iff_eq] at h
 obtain ⟨x, hx, rfl⟩ := h
 unfold M.branches at hx
 split at hx
 ·rename_i hp
  obtain ⟨j, hj, rfl, hg⟩ := qj7.1 hx
  exact ⟨hp, by omega, by omega, hg⟩
 ·exact absurd hx List.not_mem_nil
theorem qkW (p : List D.Ins) : (M.branches p).length ≤ p.length := by
 unfold M.branches
 split
 ·exact qkk _ _
 ·simp
end Go.V
namespace Go.V
open IntKind (wrap)
def wp.cmp_isNaN_int (x0 : Int) (Q : Bool → Prop) : Prop :=
 Q (x0 != x0)
def wp.cmp_Less_int (x0 : Int) (x1 : Int) (Q : Bool → Prop) : Prop :=
 (∀ r21, r21 = M.cmp_isNaN_int x0 → qa1 r21 ((∀ r26, r26 = M.cmp_isNaN_int x1 → qa1 (!r26) (Q true) (Q (decide (x0 < x1))))) (Q (decide (x0 < x1))))
def wp.qat (xs0 : List Int) (x1 : Int) (x2 : Int) (Q : ((List Int)) → Prop) : Prop :=
 qd7 (σ := Int × (List Int) × Unit) (fun (p299 : Int × (List Int) × Unit) next126 => match p299 with | (i120, xs121, _) => qa1 (decide (i120 < x2)) (qd7 (σ := Int × (List Int) × Unit) (fun (p294 : Int × (List Int) × Unit) next204 => match p294 with | (i198, xs199, _) => qeZ (σ := Unit) (fun J206 => qa1 (decide (i198 > x1)) (((0 ≤ i198 ∧ i198 < (xs199.length : Int)) ∧ ((0 ≤ (wrap .i64 (i198 - 1)) ∧ (wrap .i64 (i198 - 1)) < (xs199.length : Int)) ∧ (((∀ r219, r219 = M.cmp_Less_int (rd xs199 i198) (rd xs199 (wrap .i64 (i198 - 1))) → qa1 r219 (J206 (())) (next126 ((wrap .i64 (i120 + 1)), xs199, ())))) ∧ ((∀ r228, r228 = M.cmp_Less_int (rd xs199 i198) (rd xs199 (wrap .i64 (i198 - 1))) → qa1 r228 (J206 (())) (next126 ((wrap .i64 (i120 + 1)), xs199, ())))) ∧ True)))) (((next126 ((wrap .i64 (i120 + 1)), xs199, ())) ∧ (next126 ((wrap .i64 (i120 + 1)), xs199, ())) ∧ True))) (fun (p292 : Unit) => match p292 with | (_) => ((0 ≤ (wrap .i64 (i198 - 1)) ∧ (wrap .i64 (i198 - 1)) < (xs199.length : Int)) ∧ ((0 ≤ i198 ∧ i198 < (xs199.length : Int)) ∧ ((((0 ≤ i198 ∧ i198 < (xs199.length : Int)) ∧ ((0 ≤ (wrap .i64 (i198 - 1)) ∧ (wrap .i64 (i198 - 1)) < ((List.set xs199 (i198.toNat) (rd xs199 (wrap .i64 (i198 - 1)))).length : Int)) ∧ next204 ((wrap .i64 (i198 - 1)), (List.set (List.set xs199 (i198.toNat) (rd xs199 (wrap .i64 (i198 - 1)))) ((wrap .i64 (i198 - 1)).toNat) (rd xs199 i198)), ())))) ∧ (((0 ≤ i198 ∧ i198 < (xs199.length : Int)) ∧ ((0 ≤ (wrap .i64 (i198 - 1)) ∧ (wrap .i64 (i198 - 1)) < ((List.set xs199 (i198.toNat) (rd xs199 (wrap .i64 (i198 - 1)))).length : Int)) ∧ next204 ((wrap .i64 (i198 - 1)), (List.set (List.set xs199 (i198.toNat) (rd xs199 (wrap .i64 (i198 - 1)))) ((wrap .i64 (i198 - 1)).toNat) (rd xs199 i198)), ())))) ∧ True))))) (i120, xs121, ())) (Q xs121)) ((wrap .i64 (x1 + 1)), xs0, ())
def wp.qca (x0 : Int) (Q : Int → Prop) : Prop :=
 qeZ (σ := Int × Int × Unit) (fun J23 => qa1 (decide (x0 ≥ 4294967296)) (J23 ((Int.fdiv x0 (2 ^ (min ((32 : Int).toNat) (IntKind.bits .u64)))), 32, ())) (J23 (x0, 0, ()))) (fun (p51 : Int × Int × Unit) => match p51 with | (i21, i22, _) => qeZ (σ := Int × Int × Unit) (fun J30 => qa1 (decide (i21 ≥ 65536)) (J30 ((Int.fdiv i21 (2 ^ (min ((16 : Int).toNat) (IntKind.bits .u64)))), (wrap .i64 (i22 + 16)), ())) (J30 (i21, i22, ()))) (fun (p49 : Int × Int × Unit) => match p49 with | (i28, i29, _) => qeZ (σ := Int × Int × Unit) (fun J37 => qa1 (decide (i28 ≥ 256)) (J37 ((Int.fdiv i28 (2 ^ (min ((8 : Int).toNat) (IntKind.bits .u64)))), (wrap .i64 (i29 + 8)), ())) (J37 (i28, i29, ()))) (fun (p47 : Int × Int × Unit) => match p47 with | (i35, i36, _) => ((0 ≤ IntKind.wrap .u8 i35 ∧ IntKind.wrap .u8 i35 < ((ByteArray.size (⟨#[0, 1, 2, 2, 3, 3, 3, 3, 4, 4, 4, 4, 4, 4, 4, 4, 5, 5, 5, 5, 5, 5, 5, 5, 5, 5, 5, 5, 5, 5, 5, 5, 6, 6, 6, 6, 6, 6, 6, 6, 6, 6, 6, 6, 6, 6, 6, 6, 6, 6, 6, 6, 6, 6, 6, 6, 6, 6, 6, 6, 6, 6, 6, 6, 7, 7, 7, 7, 7, 7, 7, 7, 7, 7, 7, 7, 7, 7, 7, 7, 7, 7, 7, 7, 7, 7, 7, 7, 7, 7, 7, 7, 7, 7, 7, 7, 7, 7, 7, 7, 7, 7, 7, 7, 7, 7, 7, 7, 7, 7, 7, 7, 7, 7, 7, 7, 7, 7, 7, 7, 7, 7, 7, 7, 7, 7, 7, 7, 8, 8, 8, 8, 8, 8, 8, 8, 8, 8, 8, 8, 8, 8, 8, 8, 8, 8, 8, 8, 8, 8, 8, 8, 8, 8, 8, 8, 8, 8, 8, 8, 8, 8, 8, 8, 8, 8, 8, 8, 8, 8, 8, 8, 8, 8, 8, 8, 8, 8, 8, 8, 8, 8, 8, 8, 8, 8, 8, 8, 8, 8, 8, 8, 8, 8, 8, 8, 8, 8, 8, 8, 8, 8, 8, 8, 8, 8, 8, 8, 8, 8, 8, 8, 8, 8, 8, 8, 8, 8, 8, 8, 8, 8, 8, 8, 8, 8, 8, 8, 8, 8, 8, 8, 8, 8, 8, 8, 8, 8, 8, 8, 8, 8, 8, 8, 8, 8, 8, 8, 8, 8, 8, 8, 8, 8, 8, 8]⟩) : Nat) : Int)) ∧ Q (wrap .i64 (i36 + (wrap .i64 (bt (⟨#[0, 1, 2, 2, 3, 3, 3, 3, 4, 4, 4, 4, 4, 4, 4, 4, 5, 5, 5, 5, 5, 5, 5, 5, 5, 5, 5, 5, 5, 5, 5, 5, 6, 6, 6, 6, 6, 6, 6, 6, 6, 6, 6, 6, 6, 6, 6, 6, 6, 6, 6, 6, 6, 6, 6, 6, 6, 6, 6, 6, 6, 6, 6, 6, 7, 7, 7, 7, 7, 7, 7, 7, 7, 7, 7, 7, 7, 7, 7, 7, 7, 7, 7, 7, 7, 7, 7, 7, 7, 7, 7, 7, 7, 7, 7, 7, 7, 7, 7, 7, 7, 7, 7, 7, 7, 7, 7, 7, 7, 7, 7, 7, 7, 7, 7, 7, 7, 7, 7, 7, 7, 7, 7, 7, 7, 7, 7, 7, 8, 8, 8, 8, 8, 8, 8, 8, 8, 8, 8, 8, 8, 8, 8, 8, 8, 8, 8, 8, 8, 8, 8, 8, 8, 8, 8, 8, 8, 8, 8, 8, 8, 8, 8, 8, 8, 8, 8, 8, 8, 8, 8, 8, 8, 8, 8, 8, 8, 8, 8, 8, 8, 8, 8, 8, 8, 8, 8, 8, 8, 8, 8, 8, 8, 8, 8, 8, 8, 8, 8, 8, 8, 8, 8, 8, 8, 8, 8, 8, 8, 8, 8, 8, 8, 8, 8, 8, 8, 8, 8, 8, 8, 8, 8, 8, 8, 8, 8, 8, 8, 8, 8, 8, 8, 8, 8, 8, 8, 8, 8, 8, 8, 8, 8, 8, 8, 8, 8, 8, 8, 8, 8, 8, 8, 8, 8, 8]⟩) (IntKind.wrap .u8 i35)))))))))
def wp.qdb (x0 : Int) (Q : Int → Prop) : Prop :=
 (M.qfo x0 ∧ ∀ r21, r21 = M.qca x0 → Q r21)
def wp.qaL (xs0 : List Int) (x1 : Int) (x2 : Int) (x3 : Int) (Q : ((List Int)) → Prop) : Prop :=
 qd7 (σ := Int × Int × Int × Bool × Bool × Unit) (fun (p44 : Int × Int × Int × Bool × Bool × Unit) next29 => match p44 with | (i21, i22, i23, b24, b25, _) => qa1 (decide ((wrap .i64 (i22 - i21)) ≤ 12)) ((M.qdh xs0 i21 i22 ∧ ∀ r31, r31 = M.qat xs0 i21 i22 → Q r31)) (qa1 (i23 == 0) (False) (False))) (x1, x2, x3, true, true, ())
def wp.qaR (xs0 : List Int) (Q : ((List Int)) → Prop) : Prop :=
 (M.qfR (IntKind.wrap .u64 (xs0.length : Int)) ∧ ∀ r21, r21 = M.qdb (IntKind.wrap .u64 (xs0.length : Int)) → (M.qdP xs0 0 (xs0.length : Int) r21 ∧ ∀ r26, r26 = M.qaL xs0 0 (xs0.length : Int) r21 → Q r26))
def wp.qay (xs0 : List Int) (Q : (List Int) → Prop) : Prop :=
 qa1 (decide ((xs0.length : Int) < 2)) (Q xs0) (qd7 (σ := Int × Unit) (fun (p64 : Int × Unit) next25 => match p64 with | (i21, _) => qa1 (decide (i21 < (xs0.length : Int))) (((0 ≤ i21 ∧ i21 < (xs0.length : Int)) ∧ ((0 ≤ (wrap .i64 (i21 - 1)) ∧ (wrap .i64 (i21 - 1)) < (xs0.length : Int)) ∧ qa1 ((rd xs0 i21) == (rd xs0 (wrap .i64 (i21 - 1)))) (((0 ≤ i21 ∧ i21 ≤ (xs0.length : Int)) ∧ qd7 (σ := Int × Int × Unit) (fun (p55 : Int × Int × Unit) next45 => match p55 with | (i40, i41, _) => qa1 (decide (i41 < (((List.drop (i21.toNat) xs0)).length : Int))) (False) (((0 ≤ i40 ∧ i40 ≤ (xs0.length : Int)) ∧ ((0 ≤ i40 ∧ i40 ≤ ((List.take (i40.toNat) xs0 ++ List.replicate (xs0.length - (i40.toNat)) default).length : Int)) ∧ Q (List.take (i40.toNat) (List.take (i40.toNat) xs0 ++ List.replicate (xs0.length - (i40.toNat)) default)))))) (i21, 1, ()))) (next25 ((wrap .i64 (i21 + 1)), ()))))) (Q xs0)) (1, ()))
def wp.qdr (xs0 : List D.Ins) (x1 : Int) (Q : (List Int) → Prop) : Prop :=
 qa1 (x1 == (xs0.length : Int)) (Q ([] : List Int)) (((0 ≤ x1 ∧ x1 < (xs0.length : Int)) ∧ qa1 ((rd xs0 x1).Op == 12) (Q ([(xs0.length : Int)] : List Int)) (qa1 ((rd xs0 x1).Op == 11) (Q ([(rd xs0 x1).B] : List Int)) (qa1 ((rd xs0 x1).Op == 10) ((M.qew ([(rd xs0 x1).B, (wrap .i64 (x1 + 1))] : List Int) ∧ ∀ r42, r42 = M.qaR ([(rd xs0 x1).B, (wrap .i64 (x1 + 1))] : List Int) → (M.qea r42 ∧ ∀ r48, r48 = M.qay r42 → Q r48))) (Q ([(wrap .i64 (x1 + 1))] : List Int))))))
def wp.qbC (xs0 : List D.Ins) (Q : (List Int) → Prop) : Prop :=
 (M.qee xs0 ∧ ∀ r21, r21 = M.qbe xs0 → qa1 (!r21) (Q ([] : List Int)) (qd7 (σ := (List Int) × Int × Unit) (fun (p61 : (List Int) × Int × Unit) next36 => match p61 with | (xs29, i32, _) => qa1 (decide (i32 < (xs0.length : Int))) ((M.qfH xs0 i32 ∧ ∀ r38, r38 = M.qdr xs0 i32 → qa1 ((r38.length : Int) == 2) (((xs29.length + ([i32] : List Int).length ≤ 17179869184) ∧ next36 ((xs29 ++ ([i32] : List Int)), (wrap .i64 (i32 + 1)), ()))) (next36 (xs29, (wrap .i64 (i32 + 1)), ())))) (Q xs29)) (([] : List Int), 0, ())))
def wp.qdc (xs0 : List D.Ins) (x1 : Int) (Q : Bool → Prop) : Prop :=
 (M.qfj xs0 ∧ ∀ r21, r21 = M.qbC xs0 → (M.qe4 r21 x1 ∧ ∀ r28, r28 = M.qaU r21 x1 → Q r28))
def wp.qcx (xs0 : List D.Ins) (xs1 : List Int) (x2 : Int) (Q : (List Bool) → Prop) : Prop :=
 ((0 ≤ (wrap .i64 ((xs0.length : Int) + 1)) ∧ (wrap .i64 ((xs0.length : Int) + 1)) ≤ 17179869184) ∧ (M.qaP xs1 ∧ ∀ r26, r26 = M.qao xs1 → qd7 (σ := (List Int) × (List Bool) × Unit) (fun (p133 : (List Int) × (List Bool) × Unit) next87 => match p133 with | (xs79, xs82, _) => qa1 (decide ((xs79.length : Int) > 0)) (((0 ≤ (0 : Int) ∧ (0 : Int) < (xs79.length : Int)) ∧ ((0 ≤ (1 : Int) ∧ (1 : Int) ≤ (xs79.length : Int)) ∧ qa1 ((rd xs79 0) == x2) (next87 ((List.drop ((1 : Int).toNat) xs79), xs82, ())) (((0 ≤ (rd xs79 0) ∧ (rd xs79 0) < (xs82.length : Int)) ∧ qa1 (rd xs82 (rd xs79 0)) (next87 ((List.drop ((1 : Int).toNat) xs79), xs82, ())) (((0 ≤ (rd xs79 0) ∧ (rd xs79 0) < (xs82.length : Int)) ∧ (M.qfH xs0 (rd xs79 0) ∧ ∀ r115, r115 = M.qdr xs0 (rd xs79 0) → (((List.drop ((1 : Int).toNat) xs79).length + r115.length ≤ 17179869184) ∧ next87 (((List.drop ((1 : Int).toNat) xs79) ++ r115), (List.set xs82 ((rd xs79 0).toNat) true), ())))))))))) (Q xs82)) (r26, (List.replicate ((wrap .i64 ((xs0.length : Int) + 1)).toNat) (default : Bool)), ())))
def wp.qbA (xs0 : List D.Ins) (x1 : Int) (Q : Bool → Prop) : Prop :=
 (M.qfc xs0 ([x1] : List Int) (-1) ∧ ∀ r24, r24 = M.qcx xs0 ([x1] : List Int) (-1) → ((0 ≤ (xs0.length : Int) ∧ (xs0.length : Int) < (r24.length : Int)) ∧ Q (rd r24 (xs0.length : Int))))
def wp.qd1 (xs0 : List D.Ins) (x1 : Int) (Q : Bool → Prop) : Prop :=
 (M.qee xs0 ∧ ∀ r21, r21 = M.qbe xs0 → qa1 r21 ((∀ r26, r26 = M.qar x1 0 (xs0.length : Int) → Q r26)) (Q false))
def wp.qcl (xs0 : List D.Ins) (x1 : Int) (x2 : Int) (Q : Bool → Prop) : Prop :=
 (M.qek xs0 x1 ∧ ∀ r21, r21 = M.qbA xs0 x1 → qa1 r21 ((M.qfc xs0 ([x1] : List Int) x2 ∧ ∀ r29, r29 = M.qcx xs0 ([x1] : List Int) x2 → ((0 ≤ (xs0.length : Int) ∧ (xs0.length : Int) < (r29.length : Int)) ∧ Q (!(rd r29 (xs0.length : Int)))))) (Q false))
def wp.qbF (xs0 : List D.Ins) (x1 : Int) (x2 : Int) (Q : Bool → Prop) : Prop :=
 (M.qfE xs0 x1 ∧ ∀ r21, r21 = M.qd1 xs0 x1 → qa1 r21 ((M.qfE xs0 x2 ∧ ∀ r26, r26 = M.qd1 xs0 x2 → qa1 r26 ((M.qf9 xs0 x1 x2 ∧ ∀ r31, r31 = M.qcl xs0 x1 x2 → Q r31)) (Q false))) (Q false))
def wp.qbS (xs0 : List D.Ins) (x1 : Int) (Q : (List Int) → Prop) : Prop :=
 qd7 (σ := (List Int) × Int × Unit) (fun (p54 : (List Int) × Int × Unit) next31 => match p54 with | (xs24, i27, _) => qa1 (decide (i27 < (wrap .i64 ((xs0.length : Int) + 1)))) ((M.qgk xs0 x1 i27 ∧ ∀ r33, r33 = M.qbF xs0 x1 i27 → qa1 r33 (((xs24.length + ([i27] : List Int).length ≤ 17179869184) ∧ next31 ((xs24 ++ ([i27] : List Int)), (wrap .i64 (i27 + 1)), ()))) (next31 (xs24, (wrap .i64 (i27 + 1)), ())))) (Q xs24)) (([] : List Int), 0, ())
def wp.qby (x0 : Int) (x1 : Int) (Q : Bool → Prop) : Prop :=
 Q (x0 == x1)
def wp.qaw (xs0 : List Int) (g1 : Int → Bool) (D1 : Int → Prop) (Q : (List Int) → Prop) : Prop :=
 (M.qdm xs0 g1 D1 ∧ ∀ r21, r21 = M.qam xs0 g1 → qa1 (r21 == (-1)) (Q xs0) (qd7 (σ := Int × Int × (List Int) × Unit) (fun (p92 : Int × Int × (List Int) × Unit) next58 => match p92 with | (i51, i52, xs53, _) => qa1 (decide (i52 < (xs0.length : Int))) (((0 ≤ i52 ∧ i52 < (xs53.length : Int)) ∧ (D1 (rd xs53 i52) ∧ ∀ r65, r65 = g1 (rd xs53 i52) → qa1 (!r65) (((0 ≤ i51 ∧ i51 < (xs53.length : Int)) ∧ next58 ((wrap .i64 (i51 + 1)), (wrap .i64 (i52 + 1)), (List.set xs53 (i51.toNat) (rd xs53 i52)), ()))) (next58 (i51, (wrap .i64 (i52 + 1)), xs53, ()))))) (((0 ≤ i51 ∧ i51 ≤ (xs53.length : Int)) ∧ ((0 ≤ i51 ∧ i51 ≤ ((List.take (i51.toNat) xs53 ++ List.replicate (xs53.length - (i51.toNat)) default).length : Int)) ∧ Q (List.take (i51.toNat) (List.take (i51.toNat) xs53 ++ List.replicate (xs53.length - (i51.toNat)) default)))))) (r21, (wrap .i64 (r21 + 1)), xs0, ())))
def wp.qcf (x0 : Int) (xs1 : List D.Ins) (x2 : Int) (Q : Bool → Prop) : Prop :=
 (M.qf9 xs1 x2 x0 ∧ ∀ r21, r21 = M.qcl xs1 x2 x0 → Q (!r21))
def wp.qdv (xs0 : List D.Ins) (xs1 : List Int) (Q : Int → Prop) : Prop :=
 qd7 (σ := Int × Unit) (fun (p48 : Int × Unit) next27 => match p48 with | (i23, _) => qa1 (decide (i23 < (xs1.length : Int))) (((0 ≤ i23 ∧ i23 < (xs1.length : Int)) ∧ (M.qcU xs1 (fun z0_ => M.qcf z0_ xs0 (rd xs1 i23)) (fun z0_ => M.qfD z0_ xs0 (rd xs1 i23)) ∧ ∀ r38, r38 = M.qak xs1 (fun z0_ => M.qcf z0_ xs0 (rd xs1 i23)) → qa1 (!r38) (Q (rd xs1 i23)) (next27 ((wrap .i64 (i23 + 1)), ()))))) (Q (-1))) (0, ())
def wp.qc8 (xs0 : List D.Ins) (x1 : Int) (Q : Int → Prop) : Prop :=
 (M.qg8 xs0 x1 ∧ ∀ r23, r23 = M.qbS xs0 x1 → (M.qdN r23 (fun z0_ => M.qby z0_ x1) (fun z0_ => M.qeM z0_ x1) ∧ ∀ r30, r30 = M.qaw r23 (fun z0_ => M.qby z0_ x1) → (M.qgn xs0 r30 ∧ ∀ r37, r37 = M.qdv xs0 r30 → Q r37)))
def wp.qde (xs0 : List D.Ins) (x1 : Int) (Q : Int → Prop) : Prop :=
 (M.qfO xs0 x1 ∧ ∀ r21, r21 = M.qdc xs0 x1 → qa1 (!r21) (Q (-1)) ((M.qfH xs0 x1 ∧ ∀ r26, r26 = M.qdr xs0 x1 → qd7 (σ := Int × Unit) (fun (p59 : Int × Unit) next37 => match p59 with | (i33, _) => qa1 (decide (i33 < (r26.length : Int))) (((0 ≤ i33 ∧ i33 < (r26.length : Int)) ∧ (M.qek xs0 (rd r26 i33) ∧ ∀ r44, r44 = M.qbA xs0 (rd r26 i33) → qa1 (!r44) (Q (xs0.length : Int)) (next37 ((wrap .i64 (i33 + 1)), ()))))) ((M.qfm xs0 x1 ∧ ∀ r53, r53 = M.qc8 xs0 x1 → Q r53))) (0, ()))))
end Go.V
namespace Go.V
open IntKind (wrap)
theorem wp.cmp_isNaN_int.math (x : Int) : wp.cmp_isNaN_int x (fun r => r = M.cmp_isNaN_int x) := by simp [wp.cmp_isNaN_int, M.cmp_isNaN_int]
theorem wp.cmp_Less_int.math (x y : Int) : wp.cmp_Less_int x y (fun r => r = M.cmp_Less_int x y) := by
 intro r hr
 have : r = false := hr
 subst this
 exact qaC rfl rfl
theorem wp.qat.math (l : List Int) (a b : Int) (h : M.qdh l a b) : wp.qat l a b (fun r => r = M.qat l a b) := by
 obtain ⟨hl, rfl, rfl⟩ := h
 match l, hl with
 | [x, y], _ =>
 have w0 : wrap .i64 ((0 : Int) + 1) = 1 := by decide +kernel
 have w1 : wrap .i64 ((1 : Int) + 1) = 2 := by decide +kernel
 have w2 : wrap .i64 ((1 : Int) - 1) = 0 := by decide +kernel
 unfold wp.qat
 rw [w0]
 have r1 : rd [x, y] 1 = y := rfl
 have r0 : rd [x, y] 0 = x := rfl
 -- the outer loop: one round
 refine ⟨fun m z => (m = 1 ∧ z = (1, [x, y], ())) ∨ (m = 0 ∧ z = (2, M.qiD [x, y], ())), ⟨1, .inl ⟨rfl, rfl⟩⟩, ?_⟩
 rintro m z (⟨rfl, rfl⟩ | ⟨rfl, rfl⟩)
 ·refine qaE rfl ?_
  refine ⟨fun m z => (m = 1 ∧ z = (1, [x, y], ())) ∨ (m = 0 ∧ z = (0, M.qiD [x, y], ())), ⟨1, .inl ⟨rfl, rfl⟩⟩, ?_⟩
  rintro m z (⟨rfl, rfl⟩ | ⟨rfl, rfl⟩)
  ·unfold qeZ
   have i1 : (0 ≤ (1 : Int) ∧ (1 : Int) < (([x, y] : List Int).length : Int)) := by simp
   have i0 : (0 ≤ (0 : Int) ∧ (0 : Int) < (([x, y] : List Int).length : Int)) := by simp
   by_cases hc : y < x
   ·have hs : M.qiD [x, y] = [y, x] := by simp [M.qiD, r1, r0, hc]
    have e1 : List.set (List.set [x, y] ((1 : Int).toNat) x) ((0 : Int).toNat) y = [y, x] := rfl
    have e2 : List.set (List.set [x, y] ((0 : Int).toNat) y) ((1 : Int).toNat) x = [y, x] := rfl
    have hd : (decide (y < x)) = true := decide_eq_true hc
    refine qaE rfl ?_
    simp only [w2, r1, r0, M.cmp_Less_int, forall_eq, hd, e1, e2, hs]
    have j1 : ∀ v, (0 ≤ (1 : Int) ∧ (1 : Int) < ((List.set [x, y] ((0 : Int).toNat) v).length : Int)) := fun v => by simp
    have j0 : ∀ v, (0 ≤ (0 : Int) ∧ (0 : Int) < ((List.set [x, y] ((1 : Int).toNat) v).length : Int)) := fun v => by simp
    simp only [i1, i0, j1, j0, true_and, and_true, and_self, qa1]
    exact ⟨0, by omega, .inr rfl⟩
   ·have hs : M.qiD [x, y] = [x, y] := by simp [M.qiD, r1, r0, hc]
    have hd : (decide (y < x)) = false := decide_eq_false hc
    refine qaE rfl ?_
    simp only [w2, w1, r1, r0, M.cmp_Less_int, forall_eq, hd, hs]
    simp only [i1, i0, true_and, and_true, and_self, qa1]
    exact ⟨0, by omega, .inr rfl⟩
  ·unfold qeZ
   refine qaC rfl ?_
   rw [w1]
   have hn : ∃ m', m' < 1 ∧ ((m' = 1 ∧ ((2 : Int), M.qiD [x, y], ()) = (1, [x, y], ())) ∨ (m' = 0 ∧ ((2 : Int), M.qiD [x, y], ()) = (2, M.qiD [x, y], ()))) := ⟨0, by omega, .inr ⟨rfl, rfl⟩⟩
   exact ⟨hn, hn, trivial⟩
 ·exact qaC rfl rfl
set_option maxRecDepth 100000 in
theorem wp.qca.math (x : Int) (h : M.qfo x) : wp.qca x (fun r => r = M.qca x) := by
 have h : x = 2 := h
 subst h
 unfold wp.qca
 unfold qeZ
 refine qaC rfl (qaC rfl (qaC rfl ⟨?_, ?_⟩))
 ·have : IntKind.wrap .u8 2 = 2 := by decide +kernel
  rw [this]
  exact ⟨by omega, by decide +kernel⟩
 ·show _ = (2 : Int)
  decide +kernel
theorem wp.qdb.math (x : Int) (h : M.qfR x) : wp.qdb x (fun r => r = M.qdb x) := ⟨h, fun r hr => by rw [hr]; rfl⟩
theorem wp.qaL.math (l : List Int) (a b c : Int) (h : M.qdP l a b c) : wp.qaL l a b c (fun r => r = M.qaL l a b c) := by
 obtain ⟨hl, rfl, rfl⟩ := h
 refine qd9 0 (fun _ => (0, 2, c, true, true, ())) (fun _ => True) rfl trivial (fun k hk _ _ _ => absurd hk (by omega)) fun _ next => ?_
 exact qaE (by decide +kernel) ⟨⟨hl, rfl, rfl⟩, fun r hr => by rw [hr]; rfl⟩
theorem wp.qaR.math (l : List Int) (h : M.qew l) : wp.qaR l (fun r => r = M.qaR l) := by
 have hl : l.length = 2 := h
 unfold wp.qaR
 have e : (l.length : Int) = 2 := by omega
 rw [e]
 refine ⟨by show IntKind.wrap .u64 2 = 2; decide +kernel, fun r hr => ⟨⟨hl, rfl, rfl⟩, fun r2 hr2 => by rw [hr2]; rfl⟩⟩
theorem wp.qay.math (l : List Int) (h : M.qea l) : wp.qay l (fun r => r = M.qay l) := by
 match l, h with
 | [x, y], _ =>
 have w2 : wrap .i64 ((1 : Int) - 1) = 0 := by decide +kernel
 have w1 : wrap .i64 ((1 : Int) + 1) = 2 := by decide +kernel
 have r1 : rd [x, y] 1 = y := rfl
 have r0 : rd [x, y] 0 = x := rfl
 refine qaC rfl ?_
 by_cases hc : y = x
 ·have hM : M.qay [x, y] = [x] := by unfold M.qay; rw [r1, r0, if_pos hc]; rfl
  rw [hM]
  refine qd9 0 (fun _ => (1, ())) (fun _ => True) rfl trivial (fun k hk _ _ _ => absurd hk (by omega)) fun _ next => ?_
  refine qaE rfl ⟨by simp, by rw [w2]; simp, ?_⟩
  rw [w2, r1, r0]
  refine qaE (by simpa using hc) ⟨by simp, ?_⟩
  refine qd9 0 (fun _ => (1, 1, ())) (fun _ => True) rfl trivial (fun k hk _ _ _ => absurd hk (by omega)) fun _ next => ?_
  exact qaC rfl ⟨by simp, by simp, rfl⟩
 ·have hM : M.qay [x, y] = [x, y] := by unfold M.qay; rw [r1, r0, if_neg hc]
  rw [hM]
  refine qd9 1 (fun k => ((k : Int) + 1, ())) (fun _ => True) rfl trivial (fun k hk _ next hn => ?_) fun _ next => qaC rfl rfl
  have hk0 : k = 0 := by omega
  subst hk0
  have hn := hn trivial
  refine qaE rfl ⟨by simp, ?_, ?_⟩
  ·show 0 ≤ wrap .i64 ((1 : Int) - 1) ∧ wrap .i64 ((1 : Int) - 1) < (([x, y] : List Int).length : Int)
   rw [w2]; simp
  ·show qa1 (rd [x, y] 1 == rd [x, y] (wrap .i64 ((1 : Int) - 1))) _ _
   rw [w2, r1, r0]
   refine qaC (by simpa using hc) ?_
   show next (wrap .i64 ((1 : Int) + 1), ())
   rw [w1]; exact hn
theorem ql4 (a b : Int) : M.qay (M.qaR [a, b]) = M.qhm b a ∧ (M.qaR [a, b]).length = 2 := by
 have r1 : rd [a, b] 1 = b := rfl
 have r0 : rd [a, b] 0 = a := rfl
 have s1 : rd [b, a] 1 = a := rfl
 have s0 : rd [b, a] 0 = b := rfl
 simp only [M.qay, M.qaR, M.qiD, M.qhm, r1, r0]
 by_cases h1 : b < a
 ·rw [if_pos h1, s1, s0, if_neg (by omega), if_neg (by omega), if_neg (by omega)]
  exact ⟨rfl, rfl⟩
 ·rw [if_neg h1, r1, r0]
  by_cases h2 : b = a
  ·rw [if_pos h2, if_neg (by omega), if_pos h2.symm]; exact ⟨by rw [h2]; rfl, rfl⟩
  ·rw [if_neg h2, if_pos (by omega)]; exact ⟨rfl, rfl⟩
theorem wp.qdr.math (p : List D.Ins) (k : Int) (h : M.qfH p k) : wp.qdr p k (fun r => r = M.qdr p k) := by
 obtain ⟨hp, h0, h1⟩ := h
 have h32 := qhc hp
 have hw : wrap .i64 (k + 1) = k + 1 := w64 (by omega) (by omega)
 unfold wp.qdr
 rw [hw]
 refine qa3 (fun e => ?_) fun e => ?_
 ·have e : k = p.length := by simpa using e
  simp [M.qdr, M.qer, e]
 have e : ¬ k = p.length := by simpa using e
 refine ⟨by omega, qa3 (fun e1 => ?_) fun e1 => qa3 (fun e2 => ?_) fun e2 => qa3 (fun e3 => ⟨rfl, fun r hr => ?_⟩) fun e3 => ?_⟩
 all_goals simp only [M.qdr, M.qer]
 all_goals rw [if_neg e]
 ·rw [if_pos (by simpa using e1)]
 ·rw [if_neg (by simpa using e1), if_pos (by simpa using e2)]
 ·rw [if_neg (by simpa using e1), if_neg (by simpa using e2), if_pos (by simpa using e3)]
  have hsc := ql4 (rd p k).B (k + 1)
  subst hr
  exact ⟨hsc.2, fun r2 hr2 => by rw [hr2]; exact hsc.1⟩
 ·rw [if_neg (by simpa using e1), if_neg (by simpa using e2), if_neg (by simpa using e3)]
theorem qnw {p : List D.Ins} (hp : M.qaW p = true) {k : Nat} (hk : k < p.length) : (((M.qer p (k : Int)).length : Int) == 2) = M.isBr p (k : Int) := by
 have hne : ¬ (k : Int) = p.length := by omega
 unfold M.qer M.isBr
 rw [if_neg hne]
 by_cases h12 : (rd p (k : Int)).Op = 12
 ·rw [if_pos h12, h12]; rfl
 rw [if_neg h12]
 by_cases h11 : (rd p (k : Int)).Op = 11
 ·rw [if_pos h11, h11]; rfl
 rw [if_neg h11]
 by_cases h10 : (rd p (k : Int)).Op = 10
 ·rw [if_pos h10, h10]
  unfold M.qhm
  by_cases h1 : (rd p (k : Int)).B < (k : Int) + 1
  ·rw [if_pos h1]
   have : ((rd p (k : Int)).B != (k : Int) + 1) = true := by simp; omega
   rw [this]; rfl
  rw [if_neg h1]
  by_cases h2 : (rd p (k : Int)).B = (k : Int) + 1
  ·rw [if_pos h2]
   have : ((rd p (k : Int)).B != (k : Int) + 1) = false := by simp [h2]
   rw [this]; rfl
  ·rw [if_neg h2]
   have : ((rd p (k : Int)).B != (k : Int) + 1) = true := by simpa using h2
   rw [this]; rfl
 ·rw [if_neg h10]
  have : ((rd p (k : Int)).Op == 10) = false := by simpa using h10
  rw [this]; rfl
theorem wp.qbC.math (p : List D.Ins) (h : M.qfj p) : wp.qbC p (fun r => r = M.qbC p) := by
 have hs : p.length ≤ 2097152 := h
 refine ⟨qhQ h, fun r hr => qa3 (fun e => ?_) fun e => ?_⟩
 ·have := nt e (show r = M.qaW p from hr)
  simp [M.qbC, M.branches, this]
 have hp := nf e (show r = M.qaW p from hr)
 have hM : M.qbC p = M.idx (M.isBr p) p.length := by simp [M.qbC, M.branches, hp]
 rw [hM]
 refine qko (fun k xs next hk hxs hle h1 h2 => ?_) fun next => qaC (by simp) rfl
 refine qaE (by simp; omega) ⟨⟨hp, by omega, by omega⟩, fun r2 hr2 => ?_⟩
 have hr2' : r2 = M.qer p (k : Int) := hr2
 rw [hr2', qnw hp hk, up64 hk (by omega)]
 exact qa3 (fun e2 => ⟨by simp; omega, h1 e2⟩) fun e2 => h2 e2
theorem wp.qdc.math (p : List D.Ins) (b : Int) (h : M.qfO p b) : wp.qdc p b (fun r => r = M.qdc p b) := by
 have hs : p.length ≤ 2097152 := h
 have hbl := qkW p
 exact ⟨h, fun r hr => ⟨by rw [hr]; show (M.branches p).length ≤ 9223372036854775807; omega, fun r2 hr2 => by rw [hr2, hr]; rfl⟩⟩
theorem wp.qcx.math (p : List D.Ins) (l : List Int) (wo : Int) (h : M.qfc p l wo) : wp.qcx p l wo (fun r => r = M.qcx p l wo) := by
 have hp := h.1
 have h32 := qhc hp
 have h4 := h.2.2
 unfold wp.qcx
 rw [qlC hp, qjM (qgG hp)]
 refine ⟨by omega, by show l.length ≤ 17179869184; omega, fun r hr => ?_⟩
 have hr' : r = l := hr
 subst hr'
 refine qky (wo := wo) (I := fun _ => True) h (qhE _) trivial (R := M.qcx p r wo) rfl (by rw [qgX]; omega) (fun k rest seen next hk hl _ hc hn => ?_) (fun k rest seen next hk hl _ h1 h2 _ h5 hn => ?_) fun next _ => qaC rfl rfl
 ·obtain ⟨f1, f2, f3, f4, f5⟩ := qgH (k := k) (rest := rest)
  refine qaE f5 ⟨f3, f4, ?_⟩
  rw [f1, f2]
  refine qa3 (fun _ => hn) fun e1 => ⟨qfw hk hl, qaE (hc.resolve_left (by simpa using e1)) hn⟩
 ·obtain ⟨f1, f2, f3, f4, f5⟩ := qgH (k := k) (rest := rest)
  refine qaE f5 ⟨f3, f4, ?_⟩
  rw [f1, f2]
  refine qaC (by simpa using h1) ⟨qfw hk hl, qaC h2 ⟨qfw hk hl, hk, fun r hr => ?_⟩⟩
  have hr' : r = M.qer p k := hr
  rw [hr']
  exact ⟨h5, hn trivial⟩
theorem qmH (p : List D.Ins) (l : List Int) (wo : Int) : (0 ≤ (p.length : Int) ∧ (p.length : Int) < ((M.reached p l wo).length : Int)) := by rw [qjt]; omega
theorem wp.qbA.math (p : List D.Ins) (k : Int) (h : M.qek p k) : wp.qbA p k (fun r => r = M.qbA p k) :=
 ⟨qm5 h, fun r hr => by rw [hr]; exact ⟨qmH _ _ _, rfl⟩⟩
theorem wp.qd1.math (p : List D.Ins) (k : Int) (h : M.qfE p k) : wp.qd1 p k (fun r => r = M.qd1 p k) := by
 refine ⟨qhQ h, fun r hr => qa3 (fun e r2 hr2 => ?_) fun e => ?_⟩
 all_goals have hr' : r = M.qaW p := hr
 ·rw [hr2]; simp [M.qd1, M.qeW, ← hr', e, M.qar]
 ·simp [M.qd1, M.qeW, ← hr', e]
theorem wp.qcl.math (p : List D.Ins) (k later : Int) (h : M.qf9 p k later) : wp.qcl p k later (fun r => r = M.qcl p k later) := by
 refine ⟨h, fun r hr => qa3 (fun e => ⟨qm5 h, fun r2 hr2 => ?_⟩) fun e => ?_⟩
 all_goals have hr' : r = M.qff p k := hr
 ·rw [hr2]
  refine ⟨qmH _ _ _, ?_⟩
  simp only [M.qcl, ← hr', e, Bool.true_and]; rfl
 ·simp [M.qcl, ← hr', e]
theorem wp.qbF.math (p : List D.Ins) (k later : Int) (h : M.qgk p k later) : wp.qbF p k later (fun r => r = M.qbF p k later) := by
 refine ⟨h, fun r hr => qa3 (fun e => ⟨h, fun r2 hr2 => qa3 (fun e2 => ?_) fun e2 => ?_⟩) fun e => ?_⟩
 all_goals have hr' : r = M.qeW p k := hr
 ·have hr2' : r2 = M.qeW p later := hr2
  refine ⟨qeU.1 (hr'.symm.trans e), fun r3 hr3 => ?_⟩
  rw [hr3]; simp [M.qbF, ← hr', e, ← hr2', e2, M.qcl]
 ·have hr2' : r2 = M.qeW p later := hr2
  simp [M.qbF, ← hr2', e2]
 ·simp [M.qbF, ← hr', e]
theorem wp.qbS.math (p : List D.Ins) (k : Int) (h : M.qg8 p k) : wp.qbS p k (fun r => r = M.qbS p k) := by
 have hs : p.length ≤ 2097152 := h
 unfold wp.qbS
 rw [qjM h]
 by_cases hc : (M.qeW p k && M.qff p k) = true
 ·have hN : M.Node p k := qeU.1 (by simp only [Bool.and_eq_true] at hc; exact hc.1)
  have hM : M.qbS p k = M.idx (M.qdx p k) (p.length + 1) := by simp only [M.qbS, M.qcs, hc, if_true]
  rw [hM]
  refine qko (fun j xs next hj hxs hle h1 h2 => ?_) fun next => qaC (by simp) rfl
  have hj2 : M.qeW p (j : Int) = true := qeU.2 ⟨hN.1, by omega, by omega⟩
  simp only [Bool.and_eq_true] at hc
  have hv : M.qbF p k (j : Int) = M.qdx p k (j : Int) := by simp only [M.qbF, hc.1, hc.2, hj2, Bool.true_and]
  refine qaE (by simp; omega) ⟨h, fun r2 hr2 => ?_⟩
  rw [hr2, hv, up64 (n := p.length + 1) hj (by omega)]
  exact qa3 (fun e2 => ⟨by simp; omega, h1 e2⟩) fun e2 => h2 e2
 ·have hc : (M.qeW p k && M.qff p k) = false := by simpa using hc
  have hM : M.qbS p k = [] := by simp only [M.qbS, M.qcs, hc]; rfl
  rw [hM]
  refine qd9 (p.length + 1) (fun j => ([], (j : Int), ())) (fun _ => True) rfl trivial (fun j hj _ next hn => ?_) fun _ next => qaC (by simp) rfl
  have hv : M.qbF p k (j : Int) = false := by
   cases h1 : M.qeW p k with
   | false => simp [M.qbF, h1]
   | true =>
    rw [h1, Bool.true_and] at hc
    simp [M.qbF, hc]
  refine qaE (by simp; omega) ⟨h, fun r2 hr2 => ?_⟩
  rw [hr2, hv, up64 (n := p.length + 1) hj (by omega)]
  exact qaC rfl (hn trivial)
theorem wp.qby.math (x k : Int) (h : M.qeM x k) : wp.qby x k (fun r => r = M.qby x k) := rfl
theorem qiR (g : Int → Bool) : ∀ (l : List Int) (i : Nat), (M.qe9 g l i = -1 ∧ l.all (fun x => !g x) = true) ∨ ∃ k : Nat, k < l.length ∧ M.qe9 g l i = ((i + k : Nat) : Int) ∧ (l.take k).all (fun x => !g x) = true ∧ g (rd l (k : Int)) = true
 | [], i => .inl ⟨rfl, rfl⟩
 | x :: l, i => by
  unfold M.qe9
  by_cases hx : g x = true
  ·rw [if_pos hx]
   exact .inr ⟨0, by simp, by simp, by simp, hx⟩
  ·rw [if_neg hx]
   rcases qiR g l (i + 1) with ⟨h1, h2⟩ | ⟨k, hk, h1, h2, h3⟩
   ·exact .inl ⟨h1, by simp [hx]; simpa using h2⟩
   ·refine .inr ⟨k + 1, by simp; omega, by rw [h1]; congr 1; omega, ?_, ?_⟩
    ·rw [List.take_succ_cons, List.all_cons, h2]; simp [hx]
    ·rw [qdU (by simp; omega)]; rw [qdU hk] at h3; exact h3
theorem qjJ {l : List Int} {g : Int → Bool} (h : l.all g = true) : l.filter g = l := List.filter_eq_self.2 (List.all_eq_true.1 h)
theorem wp.qaw.math (l : List Int) (g : Int → Bool) (D : Int → Prop) (h : M.qdN l g D) : wp.qaw l g D (fun r => r = M.qaw l g) := by
 obtain ⟨hl, hD⟩ := h
 have hl' : l.length ≤ 9223372036854775807 := hl
 refine ⟨⟨hl, hD⟩, fun r hr => ?_⟩
 have hr' : r = M.qe9 g l 0 := hr
 rcases qiR g l 0 with ⟨h1, h2⟩ | ⟨k, hk, h1, h2, h3⟩
 ·rw [hr', h1]
  exact qaE rfl (by show l = l.filter _; exact (qjJ h2).symm)
 rw [hr', h1, Nat.zero_add]
 refine qaC (by simp) ?_
 rw [up64 hk hl']
 let G : Nat → List Int := fun j => (l.take j).filter fun x => !g x
 have hG : ∀ j, j < l.length → G (j + 1) = if (!g (rd l (j : Int))) = true then G j ++ [rd l (j : Int)] else G j := fun j hj => qj8 hj
 have hGl : ∀ j, j ≤ l.length → (G j).length ≤ j := fun j hj => by
  have := List.length_filter_le (fun x => !g x) (l.take j)
  have h2 : (l.take j).length ≤ j := by simp; omega
  exact Nat.le_trans this h2
 have hGk : G (k + 1) = G k ∧ (G k).length = k := by
  refine ⟨by rw [hG k hk, if_neg (by rw [h3]; simp)], ?_⟩
  show ((l.take k).filter fun x => !g x).length = k
  rw [qjJ h2]; simp; omega
 refine ⟨fun m z => ∃ (j : Nat) (xs : List Int), z = (((G j).length : Int), (j : Int), xs, ()) ∧ m = l.length - j ∧ k < j ∧ j ≤ l.length ∧ (G j).length < j ∧ xs.length = l.length ∧ xs.take (G j).length = G j ∧ xs.drop j = l.drop j,
  ⟨_, k + 1, l, by rw [hGk.1, hGk.2], rfl, by omega, by omega, by rw [hGk.1, hGk.2]; omega, rfl, by rw [hGk.1]; rw [hGk.2]; exact (qjJ h2).symm, rfl⟩, ?_⟩
 rintro m z ⟨j, xs, rfl, rfl, hkj, hjl, hgj, hxl, hx1, hx2⟩
 have hget : j < l.length → rd xs (j : Int) = rd l (j : Int) := fun hj => by
  rw [qdU (by omega), qdU hj]
  have := congrArg (fun q => q[0]?) hx2
  simp only [List.getElem?_drop, Nat.add_zero] at this
  rw [List.getElem?_eq_getElem (by omega), List.getElem?_eq_getElem hj] at this
  exact Option.some.inj this
 by_cases hj : j < l.length
 ·refine qaE (by simp; omega) ⟨by omega, ?_⟩
  have hGj := hG j hj
  have hgl : (G j).length < xs.length := by omega
  have hd2 : (xs.set (G j).length (rd l (j : Int))).drop (j + 1) = l.drop (j + 1) := by
   rw [List.drop_set_of_lt (by omega)]
   have := congrArg (fun q => q.drop 1) hx2
   simpa [List.drop_drop, Nat.add_comm] using this
  have hd1 : xs.drop (j + 1) = l.drop (j + 1) := by
   have := congrArg (fun q => q.drop 1) hx2
   simpa [List.drop_drop, Nat.add_comm] using this
  show D (rd xs (j : Int)) ∧ _
  dsimp only
  rw [hget hj]
  refine ⟨hD _ (qgg hj), fun r2 hr2 => qa3 (fun e => ⟨⟨by omega, by omega⟩, ?_⟩) fun e => ?_⟩
  ·have e : (!g (rd l (j : Int))) = true := by rw [← hr2]; exact e
   rw [if_pos e] at hGj
   have hlen : (G (j + 1)).length = (G j).length + 1 := by rw [hGj]; simp
   refine ⟨l.length - (j + 1), by omega, j + 1, xs.set (G j).length (rd l (j : Int)), ?_, rfl, by omega, by omega, by omega, by simpa using hxl, ?_, hd2⟩
   ·rw [up64 (n := l.length) (k := (G j).length) (by omega) hl', up64 hj hl', hlen]; rfl
   ·rw [hlen, hGj, List.take_add_one, List.getElem?_set_self (by omega), List.take_set_of_le (Nat.le_refl _), hx1]; rfl
  ·have e : ¬ (!g (rd l (j : Int))) = true := by rw [← hr2, e]; simp
   rw [if_neg e] at hGj
   refine ⟨l.length - (j + 1), by omega, j + 1, xs, ?_, rfl, by omega, by omega, by rw [hGj]; omega, hxl, by rw [hGj]; exact hx1, hd1⟩
   rw [up64 hj hl', hGj]
 ·have hje : j = l.length := by omega
  have hGl : G l.length = l.filter fun x => !g x := by show (l.take l.length).filter _ = _; rw [List.take_length]
  refine qaC (by simp; omega) ⟨by omega, by simp; omega, ?_⟩
  show _ = l.filter _
  rw [← hGl, ← hje]
  have : (((G j).length : Int)).toNat = (G j).length := by simp
  rw [this, List.take_append_of_le_length (by simp; omega), List.take_take, Nat.min_self, hx1]
theorem wp.qcf.math (z : Int) (p : List D.Ins) (x : Int) (h : M.qfD z p x) : wp.qcf z p x (fun r => r = M.qcf z p x) := ⟨h, fun r hr => by rw [hr]; rfl⟩
theorem qly (p : List D.Ins) (all l : List Int) (k : Nat) (hk : k < l.length) : M.qiS p all (l.drop k) = if all.all (fun z => M.qff p (rd l (k : Int)) && M.qdx p (rd l (k : Int)) z) then rd l (k : Int) else M.qiS p all (l.drop (k + 1)) := by
 rw [List.drop_eq_getElem_cons hk, qdU hk]; rfl
theorem wp.qdv.math (p : List D.Ins) (l : List Int) (h : M.qgn p l) : wp.qdv p l (fun r => r = M.qdv p l) := by
 obtain ⟨h1, h2⟩ := h
 have hl : l.length ≤ 17179869183 := h1
 refine qd9 l.length (fun k => ((k : Int), ())) (fun k => M.qiS p l l = M.qiS p l (l.drop k)) rfl rfl (fun k hk hF next hn => ?_) fun hF next => qaC (by simp) ?_
 ·rw [qly p l l k hk] at hF
  have hN := h2 _ (qgg hk)
  refine qaE (by simp; omega) ⟨by omega, ⟨by show l.length ≤ 9223372036854775807; omega, fun z hz => hN⟩, fun r hr => ?_⟩
  have hr' : r = !(l.all fun z => M.qff p (rd l (k : Int)) && M.qdx p (rd l (k : Int)) z) := by
   rw [hr]
   simp only [M.qak, M.qcf]
   rw [List.all_eq_not_any_not, Bool.not_not]
  refine qa3 (fun e => ?_) fun e => ?_
  ·have e2 := nt e hr'
   rw [if_pos (by simpa using e2)] at hF; exact hF.symm
  ·have e2 := nf e hr'
   rw [if_neg (by simpa using e2)] at hF
   rw [up64 hk (by omega)]; exact hn hF
 ·rw [List.drop_length] at hF; exact hF.symm
theorem qk5 {p : List D.Ins} {all : List Int} : ∀ (l : List Int), (∀ x ∈ l, M.qff p x = true) → M.qiS p all l = M.qh7 p all l
 | [], _ => rfl
 | x :: l, h => by
  have hx := h x List.mem_cons_self
  unfold M.qiS M.qh7
  simp only [hx, Bool.true_and]
  rw [qk5 l fun y hy => h y (List.mem_cons_of_mem _ hy)]
theorem wp.qc8.math (p : List D.Ins) (k : Int) (h : M.qfm p k) : wp.qc8 p k (fun r => r = M.qc8 p k) := by
 have h1 := qiq p k
 have hs : p.length ≤ 2097152 := h
 refine ⟨h, fun r hr => ⟨⟨?_, fun _ _ => trivial⟩, fun r2 hr2 => ?_⟩⟩
 ·rw [hr]; show (M.qcs p k).length ≤ 9223372036854775807; omega
 have hr2' : r2 = M.others (M.qcs p k) k := by rw [hr2, hr]; rfl
 refine ⟨by rw [hr2']; exact ql1 h k, fun r3 hr3 => ?_⟩
 rw [hr3, hr2']
 exact qk5 _ fun x hx => by
  obtain ⟨a, b, c, d⟩ := qgh hx
  exact qlJ b a.2 c d
theorem wp.qde.math (p : List D.Ins) (b : Int) (h : M.qgL p b) : wp.qde p b (fun r => r = M.qde p b) := by
 refine ⟨h, fun r hr => qa3 (fun e => ?_) fun e => ?_⟩
 ·have := nt e (show r = M.has (M.branches p) b from hr)
  simp [M.qde, M.qln, this]
 have e := nf e (show r = M.has (M.branches p) b from hr)
 have hB := qn9 e
 obtain ⟨n1, n2, n3, n4⟩ := qo1 hB
 have hM : M.qde p b = M.qgY p b := by simp only [M.qde, M.qln, e, if_true]
 rw [hM]
 refine ⟨n3, fun r2 hr2 => ?_⟩
 have hnx : M.qer p b = M.qhm (b + 1) (rd p b).B := by
  have hb := hB.2.2.2
  simp only [M.isBr, Bool.and_eq_true, beq_iff_eq] at hb
  have := hB.2.2.1
  unfold M.qer
  rw [if_neg (by omega), if_neg (by omega), if_neg (by omega), if_pos hb.1]
 have hr2' : r2 = M.qhm (b + 1) (rd p b).B := by rw [hr2]; exact hnx
 have hlen := qk1 (b + 1) (rd p b).B
 rw [← hr2'] at hlen
 have hmem : ∀ x, x ∈ r2 ↔ x = b + 1 ∨ x = (rd p b).B := fun x => by rw [hr2']; exact qiA
 clear hr2 hr2' hnx
 have hall : r2.all (M.qff p) = (M.qff p (b + 1) && M.qff p (rd p b).B) := by
  rw [Bool.eq_iff_iff, List.all_eq_true, Bool.and_eq_true]
  constructor
  ·exact fun hh => ⟨hh _ ((hmem _).2 (.inl rfl)), hh _ ((hmem _).2 (.inr rfl))⟩
  ·rintro ⟨a1, a2⟩ x hx
   rcases (hmem x).1 hx with rfl | rfl
   ·exact a1
   ·exact a2
 have hnode : ∀ x ∈ r2, M.Node p x := fun x hx => by rcases (hmem x).1 hx with rfl | rfl; exact n1; exact n2
 refine qd9 r2.length (fun k => ((k : Int), ())) (fun k => (r2.take k).all (M.qff p) = true) rfl (by simp) (fun k hk hF next hn => ?_) fun hF next => ?_
 ·refine qaE (by simp; omega) ⟨by omega, hnode _ (qgg hk), fun r3 hr3 => qa3 (fun e3 => ?_) fun e3 => ?_⟩
  ·have e3 := nt e3 (show r3 = M.qff p (rd r2 (k : Int)) from hr3)
   have := all_false (g := M.qff p) hk e3
   rw [hall] at this
   show _ = M.qgY p b
   simp [M.qgY, this]
  ·have e3 := nf e3 (show r3 = M.qff p (rd r2 (k : Int)) from hr3)
   rw [up64 hk (by omega)]
   rw [qdU hk] at e3
   exact hn (qi9 hk hF e3)
 ·refine qaC (by simp) ⟨h, fun r3 hr3 => ?_⟩
  rw [List.take_length, hall] at hF
  rw [hr3]
  show _ = M.qgY p b
  simp [M.qgY, hF, M.qc8]
end Go.V
