import Derived.Test.YtkpfabigipedcaaGreatLoVBase
import Derived.Test.YtkpfabigipedcaaGreatLoVWords
import Derived.Test.YtkpfabigipedcaaGreatLoVOwn
import Derived.Test.YtkpfabigipedcaaGreatLoVLoop
import Derived.Test.YtkpfabigipedcaaGreatLoVDeep
import Derived.Test.YtkpfabigipedcaaGreatLoVEq
import Derived.Test.YtkpfabigipedcaaGreatLoVCut
import Derived.Test.YtkpfabigipedcaaGreatLoVPlc
import Derived.Test.YtkpfabigipedcaaGreatLoVMapD
import Derived.Test.YtkpfabigipedcaaGreatLoVMap
import Derived.Test.YtkpfabigipedcaaGreatLoVFoc
import Derived.Test.YtkpfabigipedcaaGreatLoPure2
set_option linter.unusedVariables false
set_option linter.unusedSimpArgs false
set_option maxRecDepth 20000
namespace Go.V.M
open IntKind (wrap)
def qdI (p : List D.Ins) (n : Int) : D.Warp := ⟨n, if p.length > 0 then [⟨0, p.length, 255⟩] else [], List.replicate 32 0⟩
def qod : D.Warp := ⟨0, [], []⟩
def qmm : D.Block := ⟨[], [], [], 0, 0⟩
def qcq (p : List D.Ins) (n : Int) : D.Warp × Bool := if qb6 p && isIn n 0 2 then (qdI p n, true) else (qod, false)
def qgt (p : List D.Ins) (n : Int) : Prop := Long p
def qew (p : List D.Ins) (c : Int) : D.Block := ⟨p, (List.range c.toNat).map fun k : Nat => qdI p (k : Int), List.replicate 32 0, 0, 0⟩
def qfk (p : List D.Ins) (c : Int) : D.Block × Bool := if qb6 p && isIn c 1 3 then (qew p c, true) else (qmm, false)
def qbw := qfk
def qg9 (p : List D.Ins) (c : Int) : Prop := Long p
def qao (l : List D.Ins) : List D.Ins := l
def qbR (l : List D.Ins) : Prop := l.length ≤ 17179869184
def qag (l : List D.Frame) : List D.Frame := l
def qbb (l : List D.Frame) : Prop := l.length ≤ 17179869184
def WFit (x : D.Warp) : Prop := x.Frames.length ≤ 17179869184 ∧ x.Regs.length ≤ 17179869184
def BFit (b : D.Block) : Prop := b.Code.length ≤ 17179869184 ∧ (b.Warps.length ≤ 17179869184 ∧ ∀ x ∈ b.Warps, WFit x) ∧ b.Memory.length ≤ 17179869184
def qcd (x : D.Warp) : D.Warp := x
def qeI (x : D.Warp) : Prop := WFit x
def qdq (b : D.Block) : D.Block := b
def qgp (b : D.Block) : Prop := BFit b
def qcO (x : D.Warp) : D.Warp := x
def qg6 (x : D.Warp) : Prop := WFit x
def qca (b : D.Block) : D.Block := b
def qeM (b : D.Block) : Prop := BFit b
end Go.V.M
namespace Go.V.M
open IntKind (wrap)
def qdO (x : D.Warp) (l : Int) : Prop := x.Regs.length = 32 ∧ 0 ≤ l ∧ l ≤ 7
def qb2 (x : D.Warp) : Int := if x.Frames.isEmpty then 0 else (qdb x.Frames).Mask
def qbL := qb2
def qec (x : D.Warp) : Prop := Long x.Frames
def qbf := qb2
def qcX (x : D.Warp) : Prop := Long x.Frames
def qjN (k : Int) : Int := wrap .i64 (1 * 2 ^ (min (k.toNat) (IntKind.bits .i64)))
def qeB (x : D.Warp) (reg : Int) (m : Int) (k : Int) : Int := if rd x.Regs (k * 4 + reg) = 0 then qh0 .i64 m (qjN k) else m
def qcA (x : D.Warp) (reg : Int) : Int := (qeG (qb2 x)).foldl (qeB x reg) 0
def qaR := qcA
def qdg (x : D.Warp) (reg : Int) : Prop := Long x.Frames ∧ x.Regs.length = 32 ∧ qgD reg = true
def qaU (x : D.Warp) (reg : Int) : Int := if qgD reg && x.Regs.length == 32 then qcA x reg else 0
def qe8 (x : D.Warp) (reg : Int) : Prop := Long x.Frames
def Runs (p : List D.Ins) (x : D.Warp) : Prop := qb6 p = true ∧ qfQ p x = true ∧ x.Frames ≠ []
def qdN (x : D.Warp) : Int := (qdb x.Frames).Pc
def qaO (p : List D.Ins) (x : D.Warp) : D.Ins := rd p (qdN x)
def splits (p : List D.Ins) (x : D.Warp) : Bool :=
 ((qaO p x).Op == 10 && (qaO p x).B != qdN x + 1) && (qcA x (qaO p x).A != 0 && qcA x (qaO p x).A != (qdb x.Frames).Mask)
def qbl := splits
def qeO (p : List D.Ins) (x : D.Warp) : Prop := Runs p x
def qb5 (x : D.Warp) (p : List D.Ins) : Bool := splits p x
def qep (x : D.Warp) (p : List D.Ins) : Prop := Runs p x
def qaP (p : List D.Ins) (x : D.Warp) : Bool := !x.Frames.isEmpty && (qcz (qaO p x) && (!splits p x || decide (x.Frames.length ≤ 22)))
def qfW (p : List D.Ins) (x : D.Warp) : Prop := qb6 p = true ∧ qfQ p x = true
def qhk (b : D.Block) (w : Int) : Bool :=
 let x := rd b.Warps w
 !x.Frames.isEmpty && (!waits b w && (if qcz (qaO b.Code x) then !splits b.Code x || decide (x.Frames.length ≤ 22) else (qaO b.Code x).Op != 16 || x.Frames.length == 1))
def qcH := qhk
def qgV (b : D.Block) (w : Int) : Prop := Has b w
def qaT := qhk
def qeK (b : D.Block) (w : Int) : Prop := Has b w
def qh1 (b : D.Block) (n f : Int) : Nat → Int → Int
 | 0, _ => -1
 | r + 1, k => if qhk b (Int.tmod (f + k) n) then Int.tmod (f + k) n else qh1 b n f r (k + 1)
def pick (b : D.Block) (q : Int) : Int := qh1 b b.Warps.length (Int.tmod q b.Warps.length) b.Warps.length 0
def Good (b : D.Block) : Prop := qlm b ∧ qdE b = true
def qdB := pick
def qgx (b : D.Block) (q : Int) : Prop := Good b ∧ 0 ≤ q ∧ q ≤ 9223372036854775807
def qbe := pick
def qe3 (b : D.Block) (q : Int) : Prop := Good b ∧ 0 ≤ q ∧ q ≤ 9223372036854775807
end Go.V.M
namespace Go.V.M
open IntKind (wrap)
def qfN (p : List D.Ins) : Prop := p.length ≤ 2097152
def qpp {α : Type} (l : List α) : Prop := l.length ≤ 17179869183
def idx (g : Int → Bool) : Nat → List Int
 | 0 => []
 | k + 1 => if g (k : Int) then idx g k ++ [(k : Int)] else idx g k
def isBr (p : List D.Ins) (k : Int) : Bool := (rd p k).Op == 10 && (rd p k).B != k + 1
def branches (p : List D.Ins) : List Int := if qb6 p then idx (isBr p) p.length else []
def others (l : List Int) (n : Int) : List Int := l.filter fun x => x != n
def has (l : List Int) (n : Int) : Bool := l.any fun y => n == y
def qe9 (p : List D.Ins) (k : Int) : Prop := 0 ≤ k ∧ k ≤ (p.length : Int)
def Node (p : List D.Ins) (k : Int) : Prop := qb6 p = true ∧ qe9 p k
def qf4 (p : List D.Ins) (k : Int) : Bool := qb6 p && isIn k 0 p.length
def qhs (a b : Int) : List Int := if b < a then [b, a] else if b = a then [a] else [a, b]
def qeu (p : List D.Ins) (k : Int) : List Int :=
 if k = p.length then [] else if (rd p k).Op = 12 then [(p.length : Int)] else if (rd p k).Op = 11 then [(rd p k).B] else if (rd p k).Op = 10 then qhs (k + 1) (rd p k).B else [k + 1]
def bfs (p : List D.Ins) (wo : Int) : Nat → List Int → List Bool → List Bool
 | 0, _, seen => seen
 | _ + 1, [], seen => seen
 | f + 1, k :: work, seen => if k = wo ∨ rd seen k = true then bfs p wo f work seen else bfs p wo f (work ++ qeu p k) (seen.set k.toNat true)
def reached (p : List D.Ins) (frm : List Int) (wo : Int) : List Bool := bfs p wo (3 * (p.length + 1) + frm.length) frm (List.replicate (p.length + 1) false)
def qfo (p : List D.Ins) (k : Int) : Bool := rd (reached p [k] (-1)) p.length
def qdF (p : List D.Ins) (k later : Int) : Bool := !rd (reached p [k] later) p.length
def qcB (p : List D.Ins) (k : Int) : List Int := if qf4 p k && qfo p k then idx (qdF p k) (p.length + 1) else []
def qhh (p : List D.Ins) (all : List Int) : List Int → Int
 | [] => -1
 | x :: l => if all.all (qdF p x) then x else qhh p all l
def qj2 (p : List D.Ins) (all : List Int) : List Int → Int
 | [] => -1
 | x :: l => if all.all (fun z => qfo p x && qdF p x z) then x else qj2 p all l
def qhR (p : List D.Ins) (k : Int) : Int := qhh p (others (qcB p k) k) (others (qcB p k) k)
def qh9 (p : List D.Ins) (b : Int) : Int := if qfo p (b + 1) && qfo p (rd p b).B then qhR p b else p.length
def qd3 := others
def qfC (l : List Int) (n : Int) : Prop := qpp l
def qdS := qf4
def qh8 (p : List D.Ins) (k : Int) : Prop := qfN p
def putAt (l : List Int) (n : Int) : Nat → Nat
 | 0 => 0
 | k + 1 => if rd l (k : Int) > n then putAt l n k else k + 1
def qbd (l : List Int) (n : Int) : List Int :=
 if putAt l n l.length > 0 ∧ rd l (((putAt l n l.length : Nat) : Int) - 1) = n then l else l.take (putAt l n l.length) ++ [n] ++ l.drop (putAt l n l.length)
def qgK (l : List Int) (n : Int) : Prop := qpp l
def qcp := qeu
def qfe (p : List D.Ins) (k : Int) : Prop := Node p k
def Starts (p : List D.Ins) (l : List Int) : Prop := qb6 p = true ∧ (∀ x ∈ l, qe9 p x) ∧ l.length ≤ 4
def qcP (p : List D.Ins) (l : List Int) : List Bool := reached p l (-1)
def qg2 (p : List D.Ins) (l : List Int) : Prop := Starts p l
def qaN (p : List D.Ins) (k : Int) : Bool := qf4 p k && qfo p k
def qe2 (p : List D.Ins) (k : Int) : Prop := qfN p
def qcN := qdF
def qeY (p : List D.Ins) (k later : Int) : Prop := Node p k
def qcw := qcB
def qg4 (p : List D.Ins) (k : Int) : Prop := qfN p
def Nodes (p : List D.Ins) (l : List Int) : Prop := qpp l ∧ ∀ x ∈ l, Node p x
def qdj (p : List D.Ins) (l : List Int) : Int := qhh p l l
def qfY (p : List D.Ins) (l : List Int) : Prop := Nodes p l
def qch := qhR
def qfp (p : List D.Ins) (k : Int) : Prop := qfN p
def Branch (p : List D.Ins) (b : Int) : Prop := qb6 p = true ∧ 0 ≤ b ∧ b < (p.length : Int) ∧ isBr p b = true
def qcD := qh9
def qgm (p : List D.Ins) (b : Int) : Prop := Branch p b
def cmp_isNaN_int (x : Int) : Bool := false
def cmp_Less_int (x y : Int) : Bool := decide (x < y)
def qiU (l : List Int) : List Int := if rd l 1 < rd l 0 then [rd l 1, rd l 0] else l
def qat (l : List Int) (a b : Int) : List Int := qiU l
def qdo (l : List Int) (a b : Int) : Prop := l.length = 2 ∧ a = 0 ∧ b = 2
def qbK (x : Int) : Int := if x ≤ 0 then 0 else if x ≤ 1 then 1 else if x ≤ 3 then 2 else if x ≤ 7 then 3 else 4
def qfv (x : Int) : Prop := 0 ≤ x ∧ x ≤ 12
def qcL (x : Int) : Int := qbK x
def qeZ (x : Int) : Prop := 0 ≤ x ∧ x ≤ 12
def qaQ (l : List Int) (a b c : Int) : List Int := qiU l
def qdV (l : List Int) (a b c : Int) : Prop := l.length = 2 ∧ a = 0 ∧ b = 2
def qaX (l : List Int) : List Int := qiU l
def qeF (l : List Int) : Prop := l.length = 2
def qaB (l : List Int) : List Int := if rd l 1 = rd l 0 then l.take 1 else l
def qei (l : List Int) : Prop := l.length = 2
def qdv := qeu
def qfL (p : List D.Ins) (k : Int) : Prop := Node p k
def qbM := branches
def qft (p : List D.Ins) : Prop := qfN p
def qdk (p : List D.Ins) (b : Int) : Bool := has (branches p) b
def qg8 (p : List D.Ins) (b : Int) : Prop := qfN p
def qcF := reached
def qfi (p : List D.Ins) (l : List Int) (wo : Int) : Prop := Starts p l
def qbG := qfo
def qeo (p : List D.Ins) (k : Int) : Prop := Node p k
def qdd := qf4
def qfF (p : List D.Ins) (k : Int) : Prop := qfN p
def qcr (p : List D.Ins) (k later : Int) : Bool := qfo p k && qdF p k later
def qff (p : List D.Ins) (k later : Int) : Prop := Node p k
def qbP (p : List D.Ins) (k later : Int) : Bool := qf4 p k && (qf4 p later && (qfo p k && qdF p k later))
def qgs (p : List D.Ins) (k later : Int) : Prop := qfN p
def qbX := qcB
def qfV (p : List D.Ins) (k : Int) : Prop := qfN p
def qbC (x k : Int) : Bool := x == k
def qeU (x k : Int) : Prop := True
def qay (l : List Int) (g : Int → Bool) : List Int := l.filter fun x => !g x
def qdW (l : List Int) (g : Int → Bool) (D : Int → Prop) : Prop := Long l ∧ ∀ x ∈ l, D x
def qcl (z : Int) (p : List D.Ins) (x : Int) : Bool := !(qfo p x && qdF p x z)
def qfE (z : Int) (p : List D.Ins) (x : Int) : Prop := Node p x
def qdA (p : List D.Ins) (l : List Int) : Int := qj2 p l l
def qgq (p : List D.Ins) (l : List Int) : Prop := Nodes p l
def qci := qhR
def qfm (p : List D.Ins) (k : Int) : Prop := qfN p
def qlo (p : List D.Ins) (b : Int) : Int := if has (branches p) b then qh9 p b else -1
def qdl := qlo
def qgW (p : List D.Ins) (b : Int) : Prop := qfN p
end Go.V.M
namespace Go.V.M
open IntKind (wrap)
def qjK (fs : List D.Frame) (n : Int) : Nat → List D.Frame
 | 0 => []
 | k + 1 => if (rd fs (k : Int)).Pc ≠ (rd fs (k : Int)).Stop ∧ (rd fs (k : Int)).Pc ≠ n then fs.take (k + 1) else qjK fs n k
def qm7 (fs : List D.Frame) (n : Int) : List D.Frame := qjK fs n fs.length
def qgC (x : D.Warp) (n : Int) : D.Warp := ⟨x.Number, qm7 x.Frames n, x.Regs⟩
def qbB := qgC
def qek (x : D.Warp) (n : Int) : Prop := Long x.Frames
def qaM (p : List D.Ins) (x : D.Warp) : D.Warp := qgC x p.length
def qcT (p : List D.Ins) (x : D.Warp) : Prop := WFit x
def qeV (r : List Int) (l : Nat) : List Int := (r.take (l * 4 + 4)).drop (l * 4)
def qfA (r : List Int) (l : Nat) (x : List Int) : List Int := r.take (l * 4) ++ x ++ r.drop (l * 4 + 4)
def qfD (i : D.Ins) (num m : Int) (r : List Int) : Nat → List Int
 | 0 => r
 | k + 1 => if qdu m (k : Int) then qfA (qfD i num m r k) k (apply i (num * 8 + (k : Int)) (qeV r k)) else qfD i num m r k
def qgB (i : D.Ins) (num m : Int) (r : List Int) : List Int := qfD i num m r 8
def qd6 (p : List D.Ins) (x : D.Warp) : List Int := qgB (qaO p x) x.Number (qdb x.Frames).Mask x.Regs
def qg7 (p : List D.Ins) (x : D.Warp) : Prop := Runs p x
def qbc (i : D.Ins) (t : Int) (xs : List Int) (lo hi : Nat) : List Int := xs.take lo ++ apply i t ((xs.take hi).drop lo) ++ xs.drop hi
def qgo (i : D.Ins) (t : Int) (xs : List Int) (lo hi : Nat) : Prop := Fits i ((xs.take hi).drop lo) ∧ lo ≤ hi ∧ hi ≤ xs.length
def qgA (p : List D.Ins) (x : D.Warp) : Int :=
 if (qaO p x).Op = 12 then (p.length : Int) else if (qaO p x).Op = 11 then (qaO p x).B else if (qaO p x).Op = 10 ∧ qcA x (qaO p x).A = (qdb x.Frames).Mask then (qaO p x).B else qdN x + 1
def qen (fs : List D.Frame) (pc : Int) : List D.Frame := fs.set (fs.length - 1) ⟨pc, (qdb fs).Stop, (qdb fs).Mask⟩
def advance (p : List D.Ins) (x : D.Warp) : D.Warp := ⟨x.Number, qen x.Frames (qgA p x), qgB (qaO p x) x.Number (qdb x.Frames).Mask x.Regs⟩
def qbk (x : D.Warp) (p : List D.Ins) : D.Warp := advance p x
def qeQ (x : D.Warp) (p : List D.Ins) : Prop := Runs p x
def qmi (p : List D.Ins) (x : D.Warp) : Prop := (qaO p x).Op = 10 ∧ (qaO p x).B ≠ qdN x + 1
def separated (p : List D.Ins) (x : D.Warp) : D.Warp :=
 ⟨x.Number, qen x.Frames (qh9 p (qdN x)) ++ [⟨qdN x + 1, qh9 p (qdN x), qf5 .i64 (qdb x.Frames).Mask (qcA x (qaO p x).A)⟩, ⟨(qaO p x).B, qh9 p (qdN x), qcA x (qaO p x).A⟩], x.Regs⟩
def qaS (x : D.Warp) (p : List D.Ins) : Bool × D.Warp := if x.Frames.length ≤ 22 then (true, separated p x) else (false, x)
def qeJ (x : D.Warp) (p : List D.Ins) : Prop := Runs p x ∧ qmi p x
def stepW (p : List D.Ins) (x : D.Warp) : D.Warp := qgC (if splits p x then separated p x else advance p x) p.length
def Goes (p : List D.Ins) (x : D.Warp) : Prop := Runs p x ∧ qaP p x = true
def qdr := stepW
def qgv (p : List D.Ins) (x : D.Warp) : Prop := Goes p x
def Fine (p : List D.Ins) (x : D.Warp) : Prop := qb6 p = true ∧ qfQ p x = true
def qbo (x : D.Warp) (p : List D.Ins) : Bool × D.Warp := if qaP p x then (true, stepW p x) else (false, x)
def qfJ (x : D.Warp) (p : List D.Ins) : Prop := Fine p x
end Go.V.M
namespace Go.V.M
open IntKind (wrap)
def once (c : D.Cur) (n : Int) : Bool × D.Cur := ((qa0 c n).1 == 0, (qa0 c n).2)
def qcZ := once
def qfj (c : D.Cur) (n : Int) : Prop := qdL c
def setB (p : List D.Ins) (k : Nat) (v : Int) : List D.Ins := p.set k ⟨(rd p (k : Int)).Op, (rd p (k : Int)).A, v, (rd p (k : Int)).C⟩
def qix (p : List D.Ins) : List D.Ins := p ++ [(⟨8, 3, 0, 0⟩ : D.Ins)]
def qk1 (p : List D.Ins) : List D.Ins := ((qix p ++ [(⟨10, 3, 0, 0⟩ : D.Ins)]) ++ [(⟨3, 0, 0, 1⟩ : D.Ins), (⟨1, 2, 1, 0⟩ : D.Ins), (⟨4, 3, 3, 2⟩ : D.Ins)]) ++ [(⟨11, 0, ((qix p).length : Int), 0⟩ : D.Ins)]
def qim (p : List D.Ins) : List D.Ins := setB (qk1 p) (qix p).length ((qk1 p).length : Int)
def qde (rec : D.Cur → List D.Ins → List D.Ins × D.Cur) (c : D.Cur) (p : List D.Ins) : List D.Ins × D.Cur := rec (qa0 c 4).2 (p ++ [⟨10, (qa0 c 4).1, 0, 0⟩])
def qhP (rec : D.Cur → List D.Ins → List D.Ins × D.Cur) (c : D.Cur) (p q : List D.Ins) : List D.Ins × D.Cur := rec c (setB (q ++ [⟨11, 0, 0, 0⟩]) p.length ((q ++ [(⟨11, 0, 0, 0⟩ : D.Ins)]).length : Int))
def ifIn (rec : D.Cur → List D.Ins → List D.Ins × D.Cur) (c : D.Cur) (p : List D.Ins) : List D.Ins × D.Cur :=
 if (once (qde rec c p).2 2).1 then (setB (qde rec c p).1 p.length ((qde rec c p).1.length : Int), (once (qde rec c p).2 2).2)
 else (setB (qhP rec (once (qde rec c p).2 2).2 p (qde rec c p).1).1 (qde rec c p).1.length ((qhP rec (once (qde rec c p).2 2).2 p (qde rec c p).1).1.length : Int), (qhP rec (once (qde rec c p).2 2).2 p (qde rec c p).1).2)
def qeP (rec : D.Cur → List D.Ins → List D.Ins × D.Cur) (deep : Bool) (c : D.Cur) (p : List D.Ins) : List D.Ins × D.Cur :=
 if (qa0 c 5).1 = 0 then (if deep then ifIn rec (qa0 c 5).2 p else (p, (qa0 c 5).2))
 else if (qa0 c 5).1 = 1 then (if deep ∧ ¬ (p.length : Int) > 14 then (qim p, (qa0 c 5).2) else (p, (qa0 c 5).2))
 else (p ++ [(qaG (qa0 c 5).2).1], (qaG (qa0 c 5).2).2)
def qjb (rec : D.Cur → List D.Ins → List D.Ins × D.Cur) (deep : Bool) : Nat → D.Cur → List D.Ins → List D.Ins × D.Cur
 | 0, c, p => (p, c)
 | n + 1, c, p => if (p.length : Int) < 20 then qjb rec deep n (qeP rec deep c p).2 (qeP rec deep c p).1 else (p, c)
def body : Nat → D.Cur → List D.Ins → List D.Ins × D.Cur
 | 0, c, p => qjb (fun c p => (p, c)) false (qa0 c 4).1.toNat (qa0 c 4).2 p
 | d + 1, c, p => qjb (body d) true (qa0 c 4).1.toNat (qa0 c 4).2 p
def qb3 (c : D.Cur) (p : List D.Ins) (d : Int) : List D.Ins × D.Cur := body d.toNat c p
def qdY (c : D.Cur) (p : List D.Ins) (d : Int) : Prop := qdL c ∧ p.length ≤ 24 ∧ 0 ≤ d ∧ d ≤ 2
end Go.V.M
namespace Go.V.M
open IntKind (wrap)
def qbQ (c : D.Cur) : D.Ins × D.Cur :=
 (⟨(qau c [13, 14, 15]).1, (qa0 (qau c [13, 14, 15]).2 4).1, (qa0 (qa0 (qau c [13, 14, 15]).2 4).2 4).1, 0⟩, (qa0 (qa0 (qau c [13, 14, 15]).2 4).2 4).2)
def qfy (c : D.Cur) : Prop := qdL c
def qjx (c : D.Cur) : List D.Ins × D.Cur := ([⟨8, 0, 0, 0⟩, ⟨14, 0, (qa0 c 4).1, 0⟩], (qa0 c 4).2)
def qkN (c : D.Cur) : List D.Ins × D.Cur := ([⟨1, 1, (qau c [1, 8, 31]).1, 0⟩, ⟨8, 0, 0, 0⟩, ⟨3, 0, 0, 1⟩, ⟨13, 2, 0, 0⟩], (qau c [1, 8, 31]).2)
def qkR (c : D.Cur) : List D.Ins × D.Cur := ([⟨1, 1, 24 + (qa0 c 8).1, 0⟩, ⟨15, 1, (qa0 (qa0 c 8).2 4).1, 0⟩], (qa0 (qa0 c 8).2 4).2)
def qgr (c : D.Cur) (p : List D.Ins) : List D.Ins × D.Cur :=
 if (qa0 c 7).1 = 0 then (p ++ [⟨16, 0, 0, 0⟩], (qa0 c 7).2)
 else if (qa0 c 7).1 = 1 then (p ++ (qjx (qa0 c 7).2).1, (qjx (qa0 c 7).2).2)
 else if (qa0 c 7).1 = 2 then (p ++ (qkN (qa0 c 7).2).1, (qkN (qa0 c 7).2).2)
 else if (qa0 c 7).1 = 3 then (p ++ (qkR (qa0 c 7).2).1, (qkR (qa0 c 7).2).2)
 else if (qa0 c 7).1 = 4 then (if (p.length : Int) < 12 then body 1 (qa0 c 7).2 p else (p, (qa0 c 7).2))
 else if (qa0 c 7).1 = 5 then (p ++ [(qbQ (qa0 c 7).2).1], (qbQ (qa0 c 7).2).2)
 else (p ++ [(qaG (qa0 c 7).2).1], (qaG (qa0 c 7).2).2)
def qhZ : Nat → D.Cur → List D.Ins → List D.Ins × D.Cur
 | 0, c, p => (p, c)
 | n + 1, c, p => if (p.length : Int) + 4 ≤ 32 then qhZ n (qgr c p).2 (qgr c p).1 else (p, c)
def qa8 (c : D.Cur) : List D.Ins × D.Cur := qhZ (1 + (qa0 c 5).1).toNat (qa0 c 5).2 [⟨8, 0, 0, 0⟩]
def qfq (c : D.Cur) : Prop := qdL c
end Go.V.M
namespace Go.V.M
open IntKind (wrap)
def qfw (i : D.Ins) (s : List Int × List Int) (k : Int) : List Int × List Int :=
 if i.Op = 13 then (s.1.set (k * 4 + i.A).toNat (rd s.2 (Int.tmod (rd s.1 (k * 4 + i.B)) 32)), s.2)
 else if i.Op = 14 then (s.1, s.2.set (Int.tmod (rd s.1 (k * 4 + i.A)) 32).toNat (rd s.1 (k * 4 + i.B)))
 else if i.Op = 15 then (s.1, s.2.set (Int.tmod (rd s.1 (k * 4 + i.A)) 32).toNat (addW (rd s.2 (Int.tmod (rd s.1 (k * 4 + i.A)) 32)) (rd s.1 (k * 4 + i.B))))
 else s
def qkU (i : D.Ins) (m : Int) (s : List Int × List Int) : Nat → List Int × List Int
 | 0 => s
 | k + 1 => if qdu m (k : Int) then qfw i (qkU i m s k) (k : Int) else qkU i m s k
def qjH (i : D.Ins) (x : D.Warp) (mem : List Int) : List Int × List Int := qkU i (qb2 x) (x.Regs, mem) 8
def qms (b : D.Block) (w : Int) (x : D.Warp) : D.Block := ⟨b.Code, b.Warps.set w.toNat x, b.Memory, b.Waiting, b.Phase⟩
def qcR (b : D.Block) (w : Int) (i : D.Ins) : D.Block :=
 ⟨b.Code, b.Warps.set w.toNat ⟨(rd b.Warps w).Number, (rd b.Warps w).Frames, (qjH i (rd b.Warps w) b.Memory).1⟩, (qjH i (rd b.Warps w) b.Memory).2, b.Waiting, b.Phase⟩
def Live (b : D.Block) (w : Int) : Prop := Has b w ∧ (rd b.Warps w).Frames ≠ []
def qcc (b : D.Block) (w : Int) : D.Block × List D.Warp × List Int := (qcR b w (qbS b w), (qcR b w (qbS b w)).Warps, (qcR b w (qbS b w)).Memory)
def qfK (b : D.Block) (w : Int) : Prop := Live b w ∧ qcz (qbS b w) = false
def qbV (b : D.Block) (w : Int) (i : D.Ins) : D.Block := qcR b w i
def qeR (b : D.Block) (w : Int) (i : D.Ins) : Prop := Live b w ∧ i = qbS b w ∧ qcz i = false
def qfu (b : D.Block) : Nat → Bool
 | 0 => true
 | k + 1 => qfu b k && ((rd b.Warps (k : Int)).Frames.isEmpty || waits b (k : Int))
def qbx (b : D.Block) : Bool := qfu b b.Warps.length && b.Waiting != 0
def qgR (b : D.Block) : Prop := Long b.Warps
def qhA (p : List D.Ins) (x : D.Warp) : D.Warp := qgC ⟨x.Number, qen x.Frames (qdN x + 1), x.Regs⟩ p.length
def actB (b : D.Block) (w : Int) : D.Block :=
 if qcz (qbS b w) then qms b w (stepW b.Code (rd b.Warps w))
 else ⟨b.Code, b.Warps.set w.toNat (qhA b.Code (rd (qcR b w (qbS b w)).Warps w)), (qcR b w (qbS b w)).Memory, if (qbS b w).Op = 16 then qh0 .i64 b.Waiting (qjN w) else b.Waiting, b.Phase⟩
def qhX (b : D.Block) : D.Block := if qbx b then ⟨b.Code, b.Warps, b.Memory, 0, b.Phase + 1⟩ else b
def qeE (b : D.Block) (w : Int) : D.Block := qhX (actB b w)
def qih (b : D.Block) (w : Int) : Prop := Has b w ∧ qhk b w = true
def qdC := qeE
def qgy (b : D.Block) (w : Int) : Prop := qih b w
def qbi (b : D.Block) (w : Int) : Bool × D.Block := (decide ((qeE b w).Phase ≤ 100000), qeE b w)
def qeD (b : D.Block) (w : Int) : Prop := qih b w
end Go.V.M
namespace Go.V.M
open IntKind (wrap)
def stops (f : Nat → Int) (x : D.Block) (k : Nat) : Bool := decide (f k < 0) || (x.Phase == 100000 || decide (pick x (f k) < 0))
def goTo (f : Nat → Int) : Nat → D.Block → Nat → D.Block × Int
 | 0, x, k => (x, (k : Int))
 | m + 1, x, k => if stops f x k then (x, (k : Int)) else goTo f m (qeE x (pick x (f k))) (k + 1)
def goAt (f : Nat → Int) (b : D.Block) : Nat → D.Block
 | 0 => b
 | k + 1 => qeE (goAt f b k) (pick (goAt f b k) (f k))
def qas (s : Int) (k : Nat) : Int := (k : Int) * s
def finish (b : D.Block) (s : Int) : D.Block × Int := goTo (qas s) 9000 b 0
def qeA (b : D.Block) (s : Int) : D.Block × Int := if qdE b && isIn s 0 100 then finish b s else (b, -1)
def qaK (k s : Int) : Int × Bool := (wrap .i64 (k * s), decide (k < 9000))
def qbF (w : Int) : Unit := ()
def qaE (b : D.Block) (s : Int) : Int × D.Block := ((finish b s).2, (finish b s).1)
def qdw (b : D.Block) (s : Int) : Prop := Good b ∧ 0 ≤ s ∧ s ≤ 100
def qb0 := qaE
def qey := qdw
def qcM (s : Int) : Bool := isIn s 0 100
def qcf := qeA
def qf7 (b : D.Block) (s : Int) : Prop := BFit b
end Go.V.M
namespace Go.V.M
open IntKind (wrap)
def qdn (b : D.Block) (s n : Int) : D.Block := (goTo (qas s) n.toNat b 0).1
def qgQ (b : D.Block) (s n : Int) : Prop := Good b ∧ 0 ≤ s ∧ s ≤ 100 ∧ 0 ≤ n ∧ n ≤ 9000
def qbN (c : D.Cur) : D.Block × D.Cur :=
 let p := qa8 c; let n := qa0 p.2 3; let b := (qfk p.1 (1 + n.1)).1; let o := once n.2 3
 if o.1 then (⟨b.Code, b.Warps, (qbt o.2 32).1, b.Waiting, b.Phase⟩, (qbt o.2 32).2) else (b, o.2)
def qcJ (c : D.Cur) : D.Block × D.Cur :=
 (qdn (qbN c).1 (qa0 (qbN c).2 4).1 (qa0 (qa0 (qbN c).2 4).2 40).1, (qa0 (qa0 (qbN c).2 4).2 40).2)
def qg3 (c : D.Cur) : Prop := qdL c
def qcC (b : List Int) : D.Block := (qcJ (qb8 b)).1
def qfG (b : List Int) : Prop := Long b
end Go.V.M
namespace Go.V.M
open IntKind (wrap)
def qhd (out : List D.Access) (a : D.Access) : List D.Access := if out.contains a then out else out ++ [a]
def qfT (log list : List D.Access) : List D.Access := list.foldl qhd log
def qpV (log list : List D.Access) : Prop := log.length + list.length ≤ 17179869184
def qam (l : List D.Access) : List D.Access := l
def qcQ (l : List D.Access) : Prop := l.length ≤ 17179869184
def qbI := qfT
def qer (log list : List D.Access) : Prop := qpV log list
end Go.V.M
namespace Go.V.M
open IntKind (wrap)
def qgO (x y : Int) : Int := if x < y then -1 else if x > y then 1 else 0
def cmp_Compare_int := qgO
def qfr (x y : Int) : Prop := True
def qaF (a b : D.Access) : Int := qgO a.Address b.Address
def qdK (a b : D.Access) : Prop := True
def insG {α : Type} (g : α → α → Int) (x : α) : List α → List α
 | [] => [x]
 | y :: r => if g x y < 0 then y :: insG g x r else x :: y :: r
def qi0 {α : Type} (g : α → α → Int) (l : List α) : List α := (l.foldl (fun r x => insG g x r) []).reverse
def qny (l : List D.Access) (D : D.Access → D.Access → Prop) : Prop := l.length ≤ 12 ∧ ∀ x ∈ l, ∀ y ∈ l, D x y
def qa9 (l : List D.Access) (a b : Int) (g : D.Access → D.Access → Int) : List D.Access := qi0 g l
def qct (l : List D.Access) (a b : Int) (g : D.Access → D.Access → Int) (D : D.Access → D.Access → Prop) : Prop := a = 0 ∧ b = (l.length : Int) ∧ qny l D
def qaj (l : List D.Access) (a b c : Int) (g : D.Access → D.Access → Int) : List D.Access := qi0 g l
def qdc (l : List D.Access) (a b c : Int) (g : D.Access → D.Access → Int) (D : D.Access → D.Access → Prop) : Prop := a = 0 ∧ b = (l.length : Int) ∧ qny l D
def qa7 (l : List D.Access) (g : D.Access → D.Access → Int) : List D.Access := qi0 g l
def qbu (l : List D.Access) (g : D.Access → D.Access → Int) (D : D.Access → D.Access → Prop) : Prop := qny l D
def sqz {α : Type} [DecidableEq α] (x : α) : List α → List α
 | [] => []
 | y :: l => if y = x then sqz x l else y :: sqz y l
def qeh {α : Type} [DecidableEq α] : List α → List α
 | [] => []
 | x :: l => x :: sqz x l
def qae (l : List D.Access) : List D.Access := qeh l
def qcy (l : List D.Access) : Prop := l.length ≤ 17179869184
def qm9 (i : D.Ins) : Int := if i.Op = 13 then i.B else i.A
def addrAt (b : D.Block) (w k : Int) : Int := Int.tmod (rd (rd b.Warps w).Regs (k * 4 + qm9 (qbS b w))) 32
def qjw (b : D.Block) (w a : Int) : D.Access := ⟨b.Phase, w, a, (qbS b w).Op⟩
def qk3 (l : List Int) : List Int := l.foldl qbd []
def accesses (b : D.Block) (w : Int) : List D.Access :=
 if isIn (qbS b w).Op 13 15 then (qk3 ((qeG (qb2 (rd b.Warps w))).map (addrAt b w))).map (qjw b w) else []
def qb1 := accesses
def qex (b : D.Block) (w : Int) : Prop := Live b w
end Go.V.M
namespace Go.V.M
open IntKind (wrap)
def qcg (w : Int) (l : List D.Access) (b : D.Block) : List D.Access := l ++ accesses b w
def qf8 (w : Int) (l : List D.Access) (b : D.Block) : Prop := Live b w ∧ l.length ≤ 17179869000
def qhK (f : Nat → Int) : Nat → D.Block → Nat → List D.Access → List D.Access
 | 0, x, k, l => l
 | m + 1, x, k, l => if stops f x k then l else qhK f m (qeE x (pick x (f k))) (k + 1) (l ++ accesses x (pick x (f k)))
def qkd (f : Nat → Int) (b : D.Block) (l : List D.Access) : Nat → List D.Access
 | 0 => l
 | k + 1 => qkd f b l k ++ accesses (goAt f b k) (pick (goAt f b k) (f k))
def qaI (b : D.Block) (s : Int) (l : List D.Access) : Int × D.Block × List D.Access := ((finish b s).2, (finish b s).1, qhK (qas s) 9000 b 0 l)
def qe5 (b : D.Block) (s : Int) (l : List D.Access) : Prop := Good b ∧ 0 ≤ s ∧ s ≤ 100 ∧ l.length ≤ 1000000
def qaY := qaI
def qez := qe5
def logged (b : D.Block) (s : Int) : List D.Access := qfT [] (qhK (qas s) 9000 b 0 [])
def qfx (b : D.Block) (s : Int) : D.Block × List D.Access := if qdE b && isIn s 0 100 then ((finish b s).1, logged b s) else (b, [])
def qd2 := qfx
def qfz (b : D.Block) (s : Int) : Prop := BFit b
def qdX (b : List Int) : Bool := true
def qgU (b : List Int) : Prop := Long b
end Go.V.M
namespace Go.V
open IntKind (wrap)
def wp.qar (a : Int) (b : Int) (c : Int) (Q : Bool → Prop) : Prop :=
 qa1 (decide (a ≥ b)) (Q (decide (a ≤ c))) (Q false)
def wp.qaV (a : Int) (b : Int) (c : Int) (Q : Bool → Prop) : Prop :=
 qa1 (decide (a ≥ b)) (Q (decide (a ≤ c))) (Q false)
def wp.qbJ (b : Int) (Q : Bool → Prop) : Prop :=
 (∀ a, a = M.qar b 0 65535 → Q a)
def wp.qbg (b : Int) (Q : Bool → Prop) : Prop :=
 (∀ a, a = M.qaV b 0 65535 → Q a)
def wp.qdm (b : Int) (Q : Bool → Prop) : Prop :=
 (∀ a, a = M.qar b 0 255 → Q a)
def wp.qe1 (b : Int) (Q : Bool → Prop) : Prop :=
 (∀ a, a = M.qar b 0 7 → Q a)
def wp.qd1 (b : Int) (a : Int) (Q : Bool → Prop) : Prop :=
 (∀ c, c = M.qdm b → qa1 c ((∀ d, d = M.qe1 a → qa1 d (((0 ≤ a) ∧ Q ((qdU .i64 (Int.fdiv b (2 ^ (min (a.toNat) (IntKind.bits .i64)))) 1) == 1))) (Q false))) (Q false))
def wp.qbW (e : Int) (Q : (List Int) → Prop) : Prop :=
 qcV (σ := (List Int) × Int × Unit) (fun (f : (List Int) × Int × Unit) c => match f with | (b, a, _) => qa1 (decide (a < 8)) ((∀ d, d = M.qd1 e a → qa1 d (((b.length + ([a] : List Int).length ≤ 17179869184) ∧ c ((b ++ ([a] : List Int)), (wrap .i64 (a + 1)), ()))) (c (b, (wrap .i64 (a + 1)), ())))) (Q b)) (([] : List Int), 0, ())
end Go.V
namespace Go.V
open IntKind (wrap)
theorem wp.qar.math (x a b : Int) : wp.qar x a b (fun r => r = M.qar x a b) := by
 simp only [wp.qar, qgY, M.qar, M.isIn]
 exact ⟨fun h => by simp at h; simp [h], fun h => by simp at h; simp; omega⟩
theorem wp.qaV.math (x a b : Int) : wp.qaV x a b (fun r => r = M.qaV x a b) := wp.qar.math x a b
theorem wp.qbJ.math (x : Int) : wp.qbJ x (fun r => r = M.qbJ x) := fun r h => h
theorem wp.qbg.math (x : Int) : wp.qbg x (fun r => r = M.qbg x) := fun r h => h
theorem wp.qdm.math (x : Int) : wp.qdm x (fun r => r = M.qdm x) := fun r h => h
theorem wp.qe1.math (x : Int) : wp.qe1 x (fun r => r = M.qe1 x) := fun r h => h
theorem wp.qd1.math (m l : Int) : wp.qd1 m l (fun r => r = M.qd1 m l) := by
 intro r1 h1
 refine qa2 (fun e1 r2 h2 => qa2 (fun e2 => ?_) fun e2 => ?_) fun e1 => ?_
 ·have : M.qil l = true := by rw [← e2, h2]; rfl
  have h0 : 0 ≤ l := by simp [M.qil, M.isIn] at this; omega
  refine ⟨h0, ?_⟩
  have e1' : M.qfS m = true := by rw [← e1, h1]; rfl
  simp [M.qd1, M.qdu, e1', this]
 ·have : M.qil l = false := by rw [← e2, h2]; rfl
  simp [M.qd1, M.qdu, this]
 ·have : M.qfS m = false := by rw [← e1, h1]; rfl
  simp [M.qd1, M.qdu, this]
theorem wp.qbW.math (m : Int) : wp.qbW m (fun r => r = M.qbW m) := by
 unfold wp.qbW
 refine ⟨fun k p => (k : Int) = 8 - p.2.1 ∧ 0 ≤ p.2.1 ∧ p.2.1 ≤ 8 ∧ p.1 = ([0, 1, 2, 3, 4, 5, 6, 7].take p.2.1.toNat).filter (M.qdu m), ⟨8, by simp⟩, ?_⟩
 rintro k ⟨xs, i, _⟩ ⟨hk, h0, h8, hx⟩
 simp only at hk h0 h8 hx ⊢
 refine qa2 (fun e => ?_) fun e => ?_
 ·have hlt : i < 8 := by simpa using e
  intro r hr
  have hs : (([0, 1, 2, 3, 4, 5, 6, 7] : List Int).take (i + 1).toNat) = ([0, 1, 2, 3, 4, 5, 6, 7] : List Int).take i.toNat ++ [i] := by
   have : i = 0 ∨ i = 1 ∨ i = 2 ∨ i = 3 ∨ i = 4 ∨ i = 5 ∨ i = 6 ∨ i = 7 := by omega
   rcases this with rfl | rfl | rfl | rfl | rfl | rfl | rfl | rfl <;> rfl
  have hw : wrap .i64 (i + 1) = i + 1 := w64 (by omega) (by omega)
  refine qa2 (fun e2 => ⟨?_, (k - 1), by omega, ?_⟩) fun e2 => ⟨k - 1, by omega, ?_⟩
  ·rw [hx]
   have := List.length_filter_le (M.qdu m) (([0, 1, 2, 3, 4, 5, 6, 7] : List Int).take i.toNat)
   simp at this ⊢; omega
  ·simp only [hw, hs, List.filter_append]
   refine ⟨by omega, by omega, by omega, ?_⟩
   rw [hx, List.filter_cons, if_pos (by rw [← e2, hr]; rfl)]; rfl
  ·simp only [hw, hs, List.filter_append]
   refine ⟨by omega, by omega, by omega, ?_⟩
   rw [hx, List.filter_cons, if_neg (by rw [show M.qdu m i = r from hr.symm, e2]; simp)]; simp
 ·have : i = 8 := by simp at e; omega
  subst this
  rw [hx]; rfl
end Go.V
namespace Go.V
open IntKind (wrap)
def wp.qbA (a : Int) (Q : Int → Prop) : Prop :=
 Q (Int.tmod (wrap .i64 ((Int.tmod a 65536) + 65536)) 65536)
def wp.qby (a : Int) (b : Int) (Q : Int → Prop) : Prop :=
 (∀ c, c = M.qbg a → qa1 (!c) (Q 0) ((∀ d, d = M.qbg b → qa1 (!d) (Q 0) ((∀ e, e = M.qbA (wrap .i64 (a + b)) → Q e)))))
def wp.qan (b : List Int) (d : Int → Bool) (e : Int → Prop) (Q : Int → Prop) : Prop :=
 qcV (σ := Int × Unit) (fun (f : Int × Unit) g => match f with | (a, _) => qa1 (decide (a < (b.length : Int))) (((0 ≤ a ∧ a < (b.length : Int)) ∧ (e (rd b a) ∧ ∀ c, c = d (rd b a) → qa1 c (Q a) (g ((wrap .i64 (a + 1)), ()))))) (Q (-1))) (0, ())
def wp.qak (a : List Int) (b : Int → Bool) (d : Int → Prop) (Q : Bool → Prop) : Prop :=
 (M.qds a b d ∧ ∀ c, c = M.qan a b → Q (decide (c ≥ 0)))
def wp.qc8 (b : Int) (Q : Bool → Prop) : Prop :=
 (∀ a, a = M.qbJ b → Q (!a))
def wp.qbZ (b : List Int) (Q : Bool → Prop) : Prop :=
 (M.qd8 b (fun a => M.qc8 a) (fun _ => True) ∧ ∀ c, c = M.qak b (fun a => M.qc8 a) → Q (!c))
def wp.qd5 (a : Int) (Q : Int → Prop) : Prop :=
 Q (qdU .i64 a 65535)
def wp.qbs (d : Int) (e : Int) (f : Int) (Q : Int → Prop) : Prop :=
 (∀ a, a = M.qbJ d → qa1 (!a) (Q 0) ((∀ b, b = M.qbJ e → qa1 (!b) (Q 0) ((∀ c, c = M.qd5 f → Q c)))))
def wp.qc7 (a : Int) (b : Int) (Q : Int → Prop) : Prop :=
 (∀ c, c = M.qbs a b (wrap .i64 (a + b)) → Q c)
def wp.qe0 (b : Int) (Q : Bool → Prop) : Prop :=
 (∀ a, a = M.qaV b 0 255 → Q a)
def wp.qbO (b : Int) (a : Int) (Q : Bool → Prop) : Prop :=
 (∀ c, c = M.qe0 b → qa1 c ((∀ d, d = M.qaV a 0 7 → qa1 d (((0 ≤ a) ∧ Q ((qdU .i64 (Int.fdiv b (2 ^ (min (a.toNat) (IntKind.bits .i64)))) 1) == 1))) (Q false))) (Q false))
end Go.V
namespace Go.V
open IntKind (wrap)
theorem qdP {x : Int} : M.isWord x = true ↔ 0 ≤ x ∧ x ≤ 65535 := by simp [M.isWord, M.isIn]
theorem qnp {x : Int} : M.qil x = true ↔ 0 ≤ x ∧ x ≤ 7 := by simp [M.qil, M.isIn]
theorem qgj {α : Type} [Inhabited α] {xs : List α} {k : Nat} (h : k < xs.length) : rd xs (k : Int) ∈ xs := by rw [qcU h]; exact List.getElem_mem h
theorem nt {r x : Bool} (e : (!r) = true) (h : r = x) : x = false := by subst h; simpa using e
theorem nf {r x : Bool} (e : (!r) = false) (h : r = x) : x = true := by subst h; simpa using e
theorem qne (x : Int) : qdU .i64 x 65535 = x % 65536 := by
 unfold qdU
 have e1 : (BitVec.ofInt (IntKind.bits .i64) x &&& BitVec.ofInt (IntKind.bits .i64) 65535).toNat = (x % 65536).toNat := by
  show (BitVec.ofInt 64 x &&& BitVec.ofInt 64 65535).toNat = _
  rw [BitVec.toNat_and, BitVec.toNat_ofInt, show (BitVec.ofInt 64 65535).toNat = 2 ^ 16 - 1 from rfl, Nat.and_two_pow_sub_one_eq_mod]
  rw [show ((2 ^ 64 : Nat) : Int) = 18446744073709551616 from rfl]
  omega
 rw [e1, w64 (by omega) (by omega)]
 omega
theorem wp.qd5.math (x : Int) : wp.qd5 x (fun r => r = M.qd5 x) := qne x
theorem wp.qbA.math (x : Int) : wp.qbA x (fun r => r = M.qbA x) := by
 show Int.tmod (wrap .i64 (Int.tmod x 65536 + 65536)) 65536 = x % 65536
 have h1 : Int.tmod x 65536 < 65536 := Int.tmod_lt_of_pos x (by omega)
 have h2 : -65536 < Int.tmod x 65536 := by
  have := Int.tmod_lt_of_pos (-x) (b := 65536) (by omega)
  rw [Int.neg_tmod] at this; omega
 rw [w64 (by omega) (by omega), Int.tmod_eq_emod_of_nonneg (by omega)]
 have h3 : x = 65536 * Int.tdiv x 65536 + Int.tmod x 65536 := (Int.mul_tdiv_add_tmod x 65536).symm
 omega
theorem wp.qby.math (a b : Int) : wp.qby a b (fun r => r = M.qby a b) := by
 intro r1 h1
 refine qa2 (fun e1 => ?_) fun e1 r2 h2 => qa2 (fun e2 => ?_) fun e2 r3 h3 => ?_
 ·have : M.isWord a = false := nt e1 h1
  simp [M.qby, M.addW, this]
 ·have : M.isWord b = false := nt e2 h2
  simp [M.qby, M.addW, this]
 ·have ha : M.isWord a = true := nf e1 h1
  have hb : M.isWord b = true := nf e2 h2
  have := qdP.1 ha
  have := qdP.1 hb
  rw [h3, w64 (by omega) (by omega)]
  simp [M.qby, M.addW, M.qbA, ha, hb]
theorem wp.qbs.math (a b n : Int) : wp.qbs a b n (fun r => r = M.qbs a b n) := by
 intro r1 h1
 refine qa2 (fun e1 => ?_) fun e1 r2 h2 => qa2 (fun e2 => ?_) fun e2 r3 h3 => ?_
 ·have : M.isWord a = false := nt e1 h1
  simp [M.qbs, this]
 ·have : M.isWord b = false := nt e2 h2
  simp [M.qbs, this]
 ·have ha : M.isWord a = true := nf e1 h1
  have hb : M.isWord b = true := nf e2 h2
  rw [h3]
  simp [M.qbs, M.qd5, ha, hb]
theorem wp.qc7.math (a b : Int) : wp.qc7 a b (fun r => r = M.qc7 a b) := by
 intro r hr
 rw [hr]
 simp only [M.qbs, M.qc7, M.addW]
 by_cases h : (M.isWord a && M.isWord b) = true
 ·rw [if_pos h, if_pos h]
  simp only [Bool.and_eq_true, qdP] at h
  rw [w64 (by omega) (by omega)]
 ·rw [if_neg h, if_neg h]
theorem qhG {α : Type} [Inhabited α] (g : α → Bool) (l : List α) : ∀ (k : Nat), k < l.length → M.qeC g (l.drop k) k = if g (rd l (k : Int)) then (k : Int) else M.qeC g (l.drop (k + 1)) (k + 1) := by
 intro k hk
 rw [List.drop_eq_getElem_cons hk, qcU hk]; rfl
theorem wp.qan.math (l : List Int) (g : Int → Bool) (D : Int → Prop) (h : M.qds l g D) : wp.qan l g D (fun r => r = M.qan l g) := by
 unfold wp.qan
 obtain ⟨h1, h2⟩ := h
 refine qcS l.length (fun k => ((k : Int), ())) (fun k => M.qan l g = M.qeC g (l.drop k) k) rfl (by simp [M.qan]) (fun k hk hF next hn => ?_) fun hF next => ?_
 ·rw [qhG g l k hk] at hF
  refine qaH (by simp; omega) ⟨by omega, h2 _ (qgj hk), fun r hr => qa2 (fun e => ?_) fun e => ?_⟩
  ·rw [hF, if_pos (by rw [← hr]; exact e)]
  ·rw [up64 hk h1]
   exact hn (by rw [hF, if_neg (by rw [← hr, e]; simp)])
 ·refine qaA (by simp) ?_
  rw [hF]; simp [M.qeC]
theorem qgg {α : Type} (g : α → Bool) : ∀ (l : List α) (k : Nat), decide (M.qeC g l k ≥ 0) = l.any g
 | [], k => by simp [M.qeC]
 | x :: l, k => by
  simp only [M.qeC, List.any_cons]
  by_cases hx : g x = true
  ·simp [hx]
  ·simp only [hx, Bool.false_eq_true, if_false, Bool.false_or]; simpa [hx] using qgg g l (k + 1)
theorem wp.qak.math (l : List Int) (g : Int → Bool) (D : Int → Prop) (h : M.qd8 l g D) : wp.qak l g D (fun r => r = M.qak l g) :=
 ⟨h, fun r hr => by rw [hr]; exact qgg g l 0⟩
theorem wp.qc8.math (x : Int) : wp.qc8 x (fun r => r = M.qc8 x) := fun r hr => by rw [hr]; rfl
theorem wp.qbZ.math (l : List Int) (h : M.qeW l) : wp.qbZ l (fun r => r = M.qbZ l) := by
 refine ⟨⟨h, fun _ _ => trivial⟩, fun r hr => ?_⟩
 rw [hr]
 simp only [M.qak, M.qbZ, M.qc8]
 rw [← List.all_eq_not_any_not]
theorem wp.qe0.math (x : Int) : wp.qe0 x (fun r => r = M.qe0 x) := fun r hr => hr
theorem wp.qbO.math (m l : Int) : wp.qbO m l (fun r => r = M.qbO m l) := by
 intro r1 h1
 refine qa2 (fun e1 r2 h2 => qa2 (fun e2 => ?_) fun e2 => ?_) fun e1 => ?_
 ·have : M.qil l = true := by rw [← e2, h2]; rfl
  have h0 : 0 ≤ l := (qnp.1 this).1
  refine ⟨h0, ?_⟩
  have e1' : M.qfS m = true := by rw [← e1, h1]; rfl
  simp [M.qbO, M.qdu, e1', this]
 ·have : M.qil l = false := by rw [← e2, h2]; rfl
  simp [M.qbO, M.qdu, this]
 ·have : M.qfS m = false := by rw [← e1, h1]; rfl
  simp [M.qbO, M.qdu, this]
theorem qna (x : Int) : M.isWord (x % 65536) = true := qdP.2 ⟨by omega, by omega⟩
end Go.V
namespace Go.V
open IntKind (wrap)
def wp.qcG (b : D.Ins) (Q : Bool → Prop) : Prop :=
 (∀ a, a = M.qaV b.Op 0 12 → Q a)
def wp.qb9 (b : Int) (Q : Bool → Prop) : Prop :=
 (∀ a, a = M.qaV b 0 3 → Q a)
def wp.qdR (a : D.Ins) (c : Int) (Q : Bool → Prop) : Prop :=
 (∀ e, e = M.qaV c 0 32 → qa1 (!e) (Q false) (qf6 (σ := Bool × Unit) (fun d => qa1 (a.Op == 0) (d (true, ())) (qa1 (a.Op == 12) (d (true, ())) (d ((a.Op == 16), ())))) (fun (r : Bool × Unit) => match r with | (s, _) => qa1 s (qa1 (a.A == 0) (qa1 (a.B == 0) (Q (a.C == 0)) (Q false)) (Q false)) (qa1 (a.Op == 1) ((∀ f, f = M.qb9 a.A → qa1 f ((∀ g, g = M.qbg a.B → qa1 g (Q (a.C == 0)) (Q false))) (Q false))) (qf6 (σ := Bool × Unit) (fun b => qa1 (a.Op == 2) (b (true, ())) (qa1 (a.Op == 13) (b (true, ())) (qa1 (a.Op == 14) (b (true, ())) (b ((a.Op == 15), ()))))) (fun (t : Bool × Unit) => match t with | (u, _) => qa1 u ((∀ h, h = M.qb9 a.A → qa1 h ((∀ i, i = M.qb9 a.B → qa1 i (Q (a.C == 0)) (Q false))) (Q false))) (qa1 (a.Op == 8) ((∀ j, j = M.qb9 a.A → qa1 j (qa1 (a.B == 0) (Q (a.C == 0)) (Q false)) (Q false))) (qa1 (a.Op == 10) ((∀ k, k = M.qb9 a.A → qa1 k ((∀ l, l = M.qaV a.B 0 c → qa1 l (Q (a.C == 0)) (Q false))) (Q false))) (qa1 (a.Op == 11) (qa1 (a.A == 0) ((∀ m, m = M.qaV a.B 0 c → qa1 m (Q (a.C == 0)) (Q false))) (Q false)) ((∀ n, n = M.qaV a.Op 3 9 → qa1 n ((∀ o, o = M.qb9 a.A → qa1 o ((∀ p, p = M.qb9 a.B → qa1 p ((∀ q, q = M.qb9 a.C → Q q)) (Q false))) (Q false))) (Q false))))))))))))
def wp.qbh (a : List D.Ins) (Q : Bool → Prop) : Prop :=
 qcV (σ := Int × Unit) (fun (d : Int × Unit) e => match d with | (b, _) => qa1 (decide (b < (a.length : Int))) (((0 ≤ b ∧ b < (a.length : Int)) ∧ (∀ c, c = M.qdR (rd a b) (a.length : Int) → qa1 (!c) (Q false) (e ((wrap .i64 (b + 1)), ()))))) (Q (decide ((a.length : Int) ≤ 32)))) (0, ())
def wp.qc0 (a : Int) (b : Int) (Q : Int → Prop) : Prop :=
 (∀ c, c = M.qbg a → qa1 (!c) (Q 0) ((∀ d, d = M.qbg b → qa1 (!d) (Q 0) ((∀ e, e = M.qbA (wrap .i64 (a - b)) → Q e)))))
def wp.qc9 (a : Int) (b : Int) (Q : Int → Prop) : Prop :=
 (∀ c, c = M.qbg a → qa1 (!c) (Q 0) ((∀ d, d = M.qbg b → qa1 (!d) (Q 0) ((∀ e, e = M.qbA (wrap .i64 (a * b)) → Q e)))))
def wp.qbm (a : Int) (b : Int) (Q : Int → Prop) : Prop :=
 (∀ c, c = M.qbg a → qa1 c ((∀ d, d = M.qbg b → qa1 d (qa1 (decide (a < b)) (Q 1) (Q 0)) (Q 0))) (Q 0))
def wp.qb7 (a : D.Ins) (g : Int) (b : List Int) (Q : (List Int) → Prop) : Prop :=
 ((([] : List Int).length + b.length ≤ 17179869184) ∧ qa1 (a.Op == 1) (((0 ≤ a.A ∧ a.A < ((([] : List Int) ++ b).length : Int)) ∧ Q (List.set (([] : List Int) ++ b) (a.A.toNat) a.B))) (qa1 (a.Op == 2) (((0 ≤ a.B ∧ a.B < (b.length : Int)) ∧ ((0 ≤ a.A ∧ a.A < ((([] : List Int) ++ b).length : Int)) ∧ Q (List.set (([] : List Int) ++ b) (a.A.toNat) (rd b a.B))))) (qa1 (a.Op == 3) (((0 ≤ a.B ∧ a.B < (b.length : Int)) ∧ ((0 ≤ a.C ∧ a.C < (b.length : Int)) ∧ (∀ c, c = M.qby (rd b a.B) (rd b a.C) → ((0 ≤ a.A ∧ a.A < ((([] : List Int) ++ b).length : Int)) ∧ Q (List.set (([] : List Int) ++ b) (a.A.toNat) c)))))) (qa1 (a.Op == 4) (((0 ≤ a.B ∧ a.B < (b.length : Int)) ∧ ((0 ≤ a.C ∧ a.C < (b.length : Int)) ∧ (∀ d, d = M.qc0 (rd b a.B) (rd b a.C) → ((0 ≤ a.A ∧ a.A < ((([] : List Int) ++ b).length : Int)) ∧ Q (List.set (([] : List Int) ++ b) (a.A.toNat) d)))))) (qa1 (a.Op == 5) (((0 ≤ a.B ∧ a.B < (b.length : Int)) ∧ ((0 ≤ a.C ∧ a.C < (b.length : Int)) ∧ (∀ e, e = M.qc9 (rd b a.B) (rd b a.C) → ((0 ≤ a.A ∧ a.A < ((([] : List Int) ++ b).length : Int)) ∧ Q (List.set (([] : List Int) ++ b) (a.A.toNat) e)))))) (qa1 (a.Op == 6) (((0 ≤ a.B ∧ a.B < (b.length : Int)) ∧ ((0 ≤ a.C ∧ a.C < (b.length : Int)) ∧ ((0 ≤ a.A ∧ a.A < ((([] : List Int) ++ b).length : Int)) ∧ Q (List.set (([] : List Int) ++ b) (a.A.toNat) (qgX .i64 (rd b a.B) (rd b a.C))))))) (qa1 (a.Op == 7) (((0 ≤ a.B ∧ a.B < (b.length : Int)) ∧ ((0 ≤ a.C ∧ a.C < (b.length : Int)) ∧ (∀ f, f = M.qbm (rd b a.B) (rd b a.C) → ((0 ≤ a.A ∧ a.A < ((([] : List Int) ++ b).length : Int)) ∧ Q (List.set (([] : List Int) ++ b) (a.A.toNat) f)))))) (qa1 (a.Op == 8) (((0 ≤ a.A ∧ a.A < ((([] : List Int) ++ b).length : Int)) ∧ Q (List.set (([] : List Int) ++ b) (a.A.toNat) g))) (qa1 (a.Op == 9) (((0 ≤ a.C ∧ a.C < (b.length : Int)) ∧ qa1 ((rd b a.C) != 0) (((0 ≤ a.B ∧ a.B < (b.length : Int)) ∧ ((0 ≤ a.A ∧ a.A < ((([] : List Int) ++ b).length : Int)) ∧ Q (List.set (([] : List Int) ++ b) (a.A.toNat) (rd b a.B))))) (Q (([] : List Int) ++ b)))) (Q (([] : List Int) ++ b)))))))))))
def wp.qaq (a : List Int) (Q : (List Int) → Prop) : Prop :=
 (∀ b : Bool, (b = true → a = []) → qa1 b (Q ([] : List Int)) (((([] : List Int).length + a.length ≤ 17179869184) ∧ Q (([] : List Int) ++ a))))
def wp.qdH (a : Int) (Q : ByteArray → Prop) : Prop :=
 (∀ b, b = M.qar a 0 16 → qa1 (!b) (Q (⟨#[]⟩)) (((0 ≤ a ∧ a < (([⟨#[45, 45, 45]⟩, ⟨#[82, 87, 45]⟩, ⟨#[82, 82, 45]⟩, ⟨#[82, 82, 82]⟩, ⟨#[82, 82, 82]⟩, ⟨#[82, 82, 82]⟩, ⟨#[82, 82, 82]⟩, ⟨#[82, 82, 82]⟩, ⟨#[82, 45, 45]⟩, ⟨#[82, 82, 82]⟩, ⟨#[82, 84, 45]⟩, ⟨#[45, 84, 45]⟩, ⟨#[45, 45, 45]⟩, ⟨#[82, 82, 45]⟩, ⟨#[82, 82, 45]⟩, ⟨#[82, 82, 45]⟩, ⟨#[45, 45, 45]⟩] : List ByteArray).length : Int)) ∧ Q (rd ([⟨#[45, 45, 45]⟩, ⟨#[82, 87, 45]⟩, ⟨#[82, 82, 45]⟩, ⟨#[82, 82, 82]⟩, ⟨#[82, 82, 82]⟩, ⟨#[82, 82, 82]⟩, ⟨#[82, 82, 82]⟩, ⟨#[82, 82, 82]⟩, ⟨#[82, 45, 45]⟩, ⟨#[82, 82, 82]⟩, ⟨#[82, 84, 45]⟩, ⟨#[45, 84, 45]⟩, ⟨#[45, 45, 45]⟩, ⟨#[82, 82, 45]⟩, ⟨#[82, 82, 45]⟩, ⟨#[82, 82, 45]⟩, ⟨#[45, 45, 45]⟩] : List ByteArray) a))))
def wp.qe7 (b : Int) (Q : Bool → Prop) : Prop :=
 (∀ a, a = M.qar b 0 3 → Q a)
def wp.qaJ (b : Int) (a : Int) (f : Int) (Q : Bool → Prop) : Prop :=
 qa1 (b == 82) ((∀ c, c = M.qe7 a → Q c)) (qa1 (b == 87) ((∀ d, d = M.qbJ a → Q d)) (qa1 (b == 84) ((∀ e, e = M.qar a 0 f → Q e)) (Q (a == 0))))
def wp.qba (b : D.Ins) (c : Int) (Q : Bool → Prop) : Prop :=
 (∀ a, a = M.qdH b.Op → qa1 (!(ByteArray.toList a == ByteArray.toList (⟨#[]⟩))) ((∀ d, d = M.qar c 0 32 → qa1 d (((0 ≤ (0 : Int) ∧ (0 : Int) < ((ByteArray.size a : Nat) : Int)) ∧ (M.qdz (bt a 0) b.A c ∧ ∀ e, e = M.qaJ (bt a 0) b.A c → qa1 e (((0 ≤ (1 : Int) ∧ (1 : Int) < ((ByteArray.size a : Nat) : Int)) ∧ (M.qdz (bt a 1) b.B c ∧ ∀ f, f = M.qaJ (bt a 1) b.B c → qa1 f (((0 ≤ (2 : Int) ∧ (2 : Int) < ((ByteArray.size a : Nat) : Int)) ∧ (M.qdz (bt a 2) b.C c ∧ ∀ g, g = M.qaJ (bt a 2) b.C c → Q g))) (Q false)))) (Q false)))) (Q false))) (Q false))
def wp.qbE (b : D.Ins) (c : List D.Ins) (Q : Bool → Prop) : Prop :=
 (∀ a, a = M.qba b (c.length : Int) → Q (!a))
def wp.qac (b : List D.Ins) (d : D.Ins → Bool) (e : D.Ins → Prop) (Q : Int → Prop) : Prop :=
 qcV (σ := Int × Unit) (fun (f : Int × Unit) g => match f with | (a, _) => qa1 (decide (a < (b.length : Int))) (((0 ≤ a ∧ a < (b.length : Int)) ∧ (e (rd b a) ∧ ∀ c, c = d (rd b a) → qa1 c (Q a) (g ((wrap .i64 (a + 1)), ()))))) (Q (-1))) (0, ())
def wp.qad (a : List D.Ins) (b : D.Ins → Bool) (d : D.Ins → Prop) (Q : Bool → Prop) : Prop :=
 (M.qd4 a b d ∧ ∀ c, c = M.qac a b → Q (decide (c ≥ 0)))
def wp.qbn (a : List D.Ins) (Q : Bool → Prop) : Prop :=
 qa1 (decide ((a.length : Int) ≤ 32)) ((M.qcI a (fun b => M.qbE b a) (fun _ => True) ∧ ∀ c, c = M.qad a (fun b => M.qbE b a) → Q (!c))) (Q false)
def wp.qcE (b : D.Ins) (Q : Bool → Prop) : Prop :=
 (∀ a, a = M.qar b.Op 0 12 → Q a)
def wp.qcu (a : Int) (b : Int) (Q : Int → Prop) : Prop :=
 (∀ c, c = M.qbs a b (wrap .i64 (a - b)) → Q c)
def wp.qcv (a : Int) (b : Int) (Q : Int → Prop) : Prop :=
 (∀ c, c = M.qbs a b (wrap .i64 (a * b)) → Q c)
def wp.qck (a : Int) (b : Int) (Q : Int → Prop) : Prop :=
 (∀ c, c = M.qbJ a → qa1 c ((∀ d, d = M.qbJ b → qa1 d (qa1 (decide (a < b)) (Q 1) (Q 0)) (Q 0))) (Q 0))
end Go.V
namespace Go.V
open IntKind (wrap)
theorem bcq {b x z : Bool} : qa1 b (x = z) (false = z) ↔ (b && x) = z := by cases b <;> simp [qa1]
theorem wp.qaq.math (l : List Int) (h : M.qaW l) : wp.qaq l (fun r => r = M.qaq l) := by
 intro b hb
 refine qa2 (fun e => ?_) fun e => ⟨by simpa [M.qaW] using h, rfl⟩
 rw [hb e]; rfl
theorem wp.qcG.math (i : D.Ins) : wp.qcG i (fun r => r = M.qcG i) := fun r hr => hr
theorem wp.qcE.math (i : D.Ins) : wp.qcE i (fun r => r = M.qcE i) := fun r hr => hr
theorem wp.qb9.math (x : Int) : wp.qb9 x (fun r => r = M.qb9 x) := fun r hr => hr
theorem wp.qe7.math (x : Int) : wp.qe7 x (fun r => r = M.qe7 x) := fun r hr => hr
theorem wp.qdR.math (i : D.Ins) (n : Int) : wp.qdR i n (fun r => r = M.qdR i n) := by
 simp only [wp.qdR, qf6, forall_eq, M.qaV, M.qb9, M.qbg, bcq, M.qdR, M.qdD]
 refine qa2 (fun e => ?_) fun e => ?_
 ·have hn : M.isIn n 0 32 = false := by simpa using e
  simp [hn]
 have hn : M.isIn n 0 32 = true := by simpa using e
 rw [hn, Bool.true_and]
 by_cases h0 : i.Op = 0
 ·simp [h0, qa1, Bool.and_assoc]
 by_cases h12 : i.Op = 12
 ·simp [h12, qa1, Bool.and_assoc]
 by_cases h16 : i.Op = 16
 ·simp [h16, qa1, Bool.and_assoc]
 by_cases h1 : i.Op = 1
 ·simp [h1, qa1, Bool.and_assoc]
 by_cases h2 : i.Op = 2
 ·simp [h2, qa1, Bool.and_assoc]
 by_cases h13 : i.Op = 13
 ·simp [h13, qa1, Bool.and_assoc]
 by_cases h14 : i.Op = 14
 ·simp [h14, qa1, Bool.and_assoc]
 by_cases h15 : i.Op = 15
 ·simp [h15, qa1, Bool.and_assoc]
 by_cases h8 : i.Op = 8
 ·simp [h8, qa1, Bool.and_assoc]
 by_cases h10 : i.Op = 10
 ·simp [h10, qa1, Bool.and_assoc]
 by_cases h11 : i.Op = 11
 ·simp [h11, qa1, Bool.and_assoc]
 have b0 : (i.Op == 0) = false := by simp [h0]
 have b12 : (i.Op == 12) = false := by simp [h12]
 have b16 : (i.Op == 16) = false := by simp [h16]
 have b1 : (i.Op == 1) = false := by simp [h1]
 have b2 : (i.Op == 2) = false := by simp [h2]
 have b13 : (i.Op == 13) = false := by simp [h13]
 have b14 : (i.Op == 14) = false := by simp [h14]
 have b15 : (i.Op == 15) = false := by simp [h15]
 have b8 : (i.Op == 8) = false := by simp [h8]
 have b10 : (i.Op == 10) = false := by simp [h10]
 have b11 : (i.Op == 11) = false := by simp [h11]
 simp only [b0, b12, b16, b1, b2, b13, b14, b15, b8, b10, b11, qa1, h0, h12, h16, h1, h2, h13, h14, h15, h8, h10, h11, or_self, if_false]
theorem qmB {α : Type} [Inhabited α] {l : List α} {g : α → Bool} (hl : M.Long l) {B : (Int × Unit) → ((Int × Unit) → Prop) → Prop} {Q : Bool → Prop}
    (hb : ∀ (k : Nat) (next : (Int × Unit) → Prop), k < l.length → (g (rd l (k : Int)) = false → l.all g = false → Q false) → (g (rd l (k : Int)) = true → next (((k + 1 : Nat) : Int), ())) → B ((k : Int), ()) next)
    (he : ∀ (next : (Int × Unit) → Prop), l.all g = true → B ((l.length : Int), ()) next) (hQ : l.all g = false → Q false) : qcV B (0, ()) := by
 refine qcS l.length (fun k => ((k : Int), ())) (fun k => (l.take k).all g = true) rfl (by simp) (fun k hk hF next hn => ?_) fun hF next => ?_
 ·refine hb k next hk (fun e h => hQ h) fun e => ?_
  rw [qcU hk] at e
  exact hn (qio hk hF e)
 ·rw [List.take_length] at hF
  exact he next hF
theorem all_false {α : Type} [Inhabited α] {l : List α} {g : α → Bool} {k : Nat} (hk : k < l.length) (e : g (rd l (k : Int)) = false) : l.all g = false := by
 rw [qcU hk] at e; exact qpX hk e
theorem wp.qbh.math (p : List D.Ins) (h : M.qej p) : wp.qbh p (fun r => r = M.qbh p) := by
 unfold wp.qbh
 refine qmB (g := fun i => M.qdD i p.length) (Q := fun r => r = M.qb6 p) h (fun k next hk h1 h2 => ?_) (fun next ha => ?_) fun ha => by simp only [M.qb6, ha, Bool.and_false]
 ·refine qaH (by simp; omega) ⟨by omega, fun r hr => qa2 (fun e => ?_) fun e => ?_⟩
  ·have := nt e hr
   exact h1 this (all_false (g := fun i => M.qdD i p.length) hk this)
  ·rw [up64 hk h]; exact h2 (nf e hr)
 ·refine qaA (by simp) ?_
  simp only [M.qbh, M.qb6, ha, Bool.and_true]
  by_cases h32 : p.length ≤ 32
  ·simp [h32]; omega
  ·simp [h32]; omega
theorem wp.qdH.math (op : Int) : wp.qdH op (fun r => r = M.qdH op) := by
 intro r hr
 refine qa2 (fun e => ?_) fun e => ?_
 ·have : M.isIn op 0 16 = false := nt e hr
  have h' : ¬ (0 ≤ op ∧ op ≤ 16) := by simpa [M.isIn] using this
  have h2 : M.isIn op 3 9 = false := by simp [M.isIn]; omega
  simp only [M.qdH, M.qht, h2]
  rw [if_neg (by omega), if_neg (by omega), if_neg (by omega), if_neg (by omega), if_neg (by omega), if_neg (by omega)]
  rfl
 ·have : M.isIn op 0 16 = true := nf e hr
  have h' : 0 ≤ op ∧ op ≤ 16 := by simpa [M.isIn] using this
  refine ⟨by simp; omega, ?_⟩
  have : op = 0 ∨ op = 1 ∨ op = 2 ∨ op = 3 ∨ op = 4 ∨ op = 5 ∨ op = 6 ∨ op = 7 ∨ op = 8 ∨ op = 9 ∨ op = 10 ∨ op = 11 ∨ op = 12 ∨ op = 13 ∨ op = 14 ∨ op = 15 ∨ op = 16 := by omega
  rcases this with rfl | rfl | rfl | rfl | rfl | rfl | rfl | rfl | rfl | rfl | rfl | rfl | rfl | rfl | rfl | rfl | rfl <;> rfl
theorem wp.qaJ.math (f x n : Int) (h : M.qdz f x n) : wp.qaJ f x n (fun r => r = M.qaJ f x n) := by
 refine qa2 (fun e r hr => ?_) fun e1 => qa2 (fun e r hr => ?_) fun e2 => qa2 (fun e r hr => ?_) fun e3 => ?_
 ·simp at e; simp [M.qaJ, e, hr, M.qe7]
 ·simp at e; simp [M.qaJ, e, hr, M.qbJ]
 ·simp at e; simp [M.qaJ, e, hr, M.qar]
 ·simp at e1 e2 e3; simp [M.qaJ, e1, e2, e3]
theorem qq5 {a b : ByteArray} (h : ByteArray.toList a ≠ ByteArray.toList b) : (!(ByteArray.toList a == ByteArray.toList b)) = true := by simp [h]
theorem qly (op : Int) : (M.qht op = ⟨#[45, 45, 45]⟩ ∧ (op = 0 ∨ op = 12 ∨ op = 16)) ∨ (M.qht op = ⟨#[82, 87, 45]⟩ ∧ op = 1) ∨ (M.qht op = ⟨#[82, 82, 45]⟩ ∧ (op = 2 ∨ op = 13 ∨ op = 14 ∨ op = 15)) ∨
    (M.qht op = ⟨#[82, 45, 45]⟩ ∧ op = 8) ∨ (M.qht op = ⟨#[82, 84, 45]⟩ ∧ op = 10) ∨ (M.qht op = ⟨#[45, 84, 45]⟩ ∧ op = 11) ∨ (M.qht op = ⟨#[82, 82, 82]⟩ ∧ (3 ≤ op ∧ op ≤ 7 ∨ op = 9)) ∨
    (M.qht op = ⟨#[]⟩ ∧ (op < 0 ∨ op > 16)) := by
 unfold M.qht
 by_cases a1 : op = 0 ∨ op = 12 ∨ op = 16
 ·rw [if_pos a1]; exact .inl ⟨rfl, a1⟩
 rw [if_neg a1]
 by_cases a2 : op = 1
 ·rw [if_pos a2]; exact .inr (.inl ⟨rfl, a2⟩)
 rw [if_neg a2]
 by_cases a3 : op = 2 ∨ op = 13 ∨ op = 14 ∨ op = 15
 ·rw [if_pos a3]; exact .inr (.inr (.inl ⟨rfl, a3⟩))
 rw [if_neg a3]
 by_cases a4 : op = 8
 ·rw [if_pos a4]; exact .inr (.inr (.inr (.inl ⟨rfl, a4⟩)))
 rw [if_neg a4]
 by_cases a5 : op = 10
 ·rw [if_pos a5]; exact .inr (.inr (.inr (.inr (.inl ⟨rfl, a5⟩))))
 rw [if_neg a5]
 by_cases a6 : op = 11
 ·rw [if_pos a6]; exact .inr (.inr (.inr (.inr (.inr (.inl ⟨rfl, a6⟩)))))
 rw [if_neg a6]
 by_cases a7 : 3 ≤ op ∧ op ≤ 9
 ·rw [if_pos (by simp [M.isIn]; omega)]; exact .inr (.inr (.inr (.inr (.inr (.inr (.inl ⟨rfl, by omega⟩))))))
 rw [if_neg (by simp [M.isIn]; omega)]; exact .inr (.inr (.inr (.inr (.inr (.inr (.inr ⟨rfl, by omega⟩))))))
theorem qhq {i : D.Ins} {n : Int} {f : ByteArray} {x y z : Int} (hx : bt f 0 = x) (hy : bt f 1 = y) (hz : bt f 2 = z) (hs : f.size = 3) (hf : ByteArray.toList f ≠ ByteArray.toList (⟨#[]⟩)) {P : Bool → Prop} (hin : M.isIn n 0 32 = false → P false)
    (h : M.isIn n 0 32 = true → P (M.qaJ x i.A n && (M.qaJ y i.B n && M.qaJ z i.C n))) :
    qa1 (!(ByteArray.toList f == ByteArray.toList (⟨#[]⟩))) ((∀ r28, r28 = M.qar n 0 32 → qa1 r28 (((0 ≤ (0 : Int) ∧ (0 : Int) < ((ByteArray.size f : Nat) : Int)) ∧ (M.qdz (bt f 0) i.A n ∧ ∀ r38, r38 = M.qaJ (bt f 0) i.A n → qa1 r38 (((0 ≤ (1 : Int) ∧ (1 : Int) < ((ByteArray.size f : Nat) : Int)) ∧ (M.qdz (bt f 1) i.B n ∧ ∀ r48, r48 = M.qaJ (bt f 1) i.B n → qa1 r48 (((0 ≤ (2 : Int) ∧ (2 : Int) < ((ByteArray.size f : Nat) : Int)) ∧ (M.qdz (bt f 2) i.C n ∧ ∀ r58, r58 = M.qaJ (bt f 2) i.C n → P r58))) (P false)))) (P false)))) (P false))) (P false) := by
 refine qaH (qq5 hf) fun r1 h1 => qa2 (fun e1 => ⟨by omega, trivial, fun r2 h2 => qa2 (fun e2 => ⟨by omega, trivial, fun r3 h3 => qa2 (fun e3 => ⟨by omega, trivial, fun r4 h4 => ?_⟩) fun e3 => ?_⟩) fun e2 => ?_⟩) fun e1 => hin (h1.symm.trans e1)
 all_goals have hh := h (h1.symm.trans e1)
 ·rw [hx] at h2; rw [hy] at h3; rw [hz] at h4
  rw [← h2, ← h3, ← h4, e2, e3] at hh; exact hh
 ·rw [hx] at h2; rw [hy] at h3
  rw [← h2, ← h3, e2, e3] at hh; exact hh
 ·rw [hx] at h2
  rw [← h2, e2] at hh; exact hh
theorem wp.qba.math (i : D.Ins) (n : Int) : wp.qba i n (fun r => r = M.qba i n) := by
 intro r hr
 have hr' : r = M.qht i.Op := hr
 rcases qly i.Op with ⟨e, h⟩ | ⟨e, h⟩ | ⟨e, h⟩ | ⟨e, h⟩ | ⟨e, h⟩ | ⟨e, h⟩ | ⟨e, h⟩ | ⟨e, h⟩
 case inr.inr.inr.inr.inr.inr.inr =>
  rw [hr', e]
  refine qaA (by simp) ?_
  simp only [M.qba, M.qdD]
  rw [if_neg (by omega), if_neg (by omega), if_neg (by omega), if_neg (by omega), if_neg (by omega), if_neg (by omega)]
  have : M.isIn i.Op 3 9 = false := by simp [M.isIn]; omega
  simp [this]
 ·rw [hr', e]
  refine qhq (x := 45) (y := 45) (z := 45) (P := fun r => r = M.qba i n) (by decide +kernel) (by decide +kernel) (by decide +kernel) rfl (by decide +kernel) (fun hn => by simp [M.qba, M.qdD, hn]) fun hn => ?_
  simp only [M.qba, M.qdD, hn, Bool.true_and]
  rw [if_pos h]
  simp [M.qaJ]
 ·rw [hr', e]
  refine qhq (x := 82) (y := 87) (z := 45) (P := fun r => r = M.qba i n) (by decide +kernel) (by decide +kernel) (by decide +kernel) rfl (by decide +kernel) (fun hn => by simp [M.qba, M.qdD, hn]) fun hn => ?_
  simp only [M.qba, M.qdD, hn, Bool.true_and]
  rw [if_neg (by omega), if_pos h]
  simp [M.qaJ]
 ·rw [hr', e]
  refine qhq (x := 82) (y := 82) (z := 45) (P := fun r => r = M.qba i n) (by decide +kernel) (by decide +kernel) (by decide +kernel) rfl (by decide +kernel) (fun hn => by simp [M.qba, M.qdD, hn]) fun hn => ?_
  simp only [M.qba, M.qdD, hn, Bool.true_and]
  rw [if_neg (by omega), if_neg (by omega), if_pos h]
  simp [M.qaJ]
 ·rw [hr', e]
  refine qhq (x := 82) (y := 45) (z := 45) (P := fun r => r = M.qba i n) (by decide +kernel) (by decide +kernel) (by decide +kernel) rfl (by decide +kernel) (fun hn => by simp [M.qba, M.qdD, hn]) fun hn => ?_
  simp only [M.qba, M.qdD, hn, Bool.true_and]
  rw [if_neg (by omega), if_neg (by omega), if_neg (by omega), if_pos h]
  simp [M.qaJ]
 ·rw [hr', e]
  refine qhq (x := 82) (y := 84) (z := 45) (P := fun r => r = M.qba i n) (by decide +kernel) (by decide +kernel) (by decide +kernel) rfl (by decide +kernel) (fun hn => by simp [M.qba, M.qdD, hn]) fun hn => ?_
  simp only [M.qba, M.qdD, hn, Bool.true_and]
  rw [if_neg (by omega), if_neg (by omega), if_neg (by omega), if_neg (by omega), if_pos h]
  simp [M.qaJ]
 ·rw [hr', e]
  refine qhq (x := 45) (y := 84) (z := 45) (P := fun r => r = M.qba i n) (by decide +kernel) (by decide +kernel) (by decide +kernel) rfl (by decide +kernel) (fun hn => by simp [M.qba, M.qdD, hn]) fun hn => ?_
  simp only [M.qba, M.qdD, hn, Bool.true_and]
  rw [if_neg (by omega), if_neg (by omega), if_neg (by omega), if_neg (by omega), if_neg (by omega), if_pos h]
  simp [M.qaJ]
 ·rw [hr', e]
  refine qhq (x := 82) (y := 82) (z := 82) (P := fun r => r = M.qba i n) (by decide +kernel) (by decide +kernel) (by decide +kernel) rfl (by decide +kernel) (fun hn => by simp [M.qba, M.qdD, hn]) fun hn => ?_
  simp only [M.qba, M.qdD, hn, Bool.true_and]
  rw [if_neg (by omega), if_neg (by omega), if_neg (by omega), if_neg (by omega), if_neg (by omega), if_neg (by omega)]
  have : M.isIn i.Op 3 9 = true := by simp [M.isIn]; omega
  simp [M.qaJ, this]
theorem wp.qbE.math (i : D.Ins) (p : List D.Ins) : wp.qbE i p (fun r => r = M.qbE i p) := fun r hr => by rw [hr]; rfl
theorem wp.qac.math (l : List D.Ins) (g : D.Ins → Bool) (D : D.Ins → Prop) (h : M.qd4 l g D) : wp.qac l g D (fun r => r = M.qac l g) := by
 unfold wp.qac
 obtain ⟨h1, h2⟩ := h
 refine qcS l.length (fun k => ((k : Int), ())) (fun k => M.qac l g = M.qeC g (l.drop k) k) rfl (by simp [M.qac]) (fun k hk hF next hn => ?_) fun hF next => ?_
 ·rw [qhG g l k hk] at hF
  refine qaH (by simp; omega) ⟨by omega, h2 _ (qgj hk), fun r hr => qa2 (fun e => ?_) fun e => ?_⟩
  ·rw [hF, if_pos (by rw [← hr]; exact e)]
  ·rw [up64 hk h1]
   exact hn (by rw [hF, if_neg (by rw [← hr, e]; simp)])
 ·refine qaA (by simp) ?_
  rw [hF]; simp [M.qeC]
theorem wp.qad.math (l : List D.Ins) (g : D.Ins → Bool) (D : D.Ins → Prop) (h : M.qcI l g D) : wp.qad l g D (fun r => r = M.qad l g) :=
 ⟨h, fun r hr => by rw [hr]; exact qgg g l 0⟩
theorem wp.qbn.math (p : List D.Ins) (h : M.qel p) : wp.qbn p (fun r => r = M.qbn p) := by
 refine qa2 (fun e => ⟨⟨h, fun _ _ => trivial⟩, fun r hr => ?_⟩) fun e => ?_
 ·have h32 : p.length ≤ 32 := by simp at e; omega
  rw [hr]
  simp only [M.qad, M.qbn, M.qb6, M.qbE, ← List.all_eq_not_any_not, h32, decide_true, Bool.true_and]
 ·have h32 : ¬ p.length ≤ 32 := by simp at e; omega
  simp [M.qbn, M.qb6, h32]
theorem wp.qc0.math (a b : Int) : wp.qc0 a b (fun r => r = M.qc0 a b) := by
 intro r1 h1
 refine qa2 (fun e1 => ?_) fun e1 r2 h2 => qa2 (fun e2 => ?_) fun e2 r3 h3 => ?_
 ·have : M.isWord a = false := nt e1 h1
  simp [M.qc0, M.subW, this]
 ·have : M.isWord b = false := nt e2 h2
  simp [M.qc0, M.subW, this]
 ·have ha : M.isWord a = true := nf e1 h1
  have hb : M.isWord b = true := nf e2 h2
  have := qdP.1 ha
  have := qdP.1 hb
  rw [h3, w64 (by omega) (by omega)]
  simp [M.qc0, M.subW, M.qbA, ha, hb]
theorem qlM {a b : Int} (ha : 0 ≤ a ∧ a ≤ 65535) (hb : 0 ≤ b ∧ b ≤ 65535) : 0 ≤ a * b ∧ a * b ≤ 4294836225 :=
 ⟨Int.mul_nonneg ha.1 hb.1, by have := Int.mul_le_mul ha.2 hb.2 hb.1 (by omega : (0 : Int) ≤ 65535); omega⟩
theorem wp.qc9.math (a b : Int) : wp.qc9 a b (fun r => r = M.qc9 a b) := by
 intro r1 h1
 refine qa2 (fun e1 => ?_) fun e1 r2 h2 => qa2 (fun e2 => ?_) fun e2 r3 h3 => ?_
 ·have : M.isWord a = false := nt e1 h1
  simp [M.qc9, M.mulW, this]
 ·have : M.isWord b = false := nt e2 h2
  simp [M.qc9, M.mulW, this]
 ·have ha : M.isWord a = true := nf e1 h1
  have hb : M.isWord b = true := nf e2 h2
  have := qlM (qdP.1 ha) (qdP.1 hb)
  rw [h3, w64 (by omega) (by omega)]
  simp [M.qc9, M.mulW, M.qbA, ha, hb]
theorem wp.qbm.math (a b : Int) : wp.qbm a b (fun r => r = M.qbm a b) := by
 intro r1 h1
 refine qa2 (fun e1 r2 h2 => qa2 (fun e2 => qa2 (fun e3 => ?_) fun e3 => ?_) fun e2 => ?_) fun e1 => ?_
 ·have ha : M.isWord a = true := h1.symm.trans e1
  have hb : M.isWord b = true := h2.symm.trans e2
  simp at e3; simp [M.qbm, M.ql1, ha, hb, e3]
 ·simp at e3; simp [M.qbm, M.ql1]; omega
 ·have hb : M.isWord b = false := h2.symm.trans e2
  simp [M.qbm, M.ql1, hb]
 ·have ha : M.isWord a = false := h1.symm.trans e1
  simp [M.qbm, M.ql1, ha]
theorem wp.qck.math (a b : Int) : wp.qck a b (fun r => r = M.qck a b) := wp.qbm.math a b
theorem wp.qcu.math (a b : Int) : wp.qcu a b (fun r => r = M.qcu a b) := by
 intro r hr
 rw [hr]
 simp only [M.qbs, M.qcu, M.subW]
 by_cases h : (M.isWord a && M.isWord b) = true
 ·rw [if_pos h, if_pos h]
  simp only [Bool.and_eq_true, qdP] at h
  rw [w64 (by omega) (by omega)]
 ·rw [if_neg h, if_neg h]
theorem wp.qcv.math (a b : Int) : wp.qcv a b (fun r => r = M.qcv a b) := by
 intro r hr
 rw [hr]
 simp only [M.qbs, M.qcv, M.mulW]
 by_cases h : (M.isWord a && M.isWord b) = true
 ·rw [if_pos h, if_pos h]
  simp only [Bool.and_eq_true, qdP] at h
  have := qlM h.1 h.2
  rw [w64 (by omega) (by omega)]
 ·rw [if_neg h, if_neg h]
theorem qgk {x : Int} : M.qgD x = true ↔ 0 ≤ x ∧ x ≤ 3 := by simp [M.qgD, M.isIn]
theorem qjD {i : D.Ins} {r : List Int} (h : M.Fits i r) : r.length = 4 ∧ (1 ≤ i.Op ∧ i.Op ≤ 10 → 0 ≤ i.A ∧ i.A ≤ 3) ∧ (2 ≤ i.Op ∧ i.Op ≤ 7 ∨ i.Op = 9 → 0 ≤ i.B ∧ i.B ≤ 3) ∧ (3 ≤ i.Op ∧ i.Op ≤ 7 ∨ i.Op = 9 → 0 ≤ i.C ∧ i.C ≤ 3) := by
 obtain ⟨hl, n, hok⟩ := h
 simp only [M.qdD, Bool.and_eq_true] at hok
 have hok := hok.2
 split at hok
 ·exact ⟨hl, by omega, by omega, by omega⟩
 split at hok
 ·simp only [Bool.and_eq_true, qgk] at hok
  exact ⟨hl, fun _ => hok.1, by omega, by omega⟩
 split at hok
 ·simp only [Bool.and_eq_true, qgk] at hok
  exact ⟨hl, fun _ => hok.1, fun _ => hok.2.1, by omega⟩
 split at hok
 ·simp only [Bool.and_eq_true, qgk] at hok
  exact ⟨hl, fun _ => hok.1, by omega, by omega⟩
 split at hok
 ·simp only [Bool.and_eq_true, qgk] at hok
  exact ⟨hl, fun _ => hok.1, by omega, by omega⟩
 split at hok
 ·exact ⟨hl, by omega, by omega, by omega⟩
 ·simp only [Bool.and_eq_true, qgk] at hok
  exact ⟨hl, fun _ => hok.2.1, fun _ => hok.2.2.1, fun _ => hok.2.2.2⟩
theorem qdf {r : List Int} {x : Int} (hl : r.length = 4) (h : 0 ≤ x ∧ x ≤ 3) : 0 ≤ x ∧ x < (r.length : Int) := by omega
theorem wp.qb7.math (i : D.Ins) (t : Int) (r : List Int) (h : M.qg5 i t r) : wp.qb7 i t r (fun x => x = M.qb7 i t r) := by
 obtain ⟨hl, hA, hB, hC⟩ := qjD h
 simp only [wp.qb7, List.nil_append, List.length_nil, forall_eq]
 refine ⟨by omega, ?_⟩
 refine qa2 (fun e => ?_) fun n1 => qa2 (fun e => ?_) fun n2 => qa2 (fun e => ?_) fun n3 => qa2 (fun e => ?_) fun n4 => qa2 (fun e => ?_) fun n5 => qa2 (fun e => ?_) fun n6 => qa2 (fun e => ?_) fun n7 => qa2 (fun e => ?_) fun n8 => qa2 (fun e => ?_) fun n9 => ?_
 ·have hk : i.Op = 1 := by simpa using e
  exact ⟨qdf hl (hA (by omega)), by simp [M.qb7, M.apply, hk]⟩
 ·have hk : i.Op = 2 := by simpa using e
  exact ⟨qdf hl (hB (by omega)), qdf hl (hA (by omega)), by simp [M.qb7, M.apply, hk]⟩
 ·have hk : i.Op = 3 := by simpa using e
  exact ⟨qdf hl (hB (by omega)), qdf hl (hC (by omega)), qdf hl (hA (by omega)), by simp [M.qb7, M.apply, hk, M.qby, M.qc7]⟩
 ·have hk : i.Op = 4 := by simpa using e
  exact ⟨qdf hl (hB (by omega)), qdf hl (hC (by omega)), qdf hl (hA (by omega)), by simp [M.qb7, M.apply, hk, M.qc0, M.qcu]⟩
 ·have hk : i.Op = 5 := by simpa using e
  exact ⟨qdf hl (hB (by omega)), qdf hl (hC (by omega)), qdf hl (hA (by omega)), by simp [M.qb7, M.apply, hk, M.qc9, M.qcv]⟩
 ·have hk : i.Op = 6 := by simpa using e
  exact ⟨qdf hl (hB (by omega)), qdf hl (hC (by omega)), qdf hl (hA (by omega)), by simp [M.qb7, M.apply, hk]⟩
 ·have hk : i.Op = 7 := by simpa using e
  exact ⟨qdf hl (hB (by omega)), qdf hl (hC (by omega)), qdf hl (hA (by omega)), by simp [M.qb7, M.apply, hk, M.qbm, M.qck]⟩
 ·have hk : i.Op = 8 := by simpa using e
  exact ⟨qdf hl (hA (by omega)), by simp [M.qb7, M.apply, hk]⟩
 ·have hk : i.Op = 9 := by simpa using e
  refine ⟨qdf hl (hC (by omega)), qa2 (fun e2 => ⟨qdf hl (hB (by omega)), qdf hl (hA (by omega)), ?_⟩) fun e2 => ?_⟩
  ·have h2 : ¬ rd r i.C = 0 := by simpa using e2
   simp [M.qb7, M.apply, hk, h2]
  ·have h2 : rd r i.C = 0 := by simpa using e2
   simp [M.qb7, M.apply, hk, h2]
 ·simp at n1 n2 n3 n4 n5 n6 n7 n8 n9
  simp [M.qb7, M.apply, n1, n2, n3, n4, n5, n6, n7, n8, n9]
theorem qkl {α : Type} [Inhabited α] {xs : List α} {i : Int} (h0 : 0 ≤ i) (h1 : i < (xs.length : Int)) : rd xs i ∈ xs := by
 obtain ⟨k, rfl⟩ := Int.eq_ofNat_of_zero_le h0
 exact qgj (by omega)
theorem qig (i : D.Ins) (t : Int) (r : List Int) : (M.apply i t r).length = r.length := by
 unfold M.apply
 (repeat' split) <;> simp
end Go.V
namespace Go.V
open IntKind (wrap)
def wp.qbD (b : Int) (Q : Bool → Prop) : Prop :=
 (∀ a, a = M.qar b 0 2 → Q a)
def wp.qaZ (b : List Int) (c : Int) (Q : Int → Prop) : Prop :=
 qcV (σ := Int × Unit) (fun (d : Int × Unit) e => match d with | (a, _) => qa1 (decide (a < (b.length : Int))) (((0 ≤ a ∧ a < (b.length : Int)) ∧ qa1 (c == (rd b a)) (Q a) (e ((wrap .i64 (a + 1)), ())))) (Q (-1))) (0, ())
def wp.qb4 (a : List Int) (b : Int) (Q : Bool → Prop) : Prop :=
 (M.qes a b ∧ ∀ c, c = M.qaZ a b → Q (decide (c ≥ 0)))
end Go.V
namespace Go.V
open IntKind (wrap)
theorem wp.qbD.math (x : Int) : wp.qbD x (fun r => r = M.qbD x) := fun r hr => hr
theorem wp.qaZ.math (l : List Int) (x : Int) (h : M.qes l x) : wp.qaZ l x (fun r => r = M.qaZ l x) := by
 unfold wp.qaZ
 refine qcS l.length (fun k => ((k : Int), ())) (fun k => M.qaZ l x = M.qeC (fun y => x == y) (l.drop k) k) rfl (by simp [M.qaZ]) (fun k hk hF next hn => ?_) fun hF next => ?_
 ·rw [qhG _ l k hk] at hF
  refine qaH (by simp; omega) ⟨by omega, qa2 (fun e => ?_) fun e => ?_⟩
  ·rw [hF, if_pos e]
  ·rw [up64 hk h]
   exact hn (by rw [hF, if_neg (by rw [e]; simp)])
 ·refine qaA (by simp) ?_
  rw [hF]; simp [M.qeC]
theorem wp.qb4.math (l : List Int) (x : Int) (h : M.qee l x) : wp.qb4 l x (fun r => r = M.qb4 l x) :=
 ⟨h, fun r hr => by rw [hr]; exact qgg _ l 0⟩
end Go.V
namespace Go.V
open IntKind (wrap)
def wp.qb8 (a : List Int) (Q : D.Cur → Prop) : Prop :=
 qcV (σ := Int × Int × Unit) (fun (d : Int × Int × Unit) e => match d with | (c, b, _) => qa1 (decide (b < (a.length : Int))) (qa1 (decide (b < 4000)) (((0 ≤ b ∧ b < (a.length : Int)) ∧ e ((qdU .i64 (wrap .i64 ((wrap .i64 ((wrap .i64 (c * 131)) + (wrap .i64 (rd a b)))) + 7)) 1073741823), (wrap .i64 (b + 1)), ()))) (Q (⟨a, 0, c⟩ : D.Cur))) (Q (⟨a, 0, c⟩ : D.Cur))) ((wrap .i64 (98561 + (a.length : Int))), 0, ())
def wp.qah (a : D.Cur) (Q : (Int × D.Cur) → Prop) : Prop :=
 qa1 (decide (a.i < (a.b.length : Int))) (((0 ≤ a.i ∧ a.i < (a.b.length : Int)) ∧ Q ((qdU .i64 (wrap .i64 ((qdU .i64 (qgX .i64 (Int.fdiv (wrap .i64 ((wrap .i64 (a.h * 6364136223846793005)) + 1442695040888963407)) (2 ^ (min ((33 : Int).toNat) (IntKind.bits .i64)))) (Int.fdiv (wrap .i64 ((wrap .i64 (a.h * 6364136223846793005)) + 1442695040888963407)) (2 ^ (min ((45 : Int).toNat) (IntKind.bits .i64))))) 255) + (wrap .i64 (rd a.b a.i)))) 255), (⟨a.b, (wrap .i64 (a.i + 1)), (wrap .i64 ((wrap .i64 (a.h * 6364136223846793005)) + 1442695040888963407))⟩ : D.Cur)))) (Q ((qdU .i64 (qgX .i64 (Int.fdiv (wrap .i64 ((wrap .i64 (a.h * 6364136223846793005)) + 1442695040888963407)) (2 ^ (min ((33 : Int).toNat) (IntKind.bits .i64)))) (Int.fdiv (wrap .i64 ((wrap .i64 (a.h * 6364136223846793005)) + 1442695040888963407)) (2 ^ (min ((45 : Int).toNat) (IntKind.bits .i64))))) 255), (⟨a.b, a.i, (wrap .i64 ((wrap .i64 (a.h * 6364136223846793005)) + 1442695040888963407))⟩ : D.Cur)))
def wp.qa0 (a : D.Cur) (c : Int) (Q : (Int × D.Cur) → Prop) : Prop :=
 qa1 (decide (c ≤ 0)) (Q (0, (⟨a.b, a.i, a.h⟩ : D.Cur))) (qa1 (decide (c ≤ 256)) ((M.qdZ a ∧ ∀ g, g = M.qah a → (((c : Int) ≠ 0) ∧ Q ((Int.tmod g.1 c), (⟨a.b, g.2.i, g.2.h⟩ : D.Cur))))) ((M.qdZ a ∧ ∀ d, d = M.qah a → (M.qdZ (⟨a.b, d.2.i, d.2.h⟩ : D.Cur) ∧ ∀ e, e = M.qah (⟨a.b, d.2.i, d.2.h⟩ : D.Cur) → (M.qdZ (⟨a.b, e.2.i, e.2.h⟩ : D.Cur) ∧ ∀ f, f = M.qah (⟨a.b, e.2.i, e.2.h⟩ : D.Cur) → (M.qdZ (⟨a.b, f.2.i, f.2.h⟩ : D.Cur) ∧ ∀ j, j = M.qah (⟨a.b, f.2.i, f.2.h⟩ : D.Cur) → (((c : Int) ≠ 0) ∧ Q ((Int.tmod (wrap .i64 ((wrap .i64 ((wrap .i64 ((wrap .i64 (d.1 * 16777216)) + (wrap .i64 (e.1 * 65536)))) + (wrap .i64 (f.1 * 256)))) + j.1)) c), (⟨a.b, j.2.i, j.2.h⟩ : D.Cur)))))))))
def wp.qau (d : D.Cur) (c : List Int) (Q : (Int × D.Cur) → Prop) : Prop :=
 (M.qav d (c.length : Int) ∧ ∀ a, a = M.qa0 d (c.length : Int) → ((0 ≤ a.1 ∧ a.1 < (c.length : Int)) ∧ Q ((rd c a.1), (⟨d.b, a.2.i, a.2.h⟩ : D.Cur))))
def wp.qaG (c : D.Cur) (Q : (D.Ins × D.Cur) → Prop) : Prop :=
 (M.qav c 9 ∧ ∀ d, d = M.qa0 c 9 → (M.qav (⟨c.b, d.2.i, d.2.h⟩ : D.Cur) 4 ∧ ∀ a, a = M.qa0 (⟨c.b, d.2.i, d.2.h⟩ : D.Cur) 4 → qa1 ((wrap .i64 (1 + d.1)) == 1) ((M.qav (⟨c.b, a.2.i, a.2.h⟩ : D.Cur) 6 ∧ ∀ f, f = M.qa0 (⟨c.b, a.2.i, a.2.h⟩ : D.Cur) 6 → Q ((⟨(wrap .i64 (1 + d.1)), a.1, f.1, 0⟩ : D.Ins), (⟨c.b, f.2.i, f.2.h⟩ : D.Cur)))) (qa1 ((wrap .i64 (1 + d.1)) == 8) (Q ((⟨(wrap .i64 (1 + d.1)), a.1, 0, 0⟩ : D.Ins), (⟨c.b, a.2.i, a.2.h⟩ : D.Cur))) (qa1 ((wrap .i64 (1 + d.1)) == 2) ((M.qav (⟨c.b, a.2.i, a.2.h⟩ : D.Cur) 4 ∧ ∀ g, g = M.qa0 (⟨c.b, a.2.i, a.2.h⟩ : D.Cur) 4 → Q ((⟨(wrap .i64 (1 + d.1)), a.1, g.1, 0⟩ : D.Ins), (⟨c.b, g.2.i, g.2.h⟩ : D.Cur)))) ((M.qav (⟨c.b, a.2.i, a.2.h⟩ : D.Cur) 4 ∧ ∀ e, e = M.qa0 (⟨c.b, a.2.i, a.2.h⟩ : D.Cur) 4 → (M.qav (⟨c.b, e.2.i, e.2.h⟩ : D.Cur) 4 ∧ ∀ j, j = M.qa0 (⟨c.b, e.2.i, e.2.h⟩ : D.Cur) 4 → Q ((⟨(wrap .i64 (1 + d.1)), a.1, e.1, j.1⟩ : D.Ins), (⟨c.b, j.2.i, j.2.h⟩ : D.Cur)))))))))
def wp.qbY (a : D.Cur) (Q : (Int × D.Cur) → Prop) : Prop :=
 (M.qav a 9 ∧ ∀ c, c = M.qa0 a 9 → (M.qav (⟨a.b, c.2.i, c.2.h⟩ : D.Cur) 9000 ∧ ∀ d, d = M.qa0 (⟨a.b, c.2.i, c.2.h⟩ : D.Cur) 9000 → (M.qeb (⟨a.b, d.2.i, d.2.h⟩ : D.Cur) ([0, 1, 2, 7, 100, 65535, 32768, c.1, d.1] : List Int) ∧ ∀ e, e = M.qau (⟨a.b, d.2.i, d.2.h⟩ : D.Cur) ([0, 1, 2, 7, 100, 65535, 32768, c.1, d.1] : List Int) → Q (e.1, (⟨a.b, e.2.i, e.2.h⟩ : D.Cur)))))
def wp.qbt (a : D.Cur) (j : Int) (Q : ((List Int) × D.Cur) → Prop) : Prop :=
 qcV (σ := (List Int) × Int × Int × Int × Unit) (fun (k : (List Int) × Int × Int × Int × Unit) l => match k with | (d, g, e, f, _) => qa1 (decide (g < j)) ((M.qgu (⟨a.b, e, f⟩ : D.Cur) ∧ ∀ c, c = M.qbY (⟨a.b, e, f⟩ : D.Cur) → ((d.length + ([c.1] : List Int).length ≤ 17179869184) ∧ l ((d ++ ([c.1] : List Int)), (wrap .i64 (g + 1)), c.2.i, c.2.h, ())))) (Q (d, (⟨a.b, e, f⟩ : D.Cur)))) (([] : List Int), 0, a.i, a.h, ())
def wp.qbq (b : List Int) (Q : (List Int) → Prop) : Prop :=
 (M.qfH b ∧ ∀ c, c = M.qb8 b → qcV (σ := (List Int) × Int × Int × Int × Unit) (fun (j : (List Int) × Int × Int × Int × Unit) k => match j with | (d, e, f, g, _) => qa1 (decide (e < 12)) ((M.qav (⟨b, f, g⟩ : D.Cur) 10000 ∧ ∀ a, a = M.qa0 (⟨b, f, g⟩ : D.Cur) 10000 → ((d.length + ([a.1] : List Int).length ≤ 17179869184) ∧ k ((d ++ ([a.1] : List Int)), (wrap .i64 (e + 1)), a.2.i, a.2.h, ())))) (Q d)) (([] : List Int), 0, c.i, c.h, ()))
def wp.qfd (a : List Int) (Q : Bool → Prop) : Prop :=
 Q (decide ((a.length : Int) > 1048576))
end Go.V
namespace Go.V
open IntKind (wrap)
theorem qkD (x : Int) : qdU .i64 x 255 = x % 256 := by
 unfold qdU
 have e1 : (BitVec.ofInt (IntKind.bits .i64) x &&& BitVec.ofInt (IntKind.bits .i64) 255).toNat = (x % 256).toNat := by
  show (BitVec.ofInt 64 x &&& BitVec.ofInt 64 255).toNat = _
  rw [BitVec.toNat_and, BitVec.toNat_ofInt, show (BitVec.ofInt 64 255).toNat = 2 ^ 8 - 1 from rfl, Nat.and_two_pow_sub_one_eq_mod]
  rw [show ((2 ^ 64 : Nat) : Int) = 18446744073709551616 from rfl]
  omega
 rw [e1, w64 (by omega) (by omega)]
 omega
theorem qjj (c : D.Cur) : 0 ≤ (M.qah c).1 ∧ (M.qah c).1 ≤ 255 := by
 unfold M.qah
 split
 ·show 0 ≤ qdU .i64 _ 255 ∧ qdU .i64 _ 255 ≤ 255
  rw [qkD]; omega
 ·show 0 ≤ M.curX _ ∧ M.curX _ ≤ 255
  unfold M.curX
  rw [qkD]; omega
theorem qjQ (c : D.Cur) : (M.qah c).2.b = c.b := by unfold M.qah; split <;> rfl
theorem qhw {c : D.Cur} (h : M.qdL c) : M.qdL (M.qah c).2 := by
 obtain ⟨h1, h2⟩ := h
 refine ⟨?_, by rw [qjQ]; exact h2⟩
 unfold M.Long at h2
 unfold M.qah
 split
 ·rename_i hlt
  show 0 ≤ wrap .i64 (c.i + 1)
  rw [w64 (by omega) (by omega)]; omega
 ·exact h1
theorem qco (c : D.Cur) (n : Int) : (M.qa0 c n).2.b = c.b := by
 unfold M.qa0
 (repeat' split) <;> simp only [qjQ]
theorem qbz {c : D.Cur} (h : M.qdL c) (n : Int) : M.qdL (M.qa0 c n).2 := by
 unfold M.qa0
 split
 ·exact h
 split
 ·exact qhw h
 ·exact qhw (qhw (qhw (qhw h)))
theorem qml {x n : Int} (hx : 0 ≤ x) (hn : 0 < n) : 0 ≤ Int.tmod x n ∧ Int.tmod x n < n :=
 ⟨Int.tmod_nonneg _ hx, Int.tmod_lt_of_pos _ hn⟩
theorem qdi (c : D.Cur) {n : Int} (hn : 0 < n) : 0 ≤ (M.qa0 c n).1 ∧ (M.qa0 c n).1 < n := by
 unfold M.qa0
 rw [if_neg (by omega)]
 split
 ·exact qml (qjj c).1 hn
 ·refine qml ?_ hn
  have h1 := qjj c
  have h2 := qjj (M.qah c).2
  have h3 := qjj (M.qah (M.qah c).2).2
  have h4 := qjj (M.qah (M.qah (M.qah c).2).2).2
  rw [w64 (x := (M.qah c).1 * 16777216) (by omega) (by omega), w64 (x := (M.qah (M.qah c).2).1 * 65536) (by omega) (by omega),
   w64 (x := (M.qah (M.qah (M.qah c).2).2).1 * 256) (by omega) (by omega), w64 (x := _ + (M.qah (M.qah c).2).1 * 65536) (by omega) (by omega),
   w64 (x := _ + (M.qah (M.qah (M.qah c).2).2).1 * 256) (by omega) (by omega), w64 (by omega) (by omega)]
  omega
set_option maxRecDepth 20000 in
theorem wp.qb8.math (b : List Int) (h : M.qfH b) : wp.qb8 b (fun r => r = M.qb8 b) := by
 unfold wp.qb8
 have hl : b.length ≤ 9223372036854775807 := h
 let h0 := wrap .i64 (98561 + (b.length : Int))
 refine qcS (min b.length 4000) (fun k => ((b.take k).foldl M.qmh h0, (k : Int), ())) (fun _ => True) rfl trivial (fun k hk _ next hn => ?_) fun _ next => ?_
 ·have hk1 : k < b.length := by omega
  have hn := hn trivial
  rw [List.take_add_one, List.getElem?_eq_getElem hk1, Option.toList_some, List.foldl_append] at hn
  refine qaH (by simp; omega) (qaH (by simp; omega) ⟨by omega, ?_⟩)
  rw [up64 hk1 hl, qcU hk1]
  exact hn
 ·have fin : (⟨b, 0, (b.take (min b.length 4000)).foldl M.qmh h0⟩ : D.Cur) = M.qb8 b := by
    unfold M.qb8
    congr 2
    rcases Nat.le_total b.length 4000 with g | g
    ·rw [Nat.min_eq_left g, List.take_length, List.take_of_length_le g]
    ·rw [Nat.min_eq_right g]
  by_cases g : b.length ≤ 4000
  ·exact qaA (by simp; omega) fin
  ·exact qaH (by simp; omega) (qaA (by simp; omega) fin)
theorem wp.qah.math (c : D.Cur) (h : M.qdZ c) : wp.qah c (fun r => r = M.qah c) := by
 obtain ⟨h1, h2⟩ := h
 refine qa2 (fun e => ⟨⟨h1, by simpa using e⟩, ?_⟩) fun e => ?_
 ·have e : c.i < (c.b.length : Int) := by simpa using e
  unfold M.qah
  rw [if_pos e]; rfl
 ·have e : ¬ c.i < (c.b.length : Int) := by simpa using e
  unfold M.qah
  rw [if_neg e]; rfl
theorem qcx {c d : D.Cur} (h : d.b = c.b) : (⟨c.b, d.i, d.h⟩ : D.Cur) = d := by rw [← h]
theorem wp.qau.math (c : D.Cur) (l : List Int) (h : M.qeb c l) : wp.qau c l (fun r => r = M.qau c l) := by
 obtain ⟨h1, h2, h3⟩ := h
 have hpos : (0 : Int) < (l.length : Int) := by have := List.length_pos_iff.2 h2; omega
 refine ⟨h1, fun r hr => ?_⟩
 have := qdi c hpos
 refine ⟨by rw [hr]; exact this, ?_⟩
 rw [hr, qcx (qco c _)]; rfl
theorem wp.qa0.math (c : D.Cur) (n : Int) (h : M.qav c n) : wp.qa0 c n (fun r => r = M.qa0 c n) := by
 refine qa2 (fun e => ?_) fun e => qa2 (fun e2 => ⟨h, fun r hr => ⟨?_, ?_⟩⟩) fun e2 => ?_
 ·have e : n ≤ 0 := by simpa using e
  unfold M.qa0; rw [if_pos e]
 ·simp at e; omega
 ·have e : ¬ n ≤ 0 := by simpa using e
  have e2 : n ≤ 256 := by simpa using e2
  unfold M.qa0; rw [if_neg e, if_pos e2, hr, qcx (qjQ c)]
 ·have e : ¬ n ≤ 0 := by simpa using e
  have e2 : ¬ n ≤ 256 := by simpa using e2
  have h1 := qhw h
  have h2 := qhw h1
  have h3 := qhw h2
  have b1 := qjQ c
  have b2 : (M.qah (M.qah c).2).2.b = c.b := (qjQ _).trans b1
  have b3 : (M.qah (M.qah (M.qah c).2).2).2.b = c.b := (qjQ _).trans b2
  have b4 : (M.qah (M.qah (M.qah (M.qah c).2).2).2).2.b = c.b := (qjQ _).trans b3
  refine ⟨h, fun r1 g1 => ?_⟩
  subst g1
  rw [qcx b1]
  refine ⟨h1, fun r2 g2 => ?_⟩
  subst g2
  rw [qcx b2]
  refine ⟨h2, fun r3 g3 => ?_⟩
  subst g3
  rw [qcx b3]
  refine ⟨h3, fun r4 g4 => ⟨by omega, ?_⟩⟩
  subst g4
  rw [qcx b4]
  unfold M.qa0; rw [if_neg e, if_neg e2]
theorem wp.qaG.math (c : D.Cur) (h : M.qeX c) : wp.qaG c (fun r => r = M.qaG c) := by
 refine ⟨h, fun r1 g1 => ?_⟩
 subst g1
 rw [qcx (qco c 9)]
 refine ⟨qbz h 9, fun r2 g2 => ?_⟩
 subst g2
 have b2 : (M.qa0 (M.qa0 c 9).2 4).2.b = c.b := (qco _ _).trans (qco _ _)
 have h2 := qbz (qbz h 9) 4
 rw [qcx b2]
 have cut : ∀ (n : Int), (⟨c.b, (M.qa0 (M.qa0 (M.qa0 c 9).2 4).2 n).2.i, (M.qa0 (M.qa0 (M.qa0 c 9).2 4).2 n).2.h⟩ : D.Cur) = (M.qa0 (M.qa0 (M.qa0 c 9).2 4).2 n).2 := fun n => qcx ((qco _ _).trans b2)
 refine qa2 (fun e => ⟨h2, fun r3 g3 => ?_⟩) fun e1 => qa2 (fun e => ?_) fun e8 => qa2 (fun e => ⟨h2, fun r3 g3 => ?_⟩) fun e2 => ⟨h2, fun r3 g3 => ?_⟩
 ·subst g3
  rw [cut]
  have e : wrap .i64 (1 + (M.qa0 c 9).1) = 1 := by simpa using e
  simp only [M.qaG]; rw [if_pos e]
 ·have e1 : ¬ wrap .i64 (1 + (M.qa0 c 9).1) = 1 := by simpa using e1
  have e : wrap .i64 (1 + (M.qa0 c 9).1) = 8 := by simpa using e
  simp only [M.qaG]; rw [if_neg e1, if_pos e]
 ·subst g3
  rw [cut]
  have e1 : ¬ wrap .i64 (1 + (M.qa0 c 9).1) = 1 := by simpa using e1
  have e8 : ¬ wrap .i64 (1 + (M.qa0 c 9).1) = 8 := by simpa using e8
  have e : wrap .i64 (1 + (M.qa0 c 9).1) = 2 := by simpa using e
  simp only [M.qaG]; rw [if_neg e1, if_neg e8, if_pos e]
 ·subst g3
  rw [cut]
  refine ⟨qbz h2 4, fun r4 g4 => ?_⟩
  subst g4
  rw [qcx ((qco _ _).trans ((qco _ _).trans b2))]
  have e1 : ¬ wrap .i64 (1 + (M.qa0 c 9).1) = 1 := by simpa using e1
  have e8 : ¬ wrap .i64 (1 + (M.qa0 c 9).1) = 8 := by simpa using e8
  have e2 : ¬ wrap .i64 (1 + (M.qa0 c 9).1) = 2 := by simpa using e2
  simp only [M.qaG]; rw [if_neg e1, if_neg e8, if_neg e2]
theorem qlC (c : D.Cur) (l : List Int) : (M.qau c l).2.b = c.b := qco _ _
theorem qkP {c : D.Cur} (h : M.qdL c) (l : List Int) : M.qdL (M.qau c l).2 := qbz h _
theorem qpY (c : D.Cur) : (M.qbY c).2.b = c.b := by
 simp only [M.qbY]; rw [qlC, qco, qco]
theorem qpC {c : D.Cur} (h : M.qdL c) : M.qdL (M.qbY c).2 := qkP (qbz (qbz h _) _) _
theorem wp.qbY.math (c : D.Cur) (h : M.qgu c) : wp.qbY c (fun r => r = M.qbY c) := by
 refine ⟨h, fun r1 g1 => ?_⟩
 subst g1
 rw [qcx (qco c 9)]
 refine ⟨qbz h 9, fun r2 g2 => ?_⟩
 subst g2
 have b2 : (M.qa0 (M.qa0 c 9).2 9000).2.b = c.b := (qco _ _).trans (qco _ _)
 rw [qcx b2]
 refine ⟨⟨qbz (qbz h 9) 9000, by simp, by simp⟩, fun r3 g3 => ?_⟩
 subst g3
 rw [qcx ((qlC _ _).trans b2)]
 rfl
theorem qkW : ∀ (k : Nat) (c : D.Cur), (M.qh4 k c).2.b = c.b
 | 0, c => rfl
 | k + 1, c => by simp only [M.qh4]; rw [qpY, qkW k c]
theorem qkL : ∀ (k : Nat) {c : D.Cur}, M.qdL c → M.qdL (M.qh4 k c).2
 | 0, c, h => h
 | k + 1, c, h => qpC (qkL k h)
theorem qjy : ∀ (k : Nat) (c : D.Cur), (M.qh4 k c).1.length = k
 | 0, c => rfl
 | k + 1, c => by simp only [M.qh4, List.length_append, qjy k c]; rfl
theorem wp.qbt.math (c : D.Cur) (n : Int) (h : M.qfZ c n) : wp.qbt c n (fun r => r = M.qbt c n) := by
 obtain ⟨h1, h2, h3⟩ := h
 refine qcS n.toNat (fun k => ((M.qh4 k c).1, (k : Int), (M.qh4 k c).2.i, (M.qh4 k c).2.h, ())) (fun _ => True) rfl trivial (fun k hk _ next hn => ?_) fun _ next => ?_
 ·have hn := hn trivial
  refine qaH (by simp; omega) ?_
  rw [qcx (qkW k c)]
  refine ⟨qkL k h1, fun r hr => ⟨by rw [qjy]; simp; omega, ?_⟩⟩
  subst hr
  rw [up64 (n := n.toNat) hk (by omega)]
  exact hn
 ·refine qaA (by simp; omega) ?_
  rw [qcx (qkW _ c)]; rfl
theorem qoI (c : D.Cur) (n : Int) : (M.qbt c n).2.b = c.b := qkW _ _
theorem wp.qfd.math (b : List Int) : wp.qfd b (fun r => r = M.qfd b) := rfl
theorem qoe (c : D.Cur) : (M.qaG c).2.b = c.b := by
 simp only [M.qaG]
 (repeat' split) <;> simp only [qco]
theorem qmJ {c : D.Cur} (h : M.qdL c) : M.qdL (M.qaG c).2 := by
 simp only [M.qaG]
 have h2 := qbz (qbz h 9) 4
 (repeat' split)
 ·exact qbz h2 _
 ·exact h2
 ·exact qbz h2 _
 ·exact qbz (qbz h2 _) _
theorem qmz : ∀ (k : Nat) (c : D.Cur), (M.qeL k c).2.b = c.b
 | 0, c => rfl
 | k + 1, c => by simp only [M.qeL]; rw [qco, qmz k c]
theorem qlP : ∀ (k : Nat) {c : D.Cur}, M.qdL c → M.qdL (M.qeL k c).2
 | 0, c, h => h
 | k + 1, c, h => qbz (qlP k h) _
theorem qhV : ∀ (k : Nat) (c : D.Cur), (M.qeL k c).1.length = k
 | 0, c => rfl
 | k + 1, c => by simp only [M.qeL, List.length_append, qhV k c]; rfl
theorem qnY {b : List Int} (h : M.Long b) : M.qdL (M.qb8 b) := ⟨by simp [M.qb8], h⟩
theorem wp.qbq.math (b : List Int) (h : M.qfn b) : wp.qbq b (fun r => r = M.qbq b) := by
 refine ⟨h, fun r0 g0 => ?_⟩
 subst g0
 refine qcS 12 (fun k => ((M.qeL k (M.qb8 b)).1, (k : Int), (M.qeL k (M.qb8 b)).2.i, (M.qeL k (M.qb8 b)).2.h, ())) (fun _ => True) rfl trivial (fun k hk _ next hn => ?_) fun _ next => ?_
 ·have hn := hn trivial
  refine qaH (by simp; omega) ?_
  have e : (⟨b, (M.qeL k (M.qb8 b)).2.i, (M.qeL k (M.qb8 b)).2.h⟩ : D.Cur) = (M.qeL k (M.qb8 b)).2 := qcx (c := M.qb8 b) (qmz k _)
  rw [e]
  refine ⟨qlP k (qnY h), fun r hr => ⟨by rw [qhV]; simp; omega, ?_⟩⟩
  subst hr
  rw [up64 hk (by omega)]
  exact hn
 ·exact qaA (by simp) rfl
theorem qiv (c : D.Cur) : M.qgD (M.qa0 c 4).1 = true := by
 have := qdi c (n := 4) (by omega)
 rw [qgk]; omega
theorem qnh (c : D.Cur) {n : Int} (hn : 0 ≤ n ∧ n ≤ 32) : M.qdD (M.qaG c).1 n = true ∧ M.qcz (M.qaG c).1 = true := by
 have h9 := qdi c (n := 9) (by omega)
 have hw : wrap .i64 (1 + (M.qa0 c 9).1) = 1 + (M.qa0 c 9).1 := w64 (by omega) (by omega)
 have hin : M.isIn n 0 32 = true := by simp [M.isIn]; omega
 have h6 := fun d : D.Cur => qdi d (n := 6) (by omega)
 have hw6 : ∀ d : D.Cur, M.isWord (M.qa0 d 6).1 = true := fun d => by rw [qdP]; have := h6 d; omega
 simp only [M.qaG, hw]
 generalize (M.qa0 c 9).1 = o at *
 split
 ·rename_i e
  refine ⟨?_, by simp [M.qcz, M.isIn]; omega⟩
  simp only [M.qdD, hin, Bool.true_and]
  rw [if_neg (by omega), if_pos (by omega)]
  simp [qiv, hw6]
 split
 ·rename_i e
  refine ⟨?_, by simp [M.qcz, M.isIn]; omega⟩
  simp only [M.qdD, hin, Bool.true_and]
  rw [if_neg (by omega), if_neg (by omega), if_neg (by omega), if_pos (by omega)]
  simp [qiv]
 split
 ·rename_i e
  refine ⟨?_, by simp [M.qcz, M.isIn]; omega⟩
  simp only [M.qdD, hin, Bool.true_and]
  rw [if_neg (by omega), if_neg (by omega), if_pos (by omega)]
  simp [qiv]
 ·refine ⟨?_, by simp [M.qcz, M.isIn]; omega⟩
  simp only [M.qdD, hin, Bool.true_and]
  rw [if_neg (by omega), if_neg (by omega), if_neg (by omega), if_neg (by omega), if_neg (by omega), if_neg (by omega)]
  have : M.isIn (1 + o) 3 9 = true := by simp [M.isIn]; omega
  simp [qiv, this]
theorem qnQ (c : D.Cur) : M.isWord (M.qbY c).1 = true := by
 have h9 := qdi c (n := 9) (by omega)
 have h9000 := qdi (M.qa0 c 9).2 (n := 9000) (by omega)
 simp only [M.qbY, M.qau]
 generalize (M.qa0 c 9).1 = a at *
 generalize M.qa0 (M.qa0 c 9).2 9000 = b at *
 have hi := qdi b.2 (n := (([0, 1, 2, 7, 100, 65535, 32768, a, b.1] : List Int).length : Int)) (by simp)
 have hm := qkl hi.1 hi.2
 rw [qdP]
 generalize rd ([0, 1, 2, 7, 100, 65535, 32768, a, b.1] : List Int) _ = x at *
 simp only [List.mem_cons, List.not_mem_nil, or_false] at hm
 omega
theorem qkI : ∀ (k : Nat) (c : D.Cur), (M.qh4 k c).1.all M.isWord = true
 | 0, c => rfl
 | k + 1, c => by simp only [M.qh4, List.all_append, qkI k c, List.all_cons, List.all_nil, qnQ, Bool.and_self]
theorem qk9 : ∀ (k : Nat) (c : D.Cur), ∀ x ∈ (M.qeL k c).1, 0 ≤ x ∧ x < 10000
 | 0, c, x, hx => by simp [M.qeL] at hx
 | k + 1, c, x, hx => by
  simp only [M.qeL, List.mem_append, List.mem_singleton] at hx
  rcases hx with hx | rfl
  ·exact qk9 k c x hx
  ·exact qdi _ (by omega)
theorem qnw (a b : Int) : M.isWord (M.ql1 a b) = true := by unfold M.ql1; split <;> rfl
theorem qi3 (c : Bool) (x : Int) : M.isWord (if c then x % 65536 else 0) = true := by split; exact qna x; rfl
theorem qlX (a b : Int) : M.isWord (M.addW a b) = true := qi3 _ _
theorem qnS (a b : Int) : M.isWord (M.subW a b) = true := qi3 _ _
theorem qoj (a b : Int) : M.isWord (M.mulW a b) = true := qi3 _ _
theorem qon {a b : Int} (ha : M.isWord a = true) (hb : M.isWord b = true) : M.isWord (qgX .i64 a b) = true := by
 rw [qdP] at *
 unfold qgX
 have e1 : (BitVec.ofInt (IntKind.bits .i64) a ^^^ BitVec.ofInt (IntKind.bits .i64) b).toNat = a.toNat ^^^ b.toNat := by
  show (BitVec.ofInt 64 a ^^^ BitVec.ofInt 64 b).toNat = _
  rw [BitVec.toNat_xor, BitVec.toNat_ofInt, BitVec.toNat_ofInt, show ((2 ^ 64 : Nat) : Int) = 18446744073709551616 from rfl]
  congr 1 <;> omega
 have e2 : a.toNat ^^^ b.toNat < 2 ^ 16 := Nat.xor_lt_two_pow (by omega) (by omega)
 rw [e1, w64 (by omega) (by omega)]
 omega
theorem qfO {r : List Int} (h : r.all M.isWord = true) (k : Nat) {x : Int} (hx : M.isWord x = true) : (r.set k x).all M.isWord = true := by
 rw [List.all_eq_true] at *
 intro y hy
 rcases List.mem_or_eq_of_mem_set hy with h' | rfl
 ·exact h y h'
 ·exact hx
theorem qmq {i : D.Ins} {n : Int} {t : Int} {r : List Int} (hok : M.qdD i n = true) (ht : 0 ≤ t ∧ t ≤ 23) (hl : r.length = 4) (h : r.all M.isWord = true) : (M.apply i t r).all M.isWord = true := by
 obtain ⟨_, hA, hB, hC⟩ := qjD (i := i) (r := r) ⟨hl, n, hok⟩
 have hw := List.all_eq_true.1 h
 have rdw : ∀ x, 0 ≤ x ∧ x ≤ 3 → M.isWord (rd r x) = true := fun x hx => hw _ (qkl hx.1 (by omega))
 unfold M.apply
 split
 ·rename_i e
  refine qfO h _ ?_
  simp only [M.qdD, Bool.and_eq_true] at hok
  have hok := hok.2
  rw [if_neg (by omega), if_pos e] at hok
  simp only [Bool.and_eq_true] at hok
  exact hok.2.1
 split
 ·exact qfO h _ (rdw _ (hB (by omega)))
 split
 ·exact qfO h _ (qlX _ _)
 split
 ·exact qfO h _ (qnS _ _)
 split
 ·exact qfO h _ (qoj _ _)
 split
 ·exact qfO h _ (qon (rdw _ (hB (by omega))) (rdw _ (hC (by omega))))
 split
 ·exact qfO h _ (qnw _ _)
 split
 ·exact qfO h _ (qdP.2 (by omega))
 split
 ·split
  ·exact qfO h _ (rdw _ (hB (by omega)))
  ·exact h
 ·exact h
end Go.V
namespace Go.V
open IntKind (wrap)
theorem qpg {α : Type} [Inhabited α] [BEq α] [LawfulBEq α] {a b : List α} (ha : M.Long a) (hl : a.length = b.length) {B : (Int × Unit) → ((Int × Unit) → Prop) → Prop} {Q : Bool → Prop}
    (hb : ∀ (k : Nat) (next : (Int × Unit) → Prop), k < a.length → k < b.length → (rd a (k : Int) ≠ rd b (k : Int) → Q false) → (rd a (k : Int) = rd b (k : Int) → next (((k + 1 : Nat) : Int), ())) → B ((k : Int), ()) next)
    (he : ∀ (next : (Int × Unit) → Prop), a = b → B ((a.length : Int), ()) next) (hQ : a ≠ b → Q false) : qcV B (0, ()) := by
 refine qcS a.length (fun k => ((k : Int), ())) (fun k => ∀ j : Nat, j < k → rd a j = rd b j) rfl (by simp) (fun k hk hF next hn => ?_) fun hF next => ?_
 ·refine hb k next hk (by omega) (fun e => hQ (fun h => e (by rw [h]))) fun e => hn fun j hj => ?_
  by_cases hjk : j = k
  ·subst hjk; exact e
  ·exact hF j (by omega)
 ·exact he next (qmc hl hF)
end Go.V
namespace Go.V
open IntKind (wrap)
def wp.qbU (b : Int) (Q : Bool → Prop) : Prop :=
 (∀ a, a = M.qar b 1 3 → Q a)
def wp.qbp (a : List Int) (Q : Bool → Prop) : Prop :=
 qa1 ((a.length : Int) == 32) ((M.qeW a ∧ ∀ b, b = M.qbZ a → Q b)) (Q false)
def wp.qcj (a : List Int) (Q : Bool → Prop) : Prop :=
 Q ((a.length : Int) == 32)
def wp.qcb (a : List D.Frame) (c : Int) (Q : Bool → Prop) : Prop :=
 qcV (σ := Int × Unit) (fun (g : Int × Unit) h => match g with | (b, _) => qa1 (decide (b < (a.length : Int))) (((0 ≤ b ∧ b < (a.length : Int)) ∧ (∀ d, d = M.qar ((rd a b).Pc) 0 c → qa1 (!d) (Q false) ((∀ e, e = M.qar ((rd a b).Stop) 0 c → qa1 (!e) (Q false) ((∀ f, f = M.qdm ((rd a b).Mask) → qa1 (!f) (Q false) (qa1 ((rd a b).Mask == 0) (Q false) (h ((wrap .i64 (b + 1)), ())))))))))) (qa1 ((a.length : Int) == 0) (Q true) (((0 ≤ (wrap .i64 ((a.length : Int) - 1)) ∧ (wrap .i64 ((a.length : Int) - 1)) < (a.length : Int)) ∧ qa1 (decide ((a.length : Int) ≤ 24)) (qa1 ((rd a (wrap .i64 ((a.length : Int) - 1))).Pc != (rd a (wrap .i64 ((a.length : Int) - 1))).Stop) (qa1 ((rd a (wrap .i64 ((a.length : Int) - 1))).Pc != c) (((0 ≤ (0 : Int) ∧ (0 : Int) < (a.length : Int)) ∧ qa1 ((rd a 0).Stop == c) (((0 ≤ (0 : Int) ∧ (0 : Int) < (a.length : Int)) ∧ Q ((rd a 0).Mask == 255))) (Q false))) (Q false)) (Q false)) (Q false))))) (0, ())
def wp.qcK (b : List D.Ins) (a : D.Warp) (Q : Bool → Prop) : Prop :=
 (∀ c, c = M.qbD a.Number → qa1 c ((∀ d, d = M.qcj a.Regs → qa1 d ((M.qeW a.Regs ∧ ∀ e, e = M.qbZ a.Regs → qa1 e ((M.qfM a.Frames (b.length : Int) ∧ ∀ f, f = M.qcb a.Frames (b.length : Int) → Q f)) (Q false))) (Q false))) (Q false))
def wp.qcW (a : D.Block) (Q : Bool → Prop) : Prop :=
 (M.qel a.Code ∧ ∀ c, c = M.qbn a.Code → qa1 (!c) (Q false) ((∀ d, d = M.qbU (a.Warps.length : Int) → qa1 (!d) (Q false) ((M.qfX a.Memory ∧ ∀ e, e = M.qbp a.Memory → qa1 (!e) (Q false) (((0 ≤ (a.Warps.length : Int)) ∧ (∀ f, f = M.qar a.Waiting 0 (wrap .i64 ((wrap .i64 (1 * 2 ^ (min ((a.Warps.length : Int).toNat) (IntKind.bits .i64)))) - 2)) → qa1 (!f) (Q false) ((∀ g, g = M.qar a.Phase 0 100000 → qa1 (!g) (Q false) (qcV (σ := Int × Unit) (fun (i : Int × Unit) j => match i with | (b, _) => qa1 (decide (b < (a.Warps.length : Int))) (((0 ≤ b ∧ b < (a.Warps.length : Int)) ∧ qa1 ((rd a.Warps b).Number != b) (Q false) ((M.qg1 a.Code (rd a.Warps b) ∧ ∀ h, h = M.qcK a.Code (rd a.Warps b) → qa1 (!h) (Q false) (j ((wrap .i64 (b + 1)), ())))))) (Q true)) (0, ()))))))))))))
def wp.qbH (b : D.Block) (a : Int) (Q : Bool → Prop) : Prop :=
 ((0 ≤ a) ∧ Q ((qdU .i64 (Int.fdiv b.Waiting (2 ^ (min (a.toNat) (IntKind.bits .i64)))) 1) == 1))
end Go.V
namespace Go.V
open IntKind (wrap)
theorem qdy {n : Nat} (h : n ≤ 9223372036854775807) : wrap .i64 ((n : Int) - 1) = (n : Int) - 1 := w64 (by omega) (by omega)
theorem qh5 {fs : List D.Frame} {n : Int} {k : Nat} (hk : k < fs.length) (h : M.qem n (rd fs (k : Int)) = false) : M.qef fs n = false := by
 have := all_false (g := M.qem n) hk h
 simp [M.qef, this]
theorem wp.qcb.math (fs : List D.Frame) (n : Int) (h : M.qfM fs n) : wp.qcb fs n (fun r => r = M.qcb fs n) := by
 unfold wp.qcb
 have hl : fs.length ≤ 9223372036854775807 := h
 refine qmB (g := M.qem n) (Q := fun r => r = M.qef fs n) h (fun k next hk h1 h2 => ?_) (fun next ha => ?_) fun ha => by simp [M.qef, ha]
 ·refine qaH (by simp; omega) ⟨by omega, fun r hr => qa2 (fun e => ?_) fun e r2 hr2 => qa2 (fun e2 => ?_) fun e2 r3 hr3 => qa2 (fun e3 => ?_) fun e3 => qa2 (fun e4 => ?_) fun e4 => ?_⟩
  all_goals simp only [M.qar, M.qdm] at *
  ·have := nt e hr
   exact (qh5 hk (by simp [M.qem, this])).symm
  ·have := nt e2 hr2
   exact (qh5 hk (by simp [M.qem, this])).symm
  ·have := nt e3 hr3
   exact (qh5 hk (by simp [M.qem, this])).symm
  ·have e4 : (rd fs (k : Int)).Mask = 0 := by simpa using e4
   exact (qh5 hk (by simp [M.qem, e4])).symm
  ·rw [up64 hk h]
   refine h2 ?_
   have e4 : (rd fs (k : Int)).Mask ≠ 0 := by simpa using e4
   simp [M.qem, nf e hr, nf e2 hr2, nf e3 hr3, e4]
 ·refine qaA (by simp) (qa2 (fun e => ?_) fun e => ?_)
  ·have : fs = [] := by simpa using e
   subst this; rfl
  have h0 : fs ≠ [] := by rintro rfl; simp at e
  have hpos : 0 < fs.length := List.length_pos_iff.2 h0
  have hA : M.qef fs n = M.qiu fs n := by
   have : fs.isEmpty = false := by simpa using h0
   simp [M.qef, ha, this]
  show _
  simp only [M.qcb, hA, qdy hl]
  refine ⟨by omega, qa2 (fun e1 => qa2 (fun e2 => qa2 (fun e3 => ⟨by omega, qa2 (fun e4 => ⟨by omega, ?_⟩) fun e4 => ?_⟩) fun e3 => ?_) fun e2 => ?_) fun e1 => ?_⟩
  all_goals simp only [M.qiu]
  all_goals change _ = (_ && ((rd fs ((fs.length : Int) - 1)).Pc != (rd fs ((fs.length : Int) - 1)).Stop && ((rd fs ((fs.length : Int) - 1)).Pc != n && _)))
  ·have e1 : fs.length ≤ 24 := by simp at e1; omega
   rw [e2, e3, e4]; simp [e1]
  ·rw [e4]; simp
  ·rw [e3]; simp
  ·rw [e2]; simp
  ·have e1 : ¬ fs.length ≤ 24 := by simp at e1; omega
   simp [e1]
theorem lenE {r : List Int} : ((r.length : Int) == 32) = (r.length == 32) := by
 rw [Bool.eq_iff_iff]; simp; omega
theorem wp.qcj.math (r : List Int) : wp.qcj r (fun x => x = M.qcj r) := lenE
theorem wp.qbU.math (n : Int) : wp.qbU n (fun x => x = M.qbU n) := fun r hr => hr
theorem wp.qbp.math (m : List Int) (h : M.qfX m) : wp.qbp m (fun x => x = M.qbp m) := by
 refine qa2 (fun e => ⟨h, fun r hr => ?_⟩) fun e => ?_
 ·have : m.length = 32 := by simp at e; omega
  rw [hr]; simp [M.qbp, this, M.qbZ]
 ·have : ¬ m.length = 32 := by simp at e; omega
  simp [M.qbp, this]
theorem wp.qcK.math (p : List D.Ins) (x : D.Warp) (h : M.qg1 p x) : wp.qcK p x (fun r => r = M.qcK p x) := by
 obtain ⟨h1, h2⟩ := h
 refine fun r hr => qa2 (fun e r2 hr2 => qa2 (fun e2 => ⟨h2, fun r3 hr3 => qa2 (fun e3 => ⟨h1, fun r4 hr4 => ?_⟩) fun e3 => ?_⟩) fun e2 => ?_) fun e => ?_
 all_goals try simp only [M.qbD, M.qcj, M.qbZ, M.qcb, M.qcK, M.qfQ] at *
 ·subst hr hr2 hr3 hr4; simp [e, e2, e3]
 ·subst hr hr2 hr3; simp [e, e2, e3]
 ·subst hr hr2; simp [e, e2]
 ·subst hr; simp [e]
theorem lenB {r : List Int} : ((r.length : Int) != 32) = !(r.length == 32) := by rw [← lenE]; rfl
theorem qn6 (p : List D.Ins) (l : List D.Warp) (k : Nat) (hk : k < l.length) : M.qdx p k (l.drop k) = (M.qh2 p k (rd l (k : Int)) && M.qdx p (k + 1) (l.drop (k + 1))) := by
 rw [List.drop_eq_getElem_cons hk, qcU hk]; rfl
theorem qnq {p : List D.Ins} {l : List D.Warp} (hl : M.Long l) {B : (Int × Unit) → ((Int × Unit) → Prop) → Prop}
    (hb : ∀ (k : Nat) (next : (Int × Unit) → Prop), k < l.length → (M.qh2 p k (rd l (k : Int)) = false → false = M.qdx p 0 l) → (M.qh2 p k (rd l (k : Int)) = true → next (((k + 1 : Nat) : Int), ())) → B ((k : Int), ()) next)
    (he : ∀ (next : (Int × Unit) → Prop), true = M.qdx p 0 l → B ((l.length : Int), ()) next) : qcV B (0, ()) := by
 refine qcS l.length (fun k => ((k : Int), ())) (fun k => M.qdx p 0 l = M.qdx p k (l.drop k)) rfl rfl (fun k hk hF next hn => ?_) fun hF next => ?_
 ·rw [qn6 p l k hk] at hF
  refine hb k next hk (fun e => by rw [hF, e]; rfl) fun e => hn (by rw [hF, e]; rfl)
 ·refine he next ?_
  rw [hF, List.drop_length]; rfl
theorem wp.qcW.math (b : D.Block) (h : M.qfg b) : wp.qcW b (fun r => r = M.qcW b) := by
 obtain ⟨h1, ⟨h2, hW⟩, h3⟩ := h
 refine ⟨h1, fun r hr => qa2 (fun e => ?_) fun e r2 hr2 => qa2 (fun e2 => ?_) fun e2 => ⟨h3, fun r4 hr4 => qa2 (fun e4 => ?_) fun e4 => ⟨by omega, fun r5 hr5 => qa2 (fun e5 => ?_) fun e5 r6 hr6 => qa2 (fun e6 => ?_) fun e6 => ?_⟩⟩⟩
 all_goals simp only [M.qbn, M.qbU, M.qar] at *
 all_goals simp only [M.qcW, M.qdE]
 ·rw [nt e hr]; rfl
 ·rw [nt e2 hr2]; simp
 ·rw [nt e4 hr4]; simp
 ·have := nt e5 hr5
  unfold M.qhJ; rw [this]; simp
 ·rw [nt e6 hr6]; simp
 have h5 := nf e5 hr5
 unfold M.qhJ
 rw [nf e hr, nf e2 hr2, nf e4 hr4, h5, nf e6 hr6]
 simp only [Bool.true_and]
 refine qnq h2 (fun k next hk g1 g2 => ?_) fun next hh => qaA (by simp) hh
 refine qaH (by simp; omega) ⟨by omega, qa2 (fun e2 => ?_) fun e2 => ⟨hW _ (qgj hk), fun r hr => qa2 (fun e => ?_) fun e => ?_⟩⟩
 all_goals simp only [M.qcK] at *
 ·have e2 : (rd b.Warps (k : Int)).Number ≠ (k : Int) := by simpa using e2
  exact g1 (by simp [M.qh2, e2])
 ·exact g1 (by simp [M.qh2, nt e hr])
 ·have e2 : (rd b.Warps (k : Int)).Number = (k : Int) := by simpa using e2
  rw [up64 hk h2]; exact g2 (by simp [M.qh2, e2, nf e hr])
theorem wp.qbH.math (b : D.Block) (w : Int) (h : M.qeq b w) : wp.qbH b w (fun r => r = M.qbH b w) := ⟨h, rfl⟩
theorem qpU {b : D.Block} {w : Int} (hb : M.Long b.Warps) (h : M.qld b w = true) : 0 ≤ w ∧ w < (b.Warps.length : Int) ∧ M.qdE b = true := by
 have hl : b.Warps.length ≤ 9223372036854775807 := hb
 simp only [M.qld, Bool.and_eq_true, M.isIn, decide_eq_true_eq, qdy hl] at h
 exact ⟨h.2.1, by omega, h.1⟩
theorem qks {b : D.Block} (h : M.qnN b) : M.qlm b := by
 obtain ⟨h1, ⟨h2, h3⟩, h4⟩ := h
 unfold M.qlm M.qoc M.qnH M.Long
 exact ⟨by omega, ⟨by omega, fun x hx => by have := h3 x hx; unfold M.qmY at this; omega⟩, by omega⟩
end Go.V
namespace Go.V
open IntKind (wrap)
def wp.qcs (a : D.Block) (b : Int) (Q : D.Ins → Prop) : Prop :=
 ((0 ≤ b ∧ b < (a.Warps.length : Int)) ∧ ((0 ≤ (wrap .i64 (((rd a.Warps b).Frames.length : Int) - 1)) ∧ (wrap .i64 (((rd a.Warps b).Frames.length : Int) - 1)) < (((rd a.Warps b).Frames).length : Int)) ∧ ((0 ≤ (rd ((rd a.Warps b).Frames) (wrap .i64 (((rd a.Warps b).Frames.length : Int) - 1))).Pc ∧ (rd ((rd a.Warps b).Frames) (wrap .i64 (((rd a.Warps b).Frames.length : Int) - 1))).Pc < (a.Code.length : Int)) ∧ Q (⟨(rd a.Code ((rd ((rd a.Warps b).Frames) (wrap .i64 (((rd a.Warps b).Frames.length : Int) - 1))).Pc)).Op, (rd a.Code ((rd ((rd a.Warps b).Frames) (wrap .i64 (((rd a.Warps b).Frames.length : Int) - 1))).Pc)).A, (rd a.Code ((rd ((rd a.Warps b).Frames) (wrap .i64 (((rd a.Warps b).Frames.length : Int) - 1))).Pc)).B, (rd a.Code ((rd ((rd a.Warps b).Frames) (wrap .i64 (((rd a.Warps b).Frames.length : Int) - 1))).Pc)).C⟩ : D.Ins))))
def wp.qaC (a : D.Block) (b : Int) (Q : (D.Ins × Bool) → Prop) : Prop :=
 ((0 ≤ b ∧ b < (a.Warps.length : Int)) ∧ qa1 (((rd a.Warps b).Frames.length : Int) == 0) (Q ((⟨0, 0, 0, 0⟩ : D.Ins), false)) (((0 ≤ (wrap .i64 (((rd a.Warps b).Frames.length : Int) - 1)) ∧ (wrap .i64 (((rd a.Warps b).Frames.length : Int) - 1)) < (((rd a.Warps b).Frames).length : Int)) ∧ ((0 ≤ (rd ((rd a.Warps b).Frames) (wrap .i64 (((rd a.Warps b).Frames.length : Int) - 1))).Pc ∧ (rd ((rd a.Warps b).Frames) (wrap .i64 (((rd a.Warps b).Frames.length : Int) - 1))).Pc < (a.Code.length : Int)) ∧ Q ((⟨(rd a.Code ((rd ((rd a.Warps b).Frames) (wrap .i64 (((rd a.Warps b).Frames.length : Int) - 1))).Pc)).Op, (rd a.Code ((rd ((rd a.Warps b).Frames) (wrap .i64 (((rd a.Warps b).Frames.length : Int) - 1))).Pc)).A, (rd a.Code ((rd ((rd a.Warps b).Frames) (wrap .i64 (((rd a.Warps b).Frames.length : Int) - 1))).Pc)).B, (rd a.Code ((rd ((rd a.Warps b).Frames) (wrap .i64 (((rd a.Warps b).Frames.length : Int) - 1))).Pc)).C⟩ : D.Ins), true)))))
end Go.V
namespace Go.V
open IntKind (wrap)
theorem qhe {α : Type} {l : List α} : ((l.length : Int) == 0) = l.isEmpty := by
 cases l with
 | nil => rfl
 | cons x l =>
  have : ¬ ((x :: l).length : Int) = 0 := by simp only [List.length_cons]; omega
  rw [beq_eq_false_iff_ne.2 this]; rfl
theorem qnL {p : List D.Ins} : ∀ {l : List D.Warp} {k n : Nat}, M.qdx p k l = true → n < l.length → M.qh2 p (k + n) (rd l (n : Int)) = true
 | [], k, n, h, hn => absurd hn (by simp)
 | x :: l, k, 0, h, hn => by
  simp only [M.qdx, Bool.and_eq_true] at h
  exact h.1
 | x :: l, k, n + 1, h, hn => by
  simp only [M.qdx, Bool.and_eq_true] at h
  have := qnL (n := n) h.2 (by simpa using hn)
  rw [show k + (n + 1) = k + 1 + n by omega]
  have e : rd (x :: l) ((n + 1 : Nat) : Int) = rd l (n : Int) := by
   have hn' : n < l.length := by simpa using hn
   rw [qcU hn, qcU hn']; rfl
  rw [e]; exact this
theorem qeg {b : D.Block} {w : Int} (h : M.Has b w) : 0 ≤ w ∧ w < (b.Warps.length : Int) ∧ M.qb6 b.Code = true ∧ M.qfQ b.Code (rd b.Warps w) = true ∧ (rd b.Warps w).Number = w ∧ M.qdE b = true := by
 obtain ⟨hb, hh⟩ := h
 obtain ⟨h0, h1, hok⟩ := qpU hb.2.1.1 hh
 have hok' := hok
 simp only [M.qdE, Bool.and_eq_true] at hok
 obtain ⟨k, rfl⟩ := Int.eq_ofNat_of_zero_le h0
 have := qnL (n := k) hok.2.2.2.2.2 (by omega)
 rw [Nat.zero_add] at this
 simp only [M.qh2, Bool.and_eq_true, beq_iff_eq] at this
 exact ⟨h0, h1, hok.1, this.2, this.1, hok'⟩
theorem qib {p : List D.Ins} {x : D.Warp} (h : M.qfQ p x = true) (hx : x.Frames ≠ []) : x.Frames.length ≤ 24 ∧ 0 ≤ (M.qdb x.Frames).Pc ∧ (M.qdb x.Frames).Pc < (p.length : Int) := by
 simp only [M.qfQ, M.qef, Bool.and_eq_true, Bool.or_eq_true] at h
 obtain ⟨h1, h2, h3, h4, h5⟩ := h
 have h5 := h5.resolve_left (by simpa using hx)
 have hpos : 0 < x.Frames.length := List.length_pos_iff.2 hx
 have hm : M.qdb x.Frames ∈ x.Frames := qkl (by omega) (by omega)
 have hf := List.all_eq_true.1 h4 _ hm
 simp only [M.qiu, M.qem, M.isIn, Bool.and_eq_true, decide_eq_true_eq, bne_iff_ne] at h5 hf
 exact ⟨h5.1, hf.1.1, by omega⟩
theorem wp.qcs.math (b : D.Block) (w : Int) (h : M.qeH b w) : wp.qcs b w (fun r => r = M.qcs b w) := by
 obtain ⟨hh, hx⟩ := h
 obtain ⟨h0, h1, hp, hw, hn, hok⟩ := qeg hh
 obtain ⟨k1, k2, k3⟩ := qib hw hx
 have hpos : 0 < (rd b.Warps w).Frames.length := List.length_pos_iff.2 hx
 unfold wp.qcs
 rw [qdy (by omega)]
 exact ⟨⟨h0, h1⟩, ⟨by omega, by omega⟩, ⟨k2, k3⟩, rfl⟩
theorem wp.qaC.math (b : D.Block) (w : Int) (h : M.qdG b w) : wp.qaC b w (fun r => r = M.qaC b w) := by
 obtain ⟨h0, h1, hp, hw, hn, hok⟩ := qeg h
 unfold wp.qaC
 rw [qhe]
 refine ⟨⟨h0, h1⟩, qa2 (fun e => ?_) fun e => ?_⟩
 ·simp [M.qaC, e]
 ·have hx : (rd b.Warps w).Frames ≠ [] := by simpa using e
  obtain ⟨k1, k2, k3⟩ := qib hw hx
  have hpos : 0 < (rd b.Warps w).Frames.length := List.length_pos_iff.2 hx
  rw [qdy (by omega)]
  refine ⟨⟨by omega, by omega⟩, ⟨k2, k3⟩, ?_⟩
  simp only [M.qaC, e]; rfl
end Go.V
namespace Go.V
open IntKind (wrap)
def wp.qal (b : List D.Ins) (c : List D.Ins) (Q : Bool → Prop) : Prop :=
 qa1 ((b.length : Int) != (c.length : Int)) (Q false) (qcV (σ := Int × Unit) (fun (d : Int × Unit) e => match d with | (a, _) => qa1 (decide (a < (b.length : Int))) (((0 ≤ a ∧ a < (b.length : Int)) ∧ ((0 ≤ a ∧ a < (c.length : Int)) ∧ qa1 (!(((rd b a).Op == (rd c a).Op) && ((rd b a).A == (rd c a).A) && ((rd b a).B == (rd c a).B) && ((rd b a).C == (rd c a).C))) (Q false) (e ((wrap .i64 (a + 1)), ()))))) (Q true)) (0, ()))
def wp.qa4 (b : List D.Warp) (c : List D.Warp) (e : D.Warp → D.Warp → Bool) (f : D.Warp → D.Warp → Prop) (Q : Bool → Prop) : Prop :=
 qa1 ((b.length : Int) != (c.length : Int)) (Q false) (qcV (σ := Int × Unit) (fun (g : Int × Unit) h => match g with | (a, _) => qa1 (decide (a < (b.length : Int))) (((0 ≤ a ∧ a < (b.length : Int)) ∧ ((0 ≤ a ∧ a < (c.length : Int)) ∧ (f (rd b a) (rd c a) ∧ ∀ d, d = e (rd b a) (rd c a) → qa1 (!d) (Q false) (h ((wrap .i64 (a + 1)), ())))))) (Q true)) (0, ()))
def wp.qaf (b : List D.Frame) (c : List D.Frame) (Q : Bool → Prop) : Prop :=
 qa1 ((b.length : Int) != (c.length : Int)) (Q false) (qcV (σ := Int × Unit) (fun (d : Int × Unit) e => match d with | (a, _) => qa1 (decide (a < (b.length : Int))) (((0 ≤ a ∧ a < (b.length : Int)) ∧ ((0 ≤ a ∧ a < (c.length : Int)) ∧ qa1 (!(((rd b a).Pc == (rd c a).Pc) && ((rd b a).Stop == (rd c a).Stop) && ((rd b a).Mask == (rd c a).Mask))) (Q false) (e ((wrap .i64 (a + 1)), ()))))) (Q true)) (0, ()))
def wp.qax (b : List Int) (c : List Int) (Q : Bool → Prop) : Prop :=
 qa1 ((b.length : Int) != (c.length : Int)) (Q false) (qcV (σ := Int × Unit) (fun (d : Int × Unit) e => match d with | (a, _) => qa1 (decide (a < (b.length : Int))) (((0 ≤ a ∧ a < (b.length : Int)) ∧ ((0 ≤ a ∧ a < (c.length : Int)) ∧ qa1 ((rd b a) != (rd c a)) (Q false) (e ((wrap .i64 (a + 1)), ()))))) (Q true)) (0, ()))
def wp.qce (a : D.Warp) (b : D.Warp) (Q : Bool → Prop) : Prop :=
 qa1 (a.Number == b.Number) ((M.qd7 a.Frames b.Frames ∧ ∀ c, c = M.qaf a.Frames b.Frames → qa1 c ((M.qdT a.Regs b.Regs ∧ ∀ d, d = M.qax a.Regs b.Regs → Q d)) (Q false))) (Q false)
def wp.qcm (a : D.Block) (b : D.Block) (Q : Bool → Prop) : Prop :=
 (M.qdt a.Code b.Code ∧ ∀ e, e = M.qal a.Code b.Code → qa1 e ((M.qbj a.Warps b.Warps (fun c d => M.qce c d) (fun c d => M.qga c d) ∧ ∀ f, f = M.qa4 a.Warps b.Warps (fun c d => M.qce c d) → qa1 f ((M.qdT a.Memory b.Memory ∧ ∀ g, g = M.qax a.Memory b.Memory → qa1 g (qa1 (a.Waiting == b.Waiting) (Q (a.Phase == b.Phase)) (Q false)) (Q false))) (Q false))) (Q false))
end Go.V
namespace Go.V
open IntKind (wrap)
theorem insB (a b : D.Ins) : ((a.Op == b.Op) && (a.A == b.A) && (a.B == b.B) && (a.C == b.C)) = (a == b) := by
 cases a; cases b; rw [Bool.eq_iff_iff]; simp [and_assoc]
theorem qq3 (a b : D.Frame) : ((a.Pc == b.Pc) && (a.Stop == b.Stop) && (a.Mask == b.Mask)) = (a == b) := by
 cases a; cases b; rw [Bool.eq_iff_iff]; simp [and_assoc]
theorem qjF {α : Type} [Inhabited α] [BEq α] [LawfulBEq α] {a b : List α} (ha : M.Long a) {Q : Bool → Prop} {B : (Int × Unit) → ((Int × Unit) → Prop) → Prop}
    (hb : a.length = b.length → ∀ (k : Nat) (next : (Int × Unit) → Prop), k < a.length → k < b.length → (rd a (k : Int) ≠ rd b (k : Int) → Q false) → (rd a (k : Int) = rd b (k : Int) → next (((k + 1 : Nat) : Int), ())) → B ((k : Int), ()) next)
    (he : ∀ (next : (Int × Unit) → Prop), a = b → B ((a.length : Int), ()) next) (hQ : a ≠ b → Q false) : qa1 ((a.length : Int) != (b.length : Int)) (Q false) (qcV B (0, ())) := by
 refine qa2 (fun e => hQ ?_) fun e => ?_
 ·rintro rfl; simp at e
 ·have hl : a.length = b.length := by simp at e; omega
  exact qpg ha hl (hb hl) he hQ
theorem wp.qal.math (a b : List D.Ins) (h : M.qdt a b) : wp.qal a b (fun r => r = M.qal a b) := by
 unfold wp.qal
 simp only [insB]
 refine qjF h (Q := fun r => r = M.qal a b) (fun hl k next hk hk' h1 h2 => ?_) (fun next e => qaA (by simp) (by simp [M.qal, e])) fun hne => by simp [M.qal, hne]
 refine qaH (by simp; omega) ⟨by omega, by omega, qa2 (fun e => h1 (by simpa using e)) fun e => ?_⟩
 rw [up64 hk h]; exact h2 (by simpa using e)
theorem wp.qaf.math (a b : List D.Frame) (h : M.qd7 a b) : wp.qaf a b (fun r => r = M.qaf a b) := by
 unfold wp.qaf
 simp only [qq3]
 refine qjF h (Q := fun r => r = M.qaf a b) (fun hl k next hk hk' h1 h2 => ?_) (fun next e => qaA (by simp) (by simp [M.qaf, e])) fun hne => by simp [M.qaf, hne]
 refine qaH (by simp; omega) ⟨by omega, by omega, qa2 (fun e => h1 (by simpa using e)) fun e => ?_⟩
 rw [up64 hk h]; exact h2 (by simpa using e)
theorem wp.qax.math (a b : List Int) (h : M.qdT a b) : wp.qax a b (fun r => r = M.qax a b) := by
 unfold wp.qax
 refine qjF h (Q := fun r => r = M.qax a b) (fun hl k next hk hk' h1 h2 => ?_) (fun next e => qaA (by simp) (by simp [M.qax, e])) fun hne => by simp [M.qax, hne]
 refine qaH (by simp; omega) ⟨by omega, by omega, qa2 (fun e => h1 (by simpa using e)) fun e => ?_⟩
 rw [up64 hk h]; exact h2 (by simpa using e)
theorem qmd {a b : D.Warp} (h : a.Number ≠ b.Number ∨ a.Frames ≠ b.Frames ∨ a.Regs ≠ b.Regs) : (a == b) = false := by
 refine beq_eq_false_iff_ne.2 ?_
 rintro rfl
 simp at h
theorem qpw {a b : D.Warp} (h1 : a.Number = b.Number) (h2 : a.Frames = b.Frames) (h3 : a.Regs = b.Regs) : (a == b) = true := by
 cases a; cases b; simp at *; exact ⟨h1, h2, h3⟩
theorem qit {a b : D.Block} (h : a.Code ≠ b.Code ∨ a.Warps ≠ b.Warps ∨ a.Memory ≠ b.Memory ∨ a.Waiting ≠ b.Waiting ∨ a.Phase ≠ b.Phase) : (a == b) = false := by
 refine beq_eq_false_iff_ne.2 ?_
 rintro rfl
 simp at h
theorem qoK {a b : D.Block} (h1 : a.Code = b.Code) (h2 : a.Warps = b.Warps) (h3 : a.Memory = b.Memory) (h4 : a.Waiting = b.Waiting) (h5 : a.Phase = b.Phase) : (a == b) = true := by
 cases a; cases b; simp at *; exact ⟨h1, h2, h3, h4, h5⟩
theorem qoy (g : D.Warp → D.Warp → Bool) (a b : List D.Warp) (k : Nat) (hk : k < a.length) (hk' : k < b.length) : M.allTwo g (a.drop k) (b.drop k) = (g (rd a (k : Int)) (rd b (k : Int)) && M.allTwo g (a.drop (k + 1)) (b.drop (k + 1))) := by
 rw [List.drop_eq_getElem_cons hk, List.drop_eq_getElem_cons hk', qcU hk, qcU hk']; rfl
theorem qnJ (g : D.Warp → D.Warp → Bool) : ∀ (a b : List D.Warp), a.length ≠ b.length → M.allTwo g a b = false
 | [], [], h => by simp at h
 | [], y :: b, h => rfl
 | x :: a, [], h => rfl
 | x :: a, y :: b, h => by
  simp only [M.allTwo, qnJ g a b (by simpa using h), Bool.and_false]
theorem wp.qa4.math (a b : List D.Warp) (g : D.Warp → D.Warp → Bool) (D : D.Warp → D.Warp → Prop) (h : M.qbj a b g D) :
    wp.qa4 a b g D (fun r => r = M.qa4 a b g) := by
 obtain ⟨h1, h2⟩ := h
 refine qa2 (fun e => ?_) fun e => ?_
 ·exact (qnJ g a b (by simp at e; omega)).symm
 have hl : a.length = b.length := by simp at e; omega
 refine qcS a.length (fun k => ((k : Int), ())) (fun k => M.allTwo g a b = M.allTwo g (a.drop k) (b.drop k)) rfl rfl (fun k hk hF next hn => ?_) fun hF next => ?_
 ·rw [qoy g a b k hk (by omega)] at hF
  refine qaH (by simp; omega) ⟨by omega, by omega, h2 _ (qgj hk) _, fun r hr => qa2 (fun e => ?_) fun e => ?_⟩
  ·show false = M.allTwo g a b
   rw [hF, nt e hr]; rfl
  ·rw [up64 hk h1]
   exact hn (by rw [hF, nf e hr]; rfl)
 ·refine qaA (by simp) ?_
  show true = M.allTwo g a b
  rw [hF, List.drop_length, hl, List.drop_length]; rfl
theorem wp.qce.math (a b : D.Warp) (h : M.qga a b) : wp.qce a b (fun r => r = M.qce a b) := by
 obtain ⟨h1, h2⟩ := h
 refine qa2 (fun e => ⟨h1, fun r hr => qa2 (fun e2 => ⟨h2, fun r3 hr3 => ?_⟩) fun e2 => ?_⟩) fun e => ?_
 ·have e : a.Number = b.Number := by simpa using e
  have e2 : a.Frames = b.Frames := by have := hr.symm.trans e2; simpa [M.qaf] using this
  by_cases e3 : a.Regs = b.Regs
  ·rw [hr3, show M.qce a b = true from qpw e e2 e3]; simp [M.qax, e3]
  ·rw [hr3, show M.qce a b = false from qmd (.inr (.inr e3))]; simp [M.qax, e3]
 ·have := hr.symm.trans e2
  exact (qmd (.inr (.inl (by simpa [M.qaf] using this)))).symm
 ·exact (qmd (.inl (by simpa using e))).symm
theorem qp6 : ∀ (a b : List D.Warp), M.allTwo (fun x y => M.qce x y) a b = (a == b)
 | [], [] => rfl
 | [], y :: b => rfl
 | x :: a, [] => rfl
 | x :: a, y :: b => by
  rw [M.allTwo, qp6 a b]
  show ((x == y) && (a == b)) = _
  rw [Bool.eq_iff_iff]; simp
theorem wp.qcm.math (a b : D.Block) (h : M.qfB a b) : wp.qcm a b (fun r => r = M.qcm a b) := by
 obtain ⟨h1, ⟨h2, hW⟩, h3⟩ := h
 refine ⟨h1, fun r hr => qa2 (fun e => ⟨⟨h2, fun x hx y => hW x hx⟩, fun r2 hr2 => qa2 (fun e2 => ⟨h3, fun r3 hr3 => qa2 (fun e3 => qa2 (fun e4 => ?_) fun e4 => ?_) fun e3 => ?_⟩) fun e2 => ?_⟩) fun e => ?_⟩
 all_goals try simp only [M.qa4, qp6] at hr2
 all_goals try simp only [M.qal] at hr
 all_goals try simp only [M.qax] at hr3
 ·have k1 : a.Code = b.Code := by have := hr.symm.trans e; simpa using this
  have k2 : a.Warps = b.Warps := by have := hr2.symm.trans e2; simpa using this
  have k3 : a.Memory = b.Memory := by have := hr3.symm.trans e3; simpa using this
  have k4 : a.Waiting = b.Waiting := by simpa using e4
  by_cases k5 : a.Phase = b.Phase
  ·rw [show M.qcm a b = true from qoK k1 k2 k3 k4 k5]; simp [k5]
  ·rw [show M.qcm a b = false from qit (.inr (.inr (.inr (.inr k5))))]; simp [k5]
 ·exact (qit (.inr (.inr (.inr (.inl (by simpa using e4)))))).symm
 ·exact (qit (.inr (.inr (.inl (by have := hr3.symm.trans e3; simpa using this))))).symm
 ·exact (qit (.inr (.inl (by have := hr2.symm.trans e2; simpa using this)))).symm
 ·exact (qit (.inl (by have := hr.symm.trans e; simpa using this))).symm
end Go.V
namespace Go.V
open IntKind (wrap)
def wp.qcq (a : List D.Ins) (b : Int) (Q : (D.Warp × Bool) → Prop) : Prop :=
 (M.qej a ∧ ∀ c, c = M.qbh a → qa1 (!c) (Q ((⟨0, ([] : List D.Frame), ([] : List Int)⟩ : D.Warp), false)) ((∀ d, d = M.qaV b 0 2 → qa1 (!d) (Q ((⟨0, ([] : List D.Frame), ([] : List Int)⟩ : D.Warp), false)) (((0 ≤ (32 : Int) ∧ (32 : Int) ≤ 17179869184) ∧ qa1 (decide ((a.length : Int) > 0)) (Q ((⟨b, ([(⟨0, (a.length : Int), 255⟩ : D.Frame)] : List D.Frame), (List.replicate ((32 : Int).toNat) (default : Int))⟩ : D.Warp), true)) (Q ((⟨b, ([] : List D.Frame), (List.replicate ((32 : Int).toNat) (default : Int))⟩ : D.Warp), true)))))))
def wp.qbw (a : List D.Ins) (f : Int) (Q : (D.Block × Bool) → Prop) : Prop :=
 (M.qej a ∧ ∀ g, g = M.qbh a → qa1 (!g) (Q ((⟨([] : List D.Ins), ([] : List D.Warp), ([] : List Int), 0, 0⟩ : D.Block), false)) ((∀ h, h = M.qaV f 1 3 → qa1 (!h) (Q ((⟨([] : List D.Ins), ([] : List D.Warp), ([] : List Int), 0, 0⟩ : D.Block), false)) (qf6 (σ := (List D.Ins) × (List D.Warp) × (List Int) × Int × Int × Unit) (fun b => ((((((([] : List D.Ins).length + a.length ≤ 17179869184) ∧ ((((0 ≤ (32 : Int) ∧ (32 : Int) ≤ 17179869184) ∧ b ((([] : List D.Ins) ++ a), [], (List.replicate ((32 : Int).toNat) (default : Int)), 0, 0, ()))) ∧ (((0 ≤ (32 : Int) ∧ (32 : Int) ≤ 17179869184) ∧ b ((([] : List D.Ins) ++ a), [], (List.replicate ((32 : Int).toNat) (default : Int)), 0, 0, ()))) ∧ True))) ∧ (((0 ≤ (32 : Int) ∧ (32 : Int) ≤ 17179869184) ∧ ((((([] : List D.Ins).length + a.length ≤ 17179869184) ∧ b ((([] : List D.Ins) ++ a), [], (List.replicate ((32 : Int).toNat) (default : Int)), 0, 0, ()))) ∧ (((([] : List D.Ins).length + a.length ≤ 17179869184) ∧ b ((([] : List D.Ins) ++ a), [], (List.replicate ((32 : Int).toNat) (default : Int)), 0, 0, ()))) ∧ True))) ∧ (((((([] : List D.Ins).length + a.length ≤ 17179869184) ∧ ((0 ≤ (32 : Int) ∧ (32 : Int) ≤ 17179869184) ∧ b ((([] : List D.Ins) ++ a), [], (List.replicate ((32 : Int).toNat) (default : Int)), 0, 0, ())))) ∧ (((0 ≤ (32 : Int) ∧ (32 : Int) ≤ 17179869184) ∧ ((([] : List D.Ins).length + a.length ≤ 17179869184) ∧ b ((([] : List D.Ins) ++ a), [], (List.replicate ((32 : Int).toNat) (default : Int)), 0, 0, ())))) ∧ True)) ∧ True)) ∧ (((0 ≤ (32 : Int) ∧ (32 : Int) ≤ 17179869184) ∧ ((((((([] : List D.Ins).length + a.length ≤ 17179869184) ∧ b ((([] : List D.Ins) ++ a), [], (List.replicate ((32 : Int).toNat) (default : Int)), 0, 0, ()))) ∧ (((([] : List D.Ins).length + a.length ≤ 17179869184) ∧ b ((([] : List D.Ins) ++ a), [], (List.replicate ((32 : Int).toNat) (default : Int)), 0, 0, ()))) ∧ True)) ∧ (((([] : List D.Ins).length + a.length ≤ 17179869184) ∧ b ((([] : List D.Ins) ++ a), [], (List.replicate ((32 : Int).toNat) (default : Int)), 0, 0, ()))) ∧ True))) ∧ (((((((([] : List D.Ins).length + a.length ≤ 17179869184) ∧ ((0 ≤ (32 : Int) ∧ (32 : Int) ≤ 17179869184) ∧ b ((([] : List D.Ins) ++ a), [], (List.replicate ((32 : Int).toNat) (default : Int)), 0, 0, ())))) ∧ (((0 ≤ (32 : Int) ∧ (32 : Int) ≤ 17179869184) ∧ ((([] : List D.Ins).length + a.length ≤ 17179869184) ∧ b ((([] : List D.Ins) ++ a), [], (List.replicate ((32 : Int).toNat) (default : Int)), 0, 0, ())))) ∧ True)) ∧ (((0 ≤ (32 : Int) ∧ (32 : Int) ≤ 17179869184) ∧ ((([] : List D.Ins).length + a.length ≤ 17179869184) ∧ b ((([] : List D.Ins) ++ a), [], (List.replicate ((32 : Int).toNat) (default : Int)), 0, 0, ())))) ∧ True)) ∧ True)) (fun (k : (List D.Ins) × (List D.Warp) × (List Int) × Int × Int × Unit) => match k with | (l, m, n, o, p, _) => qcV (σ := Int × (List D.Warp) × Int × Int × Unit) (fun (q : Int × (List D.Warp) × Int × Int × Unit) r => match q with | (c, d, i, j, _) => qa1 (decide (c < f)) ((M.qgt a c ∧ ∀ e, e = M.qcq a c → ((d.length + ([e.1] : List D.Warp).length ≤ 17179869184) ∧ r ((wrap .i64 (c + 1)), (d ++ ([e.1] : List D.Warp)), i, j, ())))) (Q ((⟨l, d, n, i, j⟩ : D.Block), true))) (0, m, o, p, ()))))))
def wp.qao (a : List D.Ins) (Q : (List D.Ins) → Prop) : Prop :=
 (∀ b : Bool, (b = true → a = []) → qa1 b (Q ([] : List D.Ins)) (((([] : List D.Ins).length + a.length ≤ 17179869184) ∧ Q (([] : List D.Ins) ++ a))))
def wp.qcd (a : D.Warp) (Q : D.Warp → Prop) : Prop :=
 ((((((([] : List D.Frame).length + a.Frames.length ≤ 17179869184) ∧ ((([] : List Int).length + a.Regs.length ≤ 17179869184) ∧ Q (⟨a.Number, (([] : List D.Frame) ++ a.Frames), (([] : List Int) ++ a.Regs)⟩ : D.Warp)))) ∧ (((([] : List D.Frame).length + a.Frames.length ≤ 17179869184) ∧ ((([] : List Int).length + a.Regs.length ≤ 17179869184) ∧ Q (⟨a.Number, (([] : List D.Frame) ++ a.Frames), (([] : List Int) ++ a.Regs)⟩ : D.Warp)))) ∧ True)) ∧ (((([] : List D.Frame).length + a.Frames.length ≤ 17179869184) ∧ ((([] : List Int).length + a.Regs.length ≤ 17179869184) ∧ Q (⟨a.Number, (([] : List D.Frame) ++ a.Frames), (([] : List Int) ++ a.Regs)⟩ : D.Warp)))) ∧ True)
def wp.qdq (a : D.Block) (Q : D.Block → Prop) : Prop :=
 qf6 (σ := (List D.Ins) × (List D.Warp) × (List Int) × Int × Int × Unit) (fun b => ((((((([] : List D.Ins).length + a.Code.length ≤ 17179869184) ∧ ((((((([] : List Int).length + a.Memory.length ≤ 17179869184) ∧ b ((([] : List D.Ins) ++ a.Code), [], (([] : List Int) ++ a.Memory), a.Waiting, a.Phase, ()))) ∧ (((([] : List Int).length + a.Memory.length ≤ 17179869184) ∧ b ((([] : List D.Ins) ++ a.Code), [], (([] : List Int) ++ a.Memory), a.Waiting, a.Phase, ()))) ∧ True)) ∧ (((([] : List Int).length + a.Memory.length ≤ 17179869184) ∧ b ((([] : List D.Ins) ++ a.Code), [], (([] : List Int) ++ a.Memory), a.Waiting, a.Phase, ()))) ∧ True))) ∧ (((((([] : List D.Ins).length + a.Code.length ≤ 17179869184) ∧ ((((([] : List Int).length + a.Memory.length ≤ 17179869184) ∧ b ((([] : List D.Ins) ++ a.Code), [], (([] : List Int) ++ a.Memory), a.Waiting, a.Phase, ()))) ∧ (((([] : List Int).length + a.Memory.length ≤ 17179869184) ∧ b ((([] : List D.Ins) ++ a.Code), [], (([] : List Int) ++ a.Memory), a.Waiting, a.Phase, ()))) ∧ True))) ∧ (((([] : List D.Ins).length + a.Code.length ≤ 17179869184) ∧ ((([] : List Int).length + a.Memory.length ≤ 17179869184) ∧ b ((([] : List D.Ins) ++ a.Code), [], (([] : List Int) ++ a.Memory), a.Waiting, a.Phase, ())))) ∧ True)) ∧ (((((([] : List D.Ins).length + a.Code.length ≤ 17179869184) ∧ ((([] : List Int).length + a.Memory.length ≤ 17179869184) ∧ b ((([] : List D.Ins) ++ a.Code), [], (([] : List Int) ++ a.Memory), a.Waiting, a.Phase, ())))) ∧ (((([] : List D.Ins).length + a.Code.length ≤ 17179869184) ∧ ((([] : List Int).length + a.Memory.length ≤ 17179869184) ∧ b ((([] : List D.Ins) ++ a.Code), [], (([] : List Int) ++ a.Memory), a.Waiting, a.Phase, ())))) ∧ True)) ∧ True)) ∧ (((((((([] : List D.Ins).length + a.Code.length ≤ 17179869184) ∧ ((((([] : List Int).length + a.Memory.length ≤ 17179869184) ∧ b ((([] : List D.Ins) ++ a.Code), [], (([] : List Int) ++ a.Memory), a.Waiting, a.Phase, ()))) ∧ (((([] : List Int).length + a.Memory.length ≤ 17179869184) ∧ b ((([] : List D.Ins) ++ a.Code), [], (([] : List Int) ++ a.Memory), a.Waiting, a.Phase, ()))) ∧ True))) ∧ (((([] : List D.Ins).length + a.Code.length ≤ 17179869184) ∧ ((([] : List Int).length + a.Memory.length ≤ 17179869184) ∧ b ((([] : List D.Ins) ++ a.Code), [], (([] : List Int) ++ a.Memory), a.Waiting, a.Phase, ())))) ∧ True)) ∧ (((([] : List D.Ins).length + a.Code.length ≤ 17179869184) ∧ ((([] : List Int).length + a.Memory.length ≤ 17179869184) ∧ b ((([] : List D.Ins) ++ a.Code), [], (([] : List Int) ++ a.Memory), a.Waiting, a.Phase, ())))) ∧ True)) ∧ (((((((([] : List D.Ins).length + a.Code.length ≤ 17179869184) ∧ ((([] : List Int).length + a.Memory.length ≤ 17179869184) ∧ b ((([] : List D.Ins) ++ a.Code), [], (([] : List Int) ++ a.Memory), a.Waiting, a.Phase, ())))) ∧ (((([] : List D.Ins).length + a.Code.length ≤ 17179869184) ∧ ((([] : List Int).length + a.Memory.length ≤ 17179869184) ∧ b ((([] : List D.Ins) ++ a.Code), [], (([] : List Int) ++ a.Memory), a.Waiting, a.Phase, ())))) ∧ True)) ∧ (((([] : List D.Ins).length + a.Code.length ≤ 17179869184) ∧ ((([] : List Int).length + a.Memory.length ≤ 17179869184) ∧ b ((([] : List D.Ins) ++ a.Code), [], (([] : List Int) ++ a.Memory), a.Waiting, a.Phase, ())))) ∧ True)) ∧ True)) (fun (h : (List D.Ins) × (List D.Warp) × (List Int) × Int × Int × Unit) => match h with | (i, j, k, l, m, _) => qcV (σ := Int × (List D.Warp) × Int × Int × Unit) (fun (n : Int × (List D.Warp) × Int × Int × Unit) o => match n with | (c, d, f, g, _) => qa1 (decide (c < (a.Warps.length : Int))) (((0 ≤ c ∧ c < (a.Warps.length : Int)) ∧ (M.qeI (rd a.Warps c) ∧ ∀ e, e = M.qcd (rd a.Warps c) → ((d.length + ([e] : List D.Warp).length ≤ 17179869184) ∧ o ((wrap .i64 (c + 1)), (d ++ ([e] : List D.Warp)), f, g, ()))))) (Q (⟨i, d, k, f, g⟩ : D.Block))) (0, j, l, m, ()))
def wp.qag (a : List D.Frame) (Q : (List D.Frame) → Prop) : Prop :=
 (∀ b : Bool, (b = true → a = []) → qa1 b (Q ([] : List D.Frame)) (((([] : List D.Frame).length + a.length ≤ 17179869184) ∧ Q (([] : List D.Frame) ++ a))))
def wp.qcO (a : D.Warp) (Q : D.Warp → Prop) : Prop :=
 (((((M.qbb a.Frames ∧ ∀ b, b = M.qag a.Frames → (M.qaW a.Regs ∧ ∀ c, c = M.qaq a.Regs → Q (⟨a.Number, b, c⟩ : D.Warp)))) ∧ ((M.qbb a.Frames ∧ ∀ d, d = M.qag a.Frames → (M.qaW a.Regs ∧ ∀ e, e = M.qaq a.Regs → Q (⟨a.Number, d, e⟩ : D.Warp)))) ∧ True)) ∧ ((M.qbb a.Frames ∧ ∀ f, f = M.qag a.Frames → (M.qaW a.Regs ∧ ∀ g, g = M.qaq a.Regs → Q (⟨a.Number, f, g⟩ : D.Warp)))) ∧ True)
def wp.qca (a : D.Block) (Q : D.Block → Prop) : Prop :=
 qf6 (σ := (List D.Ins) × (List D.Warp) × (List Int) × Int × Int × Unit) (fun c => (((M.qbR a.Code ∧ ∀ d, d = M.qao a.Code → (((M.qaW a.Memory ∧ ∀ g, g = M.qaq a.Memory → c (d, [], g, a.Waiting, a.Phase, ()))) ∧ ((M.qaW a.Memory ∧ ∀ h, h = M.qaq a.Memory → c (d, [], h, a.Waiting, a.Phase, ()))) ∧ True))) ∧ ((M.qbR a.Code ∧ ∀ i, i = M.qao a.Code → (M.qaW a.Memory ∧ ∀ j, j = M.qaq a.Memory → c (i, [], j, a.Waiting, a.Phase, ())))) ∧ True)) (fun (m : (List D.Ins) × (List D.Warp) × (List Int) × Int × Int × Unit) => match m with | (n, o, p, q, r, _) => qcV (σ := Int × (List D.Warp) × Int × Int × Unit) (fun (s : Int × (List D.Warp) × Int × Int × Unit) t => match s with | (b, e, k, l, _) => qa1 (decide (b < (a.Warps.length : Int))) (((0 ≤ b ∧ b < (a.Warps.length : Int)) ∧ (M.qg6 (rd a.Warps b) ∧ ∀ f, f = M.qcO (rd a.Warps b) → ((e.length + ([f] : List D.Warp).length ≤ 17179869184) ∧ t ((wrap .i64 (b + 1)), (e ++ ([f] : List D.Warp)), k, l, ()))))) (Q (⟨n, e, p, k, l⟩ : D.Block))) (0, o, q, r, ()))
end Go.V
namespace Go.V
open IntKind (wrap)
theorem wp.qao.math (l : List D.Ins) (h : M.qbR l) : wp.qao l (fun r => r = M.qao l) := by
 intro b hb
 refine qa2 (fun e => ?_) fun e => ⟨by simp only [List.length_nil, Nat.zero_add]; exact h, ?_⟩
 ·rw [hb e]; rfl
 ·simp [M.qao]
theorem wp.qag.math (l : List D.Frame) (h : M.qbb l) : wp.qag l (fun r => r = M.qag l) := by
 intro b hb
 refine qa2 (fun e => ?_) fun e => ⟨by simp only [List.length_nil, Nat.zero_add]; exact h, ?_⟩
 ·rw [hb e]; rfl
 ·simp [M.qag]
theorem qn9 (p : List D.Ins) (n : Int) : qa1 (decide ((p.length : Int) > 0)) ((⟨n, [⟨0, (p.length : Int), 255⟩], List.replicate ((32 : Int).toNat) (default : Int)⟩ : D.Warp) = M.qdI p n) ((⟨n, [], List.replicate ((32 : Int).toNat) (default : Int)⟩ : D.Warp) = M.qdI p n) := by
 refine qa2 (fun e => ?_) fun e => ?_
 ·have e3 : p.length > 0 := by simp only [decide_eq_true_eq] at e; omega
  unfold M.qdI; rw [if_pos e3]; rfl
 ·have e3 : ¬ p.length > 0 := by simp only [decide_eq_false_iff_not] at e; omega
  unfold M.qdI; rw [if_neg e3]; rfl
theorem wp.qcq.math (p : List D.Ins) (n : Int) (h : M.qgt p n) : wp.qcq p n (fun r => r = M.qcq p n) := by
 refine ⟨h, fun r hr => qa2 (fun e => ?_) fun e r2 hr2 => qa2 (fun e2 => ?_) fun e2 => ⟨by omega, ?_⟩⟩
 all_goals simp only [M.qbh, M.qaV] at *
 ·simp [M.qcq, nt e hr, M.qod]
 ·simp [M.qcq, nt e2 hr2, M.qod]
 ·have hM : M.qcq p n = (M.qdI p n, true) := by simp [M.qcq, nf e hr, nf e2 hr2]
  rw [hM]
  have := qgY.1 (qn9 p n)
  exact qa2 (fun e3 => by rw [this.1 e3]) fun e3 => by rw [this.2 e3]
theorem qgb {σ : Type} {A : (σ → Prop) → Prop} {B : σ → Prop} (v : σ) (h : B v) (hA : ∀ J : σ → Prop, J v → A J) : qf6 A B := hA B h
theorem qkm {α : Type} (g : Nat → α) (k : Nat) : (List.range (k + 1)).map g = (List.range k).map g ++ [g k] := by simp [List.range_succ]
theorem qkH {p : List D.Ins} (h : M.qb6 p = true) : p.length ≤ 32 := by
 simp only [M.qb6, Bool.and_eq_true, decide_eq_true_eq] at h
 exact h.1
theorem wp.qbw.math (p : List D.Ins) (c : Int) (h : M.qg9 p c) : wp.qbw p c (fun r => r = M.qbw p c) := by
 refine ⟨h, fun r hr => qa2 (fun e => ?_) fun e r2 hr2 => qa2 (fun e2 => ?_) fun e2 => ?_⟩
 all_goals simp only [M.qbh, M.qaV] at *
 ·simp [M.qbw, M.qfk, nt e hr, M.qmm]
 ·simp [M.qbw, M.qfk, nt e2 hr2, M.qmm]
 have h1 := nf e hr
 have h2 := nf e2 hr2
 have h3 := qkH h1
 have h4 : 1 ≤ c ∧ c ≤ 3 := by simpa [M.isIn] using h2
 have hM : M.qbw p c = (M.qew p c, true) := by simp [M.qbw, M.qfk, h1, h2]
 rw [hM]
 have hm : (0 ≤ (32 : Int) ∧ (32 : Int) ≤ 17179869184) := by omega
 have hl : ([] : List D.Ins).length + p.length ≤ 17179869184 := by simp; omega
 refine qgb (p, [], List.replicate 32 0, 0, 0, ()) ?_ fun J hJ => ?_
 ·refine qcS c.toNat (fun k => ((k : Int), (List.range k).map (fun j : Nat => M.qdI p (j : Int)), 0, 0, ())) (fun _ => True) rfl trivial (fun k hk _ next hn => ?_) fun _ next => ?_
  ·refine qaH (by simp; omega) ⟨h, fun r hr => ⟨by simp; omega, ?_⟩⟩
   have hin : M.isIn (k : Int) 0 2 = true := by simp [M.isIn]; omega
   have : r = (M.qdI p (k : Int), true) := by rw [hr]; simp [M.qcq, h1, hin]
   rw [up64 hk (by omega), this]
   have := hn trivial
   rwa [qkm] at this
  ·exact qaA (by simp; omega) rfl
 ·have hJ' : J ((([] : List D.Ins) ++ p), [], (List.replicate ((32 : Int).toNat) (default : Int)), 0, 0, ()) := hJ
  simp only [and_true]
  simp only [hl, hm, hJ', and_self]
theorem wp.qcO.math (x : D.Warp) (h : M.qg6 x) : wp.qcO x (fun r => r = M.qcO x) := by
 obtain ⟨h1, h2⟩ := h
 have q1 : M.qbb x.Frames := h1
 have q2 : M.qaW x.Regs := h2
 unfold wp.qcO
 simp only [M.qag, M.qaq, forall_eq, q1, q2, true_and, and_true, M.qcO, and_self]
theorem wp.qca.math (b : D.Block) (h : M.qeM b) : wp.qca b (fun r => r = M.qca b) := by
 obtain ⟨h1, ⟨h2, hW⟩, h3⟩ := h
 have q1 : M.qbR b.Code := h1
 have q2 : M.qaW b.Memory := h3
 unfold wp.qca
 simp only [M.qao, M.qaq, forall_eq]
 refine qgb (b.Code, [], b.Memory, b.Waiting, b.Phase, ()) ?_ fun J hJ => ⟨⟨q1, ⟨q2, hJ⟩, ⟨q2, hJ⟩, trivial⟩, ⟨q1, q2, hJ⟩, trivial⟩
 refine qcS b.Warps.length (fun k => ((k : Int), b.Warps.take k, b.Waiting, b.Phase, ())) (fun _ => True) rfl trivial (fun k hk _ next hn => ?_) fun _ next => ?_
 ·refine qaH (by simp; omega) ⟨by omega, hW _ (qgj hk), by simp; omega, ?_⟩
  rw [up64 hk (by omega)]
  have := hn trivial
  rw [List.take_add_one, List.getElem?_eq_getElem hk, Option.toList_some] at this
  rw [qcU hk]; exact this
 ·refine qaA (by simp) ?_
  rw [List.take_length]; rfl
theorem qq0 {α : Type} [Inhabited α] {l m : List α} {y : α} {k : Nat} (h : l.length = k) : rd (l ++ y :: m) (k : Int) = y := by
 subst h
 rw [qcU (by simp)]; simp
theorem wp.qcd.math (x : D.Warp) (h : M.qeI x) : wp.qcd x (fun r => r = M.qcd x) := by
 obtain ⟨h1, h2⟩ := h
 unfold wp.qcd
 simp only [List.nil_append, List.length_nil, Nat.zero_add, h1, h2, true_and, and_true, and_self, M.qcd]
theorem wp.qdq.math (b : D.Block) (h : M.qgp b) : wp.qdq b (fun r => r = M.qdq b) := by
 obtain ⟨h1, ⟨h2, hW⟩, h3⟩ := h
 unfold wp.qdq
 simp only [List.nil_append, List.length_nil, Nat.zero_add]
 refine qgb (b.Code, [], b.Memory, b.Waiting, b.Phase, ()) ?_ fun J hJ => by simp only [h1, h3, hJ, true_and, and_true, and_self]
 refine qcS b.Warps.length (fun k => ((k : Int), b.Warps.take k, b.Waiting, b.Phase, ())) (fun _ => True) rfl trivial (fun k hk _ next hn => ?_) fun _ next => ?_
 ·refine qaH (by simp; omega) ⟨by omega, hW _ (qgj hk), fun r hr => ⟨by simp; omega, ?_⟩⟩
  rw [up64 hk (by omega), hr]
  have := hn trivial
  rw [List.take_add_one, List.getElem?_eq_getElem hk, Option.toList_some] at this
  rw [qcU hk]; exact this
 ·refine qaA (by simp) ?_
  rw [List.take_length]; rfl
theorem qmF {b : D.Block} (h : M.BFit b) : M.qlm b := by
 obtain ⟨h1, ⟨h2, hW⟩, h3⟩ := h
 unfold M.qlm M.qoc M.qnH M.Long
 exact ⟨by omega, ⟨by omega, fun x hx => by have := hW x hx; unfold M.WFit at this; omega⟩, by omega⟩
theorem qlW {b : D.Block} (h : M.qnN b) : M.BFit b := by
 obtain ⟨h1, ⟨h2, hW⟩, h3⟩ := h
 exact ⟨by omega, ⟨by omega, fun x hx => by have := hW x hx; unfold M.qmY at this; unfold M.WFit; omega⟩, by omega⟩
end Go.V
namespace Go.V
open IntKind (wrap)
def wp.qbL (a : D.Warp) (Q : Int → Prop) : Prop :=
 qa1 ((a.Frames.length : Int) == 0) (Q 0) (((0 ≤ (wrap .i64 ((a.Frames.length : Int) - 1)) ∧ (wrap .i64 ((a.Frames.length : Int) - 1)) < (a.Frames.length : Int)) ∧ Q ((rd a.Frames (wrap .i64 ((a.Frames.length : Int) - 1))).Mask)))
def wp.qaU (b : D.Warp) (c : Int) (Q : Int → Prop) : Prop :=
 (∀ f, f = M.qb9 c → qa1 (!f) (Q 0) (qa1 ((b.Regs.length : Int) != 32) (Q 0) (qcV (σ := Int × Int × Unit) (fun (i : Int × Int × Unit) e => match i with | (d, a, _) => qa1 (decide (a < 8)) ((M.qec b ∧ ∀ g, g = M.qbL b → (∀ h, h = M.qbO g a → qa1 h (((0 ≤ (wrap .i64 ((wrap .i64 (a * 4)) + c)) ∧ (wrap .i64 ((wrap .i64 (a * 4)) + c)) < (b.Regs.length : Int)) ∧ qa1 ((rd b.Regs (wrap .i64 ((wrap .i64 (a * 4)) + c))) == 0) (((0 ≤ a) ∧ e ((qh0 .i64 d (wrap .i64 (1 * 2 ^ (min (a.toNat) (IntKind.bits .i64))))), (wrap .i64 (a + 1)), ()))) (e (d, (wrap .i64 (a + 1)), ())))) (e (d, (wrap .i64 (a + 1)), ()))))) (Q d)) (0, 0, ()))))
def wp.qbl (b : List D.Ins) (a : D.Warp) (Q : Bool → Prop) : Prop :=
 ((0 ≤ (wrap .i64 ((a.Frames.length : Int) - 1)) ∧ (wrap .i64 ((a.Frames.length : Int) - 1)) < (a.Frames.length : Int)) ∧ ((0 ≤ (rd a.Frames (wrap .i64 ((a.Frames.length : Int) - 1))).Pc ∧ (rd a.Frames (wrap .i64 ((a.Frames.length : Int) - 1))).Pc < (b.length : Int)) ∧ qa1 ((rd b ((rd a.Frames (wrap .i64 ((a.Frames.length : Int) - 1))).Pc)).Op != 10) (Q false) (((0 ≤ (rd a.Frames (wrap .i64 ((a.Frames.length : Int) - 1))).Pc ∧ (rd a.Frames (wrap .i64 ((a.Frames.length : Int) - 1))).Pc < (b.length : Int)) ∧ qa1 ((rd b ((rd a.Frames (wrap .i64 ((a.Frames.length : Int) - 1))).Pc)).B == (wrap .i64 ((rd a.Frames (wrap .i64 ((a.Frames.length : Int) - 1))).Pc + 1))) (Q false) (((0 ≤ (rd a.Frames (wrap .i64 ((a.Frames.length : Int) - 1))).Pc ∧ (rd a.Frames (wrap .i64 ((a.Frames.length : Int) - 1))).Pc < (b.length : Int)) ∧ (M.qe8 a ((rd b ((rd a.Frames (wrap .i64 ((a.Frames.length : Int) - 1))).Pc)).A) ∧ ∀ c, c = M.qaU a ((rd b ((rd a.Frames (wrap .i64 ((a.Frames.length : Int) - 1))).Pc)).A) → qa1 (c != 0) (Q (c != (rd a.Frames (wrap .i64 ((a.Frames.length : Int) - 1))).Mask)) (Q false))))))))
def wp.qaP (b : List D.Ins) (a : D.Warp) (Q : Bool → Prop) : Prop :=
 qa1 ((a.Frames.length : Int) == 0) (Q false) (((0 ≤ (wrap .i64 ((a.Frames.length : Int) - 1)) ∧ (wrap .i64 ((a.Frames.length : Int) - 1)) < (a.Frames.length : Int)) ∧ ((0 ≤ (rd a.Frames (wrap .i64 ((a.Frames.length : Int) - 1))).Pc ∧ (rd a.Frames (wrap .i64 ((a.Frames.length : Int) - 1))).Pc < (b.length : Int)) ∧ (∀ c, c = M.qcG (rd b ((rd a.Frames (wrap .i64 ((a.Frames.length : Int) - 1))).Pc)) → qa1 (!c) (Q false) ((M.qeO b a ∧ ∀ d, d = M.qbl b a → qa1 (!d) (Q true) (Q (decide ((a.Frames.length : Int) ≤ 22)))))))))
def wp.qcH (a : D.Block) (b : Int) (Q : Bool → Prop) : Prop :=
 ((0 ≤ b ∧ b < (a.Warps.length : Int)) ∧ qa1 (((rd a.Warps b).Frames.length : Int) == 0) (Q false) (((0 ≤ b) ∧ qa1 ((qdU .i64 (Int.fdiv a.Waiting (2 ^ (min (b.toNat) (IntKind.bits .i64)))) 1) == 1) (Q false) ((M.qeH a b ∧ ∀ c, c = M.qcs a b → (∀ d, d = M.qcG c → qa1 d ((M.qfW a.Code (rd a.Warps b) ∧ ∀ e, e = M.qaP a.Code (rd a.Warps b) → Q e)) (qa1 (c.Op != 16) (Q true) (Q (((rd a.Warps b).Frames.length : Int) == 1)))))))))
def wp.qbf (a : D.Warp) (Q : Int → Prop) : Prop :=
 qa1 ((a.Frames.length : Int) == 0) (Q 0) (((0 ≤ (wrap .i64 ((a.Frames.length : Int) - 1)) ∧ (wrap .i64 ((a.Frames.length : Int) - 1)) < (a.Frames.length : Int)) ∧ Q ((rd a.Frames (wrap .i64 ((a.Frames.length : Int) - 1))).Mask)))
def wp.qaR (c : D.Warp) (d : Int) (Q : Int → Prop) : Prop :=
 (M.qcX c ∧ ∀ f, f = M.qbf c → (∀ b, b = M.qbW f → qcV (σ := Int × Int × Unit) (fun (h : Int × Int × Unit) g => match h with | (e, a, _) => qa1 (decide (a < (b.length : Int))) (((0 ≤ a ∧ a < (b.length : Int)) ∧ (M.qdO c (rd b a) ∧ ((0 ≤ d ∧ d < ((List.drop ((wrap .i64 ((rd b a) * 4)).toNat) (List.take ((wrap .i64 ((wrap .i64 ((rd b a) + 1)) * 4)).toNat) c.Regs)).length : Int)) ∧ qa1 ((rd (List.drop ((wrap .i64 ((rd b a) * 4)).toNat) (List.take ((wrap .i64 ((wrap .i64 ((rd b a) + 1)) * 4)).toNat) c.Regs)) d) == 0) (((0 ≤ (rd b a)) ∧ g ((qh0 .i64 e (wrap .i64 (1 * 2 ^ (min ((rd b a).toNat) (IntKind.bits .i64))))), (wrap .i64 (a + 1)), ()))) (g (e, (wrap .i64 (a + 1)), ())))))) (Q e)) (0, 0, ())))
def wp.qb5 (a : D.Warp) (b : List D.Ins) (Q : Bool → Prop) : Prop :=
 ((0 ≤ (wrap .i64 ((a.Frames.length : Int) - 1)) ∧ (wrap .i64 ((a.Frames.length : Int) - 1)) < (a.Frames.length : Int)) ∧ ((0 ≤ (rd a.Frames (wrap .i64 ((a.Frames.length : Int) - 1))).Pc ∧ (rd a.Frames (wrap .i64 ((a.Frames.length : Int) - 1))).Pc < (b.length : Int)) ∧ qa1 ((rd b ((rd a.Frames (wrap .i64 ((a.Frames.length : Int) - 1))).Pc)).Op != 10) (Q false) (((0 ≤ (rd a.Frames (wrap .i64 ((a.Frames.length : Int) - 1))).Pc ∧ (rd a.Frames (wrap .i64 ((a.Frames.length : Int) - 1))).Pc < (b.length : Int)) ∧ qa1 ((rd b ((rd a.Frames (wrap .i64 ((a.Frames.length : Int) - 1))).Pc)).B == (wrap .i64 ((rd a.Frames (wrap .i64 ((a.Frames.length : Int) - 1))).Pc + 1))) (Q false) (((0 ≤ (rd a.Frames (wrap .i64 ((a.Frames.length : Int) - 1))).Pc ∧ (rd a.Frames (wrap .i64 ((a.Frames.length : Int) - 1))).Pc < (b.length : Int)) ∧ (M.qdg a ((rd b ((rd a.Frames (wrap .i64 ((a.Frames.length : Int) - 1))).Pc)).A) ∧ ∀ c, c = M.qaR a ((rd b ((rd a.Frames (wrap .i64 ((a.Frames.length : Int) - 1))).Pc)).A) → qa1 (c != 0) ((M.qcX a ∧ ∀ d, d = M.qbf a → Q (c != d))) (Q false))))))))
def wp.qaT (b : D.Block) (a : Int) (Q : Bool → Prop) : Prop :=
 (M.qdG b a ∧ ∀ c, c = M.qaC b a → qf6 (σ := Bool × Unit) (fun d => qa1 (!c.2) (d (true, ())) ((M.qeq b a ∧ ∀ e, e = M.qbH b a → d (e, ())))) (fun (h : Bool × Unit) => match h with | (i, _) => qa1 i (Q false) (qa1 (c.1.Op == 16) (((0 ≤ a ∧ a < (b.Warps.length : Int)) ∧ Q (((rd b.Warps a).Frames.length : Int) == 1))) ((∀ f, f = M.qcE c.1 → qa1 f (((0 ≤ a ∧ a < (b.Warps.length : Int)) ∧ (M.qep (rd b.Warps a) b.Code ∧ ∀ g, g = M.qb5 (rd b.Warps a) b.Code → qa1 (!g) (Q true) (((0 ≤ a ∧ a < (b.Warps.length : Int)) ∧ Q (decide ((wrap .i64 (((rd b.Warps a).Frames.length : Int) + 2)) ≤ 24))))))) (Q true))))))
def wp.qdB (a : D.Block) (c : Int) (Q : Int → Prop) : Prop :=
 ((((a.Warps.length : Int) : Int) ≠ 0) ∧ qcV (σ := Int × Unit) (fun (e : Int × Unit) f => match e with | (b, _) => qa1 (decide (b < (a.Warps.length : Int))) (((((a.Warps.length : Int) : Int) ≠ 0) ∧ (M.qgV a (Int.tmod (wrap .i64 ((Int.tmod c (a.Warps.length : Int)) + b)) (a.Warps.length : Int)) ∧ ∀ d, d = M.qcH a (Int.tmod (wrap .i64 ((Int.tmod c (a.Warps.length : Int)) + b)) (a.Warps.length : Int)) → qa1 d (Q (Int.tmod (wrap .i64 ((Int.tmod c (a.Warps.length : Int)) + b)) (a.Warps.length : Int))) (f ((wrap .i64 (b + 1)), ()))))) (Q (-1))) (0, ()))
def wp.qbe (a : D.Block) (c : Int) (Q : Int → Prop) : Prop :=
 qcV (σ := Int × Unit) (fun (e : Int × Unit) f => match e with | (b, _) => qa1 (decide (b < (a.Warps.length : Int))) (((((a.Warps.length : Int) : Int) ≠ 0) ∧ ((((a.Warps.length : Int) : Int) ≠ 0) ∧ (M.qeK a (Int.tmod (wrap .i64 ((Int.tmod c (a.Warps.length : Int)) + b)) (a.Warps.length : Int)) ∧ ∀ d, d = M.qaT a (Int.tmod (wrap .i64 ((Int.tmod c (a.Warps.length : Int)) + b)) (a.Warps.length : Int)) → qa1 d (Q (Int.tmod (wrap .i64 ((Int.tmod c (a.Warps.length : Int)) + b)) (a.Warps.length : Int))) (f ((wrap .i64 (b + 1)), ())))))) (Q (-1))) (0, ())
end Go.V
namespace Go.V
open IntKind (wrap)
theorem qid {x : D.Warp} (h : M.Long x.Frames) {Q : Int → Prop} (hQ : Q (M.qb2 x)) : qa1 ((x.Frames.length : Int) == 0) (Q 0) (((0 ≤ (wrap .i64 ((x.Frames.length : Int) - 1)) ∧ (wrap .i64 ((x.Frames.length : Int) - 1)) < (x.Frames.length : Int)) ∧ Q ((rd x.Frames (wrap .i64 ((x.Frames.length : Int) - 1))).Mask))) := by
 rw [qhe]
 refine qa2 (fun e => ?_) fun e => ?_
 ·unfold M.qb2 at hQ; rw [if_pos e] at hQ; exact hQ
 ·have hx : x.Frames ≠ [] := by simpa using e
  have hpos : 0 < x.Frames.length := List.length_pos_iff.2 hx
  rw [qdy h]
  unfold M.qb2 at hQ
  rw [if_neg (by rw [e]; simp)] at hQ
  exact ⟨by omega, hQ⟩
theorem wp.qbL.math (x : D.Warp) (h : M.qec x) : wp.qbL x (fun r => r = M.qbL x) := qid (Q := fun r => r = M.qb2 x) h rfl
theorem wp.qbf.math (x : D.Warp) (h : M.qcX x) : wp.qbf x (fun r => r = M.qbf x) := qid (Q := fun r => r = M.qb2 x) h rfl
theorem qke (x : D.Warp) (reg : Int) : M.qcA x reg = (List.range 8).foldl (fun m (k : Nat) => if M.qdu (M.qb2 x) (k : Int) = true then M.qeB x reg m (k : Int) else m) 0 := by
 unfold M.qcA M.qeG
 rw [List.foldl_filter]
 rfl
theorem qo1 {reg k : Int} (hr : M.qgD reg = true) (h0 : 0 ≤ k) (h7 : k ≤ 7) : 0 ≤ k * 4 + reg ∧ k * 4 + reg < 32 := by rw [qgk] at hr; omega
theorem wp.qaU.math (x : D.Warp) (reg : Int) (h : M.qe8 x reg) : wp.qaU x reg (fun r => r = M.qaU x reg) := by
 unfold wp.qaU
 simp only [lenB]
 refine fun r hr => qa2 (fun e => ?_) fun e => qa2 (fun e2 => ?_) fun e2 => ?_
 all_goals simp only [M.qb9] at hr
 ·simp [M.qaU, nt e hr]
 ·have : (x.Regs.length == 32) = false := by simpa using e2
  simp [M.qaU, this]
 have hreg := nf e hr
 have h32 : (x.Regs.length == 32) = true := by simpa using e2
 have h32' : x.Regs.length = 32 := by simpa using h32
 have hM : M.qaU x reg = M.qcA x reg := by simp [M.qaU, hreg, h32]
 rw [hM, qke]
 let F : Nat → Int := fun k => (List.range k).foldl (fun m (k : Nat) => if M.qdu (M.qb2 x) (k : Int) = true then M.qeB x reg m (k : Int) else m) 0
 have hF : ∀ k, F (k + 1) = if M.qdu (M.qb2 x) (k : Int) = true then M.qeB x reg (F k) (k : Int) else F k := fun k => by simp [F, List.range_succ]
 refine qcS 8 (fun k => (F k, (k : Int), ())) (fun _ => True) rfl trivial (fun k hk _ next hn => ?_) fun _ next => qaA (by simp) rfl
 have hn := hn trivial
 rw [hF] at hn
 have hw : wrap .i64 (wrap .i64 ((k : Int) * 4) + reg) = (k : Int) * 4 + reg := by
  have := qo1 hreg (k := (k : Int)) (by omega) (by omega)
  rw [w64 (x := (k : Int) * 4) (by omega) (by omega), w64 (by omega) (by omega)]
 have hin := qo1 hreg (k := (k : Int)) (by omega) (by omega)
 refine qaH (by simp; omega) ⟨h, fun r2 hr2 r3 hr3 => qa2 (fun e3 => ?_) fun e3 => ?_⟩
 all_goals simp only [M.qbL] at hr2
 all_goals simp only [M.qbO, hr2] at hr3
 ·rw [hw, h32']
  rw [if_pos (hr3.symm.trans e3)] at hn
  refine ⟨⟨hin.1, by omega⟩, qa2 (fun e4 => ⟨Int.natCast_nonneg k, ?_⟩) fun e4 => ?_⟩
  ·have e4 : rd x.Regs ((k : Int) * 4 + reg) = 0 := by simpa using e4
   unfold M.qeB at hn
   rw [if_pos e4] at hn
   rw [up64 (n := 8) hk (by omega)]; exact hn
  ·have e4 : ¬ rd x.Regs ((k : Int) * 4 + reg) = 0 := by simpa using e4
   unfold M.qeB at hn
   rw [if_neg e4] at hn
   rw [up64 (n := 8) hk (by omega)]; exact hn
 ·have e3 : ¬ M.qdu (M.qb2 x) (k : Int) = true := by rw [← hr3, e3]; simp
  rw [if_neg e3] at hn
  rw [up64 (n := 8) hk (by omega)]; exact hn
theorem qhW {m l : Int} (h : l ∈ M.qeG m) : 0 ≤ l ∧ l ≤ 7 := by
 have := (List.mem_filter.1 h).1
 simp only [List.mem_cons, List.not_mem_nil, or_false] at this
 omega
theorem qiB (m : Int) : (M.qeG m).length ≤ 8 := by
 have := List.length_filter_le (M.qdu m) [0, 1, 2, 3, 4, 5, 6, 7]
 exact this
theorem qo5 {α : Type} [Inhabited α] {l : List α} {a b : Nat} {i : Int} (h0 : 0 ≤ i) (hi : a + i.toNat < b) (hb : b ≤ l.length) : rd ((l.take b).drop a) i = rd l ((a : Int) + i) := by
 have e : ((a : Int) + i).toNat = a + i.toNat := by omega
 unfold rd
 rw [e, List.getD_eq_getElem?_getD, List.getD_eq_getElem?_getD, List.getElem?_drop, List.getElem?_take, if_pos hi]
theorem wp.qaR.math (x : D.Warp) (reg : Int) (h : M.qdg x reg) : wp.qaR x reg (fun r => r = M.qaR x reg) := by
 obtain ⟨h1, h32, hreg⟩ := h
 refine ⟨h1, fun r hr r2 hr2 => ?_⟩
 have hr2' : r2 = M.qeG (M.qb2 x) := by rw [hr2, hr]; rfl
 show qcV _ _
 have hl := qiB (M.qb2 x)
 have hmem : ∀ k : Nat, k < r2.length → 0 ≤ rd r2 (k : Int) ∧ rd r2 (k : Int) ≤ 7 := fun k hk => qhW (m := M.qb2 x) (by rw [← hr2']; exact qgj hk)
 have hM : M.qaR x reg = r2.foldl (M.qeB x reg) 0 := by rw [hr2']; rfl
 rw [hM]
 have hlen : r2.length ≤ 8 := by rw [hr2']; exact hl
 clear hr2 hr2' hM
 refine qcS r2.length (fun k => ((r2.take k).foldl (M.qeB x reg) 0, (k : Int), ())) (fun _ => True) rfl trivial (fun k hk _ next hn => ?_) fun _ next => qaA (by simp) (by rw [List.take_length])
 have hn := hn trivial
 rw [List.take_add_one, List.getElem?_eq_getElem hk, Option.toList_some, List.foldl_append, ← qcU hk] at hn
 simp only [List.foldl_cons, List.foldl_nil] at hn
 have hm := hmem k hk
 dsimp only
 generalize rd r2 (k : Int) = l at *
 have hin := qo1 hreg hm.1 hm.2
 rw [qgk] at hreg
 have a1 : wrap .i64 (l * 4) = l * 4 := w64 (by omega) (by omega)
 have a2 : wrap .i64 ((wrap .i64 (l + 1)) * 4) = l * 4 + 4 := by rw [w64 (x := l + 1) (by omega) (by omega), w64 (by omega) (by omega)]; omega
 rw [a1, a2]
 have hc : rd ((x.Regs.take (l * 4 + 4).toNat).drop (l * 4).toNat) reg = rd x.Regs (l * 4 + reg) := by
  rw [qo5 hreg.1 (by omega) (by omega)]
  congr 1; omega
 rw [hc, up64 hk (by omega)]
 refine qaH (by simp; omega) ⟨by omega, ⟨h32, hm⟩, ⟨by omega, by simp; omega⟩, qa2 (fun e => ⟨by omega, ?_⟩) fun e => ?_⟩
 ·have e : rd x.Regs (l * 4 + reg) = 0 := by simpa using e
  unfold M.qeB at hn
  rw [if_pos e] at hn
  exact hn
 ·have e : ¬ rd x.Regs (l * 4 + reg) = 0 := by simpa using e
  unfold M.qeB at hn
  rw [if_neg e] at hn
  exact hn
theorem qdQ {p : List D.Ins} {x : D.Warp} (h : M.Runs p x) : p.length ≤ 32 ∧ 0 < x.Frames.length ∧ x.Frames.length ≤ 24 ∧ x.Regs.length = 32 ∧ 0 ≤ M.qdN x ∧ M.qdN x < (p.length : Int) ∧ M.qdD (M.qaO p x) p.length = true ∧ 0 ≤ x.Number ∧ x.Number ≤ 2 := by
 obtain ⟨hp, hw, hx⟩ := h
 obtain ⟨k1, k2, k3⟩ := qib hw hx
 have hp' := hp
 simp only [M.qb6, Bool.and_eq_true, decide_eq_true_eq, List.all_eq_true] at hp
 simp only [M.qfQ, Bool.and_eq_true, M.isIn, decide_eq_true_eq, beq_iff_eq] at hw
 exact ⟨hp.1, List.length_pos_iff.2 hx, k1, hw.2.1, k2, k3, hp.2 _ (qkl k2 k3), hw.1.1, hw.1.2⟩
theorem qhT {i : D.Ins} {n : Int} (h : M.qdD i n = true) (e : i.Op = 10) : M.qgD i.A = true := by
 simp only [M.qdD, Bool.and_eq_true] at h
 have h := h.2
 rw [if_neg (by omega), if_neg (by omega), if_neg (by omega), if_neg (by omega), if_pos e] at h
 simp only [Bool.and_eq_true] at h
 exact h.1
theorem qh6 {x : D.Warp} (h : x.Frames ≠ []) : M.qb2 x = (M.qdb x.Frames).Mask := by
 unfold M.qb2
 rw [if_neg (by simpa using h)]
theorem wp.qbl.math (p : List D.Ins) (x : D.Warp) (h : M.qeO p x) : wp.qbl p x (fun r => r = M.qbl p x) := by
 obtain ⟨t1, t2, t3, t4, t5, t6, t7, _⟩ := qdQ h
 unfold wp.qbl
 rw [qdy (by omega)]
 change (_ ∧ _) ∧ (0 ≤ M.qdN x ∧ M.qdN x < _) ∧ qa1 ((M.qaO p x).Op != 10) _ ((0 ≤ M.qdN x ∧ M.qdN x < _) ∧ qa1 ((M.qaO p x).B == wrap .i64 (M.qdN x + 1)) _ ((0 ≤ M.qdN x ∧ M.qdN x < _) ∧ (M.qe8 x (M.qaO p x).A ∧ ∀ r, r = M.qaU x (M.qaO p x).A → qa1 (r != 0) ((r != (M.qdb x.Frames).Mask) = _) _)))
 rw [w64 (x := M.qdN x + 1) (by omega) (by omega)]
 refine ⟨by omega, ⟨t5, t6⟩, qa2 (fun e => ?_) fun e => ⟨⟨t5, t6⟩, qa2 (fun e2 => ?_) fun e2 => ⟨⟨t5, t6⟩, by show x.Frames.length ≤ 9223372036854775807; omega, fun r hr => qa2 (fun e3 => ?_) fun e3 => ?_⟩⟩⟩
 ·have e : ¬ (M.qaO p x).Op = 10 := by simpa using e
  simp [M.qbl, M.splits, e]
 ·have e2 : (M.qaO p x).B = M.qdN x + 1 := by simpa using e2
  simp [M.qbl, M.splits, e2]
 all_goals
  have e : (M.qaO p x).Op = 10 := by simpa using e
  have e2 : ¬ (M.qaO p x).B = M.qdN x + 1 := by simpa using e2
  have hz : r = M.qcA x (M.qaO p x).A := by
   rw [hr]
   simp [M.qaU, qhT t7 e, t4]
  rw [hz] at e3
  try rw [hz]
 ·simp only [M.qbl, M.splits, e, e3, Bool.true_and]
  have : ((M.qaO p x).B != M.qdN x + 1) = true := by simpa using e2
  rw [this]; rfl
 ·simp only [M.qbl, M.splits, e3, Bool.false_and, Bool.and_false]
theorem wp.qb5.math (x : D.Warp) (p : List D.Ins) (h : M.qep x p) : wp.qb5 x p (fun r => r = M.qb5 x p) := by
 obtain ⟨t1, t2, t3, t4, t5, t6, t7, _⟩ := qdQ h
 have hL : M.Long x.Frames := by unfold M.Long; omega
 unfold wp.qb5
 rw [qdy (by omega)]
 change (_ ∧ _) ∧ (0 ≤ M.qdN x ∧ M.qdN x < _) ∧ qa1 ((M.qaO p x).Op != 10) _ ((0 ≤ M.qdN x ∧ M.qdN x < _) ∧ qa1 ((M.qaO p x).B == wrap .i64 (M.qdN x + 1)) _ ((0 ≤ M.qdN x ∧ M.qdN x < _) ∧ (M.qdg x (M.qaO p x).A ∧ ∀ r, r = M.qaR x (M.qaO p x).A → qa1 (r != 0) (M.qcX x ∧ ∀ r49, r49 = M.qbf x → (r != r49) = _) _)))
 rw [w64 (x := M.qdN x + 1) (by omega) (by omega)]
 refine ⟨by omega, ⟨t5, t6⟩, qa2 (fun e => ?_) fun e => ⟨⟨t5, t6⟩, qa2 (fun e2 => ?_) fun e2 => ⟨⟨t5, t6⟩, ⟨hL, t4, qhT t7 (by simpa using e)⟩, fun r hr => qa2 (fun e3 => ⟨hL, fun r4 hr4 => ?_⟩) fun e3 => ?_⟩⟩⟩
 ·have e : ¬ (M.qaO p x).Op = 10 := by simpa using e
  simp [M.qb5, M.splits, e]
 ·have e2 : (M.qaO p x).B = M.qdN x + 1 := by simpa using e2
  simp [M.qb5, M.splits, e2]
 all_goals
  have e : (M.qaO p x).Op = 10 := by simpa using e
  have e2 : ¬ (M.qaO p x).B = M.qdN x + 1 := by simpa using e2
  have hz : r = M.qcA x (M.qaO p x).A := hr
  rw [hz] at e3
  try rw [hz]
 ·have hr4' : r4 = (M.qdb x.Frames).Mask := by rw [hr4]; exact qh6 h.2.2
  rw [hr4']
  simp only [M.qb5, M.splits, e, e3, Bool.true_and]
  have : ((M.qaO p x).B != M.qdN x + 1) = true := by simpa using e2
  rw [this]; rfl
 ·simp only [M.qb5, M.splits, e3, Bool.false_and, Bool.and_false]
theorem wp.qaP.math (p : List D.Ins) (x : D.Warp) (h : M.qfW p x) : wp.qaP p x (fun r => r = M.qaP p x) := by
 unfold wp.qaP
 rw [qhe]
 refine qa2 (fun e => ?_) fun e => ?_
 ·simp [M.qaP, e]
 have hx : x.Frames ≠ [] := by simpa using e
 obtain ⟨t1, t2, t3, t4, t5, t6, t7, _⟩ := qdQ ⟨h.1, h.2, hx⟩
 rw [qdy (by omega)]
 refine ⟨by omega, ⟨t5, t6⟩, fun r hr => qa2 (fun e2 => ?_) fun e2 => ⟨⟨h.1, h.2, hx⟩, fun r2 hr2 => qa2 (fun e3 => ?_) fun e3 => ?_⟩⟩
 all_goals have hr' : r = M.qcz (M.qaO p x) := hr
 ·have := nt e2 hr'
  simp [M.qaP, this]
 ·have := nt e3 (show r2 = M.splits p x from hr2)
  simp [M.qaP, e, nf e2 hr', this]
 ·have := nf e3 (show r2 = M.splits p x from hr2)
  simp only [M.qaP, e, nf e2 hr', this, Bool.not_false, Bool.not_true, Bool.true_and, Bool.false_or]
  congr 1; exact propext (by omega)
theorem qge {b : D.Block} {w : Int} (h : M.Has b w) (hx : (rd b.Warps w).Frames ≠ []) : M.Runs b.Code (rd b.Warps w) := by
 obtain ⟨_, _, hp, hw, _⟩ := qeg h
 exact ⟨hp, hw, hx⟩
theorem qok {α : Type} {l : List α} : ((l.length : Int) == 1) = (l.length == 1) := by
 rw [Bool.eq_iff_iff]; simp; omega
theorem wp.qcH.math (b : D.Block) (w : Int) (h : M.qgV b w) : wp.qcH b w (fun r => r = M.qcH b w) := by
 obtain ⟨h0, h1, hp, hw, hn, hok⟩ := qeg h
 unfold wp.qcH
 rw [qhe, qok]
 refine ⟨⟨h0, h1⟩, qa2 (fun e => ?_) fun e => ⟨h0, qa2 (fun e2 => ?_) fun e2 => ?_⟩⟩
 ·simp [M.qcH, M.qhk, e]
 ·have : M.waits b w = true := e2
  simp [M.qcH, M.qhk, this]
 have hx : (rd b.Warps w).Frames ≠ [] := by simpa using e
 have e2 : M.waits b w = false := e2
 refine ⟨⟨h, hx⟩, fun r hr r2 hr2 => qa2 (fun e3 => ⟨⟨hp, hw⟩, fun r3 hr3 => ?_⟩) fun e3 => qa2 (fun e4 => ?_) fun e4 => ?_⟩
 all_goals
  have hr' : r = M.qaO b.Code (rd b.Warps w) := hr
  have hr2' : r2 = M.qcz (M.qaO b.Code (rd b.Warps w)) := by rw [hr2, hr']; rfl
 ·have hl := hr2'.symm.trans e3
  rw [hr3]
  simp only [M.qaP, M.qcH, M.qhk, e, e2, hl, if_true, Bool.not_false, Bool.true_and]
 ·have hl := hr2'.symm.trans e3
  rw [hr'] at e4
  simp [M.qcH, M.qhk, e, e2, hl, e4]
 ·have hl := hr2'.symm.trans e3
  rw [hr'] at e4
  simp [M.qcH, M.qhk, e, e2, hl, e4]
theorem wp.qaT.math (b : D.Block) (w : Int) (h : M.qeK b w) : wp.qaT b w (fun r => r = M.qaT b w) := by
 obtain ⟨h0, h1, hp, hw, hn, hok⟩ := qeg h
 refine ⟨h, fun r hr => ?_⟩
 by_cases e : (rd b.Warps w).Frames.isEmpty = true
 ·have hr' : r = (⟨0, 0, 0, 0⟩, false) := by rw [hr]; simp [M.qaC, e]
  rw [hr']
  unfold qf6
  refine qaH rfl (qaH rfl ?_)
  simp [M.qaT, M.qhk, e]
 have e : (rd b.Warps w).Frames.isEmpty = false := by simpa using e
 have hx : (rd b.Warps w).Frames ≠ [] := by simpa using e
 have hr' : r = (M.qaO b.Code (rd b.Warps w), true) := by
  rw [hr]; simp only [M.qaC]; rw [if_neg (by rw [e]; simp)]; rfl
 have hruns := qge h hx
 obtain ⟨t1, t2, t3, t4, t5, t6, t7, _⟩ := qdQ hruns
 rw [hr']
 unfold qf6
 refine qaA rfl ⟨h0, fun r2 hr2 => ?_⟩
 have hr2' : r2 = M.waits b w := hr2
 refine qa2 (fun e2 => ?_) fun e2 => qa2 (fun e3 => ?_) fun e3 => ?_
 ·have := hr2'.symm.trans e2
  simp [M.qaT, M.qhk, this]
 ·have e2 := hr2'.symm.trans e2
  have e3 : (M.qaO b.Code (rd b.Warps w)).Op = 16 := by simpa using e3
  have hl : M.qcz (M.qaO b.Code (rd b.Warps w)) = false := by simp [M.qcz, M.isIn, e3]
  refine ⟨⟨h0, h1⟩, ?_⟩
  rw [qok]
  simp only [M.qaT, M.qhk, e, e2, hl, e3, Bool.not_false, Bool.true_and, bne_self_eq_false, Bool.false_or, Bool.false_eq_true, if_false]
 ·have e2 := hr2'.symm.trans e2
  have e3 : ¬ (M.qaO b.Code (rd b.Warps w)).Op = 16 := by simpa using e3
  intro r3 hr3
  refine qa2 (fun e4 => ⟨⟨h0, h1⟩, hruns, fun r4 hr4 => qa2 (fun e5 => ?_) fun e5 => ⟨⟨h0, h1⟩, ?_⟩⟩) fun e4 => ?_
  ·have e4 := (show r3 = M.qcz (M.qaO b.Code (rd b.Warps w)) from hr3).symm.trans e4
   have := nt e5 (show r4 = M.splits b.Code (rd b.Warps w) from hr4)
   simp [M.qaT, M.qhk, e, e2, e4, this]
  ·have e4 := (show r3 = M.qcz (M.qaO b.Code (rd b.Warps w)) from hr3).symm.trans e4
   have := nf e5 (show r4 = M.splits b.Code (rd b.Warps w) from hr4)
   rw [w64 (by omega) (by omega)]
   simp only [M.qaT, M.qhk, e, e2, e4, this, Bool.not_false, Bool.not_true, Bool.true_and, Bool.false_or, if_true]
   congr 1; exact propext (by omega)
  ·have e4 := (show r3 = M.qcz (M.qaO b.Code (rd b.Warps w)) from hr3).symm.trans e4
   simp [M.qaT, M.qhk, e, e2, e4, e3]
theorem qgG {b : D.Block} (h : M.Good b) : 1 ≤ b.Warps.length ∧ b.Warps.length ≤ 3 := by
 have := h.2
 simp only [M.qdE, Bool.and_eq_true, M.isIn, decide_eq_true_eq] at this
 omega
theorem qmZ {b : D.Block} (h : M.Good b) {w : Int} (h0 : 0 ≤ w) (h1 : w < (b.Warps.length : Int)) : M.Has b w := by
 have hc := qgG h
 refine ⟨h.1, ?_⟩
 simp only [M.qld, h.2, Bool.true_and, M.isIn, qdy (n := b.Warps.length) (by omega), Bool.and_eq_true, decide_eq_true_eq]
 omega
theorem qii {x n : Int} (hx : 0 ≤ x) (hn : 0 < n) : 0 ≤ Int.tmod x n ∧ Int.tmod x n < n :=
 ⟨Int.tmod_nonneg _ hx, Int.tmod_lt_of_pos _ hn⟩
theorem qlR {b : D.Block} (h : M.Good b) {q : Int} (h0 : 0 ≤ q) (hq : q ≤ 9223372036854775807) {B : (Int × Unit) → ((Int × Unit) → Prop) → Prop} {Q : Int → Prop} (hQ : Q (M.pick b q))
    (hb : ∀ (k : Nat) (next : (Int × Unit) → Prop), k < b.Warps.length → M.Has b (Int.tmod (Int.tmod q b.Warps.length + k) b.Warps.length) → (M.qhk b (Int.tmod (Int.tmod q b.Warps.length + k) b.Warps.length) = true → Q (Int.tmod (Int.tmod q b.Warps.length + k) b.Warps.length)) →
     (M.qhk b (Int.tmod (Int.tmod q b.Warps.length + k) b.Warps.length) = false → next (((k + 1 : Nat) : Int), ())) → wrap .i64 (Int.tmod q b.Warps.length + k) = Int.tmod q b.Warps.length + k → B ((k : Int), ()) next)
    (he : ∀ next : (Int × Unit) → Prop, Q (-1) → B ((b.Warps.length : Int), ()) next) : qcV B (0, ()) := by
 have hc := qgG h
 have ht := qii (x := q) (n := b.Warps.length) h0 (by omega)
 refine qcS b.Warps.length (fun k => ((k : Int), ())) (fun k => M.pick b q = M.qh1 b b.Warps.length (Int.tmod q b.Warps.length) (b.Warps.length - k) (k : Int)) rfl rfl (fun k hk hF next hn => ?_) fun hF next => ?_
 ·rw [show b.Warps.length - k = (b.Warps.length - (k + 1)) + 1 by omega, M.qh1] at hF
  have ht2 := qii (x := Int.tmod q b.Warps.length + k) (n := b.Warps.length) (by omega) (by omega)
  refine hb k next hk (qmZ h ht2.1 ht2.2) (fun e => ?_) (fun e => hn ?_) (w64 (by omega) (by omega))
  ·rw [if_pos e] at hF; rw [← hF]; exact hQ
  ·rw [if_neg (by rw [e]; simp)] at hF; rw [hF]; rfl
 ·refine he next ?_
  rw [Nat.sub_self, M.qh1] at hF
  rw [← hF]; exact hQ
theorem wp.qdB.math (b : D.Block) (q : Int) (h : M.qgx b q) : wp.qdB b q (fun r => r = M.qdB b q) := by
 obtain ⟨hg, h0, hq⟩ := h
 have hc := qgG hg
 refine ⟨by omega, qlR hg h0 hq (Q := fun r => r = M.pick b q) rfl (fun k next hk hh h1 h2 hw => ?_) fun next hh => qaA (by simp) hh⟩
 refine qaH (by simp; omega) ⟨by omega, ?_⟩
 simp only [hw]
 refine ⟨hh, fun r hr => qa2 (fun e => h1 (hr.symm.trans e)) fun e => ?_⟩
 rw [up64 hk (by omega)]; exact h2 (hr.symm.trans e)
theorem wp.qbe.math (b : D.Block) (q : Int) (h : M.qe3 b q) : wp.qbe b q (fun r => r = M.qbe b q) := by
 obtain ⟨hg, h0, hq⟩ := h
 have hc := qgG hg
 refine qlR hg h0 hq (Q := fun r => r = M.pick b q) rfl (fun k next hk hh h1 h2 hw => ?_) fun next hh => qaA (by simp) hh
 refine qaH (by simp; omega) ⟨by omega, by omega, ?_⟩
 simp only [hw]
 refine ⟨hh, fun r hr => qa2 (fun e => h1 (hr.symm.trans e)) fun e => ?_⟩
 rw [up64 hk (by omega)]; exact h2 (hr.symm.trans e)
end Go.V
namespace Go.V
open IntKind (wrap)
def wp.qd3 (b : List Int) (e : Int) (Q : (List Int) → Prop) : Prop :=
 qcV (σ := (List Int) × Int × Unit) (fun (f : (List Int) × Int × Unit) d => match f with | (c, a, _) => qa1 (decide (a < (b.length : Int))) (((0 ≤ a ∧ a < (b.length : Int)) ∧ qa1 ((rd b a) != e) (((0 ≤ a ∧ a < (b.length : Int)) ∧ ((c.length + ([(rd b a)] : List Int).length ≤ 17179869184) ∧ d ((c ++ ([(rd b a)] : List Int)), (wrap .i64 (a + 1)), ())))) (d (c, (wrap .i64 (a + 1)), ())))) (Q c)) (([] : List Int), 0, ())
def wp.qdS (a : List D.Ins) (d : Int) (Q : Bool → Prop) : Prop :=
 (M.qej a ∧ ∀ b, b = M.qbh a → qa1 b ((∀ c, c = M.qaV d 0 (a.length : Int) → Q c)) (Q false))
def wp.qbd (a : List Int) (d : Int) (Q : (List Int) → Prop) : Prop :=
 qf6 (σ := Int × Unit) (fun e => qcV (σ := Int × Unit) (fun (g : Int × Unit) h => match g with | (c, _) => qa1 (decide (c > 0)) (((0 ≤ (wrap .i64 (c - 1)) ∧ (wrap .i64 (c - 1)) < (a.length : Int)) ∧ qa1 (decide ((rd a (wrap .i64 (c - 1))) > d)) (h ((wrap .i64 (c - 1)), ())) (e (c, ())))) (e (c, ()))) ((a.length : Int), ())) (fun (i : Int × Unit) => match i with | (b, _) => qf6 (σ := Unit) (fun f => qa1 (decide (b > 0)) (((0 ≤ (wrap .i64 (b - 1)) ∧ (wrap .i64 (b - 1)) < (a.length : Int)) ∧ qa1 ((rd a (wrap .i64 (b - 1))) == d) (Q a) (f (())))) (f (()))) (fun (j : Unit) => match j with | (_) => ((0 ≤ b ∧ b ≤ (a.length : Int)) ∧ ((([] : List Int).length + (List.take (b.toNat) a).length ≤ 17179869184) ∧ (((([] : List Int) ++ (List.take (b.toNat) a)).length + ([d] : List Int).length ≤ 17179869184) ∧ ((0 ≤ b ∧ b ≤ (a.length : Int)) ∧ ((((([] : List Int) ++ (List.take (b.toNat) a)) ++ ([d] : List Int)).length + (List.drop (b.toNat) a).length ≤ 17179869184) ∧ Q (((([] : List Int) ++ (List.take (b.toNat) a)) ++ ([d] : List Int)) ++ (List.drop (b.toNat) a)))))))))
def wp.qcp (b : List D.Ins) (a : Int) (Q : (List Int) → Prop) : Prop :=
 qa1 (a == (b.length : Int)) (Q ([] : List Int)) (((0 ≤ a ∧ a < (b.length : Int)) ∧ qa1 ((rd b a).Op == 12) (Q ([(b.length : Int)] : List Int)) (qa1 ((rd b a).Op == 11) (((0 ≤ a ∧ a < (b.length : Int)) ∧ Q ([(rd b a).B] : List Int))) (qa1 ((rd b a).Op == 10) (((0 ≤ a ∧ a < (b.length : Int)) ∧ (M.qgK ([(wrap .i64 (a + 1))] : List Int) ((rd b a).B) ∧ ∀ c, c = M.qbd ([(wrap .i64 (a + 1))] : List Int) ((rd b a).B) → Q c))) (Q ([(wrap .i64 (a + 1))] : List Int))))))
def wp.qcP (c : List D.Ins) (e : List Int) (Q : (List Bool) → Prop) : Prop :=
 ((0 ≤ (wrap .i64 ((c.length : Int) + 1)) ∧ (wrap .i64 ((c.length : Int) + 1)) ≤ 17179869184) ∧ ((([] : List Int).length + e.length ≤ 17179869184) ∧ qcV (σ := (List Int) × (List Bool) × Unit) (fun (g : (List Int) × (List Bool) × Unit) f => match g with | (a, b, _) => qa1 (decide ((a.length : Int) > 0)) (((0 ≤ (0 : Int) ∧ (0 : Int) < (a.length : Int)) ∧ ((0 ≤ (1 : Int) ∧ (1 : Int) ≤ (a.length : Int)) ∧ ((0 ≤ (rd a 0) ∧ (rd a 0) < (b.length : Int)) ∧ qa1 (rd b (rd a 0)) (f ((List.drop ((1 : Int).toNat) a), b, ())) (((0 ≤ (rd a 0) ∧ (rd a 0) < (b.length : Int)) ∧ (M.qfe c (rd a 0) ∧ ∀ d, d = M.qcp c (rd a 0) → (((List.drop ((1 : Int).toNat) a).length + d.length ≤ 17179869184) ∧ f (((List.drop ((1 : Int).toNat) a) ++ d), (List.set b ((rd a 0).toNat) true), ()))))))))) (Q b)) ((([] : List Int) ++ e), (List.replicate ((wrap .i64 ((c.length : Int) + 1)).toNat) (default : Bool)), ())))
def wp.qaN (a : List D.Ins) (b : Int) (Q : Bool → Prop) : Prop :=
 (M.qh8 a b ∧ ∀ d, d = M.qdS a b → qa1 d ((M.qg2 a ([b] : List Int) ∧ ∀ c, c = M.qcP a ([b] : List Int) → ((0 ≤ (a.length : Int) ∧ (a.length : Int) < (c.length : Int)) ∧ Q (rd c (a.length : Int))))) (Q false))
def wp.qcN (b : List D.Ins) (f : Int) (g : Int) (Q : Bool → Prop) : Prop :=
 qa1 (f == g) (Q true) (((0 ≤ (wrap .i64 ((b.length : Int) + 1)) ∧ (wrap .i64 ((b.length : Int) + 1)) ≤ 17179869184) ∧ qcV (σ := (List Int) × (List Bool) × Unit) (fun (h : (List Int) × (List Bool) × Unit) d => match h with | (a, c, _) => qa1 (decide ((a.length : Int) > 0)) (((0 ≤ (0 : Int) ∧ (0 : Int) < (a.length : Int)) ∧ ((0 ≤ (1 : Int) ∧ (1 : Int) ≤ (a.length : Int)) ∧ ((0 ≤ (rd a 0) ∧ (rd a 0) < (c.length : Int)) ∧ qa1 (rd c (rd a 0)) (d ((List.drop ((1 : Int).toNat) a), c, ())) (qa1 ((rd a 0) == g) (d ((List.drop ((1 : Int).toNat) a), c, ())) (qa1 ((rd a 0) == (b.length : Int)) (Q false) (((0 ≤ (rd a 0) ∧ (rd a 0) < (c.length : Int)) ∧ (M.qfe b (rd a 0) ∧ ∀ e, e = M.qcp b (rd a 0) → (((List.drop ((1 : Int).toNat) a).length + e.length ≤ 17179869184) ∧ d (((List.drop ((1 : Int).toNat) a) ++ e), (List.set c ((rd a 0).toNat) true), ()))))))))))) (Q true)) (([f] : List Int), (List.replicate ((wrap .i64 ((b.length : Int) + 1)).toNat) (default : Bool)), ())))
def wp.qcw (b : List D.Ins) (c : Int) (Q : (List Int) → Prop) : Prop :=
 (M.qe2 b c ∧ ∀ e, e = M.qaN b c → qa1 (!e) (Q ([] : List Int)) (qcV (σ := (List Int) × Int × Unit) (fun (h : (List Int) × Int × Unit) f => match h with | (d, a, _) => qa1 (decide (a ≤ (b.length : Int))) ((M.qeY b c a ∧ ∀ g, g = M.qcN b c a → qa1 g (((d.length + ([a] : List Int).length ≤ 17179869184) ∧ f ((d ++ ([a] : List Int)), (wrap .i64 (a + 1)), ()))) (f (d, (wrap .i64 (a + 1)), ())))) (Q d)) (([] : List Int), 0, ())))
def wp.qdj (d : List D.Ins) (a : List Int) (Q : Int → Prop) : Prop :=
 qcV (σ := Int × Unit) (fun (h : Int × Unit) i => match h with | (b, _) => qa1 (decide (b < (a.length : Int))) (qcV (σ := Bool × Int × Unit) (fun (j : Bool × Int × Unit) e => match j with | (f, c, _) => qa1 (decide (c < (a.length : Int))) (qa1 f (((0 ≤ b ∧ b < (a.length : Int)) ∧ ((0 ≤ c ∧ c < (a.length : Int)) ∧ (M.qeY d (rd a b) (rd a c) ∧ ∀ g, g = M.qcN d (rd a b) (rd a c) → e (g, (wrap .i64 (c + 1)), ()))))) (e (false, (wrap .i64 (c + 1)), ()))) (qa1 f (((0 ≤ b ∧ b < (a.length : Int)) ∧ Q (rd a b))) (i ((wrap .i64 (b + 1)), ())))) (true, 0, ())) (Q (-1))) (0, ())
def wp.qch (a : List D.Ins) (b : Int) (Q : Int → Prop) : Prop :=
 (M.qg4 a b ∧ ∀ c, c = M.qcw a b → (M.qfC c b ∧ ∀ d, d = M.qd3 c b → (M.qfY a d ∧ ∀ e, e = M.qdj a d → Q e)))
def wp.qcD (a : List D.Ins) (b : Int) (Q : Int → Prop) : Prop :=
 (M.qe2 a (wrap .i64 (b + 1)) ∧ ∀ c, c = M.qaN a (wrap .i64 (b + 1)) → qa1 (!c) (Q (a.length : Int)) (((0 ≤ b ∧ b < (a.length : Int)) ∧ (M.qe2 a ((rd a b).B) ∧ ∀ d, d = M.qaN a ((rd a b).B) → qa1 (!d) (Q (a.length : Int)) ((M.qfp a b ∧ ∀ e, e = M.qch a b → Q e))))))
end Go.V
namespace Go.V
open IntKind (wrap)
theorem qjk {g : Int → Bool} {x : Int} : ∀ {n : Nat}, x ∈ M.idx g n ↔ ∃ k : Nat, k < n ∧ x = (k : Int) ∧ g x = true
 | 0 => by simp [M.idx]
 | n + 1 => by
  have ih := qjk (g := g) (x := x) (n := n)
  unfold M.idx
  constructor
  ·intro h
   split at h
   ·rename_i e
    rcases List.mem_append.1 h with h | h
    ·obtain ⟨k, hk, h1, h2⟩ := ih.1 h; exact ⟨k, by omega, h1, h2⟩
    ·obtain rfl := List.mem_singleton.1 h; exact ⟨n, by omega, rfl, e⟩
   ·obtain ⟨k, hk, h1, h2⟩ := ih.1 h; exact ⟨k, by omega, h1, h2⟩
  ·rintro ⟨k, hk, rfl, h2⟩
   by_cases hkn : k = n
   ·subst hkn; rw [if_pos h2]; simp
   ·have := ih.2 ⟨k, by omega, rfl, h2⟩
    split
    ·exact List.mem_append_left _ this
    ·exact this
theorem ql9 (g : Int → Bool) : ∀ n, (M.idx g n).length ≤ n
 | 0 => by simp [M.idx]
 | n + 1 => by
  have := ql9 g n
  unfold M.idx
  split <;> simp <;> omega
theorem qlh {n : Nat} {g : Int → Bool} {B : (List Int × Int × Unit) → ((List Int × Int × Unit) → Prop) → Prop}
    (hb : ∀ (k : Nat) (xs : List Int) (next : (List Int × Int × Unit) → Prop), k < n → xs = M.idx g k → xs.length ≤ k → (g (k : Int) = true → next (xs ++ [(k : Int)], ((k + 1 : Nat) : Int), ())) → (g (k : Int) = false → next (xs, ((k + 1 : Nat) : Int), ())) → B (xs, (k : Int), ()) next)
    (he : ∀ next : (List Int × Int × Unit) → Prop, B (M.idx g n, (n : Int), ()) next) : qcV B ([], 0, ()) := by
 refine qcS n (fun k => (M.idx g k, (k : Int), ())) (fun _ => True) rfl trivial (fun k hk _ next hn => ?_) fun _ next => he next
 have hn := hn trivial
 unfold M.idx at hn
 exact hb k _ next hk rfl (ql9 g k) (fun e => by rwa [if_pos e] at hn) fun e => by rwa [if_neg (by rw [e]; simp)] at hn
theorem qp8 {p : List D.Ins} (hp : M.qb6 p = true) {k : Int} (h0 : 0 ≤ k) (h1 : k < (p.length : Int)) : M.qdD (rd p k) p.length = true := by
 simp only [M.qb6, Bool.and_eq_true, decide_eq_true_eq, List.all_eq_true] at hp
 exact hp.2 _ (qkl h0 h1)
theorem qhp {p : List D.Ins} (hp : M.qb6 p = true) : p.length ≤ 32 := by
 simp only [M.qb6, Bool.and_eq_true, decide_eq_true_eq] at hp
 exact hp.1
theorem qhf {i : D.Ins} {n : Int} (h : M.qdD i n = true) (e : i.Op = 10 ∨ i.Op = 11) : 0 ≤ i.B ∧ i.B ≤ n := by
 simp only [M.qdD, Bool.and_eq_true] at h
 have h := h.2
 rcases e with e | e
 ·rw [if_neg (by omega), if_neg (by omega), if_neg (by omega), if_neg (by omega), if_pos e] at h
  simp only [Bool.and_eq_true, M.isIn, decide_eq_true_eq] at h
  exact h.2.1
 ·rw [if_neg (by omega), if_neg (by omega), if_neg (by omega), if_neg (by omega), if_neg (by omega), if_pos e] at h
  simp only [Bool.and_eq_true, M.isIn, decide_eq_true_eq] at h
  exact h.2.1
theorem qiO {a b x : Int} : x ∈ M.qhs a b ↔ x = a ∨ x = b := by
 unfold M.qhs
 split
 ·simp [or_comm]
 split
 ·rename_i h1 h2; subst h2; simp
 ·simp
theorem qkA (a b : Int) : (M.qhs a b).length ≤ 2 := by
 unfold M.qhs
 (repeat' split) <;> simp
theorem qiE {p : List D.Ins} {k : Int} (h : M.Node p k) : (∀ x ∈ M.qeu p k, M.qe9 p x) ∧ (M.qeu p k).length ≤ 2 := by
 obtain ⟨hp, h0, h1⟩ := h
 unfold M.qeu
 split
 ·exact ⟨fun x hx => absurd hx List.not_mem_nil, by simp⟩
 rename_i hne
 have hlt : k < (p.length : Int) := by omega
 have hi := qp8 hp h0 hlt
 split
 ·exact ⟨fun x hx => by obtain rfl := List.mem_singleton.1 hx; exact ⟨by omega, by omega⟩, by simp⟩
 split
 ·rename_i e
  exact ⟨fun x hx => by obtain rfl := List.mem_singleton.1 hx; exact qhf hi (.inr e), by simp⟩
 split
 ·rename_i e
  refine ⟨fun x hx => ?_, qkA _ _⟩
  rcases qiO.1 hx with rfl | rfl
  ·exact ⟨by omega, by omega⟩
  ·exact qhf hi (.inl e)
 ·exact ⟨fun x hx => by obtain rfl := List.mem_singleton.1 hx; exact ⟨by omega, by omega⟩, by simp⟩
def qhv (l : List Bool) : Nat := l.count false
theorem qiK : ∀ {l : List Bool} {k : Nat}, k < l.length → l[k]? = some false → qhv (l.set k true) + 1 = qhv l
 | [], k, hk, _ => absurd hk (by simp)
 | b :: l, 0, hk, h => by
  simp at h; subst h
  simp [qhv]
 | b :: l, k + 1, hk, h => by
  have := qiK (l := l) (k := k) (by simpa using hk) (by simpa using h)
  unfold qhv at *
  simp only [List.set_cons_succ, List.count_cons]
  omega
theorem rdB {l : List Bool} {k : Int} (h0 : 0 ≤ k) (h1 : k < (l.length : Int)) : l[k.toNat]? = some (rd l k) := by
 have : k.toNat < l.length := by omega
 simp [rd, List.getD_eq_getElem?_getD, this]
theorem qiP {l : List Bool} {k j : Int} (h0 : 0 ≤ k) (h1 : k < (l.length : Int)) (hj : 0 ≤ j) : rd (l.set k.toNat true) j = if j = k then true else rd l j := by
 unfold rd
 rw [List.getD_eq_getElem?_getD, List.getD_eq_getElem?_getD, List.getElem?_set]
 by_cases e : j = k
 ·subst e
  have : j.toNat < l.length := by omega
  simp [this]
 ·have : ¬ k.toNat = j.toNat := by omega
  rw [if_neg this, if_neg e]
theorem qmk (p : List D.Ins) (wo : Int) : ∀ (f : Nat) (work : List Int) (seen : List Bool), (M.bfs p wo f work seen).length = seen.length
 | 0, _, _ => rfl
 | f + 1, [], _ => rfl
 | f + 1, k :: work, seen => by
  unfold M.bfs
  split
  ·exact qmk p wo f _ _
  ·rw [qmk p wo f]; simp
theorem qkQ (p : List D.Ins) (wo : Int) {j : Int} (hj : 0 ≤ j) : ∀ (f : Nat) (work : List Int) (seen : List Bool), (∀ x ∈ work, M.Node p x) → seen.length = p.length + 1 → rd seen j = true → rd (M.bfs p wo f work seen) j = true
 | 0, _, _, _, _, h => h
 | f + 1, [], _, _, _, h => h
 | f + 1, k :: work, seen, hw, hl, h => by
  have hk := hw k List.mem_cons_self
  have hr : ∀ x ∈ work, M.Node p x := fun x hx => hw x (List.mem_cons_of_mem _ hx)
  unfold M.bfs
  split
  ·exact qkQ p wo hj f _ _ hr hl h
  ·refine qkQ p wo hj f _ _ (fun x hx => (List.mem_append.1 hx).elim (hr x) fun h' => ⟨hk.1, (qiE hk).1 x h'⟩) (by simpa using hl) ?_
   have hk2 := hk.2
   unfold M.qe9 at hk2
   rw [qiP hk2.1 (by omega) hj]
   split
   ·rfl
   ·exact h
theorem qkS {p : List D.Ins} {wo : Int} {I : List Bool → Prop} {B : (List Int × List Bool × Unit) → ((List Int × List Bool × Unit) → Prop) → Prop} {work0 : List Int} {seen0 R : List Bool} {fuel : Nat}
    (hs : M.Starts p work0) (hl0 : seen0.length = p.length + 1) (hI0 : I seen0) (hR : M.bfs p wo fuel work0 seen0 = R) (hf : 3 * qhv seen0 + work0.length ≤ fuel)
    (hb0 : ∀ (k : Int) (rest : List Int) (seen : List Bool) (next : (List Int × List Bool × Unit) → Prop), M.Node p k → seen.length = p.length + 1 → I seen → (k = wo ∨ rd seen k = true) → next (rest, seen, ()) → B (k :: rest, seen, ()) next)
    (hb1 : ∀ (k : Int) (rest : List Int) (seen : List Bool) (next : (List Int × List Bool × Unit) → Prop), M.Node p k → seen.length = p.length + 1 → I seen → ¬ k = wo → rd seen k = false → rd R k = true → rest.length + (M.qeu p k).length ≤ 17179869184 → (I (seen.set k.toNat true) → next (rest ++ M.qeu p k, seen.set k.toNat true, ())) → B (k :: rest, seen, ()) next)
    (he : ∀ (next : (List Int × List Bool × Unit) → Prop), I R → B ([], R, ()) next) : qcV B (work0, seen0, ()) := by
 obtain ⟨hp, hw, h4⟩ := hs
 have h32 := qhp hp
 have hc0 : qhv seen0 ≤ p.length + 1 := by unfold qhv; rw [← hl0]; exact List.count_le_length
 refine ⟨fun m z => ∃ work seen f, z = (work, seen, ()) ∧ m = 3 * qhv seen + work.length ∧ m ≤ f ∧ M.bfs p wo f work seen = R ∧ seen.length = p.length + 1 ∧ (∀ x ∈ work, M.Node p x) ∧ m ≤ 200 ∧ I seen,
  ⟨_, work0, seen0, fuel, rfl, rfl, hf, hR, hl0, fun x hx => ⟨hp, hw x hx⟩, by omega, hI0⟩, ?_⟩
 rintro m z ⟨work, seen, f, rfl, rfl, hmf, hbf, hl, hwk, hm, hI⟩
 cases work with
 | nil =>
  have : seen = R := by
   cases f with
   | zero => exact hbf
   | succ f => exact hbf
  subst this
  exact he _ hI
 | cons k rest =>
  have hk := hwk k List.mem_cons_self
  have hr : ∀ x ∈ rest, M.Node p x := fun x hx => hwk x (List.mem_cons_of_mem _ hx)
  cases f with
  | zero => simp at hmf
  | succ f =>
   by_cases hc : k = wo ∨ rd seen k = true
   ·refine hb0 k rest seen _ hk hl hI hc ⟨_, ?_, rest, seen, f, rfl, rfl, ?_, ?_, hl, hr, ?_, hI⟩
    ·simp
    ·simp at hmf; omega
    ·rw [M.bfs, if_pos hc] at hbf; exact hbf
    ·simp at hm; omega
   ·have h1 : ¬ k = wo := fun e => hc (.inl e)
    have h2 : rd seen k = false := by simpa using fun e => hc (.inr e)
    have hk2 := hk.2
    unfold M.qe9 at hk2
    have hn := qiE hk
    have hfs := qiK (l := seen) (k := k.toNat) (by omega) (by rw [rdB hk2.1 (by omega), h2])
    rw [M.bfs, if_neg hc] at hbf
    have hw' : ∀ x ∈ rest ++ M.qeu p k, M.Node p x := fun x hx => (List.mem_append.1 hx).elim (hr x) fun h' => ⟨hk.1, hn.1 x h'⟩
    have hR' : rd R k = true := by
     rw [← hbf]
     refine qkQ p wo hk2.1 f _ _ hw' (by simpa using hl) ?_
     rw [qiP hk2.1 (by omega) hk2.1, if_pos rfl]
    refine hb1 k rest seen _ hk hl hI h1 h2 hR' ?_ fun hI' => ⟨_, ?_, _, _, f, rfl, rfl, ?_, hbf, by simpa using hl, hw', ?_, hI'⟩
    ·simp at hm; omega
    ·simp only [List.length_append, List.length_cons]; omega
    ·simp only [List.length_append, List.length_cons] at *; omega
    ·simp only [List.length_append, List.length_cons] at *; omega
theorem qhC (n : Nat) : (List.replicate (n + 1) false).length = n + 1 := by simp
theorem qh3 (n : Nat) : qhv (List.replicate (n + 1) false) = n + 1 := by simp [qhv]
theorem ql2 (n : Nat) (k : Int) : rd (List.replicate (n + 1) false) k = false := by
 unfold rd
 rw [List.getD_eq_getElem?_getD, List.getElem?_replicate]
 split <;> rfl
inductive Rch (p : List D.Ins) (wo : Int) (frm : List Int) : Int → Prop
 | base {s : Int} : s ∈ frm → s ≠ wo → Rch p wo frm s
 | step {k s : Int} : Rch p wo frm k → s ∈ M.qeu p k → s ≠ wo → Rch p wo frm s
theorem qk7 {p : List D.Ins} {wo : Int} {frm : List Int} : ∀ (f : Nat) (work : List Int) (seen : List Bool), (∀ x ∈ work, M.Node p x) → seen.length = p.length + 1 → (∀ x ∈ work, x = wo ∨ Rch p wo frm x) → (∀ x, 0 ≤ x → rd seen x = true → Rch p wo frm x) →
    ∀ x, 0 ≤ x → rd (M.bfs p wo f work seen) x = true → Rch p wo frm x
 | 0, _, _, _, _, _, h => h
 | f + 1, [], _, _, _, _, h => h
 | f + 1, k :: work, seen, hw, hl, hwr, h => by
  have hk := hw k List.mem_cons_self
  have hk2 := hk.2
  unfold M.qe9 at hk2
  have hr : ∀ x ∈ work, M.Node p x := fun x hx => hw x (List.mem_cons_of_mem _ hx)
  have hwr' : ∀ x ∈ work, x = wo ∨ Rch p wo frm x := fun x hx => hwr x (List.mem_cons_of_mem _ hx)
  unfold M.bfs
  split
  ·exact qk7 f work seen hr hl hwr' h
  ·rename_i hc
   have hkR : Rch p wo frm k := (hwr k List.mem_cons_self).resolve_left fun e => hc (.inl e)
   refine qk7 f _ _ (fun x hx => (List.mem_append.1 hx).elim (hr x) fun h' => ⟨hk.1, (qiE hk).1 x h'⟩) (by simpa using hl) (fun x hx => (List.mem_append.1 hx).elim (hwr' x) fun h' => ?_) fun x hx hs => ?_
   ·by_cases e : x = wo
    ·exact .inl e
    ·exact .inr (.step hkR h' e)
   ·rw [qiP hk2.1 (by omega) hx] at hs
    split at hs
    ·rename_i e; rw [e]; exact hkR
    ·exact h x hx hs
def Closed (p : List D.Ins) (wo : Int) (frm work : List Int) (seen : List Bool) : Prop :=
 (∀ s ∈ frm, s ≠ wo → rd seen s = true ∨ s ∈ work) ∧ ∀ k, M.qe9 p k → rd seen k = true → ∀ s ∈ M.qeu p k, s ≠ wo → rd seen s = true ∨ s ∈ work
theorem qiG {p : List D.Ins} {wo : Int} {frm : List Int} : ∀ (f : Nat) (work : List Int) (seen : List Bool), (∀ x ∈ work, M.Node p x) → (∀ x ∈ frm, M.qe9 p x) → seen.length = p.length + 1 → 3 * qhv seen + work.length ≤ f → Closed p wo frm work seen → Closed p wo frm [] (M.bfs p wo f work seen)
 | 0, work, seen, _, _, _, hf, hc => by
  have : work = [] := List.eq_nil_of_length_eq_zero (by omega)
  subst this; exact hc
 | f + 1, [], seen, _, _, _, _, hc => hc
 | f + 1, k :: work, seen, hw, hfr, hl, hf, hc => by
  have hk := hw k List.mem_cons_self
  have hk2 := hk.2
  have hk3 := hk.2
  unfold M.qe9 at hk2
  have hr : ∀ x ∈ work, M.Node p x := fun x hx => hw x (List.mem_cons_of_mem _ hx)
  simp only [List.length_cons] at hf
  obtain ⟨c1, c2⟩ := hc
  unfold M.bfs
  split
  ·rename_i hd
   have drop : ∀ s, s ≠ wo → (rd seen s = true ∨ s ∈ k :: work) → rd seen s = true ∨ s ∈ work := by
    intro s hs h
    rcases h with h | h
    ·exact .inl h
    rcases List.mem_cons.1 h with rfl | h
    ·exact .inl (hd.resolve_left hs)
    ·exact .inr h
   exact qiG f work seen hr hfr hl (by omega) ⟨fun s hs hne => drop s hne (c1 s hs hne), fun j hj hsj s hs hne => drop s hne (c2 j hj hsj s hs hne)⟩
  ·rename_i hd
   have h2 : rd seen k = false := by simpa using fun e => hd (.inr e)
   have hfs := qiK (l := seen) (k := k.toNat) (by omega) (by rw [rdB hk2.1 (by omega), h2])
   have hn := qiE hk
   have up : ∀ s, M.qe9 p s → (rd seen s = true ∨ s ∈ k :: work) → rd (seen.set k.toNat true) s = true ∨ s ∈ work ++ M.qeu p k := by
    intro s hs h
    have hs2 := hs
    unfold M.qe9 at hs2
    rw [qiP hk2.1 (by omega) hs2.1]
    rcases h with h | h
    ·left; split; rfl; exact h
    rcases List.mem_cons.1 h with rfl | h
    ·left; rw [if_pos rfl]
    ·exact .inr (List.mem_append_left _ h)
   refine qiG f _ _ (fun x hx => (List.mem_append.1 hx).elim (hr x) fun h' => ⟨hk.1, hn.1 x h'⟩) hfr (by simpa using hl) (by simp only [List.length_append]; omega)
    ⟨fun s hs hne => up s (hfr s hs) (c1 s hs hne), fun j hj hsj s hs hne => ?_⟩
   have hj2 := hj
   unfold M.qe9 at hj2
   rw [qiP hk2.1 (by omega) hj2.1] at hsj
   split at hsj
   ·rename_i e; subst e
    exact .inr (List.mem_append_right _ hs)
   ·exact up s ((qiE ⟨hk.1, hj⟩).1 s hs) (c2 j hj hsj s hs hne)
theorem qoJ {p : List D.Ins} {wo : Int} {frm : List Int} (hp : M.qb6 p = true) (hf : ∀ x ∈ frm, M.qe9 p x) {x : Int} (h : Rch p wo frm x) : M.qe9 p x := by
 induction h with
 | base h _ => exact hf _ h
 | step _ hs _ ih => exact (qiE ⟨hp, ih⟩).1 _ hs
theorem qeT {p : List D.Ins} {wo : Int} {frm : List Int} (hp : M.qb6 p = true) (hf : ∀ x ∈ frm, M.qe9 p x) {x : Int} (hx : M.qe9 p x) : rd (M.reached p frm wo) x = true ↔ Rch p wo frm x := by
 constructor
 ·intro h
  refine qk7 (frm := frm) _ frm _ (fun y hy => ⟨hp, hf y hy⟩) (qhC _) (fun y hy => ?_) (fun y _ hs => by rw [ql2] at hs; cases hs) x hx.1 h
  by_cases e : y = wo
  ·exact .inl e
  ·exact .inr (.base hy e)
 ·intro h
  have hc := qiG (p := p) (wo := wo) (frm := frm) (3 * (p.length + 1) + frm.length) frm (List.replicate (p.length + 1) false) (fun y hy => ⟨hp, hf y hy⟩) hf (qhC _) (by rw [qh3]; omega)
   ⟨fun s hs _ => .inr hs, fun k _ hs => by rw [ql2] at hs; cases hs⟩
  clear hx
  induction h with
  | base h hne => exact (hc.1 _ h hne).resolve_right List.not_mem_nil
  | step hk hs hne ih => exact (hc.2 _ (qoJ hp hf hk) ih _ hs hne).resolve_right List.not_mem_nil
theorem qjE (p : List D.Ins) (frm : List Int) (wo : Int) : (M.reached p frm wo).length = p.length + 1 := by
 unfold M.reached; rw [qmk]; simp
theorem qmg {p : List D.Ins} {k later : Int} (h : M.Node p k) (hl : M.qe9 p later) (h1 : M.qfo p k = true) (h2 : M.qdF p k later = true) : M.qfo p later = true := by
 obtain ⟨hp, hk⟩ := h
 have hn : M.qe9 p (p.length : Int) := ⟨by omega, by omega⟩
 have one : ∀ z, M.qe9 p z → ∀ x ∈ [z], M.qe9 p x := fun z hz x hx => by obtain rfl := List.mem_singleton.1 hx; exact hz
 have r1 := (qeT hp (one k hk) hn).1 h1
 have r2 : ¬ Rch p later [k] (p.length : Int) := fun hr => by
  have := (qeT hp (one k hk) hn).2 hr
  unfold M.qdF at h2
  rw [this] at h2; cases h2
 have hl1 : later ≠ -1 := by have := hl.1; omega
 have key : ∀ x, Rch p (-1) [k] x → Rch p later [k] x ∨ Rch p (-1) [later] x := by
  intro x hx
  induction hx with
  | @base s hs hne =>
   by_cases e : s = later
   ·exact .inr (.base (by simp [e]) hne)
   ·exact .inl (.base hs e)
  | @step j s _ hs hne ih =>
   rcases ih with ih | ih
   ·by_cases e : s = later
    ·exact .inr (.base (by simp [e]) hne)
    ·exact .inl (.step ih hs e)
   ·exact .inr (.step ih hs hne)
 exact (qeT hp (one later hl) hn).2 ((key _ r1).resolve_left r2)
theorem qjB {p : List D.Ins} (h : M.qfN p) : wrap .i64 ((p.length : Int) + 1) = ((p.length + 1 : Nat) : Int) := by
 unfold M.qfN at h
 rw [w64 (by omega) (by omega)]; push_cast; rfl
theorem qgI {p : List D.Ins} (hp : M.qb6 p = true) : M.qfN p := by have := qhp hp; unfold M.qfN; omega
theorem qia {p : List D.Ins} (h : M.qfN p) : M.Long p := by unfold M.qfN at h; unfold M.Long; omega
theorem qk5 {l : List Int} {g : Int → Bool} {k : Nat} (hk : k < l.length) : (l.take (k + 1)).filter g = if g (rd l (k : Int)) then (l.take k).filter g ++ [rd l (k : Int)] else (l.take k).filter g := by
 rw [List.take_add_one, List.getElem?_eq_getElem hk, qcU hk, List.filter_append]
 by_cases e : g l[k] = true
 ·simp [e]
 ·simp [e]
theorem wp.qd3.math (l : List Int) (n : Int) (h : M.qfC l n) : wp.qd3 l n (fun r => r = M.qd3 l n) := by
 have hl : l.length ≤ 17179869183 := h
 refine qcS l.length (fun k => ((l.take k).filter (fun x => x != n), (k : Int), ())) (fun _ => True) rfl trivial (fun k hk _ next hn => ?_) fun _ next => ?_
 ·have hn := hn trivial
  rw [qk5 hk] at hn
  have hle := List.length_filter_le (fun x => x != n) (l.take k)
  have hle2 : (l.take k).length ≤ k := by simp; omega
  refine qaH (by simp; omega) ⟨by omega, qa2 (fun e => ⟨by omega, ?_, ?_⟩) fun e => ?_⟩
  ·simp only [List.length_singleton]; omega
  ·rw [if_pos e] at hn; rw [up64 hk (by omega)]; exact hn
  ·rw [if_neg (by rw [e]; simp)] at hn; rw [up64 hk (by omega)]; exact hn
 ·refine qaA (by simp) ?_
  rw [List.take_length]; rfl
theorem wp.qdS.math (p : List D.Ins) (k : Int) (h : M.qh8 p k) : wp.qdS p k (fun r => r = M.qdS p k) := by
 refine ⟨qia h, fun r hr => qa2 (fun e r2 hr2 => ?_) fun e => ?_⟩
 all_goals have hr' : r = M.qb6 p := hr
 ·rw [hr2]; simp [M.qdS, M.qf4, ← hr', e, M.qaV]
 ·simp [M.qdS, M.qf4, ← hr', e]
theorem qmS (l : List Int) (n : Int) : ∀ k, M.putAt l n k ≤ k
 | 0 => Nat.le_refl _
 | k + 1 => by
  unfold M.putAt
  split
  ·have := qmS l n k; omega
  ·exact Nat.le_refl _
theorem qnm {σ : Type} {A : (σ → Prop) → Prop} {B : σ → Prop} (v : σ) (h : B v) (hA : ∀ J : σ → Prop, J v → A J) : qf6 A B := hA B h
theorem wp.qbd.math (l : List Int) (n : Int) (h : M.qgK l n) : wp.qbd l n (fun r => r = M.qbd l n) := by
 have hl : l.length ≤ 17179869183 := h
 have hle := qmS l n l.length
 have wd : ∀ k : Nat, 0 < k → k ≤ l.length → wrap .i64 ((k : Int) - 1) = ((k - 1 : Nat) : Int) := fun k h0 hk => by rw [w64 (by omega) (by omega)]; omega
 refine qnm (((M.putAt l n l.length : Nat) : Int), ()) ?_ fun J hJ => ?_
 ·generalize hq : M.putAt l n l.length = q at *
  have hd : ((q : Int)).toNat = q := by simp
  have tail : ¬ (q > 0 ∧ rd l ((q : Int) - 1) = n) → (0 ≤ (q : Int) ∧ (q : Int) ≤ (l.length : Int)) ∧ (([] : List Int).length + (List.take ((q : Int).toNat) l).length ≤ 17179869184) ∧ ((([] : List Int) ++ List.take ((q : Int).toNat) l).length + ([n] : List Int).length ≤ 17179869184) ∧ (0 ≤ (q : Int) ∧ (q : Int) ≤ (l.length : Int)) ∧ (((([] : List Int) ++ List.take ((q : Int).toNat) l) ++ [n]).length + (List.drop ((q : Int).toNat) l).length ≤ 17179869184) ∧ ((([] : List Int) ++ List.take ((q : Int).toNat) l) ++ [n]) ++ List.drop ((q : Int).toNat) l = M.qbd l n := by
   intro hn
   rw [hd]
   refine ⟨by omega, by simp; omega, by simp; omega, by omega, by simp; omega, ?_⟩
   simp only [M.qbd, hq]
   rw [if_neg hn]; simp
  show qf6 (σ := Unit) _ _
  refine qa2 (fun e => ⟨?_, qa2 (fun e2 => ?_) fun e2 => ?_⟩) fun e => ?_
  ·have e : q > 0 := by simp at e; omega
   rw [wd q e hle]; omega
  ·have e : q > 0 := by simp at e; omega
   rw [wd q e hle] at e2
   have e2 : rd l ((q : Int) - 1) = n := by rw [show (q : Int) - 1 = ((q - 1 : Nat) : Int) by omega]; simpa using e2
   simp only [M.qbd, hq]
   rw [if_pos ⟨e, e2⟩]
  ·have e : q > 0 := by simp at e; omega
   rw [wd q e hle] at e2
   refine tail fun hh => ?_
   rw [show (q : Int) - 1 = ((q - 1 : Nat) : Int) by omega] at hh
   have := hh.2
   simp [this] at e2
  ·have e : ¬ q > 0 := by simp at e; omega
   exact tail fun hh => e hh.1
 ·refine ⟨fun m z => ∃ k : Nat, z = ((k : Int), ()) ∧ m = k ∧ k ≤ l.length ∧ M.putAt l n k = M.putAt l n l.length, ⟨l.length, l.length, rfl, rfl, Nat.le_refl _, rfl⟩, ?_⟩
  rintro k z ⟨_, rfl, rfl, hk, hput⟩
  refine qa2 (fun e => ⟨?_, qa2 (fun e2 => ?_) fun e2 => ?_⟩) fun e => ?_
  ·have e : k > 0 := by simp at e; omega
   rw [wd k e hk]; omega
  ·have e : k > 0 := by simp at e; omega
   rw [wd k e hk] at e2 ⊢
   refine ⟨k - 1, by omega, k - 1, rfl, rfl, by omega, ?_⟩
   rw [← hput]
   obtain ⟨j, rfl⟩ : ∃ j, k = j + 1 := ⟨k - 1, by omega⟩
   rw [M.putAt, if_pos (by simpa using e2)]; rfl
  ·have e : k > 0 := by simp at e; omega
   rw [wd k e hk] at e2
   obtain ⟨j, rfl⟩ : ∃ j, k = j + 1 := ⟨k - 1, by omega⟩
   rw [M.putAt, if_neg (by simpa using e2)] at hput
   rw [← hput] at hJ; exact hJ
  ·have e : k = 0 := by simp at e; omega
   subst e
   rw [← hput] at hJ; exact hJ
theorem qpM (a b : Int) : M.qbd [a] b = M.qhs a b := by
 unfold M.qbd M.qhs
 have hq : M.putAt [a] b 1 = if a > b then 0 else 1 := by
  unfold M.putAt
  have : rd [a] ((0 : Nat) : Int) = a := rfl
  rw [this]
  split <;> rfl
 have h1l : ([a] : List Int).length = 1 := rfl
 by_cases h1 : b < a
 ·have hq' : M.putAt [a] b ([a] : List Int).length = 0 := by rw [h1l, hq, if_pos h1]
  rw [hq', if_pos h1, if_neg (by omega)]; simp
 ·have hq' : M.putAt [a] b ([a] : List Int).length = 1 := by rw [h1l, hq, if_neg h1]
  rw [hq', if_neg h1]
  have : rd [a] (((1 : Nat) : Int) - 1) = a := rfl
  rw [this]
  by_cases h2 : b = a
  ·rw [if_pos h2, if_pos ⟨by omega, h2.symm⟩]
  ·rw [if_neg h2, if_neg (fun h => h2 h.2.symm)]; simp
theorem wp.qcp.math (p : List D.Ins) (k : Int) (h : M.qfe p k) : wp.qcp p k (fun r => r = M.qcp p k) := by
 obtain ⟨hp, h0, h1⟩ := h
 have h32 := qhp hp
 have hw : wrap .i64 (k + 1) = k + 1 := w64 (by omega) (by omega)
 unfold wp.qcp
 rw [hw]
 refine qa2 (fun e => ?_) fun e => ?_
 ·have e : k = p.length := by simpa using e
  simp [M.qcp, M.qeu, e]
 have e : ¬ k = p.length := by simpa using e
 refine ⟨by omega, qa2 (fun e1 => ?_) fun e1 => qa2 (fun e2 => ⟨by omega, ?_⟩) fun e2 => qa2 (fun e3 => ⟨by omega, by show (1 : Nat) ≤ 17179869183; omega, fun r hr => ?_⟩) fun e3 => ?_⟩
 all_goals simp only [M.qcp, M.qeu]
 all_goals rw [if_neg e]
 ·rw [if_pos (by simpa using e1)]
 ·rw [if_neg (by simpa using e1), if_pos (by simpa using e2)]
 ·rw [if_neg (by simpa using e1), if_neg (by simpa using e2), if_pos (by simpa using e3), hr, qpM]
 ·rw [if_neg (by simpa using e1), if_neg (by simpa using e2), if_neg (by simpa using e3)]
theorem qgH {k : Int} {rest : List Int} : rd (k :: rest) 0 = k ∧ List.drop ((1 : Int).toNat) (k :: rest) = rest ∧ (0 ≤ (0 : Int) ∧ (0 : Int) < ((k :: rest).length : Int)) ∧ (0 ≤ (1 : Int) ∧ (1 : Int) ≤ ((k :: rest).length : Int)) ∧ decide (((k :: rest).length : Int) > 0) = true := by
 refine ⟨rfl, rfl, by simp only [List.length_cons]; omega, by simp only [List.length_cons]; omega, ?_⟩
 simp only [List.length_cons, decide_eq_true_eq]; omega
theorem qme {p : List D.Ins} (hp : M.qb6 p = true) : List.replicate ((wrap .i64 ((p.length : Int) + 1)).toNat) (default : Bool) = List.replicate (p.length + 1) false := by
 rw [qjB (qgI hp)]; rfl
theorem qfP {p : List D.Ins} {k : Int} {seen : List Bool} (h : M.Node p k) (hl : seen.length = p.length + 1) : 0 ≤ k ∧ k < (seen.length : Int) := by
 obtain ⟨_, h0, h1⟩ := h
 omega
theorem wp.qcP.math (p : List D.Ins) (l : List Int) (h : M.qg2 p l) : wp.qcP p l (fun r => r = M.qcP p l) := by
 have hp := h.1
 have h32 := qhp hp
 have h4 := h.2.2
 unfold wp.qcP
 rw [qme hp, qjB (qgI hp)]
 refine ⟨by omega, by simp; omega, ?_⟩
 rw [List.nil_append]
 refine qkS (wo := -1) (I := fun _ => True) h (qhC _) trivial (R := M.qcP p l) rfl (by rw [qh3]; omega) (fun k rest seen next hk hl _ hc hn => ?_) (fun k rest seen next hk hl _ h1 h2 _ h5 hn => ?_) fun next _ => qaA rfl rfl
 ·obtain ⟨f1, f2, f3, f4, f5⟩ := qgH (k := k) (rest := rest)
  refine qaH f5 ⟨f3, f4, ?_⟩
  rw [f1, f2]
  have hk1 : ¬ k = -1 := by have := hk.2.1; omega
  exact ⟨qfP hk hl, qaH (hc.resolve_left hk1) hn⟩
 ·obtain ⟨f1, f2, f3, f4, f5⟩ := qgH (k := k) (rest := rest)
  refine qaH f5 ⟨f3, f4, ?_⟩
  rw [f1, f2]
  refine ⟨qfP hk hl, qaA h2 ⟨qfP hk hl, hk, fun r hr => ?_⟩⟩
  have hr' : r = M.qeu p k := hr
  rw [hr']
  exact ⟨h5, hn trivial⟩
theorem qmy {p : List D.Ins} {k : Int} (h : M.Node p k) : M.Starts p [k] := ⟨h.1, fun x hx => by obtain rfl := List.mem_singleton.1 hx; exact h.2, by simp⟩
theorem qf0 {p : List D.Ins} {k : Int} : M.qf4 p k = true ↔ M.Node p k := by
 simp only [M.qf4, M.Node, M.qe9, Bool.and_eq_true, M.isIn, decide_eq_true_eq]
theorem wp.qaN.math (p : List D.Ins) (k : Int) (h : M.qe2 p k) : wp.qaN p k (fun r => r = M.qaN p k) := by
 refine ⟨h, fun r hr => qa2 (fun e => ?_) fun e => ?_⟩
 all_goals have hr' : r = M.qf4 p k := hr
 ·have hN := qf0.1 (hr'.symm.trans e)
  refine ⟨qmy hN, fun r2 hr2 => ⟨?_, ?_⟩⟩
  ·rw [hr2]; show _ ∧ _ < ((M.reached p [k] (-1)).length : Int); rw [qjE]; omega
  ·rw [hr2]; simp only [M.qaN, ← hr', e, Bool.true_and]; rfl
 ·simp [M.qaN, ← hr', e]
theorem wp.qcN.math (p : List D.Ins) (k later : Int) (h : M.qeY p k later) : wp.qcN p k later (fun r => r = M.qcN p k later) := by
 have hp := h.1
 have h32 := qhp hp
 have hs := qmy h
 have hn : M.qe9 p (p.length : Int) := ⟨by omega, by omega⟩
 refine qa2 (fun e => ?_) fun e => ?_
 ·have e : k = later := by simpa using e
  show true = M.qdF p k later
  have : rd (M.reached p [k] later) (p.length : Int) = false := by
   refine Bool.eq_false_iff.2 fun hr => ?_
   have hr := (qeT hp hs.2.1 hn).1 hr
   have none : ∀ x, ¬ Rch p later [k] x := by
    intro x hx
    induction hx with
    | base h1 h2 => obtain rfl := List.mem_singleton.1 h1; exact h2 e
    | step _ _ _ ih => exact ih
   exact none _ hr
  unfold M.qdF; rw [this]; rfl
 rw [qme hp, qjB (qgI hp)]
 refine ⟨by omega, ?_⟩
 refine qkS (wo := later) (I := fun seen => rd seen (p.length : Int) = false) hs (qhC _) (ql2 _ _) (R := M.reached p [k] later) rfl (by rw [qh3]; simp) (fun j rest seen next hk hl _ hc hn => ?_) (fun j rest seen next hk hl hI h1 h2 h3 h5 hn => ?_) fun next hI => qaA rfl ?_
 ·obtain ⟨f1, f2, f3, f4, f5⟩ := qgH (k := j) (rest := rest)
  refine qaH f5 ⟨f3, f4, ?_⟩
  rw [f1, f2]
  refine ⟨qfP hk hl, qa2 (fun _ => hn) fun e1 => qaH ?_ hn⟩
  rcases hc with hc | hc
  ·simpa using hc
  ·rw [hc] at e1; cases e1
 ·obtain ⟨f1, f2, f3, f4, f5⟩ := qgH (k := j) (rest := rest)
  refine qaH f5 ⟨f3, f4, ?_⟩
  rw [f1, f2]
  refine ⟨qfP hk hl, qaA h2 (qaA (by simpa using h1) (qa2 (fun e1 => ?_) fun e1 => ⟨qfP hk hl, hk, fun r hr => ?_⟩))⟩
  ·have e1 : j = (p.length : Int) := by simpa using e1
   show false = M.qdF p k later
   unfold M.qdF
   rw [← e1, h3]; rfl
  ·have e1 : ¬ j = (p.length : Int) := by simpa using e1
   have hr' : r = M.qeu p j := hr
   rw [hr']
   refine ⟨h5, hn ?_⟩
   have hj := hk.2
   unfold M.qe9 at hj
   rw [qiP hj.1 (by omega) (by omega), if_neg (fun e => e1 e.symm)]
   exact hI
 ·show true = M.qdF p k later
  unfold M.qdF; rw [hI]; rfl
theorem wp.qcw.math (p : List D.Ins) (k : Int) (h : M.qg4 p k) : wp.qcw p k (fun r => r = M.qcw p k) := by
 refine ⟨h, fun r hr => qa2 (fun e => ?_) fun e => ?_⟩
 ·have := nt e (show r = (M.qf4 p k && M.qfo p k) from hr)
  simp [M.qcw, M.qcB, this]
 ·have he := nf e (show r = (M.qf4 p k && M.qfo p k) from hr)
  have hN : M.Node p k := qf0.1 (by simp only [Bool.and_eq_true] at he; exact he.1)
  have h32 := qhp hN.1
  have hM : M.qcw p k = M.idx (M.qdF p k) (p.length + 1) := by simp only [M.qcw, M.qcB, he, if_true]
  rw [hM]
  refine qlh (fun j xs next hj hxs hle h1 h2 => ?_) fun next => qaA (by simp; omega) rfl
  refine qaH (by simp; omega) ⟨hN, fun r2 hr2 => qa2 (fun e2 => ⟨by simp; omega, ?_⟩) fun e2 => ?_⟩
  ·rw [up64 (n := p.length + 1) hj (by omega)]; exact h1 ((show r2 = M.qdF p k (j : Int) from hr2).symm.trans e2)
  ·rw [up64 (n := p.length + 1) hj (by omega)]; exact h2 ((show r2 = M.qdF p k (j : Int) from hr2).symm.trans e2)
theorem qm3 (p : List D.Ins) (all l : List Int) (k : Nat) (hk : k < l.length) : M.qhh p all (l.drop k) = if all.all (M.qdF p (rd l (k : Int))) then rd l (k : Int) else M.qhh p all (l.drop (k + 1)) := by
 rw [List.drop_eq_getElem_cons hk, qcU hk]; rfl
theorem wp.qdj.math (p : List D.Ins) (l : List Int) (h : M.qfY p l) : wp.qdj p l (fun r => r = M.qdj p l) := by
 obtain ⟨h1, h2⟩ := h
 have hl : l.length ≤ 17179869183 := h1
 refine qcS l.length (fun k => ((k : Int), ())) (fun k => M.qhh p l l = M.qhh p l (l.drop k)) rfl rfl (fun k hk hF next hn => ?_) fun hF next => qaA (by simp) ?_
 ·rw [qm3 p l l k hk] at hF
  refine qaH (by simp; omega) ?_
  have hN := h2 _ (qgj hk)
  refine qcS l.length (fun j => ((l.take j).all (M.qdF p (rd l (k : Int))), (j : Int), ())) (fun _ => True) rfl trivial (fun j hj _ next2 hn2 => ?_) fun _ next2 => ?_
  ·have hn2 := hn2 trivial
   have ht : (l.take (j + 1)).all (M.qdF p (rd l (k : Int))) = ((l.take j).all (M.qdF p (rd l (k : Int))) && M.qdF p (rd l (k : Int)) (rd l (j : Int))) := by
    rw [List.take_add_one, List.getElem?_eq_getElem hj, qcU hj, List.all_append]; simp
   rw [ht] at hn2
   refine qaH (by simp; omega) (qa2 (fun e => ⟨by omega, by omega, hN, fun r hr => ?_⟩) fun e => ?_)
   ·rw [e, Bool.true_and] at hn2
    rw [hr, up64 hj (by omega)]; exact hn2
   ·rw [e, Bool.false_and] at hn2
    rw [up64 hj (by omega)]; exact hn2
  ·refine qaA (by simp) ?_
   rw [List.take_length]
   refine qa2 (fun e => ⟨by omega, ?_⟩) fun e => ?_
   ·rw [if_pos e] at hF; exact hF.symm
   ·rw [if_neg (by rw [e]; simp)] at hF
    rw [up64 hk (by omega)]; exact hn hF
 ·rw [List.drop_length] at hF; exact hF.symm
theorem qgi {p : List D.Ins} {k x : Int} (h : x ∈ M.others (M.qcB p k) k) : M.Node p x ∧ M.Node p k ∧ M.qfo p k = true ∧ M.qdF p k x = true := by
 have h := (List.mem_filter.1 h).1
 unfold M.qcB at h
 split at h
 ·rename_i e
  simp only [Bool.and_eq_true] at e
  have hN := qf0.1 e.1
  obtain ⟨j, hj, rfl, hg⟩ := qjk.1 h
  exact ⟨⟨hN.1, by omega, by omega⟩, hN, e.2, hg⟩
 ·exact absurd h List.not_mem_nil
theorem qiQ (p : List D.Ins) (k : Int) : (M.qcB p k).length ≤ p.length + 1 := by
 unfold M.qcB
 split
 ·exact ql9 _ _
 ·simp
theorem qlB {p : List D.Ins} (hp : M.qfN p) (k : Int) : M.Nodes p (M.others (M.qcB p k) k) := by
 have h1 := qiQ p k
 have h2 := List.length_filter_le (fun x => x != k) (M.qcB p k)
 unfold M.qfN at hp
 refine ⟨?_, fun x hx => (qgi hx).1⟩
 show (M.others (M.qcB p k) k).length ≤ 17179869183
 unfold M.others; omega
theorem wp.qch.math (p : List D.Ins) (k : Int) (h : M.qfp p k) : wp.qch p k (fun r => r = M.qch p k) := by
 have h1 := qiQ p k
 have hs : p.length ≤ 2097152 := h
 refine ⟨h, fun r hr => ⟨?_, fun r2 hr2 => ⟨?_, fun r3 hr3 => ?_⟩⟩⟩
 ·rw [hr]; show (M.qcB p k).length ≤ 17179869183; omega
 ·rw [hr2, hr]; exact qlB h k
 ·rw [hr3, hr2, hr]; rfl
theorem qpf {p : List D.Ins} {b : Int} (h : M.Branch p b) : M.Node p (b + 1) ∧ M.Node p (rd p b).B ∧ M.Node p b ∧ b + 1 < 9223372036854775807 := by
 obtain ⟨hp, h0, h1, hb⟩ := h
 have h32 := qhp hp
 simp only [M.isBr, Bool.and_eq_true, beq_iff_eq] at hb
 have ht := qhf (qp8 hp h0 h1) (.inl hb.1)
 exact ⟨⟨hp, by omega, by omega⟩, ⟨hp, ht⟩, ⟨hp, by omega, by omega⟩, by omega⟩
theorem wp.qcD.math (p : List D.Ins) (b : Int) (h : M.qgm p b) : wp.qcD p b (fun r => r = M.qcD p b) := by
 obtain ⟨n1, n2, n3, n4⟩ := qpf h
 have hs := qgI h.1
 have hw : wrap .i64 (b + 1) = b + 1 := w64 (by have := h.2.1; omega) (by omega)
 have hb := h.2
 unfold wp.qcD
 rw [hw]
 have m1 : M.qaN p (b + 1) = M.qfo p (b + 1) := by simp [M.qaN, qf0.2 n1]
 have m2 : M.qaN p (rd p b).B = M.qfo p (rd p b).B := by simp [M.qaN, qf0.2 n2]
 refine ⟨hs, fun r hr => qa2 (fun e => ?_) fun e => ⟨⟨hb.1, hb.2.1⟩, hs, fun r2 hr2 => qa2 (fun e2 => ?_) fun e2 => ⟨hs, fun r3 hr3 => ?_⟩⟩⟩
 all_goals rw [m1] at hr
 ·simp [M.qcD, M.qh9, nt e hr]
 ·rw [m2] at hr2
  simp [M.qcD, M.qh9, nt e2 hr2]
 ·rw [m2] at hr2
  rw [hr3]; simp [M.qcD, M.qh9, nf e hr, nf e2 hr2, M.qch]
theorem qog {p : List D.Ins} {b : Int} (h : M.has (M.branches p) b = true) : M.Branch p b := by
 simp only [M.has, List.any_eq_true, beq_iff_eq] at h
 obtain ⟨x, hx, rfl⟩ := h
 unfold M.branches at hx
 split at hx
 ·rename_i hp
  obtain ⟨j, hj, rfl, hg⟩ := qjk.1 hx
  exact ⟨hp, by omega, by omega, hg⟩
 ·exact absurd hx List.not_mem_nil
theorem qls (p : List D.Ins) : (M.branches p).length ≤ p.length := by
 unfold M.branches
 split
 ·exact ql9 _ _
 ·simp
end Go.V
namespace Go.V
open IntKind (wrap)
def wp.cmp_isNaN_int (a : Int) (Q : Bool → Prop) : Prop :=
 Q (a != a)
def wp.cmp_Less_int (a : Int) (b : Int) (Q : Bool → Prop) : Prop :=
 (∀ c, c = M.cmp_isNaN_int a → qa1 c ((∀ d, d = M.cmp_isNaN_int b → qa1 (!d) (Q true) (Q (decide (a < b))))) (Q (decide (a < b))))
def wp.qat (k : List Int) (e : Int) (l : Int) (Q : ((List Int)) → Prop) : Prop :=
 qcV (σ := Int × (List Int) × Unit) (fun (m : Int × (List Int) × Unit) d => match m with | (c, f, _) => qa1 (decide (c < l)) (qcV (σ := Int × (List Int) × Unit) (fun (n : Int × (List Int) × Unit) g => match n with | (a, b, _) => qf6 (σ := Unit) (fun h => qa1 (decide (a > e)) (((0 ≤ a ∧ a < (b.length : Int)) ∧ ((0 ≤ (wrap .i64 (a - 1)) ∧ (wrap .i64 (a - 1)) < (b.length : Int)) ∧ (((∀ i, i = M.cmp_Less_int (rd b a) (rd b (wrap .i64 (a - 1))) → qa1 i (h (())) (d ((wrap .i64 (c + 1)), b, ())))) ∧ ((∀ j, j = M.cmp_Less_int (rd b a) (rd b (wrap .i64 (a - 1))) → qa1 j (h (())) (d ((wrap .i64 (c + 1)), b, ())))) ∧ True)))) (((d ((wrap .i64 (c + 1)), b, ())) ∧ (d ((wrap .i64 (c + 1)), b, ())) ∧ True))) (fun (o : Unit) => match o with | (_) => ((0 ≤ (wrap .i64 (a - 1)) ∧ (wrap .i64 (a - 1)) < (b.length : Int)) ∧ ((0 ≤ a ∧ a < (b.length : Int)) ∧ ((((0 ≤ a ∧ a < (b.length : Int)) ∧ ((0 ≤ (wrap .i64 (a - 1)) ∧ (wrap .i64 (a - 1)) < ((List.set b (a.toNat) (rd b (wrap .i64 (a - 1)))).length : Int)) ∧ g ((wrap .i64 (a - 1)), (List.set (List.set b (a.toNat) (rd b (wrap .i64 (a - 1)))) ((wrap .i64 (a - 1)).toNat) (rd b a)), ())))) ∧ (((0 ≤ a ∧ a < (b.length : Int)) ∧ ((0 ≤ (wrap .i64 (a - 1)) ∧ (wrap .i64 (a - 1)) < ((List.set b (a.toNat) (rd b (wrap .i64 (a - 1)))).length : Int)) ∧ g ((wrap .i64 (a - 1)), (List.set (List.set b (a.toNat) (rd b (wrap .i64 (a - 1)))) ((wrap .i64 (a - 1)).toNat) (rd b a)), ())))) ∧ True))))) (c, f, ())) (Q f)) ((wrap .i64 (e + 1)), k, ())
def wp.qbK (a : Int) (Q : Int → Prop) : Prop :=
 qf6 (σ := Int × Int × Unit) (fun e => qa1 (decide (a ≥ 4294967296)) (e ((Int.fdiv a (2 ^ (min ((32 : Int).toNat) (IntKind.bits .u64)))), 32, ())) (e (a, 0, ()))) (fun (j : Int × Int × Unit) => match j with | (b, f, _) => qf6 (σ := Int × Int × Unit) (fun g => qa1 (decide (b ≥ 65536)) (g ((Int.fdiv b (2 ^ (min ((16 : Int).toNat) (IntKind.bits .u64)))), (wrap .i64 (f + 16)), ())) (g (b, f, ()))) (fun (k : Int × Int × Unit) => match k with | (c, h, _) => qf6 (σ := Int × Int × Unit) (fun i => qa1 (decide (c ≥ 256)) (i ((Int.fdiv c (2 ^ (min ((8 : Int).toNat) (IntKind.bits .u64)))), (wrap .i64 (h + 8)), ())) (i (c, h, ()))) (fun (l : Int × Int × Unit) => match l with | (d, m, _) => ((0 ≤ IntKind.wrap .u8 d ∧ IntKind.wrap .u8 d < ((ByteArray.size (⟨#[0, 1, 2, 2, 3, 3, 3, 3, 4, 4, 4, 4, 4, 4, 4, 4, 5, 5, 5, 5, 5, 5, 5, 5, 5, 5, 5, 5, 5, 5, 5, 5, 6, 6, 6, 6, 6, 6, 6, 6, 6, 6, 6, 6, 6, 6, 6, 6, 6, 6, 6, 6, 6, 6, 6, 6, 6, 6, 6, 6, 6, 6, 6, 6, 7, 7, 7, 7, 7, 7, 7, 7, 7, 7, 7, 7, 7, 7, 7, 7, 7, 7, 7, 7, 7, 7, 7, 7, 7, 7, 7, 7, 7, 7, 7, 7, 7, 7, 7, 7, 7, 7, 7, 7, 7, 7, 7, 7, 7, 7, 7, 7, 7, 7, 7, 7, 7, 7, 7, 7, 7, 7, 7, 7, 7, 7, 7, 7, 8, 8, 8, 8, 8, 8, 8, 8, 8, 8, 8, 8, 8, 8, 8, 8, 8, 8, 8, 8, 8, 8, 8, 8, 8, 8, 8, 8, 8, 8, 8, 8, 8, 8, 8, 8, 8, 8, 8, 8, 8, 8, 8, 8, 8, 8, 8, 8, 8, 8, 8, 8, 8, 8, 8, 8, 8, 8, 8, 8, 8, 8, 8, 8, 8, 8, 8, 8, 8, 8, 8, 8, 8, 8, 8, 8, 8, 8, 8, 8, 8, 8, 8, 8, 8, 8, 8, 8, 8, 8, 8, 8, 8, 8, 8, 8, 8, 8, 8, 8, 8, 8, 8, 8, 8, 8, 8, 8, 8, 8, 8, 8, 8, 8, 8, 8, 8, 8, 8, 8, 8, 8, 8, 8, 8, 8, 8, 8]⟩) : Nat) : Int)) ∧ Q (wrap .i64 (m + (wrap .i64 (bt (⟨#[0, 1, 2, 2, 3, 3, 3, 3, 4, 4, 4, 4, 4, 4, 4, 4, 5, 5, 5, 5, 5, 5, 5, 5, 5, 5, 5, 5, 5, 5, 5, 5, 6, 6, 6, 6, 6, 6, 6, 6, 6, 6, 6, 6, 6, 6, 6, 6, 6, 6, 6, 6, 6, 6, 6, 6, 6, 6, 6, 6, 6, 6, 6, 6, 7, 7, 7, 7, 7, 7, 7, 7, 7, 7, 7, 7, 7, 7, 7, 7, 7, 7, 7, 7, 7, 7, 7, 7, 7, 7, 7, 7, 7, 7, 7, 7, 7, 7, 7, 7, 7, 7, 7, 7, 7, 7, 7, 7, 7, 7, 7, 7, 7, 7, 7, 7, 7, 7, 7, 7, 7, 7, 7, 7, 7, 7, 7, 7, 8, 8, 8, 8, 8, 8, 8, 8, 8, 8, 8, 8, 8, 8, 8, 8, 8, 8, 8, 8, 8, 8, 8, 8, 8, 8, 8, 8, 8, 8, 8, 8, 8, 8, 8, 8, 8, 8, 8, 8, 8, 8, 8, 8, 8, 8, 8, 8, 8, 8, 8, 8, 8, 8, 8, 8, 8, 8, 8, 8, 8, 8, 8, 8, 8, 8, 8, 8, 8, 8, 8, 8, 8, 8, 8, 8, 8, 8, 8, 8, 8, 8, 8, 8, 8, 8, 8, 8, 8, 8, 8, 8, 8, 8, 8, 8, 8, 8, 8, 8, 8, 8, 8, 8, 8, 8, 8, 8, 8, 8, 8, 8, 8, 8, 8, 8, 8, 8, 8, 8, 8, 8, 8, 8, 8, 8, 8, 8]⟩) (IntKind.wrap .u8 d)))))))))
def wp.qcL (a : Int) (Q : Int → Prop) : Prop :=
 (M.qfv a ∧ ∀ b, b = M.qbK a → Q b)
def wp.qaQ (c : List Int) (e : Int) (f : Int) (g : Int) (Q : ((List Int)) → Prop) : Prop :=
 qcV (σ := Int × Int × Int × Bool × Bool × Unit) (fun (h : Int × Int × Int × Bool × Bool × Unit) j => match h with | (a, b, i, k, l, _) => qa1 (decide ((wrap .i64 (b - a)) ≤ 12)) ((M.qdo c a b ∧ ∀ d, d = M.qat c a b → Q d)) (qa1 (i == 0) (False) (False))) (e, f, g, true, true, ())
def wp.qaX (a : List Int) (Q : ((List Int)) → Prop) : Prop :=
 (M.qeZ (IntKind.wrap .u64 (a.length : Int)) ∧ ∀ b, b = M.qcL (IntKind.wrap .u64 (a.length : Int)) → (M.qdV a 0 (a.length : Int) b ∧ ∀ c, c = M.qaQ a 0 (a.length : Int) b → Q c))
def wp.qaB (a : List Int) (Q : (List Int) → Prop) : Prop :=
 qa1 (decide ((a.length : Int) < 2)) (Q a) (qcV (σ := Int × Unit) (fun (d : Int × Unit) e => match d with | (b, _) => qa1 (decide (b < (a.length : Int))) (((0 ≤ b ∧ b < (a.length : Int)) ∧ ((0 ≤ (wrap .i64 (b - 1)) ∧ (wrap .i64 (b - 1)) < (a.length : Int)) ∧ qa1 ((rd a b) == (rd a (wrap .i64 (b - 1)))) (((0 ≤ b ∧ b ≤ (a.length : Int)) ∧ qcV (σ := Int × Int × Unit) (fun (f : Int × Int × Unit) h => match f with | (c, g, _) => qa1 (decide (g < (((List.drop (b.toNat) a)).length : Int))) (False) (((0 ≤ c ∧ c ≤ (a.length : Int)) ∧ ((0 ≤ c ∧ c ≤ ((List.take (c.toNat) a ++ List.replicate (a.length - (c.toNat)) default).length : Int)) ∧ Q (List.take (c.toNat) (List.take (c.toNat) a ++ List.replicate (a.length - (c.toNat)) default)))))) (b, 1, ()))) (e ((wrap .i64 (b + 1)), ()))))) (Q a)) (1, ()))
def wp.qdv (b : List D.Ins) (a : Int) (Q : (List Int) → Prop) : Prop :=
 qa1 (a == (b.length : Int)) (Q ([] : List Int)) (((0 ≤ a ∧ a < (b.length : Int)) ∧ qa1 ((rd b a).Op == 12) (Q ([(b.length : Int)] : List Int)) (qa1 ((rd b a).Op == 11) (Q ([(rd b a).B] : List Int)) (qa1 ((rd b a).Op == 10) ((M.qeF ([(rd b a).B, (wrap .i64 (a + 1))] : List Int) ∧ ∀ c, c = M.qaX ([(rd b a).B, (wrap .i64 (a + 1))] : List Int) → (M.qei c ∧ ∀ d, d = M.qaB c → Q d))) (Q ([(wrap .i64 (a + 1))] : List Int))))))
def wp.qbM (b : List D.Ins) (Q : (List Int) → Prop) : Prop :=
 (M.qel b ∧ ∀ d, d = M.qbn b → qa1 (!d) (Q ([] : List Int)) (qcV (σ := (List Int) × Int × Unit) (fun (g : (List Int) × Int × Unit) e => match g with | (c, a, _) => qa1 (decide (a < (b.length : Int))) ((M.qfL b a ∧ ∀ f, f = M.qdv b a → qa1 ((f.length : Int) == 2) (((c.length + ([a] : List Int).length ≤ 17179869184) ∧ e ((c ++ ([a] : List Int)), (wrap .i64 (a + 1)), ()))) (e (c, (wrap .i64 (a + 1)), ())))) (Q c)) (([] : List Int), 0, ())))
def wp.qdk (b : List D.Ins) (c : Int) (Q : Bool → Prop) : Prop :=
 (M.qft b ∧ ∀ a, a = M.qbM b → (M.qee a c ∧ ∀ d, d = M.qb4 a c → Q d))
def wp.qcF (c : List D.Ins) (f : List Int) (h : Int) (Q : (List Bool) → Prop) : Prop :=
 ((0 ≤ (wrap .i64 ((c.length : Int) + 1)) ∧ (wrap .i64 ((c.length : Int) + 1)) ≤ 17179869184) ∧ (M.qaW f ∧ ∀ g, g = M.qaq f → qcV (σ := (List Int) × (List Bool) × Unit) (fun (i : (List Int) × (List Bool) × Unit) d => match i with | (a, b, _) => qa1 (decide ((a.length : Int) > 0)) (((0 ≤ (0 : Int) ∧ (0 : Int) < (a.length : Int)) ∧ ((0 ≤ (1 : Int) ∧ (1 : Int) ≤ (a.length : Int)) ∧ qa1 ((rd a 0) == h) (d ((List.drop ((1 : Int).toNat) a), b, ())) (((0 ≤ (rd a 0) ∧ (rd a 0) < (b.length : Int)) ∧ qa1 (rd b (rd a 0)) (d ((List.drop ((1 : Int).toNat) a), b, ())) (((0 ≤ (rd a 0) ∧ (rd a 0) < (b.length : Int)) ∧ (M.qfL c (rd a 0) ∧ ∀ e, e = M.qdv c (rd a 0) → (((List.drop ((1 : Int).toNat) a).length + e.length ≤ 17179869184) ∧ d (((List.drop ((1 : Int).toNat) a) ++ e), (List.set b ((rd a 0).toNat) true), ())))))))))) (Q b)) (g, (List.replicate ((wrap .i64 ((c.length : Int) + 1)).toNat) (default : Bool)), ())))
def wp.qbG (a : List D.Ins) (c : Int) (Q : Bool → Prop) : Prop :=
 (M.qfi a ([c] : List Int) (-1) ∧ ∀ b, b = M.qcF a ([c] : List Int) (-1) → ((0 ≤ (a.length : Int) ∧ (a.length : Int) < (b.length : Int)) ∧ Q (rd b (a.length : Int))))
def wp.qdd (a : List D.Ins) (d : Int) (Q : Bool → Prop) : Prop :=
 (M.qel a ∧ ∀ b, b = M.qbn a → qa1 b ((∀ c, c = M.qar d 0 (a.length : Int) → Q c)) (Q false))
def wp.qcr (a : List D.Ins) (b : Int) (d : Int) (Q : Bool → Prop) : Prop :=
 (M.qeo a b ∧ ∀ e, e = M.qbG a b → qa1 e ((M.qfi a ([b] : List Int) d ∧ ∀ c, c = M.qcF a ([b] : List Int) d → ((0 ≤ (a.length : Int) ∧ (a.length : Int) < (c.length : Int)) ∧ Q (!(rd c (a.length : Int)))))) (Q false))
def wp.qbP (a : List D.Ins) (b : Int) (c : Int) (Q : Bool → Prop) : Prop :=
 (M.qfF a b ∧ ∀ d, d = M.qdd a b → qa1 d ((M.qfF a c ∧ ∀ e, e = M.qdd a c → qa1 e ((M.qff a b c ∧ ∀ f, f = M.qcr a b c → Q f)) (Q false))) (Q false))
def wp.qbX (c : List D.Ins) (d : Int) (Q : (List Int) → Prop) : Prop :=
 qcV (σ := (List Int) × Int × Unit) (fun (g : (List Int) × Int × Unit) e => match g with | (b, a, _) => qa1 (decide (a < (wrap .i64 ((c.length : Int) + 1)))) ((M.qgs c d a ∧ ∀ f, f = M.qbP c d a → qa1 f (((b.length + ([a] : List Int).length ≤ 17179869184) ∧ e ((b ++ ([a] : List Int)), (wrap .i64 (a + 1)), ()))) (e (b, (wrap .i64 (a + 1)), ())))) (Q b)) (([] : List Int), 0, ())
def wp.qbC (a : Int) (b : Int) (Q : Bool → Prop) : Prop :=
 Q (a == b)
def wp.qay (d : List Int) (f : Int → Bool) (g : Int → Prop) (Q : (List Int) → Prop) : Prop :=
 (M.qds d f g ∧ ∀ e, e = M.qan d f → qa1 (e == (-1)) (Q d) (qcV (σ := Int × Int × (List Int) × Unit) (fun (j : Int × Int × (List Int) × Unit) h => match j with | (a, c, b, _) => qa1 (decide (c < (d.length : Int))) (((0 ≤ c ∧ c < (b.length : Int)) ∧ (g (rd b c) ∧ ∀ i, i = f (rd b c) → qa1 (!i) (((0 ≤ a ∧ a < (b.length : Int)) ∧ h ((wrap .i64 (a + 1)), (wrap .i64 (c + 1)), (List.set b (a.toNat) (rd b c)), ()))) (h (a, (wrap .i64 (c + 1)), b, ()))))) (((0 ≤ a ∧ a ≤ (b.length : Int)) ∧ ((0 ≤ a ∧ a ≤ ((List.take (a.toNat) b ++ List.replicate (b.length - (a.toNat)) default).length : Int)) ∧ Q (List.take (a.toNat) (List.take (a.toNat) b ++ List.replicate (b.length - (a.toNat)) default)))))) (e, (wrap .i64 (e + 1)), d, ())))
def wp.qcl (a : Int) (b : List D.Ins) (c : Int) (Q : Bool → Prop) : Prop :=
 (M.qff b c a ∧ ∀ d, d = M.qcr b c a → Q (!d))
def wp.qdA (d : List D.Ins) (a : List Int) (Q : Int → Prop) : Prop :=
 qcV (σ := Int × Unit) (fun (f : Int × Unit) g => match f with | (b, _) => qa1 (decide (b < (a.length : Int))) (((0 ≤ b ∧ b < (a.length : Int)) ∧ (M.qd8 a (fun c => M.qcl c d (rd a b)) (fun c => M.qfE c d (rd a b)) ∧ ∀ e, e = M.qak a (fun c => M.qcl c d (rd a b)) → qa1 (!e) (Q (rd a b)) (g ((wrap .i64 (b + 1)), ()))))) (Q (-1))) (0, ())
def wp.qci (c : List D.Ins) (a : Int) (Q : Int → Prop) : Prop :=
 (M.qfV c a ∧ ∀ d, d = M.qbX c a → (M.qdW d (fun b => M.qbC b a) (fun b => M.qeU b a) ∧ ∀ e, e = M.qay d (fun b => M.qbC b a) → (M.qgq c e ∧ ∀ f, f = M.qdA c e → Q f)))
def wp.qdl (a : List D.Ins) (b : Int) (Q : Int → Prop) : Prop :=
 (M.qg8 a b ∧ ∀ e, e = M.qdk a b → qa1 (!e) (Q (-1)) ((M.qfL a b ∧ ∀ d, d = M.qdv a b → qcV (σ := Int × Unit) (fun (h : Int × Unit) i => match h with | (c, _) => qa1 (decide (c < (d.length : Int))) (((0 ≤ c ∧ c < (d.length : Int)) ∧ (M.qeo a (rd d c) ∧ ∀ f, f = M.qbG a (rd d c) → qa1 (!f) (Q (a.length : Int)) (i ((wrap .i64 (c + 1)), ()))))) ((M.qfm a b ∧ ∀ g, g = M.qci a b → Q g))) (0, ()))))
end Go.V
namespace Go.V
open IntKind (wrap)
theorem wp.cmp_isNaN_int.math (x : Int) : wp.cmp_isNaN_int x (fun r => r = M.cmp_isNaN_int x) := by simp [wp.cmp_isNaN_int, M.cmp_isNaN_int]
theorem wp.cmp_Less_int.math (x y : Int) : wp.cmp_Less_int x y (fun r => r = M.cmp_Less_int x y) := by
 intro r hr
 have : r = false := hr
 subst this
 exact qaA rfl rfl
theorem wp.qat.math (l : List Int) (a b : Int) (h : M.qdo l a b) : wp.qat l a b (fun r => r = M.qat l a b) := by
 obtain ⟨hl, rfl, rfl⟩ := h
 match l, hl with
 | [x, y], _ =>
 have w0 : wrap .i64 ((0 : Int) + 1) = 1 := by decide +kernel
 have w1 : wrap .i64 ((1 : Int) + 1) = 2 := by decide +kernel
 have w2 : wrap .i64 ((1 : Int) - 1) = 0 := by decide +kernel
 unfold wp.qat
 rw [w0]
 have r1 : rd [x, y] 1 = y := rfl
 have r0 : rd [x, y] 0 = x := rfl
 -- the outer loop: one round
 refine ⟨fun m z => (m = 1 ∧ z = (1, [x, y], ())) ∨ (m = 0 ∧ z = (2, M.qiU [x, y], ())), ⟨1, .inl ⟨rfl, rfl⟩⟩, ?_⟩
 rintro m z (⟨rfl, rfl⟩ | ⟨rfl, rfl⟩)
 ·refine qaH rfl ?_
  refine ⟨fun m z => (m = 1 ∧ z = (1, [x, y], ())) ∨ (m = 0 ∧ z = (0, M.qiU [x, y], ())), ⟨1, .inl ⟨rfl, rfl⟩⟩, ?_⟩
  rintro m z (⟨rfl, rfl⟩ | ⟨rfl, rfl⟩)
  ·unfold qf6
   have i1 : (0 ≤ (1 : Int) ∧ (1 : Int) < (([x, y] : List Int).length : Int)) := by simp
   have i0 : (0 ≤ (0 : Int) ∧ (0 : Int) < (([x, y] : List Int).length : Int)) := by simp
   by_cases hc : y < x
   ·have hs : M.qiU [x, y] = [y, x] := by simp [M.qiU, r1, r0, hc]
    have e1 : List.set (List.set [x, y] ((1 : Int).toNat) x) ((0 : Int).toNat) y = [y, x] := rfl
    have e2 : List.set (List.set [x, y] ((0 : Int).toNat) y) ((1 : Int).toNat) x = [y, x] := rfl
    have hd : (decide (y < x)) = true := decide_eq_true hc
    refine qaH rfl ?_
    simp only [w2, r1, r0, M.cmp_Less_int, forall_eq, hd, e1, e2, hs]
    have j1 : ∀ v, (0 ≤ (1 : Int) ∧ (1 : Int) < ((List.set [x, y] ((0 : Int).toNat) v).length : Int)) := fun v => by simp
    have j0 : ∀ v, (0 ≤ (0 : Int) ∧ (0 : Int) < ((List.set [x, y] ((1 : Int).toNat) v).length : Int)) := fun v => by simp
    simp only [i1, i0, j1, j0, true_and, and_true, and_self, qa1]
    exact ⟨0, by omega, .inr rfl⟩
   ·have hs : M.qiU [x, y] = [x, y] := by simp [M.qiU, r1, r0, hc]
    have hd : (decide (y < x)) = false := decide_eq_false hc
    refine qaH rfl ?_
    simp only [w2, w1, r1, r0, M.cmp_Less_int, forall_eq, hd, hs]
    simp only [i1, i0, true_and, and_true, and_self, qa1]
    exact ⟨0, by omega, .inr rfl⟩
  ·unfold qf6
   refine qaA rfl ?_
   rw [w1]
   have hn : ∃ m', m' < 1 ∧ ((m' = 1 ∧ ((2 : Int), M.qiU [x, y], ()) = (1, [x, y], ())) ∨ (m' = 0 ∧ ((2 : Int), M.qiU [x, y], ()) = (2, M.qiU [x, y], ()))) := ⟨0, by omega, .inr ⟨rfl, rfl⟩⟩
   exact ⟨hn, hn, trivial⟩
 ·exact qaA rfl rfl
set_option maxRecDepth 100000 in
theorem wp.qbK.math (x : Int) (h : M.qfv x) : wp.qbK x (fun r => r = M.qbK x) := by
 obtain ⟨h0, h1⟩ := h
 have : x = 0 ∨ x = 1 ∨ x = 2 ∨ x = 3 ∨ x = 4 ∨ x = 5 ∨ x = 6 ∨ x = 7 ∨ x = 8 ∨ x = 9 ∨ x = 10 ∨ x = 11 ∨ x = 12 := by omega
 unfold wp.qbK
 unfold qf6
 rcases this with rfl | rfl | rfl | rfl | rfl | rfl | rfl | rfl | rfl | rfl | rfl | rfl | rfl
 all_goals
  refine qaA rfl (qaA rfl (qaA rfl ⟨by decide +kernel, ?_⟩))
  show _ = M.qbK _
  decide +kernel
theorem wp.qcL.math (x : Int) (h : M.qeZ x) : wp.qcL x (fun r => r = M.qcL x) := ⟨h, fun r hr => by rw [hr]; rfl⟩
theorem wp.qaQ.math (l : List Int) (a b c : Int) (h : M.qdV l a b c) : wp.qaQ l a b c (fun r => r = M.qaQ l a b c) := by
 obtain ⟨hl, rfl, rfl⟩ := h
 refine qcS 0 (fun _ => (0, 2, c, true, true, ())) (fun _ => True) rfl trivial (fun k hk _ _ _ => absurd hk (by omega)) fun _ next => ?_
 exact qaH (by decide +kernel) ⟨⟨hl, rfl, rfl⟩, fun r hr => by rw [hr]; rfl⟩
theorem wp.qaX.math (l : List Int) (h : M.qeF l) : wp.qaX l (fun r => r = M.qaX l) := by
 have hl : l.length = 2 := h
 unfold wp.qaX
 have e : (l.length : Int) = 2 := by omega
 rw [e]
 refine ⟨by show 0 ≤ IntKind.wrap .u64 2 ∧ IntKind.wrap .u64 2 ≤ 12; decide +kernel, fun r hr => ⟨⟨hl, rfl, rfl⟩, fun r2 hr2 => by rw [hr2]; rfl⟩⟩
theorem wp.qaB.math (l : List Int) (h : M.qei l) : wp.qaB l (fun r => r = M.qaB l) := by
 match l, h with
 | [x, y], _ =>
 have w2 : wrap .i64 ((1 : Int) - 1) = 0 := by decide +kernel
 have w1 : wrap .i64 ((1 : Int) + 1) = 2 := by decide +kernel
 have r1 : rd [x, y] 1 = y := rfl
 have r0 : rd [x, y] 0 = x := rfl
 refine qaA rfl ?_
 by_cases hc : y = x
 ·have hM : M.qaB [x, y] = [x] := by unfold M.qaB; rw [r1, r0, if_pos hc]; rfl
  rw [hM]
  refine qcS 0 (fun _ => (1, ())) (fun _ => True) rfl trivial (fun k hk _ _ _ => absurd hk (by omega)) fun _ next => ?_
  refine qaH rfl ⟨by simp, by rw [w2]; simp, ?_⟩
  rw [w2, r1, r0]
  refine qaH (by simpa using hc) ⟨by simp, ?_⟩
  refine qcS 0 (fun _ => (1, 1, ())) (fun _ => True) rfl trivial (fun k hk _ _ _ => absurd hk (by omega)) fun _ next => ?_
  exact qaA rfl ⟨by simp, by simp, rfl⟩
 ·have hM : M.qaB [x, y] = [x, y] := by unfold M.qaB; rw [r1, r0, if_neg hc]
  rw [hM]
  refine qcS 1 (fun k => ((k : Int) + 1, ())) (fun _ => True) rfl trivial (fun k hk _ next hn => ?_) fun _ next => qaA rfl rfl
  have hk0 : k = 0 := by omega
  subst hk0
  have hn := hn trivial
  refine qaH rfl ⟨by simp, ?_, ?_⟩
  ·show 0 ≤ wrap .i64 ((1 : Int) - 1) ∧ wrap .i64 ((1 : Int) - 1) < (([x, y] : List Int).length : Int)
   rw [w2]; simp
  ·show qa1 (rd [x, y] 1 == rd [x, y] (wrap .i64 ((1 : Int) - 1))) _ _
   rw [w2, r1, r0]
   refine qaA (by simpa using hc) ?_
   show next (wrap .i64 ((1 : Int) + 1), ())
   rw [w1]; exact hn
theorem qlV (a b : Int) : M.qaB (M.qaX [a, b]) = M.qhs b a ∧ (M.qaX [a, b]).length = 2 := by
 have r1 : rd [a, b] 1 = b := rfl
 have r0 : rd [a, b] 0 = a := rfl
 have s1 : rd [b, a] 1 = a := rfl
 have s0 : rd [b, a] 0 = b := rfl
 simp only [M.qaB, M.qaX, M.qiU, M.qhs, r1, r0]
 by_cases h1 : b < a
 ·rw [if_pos h1, s1, s0, if_neg (by omega), if_neg (by omega), if_neg (by omega)]
  exact ⟨rfl, rfl⟩
 ·rw [if_neg h1, r1, r0]
  by_cases h2 : b = a
  ·rw [if_pos h2, if_neg (by omega), if_pos h2.symm]; exact ⟨by rw [h2]; rfl, rfl⟩
  ·rw [if_neg h2, if_pos (by omega)]; exact ⟨rfl, rfl⟩
theorem wp.qdv.math (p : List D.Ins) (k : Int) (h : M.qfL p k) : wp.qdv p k (fun r => r = M.qdv p k) := by
 obtain ⟨hp, h0, h1⟩ := h
 have h32 := qhp hp
 have hw : wrap .i64 (k + 1) = k + 1 := w64 (by omega) (by omega)
 unfold wp.qdv
 rw [hw]
 refine qa2 (fun e => ?_) fun e => ?_
 ·have e : k = p.length := by simpa using e
  simp [M.qdv, M.qeu, e]
 have e : ¬ k = p.length := by simpa using e
 refine ⟨by omega, qa2 (fun e1 => ?_) fun e1 => qa2 (fun e2 => ?_) fun e2 => qa2 (fun e3 => ⟨rfl, fun r hr => ?_⟩) fun e3 => ?_⟩
 all_goals simp only [M.qdv, M.qeu]
 all_goals rw [if_neg e]
 ·rw [if_pos (by simpa using e1)]
 ·rw [if_neg (by simpa using e1), if_pos (by simpa using e2)]
 ·rw [if_neg (by simpa using e1), if_neg (by simpa using e2), if_pos (by simpa using e3)]
  have hsc := qlV (rd p k).B (k + 1)
  subst hr
  exact ⟨hsc.2, fun r2 hr2 => by rw [hr2]; exact hsc.1⟩
 ·rw [if_neg (by simpa using e1), if_neg (by simpa using e2), if_neg (by simpa using e3)]
theorem qoD {p : List D.Ins} (hp : M.qb6 p = true) {k : Nat} (hk : k < p.length) : (((M.qeu p (k : Int)).length : Int) == 2) = M.isBr p (k : Int) := by
 have hne : ¬ (k : Int) = p.length := by omega
 unfold M.qeu M.isBr
 rw [if_neg hne]
 by_cases h12 : (rd p (k : Int)).Op = 12
 ·rw [if_pos h12, h12]; rfl
 rw [if_neg h12]
 by_cases h11 : (rd p (k : Int)).Op = 11
 ·rw [if_pos h11, h11]; rfl
 rw [if_neg h11]
 by_cases h10 : (rd p (k : Int)).Op = 10
 ·rw [if_pos h10, h10]
  unfold M.qhs
  by_cases h1 : (rd p (k : Int)).B < (k : Int) + 1
  ·rw [if_pos h1]
   have : ((rd p (k : Int)).B != (k : Int) + 1) = true := by simp; omega
   rw [this]; rfl
  rw [if_neg h1]
  by_cases h2 : (rd p (k : Int)).B = (k : Int) + 1
  ·rw [if_pos h2]
   have : ((rd p (k : Int)).B != (k : Int) + 1) = false := by simp [h2]
   rw [this]; rfl
  ·rw [if_neg h2]
   have : ((rd p (k : Int)).B != (k : Int) + 1) = true := by simpa using h2
   rw [this]; rfl
 ·rw [if_neg h10]
  have : ((rd p (k : Int)).Op == 10) = false := by simpa using h10
  rw [this]; rfl
theorem wp.qbM.math (p : List D.Ins) (h : M.qft p) : wp.qbM p (fun r => r = M.qbM p) := by
 have hs : p.length ≤ 2097152 := h
 refine ⟨qia h, fun r hr => qa2 (fun e => ?_) fun e => ?_⟩
 ·have := nt e (show r = M.qb6 p from hr)
  simp [M.qbM, M.branches, this]
 have hp := nf e (show r = M.qb6 p from hr)
 have hM : M.qbM p = M.idx (M.isBr p) p.length := by simp [M.qbM, M.branches, hp]
 rw [hM]
 refine qlh (fun k xs next hk hxs hle h1 h2 => ?_) fun next => qaA (by simp) rfl
 refine qaH (by simp; omega) ⟨⟨hp, by omega, by omega⟩, fun r2 hr2 => ?_⟩
 have hr2' : r2 = M.qeu p (k : Int) := hr2
 rw [hr2', qoD hp hk, up64 hk (by omega)]
 exact qa2 (fun e2 => ⟨by simp; omega, h1 e2⟩) fun e2 => h2 e2
theorem wp.qdk.math (p : List D.Ins) (b : Int) (h : M.qg8 p b) : wp.qdk p b (fun r => r = M.qdk p b) := by
 have hs : p.length ≤ 2097152 := h
 have hbl := qls p
 exact ⟨h, fun r hr => ⟨by rw [hr]; show (M.branches p).length ≤ 9223372036854775807; omega, fun r2 hr2 => by rw [hr2, hr]; rfl⟩⟩
theorem wp.qcF.math (p : List D.Ins) (l : List Int) (wo : Int) (h : M.qfi p l wo) : wp.qcF p l wo (fun r => r = M.qcF p l wo) := by
 have hp := h.1
 have h32 := qhp hp
 have h4 := h.2.2
 unfold wp.qcF
 rw [qme hp, qjB (qgI hp)]
 refine ⟨by omega, by show l.length ≤ 17179869184; omega, fun r hr => ?_⟩
 have hr' : r = l := hr
 subst hr'
 refine qkS (wo := wo) (I := fun _ => True) h (qhC _) trivial (R := M.qcF p r wo) rfl (by rw [qh3]; omega) (fun k rest seen next hk hl _ hc hn => ?_) (fun k rest seen next hk hl _ h1 h2 _ h5 hn => ?_) fun next _ => qaA rfl rfl
 ·obtain ⟨f1, f2, f3, f4, f5⟩ := qgH (k := k) (rest := rest)
  refine qaH f5 ⟨f3, f4, ?_⟩
  rw [f1, f2]
  refine qa2 (fun _ => hn) fun e1 => ⟨qfP hk hl, qaH (hc.resolve_left (by simpa using e1)) hn⟩
 ·obtain ⟨f1, f2, f3, f4, f5⟩ := qgH (k := k) (rest := rest)
  refine qaH f5 ⟨f3, f4, ?_⟩
  rw [f1, f2]
  refine qaA (by simpa using h1) ⟨qfP hk hl, qaA h2 ⟨qfP hk hl, hk, fun r hr => ?_⟩⟩
  have hr' : r = M.qeu p k := hr
  rw [hr']
  exact ⟨h5, hn trivial⟩
theorem qo4 (p : List D.Ins) (l : List Int) (wo : Int) : (0 ≤ (p.length : Int) ∧ (p.length : Int) < ((M.reached p l wo).length : Int)) := by rw [qjE]; omega
theorem wp.qbG.math (p : List D.Ins) (k : Int) (h : M.qeo p k) : wp.qbG p k (fun r => r = M.qbG p k) :=
 ⟨qmy h, fun r hr => by rw [hr]; exact ⟨qo4 _ _ _, rfl⟩⟩
theorem wp.qdd.math (p : List D.Ins) (k : Int) (h : M.qfF p k) : wp.qdd p k (fun r => r = M.qdd p k) := by
 refine ⟨qia h, fun r hr => qa2 (fun e r2 hr2 => ?_) fun e => ?_⟩
 all_goals have hr' : r = M.qb6 p := hr
 ·rw [hr2]; simp [M.qdd, M.qf4, ← hr', e, M.qar]
 ·simp [M.qdd, M.qf4, ← hr', e]
theorem wp.qcr.math (p : List D.Ins) (k later : Int) (h : M.qff p k later) : wp.qcr p k later (fun r => r = M.qcr p k later) := by
 refine ⟨h, fun r hr => qa2 (fun e => ⟨qmy h, fun r2 hr2 => ?_⟩) fun e => ?_⟩
 all_goals have hr' : r = M.qfo p k := hr
 ·rw [hr2]
  refine ⟨qo4 _ _ _, ?_⟩
  simp only [M.qcr, ← hr', e, Bool.true_and]; rfl
 ·simp [M.qcr, ← hr', e]
theorem wp.qbP.math (p : List D.Ins) (k later : Int) (h : M.qgs p k later) : wp.qbP p k later (fun r => r = M.qbP p k later) := by
 refine ⟨h, fun r hr => qa2 (fun e => ⟨h, fun r2 hr2 => qa2 (fun e2 => ?_) fun e2 => ?_⟩) fun e => ?_⟩
 all_goals have hr' : r = M.qf4 p k := hr
 ·have hr2' : r2 = M.qf4 p later := hr2
  refine ⟨qf0.1 (hr'.symm.trans e), fun r3 hr3 => ?_⟩
  rw [hr3]; simp [M.qbP, ← hr', e, ← hr2', e2, M.qcr]
 ·have hr2' : r2 = M.qf4 p later := hr2
  simp [M.qbP, ← hr2', e2]
 ·simp [M.qbP, ← hr', e]
theorem wp.qbX.math (p : List D.Ins) (k : Int) (h : M.qfV p k) : wp.qbX p k (fun r => r = M.qbX p k) := by
 have hs : p.length ≤ 2097152 := h
 unfold wp.qbX
 rw [qjB h]
 by_cases hc : (M.qf4 p k && M.qfo p k) = true
 ·have hN : M.Node p k := qf0.1 (by simp only [Bool.and_eq_true] at hc; exact hc.1)
  have hM : M.qbX p k = M.idx (M.qdF p k) (p.length + 1) := by simp only [M.qbX, M.qcB, hc, if_true]
  rw [hM]
  refine qlh (fun j xs next hj hxs hle h1 h2 => ?_) fun next => qaA (by simp) rfl
  have hj2 : M.qf4 p (j : Int) = true := qf0.2 ⟨hN.1, by omega, by omega⟩
  simp only [Bool.and_eq_true] at hc
  have hv : M.qbP p k (j : Int) = M.qdF p k (j : Int) := by simp only [M.qbP, hc.1, hc.2, hj2, Bool.true_and]
  refine qaH (by simp; omega) ⟨h, fun r2 hr2 => ?_⟩
  rw [hr2, hv, up64 (n := p.length + 1) hj (by omega)]
  exact qa2 (fun e2 => ⟨by simp; omega, h1 e2⟩) fun e2 => h2 e2
 ·have hc : (M.qf4 p k && M.qfo p k) = false := by simpa using hc
  have hM : M.qbX p k = [] := by simp only [M.qbX, M.qcB, hc]; rfl
  rw [hM]
  refine qcS (p.length + 1) (fun j => ([], (j : Int), ())) (fun _ => True) rfl trivial (fun j hj _ next hn => ?_) fun _ next => qaA (by simp) rfl
  have hv : M.qbP p k (j : Int) = false := by
   cases h1 : M.qf4 p k with
   | false => simp [M.qbP, h1]
   | true =>
    rw [h1, Bool.true_and] at hc
    simp [M.qbP, hc]
  refine qaH (by simp; omega) ⟨h, fun r2 hr2 => ?_⟩
  rw [hr2, hv, up64 (n := p.length + 1) hj (by omega)]
  exact qaA rfl (hn trivial)
theorem wp.qbC.math (x k : Int) (h : M.qeU x k) : wp.qbC x k (fun r => r = M.qbC x k) := rfl
theorem qj6 (g : Int → Bool) : ∀ (l : List Int) (i : Nat), (M.qeC g l i = -1 ∧ l.all (fun x => !g x) = true) ∨ ∃ k : Nat, k < l.length ∧ M.qeC g l i = ((i + k : Nat) : Int) ∧ (l.take k).all (fun x => !g x) = true ∧ g (rd l (k : Int)) = true
 | [], i => .inl ⟨rfl, rfl⟩
 | x :: l, i => by
  unfold M.qeC
  by_cases hx : g x = true
  ·rw [if_pos hx]
   exact .inr ⟨0, by simp, by simp, by simp, hx⟩
  ·rw [if_neg hx]
   rcases qj6 g l (i + 1) with ⟨h1, h2⟩ | ⟨k, hk, h1, h2, h3⟩
   ·exact .inl ⟨h1, by simp [hx]; simpa using h2⟩
   ·refine .inr ⟨k + 1, by simp; omega, by rw [h1]; congr 1; omega, ?_, ?_⟩
    ·rw [List.take_succ_cons, List.all_cons, h2]; simp [hx]
    ·rw [qcU (by simp; omega)]; rw [qcU hk] at h3; exact h3
theorem qjv {l : List Int} {g : Int → Bool} (h : l.all g = true) : l.filter g = l := List.filter_eq_self.2 (List.all_eq_true.1 h)
theorem wp.qay.math (l : List Int) (g : Int → Bool) (D : Int → Prop) (h : M.qdW l g D) : wp.qay l g D (fun r => r = M.qay l g) := by
 obtain ⟨hl, hD⟩ := h
 have hl' : l.length ≤ 9223372036854775807 := hl
 refine ⟨⟨hl, hD⟩, fun r hr => ?_⟩
 have hr' : r = M.qeC g l 0 := hr
 rcases qj6 g l 0 with ⟨h1, h2⟩ | ⟨k, hk, h1, h2, h3⟩
 ·rw [hr', h1]
  exact qaH rfl (by show l = l.filter _; exact (qjv h2).symm)
 rw [hr', h1, Nat.zero_add]
 refine qaA (by simp) ?_
 rw [up64 hk hl']
 let G : Nat → List Int := fun j => (l.take j).filter fun x => !g x
 have hG : ∀ j, j < l.length → G (j + 1) = if (!g (rd l (j : Int))) = true then G j ++ [rd l (j : Int)] else G j := fun j hj => qk5 hj
 have hGl : ∀ j, j ≤ l.length → (G j).length ≤ j := fun j hj => by
  have := List.length_filter_le (fun x => !g x) (l.take j)
  have h2 : (l.take j).length ≤ j := by simp; omega
  exact Nat.le_trans this h2
 have hGk : G (k + 1) = G k ∧ (G k).length = k := by
  refine ⟨by rw [hG k hk, if_neg (by rw [h3]; simp)], ?_⟩
  show ((l.take k).filter fun x => !g x).length = k
  rw [qjv h2]; simp; omega
 refine ⟨fun m z => ∃ (j : Nat) (xs : List Int), z = (((G j).length : Int), (j : Int), xs, ()) ∧ m = l.length - j ∧ k < j ∧ j ≤ l.length ∧ (G j).length < j ∧ xs.length = l.length ∧ xs.take (G j).length = G j ∧ xs.drop j = l.drop j,
  ⟨_, k + 1, l, by rw [hGk.1, hGk.2], rfl, by omega, by omega, by rw [hGk.1, hGk.2]; omega, rfl, by rw [hGk.1]; rw [hGk.2]; exact (qjv h2).symm, rfl⟩, ?_⟩
 rintro m z ⟨j, xs, rfl, rfl, hkj, hjl, hgj, hxl, hx1, hx2⟩
 have hget : j < l.length → rd xs (j : Int) = rd l (j : Int) := fun hj => by
  rw [qcU (by omega), qcU hj]
  have := congrArg (fun q => q[0]?) hx2
  simp only [List.getElem?_drop, Nat.add_zero] at this
  rw [List.getElem?_eq_getElem (by omega), List.getElem?_eq_getElem hj] at this
  exact Option.some.inj this
 by_cases hj : j < l.length
 ·refine qaH (by simp; omega) ⟨by omega, ?_⟩
  have hGj := hG j hj
  have hgl : (G j).length < xs.length := by omega
  have hd2 : (xs.set (G j).length (rd l (j : Int))).drop (j + 1) = l.drop (j + 1) := by
   rw [List.drop_set_of_lt (by omega)]
   have := congrArg (fun q => q.drop 1) hx2
   simpa [List.drop_drop, Nat.add_comm] using this
  have hd1 : xs.drop (j + 1) = l.drop (j + 1) := by
   have := congrArg (fun q => q.drop 1) hx2
   simpa [List.drop_drop, Nat.add_comm] using this
  show D (rd xs (j : Int)) ∧ _
  dsimp only
  rw [hget hj]
  refine ⟨hD _ (qgj hj), fun r2 hr2 => qa2 (fun e => ⟨⟨by omega, by omega⟩, ?_⟩) fun e => ?_⟩
  ·have e : (!g (rd l (j : Int))) = true := by rw [← hr2]; exact e
   rw [if_pos e] at hGj
   have hlen : (G (j + 1)).length = (G j).length + 1 := by rw [hGj]; simp
   refine ⟨l.length - (j + 1), by omega, j + 1, xs.set (G j).length (rd l (j : Int)), ?_, rfl, by omega, by omega, by omega, by simpa using hxl, ?_, hd2⟩
   ·rw [up64 (n := l.length) (k := (G j).length) (by omega) hl', up64 hj hl', hlen]; rfl
   ·rw [hlen, hGj, List.take_add_one, List.getElem?_set_self (by omega), List.take_set_of_le (Nat.le_refl _), hx1]; rfl
  ·have e : ¬ (!g (rd l (j : Int))) = true := by rw [← hr2, e]; simp
   rw [if_neg e] at hGj
   refine ⟨l.length - (j + 1), by omega, j + 1, xs, ?_, rfl, by omega, by omega, by rw [hGj]; omega, hxl, by rw [hGj]; exact hx1, hd1⟩
   rw [up64 hj hl', hGj]
 ·have hje : j = l.length := by omega
  have hGl : G l.length = l.filter fun x => !g x := by show (l.take l.length).filter _ = _; rw [List.take_length]
  refine qaA (by simp; omega) ⟨by omega, by simp; omega, ?_⟩
  show _ = l.filter _
  rw [← hGl, ← hje]
  have : (((G j).length : Int)).toNat = (G j).length := by simp
  rw [this, List.take_append_of_le_length (by simp; omega), List.take_take, Nat.min_self, hx1]
theorem wp.qcl.math (z : Int) (p : List D.Ins) (x : Int) (h : M.qfE z p x) : wp.qcl z p x (fun r => r = M.qcl z p x) := ⟨h, fun r hr => by rw [hr]; rfl⟩
theorem qmv (p : List D.Ins) (all l : List Int) (k : Nat) (hk : k < l.length) : M.qj2 p all (l.drop k) = if all.all (fun z => M.qfo p (rd l (k : Int)) && M.qdF p (rd l (k : Int)) z) then rd l (k : Int) else M.qj2 p all (l.drop (k + 1)) := by
 rw [List.drop_eq_getElem_cons hk, qcU hk]; rfl
theorem wp.qdA.math (p : List D.Ins) (l : List Int) (h : M.qgq p l) : wp.qdA p l (fun r => r = M.qdA p l) := by
 obtain ⟨h1, h2⟩ := h
 have hl : l.length ≤ 17179869183 := h1
 refine qcS l.length (fun k => ((k : Int), ())) (fun k => M.qj2 p l l = M.qj2 p l (l.drop k)) rfl rfl (fun k hk hF next hn => ?_) fun hF next => qaA (by simp) ?_
 ·rw [qmv p l l k hk] at hF
  have hN := h2 _ (qgj hk)
  refine qaH (by simp; omega) ⟨by omega, ⟨by show l.length ≤ 9223372036854775807; omega, fun z hz => hN⟩, fun r hr => ?_⟩
  have hr' : r = !(l.all fun z => M.qfo p (rd l (k : Int)) && M.qdF p (rd l (k : Int)) z) := by
   rw [hr]
   simp only [M.qak, M.qcl]
   rw [List.all_eq_not_any_not, Bool.not_not]
  refine qa2 (fun e => ?_) fun e => ?_
  ·have e2 := nt e hr'
   rw [if_pos (by simpa using e2)] at hF; exact hF.symm
  ·have e2 := nf e hr'
   rw [if_neg (by simpa using e2)] at hF
   rw [up64 hk (by omega)]; exact hn hF
 ·rw [List.drop_length] at hF; exact hF.symm
theorem qkG {p : List D.Ins} {all : List Int} : ∀ (l : List Int), (∀ x ∈ l, M.qfo p x = true) → M.qj2 p all l = M.qhh p all l
 | [], _ => rfl
 | x :: l, h => by
  have hx := h x List.mem_cons_self
  unfold M.qj2 M.qhh
  simp only [hx, Bool.true_and]
  rw [qkG l fun y hy => h y (List.mem_cons_of_mem _ hy)]
theorem wp.qci.math (p : List D.Ins) (k : Int) (h : M.qfm p k) : wp.qci p k (fun r => r = M.qci p k) := by
 have h1 := qiQ p k
 have hs : p.length ≤ 2097152 := h
 refine ⟨h, fun r hr => ⟨⟨?_, fun _ _ => trivial⟩, fun r2 hr2 => ?_⟩⟩
 ·rw [hr]; show (M.qcB p k).length ≤ 9223372036854775807; omega
 have hr2' : r2 = M.others (M.qcB p k) k := by rw [hr2, hr]; rfl
 refine ⟨by rw [hr2']; exact qlB h k, fun r3 hr3 => ?_⟩
 rw [hr3, hr2']
 exact qkG _ fun x hx => by
  obtain ⟨a, b, c, d⟩ := qgi hx
  exact qmg b a.2 c d
theorem wp.qdl.math (p : List D.Ins) (b : Int) (h : M.qgW p b) : wp.qdl p b (fun r => r = M.qdl p b) := by
 refine ⟨h, fun r hr => qa2 (fun e => ?_) fun e => ?_⟩
 ·have := nt e (show r = M.has (M.branches p) b from hr)
  simp [M.qdl, M.qlo, this]
 have e := nf e (show r = M.has (M.branches p) b from hr)
 have hB := qog e
 obtain ⟨n1, n2, n3, n4⟩ := qpf hB
 have hM : M.qdl p b = M.qh9 p b := by simp only [M.qdl, M.qlo, e, if_true]
 rw [hM]
 refine ⟨n3, fun r2 hr2 => ?_⟩
 have hnx : M.qeu p b = M.qhs (b + 1) (rd p b).B := by
  have hb := hB.2.2.2
  simp only [M.isBr, Bool.and_eq_true, beq_iff_eq] at hb
  have := hB.2.2.1
  unfold M.qeu
  rw [if_neg (by omega), if_neg (by omega), if_neg (by omega), if_pos hb.1]
 have hr2' : r2 = M.qhs (b + 1) (rd p b).B := by rw [hr2]; exact hnx
 have hlen := qkA (b + 1) (rd p b).B
 rw [← hr2'] at hlen
 have hmem : ∀ x, x ∈ r2 ↔ x = b + 1 ∨ x = (rd p b).B := fun x => by rw [hr2']; exact qiO
 clear hr2 hr2' hnx
 have hall : r2.all (M.qfo p) = (M.qfo p (b + 1) && M.qfo p (rd p b).B) := by
  rw [Bool.eq_iff_iff, List.all_eq_true, Bool.and_eq_true]
  constructor
  ·exact fun hh => ⟨hh _ ((hmem _).2 (.inl rfl)), hh _ ((hmem _).2 (.inr rfl))⟩
  ·rintro ⟨a1, a2⟩ x hx
   rcases (hmem x).1 hx with rfl | rfl
   ·exact a1
   ·exact a2
 have hnode : ∀ x ∈ r2, M.Node p x := fun x hx => by rcases (hmem x).1 hx with rfl | rfl; exact n1; exact n2
 refine qcS r2.length (fun k => ((k : Int), ())) (fun k => (r2.take k).all (M.qfo p) = true) rfl (by simp) (fun k hk hF next hn => ?_) fun hF next => ?_
 ·refine qaH (by simp; omega) ⟨by omega, hnode _ (qgj hk), fun r3 hr3 => qa2 (fun e3 => ?_) fun e3 => ?_⟩
  ·have e3 := nt e3 (show r3 = M.qfo p (rd r2 (k : Int)) from hr3)
   have := all_false (g := M.qfo p) hk e3
   rw [hall] at this
   show _ = M.qh9 p b
   simp [M.qh9, this]
  ·have e3 := nf e3 (show r3 = M.qfo p (rd r2 (k : Int)) from hr3)
   rw [up64 hk (by omega)]
   rw [qcU hk] at e3
   exact hn (qio hk hF e3)
 ·refine qaA (by simp) ⟨h, fun r3 hr3 => ?_⟩
  rw [List.take_length, hall] at hF
  rw [hr3]
  show _ = M.qh9 p b
  simp [M.qh9, hF, M.qci]
end Go.V
