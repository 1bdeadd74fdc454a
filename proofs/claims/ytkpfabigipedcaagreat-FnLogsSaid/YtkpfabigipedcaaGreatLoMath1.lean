import Derived.Test.YtkpfabigipedcaaGreatLoVBase
import Derived.Test.YtkpfabigipedcaaGreatLoVWords
import Derived.Test.YtkpfabigipedcaaGreatLoVOwn
import Derived.Test.YtkpfabigipedcaaGreatLoVLoop
import Derived.Test.YtkpfabigipedcaaGreatLoVDeep
import Derived.Test.YtkpfabigipedcaaGreatLoVEq
import Derived.Test.YtkpfabigipedcaaGreatLoVCut
import Derived.Test.YtkpfabigipedcaaGreatLoVPlc
import Derived.Test.YtkpfabigipedcaaGreatLoVMapD
import Derived.Test.YtkpfabigipedcaaGreatLoVMap
import Derived.Test.YtkpfabigipedcaaGreatLoVFoc
import Derived.Test.YtkpfabigipedcaaGreatLoPure2
set_option linter.unusedVariables false
set_option linter.unusedSimpArgs false
set_option maxRecDepth 20000
namespace Go.V.M
open IntKind (wrap)
def qdJ (p : List D.Ins) (n : Int) : D.Warp := ⟨n, if p.length > 0 then [⟨0, p.length, 255⟩] else [], List.replicate 32 0⟩
def qnG : D.Warp := ⟨0, [], []⟩
def qma : D.Block := ⟨[], [], [], 0, 0⟩
def qcq (p : List D.Ins) (n : Int) : D.Warp × Bool := if qb6 p && isIn n 0 2 then (qdJ p n, true) else (qnG, false)
def qgn (p : List D.Ins) (n : Int) : Prop := Long p
def qeB (p : List D.Ins) (c : Int) : D.Block := ⟨p, (List.range c.toNat).map fun k : Nat => qdJ p (k : Int), List.replicate 32 0, 0, 0⟩
def qfk (p : List D.Ins) (c : Int) : D.Block × Bool := if qb6 p && isIn c 1 3 then (qeB p c, true) else (qma, false)
def qbw := qfk
def qg9 (p : List D.Ins) (c : Int) : Prop := Long p
def qao (l : List D.Ins) : List D.Ins := l
def qbS (l : List D.Ins) : Prop := l.length ≤ 17179869184
def qaf (l : List D.Frame) : List D.Frame := l
def qba (l : List D.Frame) : Prop := l.length ≤ 17179869184
def WFit (x : D.Warp) : Prop := x.Frames.length ≤ 17179869184 ∧ x.Regs.length ≤ 17179869184
def BFit (b : D.Block) : Prop := b.Code.length ≤ 17179869184 ∧ (b.Warps.length ≤ 17179869184 ∧ ∀ x ∈ b.Warps, WFit x) ∧ b.Memory.length ≤ 17179869184
def qcd (x : D.Warp) : D.Warp := x
def qeI (x : D.Warp) : Prop := WFit x
def qdq (b : D.Block) : D.Block := b
def qgm (b : D.Block) : Prop := BFit b
def qcO (x : D.Warp) : D.Warp := x
def qfX (x : D.Warp) : Prop := WFit x
def qca (b : D.Block) : D.Block := b
def qeM (b : D.Block) : Prop := BFit b
end Go.V.M
namespace Go.V.M
open IntKind (wrap)
def qdS (x : D.Warp) (l : Int) : Prop := x.Regs.length = 32 ∧ 0 ≤ l ∧ l ≤ 7
def qb2 (x : D.Warp) : Int := if x.Frames.isEmpty then 0 else (qdb x.Frames).Mask
def qbM := qb2
def qea (x : D.Warp) : Prop := Long x.Frames
def qbg := qb2
def qcU (x : D.Warp) : Prop := Long x.Frames
def qjq (k : Int) : Int := wrap .i64 (1 * 2 ^ (min (k.toNat) (IntKind.bits .i64)))
def qeC (x : D.Warp) (reg : Int) (m : Int) (k : Int) : Int := if rd x.Regs (k * 4 + reg) = 0 then qh0 .i64 m (qjq k) else m
def qcB (x : D.Warp) (reg : Int) : Int := (qeA (qb2 x)).foldl (qeC x reg) 0
def qaS := qcB
def qdg (x : D.Warp) (reg : Int) : Prop := Long x.Frames ∧ x.Regs.length = 32 ∧ qgB reg = true
def qaU (x : D.Warp) (reg : Int) : Int := if qgB reg && x.Regs.length == 32 then qcB x reg else 0
def qe7 (x : D.Warp) (reg : Int) : Prop := Long x.Frames
def Runs (p : List D.Ins) (x : D.Warp) : Prop := qb6 p = true ∧ qfS p x = true ∧ x.Frames ≠ []
def qdL (x : D.Warp) : Int := (qdb x.Frames).Pc
def qaO (p : List D.Ins) (x : D.Warp) : D.Ins := rd p (qdL x)
def splits (p : List D.Ins) (x : D.Warp) : Bool :=
 ((qaO p x).Op == 10 && (qaO p x).B != qdL x + 1) && (qcB x (qaO p x).A != 0 && qcB x (qaO p x).A != (qdb x.Frames).Mask)
def qbl := splits
def qeN (p : List D.Ins) (x : D.Warp) : Prop := Runs p x
def qb4 (x : D.Warp) (p : List D.Ins) : Bool := splits p x
def qep (x : D.Warp) (p : List D.Ins) : Prop := Runs p x
def qaP (p : List D.Ins) (x : D.Warp) : Bool := !x.Frames.isEmpty && (qcy (qaO p x) && (!splits p x || decide (x.Frames.length ≤ 22)))
def qg0 (p : List D.Ins) (x : D.Warp) : Prop := qb6 p = true ∧ qfS p x = true
def qhj (b : D.Block) (w : Int) : Bool :=
 let x := rd b.Warps w
 !x.Frames.isEmpty && (!waits b w && (if qcy (qaO b.Code x) then !splits b.Code x || decide (x.Frames.length ≤ 22) else (qaO b.Code x).Op != 16 || x.Frames.length == 1))
def qcI := qhj
def qgJ (b : D.Block) (w : Int) : Prop := Has b w
def qaR := qhj
def qeK (b : D.Block) (w : Int) : Prop := Has b w
def qh2 (b : D.Block) (n f : Int) : Nat → Int → Int
 | 0, _ => -1
 | r + 1, k => if qhj b (Int.tmod (f + k) n) then Int.tmod (f + k) n else qh2 b n f r (k + 1)
def pick (b : D.Block) (q : Int) : Int := qh2 b b.Warps.length (Int.tmod q b.Warps.length) b.Warps.length 0
def Good (b : D.Block) : Prop := qll b ∧ qdE b = true
def qdC := pick
def qgw (b : D.Block) (q : Int) : Prop := Good b ∧ 0 ≤ q ∧ q ≤ 9223372036854775807
def qbe := pick
def qe4 (b : D.Block) (q : Int) : Prop := Good b ∧ 0 ≤ q ∧ q ≤ 9223372036854775807
end Go.V.M
namespace Go.V.M
open IntKind (wrap)
def qfG (p : List D.Ins) : Prop := p.length ≤ 2097152
def qpJ {α : Type} (l : List α) : Prop := l.length ≤ 17179869183
def idx (g : Int → Bool) : Nat → List Int
 | 0 => []
 | k + 1 => if g (k : Int) then idx g k ++ [(k : Int)] else idx g k
def isBr (p : List D.Ins) (k : Int) : Bool := (rd p k).Op == 10 && (rd p k).B != k + 1
def branches (p : List D.Ins) : List Int := if qb6 p then idx (isBr p) p.length else []
def others (l : List Int) (n : Int) : List Int := l.filter fun x => x != n
def has (l : List Int) (n : Int) : Bool := l.any fun y => n == y
def qe9 (p : List D.Ins) (k : Int) : Prop := 0 ≤ k ∧ k ≤ (p.length : Int)
def Node (p : List D.Ins) (k : Int) : Prop := qb6 p = true ∧ qe9 p k
def qf5 (p : List D.Ins) (k : Int) : Bool := qb6 p && isIn k 0 p.length
def qhs (a b : Int) : List Int := if b < a then [b, a] else if b = a then [a] else [a, b]
def qeu (p : List D.Ins) (k : Int) : List Int :=
 if k = p.length then [] else if (rd p k).Op = 12 then [(p.length : Int)] else if (rd p k).Op = 11 then [(rd p k).B] else if (rd p k).Op = 10 then qhs (k + 1) (rd p k).B else [k + 1]
def bfs (p : List D.Ins) (wo : Int) : Nat → List Int → List Bool → List Bool
 | 0, _, seen => seen
 | _ + 1, [], seen => seen
 | f + 1, k :: work, seen => if k = wo ∨ rd seen k = true then bfs p wo f work seen else bfs p wo f (work ++ qeu p k) (seen.set k.toNat true)
def reached (p : List D.Ins) (frm : List Int) (wo : Int) : List Bool := bfs p wo (3 * (p.length + 1) + frm.length) frm (List.replicate (p.length + 1) false)
def qfw (p : List D.Ins) (k : Int) : Bool := rd (reached p [k] (-1)) p.length
def qdF (p : List D.Ins) (k later : Int) : Bool := !rd (reached p [k] later) p.length
def qcA (p : List D.Ins) (k : Int) : List Int := if qf5 p k && qfw p k then idx (qdF p k) (p.length + 1) else []
def qhg (p : List D.Ins) (all : List Int) : List Int → Int
 | [] => -1
 | x :: l => if all.all (qdF p x) then x else qhg p all l
def qiY (p : List D.Ins) (all : List Int) : List Int → Int
 | [] => -1
 | x :: l => if all.all (fun z => qfw p x && qdF p x z) then x else qiY p all l
def qhU (p : List D.Ins) (k : Int) : Int := qhg p (others (qcA p k) k) (others (qcA p k) k)
def qh8 (p : List D.Ins) (b : Int) : Int := if qfw p (b + 1) && qfw p (rd p b).B then qhU p b else p.length
def qd3 := others
def qfH (l : List Int) (n : Int) : Prop := qpJ l
def qdU := qf5
def qh9 (p : List D.Ins) (k : Int) : Prop := qfG p
def putAt (l : List Int) (n : Int) : Nat → Nat
 | 0 => 0
 | k + 1 => if rd l (k : Int) > n then putAt l n k else k + 1
def qbf (l : List Int) (n : Int) : List Int :=
 if putAt l n l.length > 0 ∧ rd l (((putAt l n l.length : Nat) : Int) - 1) = n then l else l.take (putAt l n l.length) ++ [n] ++ l.drop (putAt l n l.length)
def qgM (l : List Int) (n : Int) : Prop := qpJ l
def qcr := qeu
def qfi (p : List D.Ins) (k : Int) : Prop := Node p k
def Starts (p : List D.Ins) (l : List Int) : Prop := qb6 p = true ∧ (∀ x ∈ l, qe9 p x) ∧ l.length ≤ 4
def qcL (p : List D.Ins) (l : List Int) : List Bool := reached p l (-1)
def qg2 (p : List D.Ins) (l : List Int) : Prop := Starts p l
def qaN (p : List D.Ins) (k : Int) : Bool := qf5 p k && qfw p k
def qe2 (p : List D.Ins) (k : Int) : Prop := qfG p
def qcN := qdF
def qeZ (p : List D.Ins) (k later : Int) : Prop := Node p k
def qcw := qcA
def qg8 (p : List D.Ins) (k : Int) : Prop := qfG p
def Nodes (p : List D.Ins) (l : List Int) : Prop := qpJ l ∧ ∀ x ∈ l, Node p x
def qdi (p : List D.Ins) (l : List Int) : Int := qhg p l l
def qga (p : List D.Ins) (l : List Int) : Prop := Nodes p l
def qcj := qhU
def qfv (p : List D.Ins) (k : Int) : Prop := qfG p
def Branch (p : List D.Ins) (b : Int) : Prop := qb6 p = true ∧ 0 ≤ b ∧ b < (p.length : Int) ∧ isBr p b = true
def qcD := qh8
def qgx (p : List D.Ins) (b : Int) : Prop := Branch p b
def cmp_isNaN_int (x : Int) : Bool := false
def cmp_Less_int (x y : Int) : Bool := decide (x < y)
def qiG (l : List Int) : List Int := if rd l 1 < rd l 0 then [rd l 1, rd l 0] else l
def qat (l : List Int) (a b : Int) : List Int := qiG l
def qdm (l : List Int) (a b : Int) : Prop := l.length = 2 ∧ a = 0 ∧ b = 2
def qbK (x : Int) : Int := if x ≤ 0 then 0 else if x ≤ 1 then 1 else if x ≤ 3 then 2 else if x ≤ 7 then 3 else 4
def qfn (x : Int) : Prop := 0 ≤ x ∧ x ≤ 12
def qcP (x : Int) : Int := qbK x
def qf0 (x : Int) : Prop := 0 ≤ x ∧ x ≤ 12
def qaQ (l : List Int) (a b c : Int) : List Int := qiG l
def qdY (l : List Int) (a b c : Int) : Prop := l.length = 2 ∧ a = 0 ∧ b = 2
def qb1 (l : List Int) : List Int := qiG l
def qeD (l : List Int) : Prop := l.length = 2
def qaB (l : List Int) : List Int := if rd l 1 = rd l 0 then l.take 1 else l
def qeh (l : List Int) : Prop := l.length = 2
def qdw := qeu
def qfP (p : List D.Ins) (k : Int) : Prop := Node p k
def qbL := branches
def qfs (p : List D.Ins) : Prop := qfG p
def qdj (p : List D.Ins) (b : Int) : Bool := has (branches p) b
def qfV (p : List D.Ins) (b : Int) : Prop := qfG p
def qcE := reached
def qfd (p : List D.Ins) (l : List Int) (wo : Int) : Prop := Starts p l
def qbE := qfw
def qeo (p : List D.Ins) (k : Int) : Prop := Node p k
def qdd := qf5
def qfJ (p : List D.Ins) (k : Int) : Prop := qfG p
def qcp (p : List D.Ins) (k later : Int) : Bool := qfw p k && qdF p k later
def qfh (p : List D.Ins) (k later : Int) : Prop := Node p k
def qbP (p : List D.Ins) (k later : Int) : Bool := qf5 p k && (qf5 p later && (qfw p k && qdF p k later))
def qgo (p : List D.Ins) (k later : Int) : Prop := qfG p
def qbY := qcA
def qg4 (p : List D.Ins) (k : Int) : Prop := qfG p
def qbC (x k : Int) : Bool := x == k
def qeP (x k : Int) : Prop := True
def qay (l : List Int) (g : Int → Bool) : List Int := l.filter fun x => !g x
def qdX (l : List Int) (g : Int → Bool) (D : Int → Prop) : Prop := Long l ∧ ∀ x ∈ l, D x
def qcl (z : Int) (p : List D.Ins) (x : Int) : Bool := !(qfw p x && qdF p x z)
def qfK (z : Int) (p : List D.Ins) (x : Int) : Prop := Node p x
def qdz (p : List D.Ins) (l : List Int) : Int := qiY p l l
def qgs (p : List D.Ins) (l : List Int) : Prop := Nodes p l
def qci := qhU
def qfm (p : List D.Ins) (k : Int) : Prop := qfG p
def qlx (p : List D.Ins) (b : Int) : Int := if has (branches p) b then qh8 p b else -1
def qdn := qlx
def qgX (p : List D.Ins) (b : Int) : Prop := qfG p
end Go.V.M
namespace Go.V.M
open IntKind (wrap)
def qju (fs : List D.Frame) (n : Int) : Nat → List D.Frame
 | 0 => []
 | k + 1 => if (rd fs (k : Int)).Pc ≠ (rd fs (k : Int)).Stop ∧ (rd fs (k : Int)).Pc ≠ n then fs.take (k + 1) else qju fs n k
def qme (fs : List D.Frame) (n : Int) : List D.Frame := qju fs n fs.length
def qgE (x : D.Warp) (n : Int) : D.Warp := ⟨x.Number, qme x.Frames n, x.Regs⟩
def qbB := qgE
def qel (x : D.Warp) (n : Int) : Prop := Long x.Frames
def qaM (p : List D.Ins) (x : D.Warp) : D.Warp := qgE x p.length
def qcZ (p : List D.Ins) (x : D.Warp) : Prop := WFit x
def qeU (r : List Int) (l : Nat) : List Int := (r.take (l * 4 + 4)).drop (l * 4)
def qfD (r : List Int) (l : Nat) (x : List Int) : List Int := r.take (l * 4) ++ x ++ r.drop (l * 4 + 4)
def qfx (i : D.Ins) (num m : Int) (r : List Int) : Nat → List Int
 | 0 => r
 | k + 1 => if qdu m (k : Int) then qfD (qfx i num m r k) k (apply i (num * 8 + (k : Int)) (qeU r k)) else qfx i num m r k
def qgF (i : D.Ins) (num m : Int) (r : List Int) : List Int := qfx i num m r 8
def qd5 (p : List D.Ins) (x : D.Warp) : List Int := qgF (qaO p x) x.Number (qdb x.Frames).Mask x.Regs
def qfZ (p : List D.Ins) (x : D.Warp) : Prop := Runs p x
def qbc (i : D.Ins) (t : Int) (xs : List Int) (lo hi : Nat) : List Int := xs.take lo ++ apply i t ((xs.take hi).drop lo) ++ xs.drop hi
def qgp (i : D.Ins) (t : Int) (xs : List Int) (lo hi : Nat) : Prop := Fits i ((xs.take hi).drop lo) ∧ lo ≤ hi ∧ hi ≤ xs.length
def qgz (p : List D.Ins) (x : D.Warp) : Int :=
 if (qaO p x).Op = 12 then (p.length : Int) else if (qaO p x).Op = 11 then (qaO p x).B else if (qaO p x).Op = 10 ∧ qcB x (qaO p x).A = (qdb x.Frames).Mask then (qaO p x).B else qdL x + 1
def qen (fs : List D.Frame) (pc : Int) : List D.Frame := fs.set (fs.length - 1) ⟨pc, (qdb fs).Stop, (qdb fs).Mask⟩
def advance (p : List D.Ins) (x : D.Warp) : D.Warp := ⟨x.Number, qen x.Frames (qgz p x), qgF (qaO p x) x.Number (qdb x.Frames).Mask x.Regs⟩
def qbk (x : D.Warp) (p : List D.Ins) : D.Warp := advance p x
def qeQ (x : D.Warp) (p : List D.Ins) : Prop := Runs p x
def qmf (p : List D.Ins) (x : D.Warp) : Prop := (qaO p x).Op = 10 ∧ (qaO p x).B ≠ qdL x + 1
def separated (p : List D.Ins) (x : D.Warp) : D.Warp :=
 ⟨x.Number, qen x.Frames (qh8 p (qdL x)) ++ [⟨qdL x + 1, qh8 p (qdL x), qf3 .i64 (qdb x.Frames).Mask (qcB x (qaO p x).A)⟩, ⟨(qaO p x).B, qh8 p (qdL x), qcB x (qaO p x).A⟩], x.Regs⟩
def qaT (x : D.Warp) (p : List D.Ins) : Bool × D.Warp := if x.Frames.length ≤ 22 then (true, separated p x) else (false, x)
def qeJ (x : D.Warp) (p : List D.Ins) : Prop := Runs p x ∧ qmf p x
def stepW (p : List D.Ins) (x : D.Warp) : D.Warp := qgE (if splits p x then separated p x else advance p x) p.length
def Goes (p : List D.Ins) (x : D.Warp) : Prop := Runs p x ∧ qaP p x = true
def qdr := stepW
def qgu (p : List D.Ins) (x : D.Warp) : Prop := Goes p x
def Fine (p : List D.Ins) (x : D.Warp) : Prop := qb6 p = true ∧ qfS p x = true
def qbo (x : D.Warp) (p : List D.Ins) : Bool × D.Warp := if qaP p x then (true, stepW p x) else (false, x)
def qfN (x : D.Warp) (p : List D.Ins) : Prop := Fine p x
end Go.V.M
namespace Go.V.M
open IntKind (wrap)
def once (c : D.Cur) (n : Int) : Bool × D.Cur := ((qa0 c n).1 == 0, (qa0 c n).2)
def qd1 := once
def qfj (c : D.Cur) (n : Int) : Prop := qdN c
def setB (p : List D.Ins) (k : Nat) (v : Int) : List D.Ins := p.set k ⟨(rd p (k : Int)).Op, (rd p (k : Int)).A, v, (rd p (k : Int)).C⟩
def qil (p : List D.Ins) : List D.Ins := p ++ [(⟨8, 3, 0, 0⟩ : D.Ins)]
def qjh (p : List D.Ins) : List D.Ins := ((qil p ++ [(⟨10, 3, 0, 0⟩ : D.Ins)]) ++ [(⟨3, 0, 0, 1⟩ : D.Ins), (⟨1, 2, 1, 0⟩ : D.Ins), (⟨4, 3, 3, 2⟩ : D.Ins)]) ++ [(⟨11, 0, ((qil p).length : Int), 0⟩ : D.Ins)]
def qiy (p : List D.Ins) : List D.Ins := setB (qjh p) (qil p).length ((qjh p).length : Int)
def qde (rec : D.Cur → List D.Ins → List D.Ins × D.Cur) (c : D.Cur) (p : List D.Ins) : List D.Ins × D.Cur := rec (qa0 c 4).2 (p ++ [⟨10, (qa0 c 4).1, 0, 0⟩])
def qhG (rec : D.Cur → List D.Ins → List D.Ins × D.Cur) (c : D.Cur) (p q : List D.Ins) : List D.Ins × D.Cur := rec c (setB (q ++ [⟨11, 0, 0, 0⟩]) p.length ((q ++ [(⟨11, 0, 0, 0⟩ : D.Ins)]).length : Int))
def ifIn (rec : D.Cur → List D.Ins → List D.Ins × D.Cur) (c : D.Cur) (p : List D.Ins) : List D.Ins × D.Cur :=
 if (once (qde rec c p).2 2).1 then (setB (qde rec c p).1 p.length ((qde rec c p).1.length : Int), (once (qde rec c p).2 2).2)
 else (setB (qhG rec (once (qde rec c p).2 2).2 p (qde rec c p).1).1 (qde rec c p).1.length ((qhG rec (once (qde rec c p).2 2).2 p (qde rec c p).1).1.length : Int), (qhG rec (once (qde rec c p).2 2).2 p (qde rec c p).1).2)
def qeR (rec : D.Cur → List D.Ins → List D.Ins × D.Cur) (deep : Bool) (c : D.Cur) (p : List D.Ins) : List D.Ins × D.Cur :=
 if (qa0 c 5).1 = 0 then (if deep then ifIn rec (qa0 c 5).2 p else (p, (qa0 c 5).2))
 else if (qa0 c 5).1 = 1 then (if deep ∧ ¬ (p.length : Int) > 14 then (qiy p, (qa0 c 5).2) else (p, (qa0 c 5).2))
 else (p ++ [(qaG (qa0 c 5).2).1], (qaG (qa0 c 5).2).2)
def qjb (rec : D.Cur → List D.Ins → List D.Ins × D.Cur) (deep : Bool) : Nat → D.Cur → List D.Ins → List D.Ins × D.Cur
 | 0, c, p => (p, c)
 | n + 1, c, p => if (p.length : Int) < 20 then qjb rec deep n (qeR rec deep c p).2 (qeR rec deep c p).1 else (p, c)
def body : Nat → D.Cur → List D.Ins → List D.Ins × D.Cur
 | 0, c, p => qjb (fun c p => (p, c)) false (qa0 c 4).1.toNat (qa0 c 4).2 p
 | d + 1, c, p => qjb (body d) true (qa0 c 4).1.toNat (qa0 c 4).2 p
def qb3 (c : D.Cur) (p : List D.Ins) (d : Int) : List D.Ins × D.Cur := body d.toNat c p
def qdZ (c : D.Cur) (p : List D.Ins) (d : Int) : Prop := qdN c ∧ p.length ≤ 24 ∧ 0 ≤ d ∧ d ≤ 2
end Go.V.M
namespace Go.V.M
open IntKind (wrap)
def qbQ (c : D.Cur) : D.Ins × D.Cur :=
 (⟨(qau c [13, 14, 15]).1, (qa0 (qau c [13, 14, 15]).2 4).1, (qa0 (qa0 (qau c [13, 14, 15]).2 4).2 4).1, 0⟩, (qa0 (qa0 (qau c [13, 14, 15]).2 4).2 4).2)
def qfA (c : D.Cur) : Prop := qdN c
def qjT (c : D.Cur) : List D.Ins × D.Cur := ([⟨8, 0, 0, 0⟩, ⟨14, 0, (qa0 c 4).1, 0⟩], (qa0 c 4).2)
def ql0 (c : D.Cur) : List D.Ins × D.Cur := ([⟨1, 1, (qau c [1, 8, 31]).1, 0⟩, ⟨8, 0, 0, 0⟩, ⟨3, 0, 0, 1⟩, ⟨13, 2, 0, 0⟩], (qau c [1, 8, 31]).2)
def qkK (c : D.Cur) : List D.Ins × D.Cur := ([⟨1, 1, 24 + (qa0 c 8).1, 0⟩, ⟨15, 1, (qa0 (qa0 c 8).2 4).1, 0⟩], (qa0 (qa0 c 8).2 4).2)
def qgq (c : D.Cur) (p : List D.Ins) : List D.Ins × D.Cur :=
 if (qa0 c 7).1 = 0 then (p ++ [⟨16, 0, 0, 0⟩], (qa0 c 7).2)
 else if (qa0 c 7).1 = 1 then (p ++ (qjT (qa0 c 7).2).1, (qjT (qa0 c 7).2).2)
 else if (qa0 c 7).1 = 2 then (p ++ (ql0 (qa0 c 7).2).1, (ql0 (qa0 c 7).2).2)
 else if (qa0 c 7).1 = 3 then (p ++ (qkK (qa0 c 7).2).1, (qkK (qa0 c 7).2).2)
 else if (qa0 c 7).1 = 4 then (if (p.length : Int) < 12 then body 1 (qa0 c 7).2 p else (p, (qa0 c 7).2))
 else if (qa0 c 7).1 = 5 then (p ++ [(qbQ (qa0 c 7).2).1], (qbQ (qa0 c 7).2).2)
 else (p ++ [(qaG (qa0 c 7).2).1], (qaG (qa0 c 7).2).2)
def qi1 : Nat → D.Cur → List D.Ins → List D.Ins × D.Cur
 | 0, c, p => (p, c)
 | n + 1, c, p => if (p.length : Int) + 4 ≤ 32 then qi1 n (qgq c p).2 (qgq c p).1 else (p, c)
def qa8 (c : D.Cur) : List D.Ins × D.Cur := qi1 (1 + (qa0 c 5).1).toNat (qa0 c 5).2 [⟨8, 0, 0, 0⟩]
def qfq (c : D.Cur) : Prop := qdN c
end Go.V.M
namespace Go.V.M
open IntKind (wrap)
def qfp (i : D.Ins) (s : List Int × List Int) (k : Int) : List Int × List Int :=
 if i.Op = 13 then (s.1.set (k * 4 + i.A).toNat (rd s.2 (Int.tmod (rd s.1 (k * 4 + i.B)) 32)), s.2)
 else if i.Op = 14 then (s.1, s.2.set (Int.tmod (rd s.1 (k * 4 + i.A)) 32).toNat (rd s.1 (k * 4 + i.B)))
 else if i.Op = 15 then (s.1, s.2.set (Int.tmod (rd s.1 (k * 4 + i.A)) 32).toNat (addW (rd s.2 (Int.tmod (rd s.1 (k * 4 + i.A)) 32)) (rd s.1 (k * 4 + i.B))))
 else s
def ql7 (i : D.Ins) (m : Int) (s : List Int × List Int) : Nat → List Int × List Int
 | 0 => s
 | k + 1 => if qdu m (k : Int) then qfp i (ql7 i m s k) (k : Int) else ql7 i m s k
def qjm (i : D.Ins) (x : D.Warp) (mem : List Int) : List Int × List Int := ql7 i (qb2 x) (x.Regs, mem) 8
def qmq (b : D.Block) (w : Int) (x : D.Warp) : D.Block := ⟨b.Code, b.Warps.set w.toNat x, b.Memory, b.Waiting, b.Phase⟩
def qcQ (b : D.Block) (w : Int) (i : D.Ins) : D.Block :=
 ⟨b.Code, b.Warps.set w.toNat ⟨(rd b.Warps w).Number, (rd b.Warps w).Frames, (qjm i (rd b.Warps w) b.Memory).1⟩, (qjm i (rd b.Warps w) b.Memory).2, b.Waiting, b.Phase⟩
def Live (b : D.Block) (w : Int) : Prop := Has b w ∧ (rd b.Warps w).Frames ≠ []
def qcc (b : D.Block) (w : Int) : D.Block × List D.Warp × List Int := (qcQ b w (qbR b w), (qcQ b w (qbR b w)).Warps, (qcQ b w (qbR b w)).Memory)
def qfE (b : D.Block) (w : Int) : Prop := Live b w ∧ qcy (qbR b w) = false
def qbU (b : D.Block) (w : Int) (i : D.Ins) : D.Block := qcQ b w i
def qeS (b : D.Block) (w : Int) (i : D.Ins) : Prop := Live b w ∧ i = qbR b w ∧ qcy i = false
def qft (b : D.Block) : Nat → Bool
 | 0 => true
 | k + 1 => qft b k && ((rd b.Warps (k : Int)).Frames.isEmpty || waits b (k : Int))
def qbt (b : D.Block) : Bool := qft b b.Warps.length && b.Waiting != 0
def qgZ (b : D.Block) : Prop := Long b.Warps
def qhz (p : List D.Ins) (x : D.Warp) : D.Warp := qgE ⟨x.Number, qen x.Frames (qdL x + 1), x.Regs⟩ p.length
def actB (b : D.Block) (w : Int) : D.Block :=
 if qcy (qbR b w) then qmq b w (stepW b.Code (rd b.Warps w))
 else ⟨b.Code, b.Warps.set w.toNat (qhz b.Code (rd (qcQ b w (qbR b w)).Warps w)), (qcQ b w (qbR b w)).Memory, if (qbR b w).Op = 16 then qh0 .i64 b.Waiting (qjq w) else b.Waiting, b.Phase⟩
def qhX (b : D.Block) : D.Block := if qbt b then ⟨b.Code, b.Warps, b.Memory, 0, b.Phase + 1⟩ else b
def qeG (b : D.Block) (w : Int) : D.Block := qhX (actB b w)
def qiw (b : D.Block) (w : Int) : Prop := Has b w ∧ qhj b w = true
def qdA := qeG
def qgr (b : D.Block) (w : Int) : Prop := qiw b w
def qbj (b : D.Block) (w : Int) : Bool × D.Block := (decide ((qeG b w).Phase ≤ 100000), qeG b w)
def qeE (b : D.Block) (w : Int) : Prop := qiw b w
end Go.V.M
namespace Go.V.M
open IntKind (wrap)
def stops (f : Nat → Int) (x : D.Block) (k : Nat) : Bool := decide (f k < 0) || (x.Phase == 100000 || decide (pick x (f k) < 0))
def goTo (f : Nat → Int) : Nat → D.Block → Nat → D.Block × Int
 | 0, x, k => (x, (k : Int))
 | m + 1, x, k => if stops f x k then (x, (k : Int)) else goTo f m (qeG x (pick x (f k))) (k + 1)
def goAt (f : Nat → Int) (b : D.Block) : Nat → D.Block
 | 0 => b
 | k + 1 => qeG (goAt f b k) (pick (goAt f b k) (f k))
def qas (s : Int) (k : Nat) : Int := (k : Int) * s
def finish (b : D.Block) (s : Int) : D.Block × Int := goTo (qas s) 9000 b 0
def qew (b : D.Block) (s : Int) : D.Block × Int := if qdE b && isIn s 0 100 then finish b s else (b, -1)
def qaK (k s : Int) : Int × Bool := (wrap .i64 (k * s), decide (k < 9000))
def qbG (w : Int) : Unit := ()
def qaE (b : D.Block) (s : Int) : Int × D.Block := ((finish b s).2, (finish b s).1)
def qdv (b : D.Block) (s : Int) : Prop := Good b ∧ 0 ≤ s ∧ s ≤ 100
def qaZ := qaE
def qeF := qdv
def qcM (s : Int) : Bool := isIn s 0 100
def qcg := qew
def qf6 (b : D.Block) (s : Int) : Prop := BFit b
end Go.V.M
namespace Go.V.M
open IntKind (wrap)
def qdo (b : D.Block) (s n : Int) : D.Block := (goTo (qas s) n.toNat b 0).1
def qgQ (b : D.Block) (s n : Int) : Prop := Good b ∧ 0 ≤ s ∧ s ≤ 100 ∧ 0 ≤ n ∧ n ≤ 9000
def qbN (c : D.Cur) : D.Block × D.Cur :=
 let p := qa8 c; let n := qa0 p.2 3; let b := (qfk p.1 (1 + n.1)).1; let o := once n.2 3
 if o.1 then (⟨b.Code, b.Warps, (qbu o.2 32).1, b.Waiting, b.Phase⟩, (qbu o.2 32).2) else (b, o.2)
def qcJ (c : D.Cur) : D.Block × D.Cur :=
 (qdo (qbN c).1 (qa0 (qbN c).2 4).1 (qa0 (qa0 (qbN c).2 4).2 40).1, (qa0 (qa0 (qbN c).2 4).2 40).2)
def qg7 (c : D.Cur) : Prop := qdN c
def qcC (b : List Int) : D.Block := (qcJ (qb9 b)).1
def qfI (b : List Int) : Prop := Long b
end Go.V.M
namespace Go.V.M
open IntKind (wrap)
def qhh (out : List D.Access) (a : D.Access) : List D.Access := if out.contains a then out else out ++ [a]
def qfQ (log list : List D.Access) : List D.Access := list.foldl qhh log
def qq8 (log list : List D.Access) : Prop := log.length + list.length ≤ 17179869184
def qam (l : List D.Access) : List D.Access := l
def qcR (l : List D.Access) : Prop := l.length ≤ 17179869184
def qbH := qfQ
def qer (log list : List D.Access) : Prop := qq8 log list
end Go.V.M
namespace Go.V.M
open IntKind (wrap)
def qgS (x y : Int) : Int := if x < y then -1 else if x > y then 1 else 0
def cmp_Compare_int := qgS
def qfu (x y : Int) : Prop := True
def qaF (a b : D.Access) : Int := qgS a.Address b.Address
def qdK (a b : D.Access) : Prop := True
def insG {α : Type} (g : α → α → Int) (x : α) : List α → List α
 | [] => [x]
 | y :: r => if g x y < 0 then y :: insG g x r else x :: y :: r
def qi6 {α : Type} (g : α → α → Int) (l : List α) : List α := (l.foldl (fun r x => insG g x r) []).reverse
def qnX (l : List D.Access) (D : D.Access → D.Access → Prop) : Prop := l.length ≤ 12 ∧ ∀ x ∈ l, ∀ y ∈ l, D x y
def qa9 (l : List D.Access) (a b : Int) (g : D.Access → D.Access → Int) : List D.Access := qi6 g l
def qcu (l : List D.Access) (a b : Int) (g : D.Access → D.Access → Int) (D : D.Access → D.Access → Prop) : Prop := a = 0 ∧ b = (l.length : Int) ∧ qnX l D
def qaj (l : List D.Access) (a b c : Int) (g : D.Access → D.Access → Int) : List D.Access := qi6 g l
def qdc (l : List D.Access) (a b c : Int) (g : D.Access → D.Access → Int) (D : D.Access → D.Access → Prop) : Prop := a = 0 ∧ b = (l.length : Int) ∧ qnX l D
def qa7 (l : List D.Access) (g : D.Access → D.Access → Int) : List D.Access := qi6 g l
def qbz (l : List D.Access) (g : D.Access → D.Access → Int) (D : D.Access → D.Access → Prop) : Prop := qnX l D
def sqz {α : Type} [DecidableEq α] (x : α) : List α → List α
 | [] => []
 | y :: l => if y = x then sqz x l else y :: sqz y l
def qei {α : Type} [DecidableEq α] : List α → List α
 | [] => []
 | x :: l => x :: sqz x l
def qae (l : List D.Access) : List D.Access := qei l
def qcz (l : List D.Access) : Prop := l.length ≤ 17179869184
def qmu (i : D.Ins) : Int := if i.Op = 13 then i.B else i.A
def addrAt (b : D.Block) (w k : Int) : Int := Int.tmod (rd (rd b.Warps w).Regs (k * 4 + qmu (qbR b w))) 32
def qk0 (b : D.Block) (w a : Int) : D.Access := ⟨b.Phase, w, a, (qbR b w).Op⟩
def qjZ (l : List Int) : List Int := l.foldl qbf []
def accesses (b : D.Block) (w : Int) : List D.Access :=
 if isIn (qbR b w).Op 13 15 then (qjZ ((qeA (qb2 (rd b.Warps w))).map (addrAt b w))).map (qk0 b w) else []
def qb0 := accesses
def qex (b : D.Block) (w : Int) : Prop := Live b w
end Go.V.M
namespace Go.V.M
open IntKind (wrap)
def qcf (w : Int) (l : List D.Access) (b : D.Block) : List D.Access := l ++ accesses b w
def qf7 (w : Int) (l : List D.Access) (b : D.Block) : Prop := Live b w ∧ l.length ≤ 17179869000
def qhv (f : Nat → Int) : Nat → D.Block → Nat → List D.Access → List D.Access
 | 0, x, k, l => l
 | m + 1, x, k, l => if stops f x k then l else qhv f m (qeG x (pick x (f k))) (k + 1) (l ++ accesses x (pick x (f k)))
def qkk (f : Nat → Int) (b : D.Block) (l : List D.Access) : Nat → List D.Access
 | 0 => l
 | k + 1 => qkk f b l k ++ accesses (goAt f b k) (pick (goAt f b k) (f k))
def qaI (b : D.Block) (s : Int) (l : List D.Access) : Int × D.Block × List D.Access := ((finish b s).2, (finish b s).1, qhv (qas s) 9000 b 0 l)
def qe5 (b : D.Block) (s : Int) (l : List D.Access) : Prop := Good b ∧ 0 ≤ s ∧ s ≤ 100 ∧ l.length ≤ 1000000
def qaY := qaI
def qey := qe5
def logged (b : D.Block) (s : Int) : List D.Access := qfQ [] (qhv (qas s) 9000 b 0 [])
def qfF (b : D.Block) (s : Int) : D.Block × List D.Access := if qdE b && isIn s 0 100 then ((finish b s).1, logged b s) else (b, [])
def qd2 := qfF
def qfz (b : D.Block) (s : Int) : Prop := BFit b
def qe0 (b : List Int) : Bool := true
def qgU (b : List Int) : Prop := Long b
end Go.V.M
namespace Go.V
open IntKind (wrap)
def wp.qar (a : Int) (b : Int) (c : Int) (Q : Bool → Prop) : Prop :=
 qa1 (decide (a ≥ b)) (Q (decide (a ≤ c))) (Q false)
def wp.qaV (a : Int) (b : Int) (c : Int) (Q : Bool → Prop) : Prop :=
 qa1 (decide (a ≥ b)) (Q (decide (a ≤ c))) (Q false)
def wp.qbJ (b : Int) (Q : Bool → Prop) : Prop :=
 (∀ a, a = M.qar b 0 65535 → Q a)
def wp.qbd (b : Int) (Q : Bool → Prop) : Prop :=
 (∀ a, a = M.qaV b 0 65535 → Q a)
def wp.qdl (b : Int) (Q : Bool → Prop) : Prop :=
 (∀ a, a = M.qar b 0 255 → Q a)
def wp.qe1 (b : Int) (Q : Bool → Prop) : Prop :=
 (∀ a, a = M.qar b 0 7 → Q a)
def wp.qcY (b : Int) (a : Int) (Q : Bool → Prop) : Prop :=
 (∀ c, c = M.qdl b → qa1 c ((∀ d, d = M.qe1 a → qa1 d (((0 ≤ a) ∧ Q ((qdQ .i64 (Int.fdiv b (2 ^ (min (a.toNat) (IntKind.bits .i64)))) 1) == 1))) (Q false))) (Q false))
def wp.qc8 (e : Int) (Q : (List Int) → Prop) : Prop :=
 qcX (σ := (List Int) × Int × Unit) (fun (f : (List Int) × Int × Unit) c => match f with | (b, a, _) => qa1 (decide (a < 8)) ((∀ d, d = M.qcY e a → qa1 d (((b.length + ([a] : List Int).length ≤ 17179869184) ∧ c ((b ++ ([a] : List Int)), (wrap .i64 (a + 1)), ()))) (c (b, (wrap .i64 (a + 1)), ())))) (Q b)) (([] : List Int), 0, ())
end Go.V
namespace Go.V
open IntKind (wrap)
theorem wp.qar.math (x a b : Int) : wp.qar x a b (fun r => r = M.qar x a b) := by
 simp only [wp.qar, qgV, M.qar, M.isIn]
 exact ⟨fun h => by simp at h; simp [h], fun h => by simp at h; simp; omega⟩
theorem wp.qaV.math (x a b : Int) : wp.qaV x a b (fun r => r = M.qaV x a b) := wp.qar.math x a b
theorem wp.qbJ.math (x : Int) : wp.qbJ x (fun r => r = M.qbJ x) := fun r h => h
theorem wp.qbd.math (x : Int) : wp.qbd x (fun r => r = M.qbd x) := fun r h => h
theorem wp.qdl.math (x : Int) : wp.qdl x (fun r => r = M.qdl x) := fun r h => h
theorem wp.qe1.math (x : Int) : wp.qe1 x (fun r => r = M.qe1 x) := fun r h => h
theorem wp.qcY.math (m l : Int) : wp.qcY m l (fun r => r = M.qcY m l) := by
 intro r1 h1
 refine qa2 (fun e1 r2 h2 => qa2 (fun e2 => ?_) fun e2 => ?_) fun e1 => ?_
 ·have : M.qik l = true := by rw [← e2, h2]; rfl
  have h0 : 0 ≤ l := by simp [M.qik, M.isIn] at this; omega
  refine ⟨h0, ?_⟩
  have e1' : M.qfR m = true := by rw [← e1, h1]; rfl
  simp [M.qcY, M.qdu, e1', this]
 ·have : M.qik l = false := by rw [← e2, h2]; rfl
  simp [M.qcY, M.qdu, this]
 ·have : M.qfR m = false := by rw [← e1, h1]; rfl
  simp [M.qcY, M.qdu, this]
theorem wp.qc8.math (m : Int) : wp.qc8 m (fun r => r = M.qc8 m) := by
 unfold wp.qc8
 refine ⟨fun k p => (k : Int) = 8 - p.2.1 ∧ 0 ≤ p.2.1 ∧ p.2.1 ≤ 8 ∧ p.1 = ([0, 1, 2, 3, 4, 5, 6, 7].take p.2.1.toNat).filter (M.qdu m), ⟨8, by simp⟩, ?_⟩
 rintro k ⟨xs, i, _⟩ ⟨hk, h0, h8, hx⟩
 simp only at hk h0 h8 hx ⊢
 refine qa2 (fun e => ?_) fun e => ?_
 ·have hlt : i < 8 := by simpa using e
  intro r hr
  have hs : (([0, 1, 2, 3, 4, 5, 6, 7] : List Int).take (i + 1).toNat) = ([0, 1, 2, 3, 4, 5, 6, 7] : List Int).take i.toNat ++ [i] := by
   have : i = 0 ∨ i = 1 ∨ i = 2 ∨ i = 3 ∨ i = 4 ∨ i = 5 ∨ i = 6 ∨ i = 7 := by omega
   rcases this with rfl | rfl | rfl | rfl | rfl | rfl | rfl | rfl <;> rfl
  have hw : wrap .i64 (i + 1) = i + 1 := w64 (by omega) (by omega)
  refine qa2 (fun e2 => ⟨?_, (k - 1), by omega, ?_⟩) fun e2 => ⟨k - 1, by omega, ?_⟩
  ·rw [hx]
   have := List.length_filter_le (M.qdu m) (([0, 1, 2, 3, 4, 5, 6, 7] : List Int).take i.toNat)
   simp at this ⊢; omega
  ·simp only [hw, hs, List.filter_append]
   refine ⟨by omega, by omega, by omega, ?_⟩
   rw [hx, List.filter_cons, if_pos (by rw [← e2, hr]; rfl)]; rfl
  ·simp only [hw, hs, List.filter_append]
   refine ⟨by omega, by omega, by omega, ?_⟩
   rw [hx, List.filter_cons, if_neg (by rw [show M.qdu m i = r from hr.symm, e2]; simp)]; simp
 ·have : i = 8 := by simp at e; omega
  subst this
  rw [hx]; rfl
end Go.V
namespace Go.V
open IntKind (wrap)
def wp.qby (a : Int) (Q : Int → Prop) : Prop :=
 Q (Int.tmod (wrap .i64 ((Int.tmod a 65536) + 65536)) 65536)
def wp.qbA (a : Int) (b : Int) (Q : Int → Prop) : Prop :=
 (∀ c, c = M.qbd a → qa1 (!c) (Q 0) ((∀ d, d = M.qbd b → qa1 (!d) (Q 0) ((∀ e, e = M.qby (wrap .i64 (a + b)) → Q e)))))
def wp.qan (b : List Int) (d : Int → Bool) (e : Int → Prop) (Q : Int → Prop) : Prop :=
 qcX (σ := Int × Unit) (fun (f : Int × Unit) g => match f with | (a, _) => qa1 (decide (a < (b.length : Int))) (((0 ≤ a ∧ a < (b.length : Int)) ∧ (e (rd b a) ∧ ∀ c, c = d (rd b a) → qa1 c (Q a) (g ((wrap .i64 (a + 1)), ()))))) (Q (-1))) (0, ())
def wp.qak (a : List Int) (b : Int → Bool) (d : Int → Prop) (Q : Bool → Prop) : Prop :=
 (M.qds a b d ∧ ∀ c, c = M.qan a b → Q (decide (c ≥ 0)))
def wp.qc7 (b : Int) (Q : Bool → Prop) : Prop :=
 (∀ a, a = M.qbJ b → Q (!a))
def wp.qbX (b : List Int) (Q : Bool → Prop) : Prop :=
 (M.qd8 b (fun a => M.qc7 a) (fun _ => True) ∧ ∀ c, c = M.qak b (fun a => M.qc7 a) → Q (!c))
def wp.qd7 (a : Int) (Q : Int → Prop) : Prop :=
 Q (qdQ .i64 a 65535)
def wp.qbs (d : Int) (e : Int) (f : Int) (Q : Int → Prop) : Prop :=
 (∀ a, a = M.qbJ d → qa1 (!a) (Q 0) ((∀ b, b = M.qbJ e → qa1 (!b) (Q 0) ((∀ c, c = M.qd7 f → Q c)))))
def wp.qc0 (a : Int) (b : Int) (Q : Int → Prop) : Prop :=
 (∀ c, c = M.qbs a b (wrap .i64 (a + b)) → Q c)
def wp.qdV (b : Int) (Q : Bool → Prop) : Prop :=
 (∀ a, a = M.qaV b 0 255 → Q a)
def wp.qbO (b : Int) (a : Int) (Q : Bool → Prop) : Prop :=
 (∀ c, c = M.qdV b → qa1 c ((∀ d, d = M.qaV a 0 7 → qa1 d (((0 ≤ a) ∧ Q ((qdQ .i64 (Int.fdiv b (2 ^ (min (a.toNat) (IntKind.bits .i64)))) 1) == 1))) (Q false))) (Q false))
end Go.V
namespace Go.V
open IntKind (wrap)
theorem qdR {x : Int} : M.isWord x = true ↔ 0 ≤ x ∧ x ≤ 65535 := by simp [M.isWord, M.isIn]
theorem qno {x : Int} : M.qik x = true ↔ 0 ≤ x ∧ x ≤ 7 := by simp [M.qik, M.isIn]
theorem qgk {α : Type} [Inhabited α] {xs : List α} {k : Nat} (h : k < xs.length) : rd xs (k : Int) ∈ xs := by rw [qcV h]; exact List.getElem_mem h
theorem nt {r x : Bool} (e : (!r) = true) (h : r = x) : x = false := by subst h; simpa using e
theorem nf {r x : Bool} (e : (!r) = false) (h : r = x) : x = true := by subst h; simpa using e
theorem qnw (x : Int) : qdQ .i64 x 65535 = x % 65536 := by
 unfold qdQ
 have e1 : (BitVec.ofInt (IntKind.bits .i64) x &&& BitVec.ofInt (IntKind.bits .i64) 65535).toNat = (x % 65536).toNat := by
  show (BitVec.ofInt 64 x &&& BitVec.ofInt 64 65535).toNat = _
  rw [BitVec.toNat_and, BitVec.toNat_ofInt, show (BitVec.ofInt 64 65535).toNat = 2 ^ 16 - 1 from rfl, Nat.and_two_pow_sub_one_eq_mod]
  rw [show ((2 ^ 64 : Nat) : Int) = 18446744073709551616 from rfl]
  omega
 rw [e1, w64 (by omega) (by omega)]
 omega
theorem wp.qd7.math (x : Int) : wp.qd7 x (fun r => r = M.qd7 x) := qnw x
theorem wp.qby.math (x : Int) : wp.qby x (fun r => r = M.qby x) := by
 show Int.tmod (wrap .i64 (Int.tmod x 65536 + 65536)) 65536 = x % 65536
 have h1 : Int.tmod x 65536 < 65536 := Int.tmod_lt_of_pos x (by omega)
 have h2 : -65536 < Int.tmod x 65536 := by
  have := Int.tmod_lt_of_pos (-x) (b := 65536) (by omega)
  rw [Int.neg_tmod] at this; omega
 rw [w64 (by omega) (by omega), Int.tmod_eq_emod_of_nonneg (by omega)]
 have h3 : x = 65536 * Int.tdiv x 65536 + Int.tmod x 65536 := (Int.mul_tdiv_add_tmod x 65536).symm
 omega
theorem wp.qbA.math (a b : Int) : wp.qbA a b (fun r => r = M.qbA a b) := by
 intro r1 h1
 refine qa2 (fun e1 => ?_) fun e1 r2 h2 => qa2 (fun e2 => ?_) fun e2 r3 h3 => ?_
 ·have : M.isWord a = false := nt e1 h1
  simp [M.qbA, M.addW, this]
 ·have : M.isWord b = false := nt e2 h2
  simp [M.qbA, M.addW, this]
 ·have ha : M.isWord a = true := nf e1 h1
  have hb : M.isWord b = true := nf e2 h2
  have := qdR.1 ha
  have := qdR.1 hb
  rw [h3, w64 (by omega) (by omega)]
  simp [M.qbA, M.addW, M.qby, ha, hb]
theorem wp.qbs.math (a b n : Int) : wp.qbs a b n (fun r => r = M.qbs a b n) := by
 intro r1 h1
 refine qa2 (fun e1 => ?_) fun e1 r2 h2 => qa2 (fun e2 => ?_) fun e2 r3 h3 => ?_
 ·have : M.isWord a = false := nt e1 h1
  simp [M.qbs, this]
 ·have : M.isWord b = false := nt e2 h2
  simp [M.qbs, this]
 ·have ha : M.isWord a = true := nf e1 h1
  have hb : M.isWord b = true := nf e2 h2
  rw [h3]
  simp [M.qbs, M.qd7, ha, hb]
theorem wp.qc0.math (a b : Int) : wp.qc0 a b (fun r => r = M.qc0 a b) := by
 intro r hr
 rw [hr]
 simp only [M.qbs, M.qc0, M.addW]
 by_cases h : (M.isWord a && M.isWord b) = true
 ·rw [if_pos h, if_pos h]
  simp only [Bool.and_eq_true, qdR] at h
  rw [w64 (by omega) (by omega)]
 ·rw [if_neg h, if_neg h]
theorem qhx {α : Type} [Inhabited α] (g : α → Bool) (l : List α) : ∀ (k : Nat), k < l.length → M.qez g (l.drop k) k = if g (rd l (k : Int)) then (k : Int) else M.qez g (l.drop (k + 1)) (k + 1) := by
 intro k hk
 rw [List.drop_eq_getElem_cons hk, qcV hk]; rfl
theorem wp.qan.math (l : List Int) (g : Int → Bool) (D : Int → Prop) (h : M.qds l g D) : wp.qan l g D (fun r => r = M.qan l g) := by
 unfold wp.qan
 obtain ⟨h1, h2⟩ := h
 refine qcS l.length (fun k => ((k : Int), ())) (fun k => M.qan l g = M.qez g (l.drop k) k) rfl (by simp [M.qan]) (fun k hk hF next hn => ?_) fun hF next => ?_
 ·rw [qhx g l k hk] at hF
  refine qaH (by simp; omega) ⟨by omega, h2 _ (qgk hk), fun r hr => qa2 (fun e => ?_) fun e => ?_⟩
  ·rw [hF, if_pos (by rw [← hr]; exact e)]
  ·rw [up64 hk h1]
   exact hn (by rw [hF, if_neg (by rw [← hr, e]; simp)])
 ·refine qaA (by simp) ?_
  rw [hF]; simp [M.qez]
theorem qgg {α : Type} (g : α → Bool) : ∀ (l : List α) (k : Nat), decide (M.qez g l k ≥ 0) = l.any g
 | [], k => by simp [M.qez]
 | x :: l, k => by
  simp only [M.qez, List.any_cons]
  by_cases hx : g x = true
  ·simp [hx]
  ·simp only [hx, Bool.false_eq_true, if_false, Bool.false_or]; simpa [hx] using qgg g l (k + 1)
theorem wp.qak.math (l : List Int) (g : Int → Bool) (D : Int → Prop) (h : M.qd8 l g D) : wp.qak l g D (fun r => r = M.qak l g) :=
 ⟨h, fun r hr => by rw [hr]; exact qgg g l 0⟩
theorem wp.qc7.math (x : Int) : wp.qc7 x (fun r => r = M.qc7 x) := fun r hr => by rw [hr]; rfl
theorem wp.qbX.math (l : List Int) (h : M.qf2 l) : wp.qbX l (fun r => r = M.qbX l) := by
 refine ⟨⟨h, fun _ _ => trivial⟩, fun r hr => ?_⟩
 rw [hr]
 simp only [M.qak, M.qbX, M.qc7]
 rw [← List.all_eq_not_any_not]
theorem wp.qdV.math (x : Int) : wp.qdV x (fun r => r = M.qdV x) := fun r hr => hr
theorem wp.qbO.math (m l : Int) : wp.qbO m l (fun r => r = M.qbO m l) := by
 intro r1 h1
 refine qa2 (fun e1 r2 h2 => qa2 (fun e2 => ?_) fun e2 => ?_) fun e1 => ?_
 ·have : M.qik l = true := by rw [← e2, h2]; rfl
  have h0 : 0 ≤ l := (qno.1 this).1
  refine ⟨h0, ?_⟩
  have e1' : M.qfR m = true := by rw [← e1, h1]; rfl
  simp [M.qbO, M.qdu, e1', this]
 ·have : M.qik l = false := by rw [← e2, h2]; rfl
  simp [M.qbO, M.qdu, this]
 ·have : M.qfR m = false := by rw [← e1, h1]; rfl
  simp [M.qbO, M.qdu, this]
theorem qnt (x : Int) : M.isWord (x % 65536) = true := qdR.2 ⟨by omega, by omega⟩
end Go.V
namespace Go.V
open IntKind (wrap)
def wp.qcG (b : D.Ins) (Q : Bool → Prop) : Prop :=
 (∀ a, a = M.qaV b.Op 0 12 → Q a)
def wp.qb8 (b : Int) (Q : Bool → Prop) : Prop :=
 (∀ a, a = M.qaV b 0 3 → Q a)
def wp.qdO (a : D.Ins) (c : Int) (Q : Bool → Prop) : Prop :=
 (∀ e, e = M.qaV c 0 32 → qa1 (!e) (Q false) (qf9 (σ := Bool × Unit) (fun d => qa1 (a.Op == 0) (d (true, ())) (qa1 (a.Op == 12) (d (true, ())) (d ((a.Op == 16), ())))) (fun (r : Bool × Unit) => match r with | (s, _) => qa1 s (qa1 (a.A == 0) (qa1 (a.B == 0) (Q (a.C == 0)) (Q false)) (Q false)) (qa1 (a.Op == 1) ((∀ f, f = M.qb8 a.A → qa1 f ((∀ g, g = M.qbd a.B → qa1 g (Q (a.C == 0)) (Q false))) (Q false))) (qf9 (σ := Bool × Unit) (fun b => qa1 (a.Op == 2) (b (true, ())) (qa1 (a.Op == 13) (b (true, ())) (qa1 (a.Op == 14) (b (true, ())) (b ((a.Op == 15), ()))))) (fun (t : Bool × Unit) => match t with | (u, _) => qa1 u ((∀ h, h = M.qb8 a.A → qa1 h ((∀ i, i = M.qb8 a.B → qa1 i (Q (a.C == 0)) (Q false))) (Q false))) (qa1 (a.Op == 8) ((∀ j, j = M.qb8 a.A → qa1 j (qa1 (a.B == 0) (Q (a.C == 0)) (Q false)) (Q false))) (qa1 (a.Op == 10) ((∀ k, k = M.qb8 a.A → qa1 k ((∀ l, l = M.qaV a.B 0 c → qa1 l (Q (a.C == 0)) (Q false))) (Q false))) (qa1 (a.Op == 11) (qa1 (a.A == 0) ((∀ m, m = M.qaV a.B 0 c → qa1 m (Q (a.C == 0)) (Q false))) (Q false)) ((∀ n, n = M.qaV a.Op 3 9 → qa1 n ((∀ o, o = M.qb8 a.A → qa1 o ((∀ p, p = M.qb8 a.B → qa1 p ((∀ q, q = M.qb8 a.C → Q q)) (Q false))) (Q false))) (Q false))))))))))))
def wp.qbh (a : List D.Ins) (Q : Bool → Prop) : Prop :=
 qcX (σ := Int × Unit) (fun (d : Int × Unit) e => match d with | (b, _) => qa1 (decide (b < (a.length : Int))) (((0 ≤ b ∧ b < (a.length : Int)) ∧ (∀ c, c = M.qdO (rd a b) (a.length : Int) → qa1 (!c) (Q false) (e ((wrap .i64 (b + 1)), ()))))) (Q (decide ((a.length : Int) ≤ 32)))) (0, ())
def wp.qbW (a : Int) (b : Int) (Q : Int → Prop) : Prop :=
 (∀ c, c = M.qbd a → qa1 (!c) (Q 0) ((∀ d, d = M.qbd b → qa1 (!d) (Q 0) ((∀ e, e = M.qby (wrap .i64 (a - b)) → Q e)))))
def wp.qc9 (a : Int) (b : Int) (Q : Int → Prop) : Prop :=
 (∀ c, c = M.qbd a → qa1 (!c) (Q 0) ((∀ d, d = M.qbd b → qa1 (!d) (Q 0) ((∀ e, e = M.qby (wrap .i64 (a * b)) → Q e)))))
def wp.qbp (a : Int) (b : Int) (Q : Int → Prop) : Prop :=
 (∀ c, c = M.qbd a → qa1 c ((∀ d, d = M.qbd b → qa1 d (qa1 (decide (a < b)) (Q 1) (Q 0)) (Q 0))) (Q 0))
def wp.qb7 (a : D.Ins) (g : Int) (b : List Int) (Q : (List Int) → Prop) : Prop :=
 ((([] : List Int).length + b.length ≤ 17179869184) ∧ qa1 (a.Op == 1) (((0 ≤ a.A ∧ a.A < ((([] : List Int) ++ b).length : Int)) ∧ Q (List.set (([] : List Int) ++ b) (a.A.toNat) a.B))) (qa1 (a.Op == 2) (((0 ≤ a.B ∧ a.B < (b.length : Int)) ∧ ((0 ≤ a.A ∧ a.A < ((([] : List Int) ++ b).length : Int)) ∧ Q (List.set (([] : List Int) ++ b) (a.A.toNat) (rd b a.B))))) (qa1 (a.Op == 3) (((0 ≤ a.B ∧ a.B < (b.length : Int)) ∧ ((0 ≤ a.C ∧ a.C < (b.length : Int)) ∧ (∀ c, c = M.qbA (rd b a.B) (rd b a.C) → ((0 ≤ a.A ∧ a.A < ((([] : List Int) ++ b).length : Int)) ∧ Q (List.set (([] : List Int) ++ b) (a.A.toNat) c)))))) (qa1 (a.Op == 4) (((0 ≤ a.B ∧ a.B < (b.length : Int)) ∧ ((0 ≤ a.C ∧ a.C < (b.length : Int)) ∧ (∀ d, d = M.qbW (rd b a.B) (rd b a.C) → ((0 ≤ a.A ∧ a.A < ((([] : List Int) ++ b).length : Int)) ∧ Q (List.set (([] : List Int) ++ b) (a.A.toNat) d)))))) (qa1 (a.Op == 5) (((0 ≤ a.B ∧ a.B < (b.length : Int)) ∧ ((0 ≤ a.C ∧ a.C < (b.length : Int)) ∧ (∀ e, e = M.qc9 (rd b a.B) (rd b a.C) → ((0 ≤ a.A ∧ a.A < ((([] : List Int) ++ b).length : Int)) ∧ Q (List.set (([] : List Int) ++ b) (a.A.toNat) e)))))) (qa1 (a.Op == 6) (((0 ≤ a.B ∧ a.B < (b.length : Int)) ∧ ((0 ≤ a.C ∧ a.C < (b.length : Int)) ∧ ((0 ≤ a.A ∧ a.A < ((([] : List Int) ++ b).length : Int)) ∧ Q (List.set (([] : List Int) ++ b) (a.A.toNat) (qgY .i64 (rd b a.B) (rd b a.C))))))) (qa1 (a.Op == 7) (((0 ≤ a.B ∧ a.B < (b.length : Int)) ∧ ((0 ≤ a.C ∧ a.C < (b.length : Int)) ∧ (∀ f, f = M.qbp (rd b a.B) (rd b a.C) → ((0 ≤ a.A ∧ a.A < ((([] : List Int) ++ b).length : Int)) ∧ Q (List.set (([] : List Int) ++ b) (a.A.toNat) f)))))) (qa1 (a.Op == 8) (((0 ≤ a.A ∧ a.A < ((([] : List Int) ++ b).length : Int)) ∧ Q (List.set (([] : List Int) ++ b) (a.A.toNat) g))) (qa1 (a.Op == 9) (((0 ≤ a.C ∧ a.C < (b.length : Int)) ∧ qa1 ((rd b a.C) != 0) (((0 ≤ a.B ∧ a.B < (b.length : Int)) ∧ ((0 ≤ a.A ∧ a.A < ((([] : List Int) ++ b).length : Int)) ∧ Q (List.set (([] : List Int) ++ b) (a.A.toNat) (rd b a.B))))) (Q (([] : List Int) ++ b)))) (Q (([] : List Int) ++ b)))))))))))
def wp.qaq (a : List Int) (Q : (List Int) → Prop) : Prop :=
 (∀ b : Bool, (b = true → a = []) → qa1 b (Q ([] : List Int)) (((([] : List Int).length + a.length ≤ 17179869184) ∧ Q (([] : List Int) ++ a))))
def wp.qdH (a : Int) (Q : ByteArray → Prop) : Prop :=
 (∀ b, b = M.qar a 0 16 → qa1 (!b) (Q (⟨#[]⟩)) (((0 ≤ a ∧ a < (([⟨#[45, 45, 45]⟩, ⟨#[82, 87, 45]⟩, ⟨#[82, 82, 45]⟩, ⟨#[82, 82, 82]⟩, ⟨#[82, 82, 82]⟩, ⟨#[82, 82, 82]⟩, ⟨#[82, 82, 82]⟩, ⟨#[82, 82, 82]⟩, ⟨#[82, 45, 45]⟩, ⟨#[82, 82, 82]⟩, ⟨#[82, 84, 45]⟩, ⟨#[45, 84, 45]⟩, ⟨#[45, 45, 45]⟩, ⟨#[82, 82, 45]⟩, ⟨#[82, 82, 45]⟩, ⟨#[82, 82, 45]⟩, ⟨#[45, 45, 45]⟩] : List ByteArray).length : Int)) ∧ Q (rd ([⟨#[45, 45, 45]⟩, ⟨#[82, 87, 45]⟩, ⟨#[82, 82, 45]⟩, ⟨#[82, 82, 82]⟩, ⟨#[82, 82, 82]⟩, ⟨#[82, 82, 82]⟩, ⟨#[82, 82, 82]⟩, ⟨#[82, 82, 82]⟩, ⟨#[82, 45, 45]⟩, ⟨#[82, 82, 82]⟩, ⟨#[82, 84, 45]⟩, ⟨#[45, 84, 45]⟩, ⟨#[45, 45, 45]⟩, ⟨#[82, 82, 45]⟩, ⟨#[82, 82, 45]⟩, ⟨#[82, 82, 45]⟩, ⟨#[45, 45, 45]⟩] : List ByteArray) a))))
def wp.qe8 (b : Int) (Q : Bool → Prop) : Prop :=
 (∀ a, a = M.qar b 0 3 → Q a)
def wp.qaJ (b : Int) (a : Int) (f : Int) (Q : Bool → Prop) : Prop :=
 qa1 (b == 82) ((∀ c, c = M.qe8 a → Q c)) (qa1 (b == 87) ((∀ d, d = M.qbJ a → Q d)) (qa1 (b == 84) ((∀ e, e = M.qar a 0 f → Q e)) (Q (a == 0))))
def wp.qbb (b : D.Ins) (c : Int) (Q : Bool → Prop) : Prop :=
 (∀ a, a = M.qdH b.Op → qa1 (!(ByteArray.toList a == ByteArray.toList (⟨#[]⟩))) ((∀ d, d = M.qar c 0 32 → qa1 d (((0 ≤ (0 : Int) ∧ (0 : Int) < ((ByteArray.size a : Nat) : Int)) ∧ (M.qdB (bt a 0) b.A c ∧ ∀ e, e = M.qaJ (bt a 0) b.A c → qa1 e (((0 ≤ (1 : Int) ∧ (1 : Int) < ((ByteArray.size a : Nat) : Int)) ∧ (M.qdB (bt a 1) b.B c ∧ ∀ f, f = M.qaJ (bt a 1) b.B c → qa1 f (((0 ≤ (2 : Int) ∧ (2 : Int) < ((ByteArray.size a : Nat) : Int)) ∧ (M.qdB (bt a 2) b.C c ∧ ∀ g, g = M.qaJ (bt a 2) b.C c → Q g))) (Q false)))) (Q false)))) (Q false))) (Q false))
def wp.qbF (b : D.Ins) (c : List D.Ins) (Q : Bool → Prop) : Prop :=
 (∀ a, a = M.qbb b (c.length : Int) → Q (!a))
def wp.qac (b : List D.Ins) (d : D.Ins → Bool) (e : D.Ins → Prop) (Q : Int → Prop) : Prop :=
 qcX (σ := Int × Unit) (fun (f : Int × Unit) g => match f with | (a, _) => qa1 (decide (a < (b.length : Int))) (((0 ≤ a ∧ a < (b.length : Int)) ∧ (e (rd b a) ∧ ∀ c, c = d (rd b a) → qa1 c (Q a) (g ((wrap .i64 (a + 1)), ()))))) (Q (-1))) (0, ())
def wp.qad (a : List D.Ins) (b : D.Ins → Bool) (d : D.Ins → Prop) (Q : Bool → Prop) : Prop :=
 (M.qd4 a b d ∧ ∀ c, c = M.qac a b → Q (decide (c ≥ 0)))
def wp.qbn (a : List D.Ins) (Q : Bool → Prop) : Prop :=
 qa1 (decide ((a.length : Int) ≤ 32)) ((M.qcH a (fun b => M.qbF b a) (fun _ => True) ∧ ∀ c, c = M.qad a (fun b => M.qbF b a) → Q (!c))) (Q false)
def wp.qcF (b : D.Ins) (Q : Bool → Prop) : Prop :=
 (∀ a, a = M.qar b.Op 0 12 → Q a)
def wp.qcv (a : Int) (b : Int) (Q : Int → Prop) : Prop :=
 (∀ c, c = M.qbs a b (wrap .i64 (a - b)) → Q c)
def wp.qct (a : Int) (b : Int) (Q : Int → Prop) : Prop :=
 (∀ c, c = M.qbs a b (wrap .i64 (a * b)) → Q c)
def wp.qcm (a : Int) (b : Int) (Q : Int → Prop) : Prop :=
 (∀ c, c = M.qbJ a → qa1 c ((∀ d, d = M.qbJ b → qa1 d (qa1 (decide (a < b)) (Q 1) (Q 0)) (Q 0))) (Q 0))
end Go.V
namespace Go.V
open IntKind (wrap)
theorem bcq {b x z : Bool} : qa1 b (x = z) (false = z) ↔ (b && x) = z := by cases b <;> simp [qa1]
theorem wp.qaq.math (l : List Int) (h : M.qaW l) : wp.qaq l (fun r => r = M.qaq l) := by
 intro b hb
 refine qa2 (fun e => ?_) fun e => ⟨by simpa [M.qaW] using h, rfl⟩
 rw [hb e]; rfl
theorem wp.qcG.math (i : D.Ins) : wp.qcG i (fun r => r = M.qcG i) := fun r hr => hr
theorem wp.qcF.math (i : D.Ins) : wp.qcF i (fun r => r = M.qcF i) := fun r hr => hr
theorem wp.qb8.math (x : Int) : wp.qb8 x (fun r => r = M.qb8 x) := fun r hr => hr
theorem wp.qe8.math (x : Int) : wp.qe8 x (fun r => r = M.qe8 x) := fun r hr => hr
theorem wp.qdO.math (i : D.Ins) (n : Int) : wp.qdO i n (fun r => r = M.qdO i n) := by
 simp only [wp.qdO, qf9, forall_eq, M.qaV, M.qb8, M.qbd, bcq, M.qdO, M.qdD]
 refine qa2 (fun e => ?_) fun e => ?_
 ·have hn : M.isIn n 0 32 = false := by simpa using e
  simp [hn]
 have hn : M.isIn n 0 32 = true := by simpa using e
 rw [hn, Bool.true_and]
 by_cases h0 : i.Op = 0
 ·simp [h0, qa1, Bool.and_assoc]
 by_cases h12 : i.Op = 12
 ·simp [h12, qa1, Bool.and_assoc]
 by_cases h16 : i.Op = 16
 ·simp [h16, qa1, Bool.and_assoc]
 by_cases h1 : i.Op = 1
 ·simp [h1, qa1, Bool.and_assoc]
 by_cases h2 : i.Op = 2
 ·simp [h2, qa1, Bool.and_assoc]
 by_cases h13 : i.Op = 13
 ·simp [h13, qa1, Bool.and_assoc]
 by_cases h14 : i.Op = 14
 ·simp [h14, qa1, Bool.and_assoc]
 by_cases h15 : i.Op = 15
 ·simp [h15, qa1, Bool.and_assoc]
 by_cases h8 : i.Op = 8
 ·simp [h8, qa1, Bool.and_assoc]
 by_cases h10 : i.Op = 10
 ·simp [h10, qa1, Bool.and_assoc]
 by_cases h11 : i.Op = 11
 ·simp [h11, qa1, Bool.and_assoc]
 have b0 : (i.Op == 0) = false := by simp [h0]
 have b12 : (i.Op == 12) = false := by simp [h12]
 have b16 : (i.Op == 16) = false := by simp [h16]
 have b1 : (i.Op == 1) = false := by simp [h1]
 have b2 : (i.Op == 2) = false := by simp [h2]
 have b13 : (i.Op == 13) = false := by simp [h13]
 have b14 : (i.Op == 14) = false := by simp [h14]
 have b15 : (i.Op == 15) = false := by simp [h15]
 have b8 : (i.Op == 8) = false := by simp [h8]
 have b10 : (i.Op == 10) = false := by simp [h10]
 have b11 : (i.Op == 11) = false := by simp [h11]
 simp only [b0, b12, b16, b1, b2, b13, b14, b15, b8, b10, b11, qa1, h0, h12, h16, h1, h2, h13, h14, h15, h8, h10, h11, or_self, if_false]
theorem qmZ {α : Type} [Inhabited α] {l : List α} {g : α → Bool} (hl : M.Long l) {B : (Int × Unit) → ((Int × Unit) → Prop) → Prop} {Q : Bool → Prop}
    (hb : ∀ (k : Nat) (next : (Int × Unit) → Prop), k < l.length → (g (rd l (k : Int)) = false → l.all g = false → Q false) → (g (rd l (k : Int)) = true → next (((k + 1 : Nat) : Int), ())) → B ((k : Int), ()) next)
    (he : ∀ (next : (Int × Unit) → Prop), l.all g = true → B ((l.length : Int), ()) next) (hQ : l.all g = false → Q false) : qcX B (0, ()) := by
 refine qcS l.length (fun k => ((k : Int), ())) (fun k => (l.take k).all g = true) rfl (by simp) (fun k hk hF next hn => ?_) fun hF next => ?_
 ·refine hb k next hk (fun e h => hQ h) fun e => ?_
  rw [qcV hk] at e
  exact hn (qir hk hF e)
 ·rw [List.take_length] at hF
  exact he next hF
theorem all_false {α : Type} [Inhabited α] {l : List α} {g : α → Bool} {k : Nat} (hk : k < l.length) (e : g (rd l (k : Int)) = false) : l.all g = false := by
 rw [qcV hk] at e; exact qpU hk e
theorem wp.qbh.math (p : List D.Ins) (h : M.qek p) : wp.qbh p (fun r => r = M.qbh p) := by
 unfold wp.qbh
 refine qmZ (g := fun i => M.qdD i p.length) (Q := fun r => r = M.qb6 p) h (fun k next hk h1 h2 => ?_) (fun next ha => ?_) fun ha => by simp only [M.qb6, ha, Bool.and_false]
 ·refine qaH (by simp; omega) ⟨by omega, fun r hr => qa2 (fun e => ?_) fun e => ?_⟩
  ·have := nt e hr
   exact h1 this (all_false (g := fun i => M.qdD i p.length) hk this)
  ·rw [up64 hk h]; exact h2 (nf e hr)
 ·refine qaA (by simp) ?_
  simp only [M.qbh, M.qb6, ha, Bool.and_true]
  by_cases h32 : p.length ≤ 32
  ·simp [h32]; omega
  ·simp [h32]; omega
theorem wp.qdH.math (op : Int) : wp.qdH op (fun r => r = M.qdH op) := by
 intro r hr
 refine qa2 (fun e => ?_) fun e => ?_
 ·have : M.isIn op 0 16 = false := nt e hr
  have h' : ¬ (0 ≤ op ∧ op ≤ 16) := by simpa [M.isIn] using this
  have h2 : M.isIn op 3 9 = false := by simp [M.isIn]; omega
  simp only [M.qdH, M.qhr, h2]
  rw [if_neg (by omega), if_neg (by omega), if_neg (by omega), if_neg (by omega), if_neg (by omega), if_neg (by omega)]
  rfl
 ·have : M.isIn op 0 16 = true := nf e hr
  have h' : 0 ≤ op ∧ op ≤ 16 := by simpa [M.isIn] using this
  refine ⟨by simp; omega, ?_⟩
  have : op = 0 ∨ op = 1 ∨ op = 2 ∨ op = 3 ∨ op = 4 ∨ op = 5 ∨ op = 6 ∨ op = 7 ∨ op = 8 ∨ op = 9 ∨ op = 10 ∨ op = 11 ∨ op = 12 ∨ op = 13 ∨ op = 14 ∨ op = 15 ∨ op = 16 := by omega
  rcases this with rfl | rfl | rfl | rfl | rfl | rfl | rfl | rfl | rfl | rfl | rfl | rfl | rfl | rfl | rfl | rfl | rfl <;> rfl
theorem wp.qaJ.math (f x n : Int) (h : M.qdB f x n) : wp.qaJ f x n (fun r => r = M.qaJ f x n) := by
 refine qa2 (fun e r hr => ?_) fun e1 => qa2 (fun e r hr => ?_) fun e2 => qa2 (fun e r hr => ?_) fun e3 => ?_
 ·simp at e; simp [M.qaJ, e, hr, M.qe8]
 ·simp at e; simp [M.qaJ, e, hr, M.qbJ]
 ·simp at e; simp [M.qaJ, e, hr, M.qar]
 ·simp at e1 e2 e3; simp [M.qaJ, e1, e2, e3]
theorem qq5 {a b : ByteArray} (h : ByteArray.toList a ≠ ByteArray.toList b) : (!(ByteArray.toList a == ByteArray.toList b)) = true := by simp [h]
theorem qlW (op : Int) : (M.qhr op = ⟨#[45, 45, 45]⟩ ∧ (op = 0 ∨ op = 12 ∨ op = 16)) ∨ (M.qhr op = ⟨#[82, 87, 45]⟩ ∧ op = 1) ∨ (M.qhr op = ⟨#[82, 82, 45]⟩ ∧ (op = 2 ∨ op = 13 ∨ op = 14 ∨ op = 15)) ∨
    (M.qhr op = ⟨#[82, 45, 45]⟩ ∧ op = 8) ∨ (M.qhr op = ⟨#[82, 84, 45]⟩ ∧ op = 10) ∨ (M.qhr op = ⟨#[45, 84, 45]⟩ ∧ op = 11) ∨ (M.qhr op = ⟨#[82, 82, 82]⟩ ∧ (3 ≤ op ∧ op ≤ 7 ∨ op = 9)) ∨
    (M.qhr op = ⟨#[]⟩ ∧ (op < 0 ∨ op > 16)) := by
 unfold M.qhr
 by_cases a1 : op = 0 ∨ op = 12 ∨ op = 16
 ·rw [if_pos a1]; exact .inl ⟨rfl, a1⟩
 rw [if_neg a1]
 by_cases a2 : op = 1
 ·rw [if_pos a2]; exact .inr (.inl ⟨rfl, a2⟩)
 rw [if_neg a2]
 by_cases a3 : op = 2 ∨ op = 13 ∨ op = 14 ∨ op = 15
 ·rw [if_pos a3]; exact .inr (.inr (.inl ⟨rfl, a3⟩))
 rw [if_neg a3]
 by_cases a4 : op = 8
 ·rw [if_pos a4]; exact .inr (.inr (.inr (.inl ⟨rfl, a4⟩)))
 rw [if_neg a4]
 by_cases a5 : op = 10
 ·rw [if_pos a5]; exact .inr (.inr (.inr (.inr (.inl ⟨rfl, a5⟩))))
 rw [if_neg a5]
 by_cases a6 : op = 11
 ·rw [if_pos a6]; exact .inr (.inr (.inr (.inr (.inr (.inl ⟨rfl, a6⟩)))))
 rw [if_neg a6]
 by_cases a7 : 3 ≤ op ∧ op ≤ 9
 ·rw [if_pos (by simp [M.isIn]; omega)]; exact .inr (.inr (.inr (.inr (.inr (.inr (.inl ⟨rfl, by omega⟩))))))
 rw [if_neg (by simp [M.isIn]; omega)]; exact .inr (.inr (.inr (.inr (.inr (.inr (.inr ⟨rfl, by omega⟩))))))
theorem qhi {i : D.Ins} {n : Int} {f : ByteArray} {x y z : Int} (hx : bt f 0 = x) (hy : bt f 1 = y) (hz : bt f 2 = z) (hs : f.size = 3) (hf : ByteArray.toList f ≠ ByteArray.toList (⟨#[]⟩)) {P : Bool → Prop} (hin : M.isIn n 0 32 = false → P false)
    (h : M.isIn n 0 32 = true → P (M.qaJ x i.A n && (M.qaJ y i.B n && M.qaJ z i.C n))) :
    qa1 (!(ByteArray.toList f == ByteArray.toList (⟨#[]⟩))) ((∀ r28, r28 = M.qar n 0 32 → qa1 r28 (((0 ≤ (0 : Int) ∧ (0 : Int) < ((ByteArray.size f : Nat) : Int)) ∧ (M.qdB (bt f 0) i.A n ∧ ∀ r38, r38 = M.qaJ (bt f 0) i.A n → qa1 r38 (((0 ≤ (1 : Int) ∧ (1 : Int) < ((ByteArray.size f : Nat) : Int)) ∧ (M.qdB (bt f 1) i.B n ∧ ∀ r48, r48 = M.qaJ (bt f 1) i.B n → qa1 r48 (((0 ≤ (2 : Int) ∧ (2 : Int) < ((ByteArray.size f : Nat) : Int)) ∧ (M.qdB (bt f 2) i.C n ∧ ∀ r58, r58 = M.qaJ (bt f 2) i.C n → P r58))) (P false)))) (P false)))) (P false))) (P false) := by
 refine qaH (qq5 hf) fun r1 h1 => qa2 (fun e1 => ⟨by omega, trivial, fun r2 h2 => qa2 (fun e2 => ⟨by omega, trivial, fun r3 h3 => qa2 (fun e3 => ⟨by omega, trivial, fun r4 h4 => ?_⟩) fun e3 => ?_⟩) fun e2 => ?_⟩) fun e1 => hin (h1.symm.trans e1)
 all_goals have hh := h (h1.symm.trans e1)
 ·rw [hx] at h2; rw [hy] at h3; rw [hz] at h4
  rw [← h2, ← h3, ← h4, e2, e3] at hh; exact hh
 ·rw [hx] at h2; rw [hy] at h3
  rw [← h2, ← h3, e2, e3] at hh; exact hh
 ·rw [hx] at h2
  rw [← h2, e2] at hh; exact hh
theorem wp.qbb.math (i : D.Ins) (n : Int) : wp.qbb i n (fun r => r = M.qbb i n) := by
 intro r hr
 have hr' : r = M.qhr i.Op := hr
 rcases qlW i.Op with ⟨e, h⟩ | ⟨e, h⟩ | ⟨e, h⟩ | ⟨e, h⟩ | ⟨e, h⟩ | ⟨e, h⟩ | ⟨e, h⟩ | ⟨e, h⟩
 case inr.inr.inr.inr.inr.inr.inr =>
  rw [hr', e]
  refine qaA (by simp) ?_
  simp only [M.qbb, M.qdD]
  rw [if_neg (by omega), if_neg (by omega), if_neg (by omega), if_neg (by omega), if_neg (by omega), if_neg (by omega)]
  have : M.isIn i.Op 3 9 = false := by simp [M.isIn]; omega
  simp [this]
 ·rw [hr', e]
  refine qhi (x := 45) (y := 45) (z := 45) (P := fun r => r = M.qbb i n) (by decide +kernel) (by decide +kernel) (by decide +kernel) rfl (by decide +kernel) (fun hn => by simp [M.qbb, M.qdD, hn]) fun hn => ?_
  simp only [M.qbb, M.qdD, hn, Bool.true_and]
  rw [if_pos h]
  simp [M.qaJ]
 ·rw [hr', e]
  refine qhi (x := 82) (y := 87) (z := 45) (P := fun r => r = M.qbb i n) (by decide +kernel) (by decide +kernel) (by decide +kernel) rfl (by decide +kernel) (fun hn => by simp [M.qbb, M.qdD, hn]) fun hn => ?_
  simp only [M.qbb, M.qdD, hn, Bool.true_and]
  rw [if_neg (by omega), if_pos h]
  simp [M.qaJ]
 ·rw [hr', e]
  refine qhi (x := 82) (y := 82) (z := 45) (P := fun r => r = M.qbb i n) (by decide +kernel) (by decide +kernel) (by decide +kernel) rfl (by decide +kernel) (fun hn => by simp [M.qbb, M.qdD, hn]) fun hn => ?_
  simp only [M.qbb, M.qdD, hn, Bool.true_and]
  rw [if_neg (by omega), if_neg (by omega), if_pos h]
  simp [M.qaJ]
 ·rw [hr', e]
  refine qhi (x := 82) (y := 45) (z := 45) (P := fun r => r = M.qbb i n) (by decide +kernel) (by decide +kernel) (by decide +kernel) rfl (by decide +kernel) (fun hn => by simp [M.qbb, M.qdD, hn]) fun hn => ?_
  simp only [M.qbb, M.qdD, hn, Bool.true_and]
  rw [if_neg (by omega), if_neg (by omega), if_neg (by omega), if_pos h]
  simp [M.qaJ]
 ·rw [hr', e]
  refine qhi (x := 82) (y := 84) (z := 45) (P := fun r => r = M.qbb i n) (by decide +kernel) (by decide +kernel) (by decide +kernel) rfl (by decide +kernel) (fun hn => by simp [M.qbb, M.qdD, hn]) fun hn => ?_
  simp only [M.qbb, M.qdD, hn, Bool.true_and]
  rw [if_neg (by omega), if_neg (by omega), if_neg (by omega), if_neg (by omega), if_pos h]
  simp [M.qaJ]
 ·rw [hr', e]
  refine qhi (x := 45) (y := 84) (z := 45) (P := fun r => r = M.qbb i n) (by decide +kernel) (by decide +kernel) (by decide +kernel) rfl (by decide +kernel) (fun hn => by simp [M.qbb, M.qdD, hn]) fun hn => ?_
  simp only [M.qbb, M.qdD, hn, Bool.true_and]
  rw [if_neg (by omega), if_neg (by omega), if_neg (by omega), if_neg (by omega), if_neg (by omega), if_pos h]
  simp [M.qaJ]
 ·rw [hr', e]
  refine qhi (x := 82) (y := 82) (z := 82) (P := fun r => r = M.qbb i n) (by decide +kernel) (by decide +kernel) (by decide +kernel) rfl (by decide +kernel) (fun hn => by simp [M.qbb, M.qdD, hn]) fun hn => ?_
  simp only [M.qbb, M.qdD, hn, Bool.true_and]
  rw [if_neg (by omega), if_neg (by omega), if_neg (by omega), if_neg (by omega), if_neg (by omega), if_neg (by omega)]
  have : M.isIn i.Op 3 9 = true := by simp [M.isIn]; omega
  simp [M.qaJ, this]
theorem wp.qbF.math (i : D.Ins) (p : List D.Ins) : wp.qbF i p (fun r => r = M.qbF i p) := fun r hr => by rw [hr]; rfl
theorem wp.qac.math (l : List D.Ins) (g : D.Ins → Bool) (D : D.Ins → Prop) (h : M.qd4 l g D) : wp.qac l g D (fun r => r = M.qac l g) := by
 unfold wp.qac
 obtain ⟨h1, h2⟩ := h
 refine qcS l.length (fun k => ((k : Int), ())) (fun k => M.qac l g = M.qez g (l.drop k) k) rfl (by simp [M.qac]) (fun k hk hF next hn => ?_) fun hF next => ?_
 ·rw [qhx g l k hk] at hF
  refine qaH (by simp; omega) ⟨by omega, h2 _ (qgk hk), fun r hr => qa2 (fun e => ?_) fun e => ?_⟩
  ·rw [hF, if_pos (by rw [← hr]; exact e)]
  ·rw [up64 hk h1]
   exact hn (by rw [hF, if_neg (by rw [← hr, e]; simp)])
 ·refine qaA (by simp) ?_
  rw [hF]; simp [M.qez]
theorem wp.qad.math (l : List D.Ins) (g : D.Ins → Bool) (D : D.Ins → Prop) (h : M.qcH l g D) : wp.qad l g D (fun r => r = M.qad l g) :=
 ⟨h, fun r hr => by rw [hr]; exact qgg g l 0⟩
theorem wp.qbn.math (p : List D.Ins) (h : M.qej p) : wp.qbn p (fun r => r = M.qbn p) := by
 refine qa2 (fun e => ⟨⟨h, fun _ _ => trivial⟩, fun r hr => ?_⟩) fun e => ?_
 ·have h32 : p.length ≤ 32 := by simp at e; omega
  rw [hr]
  simp only [M.qad, M.qbn, M.qb6, M.qbF, ← List.all_eq_not_any_not, h32, decide_true, Bool.true_and]
 ·have h32 : ¬ p.length ≤ 32 := by simp at e; omega
  simp [M.qbn, M.qb6, h32]
theorem wp.qbW.math (a b : Int) : wp.qbW a b (fun r => r = M.qbW a b) := by
 intro r1 h1
 refine qa2 (fun e1 => ?_) fun e1 r2 h2 => qa2 (fun e2 => ?_) fun e2 r3 h3 => ?_
 ·have : M.isWord a = false := nt e1 h1
  simp [M.qbW, M.subW, this]
 ·have : M.isWord b = false := nt e2 h2
  simp [M.qbW, M.subW, this]
 ·have ha : M.isWord a = true := nf e1 h1
  have hb : M.isWord b = true := nf e2 h2
  have := qdR.1 ha
  have := qdR.1 hb
  rw [h3, w64 (by omega) (by omega)]
  simp [M.qbW, M.subW, M.qby, ha, hb]
theorem qls {a b : Int} (ha : 0 ≤ a ∧ a ≤ 65535) (hb : 0 ≤ b ∧ b ≤ 65535) : 0 ≤ a * b ∧ a * b ≤ 4294836225 :=
 ⟨Int.mul_nonneg ha.1 hb.1, by have := Int.mul_le_mul ha.2 hb.2 hb.1 (by omega : (0 : Int) ≤ 65535); omega⟩
theorem wp.qc9.math (a b : Int) : wp.qc9 a b (fun r => r = M.qc9 a b) := by
 intro r1 h1
 refine qa2 (fun e1 => ?_) fun e1 r2 h2 => qa2 (fun e2 => ?_) fun e2 r3 h3 => ?_
 ·have : M.isWord a = false := nt e1 h1
  simp [M.qc9, M.mulW, this]
 ·have : M.isWord b = false := nt e2 h2
  simp [M.qc9, M.mulW, this]
 ·have ha : M.isWord a = true := nf e1 h1
  have hb : M.isWord b = true := nf e2 h2
  have := qls (qdR.1 ha) (qdR.1 hb)
  rw [h3, w64 (by omega) (by omega)]
  simp [M.qc9, M.mulW, M.qby, ha, hb]
theorem wp.qbp.math (a b : Int) : wp.qbp a b (fun r => r = M.qbp a b) := by
 intro r1 h1
 refine qa2 (fun e1 r2 h2 => qa2 (fun e2 => qa2 (fun e3 => ?_) fun e3 => ?_) fun e2 => ?_) fun e1 => ?_
 ·have ha : M.isWord a = true := h1.symm.trans e1
  have hb : M.isWord b = true := h2.symm.trans e2
  simp at e3; simp [M.qbp, M.qkT, ha, hb, e3]
 ·simp at e3; simp [M.qbp, M.qkT]; omega
 ·have hb : M.isWord b = false := h2.symm.trans e2
  simp [M.qbp, M.qkT, hb]
 ·have ha : M.isWord a = false := h1.symm.trans e1
  simp [M.qbp, M.qkT, ha]
theorem wp.qcm.math (a b : Int) : wp.qcm a b (fun r => r = M.qcm a b) := wp.qbp.math a b
theorem wp.qcv.math (a b : Int) : wp.qcv a b (fun r => r = M.qcv a b) := by
 intro r hr
 rw [hr]
 simp only [M.qbs, M.qcv, M.subW]
 by_cases h : (M.isWord a && M.isWord b) = true
 ·rw [if_pos h, if_pos h]
  simp only [Bool.and_eq_true, qdR] at h
  rw [w64 (by omega) (by omega)]
 ·rw [if_neg h, if_neg h]
theorem wp.qct.math (a b : Int) : wp.qct a b (fun r => r = M.qct a b) := by
 intro r hr
 rw [hr]
 simp only [M.qbs, M.qct, M.mulW]
 by_cases h : (M.isWord a && M.isWord b) = true
 ·rw [if_pos h, if_pos h]
  simp only [Bool.and_eq_true, qdR] at h
  have := qls h.1 h.2
  rw [w64 (by omega) (by omega)]
 ·rw [if_neg h, if_neg h]
theorem qgl {x : Int} : M.qgB x = true ↔ 0 ≤ x ∧ x ≤ 3 := by simp [M.qgB, M.isIn]
theorem qka {i : D.Ins} {r : List Int} (h : M.Fits i r) : r.length = 4 ∧ (1 ≤ i.Op ∧ i.Op ≤ 10 → 0 ≤ i.A ∧ i.A ≤ 3) ∧ (2 ≤ i.Op ∧ i.Op ≤ 7 ∨ i.Op = 9 → 0 ≤ i.B ∧ i.B ≤ 3) ∧ (3 ≤ i.Op ∧ i.Op ≤ 7 ∨ i.Op = 9 → 0 ≤ i.C ∧ i.C ≤ 3) := by
 obtain ⟨hl, n, hok⟩ := h
 simp only [M.qdD, Bool.and_eq_true] at hok
 have hok := hok.2
 split at hok
 ·exact ⟨hl, by omega, by omega, by omega⟩
 split at hok
 ·simp only [Bool.and_eq_true, qgl] at hok
  exact ⟨hl, fun _ => hok.1, by omega, by omega⟩
 split at hok
 ·simp only [Bool.and_eq_true, qgl] at hok
  exact ⟨hl, fun _ => hok.1, fun _ => hok.2.1, by omega⟩
 split at hok
 ·simp only [Bool.and_eq_true, qgl] at hok
  exact ⟨hl, fun _ => hok.1, by omega, by omega⟩
 split at hok
 ·simp only [Bool.and_eq_true, qgl] at hok
  exact ⟨hl, fun _ => hok.1, by omega, by omega⟩
 split at hok
 ·exact ⟨hl, by omega, by omega, by omega⟩
 ·simp only [Bool.and_eq_true, qgl] at hok
  exact ⟨hl, fun _ => hok.2.1, fun _ => hok.2.2.1, fun _ => hok.2.2.2⟩
theorem qdf {r : List Int} {x : Int} (hl : r.length = 4) (h : 0 ≤ x ∧ x ≤ 3) : 0 ≤ x ∧ x < (r.length : Int) := by omega
theorem wp.qb7.math (i : D.Ins) (t : Int) (r : List Int) (h : M.qg3 i t r) : wp.qb7 i t r (fun x => x = M.qb7 i t r) := by
 obtain ⟨hl, hA, hB, hC⟩ := qka h
 simp only [wp.qb7, List.nil_append, List.length_nil, forall_eq]
 refine ⟨by omega, ?_⟩
 refine qa2 (fun e => ?_) fun n1 => qa2 (fun e => ?_) fun n2 => qa2 (fun e => ?_) fun n3 => qa2 (fun e => ?_) fun n4 => qa2 (fun e => ?_) fun n5 => qa2 (fun e => ?_) fun n6 => qa2 (fun e => ?_) fun n7 => qa2 (fun e => ?_) fun n8 => qa2 (fun e => ?_) fun n9 => ?_
 ·have hk : i.Op = 1 := by simpa using e
  exact ⟨qdf hl (hA (by omega)), by simp [M.qb7, M.apply, hk]⟩
 ·have hk : i.Op = 2 := by simpa using e
  exact ⟨qdf hl (hB (by omega)), qdf hl (hA (by omega)), by simp [M.qb7, M.apply, hk]⟩
 ·have hk : i.Op = 3 := by simpa using e
  exact ⟨qdf hl (hB (by omega)), qdf hl (hC (by omega)), qdf hl (hA (by omega)), by simp [M.qb7, M.apply, hk, M.qbA, M.qc0]⟩
 ·have hk : i.Op = 4 := by simpa using e
  exact ⟨qdf hl (hB (by omega)), qdf hl (hC (by omega)), qdf hl (hA (by omega)), by simp [M.qb7, M.apply, hk, M.qbW, M.qcv]⟩
 ·have hk : i.Op = 5 := by simpa using e
  exact ⟨qdf hl (hB (by omega)), qdf hl (hC (by omega)), qdf hl (hA (by omega)), by simp [M.qb7, M.apply, hk, M.qc9, M.qct]⟩
 ·have hk : i.Op = 6 := by simpa using e
  exact ⟨qdf hl (hB (by omega)), qdf hl (hC (by omega)), qdf hl (hA (by omega)), by simp [M.qb7, M.apply, hk]⟩
 ·have hk : i.Op = 7 := by simpa using e
  exact ⟨qdf hl (hB (by omega)), qdf hl (hC (by omega)), qdf hl (hA (by omega)), by simp [M.qb7, M.apply, hk, M.qbp, M.qcm]⟩
 ·have hk : i.Op = 8 := by simpa using e
  exact ⟨qdf hl (hA (by omega)), by simp [M.qb7, M.apply, hk]⟩
 ·have hk : i.Op = 9 := by simpa using e
  refine ⟨qdf hl (hC (by omega)), qa2 (fun e2 => ⟨qdf hl (hB (by omega)), qdf hl (hA (by omega)), ?_⟩) fun e2 => ?_⟩
  ·have h2 : ¬ rd r i.C = 0 := by simpa using e2
   simp [M.qb7, M.apply, hk, h2]
  ·have h2 : rd r i.C = 0 := by simpa using e2
   simp [M.qb7, M.apply, hk, h2]
 ·simp at n1 n2 n3 n4 n5 n6 n7 n8 n9
  simp [M.qb7, M.apply, n1, n2, n3, n4, n5, n6, n7, n8, n9]
theorem qke {α : Type} [Inhabited α] {xs : List α} {i : Int} (h0 : 0 ≤ i) (h1 : i < (xs.length : Int)) : rd xs i ∈ xs := by
 obtain ⟨k, rfl⟩ := Int.eq_ofNat_of_zero_le h0
 exact qgk (by omega)
theorem qin (i : D.Ins) (t : Int) (r : List Int) : (M.apply i t r).length = r.length := by
 unfold M.apply
 (repeat' split) <;> simp
end Go.V
namespace Go.V
open IntKind (wrap)
def wp.qbD (b : Int) (Q : Bool → Prop) : Prop :=
 (∀ a, a = M.qar b 0 2 → Q a)
def wp.qaX (b : List Int) (c : Int) (Q : Int → Prop) : Prop :=
 qcX (σ := Int × Unit) (fun (d : Int × Unit) e => match d with | (a, _) => qa1 (decide (a < (b.length : Int))) (((0 ≤ a ∧ a < (b.length : Int)) ∧ qa1 (c == (rd b a)) (Q a) (e ((wrap .i64 (a + 1)), ())))) (Q (-1))) (0, ())
def wp.qb5 (a : List Int) (b : Int) (Q : Bool → Prop) : Prop :=
 (M.qes a b ∧ ∀ c, c = M.qaX a b → Q (decide (c ≥ 0)))
end Go.V
namespace Go.V
open IntKind (wrap)
theorem wp.qbD.math (x : Int) : wp.qbD x (fun r => r = M.qbD x) := fun r hr => hr
theorem wp.qaX.math (l : List Int) (x : Int) (h : M.qes l x) : wp.qaX l x (fun r => r = M.qaX l x) := by
 unfold wp.qaX
 refine qcS l.length (fun k => ((k : Int), ())) (fun k => M.qaX l x = M.qez (fun y => x == y) (l.drop k) k) rfl (by simp [M.qaX]) (fun k hk hF next hn => ?_) fun hF next => ?_
 ·rw [qhx _ l k hk] at hF
  refine qaH (by simp; omega) ⟨by omega, qa2 (fun e => ?_) fun e => ?_⟩
  ·rw [hF, if_pos e]
  ·rw [up64 hk h]
   exact hn (by rw [hF, if_neg (by rw [e]; simp)])
 ·refine qaA (by simp) ?_
  rw [hF]; simp [M.qez]
theorem wp.qb5.math (l : List Int) (x : Int) (h : M.qeb l x) : wp.qb5 l x (fun r => r = M.qb5 l x) :=
 ⟨h, fun r hr => by rw [hr]; exact qgg _ l 0⟩
end Go.V
namespace Go.V
open IntKind (wrap)
def wp.qb9 (a : List Int) (Q : D.Cur → Prop) : Prop :=
 qcX (σ := Int × Int × Unit) (fun (d : Int × Int × Unit) e => match d with | (c, b, _) => qa1 (decide (b < (a.length : Int))) (qa1 (decide (b < 4000)) (((0 ≤ b ∧ b < (a.length : Int)) ∧ e ((qdQ .i64 (wrap .i64 ((wrap .i64 ((wrap .i64 (c * 131)) + (wrap .i64 (rd a b)))) + 7)) 1073741823), (wrap .i64 (b + 1)), ()))) (Q (⟨a, 0, c⟩ : D.Cur))) (Q (⟨a, 0, c⟩ : D.Cur))) ((wrap .i64 (98561 + (a.length : Int))), 0, ())
def wp.qah (a : D.Cur) (Q : (Int × D.Cur) → Prop) : Prop :=
 qa1 (decide (a.i < (a.b.length : Int))) (((0 ≤ a.i ∧ a.i < (a.b.length : Int)) ∧ Q ((qdQ .i64 (wrap .i64 ((qdQ .i64 (qgY .i64 (Int.fdiv (wrap .i64 ((wrap .i64 (a.h * 6364136223846793005)) + 1442695040888963407)) (2 ^ (min ((33 : Int).toNat) (IntKind.bits .i64)))) (Int.fdiv (wrap .i64 ((wrap .i64 (a.h * 6364136223846793005)) + 1442695040888963407)) (2 ^ (min ((45 : Int).toNat) (IntKind.bits .i64))))) 255) + (wrap .i64 (rd a.b a.i)))) 255), (⟨a.b, (wrap .i64 (a.i + 1)), (wrap .i64 ((wrap .i64 (a.h * 6364136223846793005)) + 1442695040888963407))⟩ : D.Cur)))) (Q ((qdQ .i64 (qgY .i64 (Int.fdiv (wrap .i64 ((wrap .i64 (a.h * 6364136223846793005)) + 1442695040888963407)) (2 ^ (min ((33 : Int).toNat) (IntKind.bits .i64)))) (Int.fdiv (wrap .i64 ((wrap .i64 (a.h * 6364136223846793005)) + 1442695040888963407)) (2 ^ (min ((45 : Int).toNat) (IntKind.bits .i64))))) 255), (⟨a.b, a.i, (wrap .i64 ((wrap .i64 (a.h * 6364136223846793005)) + 1442695040888963407))⟩ : D.Cur)))
def wp.qa0 (a : D.Cur) (c : Int) (Q : (Int × D.Cur) → Prop) : Prop :=
 qa1 (decide (c ≤ 0)) (Q (0, (⟨a.b, a.i, a.h⟩ : D.Cur))) (qa1 (decide (c ≤ 256)) ((M.qdW a ∧ ∀ g, g = M.qah a → (((c : Int) ≠ 0) ∧ Q ((Int.tmod g.1 c), (⟨a.b, g.2.i, g.2.h⟩ : D.Cur))))) ((M.qdW a ∧ ∀ d, d = M.qah a → (M.qdW (⟨a.b, d.2.i, d.2.h⟩ : D.Cur) ∧ ∀ e, e = M.qah (⟨a.b, d.2.i, d.2.h⟩ : D.Cur) → (M.qdW (⟨a.b, e.2.i, e.2.h⟩ : D.Cur) ∧ ∀ f, f = M.qah (⟨a.b, e.2.i, e.2.h⟩ : D.Cur) → (M.qdW (⟨a.b, f.2.i, f.2.h⟩ : D.Cur) ∧ ∀ j, j = M.qah (⟨a.b, f.2.i, f.2.h⟩ : D.Cur) → (((c : Int) ≠ 0) ∧ Q ((Int.tmod (wrap .i64 ((wrap .i64 ((wrap .i64 ((wrap .i64 (d.1 * 16777216)) + (wrap .i64 (e.1 * 65536)))) + (wrap .i64 (f.1 * 256)))) + j.1)) c), (⟨a.b, j.2.i, j.2.h⟩ : D.Cur)))))))))
def wp.qau (d : D.Cur) (c : List Int) (Q : (Int × D.Cur) → Prop) : Prop :=
 (M.qav d (c.length : Int) ∧ ∀ a, a = M.qa0 d (c.length : Int) → ((0 ≤ a.1 ∧ a.1 < (c.length : Int)) ∧ Q ((rd c a.1), (⟨d.b, a.2.i, a.2.h⟩ : D.Cur))))
def wp.qaG (c : D.Cur) (Q : (D.Ins × D.Cur) → Prop) : Prop :=
 (M.qav c 9 ∧ ∀ d, d = M.qa0 c 9 → (M.qav (⟨c.b, d.2.i, d.2.h⟩ : D.Cur) 4 ∧ ∀ a, a = M.qa0 (⟨c.b, d.2.i, d.2.h⟩ : D.Cur) 4 → qa1 ((wrap .i64 (1 + d.1)) == 1) ((M.qav (⟨c.b, a.2.i, a.2.h⟩ : D.Cur) 6 ∧ ∀ f, f = M.qa0 (⟨c.b, a.2.i, a.2.h⟩ : D.Cur) 6 → Q ((⟨(wrap .i64 (1 + d.1)), a.1, f.1, 0⟩ : D.Ins), (⟨c.b, f.2.i, f.2.h⟩ : D.Cur)))) (qa1 ((wrap .i64 (1 + d.1)) == 8) (Q ((⟨(wrap .i64 (1 + d.1)), a.1, 0, 0⟩ : D.Ins), (⟨c.b, a.2.i, a.2.h⟩ : D.Cur))) (qa1 ((wrap .i64 (1 + d.1)) == 2) ((M.qav (⟨c.b, a.2.i, a.2.h⟩ : D.Cur) 4 ∧ ∀ g, g = M.qa0 (⟨c.b, a.2.i, a.2.h⟩ : D.Cur) 4 → Q ((⟨(wrap .i64 (1 + d.1)), a.1, g.1, 0⟩ : D.Ins), (⟨c.b, g.2.i, g.2.h⟩ : D.Cur)))) ((M.qav (⟨c.b, a.2.i, a.2.h⟩ : D.Cur) 4 ∧ ∀ e, e = M.qa0 (⟨c.b, a.2.i, a.2.h⟩ : D.Cur) 4 → (M.qav (⟨c.b, e.2.i, e.2.h⟩ : D.Cur) 4 ∧ ∀ j, j = M.qa0 (⟨c.b, e.2.i, e.2.h⟩ : D.Cur) 4 → Q ((⟨(wrap .i64 (1 + d.1)), a.1, e.1, j.1⟩ : D.Ins), (⟨c.b, j.2.i, j.2.h⟩ : D.Cur)))))))))
def wp.qbZ (a : D.Cur) (Q : (Int × D.Cur) → Prop) : Prop :=
 (M.qav a 9 ∧ ∀ c, c = M.qa0 a 9 → (M.qav (⟨a.b, c.2.i, c.2.h⟩ : D.Cur) 9000 ∧ ∀ d, d = M.qa0 (⟨a.b, c.2.i, c.2.h⟩ : D.Cur) 9000 → (M.qef (⟨a.b, d.2.i, d.2.h⟩ : D.Cur) ([0, 1, 2, 7, 100, 65535, 32768, c.1, d.1] : List Int) ∧ ∀ e, e = M.qau (⟨a.b, d.2.i, d.2.h⟩ : D.Cur) ([0, 1, 2, 7, 100, 65535, 32768, c.1, d.1] : List Int) → Q (e.1, (⟨a.b, e.2.i, e.2.h⟩ : D.Cur)))))
def wp.qbu (a : D.Cur) (j : Int) (Q : ((List Int) × D.Cur) → Prop) : Prop :=
 qcX (σ := (List Int) × Int × Int × Int × Unit) (fun (k : (List Int) × Int × Int × Int × Unit) l => match k with | (d, g, e, f, _) => qa1 (decide (g < j)) ((M.qgy (⟨a.b, e, f⟩ : D.Cur) ∧ ∀ c, c = M.qbZ (⟨a.b, e, f⟩ : D.Cur) → ((d.length + ([c.1] : List Int).length ≤ 17179869184) ∧ l ((d ++ ([c.1] : List Int)), (wrap .i64 (g + 1)), c.2.i, c.2.h, ())))) (Q (d, (⟨a.b, e, f⟩ : D.Cur)))) (([] : List Int), 0, a.i, a.h, ())
def wp.qbq (b : List Int) (Q : (List Int) → Prop) : Prop :=
 (M.qfC b ∧ ∀ c, c = M.qb9 b → qcX (σ := (List Int) × Int × Int × Int × Unit) (fun (j : (List Int) × Int × Int × Int × Unit) k => match j with | (d, e, f, g, _) => qa1 (decide (e < 12)) ((M.qav (⟨b, f, g⟩ : D.Cur) 10000 ∧ ∀ a, a = M.qa0 (⟨b, f, g⟩ : D.Cur) 10000 → ((d.length + ([a.1] : List Int).length ≤ 17179869184) ∧ k ((d ++ ([a.1] : List Int)), (wrap .i64 (e + 1)), a.2.i, a.2.h, ())))) (Q d)) (([] : List Int), 0, c.i, c.h, ()))
def wp.qff (a : List Int) (Q : Bool → Prop) : Prop :=
 Q (decide ((a.length : Int) > 1048576))
end Go.V
namespace Go.V
open IntKind (wrap)
theorem qkz (x : Int) : qdQ .i64 x 255 = x % 256 := by
 unfold qdQ
 have e1 : (BitVec.ofInt (IntKind.bits .i64) x &&& BitVec.ofInt (IntKind.bits .i64) 255).toNat = (x % 256).toNat := by
  show (BitVec.ofInt 64 x &&& BitVec.ofInt 64 255).toNat = _
  rw [BitVec.toNat_and, BitVec.toNat_ofInt, show (BitVec.ofInt 64 255).toNat = 2 ^ 8 - 1 from rfl, Nat.and_two_pow_sub_one_eq_mod]
  rw [show ((2 ^ 64 : Nat) : Int) = 18446744073709551616 from rfl]
  omega
 rw [e1, w64 (by omega) (by omega)]
 omega
theorem qjF (c : D.Cur) : 0 ≤ (M.qah c).1 ∧ (M.qah c).1 ≤ 255 := by
 unfold M.qah
 split
 ·show 0 ≤ qdQ .i64 _ 255 ∧ qdQ .i64 _ 255 ≤ 255
  rw [qkz]; omega
 ·show 0 ≤ M.curX _ ∧ M.curX _ ≤ 255
  unfold M.curX
  rw [qkz]; omega
theorem qk6 (c : D.Cur) : (M.qah c).2.b = c.b := by unfold M.qah; split <;> rfl
theorem qhD {c : D.Cur} (h : M.qdN c) : M.qdN (M.qah c).2 := by
 obtain ⟨h1, h2⟩ := h
 refine ⟨?_, by rw [qk6]; exact h2⟩
 unfold M.Long at h2
 unfold M.qah
 split
 ·rename_i hlt
  show 0 ≤ wrap .i64 (c.i + 1)
  rw [w64 (by omega) (by omega)]; omega
 ·exact h1
theorem qco (c : D.Cur) (n : Int) : (M.qa0 c n).2.b = c.b := by
 unfold M.qa0
 (repeat' split) <;> simp only [qk6]
theorem qbx {c : D.Cur} (h : M.qdN c) (n : Int) : M.qdN (M.qa0 c n).2 := by
 unfold M.qa0
 split
 ·exact h
 split
 ·exact qhD h
 ·exact qhD (qhD (qhD (qhD h)))
theorem qmv {x n : Int} (hx : 0 ≤ x) (hn : 0 < n) : 0 ≤ Int.tmod x n ∧ Int.tmod x n < n :=
 ⟨Int.tmod_nonneg _ hx, Int.tmod_lt_of_pos _ hn⟩
theorem qdk (c : D.Cur) {n : Int} (hn : 0 < n) : 0 ≤ (M.qa0 c n).1 ∧ (M.qa0 c n).1 < n := by
 unfold M.qa0
 rw [if_neg (by omega)]
 split
 ·exact qmv (qjF c).1 hn
 ·refine qmv ?_ hn
  have h1 := qjF c
  have h2 := qjF (M.qah c).2
  have h3 := qjF (M.qah (M.qah c).2).2
  have h4 := qjF (M.qah (M.qah (M.qah c).2).2).2
  rw [w64 (x := (M.qah c).1 * 16777216) (by omega) (by omega), w64 (x := (M.qah (M.qah c).2).1 * 65536) (by omega) (by omega),
   w64 (x := (M.qah (M.qah (M.qah c).2).2).1 * 256) (by omega) (by omega), w64 (x := _ + (M.qah (M.qah c).2).1 * 65536) (by omega) (by omega),
   w64 (x := _ + (M.qah (M.qah (M.qah c).2).2).1 * 256) (by omega) (by omega), w64 (by omega) (by omega)]
  omega
set_option maxRecDepth 20000 in
theorem wp.qb9.math (b : List Int) (h : M.qfC b) : wp.qb9 b (fun r => r = M.qb9 b) := by
 unfold wp.qb9
 have hl : b.length ≤ 9223372036854775807 := h
 let h0 := wrap .i64 (98561 + (b.length : Int))
 refine qcS (min b.length 4000) (fun k => ((b.take k).foldl M.qmx h0, (k : Int), ())) (fun _ => True) rfl trivial (fun k hk _ next hn => ?_) fun _ next => ?_
 ·have hk1 : k < b.length := by omega
  have hn := hn trivial
  rw [List.take_add_one, List.getElem?_eq_getElem hk1, Option.toList_some, List.foldl_append] at hn
  refine qaH (by simp; omega) (qaH (by simp; omega) ⟨by omega, ?_⟩)
  rw [up64 hk1 hl, qcV hk1]
  exact hn
 ·have fin : (⟨b, 0, (b.take (min b.length 4000)).foldl M.qmx h0⟩ : D.Cur) = M.qb9 b := by
    unfold M.qb9
    congr 2
    rcases Nat.le_total b.length 4000 with g | g
    ·rw [Nat.min_eq_left g, List.take_length, List.take_of_length_le g]
    ·rw [Nat.min_eq_right g]
  by_cases g : b.length ≤ 4000
  ·exact qaA (by simp; omega) fin
  ·exact qaH (by simp; omega) (qaA (by simp; omega) fin)
theorem wp.qah.math (c : D.Cur) (h : M.qdW c) : wp.qah c (fun r => r = M.qah c) := by
 obtain ⟨h1, h2⟩ := h
 refine qa2 (fun e => ⟨⟨h1, by simpa using e⟩, ?_⟩) fun e => ?_
 ·have e : c.i < (c.b.length : Int) := by simpa using e
  unfold M.qah
  rw [if_pos e]; rfl
 ·have e : ¬ c.i < (c.b.length : Int) := by simpa using e
  unfold M.qah
  rw [if_neg e]; rfl
theorem qcx {c d : D.Cur} (h : d.b = c.b) : (⟨c.b, d.i, d.h⟩ : D.Cur) = d := by rw [← h]
theorem wp.qau.math (c : D.Cur) (l : List Int) (h : M.qef c l) : wp.qau c l (fun r => r = M.qau c l) := by
 obtain ⟨h1, h2, h3⟩ := h
 have hpos : (0 : Int) < (l.length : Int) := by have := List.length_pos_iff.2 h2; omega
 refine ⟨h1, fun r hr => ?_⟩
 have := qdk c hpos
 refine ⟨by rw [hr]; exact this, ?_⟩
 rw [hr, qcx (qco c _)]; rfl
theorem wp.qa0.math (c : D.Cur) (n : Int) (h : M.qav c n) : wp.qa0 c n (fun r => r = M.qa0 c n) := by
 refine qa2 (fun e => ?_) fun e => qa2 (fun e2 => ⟨h, fun r hr => ⟨?_, ?_⟩⟩) fun e2 => ?_
 ·have e : n ≤ 0 := by simpa using e
  unfold M.qa0; rw [if_pos e]
 ·simp at e; omega
 ·have e : ¬ n ≤ 0 := by simpa using e
  have e2 : n ≤ 256 := by simpa using e2
  unfold M.qa0; rw [if_neg e, if_pos e2, hr, qcx (qk6 c)]
 ·have e : ¬ n ≤ 0 := by simpa using e
  have e2 : ¬ n ≤ 256 := by simpa using e2
  have h1 := qhD h
  have h2 := qhD h1
  have h3 := qhD h2
  have b1 := qk6 c
  have b2 : (M.qah (M.qah c).2).2.b = c.b := (qk6 _).trans b1
  have b3 : (M.qah (M.qah (M.qah c).2).2).2.b = c.b := (qk6 _).trans b2
  have b4 : (M.qah (M.qah (M.qah (M.qah c).2).2).2).2.b = c.b := (qk6 _).trans b3
  refine ⟨h, fun r1 g1 => ?_⟩
  subst g1
  rw [qcx b1]
  refine ⟨h1, fun r2 g2 => ?_⟩
  subst g2
  rw [qcx b2]
  refine ⟨h2, fun r3 g3 => ?_⟩
  subst g3
  rw [qcx b3]
  refine ⟨h3, fun r4 g4 => ⟨by omega, ?_⟩⟩
  subst g4
  rw [qcx b4]
  unfold M.qa0; rw [if_neg e, if_neg e2]
theorem wp.qaG.math (c : D.Cur) (h : M.qeX c) : wp.qaG c (fun r => r = M.qaG c) := by
 refine ⟨h, fun r1 g1 => ?_⟩
 subst g1
 rw [qcx (qco c 9)]
 refine ⟨qbx h 9, fun r2 g2 => ?_⟩
 subst g2
 have b2 : (M.qa0 (M.qa0 c 9).2 4).2.b = c.b := (qco _ _).trans (qco _ _)
 have h2 := qbx (qbx h 9) 4
 rw [qcx b2]
 have cut : ∀ (n : Int), (⟨c.b, (M.qa0 (M.qa0 (M.qa0 c 9).2 4).2 n).2.i, (M.qa0 (M.qa0 (M.qa0 c 9).2 4).2 n).2.h⟩ : D.Cur) = (M.qa0 (M.qa0 (M.qa0 c 9).2 4).2 n).2 := fun n => qcx ((qco _ _).trans b2)
 refine qa2 (fun e => ⟨h2, fun r3 g3 => ?_⟩) fun e1 => qa2 (fun e => ?_) fun e8 => qa2 (fun e => ⟨h2, fun r3 g3 => ?_⟩) fun e2 => ⟨h2, fun r3 g3 => ?_⟩
 ·subst g3
  rw [cut]
  have e : wrap .i64 (1 + (M.qa0 c 9).1) = 1 := by simpa using e
  simp only [M.qaG]; rw [if_pos e]
 ·have e1 : ¬ wrap .i64 (1 + (M.qa0 c 9).1) = 1 := by simpa using e1
  have e : wrap .i64 (1 + (M.qa0 c 9).1) = 8 := by simpa using e
  simp only [M.qaG]; rw [if_neg e1, if_pos e]
 ·subst g3
  rw [cut]
  have e1 : ¬ wrap .i64 (1 + (M.qa0 c 9).1) = 1 := by simpa using e1
  have e8 : ¬ wrap .i64 (1 + (M.qa0 c 9).1) = 8 := by simpa using e8
  have e : wrap .i64 (1 + (M.qa0 c 9).1) = 2 := by simpa using e
  simp only [M.qaG]; rw [if_neg e1, if_neg e8, if_pos e]
 ·subst g3
  rw [cut]
  refine ⟨qbx h2 4, fun r4 g4 => ?_⟩
  subst g4
  rw [qcx ((qco _ _).trans ((qco _ _).trans b2))]
  have e1 : ¬ wrap .i64 (1 + (M.qa0 c 9).1) = 1 := by simpa using e1
  have e8 : ¬ wrap .i64 (1 + (M.qa0 c 9).1) = 8 := by simpa using e8
  have e2 : ¬ wrap .i64 (1 + (M.qa0 c 9).1) = 2 := by simpa using e2
  simp only [M.qaG]; rw [if_neg e1, if_neg e8, if_neg e2]
theorem qlG (c : D.Cur) (l : List Int) : (M.qau c l).2.b = c.b := qco _ _
theorem qlh {c : D.Cur} (h : M.qdN c) (l : List Int) : M.qdN (M.qau c l).2 := qbx h _
theorem qq6 (c : D.Cur) : (M.qbZ c).2.b = c.b := by
 simp only [M.qbZ]; rw [qlG, qco, qco]
theorem qpl {c : D.Cur} (h : M.qdN c) : M.qdN (M.qbZ c).2 := qlh (qbx (qbx h _) _) _
theorem wp.qbZ.math (c : D.Cur) (h : M.qgy c) : wp.qbZ c (fun r => r = M.qbZ c) := by
 refine ⟨h, fun r1 g1 => ?_⟩
 subst g1
 rw [qcx (qco c 9)]
 refine ⟨qbx h 9, fun r2 g2 => ?_⟩
 subst g2
 have b2 : (M.qa0 (M.qa0 c 9).2 9000).2.b = c.b := (qco _ _).trans (qco _ _)
 rw [qcx b2]
 refine ⟨⟨qbx (qbx h 9) 9000, by simp, by simp⟩, fun r3 g3 => ?_⟩
 subst g3
 rw [qcx ((qlG _ _).trans b2)]
 rfl
theorem qkM : ∀ (k : Nat) (c : D.Cur), (M.qh4 k c).2.b = c.b
 | 0, c => rfl
 | k + 1, c => by simp only [M.qh4]; rw [qq6, qkM k c]
theorem ql8 : ∀ (k : Nat) {c : D.Cur}, M.qdN c → M.qdN (M.qh4 k c).2
 | 0, c, h => h
 | k + 1, c, h => qpl (ql8 k h)
theorem qjL : ∀ (k : Nat) (c : D.Cur), (M.qh4 k c).1.length = k
 | 0, c => rfl
 | k + 1, c => by simp only [M.qh4, List.length_append, qjL k c]; rfl
theorem wp.qbu.math (c : D.Cur) (n : Int) (h : M.qg5 c n) : wp.qbu c n (fun r => r = M.qbu c n) := by
 obtain ⟨h1, h2, h3⟩ := h
 refine qcS n.toNat (fun k => ((M.qh4 k c).1, (k : Int), (M.qh4 k c).2.i, (M.qh4 k c).2.h, ())) (fun _ => True) rfl trivial (fun k hk _ next hn => ?_) fun _ next => ?_
 ·have hn := hn trivial
  refine qaH (by simp; omega) ?_
  rw [qcx (qkM k c)]
  refine ⟨ql8 k h1, fun r hr => ⟨by rw [qjL]; simp; omega, ?_⟩⟩
  subst hr
  rw [up64 (n := n.toNat) hk (by omega)]
  exact hn
 ·refine qaA (by simp; omega) ?_
  rw [qcx (qkM _ c)]; rfl
theorem qoA (c : D.Cur) (n : Int) : (M.qbu c n).2.b = c.b := qkM _ _
theorem wp.qff.math (b : List Int) : wp.qff b (fun r => r = M.qff b) := rfl
theorem qnV (c : D.Cur) : (M.qaG c).2.b = c.b := by
 simp only [M.qaG]
 (repeat' split) <;> simp only [qco]
theorem qmX {c : D.Cur} (h : M.qdN c) : M.qdN (M.qaG c).2 := by
 simp only [M.qaG]
 have h2 := qbx (qbx h 9) 4
 (repeat' split)
 ·exact qbx h2 _
 ·exact h2
 ·exact qbx h2 _
 ·exact qbx (qbx h2 _) _
theorem qmJ : ∀ (k : Nat) (c : D.Cur), (M.qeL k c).2.b = c.b
 | 0, c => rfl
 | k + 1, c => by simp only [M.qeL]; rw [qco, qmJ k c]
theorem qlU : ∀ (k : Nat) {c : D.Cur}, M.qdN c → M.qdN (M.qeL k c).2
 | 0, c, h => h
 | k + 1, c, h => qbx (qlU k h) _
theorem qhT : ∀ (k : Nat) (c : D.Cur), (M.qeL k c).1.length = k
 | 0, c => rfl
 | k + 1, c => by simp only [M.qeL, List.length_append, qhT k c]; rfl
theorem qoe {b : List Int} (h : M.Long b) : M.qdN (M.qb9 b) := ⟨by simp [M.qb9], h⟩
theorem wp.qbq.math (b : List Int) (h : M.qfr b) : wp.qbq b (fun r => r = M.qbq b) := by
 refine ⟨h, fun r0 g0 => ?_⟩
 subst g0
 refine qcS 12 (fun k => ((M.qeL k (M.qb9 b)).1, (k : Int), (M.qeL k (M.qb9 b)).2.i, (M.qeL k (M.qb9 b)).2.h, ())) (fun _ => True) rfl trivial (fun k hk _ next hn => ?_) fun _ next => ?_
 ·have hn := hn trivial
  refine qaH (by simp; omega) ?_
  have e : (⟨b, (M.qeL k (M.qb9 b)).2.i, (M.qeL k (M.qb9 b)).2.h⟩ : D.Cur) = (M.qeL k (M.qb9 b)).2 := qcx (c := M.qb9 b) (qmJ k _)
  rw [e]
  refine ⟨qlU k (qoe h), fun r hr => ⟨by rw [qhT]; simp; omega, ?_⟩⟩
  subst hr
  rw [up64 hk (by omega)]
  exact hn
 ·exact qaA (by simp) rfl
theorem qit (c : D.Cur) : M.qgB (M.qa0 c 4).1 = true := by
 have := qdk c (n := 4) (by omega)
 rw [qgl]; omega
theorem qnk (c : D.Cur) {n : Int} (hn : 0 ≤ n ∧ n ≤ 32) : M.qdD (M.qaG c).1 n = true ∧ M.qcy (M.qaG c).1 = true := by
 have h9 := qdk c (n := 9) (by omega)
 have hw : wrap .i64 (1 + (M.qa0 c 9).1) = 1 + (M.qa0 c 9).1 := w64 (by omega) (by omega)
 have hin : M.isIn n 0 32 = true := by simp [M.isIn]; omega
 have h6 := fun d : D.Cur => qdk d (n := 6) (by omega)
 have hw6 : ∀ d : D.Cur, M.isWord (M.qa0 d 6).1 = true := fun d => by rw [qdR]; have := h6 d; omega
 simp only [M.qaG, hw]
 generalize (M.qa0 c 9).1 = o at *
 split
 ·rename_i e
  refine ⟨?_, by simp [M.qcy, M.isIn]; omega⟩
  simp only [M.qdD, hin, Bool.true_and]
  rw [if_neg (by omega), if_pos (by omega)]
  simp [qit, hw6]
 split
 ·rename_i e
  refine ⟨?_, by simp [M.qcy, M.isIn]; omega⟩
  simp only [M.qdD, hin, Bool.true_and]
  rw [if_neg (by omega), if_neg (by omega), if_neg (by omega), if_pos (by omega)]
  simp [qit]
 split
 ·rename_i e
  refine ⟨?_, by simp [M.qcy, M.isIn]; omega⟩
  simp only [M.qdD, hin, Bool.true_and]
  rw [if_neg (by omega), if_neg (by omega), if_pos (by omega)]
  simp [qit]
 ·refine ⟨?_, by simp [M.qcy, M.isIn]; omega⟩
  simp only [M.qdD, hin, Bool.true_and]
  rw [if_neg (by omega), if_neg (by omega), if_neg (by omega), if_neg (by omega), if_neg (by omega), if_neg (by omega)]
  have : M.isIn (1 + o) 3 9 = true := by simp [M.isIn]; omega
  simp [qit, this]
theorem qnQ (c : D.Cur) : M.isWord (M.qbZ c).1 = true := by
 have h9 := qdk c (n := 9) (by omega)
 have h9000 := qdk (M.qa0 c 9).2 (n := 9000) (by omega)
 simp only [M.qbZ, M.qau]
 generalize (M.qa0 c 9).1 = a at *
 generalize M.qa0 (M.qa0 c 9).2 9000 = b at *
 have hi := qdk b.2 (n := (([0, 1, 2, 7, 100, 65535, 32768, a, b.1] : List Int).length : Int)) (by simp)
 have hm := qke hi.1 hi.2
 rw [qdR]
 generalize rd ([0, 1, 2, 7, 100, 65535, 32768, a, b.1] : List Int) _ = x at *
 simp only [List.mem_cons, List.not_mem_nil, or_false] at hm
 omega
theorem qkv : ∀ (k : Nat) (c : D.Cur), (M.qh4 k c).1.all M.isWord = true
 | 0, c => rfl
 | k + 1, c => by simp only [M.qh4, List.all_append, qkv k c, List.all_cons, List.all_nil, qnQ, Bool.and_self]
theorem qk7 : ∀ (k : Nat) (c : D.Cur), ∀ x ∈ (M.qeL k c).1, 0 ≤ x ∧ x < 10000
 | 0, c, x, hx => by simp [M.qeL] at hx
 | k + 1, c, x, hx => by
  simp only [M.qeL, List.mem_append, List.mem_singleton] at hx
  rcases hx with hx | rfl
  ·exact qk7 k c x hx
  ·exact qdk _ (by omega)
theorem qnv (a b : Int) : M.isWord (M.qkT a b) = true := by unfold M.qkT; split <;> rfl
theorem qi7 (c : Bool) (x : Int) : M.isWord (if c then x % 65536 else 0) = true := by split; exact qnt x; rfl
theorem qlM (a b : Int) : M.isWord (M.addW a b) = true := qi7 _ _
theorem qoq (a b : Int) : M.isWord (M.subW a b) = true := qi7 _ _
theorem qoh (a b : Int) : M.isWord (M.mulW a b) = true := qi7 _ _
theorem qnB {a b : Int} (ha : M.isWord a = true) (hb : M.isWord b = true) : M.isWord (qgY .i64 a b) = true := by
 rw [qdR] at *
 unfold qgY
 have e1 : (BitVec.ofInt (IntKind.bits .i64) a ^^^ BitVec.ofInt (IntKind.bits .i64) b).toNat = a.toNat ^^^ b.toNat := by
  show (BitVec.ofInt 64 a ^^^ BitVec.ofInt 64 b).toNat = _
  rw [BitVec.toNat_xor, BitVec.toNat_ofInt, BitVec.toNat_ofInt, show ((2 ^ 64 : Nat) : Int) = 18446744073709551616 from rfl]
  congr 1 <;> omega
 have e2 : a.toNat ^^^ b.toNat < 2 ^ 16 := Nat.xor_lt_two_pow (by omega) (by omega)
 rw [e1, w64 (by omega) (by omega)]
 omega
theorem qfL {r : List Int} (h : r.all M.isWord = true) (k : Nat) {x : Int} (hx : M.isWord x = true) : (r.set k x).all M.isWord = true := by
 rw [List.all_eq_true] at *
 intro y hy
 rcases List.mem_or_eq_of_mem_set hy with h' | rfl
 ·exact h y h'
 ·exact hx
theorem qmh {i : D.Ins} {n : Int} {t : Int} {r : List Int} (hok : M.qdD i n = true) (ht : 0 ≤ t ∧ t ≤ 23) (hl : r.length = 4) (h : r.all M.isWord = true) : (M.apply i t r).all M.isWord = true := by
 obtain ⟨_, hA, hB, hC⟩ := qka (i := i) (r := r) ⟨hl, n, hok⟩
 have hw := List.all_eq_true.1 h
 have rdw : ∀ x, 0 ≤ x ∧ x ≤ 3 → M.isWord (rd r x) = true := fun x hx => hw _ (qke hx.1 (by omega))
 unfold M.apply
 split
 ·rename_i e
  refine qfL h _ ?_
  simp only [M.qdD, Bool.and_eq_true] at hok
  have hok := hok.2
  rw [if_neg (by omega), if_pos e] at hok
  simp only [Bool.and_eq_true] at hok
  exact hok.2.1
 split
 ·exact qfL h _ (rdw _ (hB (by omega)))
 split
 ·exact qfL h _ (qlM _ _)
 split
 ·exact qfL h _ (qoq _ _)
 split
 ·exact qfL h _ (qoh _ _)
 split
 ·exact qfL h _ (qnB (rdw _ (hB (by omega))) (rdw _ (hC (by omega))))
 split
 ·exact qfL h _ (qnv _ _)
 split
 ·exact qfL h _ (qdR.2 (by omega))
 split
 ·split
  ·exact qfL h _ (rdw _ (hB (by omega)))
  ·exact h
 ·exact h
end Go.V
namespace Go.V
open IntKind (wrap)
theorem qpq {α : Type} [Inhabited α] [BEq α] [LawfulBEq α] {a b : List α} (ha : M.Long a) (hl : a.length = b.length) {B : (Int × Unit) → ((Int × Unit) → Prop) → Prop} {Q : Bool → Prop}
    (hb : ∀ (k : Nat) (next : (Int × Unit) → Prop), k < a.length → k < b.length → (rd a (k : Int) ≠ rd b (k : Int) → Q false) → (rd a (k : Int) = rd b (k : Int) → next (((k + 1 : Nat) : Int), ())) → B ((k : Int), ()) next)
    (he : ∀ (next : (Int × Unit) → Prop), a = b → B ((a.length : Int), ()) next) (hQ : a ≠ b → Q false) : qcX B (0, ()) := by
 refine qcS a.length (fun k => ((k : Int), ())) (fun k => ∀ j : Nat, j < k → rd a j = rd b j) rfl (by simp) (fun k hk hF next hn => ?_) fun hF next => ?_
 ·refine hb k next hk (by omega) (fun e => hQ (fun h => e (by rw [h]))) fun e => hn fun j hj => ?_
  by_cases hjk : j = k
  ·subst hjk; exact e
  ·exact hF j (by omega)
 ·exact he next (qm2 hl hF)
end Go.V
namespace Go.V
open IntKind (wrap)
def wp.qbV (b : Int) (Q : Bool → Prop) : Prop :=
 (∀ a, a = M.qar b 1 3 → Q a)
def wp.qbm (a : List Int) (Q : Bool → Prop) : Prop :=
 qa1 ((a.length : Int) == 32) ((M.qf2 a ∧ ∀ b, b = M.qbX a → Q b)) (Q false)
def wp.qch (a : List Int) (Q : Bool → Prop) : Prop :=
 Q ((a.length : Int) == 32)
def wp.qcb (a : List D.Frame) (c : Int) (Q : Bool → Prop) : Prop :=
 qcX (σ := Int × Unit) (fun (g : Int × Unit) h => match g with | (b, _) => qa1 (decide (b < (a.length : Int))) (((0 ≤ b ∧ b < (a.length : Int)) ∧ (∀ d, d = M.qar ((rd a b).Pc) 0 c → qa1 (!d) (Q false) ((∀ e, e = M.qar ((rd a b).Stop) 0 c → qa1 (!e) (Q false) ((∀ f, f = M.qdl ((rd a b).Mask) → qa1 (!f) (Q false) (qa1 ((rd a b).Mask == 0) (Q false) (h ((wrap .i64 (b + 1)), ())))))))))) (qa1 ((a.length : Int) == 0) (Q true) (((0 ≤ (wrap .i64 ((a.length : Int) - 1)) ∧ (wrap .i64 ((a.length : Int) - 1)) < (a.length : Int)) ∧ qa1 (decide ((a.length : Int) ≤ 24)) (qa1 ((rd a (wrap .i64 ((a.length : Int) - 1))).Pc != (rd a (wrap .i64 ((a.length : Int) - 1))).Stop) (qa1 ((rd a (wrap .i64 ((a.length : Int) - 1))).Pc != c) (((0 ≤ (0 : Int) ∧ (0 : Int) < (a.length : Int)) ∧ qa1 ((rd a 0).Stop == c) (((0 ≤ (0 : Int) ∧ (0 : Int) < (a.length : Int)) ∧ Q ((rd a 0).Mask == 255))) (Q false))) (Q false)) (Q false)) (Q false))))) (0, ())
def wp.qcK (b : List D.Ins) (a : D.Warp) (Q : Bool → Prop) : Prop :=
 (∀ c, c = M.qbD a.Number → qa1 c ((∀ d, d = M.qch a.Regs → qa1 d ((M.qf2 a.Regs ∧ ∀ e, e = M.qbX a.Regs → qa1 e ((M.qfy a.Frames (b.length : Int) ∧ ∀ f, f = M.qcb a.Frames (b.length : Int) → Q f)) (Q false))) (Q false))) (Q false))
def wp.qcW (a : D.Block) (Q : Bool → Prop) : Prop :=
 (M.qej a.Code ∧ ∀ c, c = M.qbn a.Code → qa1 (!c) (Q false) ((∀ d, d = M.qbV (a.Warps.length : Int) → qa1 (!d) (Q false) ((M.qfW a.Memory ∧ ∀ e, e = M.qbm a.Memory → qa1 (!e) (Q false) (((0 ≤ (a.Warps.length : Int)) ∧ (∀ f, f = M.qar a.Waiting 0 (wrap .i64 ((wrap .i64 (1 * 2 ^ (min ((a.Warps.length : Int).toNat) (IntKind.bits .i64)))) - 2)) → qa1 (!f) (Q false) ((∀ g, g = M.qar a.Phase 0 100000 → qa1 (!g) (Q false) (qcX (σ := Int × Unit) (fun (i : Int × Unit) j => match i with | (b, _) => qa1 (decide (b < (a.Warps.length : Int))) (((0 ≤ b ∧ b < (a.Warps.length : Int)) ∧ qa1 ((rd a.Warps b).Number != b) (Q false) ((M.qfY a.Code (rd a.Warps b) ∧ ∀ h, h = M.qcK a.Code (rd a.Warps b) → qa1 (!h) (Q false) (j ((wrap .i64 (b + 1)), ())))))) (Q true)) (0, ()))))))))))))
def wp.qbI (b : D.Block) (a : Int) (Q : Bool → Prop) : Prop :=
 ((0 ≤ a) ∧ Q ((qdQ .i64 (Int.fdiv b.Waiting (2 ^ (min (a.toNat) (IntKind.bits .i64)))) 1) == 1))
end Go.V
namespace Go.V
open IntKind (wrap)
theorem qdx {n : Nat} (h : n ≤ 9223372036854775807) : wrap .i64 ((n : Int) - 1) = (n : Int) - 1 := w64 (by omega) (by omega)
theorem qh5 {fs : List D.Frame} {n : Int} {k : Nat} (hk : k < fs.length) (h : M.qem n (rd fs (k : Int)) = false) : M.qee fs n = false := by
 have := all_false (g := M.qem n) hk h
 simp [M.qee, this]
theorem wp.qcb.math (fs : List D.Frame) (n : Int) (h : M.qfy fs n) : wp.qcb fs n (fun r => r = M.qcb fs n) := by
 unfold wp.qcb
 have hl : fs.length ≤ 9223372036854775807 := h
 refine qmZ (g := M.qem n) (Q := fun r => r = M.qee fs n) h (fun k next hk h1 h2 => ?_) (fun next ha => ?_) fun ha => by simp [M.qee, ha]
 ·refine qaH (by simp; omega) ⟨by omega, fun r hr => qa2 (fun e => ?_) fun e r2 hr2 => qa2 (fun e2 => ?_) fun e2 r3 hr3 => qa2 (fun e3 => ?_) fun e3 => qa2 (fun e4 => ?_) fun e4 => ?_⟩
  all_goals simp only [M.qar, M.qdl] at *
  ·have := nt e hr
   exact (qh5 hk (by simp [M.qem, this])).symm
  ·have := nt e2 hr2
   exact (qh5 hk (by simp [M.qem, this])).symm
  ·have := nt e3 hr3
   exact (qh5 hk (by simp [M.qem, this])).symm
  ·have e4 : (rd fs (k : Int)).Mask = 0 := by simpa using e4
   exact (qh5 hk (by simp [M.qem, e4])).symm
  ·rw [up64 hk h]
   refine h2 ?_
   have e4 : (rd fs (k : Int)).Mask ≠ 0 := by simpa using e4
   simp [M.qem, nf e hr, nf e2 hr2, nf e3 hr3, e4]
 ·refine qaA (by simp) (qa2 (fun e => ?_) fun e => ?_)
  ·have : fs = [] := by simpa using e
   subst this; rfl
  have h0 : fs ≠ [] := by rintro rfl; simp at e
  have hpos : 0 < fs.length := List.length_pos_iff.2 h0
  have hA : M.qee fs n = M.qig fs n := by
   have : fs.isEmpty = false := by simpa using h0
   simp [M.qee, ha, this]
  show _
  simp only [M.qcb, hA, qdx hl]
  refine ⟨by omega, qa2 (fun e1 => qa2 (fun e2 => qa2 (fun e3 => ⟨by omega, qa2 (fun e4 => ⟨by omega, ?_⟩) fun e4 => ?_⟩) fun e3 => ?_) fun e2 => ?_) fun e1 => ?_⟩
  all_goals simp only [M.qig]
  all_goals change _ = (_ && ((rd fs ((fs.length : Int) - 1)).Pc != (rd fs ((fs.length : Int) - 1)).Stop && ((rd fs ((fs.length : Int) - 1)).Pc != n && _)))
  ·have e1 : fs.length ≤ 24 := by simp at e1; omega
   rw [e2, e3, e4]; simp [e1]
  ·rw [e4]; simp
  ·rw [e3]; simp
  ·rw [e2]; simp
  ·have e1 : ¬ fs.length ≤ 24 := by simp at e1; omega
   simp [e1]
theorem lenE {r : List Int} : ((r.length : Int) == 32) = (r.length == 32) := by
 rw [Bool.eq_iff_iff]; simp; omega
theorem wp.qch.math (r : List Int) : wp.qch r (fun x => x = M.qch r) := lenE
theorem wp.qbV.math (n : Int) : wp.qbV n (fun x => x = M.qbV n) := fun r hr => hr
theorem wp.qbm.math (m : List Int) (h : M.qfW m) : wp.qbm m (fun x => x = M.qbm m) := by
 refine qa2 (fun e => ⟨h, fun r hr => ?_⟩) fun e => ?_
 ·have : m.length = 32 := by simp at e; omega
  rw [hr]; simp [M.qbm, this, M.qbX]
 ·have : ¬ m.length = 32 := by simp at e; omega
  simp [M.qbm, this]
theorem wp.qcK.math (p : List D.Ins) (x : D.Warp) (h : M.qfY p x) : wp.qcK p x (fun r => r = M.qcK p x) := by
 obtain ⟨h1, h2⟩ := h
 refine fun r hr => qa2 (fun e r2 hr2 => qa2 (fun e2 => ⟨h2, fun r3 hr3 => qa2 (fun e3 => ⟨h1, fun r4 hr4 => ?_⟩) fun e3 => ?_⟩) fun e2 => ?_) fun e => ?_
 all_goals try simp only [M.qbD, M.qch, M.qbX, M.qcb, M.qcK, M.qfS] at *
 ·subst hr hr2 hr3 hr4; simp [e, e2, e3]
 ·subst hr hr2 hr3; simp [e, e2, e3]
 ·subst hr hr2; simp [e, e2]
 ·subst hr; simp [e]
theorem lenB {r : List Int} : ((r.length : Int) != 32) = !(r.length == 32) := by rw [← lenE]; rfl
theorem qnn (p : List D.Ins) (l : List D.Warp) (k : Nat) (hk : k < l.length) : M.qdy p k (l.drop k) = (M.qh1 p k (rd l (k : Int)) && M.qdy p (k + 1) (l.drop (k + 1))) := by
 rw [List.drop_eq_getElem_cons hk, qcV hk]; rfl
theorem qnb {p : List D.Ins} {l : List D.Warp} (hl : M.Long l) {B : (Int × Unit) → ((Int × Unit) → Prop) → Prop}
    (hb : ∀ (k : Nat) (next : (Int × Unit) → Prop), k < l.length → (M.qh1 p k (rd l (k : Int)) = false → false = M.qdy p 0 l) → (M.qh1 p k (rd l (k : Int)) = true → next (((k + 1 : Nat) : Int), ())) → B ((k : Int), ()) next)
    (he : ∀ (next : (Int × Unit) → Prop), true = M.qdy p 0 l → B ((l.length : Int), ()) next) : qcX B (0, ()) := by
 refine qcS l.length (fun k => ((k : Int), ())) (fun k => M.qdy p 0 l = M.qdy p k (l.drop k)) rfl rfl (fun k hk hF next hn => ?_) fun hF next => ?_
 ·rw [qnn p l k hk] at hF
  refine hb k next hk (fun e => by rw [hF, e]; rfl) fun e => hn (by rw [hF, e]; rfl)
 ·refine he next ?_
  rw [hF, List.drop_length]; rfl
theorem wp.qcW.math (b : D.Block) (h : M.qfg b) : wp.qcW b (fun r => r = M.qcW b) := by
 obtain ⟨h1, ⟨h2, hW⟩, h3⟩ := h
 refine ⟨h1, fun r hr => qa2 (fun e => ?_) fun e r2 hr2 => qa2 (fun e2 => ?_) fun e2 => ⟨h3, fun r4 hr4 => qa2 (fun e4 => ?_) fun e4 => ⟨by omega, fun r5 hr5 => qa2 (fun e5 => ?_) fun e5 r6 hr6 => qa2 (fun e6 => ?_) fun e6 => ?_⟩⟩⟩
 all_goals simp only [M.qbn, M.qbV, M.qar] at *
 all_goals simp only [M.qcW, M.qdE]
 ·rw [nt e hr]; rfl
 ·rw [nt e2 hr2]; simp
 ·rw [nt e4 hr4]; simp
 ·have := nt e5 hr5
  unfold M.qhJ; rw [this]; simp
 ·rw [nt e6 hr6]; simp
 have h5 := nf e5 hr5
 unfold M.qhJ
 rw [nf e hr, nf e2 hr2, nf e4 hr4, h5, nf e6 hr6]
 simp only [Bool.true_and]
 refine qnb h2 (fun k next hk g1 g2 => ?_) fun next hh => qaA (by simp) hh
 refine qaH (by simp; omega) ⟨by omega, qa2 (fun e2 => ?_) fun e2 => ⟨hW _ (qgk hk), fun r hr => qa2 (fun e => ?_) fun e => ?_⟩⟩
 all_goals simp only [M.qcK] at *
 ·have e2 : (rd b.Warps (k : Int)).Number ≠ (k : Int) := by simpa using e2
  exact g1 (by simp [M.qh1, e2])
 ·exact g1 (by simp [M.qh1, nt e hr])
 ·have e2 : (rd b.Warps (k : Int)).Number = (k : Int) := by simpa using e2
  rw [up64 hk h2]; exact g2 (by simp [M.qh1, e2, nf e hr])
theorem wp.qbI.math (b : D.Block) (w : Int) (h : M.qeq b w) : wp.qbI b w (fun r => r = M.qbI b w) := ⟨h, rfl⟩
theorem qpT {b : D.Block} {w : Int} (hb : M.Long b.Warps) (h : M.ql3 b w = true) : 0 ≤ w ∧ w < (b.Warps.length : Int) ∧ M.qdE b = true := by
 have hl : b.Warps.length ≤ 9223372036854775807 := hb
 simp only [M.ql3, Bool.and_eq_true, M.isIn, decide_eq_true_eq, qdx hl] at h
 exact ⟨h.2.1, by omega, h.1⟩
theorem qkE {b : D.Block} (h : M.qo1 b) : M.qll b := by
 obtain ⟨h1, ⟨h2, h3⟩, h4⟩ := h
 unfold M.qll M.qo7 M.qow M.Long
 exact ⟨by omega, ⟨by omega, fun x hx => by have := h3 x hx; unfold M.qmF at this; omega⟩, by omega⟩
end Go.V
namespace Go.V
open IntKind (wrap)
def wp.qcs (a : D.Block) (b : Int) (Q : D.Ins → Prop) : Prop :=
 ((0 ≤ b ∧ b < (a.Warps.length : Int)) ∧ ((0 ≤ (wrap .i64 (((rd a.Warps b).Frames.length : Int) - 1)) ∧ (wrap .i64 (((rd a.Warps b).Frames.length : Int) - 1)) < (((rd a.Warps b).Frames).length : Int)) ∧ ((0 ≤ (rd ((rd a.Warps b).Frames) (wrap .i64 (((rd a.Warps b).Frames.length : Int) - 1))).Pc ∧ (rd ((rd a.Warps b).Frames) (wrap .i64 (((rd a.Warps b).Frames.length : Int) - 1))).Pc < (a.Code.length : Int)) ∧ Q (⟨(rd a.Code ((rd ((rd a.Warps b).Frames) (wrap .i64 (((rd a.Warps b).Frames.length : Int) - 1))).Pc)).Op, (rd a.Code ((rd ((rd a.Warps b).Frames) (wrap .i64 (((rd a.Warps b).Frames.length : Int) - 1))).Pc)).A, (rd a.Code ((rd ((rd a.Warps b).Frames) (wrap .i64 (((rd a.Warps b).Frames.length : Int) - 1))).Pc)).B, (rd a.Code ((rd ((rd a.Warps b).Frames) (wrap .i64 (((rd a.Warps b).Frames.length : Int) - 1))).Pc)).C⟩ : D.Ins))))
def wp.qaC (a : D.Block) (b : Int) (Q : (D.Ins × Bool) → Prop) : Prop :=
 ((0 ≤ b ∧ b < (a.Warps.length : Int)) ∧ qa1 (((rd a.Warps b).Frames.length : Int) == 0) (Q ((⟨0, 0, 0, 0⟩ : D.Ins), false)) (((0 ≤ (wrap .i64 (((rd a.Warps b).Frames.length : Int) - 1)) ∧ (wrap .i64 (((rd a.Warps b).Frames.length : Int) - 1)) < (((rd a.Warps b).Frames).length : Int)) ∧ ((0 ≤ (rd ((rd a.Warps b).Frames) (wrap .i64 (((rd a.Warps b).Frames.length : Int) - 1))).Pc ∧ (rd ((rd a.Warps b).Frames) (wrap .i64 (((rd a.Warps b).Frames.length : Int) - 1))).Pc < (a.Code.length : Int)) ∧ Q ((⟨(rd a.Code ((rd ((rd a.Warps b).Frames) (wrap .i64 (((rd a.Warps b).Frames.length : Int) - 1))).Pc)).Op, (rd a.Code ((rd ((rd a.Warps b).Frames) (wrap .i64 (((rd a.Warps b).Frames.length : Int) - 1))).Pc)).A, (rd a.Code ((rd ((rd a.Warps b).Frames) (wrap .i64 (((rd a.Warps b).Frames.length : Int) - 1))).Pc)).B, (rd a.Code ((rd ((rd a.Warps b).Frames) (wrap .i64 (((rd a.Warps b).Frames.length : Int) - 1))).Pc)).C⟩ : D.Ins), true)))))
end Go.V
namespace Go.V
open IntKind (wrap)
theorem qhb {α : Type} {l : List α} : ((l.length : Int) == 0) = l.isEmpty := by
 cases l with
 | nil => rfl
 | cons x l =>
  have : ¬ ((x :: l).length : Int) = 0 := by simp only [List.length_cons]; omega
  rw [beq_eq_false_iff_ne.2 this]; rfl
theorem qof {p : List D.Ins} : ∀ {l : List D.Warp} {k n : Nat}, M.qdy p k l = true → n < l.length → M.qh1 p (k + n) (rd l (n : Int)) = true
 | [], k, n, h, hn => absurd hn (by simp)
 | x :: l, k, 0, h, hn => by
  simp only [M.qdy, Bool.and_eq_true] at h
  exact h.1
 | x :: l, k, n + 1, h, hn => by
  simp only [M.qdy, Bool.and_eq_true] at h
  have := qof (n := n) h.2 (by simpa using hn)
  rw [show k + (n + 1) = k + 1 + n by omega]
  have e : rd (x :: l) ((n + 1 : Nat) : Int) = rd l (n : Int) := by
   have hn' : n < l.length := by simpa using hn
   rw [qcV hn, qcV hn']; rfl
  rw [e]; exact this
theorem qeg {b : D.Block} {w : Int} (h : M.Has b w) : 0 ≤ w ∧ w < (b.Warps.length : Int) ∧ M.qb6 b.Code = true ∧ M.qfS b.Code (rd b.Warps w) = true ∧ (rd b.Warps w).Number = w ∧ M.qdE b = true := by
 obtain ⟨hb, hh⟩ := h
 obtain ⟨h0, h1, hok⟩ := qpT hb.2.1.1 hh
 have hok' := hok
 simp only [M.qdE, Bool.and_eq_true] at hok
 obtain ⟨k, rfl⟩ := Int.eq_ofNat_of_zero_le h0
 have := qof (n := k) hok.2.2.2.2.2 (by omega)
 rw [Nat.zero_add] at this
 simp only [M.qh1, Bool.and_eq_true, beq_iff_eq] at this
 exact ⟨h0, h1, hok.1, this.2, this.1, hok'⟩
theorem qia {p : List D.Ins} {x : D.Warp} (h : M.qfS p x = true) (hx : x.Frames ≠ []) : x.Frames.length ≤ 24 ∧ 0 ≤ (M.qdb x.Frames).Pc ∧ (M.qdb x.Frames).Pc < (p.length : Int) := by
 simp only [M.qfS, M.qee, Bool.and_eq_true, Bool.or_eq_true] at h
 obtain ⟨h1, h2, h3, h4, h5⟩ := h
 have h5 := h5.resolve_left (by simpa using hx)
 have hpos : 0 < x.Frames.length := List.length_pos_iff.2 hx
 have hm : M.qdb x.Frames ∈ x.Frames := qke (by omega) (by omega)
 have hf := List.all_eq_true.1 h4 _ hm
 simp only [M.qig, M.qem, M.isIn, Bool.and_eq_true, decide_eq_true_eq, bne_iff_ne] at h5 hf
 exact ⟨h5.1, hf.1.1, by omega⟩
theorem wp.qcs.math (b : D.Block) (w : Int) (h : M.qeH b w) : wp.qcs b w (fun r => r = M.qcs b w) := by
 obtain ⟨hh, hx⟩ := h
 obtain ⟨h0, h1, hp, hw, hn, hok⟩ := qeg hh
 obtain ⟨k1, k2, k3⟩ := qia hw hx
 have hpos : 0 < (rd b.Warps w).Frames.length := List.length_pos_iff.2 hx
 unfold wp.qcs
 rw [qdx (by omega)]
 exact ⟨⟨h0, h1⟩, ⟨by omega, by omega⟩, ⟨k2, k3⟩, rfl⟩
theorem wp.qaC.math (b : D.Block) (w : Int) (h : M.qdG b w) : wp.qaC b w (fun r => r = M.qaC b w) := by
 obtain ⟨h0, h1, hp, hw, hn, hok⟩ := qeg h
 unfold wp.qaC
 rw [qhb]
 refine ⟨⟨h0, h1⟩, qa2 (fun e => ?_) fun e => ?_⟩
 ·simp [M.qaC, e]
 ·have hx : (rd b.Warps w).Frames ≠ [] := by simpa using e
  obtain ⟨k1, k2, k3⟩ := qia hw hx
  have hpos : 0 < (rd b.Warps w).Frames.length := List.length_pos_iff.2 hx
  rw [qdx (by omega)]
  refine ⟨⟨by omega, by omega⟩, ⟨k2, k3⟩, ?_⟩
  simp only [M.qaC, e]; rfl
end Go.V
namespace Go.V
open IntKind (wrap)
def wp.qal (b : List D.Ins) (c : List D.Ins) (Q : Bool → Prop) : Prop :=
 qa1 ((b.length : Int) != (c.length : Int)) (Q false) (qcX (σ := Int × Unit) (fun (d : Int × Unit) e => match d with | (a, _) => qa1 (decide (a < (b.length : Int))) (((0 ≤ a ∧ a < (b.length : Int)) ∧ ((0 ≤ a ∧ a < (c.length : Int)) ∧ qa1 (!(((rd b a).Op == (rd c a).Op) && ((rd b a).A == (rd c a).A) && ((rd b a).B == (rd c a).B) && ((rd b a).C == (rd c a).C))) (Q false) (e ((wrap .i64 (a + 1)), ()))))) (Q true)) (0, ()))
def wp.qa4 (b : List D.Warp) (c : List D.Warp) (e : D.Warp → D.Warp → Bool) (f : D.Warp → D.Warp → Prop) (Q : Bool → Prop) : Prop :=
 qa1 ((b.length : Int) != (c.length : Int)) (Q false) (qcX (σ := Int × Unit) (fun (g : Int × Unit) h => match g with | (a, _) => qa1 (decide (a < (b.length : Int))) (((0 ≤ a ∧ a < (b.length : Int)) ∧ ((0 ≤ a ∧ a < (c.length : Int)) ∧ (f (rd b a) (rd c a) ∧ ∀ d, d = e (rd b a) (rd c a) → qa1 (!d) (Q false) (h ((wrap .i64 (a + 1)), ())))))) (Q true)) (0, ()))
def wp.qag (b : List D.Frame) (c : List D.Frame) (Q : Bool → Prop) : Prop :=
 qa1 ((b.length : Int) != (c.length : Int)) (Q false) (qcX (σ := Int × Unit) (fun (d : Int × Unit) e => match d with | (a, _) => qa1 (decide (a < (b.length : Int))) (((0 ≤ a ∧ a < (b.length : Int)) ∧ ((0 ≤ a ∧ a < (c.length : Int)) ∧ qa1 (!(((rd b a).Pc == (rd c a).Pc) && ((rd b a).Stop == (rd c a).Stop) && ((rd b a).Mask == (rd c a).Mask))) (Q false) (e ((wrap .i64 (a + 1)), ()))))) (Q true)) (0, ()))
def wp.qax (b : List Int) (c : List Int) (Q : Bool → Prop) : Prop :=
 qa1 ((b.length : Int) != (c.length : Int)) (Q false) (qcX (σ := Int × Unit) (fun (d : Int × Unit) e => match d with | (a, _) => qa1 (decide (a < (b.length : Int))) (((0 ≤ a ∧ a < (b.length : Int)) ∧ ((0 ≤ a ∧ a < (c.length : Int)) ∧ qa1 ((rd b a) != (rd c a)) (Q false) (e ((wrap .i64 (a + 1)), ()))))) (Q true)) (0, ()))
def wp.qce (a : D.Warp) (b : D.Warp) (Q : Bool → Prop) : Prop :=
 qa1 (a.Number == b.Number) ((M.qd6 a.Frames b.Frames ∧ ∀ c, c = M.qag a.Frames b.Frames → qa1 c ((M.qdP a.Regs b.Regs ∧ ∀ d, d = M.qax a.Regs b.Regs → Q d)) (Q false))) (Q false)
def wp.qck (a : D.Block) (b : D.Block) (Q : Bool → Prop) : Prop :=
 (M.qdt a.Code b.Code ∧ ∀ e, e = M.qal a.Code b.Code → qa1 e ((M.qbi a.Warps b.Warps (fun c d => M.qce c d) (fun c d => M.qfU c d) ∧ ∀ f, f = M.qa4 a.Warps b.Warps (fun c d => M.qce c d) → qa1 f ((M.qdP a.Memory b.Memory ∧ ∀ g, g = M.qax a.Memory b.Memory → qa1 g (qa1 (a.Waiting == b.Waiting) (Q (a.Phase == b.Phase)) (Q false)) (Q false))) (Q false))) (Q false))
end Go.V
namespace Go.V
open IntKind (wrap)
theorem insB (a b : D.Ins) : ((a.Op == b.Op) && (a.A == b.A) && (a.B == b.B) && (a.C == b.C)) = (a == b) := by
 cases a; cases b; rw [Bool.eq_iff_iff]; simp [and_assoc]
theorem qpX (a b : D.Frame) : ((a.Pc == b.Pc) && (a.Stop == b.Stop) && (a.Mask == b.Mask)) = (a == b) := by
 cases a; cases b; rw [Bool.eq_iff_iff]; simp [and_assoc]
theorem qjJ {α : Type} [Inhabited α] [BEq α] [LawfulBEq α] {a b : List α} (ha : M.Long a) {Q : Bool → Prop} {B : (Int × Unit) → ((Int × Unit) → Prop) → Prop}
    (hb : a.length = b.length → ∀ (k : Nat) (next : (Int × Unit) → Prop), k < a.length → k < b.length → (rd a (k : Int) ≠ rd b (k : Int) → Q false) → (rd a (k : Int) = rd b (k : Int) → next (((k + 1 : Nat) : Int), ())) → B ((k : Int), ()) next)
    (he : ∀ (next : (Int × Unit) → Prop), a = b → B ((a.length : Int), ()) next) (hQ : a ≠ b → Q false) : qa1 ((a.length : Int) != (b.length : Int)) (Q false) (qcX B (0, ())) := by
 refine qa2 (fun e => hQ ?_) fun e => ?_
 ·rintro rfl; simp at e
 ·have hl : a.length = b.length := by simp at e; omega
  exact qpq ha hl (hb hl) he hQ
theorem wp.qal.math (a b : List D.Ins) (h : M.qdt a b) : wp.qal a b (fun r => r = M.qal a b) := by
 unfold wp.qal
 simp only [insB]
 refine qjJ h (Q := fun r => r = M.qal a b) (fun hl k next hk hk' h1 h2 => ?_) (fun next e => qaA (by simp) (by simp [M.qal, e])) fun hne => by simp [M.qal, hne]
 refine qaH (by simp; omega) ⟨by omega, by omega, qa2 (fun e => h1 (by simpa using e)) fun e => ?_⟩
 rw [up64 hk h]; exact h2 (by simpa using e)
theorem wp.qag.math (a b : List D.Frame) (h : M.qd6 a b) : wp.qag a b (fun r => r = M.qag a b) := by
 unfold wp.qag
 simp only [qpX]
 refine qjJ h (Q := fun r => r = M.qag a b) (fun hl k next hk hk' h1 h2 => ?_) (fun next e => qaA (by simp) (by simp [M.qag, e])) fun hne => by simp [M.qag, hne]
 refine qaH (by simp; omega) ⟨by omega, by omega, qa2 (fun e => h1 (by simpa using e)) fun e => ?_⟩
 rw [up64 hk h]; exact h2 (by simpa using e)
theorem wp.qax.math (a b : List Int) (h : M.qdP a b) : wp.qax a b (fun r => r = M.qax a b) := by
 unfold wp.qax
 refine qjJ h (Q := fun r => r = M.qax a b) (fun hl k next hk hk' h1 h2 => ?_) (fun next e => qaA (by simp) (by simp [M.qax, e])) fun hne => by simp [M.qax, hne]
 refine qaH (by simp; omega) ⟨by omega, by omega, qa2 (fun e => h1 (by simpa using e)) fun e => ?_⟩
 rw [up64 hk h]; exact h2 (by simpa using e)
theorem qmw {a b : D.Warp} (h : a.Number ≠ b.Number ∨ a.Frames ≠ b.Frames ∨ a.Regs ≠ b.Regs) : (a == b) = false := by
 refine beq_eq_false_iff_ne.2 ?_
 rintro rfl
 simp at h
theorem qpn {a b : D.Warp} (h1 : a.Number = b.Number) (h2 : a.Frames = b.Frames) (h3 : a.Regs = b.Regs) : (a == b) = true := by
 cases a; cases b; simp at *; exact ⟨h1, h2, h3⟩
theorem qiq {a b : D.Block} (h : a.Code ≠ b.Code ∨ a.Warps ≠ b.Warps ∨ a.Memory ≠ b.Memory ∨ a.Waiting ≠ b.Waiting ∨ a.Phase ≠ b.Phase) : (a == b) = false := by
 refine beq_eq_false_iff_ne.2 ?_
 rintro rfl
 simp at h
theorem qoI {a b : D.Block} (h1 : a.Code = b.Code) (h2 : a.Warps = b.Warps) (h3 : a.Memory = b.Memory) (h4 : a.Waiting = b.Waiting) (h5 : a.Phase = b.Phase) : (a == b) = true := by
 cases a; cases b; simp at *; exact ⟨h1, h2, h3, h4, h5⟩
theorem qoZ (g : D.Warp → D.Warp → Bool) (a b : List D.Warp) (k : Nat) (hk : k < a.length) (hk' : k < b.length) : M.allTwo g (a.drop k) (b.drop k) = (g (rd a (k : Int)) (rd b (k : Int)) && M.allTwo g (a.drop (k + 1)) (b.drop (k + 1))) := by
 rw [List.drop_eq_getElem_cons hk, List.drop_eq_getElem_cons hk', qcV hk, qcV hk']; rfl
theorem qoa (g : D.Warp → D.Warp → Bool) : ∀ (a b : List D.Warp), a.length ≠ b.length → M.allTwo g a b = false
 | [], [], h => by simp at h
 | [], y :: b, h => rfl
 | x :: a, [], h => rfl
 | x :: a, y :: b, h => by
  simp only [M.allTwo, qoa g a b (by simpa using h), Bool.and_false]
theorem wp.qa4.math (a b : List D.Warp) (g : D.Warp → D.Warp → Bool) (D : D.Warp → D.Warp → Prop) (h : M.qbi a b g D) :
    wp.qa4 a b g D (fun r => r = M.qa4 a b g) := by
 obtain ⟨h1, h2⟩ := h
 refine qa2 (fun e => ?_) fun e => ?_
 ·exact (qoa g a b (by simp at e; omega)).symm
 have hl : a.length = b.length := by simp at e; omega
 refine qcS a.length (fun k => ((k : Int), ())) (fun k => M.allTwo g a b = M.allTwo g (a.drop k) (b.drop k)) rfl rfl (fun k hk hF next hn => ?_) fun hF next => ?_
 ·rw [qoZ g a b k hk (by omega)] at hF
  refine qaH (by simp; omega) ⟨by omega, by omega, h2 _ (qgk hk) _, fun r hr => qa2 (fun e => ?_) fun e => ?_⟩
  ·show false = M.allTwo g a b
   rw [hF, nt e hr]; rfl
  ·rw [up64 hk h1]
   exact hn (by rw [hF, nf e hr]; rfl)
 ·refine qaA (by simp) ?_
  show true = M.allTwo g a b
  rw [hF, List.drop_length, hl, List.drop_length]; rfl
theorem wp.qce.math (a b : D.Warp) (h : M.qfU a b) : wp.qce a b (fun r => r = M.qce a b) := by
 obtain ⟨h1, h2⟩ := h
 refine qa2 (fun e => ⟨h1, fun r hr => qa2 (fun e2 => ⟨h2, fun r3 hr3 => ?_⟩) fun e2 => ?_⟩) fun e => ?_
 ·have e : a.Number = b.Number := by simpa using e
  have e2 : a.Frames = b.Frames := by have := hr.symm.trans e2; simpa [M.qag] using this
  by_cases e3 : a.Regs = b.Regs
  ·rw [hr3, show M.qce a b = true from qpn e e2 e3]; simp [M.qax, e3]
  ·rw [hr3, show M.qce a b = false from qmw (.inr (.inr e3))]; simp [M.qax, e3]
 ·have := hr.symm.trans e2
  exact (qmw (.inr (.inl (by simpa [M.qag] using this)))).symm
 ·exact (qmw (.inl (by simpa using e))).symm
theorem qp6 : ∀ (a b : List D.Warp), M.allTwo (fun x y => M.qce x y) a b = (a == b)
 | [], [] => rfl
 | [], y :: b => rfl
 | x :: a, [] => rfl
 | x :: a, y :: b => by
  rw [M.allTwo, qp6 a b]
  show ((x == y) && (a == b)) = _
  rw [Bool.eq_iff_iff]; simp
theorem wp.qck.math (a b : D.Block) (h : M.qfM a b) : wp.qck a b (fun r => r = M.qck a b) := by
 obtain ⟨h1, ⟨h2, hW⟩, h3⟩ := h
 refine ⟨h1, fun r hr => qa2 (fun e => ⟨⟨h2, fun x hx y => hW x hx⟩, fun r2 hr2 => qa2 (fun e2 => ⟨h3, fun r3 hr3 => qa2 (fun e3 => qa2 (fun e4 => ?_) fun e4 => ?_) fun e3 => ?_⟩) fun e2 => ?_⟩) fun e => ?_⟩
 all_goals try simp only [M.qa4, qp6] at hr2
 all_goals try simp only [M.qal] at hr
 all_goals try simp only [M.qax] at hr3
 ·have k1 : a.Code = b.Code := by have := hr.symm.trans e; simpa using this
  have k2 : a.Warps = b.Warps := by have := hr2.symm.trans e2; simpa using this
  have k3 : a.Memory = b.Memory := by have := hr3.symm.trans e3; simpa using this
  have k4 : a.Waiting = b.Waiting := by simpa using e4
  by_cases k5 : a.Phase = b.Phase
  ·rw [show M.qck a b = true from qoI k1 k2 k3 k4 k5]; simp [k5]
  ·rw [show M.qck a b = false from qiq (.inr (.inr (.inr (.inr k5))))]; simp [k5]
 ·exact (qiq (.inr (.inr (.inr (.inl (by simpa using e4)))))).symm
 ·exact (qiq (.inr (.inr (.inl (by have := hr3.symm.trans e3; simpa using this))))).symm
 ·exact (qiq (.inr (.inl (by have := hr2.symm.trans e2; simpa using this)))).symm
 ·exact (qiq (.inl (by have := hr.symm.trans e; simpa using this))).symm
end Go.V
namespace Go.V
open IntKind (wrap)
def wp.qcq (a : List D.Ins) (b : Int) (Q : (D.Warp × Bool) → Prop) : Prop :=
 (M.qek a ∧ ∀ c, c = M.qbh a → qa1 (!c) (Q ((⟨0, ([] : List D.Frame), ([] : List Int)⟩ : D.Warp), false)) ((∀ d, d = M.qaV b 0 2 → qa1 (!d) (Q ((⟨0, ([] : List D.Frame), ([] : List Int)⟩ : D.Warp), false)) (((0 ≤ (32 : Int) ∧ (32 : Int) ≤ 17179869184) ∧ qa1 (decide ((a.length : Int) > 0)) (Q ((⟨b, ([(⟨0, (a.length : Int), 255⟩ : D.Frame)] : List D.Frame), (List.replicate ((32 : Int).toNat) (default : Int))⟩ : D.Warp), true)) (Q ((⟨b, ([] : List D.Frame), (List.replicate ((32 : Int).toNat) (default : Int))⟩ : D.Warp), true)))))))
def wp.qbw (a : List D.Ins) (f : Int) (Q : (D.Block × Bool) → Prop) : Prop :=
 (M.qek a ∧ ∀ g, g = M.qbh a → qa1 (!g) (Q ((⟨([] : List D.Ins), ([] : List D.Warp), ([] : List Int), 0, 0⟩ : D.Block), false)) ((∀ h, h = M.qaV f 1 3 → qa1 (!h) (Q ((⟨([] : List D.Ins), ([] : List D.Warp), ([] : List Int), 0, 0⟩ : D.Block), false)) (qf9 (σ := (List D.Ins) × (List D.Warp) × (List Int) × Int × Int × Unit) (fun b => ((((((([] : List D.Ins).length + a.length ≤ 17179869184) ∧ ((((0 ≤ (32 : Int) ∧ (32 : Int) ≤ 17179869184) ∧ b ((([] : List D.Ins) ++ a), [], (List.replicate ((32 : Int).toNat) (default : Int)), 0, 0, ()))) ∧ (((0 ≤ (32 : Int) ∧ (32 : Int) ≤ 17179869184) ∧ b ((([] : List D.Ins) ++ a), [], (List.replicate ((32 : Int).toNat) (default : Int)), 0, 0, ()))) ∧ True))) ∧ (((0 ≤ (32 : Int) ∧ (32 : Int) ≤ 17179869184) ∧ ((((([] : List D.Ins).length + a.length ≤ 17179869184) ∧ b ((([] : List D.Ins) ++ a), [], (List.replicate ((32 : Int).toNat) (default : Int)), 0, 0, ()))) ∧ (((([] : List D.Ins).length + a.length ≤ 17179869184) ∧ b ((([] : List D.Ins) ++ a), [], (List.replicate ((32 : Int).toNat) (default : Int)), 0, 0, ()))) ∧ True))) ∧ (((((([] : List D.Ins).length + a.length ≤ 17179869184) ∧ ((0 ≤ (32 : Int) ∧ (32 : Int) ≤ 17179869184) ∧ b ((([] : List D.Ins) ++ a), [], (List.replicate ((32 : Int).toNat) (default : Int)), 0, 0, ())))) ∧ (((0 ≤ (32 : Int) ∧ (32 : Int) ≤ 17179869184) ∧ ((([] : List D.Ins).length + a.length ≤ 17179869184) ∧ b ((([] : List D.Ins) ++ a), [], (List.replicate ((32 : Int).toNat) (default : Int)), 0, 0, ())))) ∧ True)) ∧ True)) ∧ (((0 ≤ (32 : Int) ∧ (32 : Int) ≤ 17179869184) ∧ ((((((([] : List D.Ins).length + a.length ≤ 17179869184) ∧ b ((([] : List D.Ins) ++ a), [], (List.replicate ((32 : Int).toNat) (default : Int)), 0, 0, ()))) ∧ (((([] : List D.Ins).length + a.length ≤ 17179869184) ∧ b ((([] : List D.Ins) ++ a), [], (List.replicate ((32 : Int).toNat) (default : Int)), 0, 0, ()))) ∧ True)) ∧ (((([] : List D.Ins).length + a.length ≤ 17179869184) ∧ b ((([] : List D.Ins) ++ a), [], (List.replicate ((32 : Int).toNat) (default : Int)), 0, 0, ()))) ∧ True))) ∧ (((((((([] : List D.Ins).length + a.length ≤ 17179869184) ∧ ((0 ≤ (32 : Int) ∧ (32 : Int) ≤ 17179869184) ∧ b ((([] : List D.Ins) ++ a), [], (List.replicate ((32 : Int).toNat) (default : Int)), 0, 0, ())))) ∧ (((0 ≤ (32 : Int) ∧ (32 : Int) ≤ 17179869184) ∧ ((([] : List D.Ins).length + a.length ≤ 17179869184) ∧ b ((([] : List D.Ins) ++ a), [], (List.replicate ((32 : Int).toNat) (default : Int)), 0, 0, ())))) ∧ True)) ∧ (((0 ≤ (32 : Int) ∧ (32 : Int) ≤ 17179869184) ∧ ((([] : List D.Ins).length + a.length ≤ 17179869184) ∧ b ((([] : List D.Ins) ++ a), [], (List.replicate ((32 : Int).toNat) (default : Int)), 0, 0, ())))) ∧ True)) ∧ True)) (fun (k : (List D.Ins) × (List D.Warp) × (List Int) × Int × Int × Unit) => match k with | (l, m, n, o, p, _) => qcX (σ := Int × (List D.Warp) × Int × Int × Unit) (fun (q : Int × (List D.Warp) × Int × Int × Unit) r => match q with | (c, d, i, j, _) => qa1 (decide (c < f)) ((M.qgn a c ∧ ∀ e, e = M.qcq a c → ((d.length + ([e.1] : List D.Warp).length ≤ 17179869184) ∧ r ((wrap .i64 (c + 1)), (d ++ ([e.1] : List D.Warp)), i, j, ())))) (Q ((⟨l, d, n, i, j⟩ : D.Block), true))) (0, m, o, p, ()))))))
def wp.qao (a : List D.Ins) (Q : (List D.Ins) → Prop) : Prop :=
 (∀ b : Bool, (b = true → a = []) → qa1 b (Q ([] : List D.Ins)) (((([] : List D.Ins).length + a.length ≤ 17179869184) ∧ Q (([] : List D.Ins) ++ a))))
def wp.qcd (a : D.Warp) (Q : D.Warp → Prop) : Prop :=
 ((((((([] : List D.Frame).length + a.Frames.length ≤ 17179869184) ∧ ((([] : List Int).length + a.Regs.length ≤ 17179869184) ∧ Q (⟨a.Number, (([] : List D.Frame) ++ a.Frames), (([] : List Int) ++ a.Regs)⟩ : D.Warp)))) ∧ (((([] : List D.Frame).length + a.Frames.length ≤ 17179869184) ∧ ((([] : List Int).length + a.Regs.length ≤ 17179869184) ∧ Q (⟨a.Number, (([] : List D.Frame) ++ a.Frames), (([] : List Int) ++ a.Regs)⟩ : D.Warp)))) ∧ True)) ∧ (((([] : List D.Frame).length + a.Frames.length ≤ 17179869184) ∧ ((([] : List Int).length + a.Regs.length ≤ 17179869184) ∧ Q (⟨a.Number, (([] : List D.Frame) ++ a.Frames), (([] : List Int) ++ a.Regs)⟩ : D.Warp)))) ∧ True)
def wp.qdq (a : D.Block) (Q : D.Block → Prop) : Prop :=
 qf9 (σ := (List D.Ins) × (List D.Warp) × (List Int) × Int × Int × Unit) (fun b => ((((((([] : List D.Ins).length + a.Code.length ≤ 17179869184) ∧ ((((((([] : List Int).length + a.Memory.length ≤ 17179869184) ∧ b ((([] : List D.Ins) ++ a.Code), [], (([] : List Int) ++ a.Memory), a.Waiting, a.Phase, ()))) ∧ (((([] : List Int).length + a.Memory.length ≤ 17179869184) ∧ b ((([] : List D.Ins) ++ a.Code), [], (([] : List Int) ++ a.Memory), a.Waiting, a.Phase, ()))) ∧ True)) ∧ (((([] : List Int).length + a.Memory.length ≤ 17179869184) ∧ b ((([] : List D.Ins) ++ a.Code), [], (([] : List Int) ++ a.Memory), a.Waiting, a.Phase, ()))) ∧ True))) ∧ (((((([] : List D.Ins).length + a.Code.length ≤ 17179869184) ∧ ((((([] : List Int).length + a.Memory.length ≤ 17179869184) ∧ b ((([] : List D.Ins) ++ a.Code), [], (([] : List Int) ++ a.Memory), a.Waiting, a.Phase, ()))) ∧ (((([] : List Int).length + a.Memory.length ≤ 17179869184) ∧ b ((([] : List D.Ins) ++ a.Code), [], (([] : List Int) ++ a.Memory), a.Waiting, a.Phase, ()))) ∧ True))) ∧ (((([] : List D.Ins).length + a.Code.length ≤ 17179869184) ∧ ((([] : List Int).length + a.Memory.length ≤ 17179869184) ∧ b ((([] : List D.Ins) ++ a.Code), [], (([] : List Int) ++ a.Memory), a.Waiting, a.Phase, ())))) ∧ True)) ∧ (((((([] : List D.Ins).length + a.Code.length ≤ 17179869184) ∧ ((([] : List Int).length + a.Memory.length ≤ 17179869184) ∧ b ((([] : List D.Ins) ++ a.Code), [], (([] : List Int) ++ a.Memory), a.Waiting, a.Phase, ())))) ∧ (((([] : List D.Ins).length + a.Code.length ≤ 17179869184) ∧ ((([] : List Int).length + a.Memory.length ≤ 17179869184) ∧ b ((([] : List D.Ins) ++ a.Code), [], (([] : List Int) ++ a.Memory), a.Waiting, a.Phase, ())))) ∧ True)) ∧ True)) ∧ (((((((([] : List D.Ins).length + a.Code.length ≤ 17179869184) ∧ ((((([] : List Int).length + a.Memory.length ≤ 17179869184) ∧ b ((([] : List D.Ins) ++ a.Code), [], (([] : List Int) ++ a.Memory), a.Waiting, a.Phase, ()))) ∧ (((([] : List Int).length + a.Memory.length ≤ 17179869184) ∧ b ((([] : List D.Ins) ++ a.Code), [], (([] : List Int) ++ a.Memory), a.Waiting, a.Phase, ()))) ∧ True))) ∧ (((([] : List D.Ins).length + a.Code.length ≤ 17179869184) ∧ ((([] : List Int).length + a.Memory.length ≤ 17179869184) ∧ b ((([] : List D.Ins) ++ a.Code), [], (([] : List Int) ++ a.Memory), a.Waiting, a.Phase, ())))) ∧ True)) ∧ (((([] : List D.Ins).length + a.Code.length ≤ 17179869184) ∧ ((([] : List Int).length + a.Memory.length ≤ 17179869184) ∧ b ((([] : List D.Ins) ++ a.Code), [], (([] : List Int) ++ a.Memory), a.Waiting, a.Phase, ())))) ∧ True)) ∧ (((((((([] : List D.Ins).length + a.Code.length ≤ 17179869184) ∧ ((([] : List Int).length + a.Memory.length ≤ 17179869184) ∧ b ((([] : List D.Ins) ++ a.Code), [], (([] : List Int) ++ a.Memory), a.Waiting, a.Phase, ())))) ∧ (((([] : List D.Ins).length + a.Code.length ≤ 17179869184) ∧ ((([] : List Int).length + a.Memory.length ≤ 17179869184) ∧ b ((([] : List D.Ins) ++ a.Code), [], (([] : List Int) ++ a.Memory), a.Waiting, a.Phase, ())))) ∧ True)) ∧ (((([] : List D.Ins).length + a.Code.length ≤ 17179869184) ∧ ((([] : List Int).length + a.Memory.length ≤ 17179869184) ∧ b ((([] : List D.Ins) ++ a.Code), [], (([] : List Int) ++ a.Memory), a.Waiting, a.Phase, ())))) ∧ True)) ∧ True)) (fun (h : (List D.Ins) × (List D.Warp) × (List Int) × Int × Int × Unit) => match h with | (i, j, k, l, m, _) => qcX (σ := Int × (List D.Warp) × Int × Int × Unit) (fun (n : Int × (List D.Warp) × Int × Int × Unit) o => match n with | (c, d, f, g, _) => qa1 (decide (c < (a.Warps.length : Int))) (((0 ≤ c ∧ c < (a.Warps.length : Int)) ∧ (M.qeI (rd a.Warps c) ∧ ∀ e, e = M.qcd (rd a.Warps c) → ((d.length + ([e] : List D.Warp).length ≤ 17179869184) ∧ o ((wrap .i64 (c + 1)), (d ++ ([e] : List D.Warp)), f, g, ()))))) (Q (⟨i, d, k, f, g⟩ : D.Block))) (0, j, l, m, ()))
def wp.qaf (a : List D.Frame) (Q : (List D.Frame) → Prop) : Prop :=
 (∀ b : Bool, (b = true → a = []) → qa1 b (Q ([] : List D.Frame)) (((([] : List D.Frame).length + a.length ≤ 17179869184) ∧ Q (([] : List D.Frame) ++ a))))
def wp.qcO (a : D.Warp) (Q : D.Warp → Prop) : Prop :=
 (((((M.qba a.Frames ∧ ∀ b, b = M.qaf a.Frames → (M.qaW a.Regs ∧ ∀ c, c = M.qaq a.Regs → Q (⟨a.Number, b, c⟩ : D.Warp)))) ∧ ((M.qba a.Frames ∧ ∀ d, d = M.qaf a.Frames → (M.qaW a.Regs ∧ ∀ e, e = M.qaq a.Regs → Q (⟨a.Number, d, e⟩ : D.Warp)))) ∧ True)) ∧ ((M.qba a.Frames ∧ ∀ f, f = M.qaf a.Frames → (M.qaW a.Regs ∧ ∀ g, g = M.qaq a.Regs → Q (⟨a.Number, f, g⟩ : D.Warp)))) ∧ True)
def wp.qca (a : D.Block) (Q : D.Block → Prop) : Prop :=
 qf9 (σ := (List D.Ins) × (List D.Warp) × (List Int) × Int × Int × Unit) (fun c => (((M.qbS a.Code ∧ ∀ d, d = M.qao a.Code → (((M.qaW a.Memory ∧ ∀ g, g = M.qaq a.Memory → c (d, [], g, a.Waiting, a.Phase, ()))) ∧ ((M.qaW a.Memory ∧ ∀ h, h = M.qaq a.Memory → c (d, [], h, a.Waiting, a.Phase, ()))) ∧ True))) ∧ ((M.qbS a.Code ∧ ∀ i, i = M.qao a.Code → (M.qaW a.Memory ∧ ∀ j, j = M.qaq a.Memory → c (i, [], j, a.Waiting, a.Phase, ())))) ∧ True)) (fun (m : (List D.Ins) × (List D.Warp) × (List Int) × Int × Int × Unit) => match m with | (n, o, p, q, r, _) => qcX (σ := Int × (List D.Warp) × Int × Int × Unit) (fun (s : Int × (List D.Warp) × Int × Int × Unit) t => match s with | (b, e, k, l, _) => qa1 (decide (b < (a.Warps.length : Int))) (((0 ≤ b ∧ b < (a.Warps.length : Int)) ∧ (M.qfX (rd a.Warps b) ∧ ∀ f, f = M.qcO (rd a.Warps b) → ((e.length + ([f] : List D.Warp).length ≤ 17179869184) ∧ t ((wrap .i64 (b + 1)), (e ++ ([f] : List D.Warp)), k, l, ()))))) (Q (⟨n, e, p, k, l⟩ : D.Block))) (0, o, q, r, ()))
end Go.V
namespace Go.V
open IntKind (wrap)
theorem wp.qao.math (l : List D.Ins) (h : M.qbS l) : wp.qao l (fun r => r = M.qao l) := by
 intro b hb
 refine qa2 (fun e => ?_) fun e => ⟨by simp only [List.length_nil, Nat.zero_add]; exact h, ?_⟩
 ·rw [hb e]; rfl
 ·simp [M.qao]
theorem wp.qaf.math (l : List D.Frame) (h : M.qba l) : wp.qaf l (fun r => r = M.qaf l) := by
 intro b hb
 refine qa2 (fun e => ?_) fun e => ⟨by simp only [List.length_nil, Nat.zero_add]; exact h, ?_⟩
 ·rw [hb e]; rfl
 ·simp [M.qaf]
theorem qna (p : List D.Ins) (n : Int) : qa1 (decide ((p.length : Int) > 0)) ((⟨n, [⟨0, (p.length : Int), 255⟩], List.replicate ((32 : Int).toNat) (default : Int)⟩ : D.Warp) = M.qdJ p n) ((⟨n, [], List.replicate ((32 : Int).toNat) (default : Int)⟩ : D.Warp) = M.qdJ p n) := by
 refine qa2 (fun e => ?_) fun e => ?_
 ·have e3 : p.length > 0 := by simp only [decide_eq_true_eq] at e; omega
  unfold M.qdJ; rw [if_pos e3]; rfl
 ·have e3 : ¬ p.length > 0 := by simp only [decide_eq_false_iff_not] at e; omega
  unfold M.qdJ; rw [if_neg e3]; rfl
theorem wp.qcq.math (p : List D.Ins) (n : Int) (h : M.qgn p n) : wp.qcq p n (fun r => r = M.qcq p n) := by
 refine ⟨h, fun r hr => qa2 (fun e => ?_) fun e r2 hr2 => qa2 (fun e2 => ?_) fun e2 => ⟨by omega, ?_⟩⟩
 all_goals simp only [M.qbh, M.qaV] at *
 ·simp [M.qcq, nt e hr, M.qnG]
 ·simp [M.qcq, nt e2 hr2, M.qnG]
 ·have hM : M.qcq p n = (M.qdJ p n, true) := by simp [M.qcq, nf e hr, nf e2 hr2]
  rw [hM]
  have := qgV.1 (qna p n)
  exact qa2 (fun e3 => by rw [this.1 e3]) fun e3 => by rw [this.2 e3]
theorem qgd {σ : Type} {A : (σ → Prop) → Prop} {B : σ → Prop} (v : σ) (h : B v) (hA : ∀ J : σ → Prop, J v → A J) : qf9 A B := hA B h
theorem qkj {α : Type} (g : Nat → α) (k : Nat) : (List.range (k + 1)).map g = (List.range k).map g ++ [g k] := by simp [List.range_succ]
theorem qkr {p : List D.Ins} (h : M.qb6 p = true) : p.length ≤ 32 := by
 simp only [M.qb6, Bool.and_eq_true, decide_eq_true_eq] at h
 exact h.1
theorem wp.qbw.math (p : List D.Ins) (c : Int) (h : M.qg9 p c) : wp.qbw p c (fun r => r = M.qbw p c) := by
 refine ⟨h, fun r hr => qa2 (fun e => ?_) fun e r2 hr2 => qa2 (fun e2 => ?_) fun e2 => ?_⟩
 all_goals simp only [M.qbh, M.qaV] at *
 ·simp [M.qbw, M.qfk, nt e hr, M.qma]
 ·simp [M.qbw, M.qfk, nt e2 hr2, M.qma]
 have h1 := nf e hr
 have h2 := nf e2 hr2
 have h3 := qkr h1
 have h4 : 1 ≤ c ∧ c ≤ 3 := by simpa [M.isIn] using h2
 have hM : M.qbw p c = (M.qeB p c, true) := by simp [M.qbw, M.qfk, h1, h2]
 rw [hM]
 have hm : (0 ≤ (32 : Int) ∧ (32 : Int) ≤ 17179869184) := by omega
 have hl : ([] : List D.Ins).length + p.length ≤ 17179869184 := by simp; omega
 refine qgd (p, [], List.replicate 32 0, 0, 0, ()) ?_ fun J hJ => ?_
 ·refine qcS c.toNat (fun k => ((k : Int), (List.range k).map (fun j : Nat => M.qdJ p (j : Int)), 0, 0, ())) (fun _ => True) rfl trivial (fun k hk _ next hn => ?_) fun _ next => ?_
  ·refine qaH (by simp; omega) ⟨h, fun r hr => ⟨by simp; omega, ?_⟩⟩
   have hin : M.isIn (k : Int) 0 2 = true := by simp [M.isIn]; omega
   have : r = (M.qdJ p (k : Int), true) := by rw [hr]; simp [M.qcq, h1, hin]
   rw [up64 hk (by omega), this]
   have := hn trivial
   rwa [qkj] at this
  ·exact qaA (by simp; omega) rfl
 ·have hJ' : J ((([] : List D.Ins) ++ p), [], (List.replicate ((32 : Int).toNat) (default : Int)), 0, 0, ()) := hJ
  simp only [and_true]
  simp only [hl, hm, hJ', and_self]
theorem wp.qcO.math (x : D.Warp) (h : M.qfX x) : wp.qcO x (fun r => r = M.qcO x) := by
 obtain ⟨h1, h2⟩ := h
 have q1 : M.qba x.Frames := h1
 have q2 : M.qaW x.Regs := h2
 unfold wp.qcO
 simp only [M.qaf, M.qaq, forall_eq, q1, q2, true_and, and_true, M.qcO, and_self]
theorem wp.qca.math (b : D.Block) (h : M.qeM b) : wp.qca b (fun r => r = M.qca b) := by
 obtain ⟨h1, ⟨h2, hW⟩, h3⟩ := h
 have q1 : M.qbS b.Code := h1
 have q2 : M.qaW b.Memory := h3
 unfold wp.qca
 simp only [M.qao, M.qaq, forall_eq]
 refine qgd (b.Code, [], b.Memory, b.Waiting, b.Phase, ()) ?_ fun J hJ => ⟨⟨q1, ⟨q2, hJ⟩, ⟨q2, hJ⟩, trivial⟩, ⟨q1, q2, hJ⟩, trivial⟩
 refine qcS b.Warps.length (fun k => ((k : Int), b.Warps.take k, b.Waiting, b.Phase, ())) (fun _ => True) rfl trivial (fun k hk _ next hn => ?_) fun _ next => ?_
 ·refine qaH (by simp; omega) ⟨by omega, hW _ (qgk hk), by simp; omega, ?_⟩
  rw [up64 hk (by omega)]
  have := hn trivial
  rw [List.take_add_one, List.getElem?_eq_getElem hk, Option.toList_some] at this
  rw [qcV hk]; exact this
 ·refine qaA (by simp) ?_
  rw [List.take_length]; rfl
theorem qpZ {α : Type} [Inhabited α] {l m : List α} {y : α} {k : Nat} (h : l.length = k) : rd (l ++ y :: m) (k : Int) = y := by
 subst h
 rw [qcV (by simp)]; simp
theorem wp.qcd.math (x : D.Warp) (h : M.qeI x) : wp.qcd x (fun r => r = M.qcd x) := by
 obtain ⟨h1, h2⟩ := h
 unfold wp.qcd
 simp only [List.nil_append, List.length_nil, Nat.zero_add, h1, h2, true_and, and_true, and_self, M.qcd]
theorem wp.qdq.math (b : D.Block) (h : M.qgm b) : wp.qdq b (fun r => r = M.qdq b) := by
 obtain ⟨h1, ⟨h2, hW⟩, h3⟩ := h
 unfold wp.qdq
 simp only [List.nil_append, List.length_nil, Nat.zero_add]
 refine qgd (b.Code, [], b.Memory, b.Waiting, b.Phase, ()) ?_ fun J hJ => by simp only [h1, h3, hJ, true_and, and_true, and_self]
 refine qcS b.Warps.length (fun k => ((k : Int), b.Warps.take k, b.Waiting, b.Phase, ())) (fun _ => True) rfl trivial (fun k hk _ next hn => ?_) fun _ next => ?_
 ·refine qaH (by simp; omega) ⟨by omega, hW _ (qgk hk), fun r hr => ⟨by simp; omega, ?_⟩⟩
  rw [up64 hk (by omega), hr]
  have := hn trivial
  rw [List.take_add_one, List.getElem?_eq_getElem hk, Option.toList_some] at this
  rw [qcV hk]; exact this
 ·refine qaA (by simp) ?_
  rw [List.take_length]; rfl
theorem qmR {b : D.Block} (h : M.BFit b) : M.qll b := by
 obtain ⟨h1, ⟨h2, hW⟩, h3⟩ := h
 unfold M.qll M.qo7 M.qow M.Long
 exact ⟨by omega, ⟨by omega, fun x hx => by have := hW x hx; unfold M.WFit at this; omega⟩, by omega⟩
theorem qlk {b : D.Block} (h : M.qo1 b) : M.BFit b := by
 obtain ⟨h1, ⟨h2, hW⟩, h3⟩ := h
 exact ⟨by omega, ⟨by omega, fun x hx => by have := hW x hx; unfold M.qmF at this; unfold M.WFit; omega⟩, by omega⟩
end Go.V
namespace Go.V
open IntKind (wrap)
def wp.qbM (a : D.Warp) (Q : Int → Prop) : Prop :=
 qa1 ((a.Frames.length : Int) == 0) (Q 0) (((0 ≤ (wrap .i64 ((a.Frames.length : Int) - 1)) ∧ (wrap .i64 ((a.Frames.length : Int) - 1)) < (a.Frames.length : Int)) ∧ Q ((rd a.Frames (wrap .i64 ((a.Frames.length : Int) - 1))).Mask)))
def wp.qaU (b : D.Warp) (c : Int) (Q : Int → Prop) : Prop :=
 (∀ f, f = M.qb8 c → qa1 (!f) (Q 0) (qa1 ((b.Regs.length : Int) != 32) (Q 0) (qcX (σ := Int × Int × Unit) (fun (i : Int × Int × Unit) e => match i with | (d, a, _) => qa1 (decide (a < 8)) ((M.qea b ∧ ∀ g, g = M.qbM b → (∀ h, h = M.qbO g a → qa1 h (((0 ≤ (wrap .i64 ((wrap .i64 (a * 4)) + c)) ∧ (wrap .i64 ((wrap .i64 (a * 4)) + c)) < (b.Regs.length : Int)) ∧ qa1 ((rd b.Regs (wrap .i64 ((wrap .i64 (a * 4)) + c))) == 0) (((0 ≤ a) ∧ e ((qh0 .i64 d (wrap .i64 (1 * 2 ^ (min (a.toNat) (IntKind.bits .i64))))), (wrap .i64 (a + 1)), ()))) (e (d, (wrap .i64 (a + 1)), ())))) (e (d, (wrap .i64 (a + 1)), ()))))) (Q d)) (0, 0, ()))))
def wp.qbl (b : List D.Ins) (a : D.Warp) (Q : Bool → Prop) : Prop :=
 ((0 ≤ (wrap .i64 ((a.Frames.length : Int) - 1)) ∧ (wrap .i64 ((a.Frames.length : Int) - 1)) < (a.Frames.length : Int)) ∧ ((0 ≤ (rd a.Frames (wrap .i64 ((a.Frames.length : Int) - 1))).Pc ∧ (rd a.Frames (wrap .i64 ((a.Frames.length : Int) - 1))).Pc < (b.length : Int)) ∧ qa1 ((rd b ((rd a.Frames (wrap .i64 ((a.Frames.length : Int) - 1))).Pc)).Op != 10) (Q false) (((0 ≤ (rd a.Frames (wrap .i64 ((a.Frames.length : Int) - 1))).Pc ∧ (rd a.Frames (wrap .i64 ((a.Frames.length : Int) - 1))).Pc < (b.length : Int)) ∧ qa1 ((rd b ((rd a.Frames (wrap .i64 ((a.Frames.length : Int) - 1))).Pc)).B == (wrap .i64 ((rd a.Frames (wrap .i64 ((a.Frames.length : Int) - 1))).Pc + 1))) (Q false) (((0 ≤ (rd a.Frames (wrap .i64 ((a.Frames.length : Int) - 1))).Pc ∧ (rd a.Frames (wrap .i64 ((a.Frames.length : Int) - 1))).Pc < (b.length : Int)) ∧ (M.qe7 a ((rd b ((rd a.Frames (wrap .i64 ((a.Frames.length : Int) - 1))).Pc)).A) ∧ ∀ c, c = M.qaU a ((rd b ((rd a.Frames (wrap .i64 ((a.Frames.length : Int) - 1))).Pc)).A) → qa1 (c != 0) (Q (c != (rd a.Frames (wrap .i64 ((a.Frames.length : Int) - 1))).Mask)) (Q false))))))))
def wp.qaP (b : List D.Ins) (a : D.Warp) (Q : Bool → Prop) : Prop :=
 qa1 ((a.Frames.length : Int) == 0) (Q false) (((0 ≤ (wrap .i64 ((a.Frames.length : Int) - 1)) ∧ (wrap .i64 ((a.Frames.length : Int) - 1)) < (a.Frames.length : Int)) ∧ ((0 ≤ (rd a.Frames (wrap .i64 ((a.Frames.length : Int) - 1))).Pc ∧ (rd a.Frames (wrap .i64 ((a.Frames.length : Int) - 1))).Pc < (b.length : Int)) ∧ (∀ c, c = M.qcG (rd b ((rd a.Frames (wrap .i64 ((a.Frames.length : Int) - 1))).Pc)) → qa1 (!c) (Q false) ((M.qeN b a ∧ ∀ d, d = M.qbl b a → qa1 (!d) (Q true) (Q (decide ((a.Frames.length : Int) ≤ 22)))))))))
def wp.qcI (a : D.Block) (b : Int) (Q : Bool → Prop) : Prop :=
 ((0 ≤ b ∧ b < (a.Warps.length : Int)) ∧ qa1 (((rd a.Warps b).Frames.length : Int) == 0) (Q false) (((0 ≤ b) ∧ qa1 ((qdQ .i64 (Int.fdiv a.Waiting (2 ^ (min (b.toNat) (IntKind.bits .i64)))) 1) == 1) (Q false) ((M.qeH a b ∧ ∀ c, c = M.qcs a b → (∀ d, d = M.qcG c → qa1 d ((M.qg0 a.Code (rd a.Warps b) ∧ ∀ e, e = M.qaP a.Code (rd a.Warps b) → Q e)) (qa1 (c.Op != 16) (Q true) (Q (((rd a.Warps b).Frames.length : Int) == 1)))))))))
def wp.qbg (a : D.Warp) (Q : Int → Prop) : Prop :=
 qa1 ((a.Frames.length : Int) == 0) (Q 0) (((0 ≤ (wrap .i64 ((a.Frames.length : Int) - 1)) ∧ (wrap .i64 ((a.Frames.length : Int) - 1)) < (a.Frames.length : Int)) ∧ Q ((rd a.Frames (wrap .i64 ((a.Frames.length : Int) - 1))).Mask)))
def wp.qaS (c : D.Warp) (d : Int) (Q : Int → Prop) : Prop :=
 (M.qcU c ∧ ∀ f, f = M.qbg c → (∀ b, b = M.qc8 f → qcX (σ := Int × Int × Unit) (fun (h : Int × Int × Unit) g => match h with | (e, a, _) => qa1 (decide (a < (b.length : Int))) (((0 ≤ a ∧ a < (b.length : Int)) ∧ (M.qdS c (rd b a) ∧ ((0 ≤ d ∧ d < ((List.drop ((wrap .i64 ((rd b a) * 4)).toNat) (List.take ((wrap .i64 ((wrap .i64 ((rd b a) + 1)) * 4)).toNat) c.Regs)).length : Int)) ∧ qa1 ((rd (List.drop ((wrap .i64 ((rd b a) * 4)).toNat) (List.take ((wrap .i64 ((wrap .i64 ((rd b a) + 1)) * 4)).toNat) c.Regs)) d) == 0) (((0 ≤ (rd b a)) ∧ g ((qh0 .i64 e (wrap .i64 (1 * 2 ^ (min ((rd b a).toNat) (IntKind.bits .i64))))), (wrap .i64 (a + 1)), ()))) (g (e, (wrap .i64 (a + 1)), ())))))) (Q e)) (0, 0, ())))
def wp.qb4 (a : D.Warp) (b : List D.Ins) (Q : Bool → Prop) : Prop :=
 ((0 ≤ (wrap .i64 ((a.Frames.length : Int) - 1)) ∧ (wrap .i64 ((a.Frames.length : Int) - 1)) < (a.Frames.length : Int)) ∧ ((0 ≤ (rd a.Frames (wrap .i64 ((a.Frames.length : Int) - 1))).Pc ∧ (rd a.Frames (wrap .i64 ((a.Frames.length : Int) - 1))).Pc < (b.length : Int)) ∧ qa1 ((rd b ((rd a.Frames (wrap .i64 ((a.Frames.length : Int) - 1))).Pc)).Op != 10) (Q false) (((0 ≤ (rd a.Frames (wrap .i64 ((a.Frames.length : Int) - 1))).Pc ∧ (rd a.Frames (wrap .i64 ((a.Frames.length : Int) - 1))).Pc < (b.length : Int)) ∧ qa1 ((rd b ((rd a.Frames (wrap .i64 ((a.Frames.length : Int) - 1))).Pc)).B == (wrap .i64 ((rd a.Frames (wrap .i64 ((a.Frames.length : Int) - 1))).Pc + 1))) (Q false) (((0 ≤ (rd a.Frames (wrap .i64 ((a.Frames.length : Int) - 1))).Pc ∧ (rd a.Frames (wrap .i64 ((a.Frames.length : Int) - 1))).Pc < (b.length : Int)) ∧ (M.qdg a ((rd b ((rd a.Frames (wrap .i64 ((a.Frames.length : Int) - 1))).Pc)).A) ∧ ∀ c, c = M.qaS a ((rd b ((rd a.Frames (wrap .i64 ((a.Frames.length : Int) - 1))).Pc)).A) → qa1 (c != 0) ((M.qcU a ∧ ∀ d, d = M.qbg a → Q (c != d))) (Q false))))))))
def wp.qaR (b : D.Block) (a : Int) (Q : Bool → Prop) : Prop :=
 (M.qdG b a ∧ ∀ c, c = M.qaC b a → qf9 (σ := Bool × Unit) (fun d => qa1 (!c.2) (d (true, ())) ((M.qeq b a ∧ ∀ e, e = M.qbI b a → d (e, ())))) (fun (h : Bool × Unit) => match h with | (i, _) => qa1 i (Q false) (qa1 (c.1.Op == 16) (((0 ≤ a ∧ a < (b.Warps.length : Int)) ∧ Q (((rd b.Warps a).Frames.length : Int) == 1))) ((∀ f, f = M.qcF c.1 → qa1 f (((0 ≤ a ∧ a < (b.Warps.length : Int)) ∧ (M.qep (rd b.Warps a) b.Code ∧ ∀ g, g = M.qb4 (rd b.Warps a) b.Code → qa1 (!g) (Q true) (((0 ≤ a ∧ a < (b.Warps.length : Int)) ∧ Q (decide ((wrap .i64 (((rd b.Warps a).Frames.length : Int) + 2)) ≤ 24))))))) (Q true))))))
def wp.qdC (a : D.Block) (c : Int) (Q : Int → Prop) : Prop :=
 ((((a.Warps.length : Int) : Int) ≠ 0) ∧ qcX (σ := Int × Unit) (fun (e : Int × Unit) f => match e with | (b, _) => qa1 (decide (b < (a.Warps.length : Int))) (((((a.Warps.length : Int) : Int) ≠ 0) ∧ (M.qgJ a (Int.tmod (wrap .i64 ((Int.tmod c (a.Warps.length : Int)) + b)) (a.Warps.length : Int)) ∧ ∀ d, d = M.qcI a (Int.tmod (wrap .i64 ((Int.tmod c (a.Warps.length : Int)) + b)) (a.Warps.length : Int)) → qa1 d (Q (Int.tmod (wrap .i64 ((Int.tmod c (a.Warps.length : Int)) + b)) (a.Warps.length : Int))) (f ((wrap .i64 (b + 1)), ()))))) (Q (-1))) (0, ()))
def wp.qbe (a : D.Block) (c : Int) (Q : Int → Prop) : Prop :=
 qcX (σ := Int × Unit) (fun (e : Int × Unit) f => match e with | (b, _) => qa1 (decide (b < (a.Warps.length : Int))) (((((a.Warps.length : Int) : Int) ≠ 0) ∧ ((((a.Warps.length : Int) : Int) ≠ 0) ∧ (M.qeK a (Int.tmod (wrap .i64 ((Int.tmod c (a.Warps.length : Int)) + b)) (a.Warps.length : Int)) ∧ ∀ d, d = M.qaR a (Int.tmod (wrap .i64 ((Int.tmod c (a.Warps.length : Int)) + b)) (a.Warps.length : Int)) → qa1 d (Q (Int.tmod (wrap .i64 ((Int.tmod c (a.Warps.length : Int)) + b)) (a.Warps.length : Int))) (f ((wrap .i64 (b + 1)), ())))))) (Q (-1))) (0, ())
end Go.V
namespace Go.V
open IntKind (wrap)
theorem qix {x : D.Warp} (h : M.Long x.Frames) {Q : Int → Prop} (hQ : Q (M.qb2 x)) : qa1 ((x.Frames.length : Int) == 0) (Q 0) (((0 ≤ (wrap .i64 ((x.Frames.length : Int) - 1)) ∧ (wrap .i64 ((x.Frames.length : Int) - 1)) < (x.Frames.length : Int)) ∧ Q ((rd x.Frames (wrap .i64 ((x.Frames.length : Int) - 1))).Mask))) := by
 rw [qhb]
 refine qa2 (fun e => ?_) fun e => ?_
 ·unfold M.qb2 at hQ; rw [if_pos e] at hQ; exact hQ
 ·have hx : x.Frames ≠ [] := by simpa using e
  have hpos : 0 < x.Frames.length := List.length_pos_iff.2 hx
  rw [qdx h]
  unfold M.qb2 at hQ
  rw [if_neg (by rw [e]; simp)] at hQ
  exact ⟨by omega, hQ⟩
theorem wp.qbM.math (x : D.Warp) (h : M.qea x) : wp.qbM x (fun r => r = M.qbM x) := qix (Q := fun r => r = M.qb2 x) h rfl
theorem wp.qbg.math (x : D.Warp) (h : M.qcU x) : wp.qbg x (fun r => r = M.qbg x) := qix (Q := fun r => r = M.qb2 x) h rfl
theorem qkh (x : D.Warp) (reg : Int) : M.qcB x reg = (List.range 8).foldl (fun m (k : Nat) => if M.qdu (M.qb2 x) (k : Int) = true then M.qeC x reg m (k : Int) else m) 0 := by
 unfold M.qcB M.qeA
 rw [List.foldl_filter]
 rfl
theorem qnS {reg k : Int} (hr : M.qgB reg = true) (h0 : 0 ≤ k) (h7 : k ≤ 7) : 0 ≤ k * 4 + reg ∧ k * 4 + reg < 32 := by rw [qgl] at hr; omega
theorem wp.qaU.math (x : D.Warp) (reg : Int) (h : M.qe7 x reg) : wp.qaU x reg (fun r => r = M.qaU x reg) := by
 unfold wp.qaU
 simp only [lenB]
 refine fun r hr => qa2 (fun e => ?_) fun e => qa2 (fun e2 => ?_) fun e2 => ?_
 all_goals simp only [M.qb8] at hr
 ·simp [M.qaU, nt e hr]
 ·have : (x.Regs.length == 32) = false := by simpa using e2
  simp [M.qaU, this]
 have hreg := nf e hr
 have h32 : (x.Regs.length == 32) = true := by simpa using e2
 have h32' : x.Regs.length = 32 := by simpa using h32
 have hM : M.qaU x reg = M.qcB x reg := by simp [M.qaU, hreg, h32]
 rw [hM, qkh]
 let F : Nat → Int := fun k => (List.range k).foldl (fun m (k : Nat) => if M.qdu (M.qb2 x) (k : Int) = true then M.qeC x reg m (k : Int) else m) 0
 have hF : ∀ k, F (k + 1) = if M.qdu (M.qb2 x) (k : Int) = true then M.qeC x reg (F k) (k : Int) else F k := fun k => by simp [F, List.range_succ]
 refine qcS 8 (fun k => (F k, (k : Int), ())) (fun _ => True) rfl trivial (fun k hk _ next hn => ?_) fun _ next => qaA (by simp) rfl
 have hn := hn trivial
 rw [hF] at hn
 have hw : wrap .i64 (wrap .i64 ((k : Int) * 4) + reg) = (k : Int) * 4 + reg := by
  have := qnS hreg (k := (k : Int)) (by omega) (by omega)
  rw [w64 (x := (k : Int) * 4) (by omega) (by omega), w64 (by omega) (by omega)]
 have hin := qnS hreg (k := (k : Int)) (by omega) (by omega)
 refine qaH (by simp; omega) ⟨h, fun r2 hr2 r3 hr3 => qa2 (fun e3 => ?_) fun e3 => ?_⟩
 all_goals simp only [M.qbM] at hr2
 all_goals simp only [M.qbO, hr2] at hr3
 ·rw [hw, h32']
  rw [if_pos (hr3.symm.trans e3)] at hn
  refine ⟨⟨hin.1, by omega⟩, qa2 (fun e4 => ⟨Int.natCast_nonneg k, ?_⟩) fun e4 => ?_⟩
  ·have e4 : rd x.Regs ((k : Int) * 4 + reg) = 0 := by simpa using e4
   unfold M.qeC at hn
   rw [if_pos e4] at hn
   rw [up64 (n := 8) hk (by omega)]; exact hn
  ·have e4 : ¬ rd x.Regs ((k : Int) * 4 + reg) = 0 := by simpa using e4
   unfold M.qeC at hn
   rw [if_neg e4] at hn
   rw [up64 (n := 8) hk (by omega)]; exact hn
 ·have e3 : ¬ M.qdu (M.qb2 x) (k : Int) = true := by rw [← hr3, e3]; simp
  rw [if_neg e3] at hn
  rw [up64 (n := 8) hk (by omega)]; exact hn
theorem qhR {m l : Int} (h : l ∈ M.qeA m) : 0 ≤ l ∧ l ≤ 7 := by
 have := (List.mem_filter.1 h).1
 simp only [List.mem_cons, List.not_mem_nil, or_false] at this
 omega
theorem qis (m : Int) : (M.qeA m).length ≤ 8 := by
 have := List.length_filter_le (M.qdu m) [0, 1, 2, 3, 4, 5, 6, 7]
 exact this
theorem qnK {α : Type} [Inhabited α] {l : List α} {a b : Nat} {i : Int} (h0 : 0 ≤ i) (hi : a + i.toNat < b) (hb : b ≤ l.length) : rd ((l.take b).drop a) i = rd l ((a : Int) + i) := by
 have e : ((a : Int) + i).toNat = a + i.toNat := by omega
 unfold rd
 rw [e, List.getD_eq_getElem?_getD, List.getD_eq_getElem?_getD, List.getElem?_drop, List.getElem?_take, if_pos hi]
theorem wp.qaS.math (x : D.Warp) (reg : Int) (h : M.qdg x reg) : wp.qaS x reg (fun r => r = M.qaS x reg) := by
 obtain ⟨h1, h32, hreg⟩ := h
 refine ⟨h1, fun r hr r2 hr2 => ?_⟩
 have hr2' : r2 = M.qeA (M.qb2 x) := by rw [hr2, hr]; rfl
 show qcX _ _
 have hl := qis (M.qb2 x)
 have hmem : ∀ k : Nat, k < r2.length → 0 ≤ rd r2 (k : Int) ∧ rd r2 (k : Int) ≤ 7 := fun k hk => qhR (m := M.qb2 x) (by rw [← hr2']; exact qgk hk)
 have hM : M.qaS x reg = r2.foldl (M.qeC x reg) 0 := by rw [hr2']; rfl
 rw [hM]
 have hlen : r2.length ≤ 8 := by rw [hr2']; exact hl
 clear hr2 hr2' hM
 refine qcS r2.length (fun k => ((r2.take k).foldl (M.qeC x reg) 0, (k : Int), ())) (fun _ => True) rfl trivial (fun k hk _ next hn => ?_) fun _ next => qaA (by simp) (by rw [List.take_length])
 have hn := hn trivial
 rw [List.take_add_one, List.getElem?_eq_getElem hk, Option.toList_some, List.foldl_append, ← qcV hk] at hn
 simp only [List.foldl_cons, List.foldl_nil] at hn
 have hm := hmem k hk
 dsimp only
 generalize rd r2 (k : Int) = l at *
 have hin := qnS hreg hm.1 hm.2
 rw [qgl] at hreg
 have a1 : wrap .i64 (l * 4) = l * 4 := w64 (by omega) (by omega)
 have a2 : wrap .i64 ((wrap .i64 (l + 1)) * 4) = l * 4 + 4 := by rw [w64 (x := l + 1) (by omega) (by omega), w64 (by omega) (by omega)]; omega
 rw [a1, a2]
 have hc : rd ((x.Regs.take (l * 4 + 4).toNat).drop (l * 4).toNat) reg = rd x.Regs (l * 4 + reg) := by
  rw [qnK hreg.1 (by omega) (by omega)]
  congr 1; omega
 rw [hc, up64 hk (by omega)]
 refine qaH (by simp; omega) ⟨by omega, ⟨h32, hm⟩, ⟨by omega, by simp; omega⟩, qa2 (fun e => ⟨by omega, ?_⟩) fun e => ?_⟩
 ·have e : rd x.Regs (l * 4 + reg) = 0 := by simpa using e
  unfold M.qeC at hn
  rw [if_pos e] at hn
  exact hn
 ·have e : ¬ rd x.Regs (l * 4 + reg) = 0 := by simpa using e
  unfold M.qeC at hn
  rw [if_neg e] at hn
  exact hn
theorem qdT {p : List D.Ins} {x : D.Warp} (h : M.Runs p x) : p.length ≤ 32 ∧ 0 < x.Frames.length ∧ x.Frames.length ≤ 24 ∧ x.Regs.length = 32 ∧ 0 ≤ M.qdL x ∧ M.qdL x < (p.length : Int) ∧ M.qdD (M.qaO p x) p.length = true ∧ 0 ≤ x.Number ∧ x.Number ≤ 2 := by
 obtain ⟨hp, hw, hx⟩ := h
 obtain ⟨k1, k2, k3⟩ := qia hw hx
 have hp' := hp
 simp only [M.qb6, Bool.and_eq_true, decide_eq_true_eq, List.all_eq_true] at hp
 simp only [M.qfS, Bool.and_eq_true, M.isIn, decide_eq_true_eq, beq_iff_eq] at hw
 exact ⟨hp.1, List.length_pos_iff.2 hx, k1, hw.2.1, k2, k3, hp.2 _ (qke k2 k3), hw.1.1, hw.1.2⟩
theorem qhQ {i : D.Ins} {n : Int} (h : M.qdD i n = true) (e : i.Op = 10) : M.qgB i.A = true := by
 simp only [M.qdD, Bool.and_eq_true] at h
 have h := h.2
 rw [if_neg (by omega), if_neg (by omega), if_neg (by omega), if_neg (by omega), if_pos e] at h
 simp only [Bool.and_eq_true] at h
 exact h.1
theorem qh7 {x : D.Warp} (h : x.Frames ≠ []) : M.qb2 x = (M.qdb x.Frames).Mask := by
 unfold M.qb2
 rw [if_neg (by simpa using h)]
theorem wp.qbl.math (p : List D.Ins) (x : D.Warp) (h : M.qeN p x) : wp.qbl p x (fun r => r = M.qbl p x) := by
 obtain ⟨t1, t2, t3, t4, t5, t6, t7, _⟩ := qdT h
 unfold wp.qbl
 rw [qdx (by omega)]
 change (_ ∧ _) ∧ (0 ≤ M.qdL x ∧ M.qdL x < _) ∧ qa1 ((M.qaO p x).Op != 10) _ ((0 ≤ M.qdL x ∧ M.qdL x < _) ∧ qa1 ((M.qaO p x).B == wrap .i64 (M.qdL x + 1)) _ ((0 ≤ M.qdL x ∧ M.qdL x < _) ∧ (M.qe7 x (M.qaO p x).A ∧ ∀ r, r = M.qaU x (M.qaO p x).A → qa1 (r != 0) ((r != (M.qdb x.Frames).Mask) = _) _)))
 rw [w64 (x := M.qdL x + 1) (by omega) (by omega)]
 refine ⟨by omega, ⟨t5, t6⟩, qa2 (fun e => ?_) fun e => ⟨⟨t5, t6⟩, qa2 (fun e2 => ?_) fun e2 => ⟨⟨t5, t6⟩, by show x.Frames.length ≤ 9223372036854775807; omega, fun r hr => qa2 (fun e3 => ?_) fun e3 => ?_⟩⟩⟩
 ·have e : ¬ (M.qaO p x).Op = 10 := by simpa using e
  simp [M.qbl, M.splits, e]
 ·have e2 : (M.qaO p x).B = M.qdL x + 1 := by simpa using e2
  simp [M.qbl, M.splits, e2]
 all_goals
  have e : (M.qaO p x).Op = 10 := by simpa using e
  have e2 : ¬ (M.qaO p x).B = M.qdL x + 1 := by simpa using e2
  have hz : r = M.qcB x (M.qaO p x).A := by
   rw [hr]
   simp [M.qaU, qhQ t7 e, t4]
  rw [hz] at e3
  try rw [hz]
 ·simp only [M.qbl, M.splits, e, e3, Bool.true_and]
  have : ((M.qaO p x).B != M.qdL x + 1) = true := by simpa using e2
  rw [this]; rfl
 ·simp only [M.qbl, M.splits, e3, Bool.false_and, Bool.and_false]
theorem wp.qb4.math (x : D.Warp) (p : List D.Ins) (h : M.qep x p) : wp.qb4 x p (fun r => r = M.qb4 x p) := by
 obtain ⟨t1, t2, t3, t4, t5, t6, t7, _⟩ := qdT h
 have hL : M.Long x.Frames := by unfold M.Long; omega
 unfold wp.qb4
 rw [qdx (by omega)]
 change (_ ∧ _) ∧ (0 ≤ M.qdL x ∧ M.qdL x < _) ∧ qa1 ((M.qaO p x).Op != 10) _ ((0 ≤ M.qdL x ∧ M.qdL x < _) ∧ qa1 ((M.qaO p x).B == wrap .i64 (M.qdL x + 1)) _ ((0 ≤ M.qdL x ∧ M.qdL x < _) ∧ (M.qdg x (M.qaO p x).A ∧ ∀ r, r = M.qaS x (M.qaO p x).A → qa1 (r != 0) (M.qcU x ∧ ∀ r49, r49 = M.qbg x → (r != r49) = _) _)))
 rw [w64 (x := M.qdL x + 1) (by omega) (by omega)]
 refine ⟨by omega, ⟨t5, t6⟩, qa2 (fun e => ?_) fun e => ⟨⟨t5, t6⟩, qa2 (fun e2 => ?_) fun e2 => ⟨⟨t5, t6⟩, ⟨hL, t4, qhQ t7 (by simpa using e)⟩, fun r hr => qa2 (fun e3 => ⟨hL, fun r4 hr4 => ?_⟩) fun e3 => ?_⟩⟩⟩
 ·have e : ¬ (M.qaO p x).Op = 10 := by simpa using e
  simp [M.qb4, M.splits, e]
 ·have e2 : (M.qaO p x).B = M.qdL x + 1 := by simpa using e2
  simp [M.qb4, M.splits, e2]
 all_goals
  have e : (M.qaO p x).Op = 10 := by simpa using e
  have e2 : ¬ (M.qaO p x).B = M.qdL x + 1 := by simpa using e2
  have hz : r = M.qcB x (M.qaO p x).A := hr
  rw [hz] at e3
  try rw [hz]
 ·have hr4' : r4 = (M.qdb x.Frames).Mask := by rw [hr4]; exact qh7 h.2.2
  rw [hr4']
  simp only [M.qb4, M.splits, e, e3, Bool.true_and]
  have : ((M.qaO p x).B != M.qdL x + 1) = true := by simpa using e2
  rw [this]; rfl
 ·simp only [M.qb4, M.splits, e3, Bool.false_and, Bool.and_false]
theorem wp.qaP.math (p : List D.Ins) (x : D.Warp) (h : M.qg0 p x) : wp.qaP p x (fun r => r = M.qaP p x) := by
 unfold wp.qaP
 rw [qhb]
 refine qa2 (fun e => ?_) fun e => ?_
 ·simp [M.qaP, e]
 have hx : x.Frames ≠ [] := by simpa using e
 obtain ⟨t1, t2, t3, t4, t5, t6, t7, _⟩ := qdT ⟨h.1, h.2, hx⟩
 rw [qdx (by omega)]
 refine ⟨by omega, ⟨t5, t6⟩, fun r hr => qa2 (fun e2 => ?_) fun e2 => ⟨⟨h.1, h.2, hx⟩, fun r2 hr2 => qa2 (fun e3 => ?_) fun e3 => ?_⟩⟩
 all_goals have hr' : r = M.qcy (M.qaO p x) := hr
 ·have := nt e2 hr'
  simp [M.qaP, this]
 ·have := nt e3 (show r2 = M.splits p x from hr2)
  simp [M.qaP, e, nf e2 hr', this]
 ·have := nf e3 (show r2 = M.splits p x from hr2)
  simp only [M.qaP, e, nf e2 hr', this, Bool.not_false, Bool.not_true, Bool.true_and, Bool.false_or]
  congr 1; exact propext (by omega)
theorem qgf {b : D.Block} {w : Int} (h : M.Has b w) (hx : (rd b.Warps w).Frames ≠ []) : M.Runs b.Code (rd b.Warps w) := by
 obtain ⟨_, _, hp, hw, _⟩ := qeg h
 exact ⟨hp, hw, hx⟩
theorem qok {α : Type} {l : List α} : ((l.length : Int) == 1) = (l.length == 1) := by
 rw [Bool.eq_iff_iff]; simp; omega
theorem wp.qcI.math (b : D.Block) (w : Int) (h : M.qgJ b w) : wp.qcI b w (fun r => r = M.qcI b w) := by
 obtain ⟨h0, h1, hp, hw, hn, hok⟩ := qeg h
 unfold wp.qcI
 rw [qhb, qok]
 refine ⟨⟨h0, h1⟩, qa2 (fun e => ?_) fun e => ⟨h0, qa2 (fun e2 => ?_) fun e2 => ?_⟩⟩
 ·simp [M.qcI, M.qhj, e]
 ·have : M.waits b w = true := e2
  simp [M.qcI, M.qhj, this]
 have hx : (rd b.Warps w).Frames ≠ [] := by simpa using e
 have e2 : M.waits b w = false := e2
 refine ⟨⟨h, hx⟩, fun r hr r2 hr2 => qa2 (fun e3 => ⟨⟨hp, hw⟩, fun r3 hr3 => ?_⟩) fun e3 => qa2 (fun e4 => ?_) fun e4 => ?_⟩
 all_goals
  have hr' : r = M.qaO b.Code (rd b.Warps w) := hr
  have hr2' : r2 = M.qcy (M.qaO b.Code (rd b.Warps w)) := by rw [hr2, hr']; rfl
 ·have hl := hr2'.symm.trans e3
  rw [hr3]
  simp only [M.qaP, M.qcI, M.qhj, e, e2, hl, if_true, Bool.not_false, Bool.true_and]
 ·have hl := hr2'.symm.trans e3
  rw [hr'] at e4
  simp [M.qcI, M.qhj, e, e2, hl, e4]
 ·have hl := hr2'.symm.trans e3
  rw [hr'] at e4
  simp [M.qcI, M.qhj, e, e2, hl, e4]
theorem wp.qaR.math (b : D.Block) (w : Int) (h : M.qeK b w) : wp.qaR b w (fun r => r = M.qaR b w) := by
 obtain ⟨h0, h1, hp, hw, hn, hok⟩ := qeg h
 refine ⟨h, fun r hr => ?_⟩
 by_cases e : (rd b.Warps w).Frames.isEmpty = true
 ·have hr' : r = (⟨0, 0, 0, 0⟩, false) := by rw [hr]; simp [M.qaC, e]
  rw [hr']
  unfold qf9
  refine qaH rfl (qaH rfl ?_)
  simp [M.qaR, M.qhj, e]
 have e : (rd b.Warps w).Frames.isEmpty = false := by simpa using e
 have hx : (rd b.Warps w).Frames ≠ [] := by simpa using e
 have hr' : r = (M.qaO b.Code (rd b.Warps w), true) := by
  rw [hr]; simp only [M.qaC]; rw [if_neg (by rw [e]; simp)]; rfl
 have hruns := qgf h hx
 obtain ⟨t1, t2, t3, t4, t5, t6, t7, _⟩ := qdT hruns
 rw [hr']
 unfold qf9
 refine qaA rfl ⟨h0, fun r2 hr2 => ?_⟩
 have hr2' : r2 = M.waits b w := hr2
 refine qa2 (fun e2 => ?_) fun e2 => qa2 (fun e3 => ?_) fun e3 => ?_
 ·have := hr2'.symm.trans e2
  simp [M.qaR, M.qhj, this]
 ·have e2 := hr2'.symm.trans e2
  have e3 : (M.qaO b.Code (rd b.Warps w)).Op = 16 := by simpa using e3
  have hl : M.qcy (M.qaO b.Code (rd b.Warps w)) = false := by simp [M.qcy, M.isIn, e3]
  refine ⟨⟨h0, h1⟩, ?_⟩
  rw [qok]
  simp only [M.qaR, M.qhj, e, e2, hl, e3, Bool.not_false, Bool.true_and, bne_self_eq_false, Bool.false_or, Bool.false_eq_true, if_false]
 ·have e2 := hr2'.symm.trans e2
  have e3 : ¬ (M.qaO b.Code (rd b.Warps w)).Op = 16 := by simpa using e3
  intro r3 hr3
  refine qa2 (fun e4 => ⟨⟨h0, h1⟩, hruns, fun r4 hr4 => qa2 (fun e5 => ?_) fun e5 => ⟨⟨h0, h1⟩, ?_⟩⟩) fun e4 => ?_
  ·have e4 := (show r3 = M.qcy (M.qaO b.Code (rd b.Warps w)) from hr3).symm.trans e4
   have := nt e5 (show r4 = M.splits b.Code (rd b.Warps w) from hr4)
   simp [M.qaR, M.qhj, e, e2, e4, this]
  ·have e4 := (show r3 = M.qcy (M.qaO b.Code (rd b.Warps w)) from hr3).symm.trans e4
   have := nf e5 (show r4 = M.splits b.Code (rd b.Warps w) from hr4)
   rw [w64 (by omega) (by omega)]
   simp only [M.qaR, M.qhj, e, e2, e4, this, Bool.not_false, Bool.not_true, Bool.true_and, Bool.false_or, if_true]
   congr 1; exact propext (by omega)
  ·have e4 := (show r3 = M.qcy (M.qaO b.Code (rd b.Warps w)) from hr3).symm.trans e4
   simp [M.qaR, M.qhj, e, e2, e4, e3]
theorem qgI {b : D.Block} (h : M.Good b) : 1 ≤ b.Warps.length ∧ b.Warps.length ≤ 3 := by
 have := h.2
 simp only [M.qdE, Bool.and_eq_true, M.isIn, decide_eq_true_eq] at this
 omega
theorem qn2 {b : D.Block} (h : M.Good b) {w : Int} (h0 : 0 ≤ w) (h1 : w < (b.Warps.length : Int)) : M.Has b w := by
 have hc := qgI h
 refine ⟨h.1, ?_⟩
 simp only [M.ql3, h.2, Bool.true_and, M.isIn, qdx (n := b.Warps.length) (by omega), Bool.and_eq_true, decide_eq_true_eq]
 omega
theorem qiB {x n : Int} (hx : 0 ≤ x) (hn : 0 < n) : 0 ≤ Int.tmod x n ∧ Int.tmod x n < n :=
 ⟨Int.tmod_nonneg _ hx, Int.tmod_lt_of_pos _ hn⟩
theorem qlL {b : D.Block} (h : M.Good b) {q : Int} (h0 : 0 ≤ q) (hq : q ≤ 9223372036854775807) {B : (Int × Unit) → ((Int × Unit) → Prop) → Prop} {Q : Int → Prop} (hQ : Q (M.pick b q))
    (hb : ∀ (k : Nat) (next : (Int × Unit) → Prop), k < b.Warps.length → M.Has b (Int.tmod (Int.tmod q b.Warps.length + k) b.Warps.length) → (M.qhj b (Int.tmod (Int.tmod q b.Warps.length + k) b.Warps.length) = true → Q (Int.tmod (Int.tmod q b.Warps.length + k) b.Warps.length)) →
     (M.qhj b (Int.tmod (Int.tmod q b.Warps.length + k) b.Warps.length) = false → next (((k + 1 : Nat) : Int), ())) → wrap .i64 (Int.tmod q b.Warps.length + k) = Int.tmod q b.Warps.length + k → B ((k : Int), ()) next)
    (he : ∀ next : (Int × Unit) → Prop, Q (-1) → B ((b.Warps.length : Int), ()) next) : qcX B (0, ()) := by
 have hc := qgI h
 have ht := qiB (x := q) (n := b.Warps.length) h0 (by omega)
 refine qcS b.Warps.length (fun k => ((k : Int), ())) (fun k => M.pick b q = M.qh2 b b.Warps.length (Int.tmod q b.Warps.length) (b.Warps.length - k) (k : Int)) rfl rfl (fun k hk hF next hn => ?_) fun hF next => ?_
 ·rw [show b.Warps.length - k = (b.Warps.length - (k + 1)) + 1 by omega, M.qh2] at hF
  have ht2 := qiB (x := Int.tmod q b.Warps.length + k) (n := b.Warps.length) (by omega) (by omega)
  refine hb k next hk (qn2 h ht2.1 ht2.2) (fun e => ?_) (fun e => hn ?_) (w64 (by omega) (by omega))
  ·rw [if_pos e] at hF; rw [← hF]; exact hQ
  ·rw [if_neg (by rw [e]; simp)] at hF; rw [hF]; rfl
 ·refine he next ?_
  rw [Nat.sub_self, M.qh2] at hF
  rw [← hF]; exact hQ
theorem wp.qdC.math (b : D.Block) (q : Int) (h : M.qgw b q) : wp.qdC b q (fun r => r = M.qdC b q) := by
 obtain ⟨hg, h0, hq⟩ := h
 have hc := qgI hg
 refine ⟨by omega, qlL hg h0 hq (Q := fun r => r = M.pick b q) rfl (fun k next hk hh h1 h2 hw => ?_) fun next hh => qaA (by simp) hh⟩
 refine qaH (by simp; omega) ⟨by omega, ?_⟩
 simp only [hw]
 refine ⟨hh, fun r hr => qa2 (fun e => h1 (hr.symm.trans e)) fun e => ?_⟩
 rw [up64 hk (by omega)]; exact h2 (hr.symm.trans e)
theorem wp.qbe.math (b : D.Block) (q : Int) (h : M.qe4 b q) : wp.qbe b q (fun r => r = M.qbe b q) := by
 obtain ⟨hg, h0, hq⟩ := h
 have hc := qgI hg
 refine qlL hg h0 hq (Q := fun r => r = M.pick b q) rfl (fun k next hk hh h1 h2 hw => ?_) fun next hh => qaA (by simp) hh
 refine qaH (by simp; omega) ⟨by omega, by omega, ?_⟩
 simp only [hw]
 refine ⟨hh, fun r hr => qa2 (fun e => h1 (hr.symm.trans e)) fun e => ?_⟩
 rw [up64 hk (by omega)]; exact h2 (hr.symm.trans e)
end Go.V
namespace Go.V
open IntKind (wrap)
def wp.qd3 (b : List Int) (e : Int) (Q : (List Int) → Prop) : Prop :=
 qcX (σ := (List Int) × Int × Unit) (fun (f : (List Int) × Int × Unit) d => match f with | (c, a, _) => qa1 (decide (a < (b.length : Int))) (((0 ≤ a ∧ a < (b.length : Int)) ∧ qa1 ((rd b a) != e) (((0 ≤ a ∧ a < (b.length : Int)) ∧ ((c.length + ([(rd b a)] : List Int).length ≤ 17179869184) ∧ d ((c ++ ([(rd b a)] : List Int)), (wrap .i64 (a + 1)), ())))) (d (c, (wrap .i64 (a + 1)), ())))) (Q c)) (([] : List Int), 0, ())
def wp.qdU (a : List D.Ins) (d : Int) (Q : Bool → Prop) : Prop :=
 (M.qek a ∧ ∀ b, b = M.qbh a → qa1 b ((∀ c, c = M.qaV d 0 (a.length : Int) → Q c)) (Q false))
def wp.qbf (a : List Int) (d : Int) (Q : (List Int) → Prop) : Prop :=
 qf9 (σ := Int × Unit) (fun e => qcX (σ := Int × Unit) (fun (g : Int × Unit) h => match g with | (c, _) => qa1 (decide (c > 0)) (((0 ≤ (wrap .i64 (c - 1)) ∧ (wrap .i64 (c - 1)) < (a.length : Int)) ∧ qa1 (decide ((rd a (wrap .i64 (c - 1))) > d)) (h ((wrap .i64 (c - 1)), ())) (e (c, ())))) (e (c, ()))) ((a.length : Int), ())) (fun (i : Int × Unit) => match i with | (b, _) => qf9 (σ := Unit) (fun f => qa1 (decide (b > 0)) (((0 ≤ (wrap .i64 (b - 1)) ∧ (wrap .i64 (b - 1)) < (a.length : Int)) ∧ qa1 ((rd a (wrap .i64 (b - 1))) == d) (Q a) (f (())))) (f (()))) (fun (j : Unit) => match j with | (_) => ((0 ≤ b ∧ b ≤ (a.length : Int)) ∧ ((([] : List Int).length + (List.take (b.toNat) a).length ≤ 17179869184) ∧ (((([] : List Int) ++ (List.take (b.toNat) a)).length + ([d] : List Int).length ≤ 17179869184) ∧ ((0 ≤ b ∧ b ≤ (a.length : Int)) ∧ ((((([] : List Int) ++ (List.take (b.toNat) a)) ++ ([d] : List Int)).length + (List.drop (b.toNat) a).length ≤ 17179869184) ∧ Q (((([] : List Int) ++ (List.take (b.toNat) a)) ++ ([d] : List Int)) ++ (List.drop (b.toNat) a)))))))))
def wp.qcr (b : List D.Ins) (a : Int) (Q : (List Int) → Prop) : Prop :=
 qa1 (a == (b.length : Int)) (Q ([] : List Int)) (((0 ≤ a ∧ a < (b.length : Int)) ∧ qa1 ((rd b a).Op == 12) (Q ([(b.length : Int)] : List Int)) (qa1 ((rd b a).Op == 11) (((0 ≤ a ∧ a < (b.length : Int)) ∧ Q ([(rd b a).B] : List Int))) (qa1 ((rd b a).Op == 10) (((0 ≤ a ∧ a < (b.length : Int)) ∧ (M.qgM ([(wrap .i64 (a + 1))] : List Int) ((rd b a).B) ∧ ∀ c, c = M.qbf ([(wrap .i64 (a + 1))] : List Int) ((rd b a).B) → Q c))) (Q ([(wrap .i64 (a + 1))] : List Int))))))
def wp.qcL (c : List D.Ins) (e : List Int) (Q : (List Bool) → Prop) : Prop :=
 ((0 ≤ (wrap .i64 ((c.length : Int) + 1)) ∧ (wrap .i64 ((c.length : Int) + 1)) ≤ 17179869184) ∧ ((([] : List Int).length + e.length ≤ 17179869184) ∧ qcX (σ := (List Int) × (List Bool) × Unit) (fun (g : (List Int) × (List Bool) × Unit) f => match g with | (a, b, _) => qa1 (decide ((a.length : Int) > 0)) (((0 ≤ (0 : Int) ∧ (0 : Int) < (a.length : Int)) ∧ ((0 ≤ (1 : Int) ∧ (1 : Int) ≤ (a.length : Int)) ∧ ((0 ≤ (rd a 0) ∧ (rd a 0) < (b.length : Int)) ∧ qa1 (rd b (rd a 0)) (f ((List.drop ((1 : Int).toNat) a), b, ())) (((0 ≤ (rd a 0) ∧ (rd a 0) < (b.length : Int)) ∧ (M.qfi c (rd a 0) ∧ ∀ d, d = M.qcr c (rd a 0) → (((List.drop ((1 : Int).toNat) a).length + d.length ≤ 17179869184) ∧ f (((List.drop ((1 : Int).toNat) a) ++ d), (List.set b ((rd a 0).toNat) true), ()))))))))) (Q b)) ((([] : List Int) ++ e), (List.replicate ((wrap .i64 ((c.length : Int) + 1)).toNat) (default : Bool)), ())))
def wp.qaN (a : List D.Ins) (b : Int) (Q : Bool → Prop) : Prop :=
 (M.qh9 a b ∧ ∀ d, d = M.qdU a b → qa1 d ((M.qg2 a ([b] : List Int) ∧ ∀ c, c = M.qcL a ([b] : List Int) → ((0 ≤ (a.length : Int) ∧ (a.length : Int) < (c.length : Int)) ∧ Q (rd c (a.length : Int))))) (Q false))
def wp.qcN (b : List D.Ins) (f : Int) (g : Int) (Q : Bool → Prop) : Prop :=
 qa1 (f == g) (Q true) (((0 ≤ (wrap .i64 ((b.length : Int) + 1)) ∧ (wrap .i64 ((b.length : Int) + 1)) ≤ 17179869184) ∧ qcX (σ := (List Int) × (List Bool) × Unit) (fun (h : (List Int) × (List Bool) × Unit) d => match h with | (a, c, _) => qa1 (decide ((a.length : Int) > 0)) (((0 ≤ (0 : Int) ∧ (0 : Int) < (a.length : Int)) ∧ ((0 ≤ (1 : Int) ∧ (1 : Int) ≤ (a.length : Int)) ∧ ((0 ≤ (rd a 0) ∧ (rd a 0) < (c.length : Int)) ∧ qa1 (rd c (rd a 0)) (d ((List.drop ((1 : Int).toNat) a), c, ())) (qa1 ((rd a 0) == g) (d ((List.drop ((1 : Int).toNat) a), c, ())) (qa1 ((rd a 0) == (b.length : Int)) (Q false) (((0 ≤ (rd a 0) ∧ (rd a 0) < (c.length : Int)) ∧ (M.qfi b (rd a 0) ∧ ∀ e, e = M.qcr b (rd a 0) → (((List.drop ((1 : Int).toNat) a).length + e.length ≤ 17179869184) ∧ d (((List.drop ((1 : Int).toNat) a) ++ e), (List.set c ((rd a 0).toNat) true), ()))))))))))) (Q true)) (([f] : List Int), (List.replicate ((wrap .i64 ((b.length : Int) + 1)).toNat) (default : Bool)), ())))
def wp.qcw (b : List D.Ins) (c : Int) (Q : (List Int) → Prop) : Prop :=
 (M.qe2 b c ∧ ∀ e, e = M.qaN b c → qa1 (!e) (Q ([] : List Int)) (qcX (σ := (List Int) × Int × Unit) (fun (h : (List Int) × Int × Unit) f => match h with | (d, a, _) => qa1 (decide (a ≤ (b.length : Int))) ((M.qeZ b c a ∧ ∀ g, g = M.qcN b c a → qa1 g (((d.length + ([a] : List Int).length ≤ 17179869184) ∧ f ((d ++ ([a] : List Int)), (wrap .i64 (a + 1)), ()))) (f (d, (wrap .i64 (a + 1)), ())))) (Q d)) (([] : List Int), 0, ())))
def wp.qdi (d : List D.Ins) (a : List Int) (Q : Int → Prop) : Prop :=
 qcX (σ := Int × Unit) (fun (h : Int × Unit) i => match h with | (b, _) => qa1 (decide (b < (a.length : Int))) (qcX (σ := Bool × Int × Unit) (fun (j : Bool × Int × Unit) e => match j with | (f, c, _) => qa1 (decide (c < (a.length : Int))) (qa1 f (((0 ≤ b ∧ b < (a.length : Int)) ∧ ((0 ≤ c ∧ c < (a.length : Int)) ∧ (M.qeZ d (rd a b) (rd a c) ∧ ∀ g, g = M.qcN d (rd a b) (rd a c) → e (g, (wrap .i64 (c + 1)), ()))))) (e (false, (wrap .i64 (c + 1)), ()))) (qa1 f (((0 ≤ b ∧ b < (a.length : Int)) ∧ Q (rd a b))) (i ((wrap .i64 (b + 1)), ())))) (true, 0, ())) (Q (-1))) (0, ())
def wp.qcj (a : List D.Ins) (b : Int) (Q : Int → Prop) : Prop :=
 (M.qg8 a b ∧ ∀ c, c = M.qcw a b → (M.qfH c b ∧ ∀ d, d = M.qd3 c b → (M.qga a d ∧ ∀ e, e = M.qdi a d → Q e)))
def wp.qcD (a : List D.Ins) (b : Int) (Q : Int → Prop) : Prop :=
 (M.qe2 a (wrap .i64 (b + 1)) ∧ ∀ c, c = M.qaN a (wrap .i64 (b + 1)) → qa1 (!c) (Q (a.length : Int)) (((0 ≤ b ∧ b < (a.length : Int)) ∧ (M.qe2 a ((rd a b).B) ∧ ∀ d, d = M.qaN a ((rd a b).B) → qa1 (!d) (Q (a.length : Int)) ((M.qfv a b ∧ ∀ e, e = M.qcj a b → Q e))))))
end Go.V
namespace Go.V
open IntKind (wrap)
theorem qjD {g : Int → Bool} {x : Int} : ∀ {n : Nat}, x ∈ M.idx g n ↔ ∃ k : Nat, k < n ∧ x = (k : Int) ∧ g x = true
 | 0 => by simp [M.idx]
 | n + 1 => by
  have ih := qjD (g := g) (x := x) (n := n)
  unfold M.idx
  constructor
  ·intro h
   split at h
   ·rename_i e
    rcases List.mem_append.1 h with h | h
    ·obtain ⟨k, hk, h1, h2⟩ := ih.1 h; exact ⟨k, by omega, h1, h2⟩
    ·obtain rfl := List.mem_singleton.1 h; exact ⟨n, by omega, rfl, e⟩
   ·obtain ⟨k, hk, h1, h2⟩ := ih.1 h; exact ⟨k, by omega, h1, h2⟩
  ·rintro ⟨k, hk, rfl, h2⟩
   by_cases hkn : k = n
   ·subst hkn; rw [if_pos h2]; simp
   ·have := ih.2 ⟨k, by omega, rfl, h2⟩
    split
    ·exact List.mem_append_left _ this
    ·exact this
theorem ql2 (g : Int → Bool) : ∀ n, (M.idx g n).length ≤ n
 | 0 => by simp [M.idx]
 | n + 1 => by
  have := ql2 g n
  unfold M.idx
  split <;> simp <;> omega
theorem qkV {n : Nat} {g : Int → Bool} {B : (List Int × Int × Unit) → ((List Int × Int × Unit) → Prop) → Prop}
    (hb : ∀ (k : Nat) (xs : List Int) (next : (List Int × Int × Unit) → Prop), k < n → xs = M.idx g k → xs.length ≤ k → (g (k : Int) = true → next (xs ++ [(k : Int)], ((k + 1 : Nat) : Int), ())) → (g (k : Int) = false → next (xs, ((k + 1 : Nat) : Int), ())) → B (xs, (k : Int), ()) next)
    (he : ∀ next : (List Int × Int × Unit) → Prop, B (M.idx g n, (n : Int), ()) next) : qcX B ([], 0, ()) := by
 refine qcS n (fun k => (M.idx g k, (k : Int), ())) (fun _ => True) rfl trivial (fun k hk _ next hn => ?_) fun _ next => he next
 have hn := hn trivial
 unfold M.idx at hn
 exact hb k _ next hk rfl (ql2 g k) (fun e => by rwa [if_pos e] at hn) fun e => by rwa [if_neg (by rw [e]; simp)] at hn
theorem qp8 {p : List D.Ins} (hp : M.qb6 p = true) {k : Int} (h0 : 0 ≤ k) (h1 : k < (p.length : Int)) : M.qdD (rd p k) p.length = true := by
 simp only [M.qb6, Bool.and_eq_true, decide_eq_true_eq, List.all_eq_true] at hp
 exact hp.2 _ (qke h0 h1)
theorem qhm {p : List D.Ins} (hp : M.qb6 p = true) : p.length ≤ 32 := by
 simp only [M.qb6, Bool.and_eq_true, decide_eq_true_eq] at hp
 exact hp.1
theorem qhe {i : D.Ins} {n : Int} (h : M.qdD i n = true) (e : i.Op = 10 ∨ i.Op = 11) : 0 ≤ i.B ∧ i.B ≤ n := by
 simp only [M.qdD, Bool.and_eq_true] at h
 have h := h.2
 rcases e with e | e
 ·rw [if_neg (by omega), if_neg (by omega), if_neg (by omega), if_neg (by omega), if_pos e] at h
  simp only [Bool.and_eq_true, M.isIn, decide_eq_true_eq] at h
  exact h.2.1
 ·rw [if_neg (by omega), if_neg (by omega), if_neg (by omega), if_neg (by omega), if_neg (by omega), if_pos e] at h
  simp only [Bool.and_eq_true, M.isIn, decide_eq_true_eq] at h
  exact h.2.1
theorem qiP {a b x : Int} : x ∈ M.qhs a b ↔ x = a ∨ x = b := by
 unfold M.qhs
 split
 ·simp [or_comm]
 split
 ·rename_i h1 h2; subst h2; simp
 ·simp
theorem qkA (a b : Int) : (M.qhs a b).length ≤ 2 := by
 unfold M.qhs
 (repeat' split) <;> simp
theorem qiF {p : List D.Ins} {k : Int} (h : M.Node p k) : (∀ x ∈ M.qeu p k, M.qe9 p x) ∧ (M.qeu p k).length ≤ 2 := by
 obtain ⟨hp, h0, h1⟩ := h
 unfold M.qeu
 split
 ·exact ⟨fun x hx => absurd hx List.not_mem_nil, by simp⟩
 rename_i hne
 have hlt : k < (p.length : Int) := by omega
 have hi := qp8 hp h0 hlt
 split
 ·exact ⟨fun x hx => by obtain rfl := List.mem_singleton.1 hx; exact ⟨by omega, by omega⟩, by simp⟩
 split
 ·rename_i e
  exact ⟨fun x hx => by obtain rfl := List.mem_singleton.1 hx; exact qhe hi (.inr e), by simp⟩
 split
 ·rename_i e
  refine ⟨fun x hx => ?_, qkA _ _⟩
  rcases qiP.1 hx with rfl | rfl
  ·exact ⟨by omega, by omega⟩
  ·exact qhe hi (.inl e)
 ·exact ⟨fun x hx => by obtain rfl := List.mem_singleton.1 hx; exact ⟨by omega, by omega⟩, by simp⟩
def qhL (l : List Bool) : Nat := l.count false
theorem qiN : ∀ {l : List Bool} {k : Nat}, k < l.length → l[k]? = some false → qhL (l.set k true) + 1 = qhL l
 | [], k, hk, _ => absurd hk (by simp)
 | b :: l, 0, hk, h => by
  simp at h; subst h
  simp [qhL]
 | b :: l, k + 1, hk, h => by
  have := qiN (l := l) (k := k) (by simpa using hk) (by simpa using h)
  unfold qhL at *
  simp only [List.set_cons_succ, List.count_cons]
  omega
theorem rdB {l : List Bool} {k : Int} (h0 : 0 ≤ k) (h1 : k < (l.length : Int)) : l[k.toNat]? = some (rd l k) := by
 have : k.toNat < l.length := by omega
 simp [rd, List.getD_eq_getElem?_getD, this]
theorem qiM {l : List Bool} {k j : Int} (h0 : 0 ≤ k) (h1 : k < (l.length : Int)) (hj : 0 ≤ j) : rd (l.set k.toNat true) j = if j = k then true else rd l j := by
 unfold rd
 rw [List.getD_eq_getElem?_getD, List.getD_eq_getElem?_getD, List.getElem?_set]
 by_cases e : j = k
 ·subst e
  have : j.toNat < l.length := by omega
  simp [this]
 ·have : ¬ k.toNat = j.toNat := by omega
  rw [if_neg this, if_neg e]
theorem qml (p : List D.Ins) (wo : Int) : ∀ (f : Nat) (work : List Int) (seen : List Bool), (M.bfs p wo f work seen).length = seen.length
 | 0, _, _ => rfl
 | f + 1, [], _ => rfl
 | f + 1, k :: work, seen => by
  unfold M.bfs
  split
  ·exact qml p wo f _ _
  ·rw [qml p wo f]; simp
theorem ql4 (p : List D.Ins) (wo : Int) {j : Int} (hj : 0 ≤ j) : ∀ (f : Nat) (work : List Int) (seen : List Bool), (∀ x ∈ work, M.Node p x) → seen.length = p.length + 1 → rd seen j = true → rd (M.bfs p wo f work seen) j = true
 | 0, _, _, _, _, h => h
 | f + 1, [], _, _, _, h => h
 | f + 1, k :: work, seen, hw, hl, h => by
  have hk := hw k List.mem_cons_self
  have hr : ∀ x ∈ work, M.Node p x := fun x hx => hw x (List.mem_cons_of_mem _ hx)
  unfold M.bfs
  split
  ·exact ql4 p wo hj f _ _ hr hl h
  ·refine ql4 p wo hj f _ _ (fun x hx => (List.mem_append.1 hx).elim (hr x) fun h' => ⟨hk.1, (qiF hk).1 x h'⟩) (by simpa using hl) ?_
   have hk2 := hk.2
   unfold M.qe9 at hk2
   rw [qiM hk2.1 (by omega) hj]
   split
   ·rfl
   ·exact h
theorem qkX {p : List D.Ins} {wo : Int} {I : List Bool → Prop} {B : (List Int × List Bool × Unit) → ((List Int × List Bool × Unit) → Prop) → Prop} {work0 : List Int} {seen0 R : List Bool} {fuel : Nat}
    (hs : M.Starts p work0) (hl0 : seen0.length = p.length + 1) (hI0 : I seen0) (hR : M.bfs p wo fuel work0 seen0 = R) (hf : 3 * qhL seen0 + work0.length ≤ fuel)
    (hb0 : ∀ (k : Int) (rest : List Int) (seen : List Bool) (next : (List Int × List Bool × Unit) → Prop), M.Node p k → seen.length = p.length + 1 → I seen → (k = wo ∨ rd seen k = true) → next (rest, seen, ()) → B (k :: rest, seen, ()) next)
    (hb1 : ∀ (k : Int) (rest : List Int) (seen : List Bool) (next : (List Int × List Bool × Unit) → Prop), M.Node p k → seen.length = p.length + 1 → I seen → ¬ k = wo → rd seen k = false → rd R k = true → rest.length + (M.qeu p k).length ≤ 17179869184 → (I (seen.set k.toNat true) → next (rest ++ M.qeu p k, seen.set k.toNat true, ())) → B (k :: rest, seen, ()) next)
    (he : ∀ (next : (List Int × List Bool × Unit) → Prop), I R → B ([], R, ()) next) : qcX B (work0, seen0, ()) := by
 obtain ⟨hp, hw, h4⟩ := hs
 have h32 := qhm hp
 have hc0 : qhL seen0 ≤ p.length + 1 := by unfold qhL; rw [← hl0]; exact List.count_le_length
 refine ⟨fun m z => ∃ work seen f, z = (work, seen, ()) ∧ m = 3 * qhL seen + work.length ∧ m ≤ f ∧ M.bfs p wo f work seen = R ∧ seen.length = p.length + 1 ∧ (∀ x ∈ work, M.Node p x) ∧ m ≤ 200 ∧ I seen,
  ⟨_, work0, seen0, fuel, rfl, rfl, hf, hR, hl0, fun x hx => ⟨hp, hw x hx⟩, by omega, hI0⟩, ?_⟩
 rintro m z ⟨work, seen, f, rfl, rfl, hmf, hbf, hl, hwk, hm, hI⟩
 cases work with
 | nil =>
  have : seen = R := by
   cases f with
   | zero => exact hbf
   | succ f => exact hbf
  subst this
  exact he _ hI
 | cons k rest =>
  have hk := hwk k List.mem_cons_self
  have hr : ∀ x ∈ rest, M.Node p x := fun x hx => hwk x (List.mem_cons_of_mem _ hx)
  cases f with
  | zero => simp at hmf
  | succ f =>
   by_cases hc : k = wo ∨ rd seen k = true
   ·refine hb0 k rest seen _ hk hl hI hc ⟨_, ?_, rest, seen, f, rfl, rfl, ?_, ?_, hl, hr, ?_, hI⟩
    ·simp
    ·simp at hmf; omega
    ·rw [M.bfs, if_pos hc] at hbf; exact hbf
    ·simp at hm; omega
   ·have h1 : ¬ k = wo := fun e => hc (.inl e)
    have h2 : rd seen k = false := by simpa using fun e => hc (.inr e)
    have hk2 := hk.2
    unfold M.qe9 at hk2
    have hn := qiF hk
    have hfs := qiN (l := seen) (k := k.toNat) (by omega) (by rw [rdB hk2.1 (by omega), h2])
    rw [M.bfs, if_neg hc] at hbf
    have hw' : ∀ x ∈ rest ++ M.qeu p k, M.Node p x := fun x hx => (List.mem_append.1 hx).elim (hr x) fun h' => ⟨hk.1, hn.1 x h'⟩
    have hR' : rd R k = true := by
     rw [← hbf]
     refine ql4 p wo hk2.1 f _ _ hw' (by simpa using hl) ?_
     rw [qiM hk2.1 (by omega) hk2.1, if_pos rfl]
    refine hb1 k rest seen _ hk hl hI h1 h2 hR' ?_ fun hI' => ⟨_, ?_, _, _, f, rfl, rfl, ?_, hbf, by simpa using hl, hw', ?_, hI'⟩
    ·simp at hm; omega
    ·simp only [List.length_append, List.length_cons]; omega
    ·simp only [List.length_append, List.length_cons] at *; omega
    ·simp only [List.length_append, List.length_cons] at *; omega
theorem qhO (n : Nat) : (List.replicate (n + 1) false).length = n + 1 := by simp
theorem qh3 (n : Nat) : qhL (List.replicate (n + 1) false) = n + 1 := by simp [qhL]
theorem qld (n : Nat) (k : Int) : rd (List.replicate (n + 1) false) k = false := by
 unfold rd
 rw [List.getD_eq_getElem?_getD, List.getElem?_replicate]
 split <;> rfl
inductive Rch (p : List D.Ins) (wo : Int) (frm : List Int) : Int → Prop
 | base {s : Int} : s ∈ frm → s ≠ wo → Rch p wo frm s
 | step {k s : Int} : Rch p wo frm k → s ∈ M.qeu p k → s ≠ wo → Rch p wo frm s
theorem qjA {p : List D.Ins} {wo : Int} {frm : List Int} : ∀ (f : Nat) (work : List Int) (seen : List Bool), (∀ x ∈ work, M.Node p x) → seen.length = p.length + 1 → (∀ x ∈ work, x = wo ∨ Rch p wo frm x) → (∀ x, 0 ≤ x → rd seen x = true → Rch p wo frm x) →
    ∀ x, 0 ≤ x → rd (M.bfs p wo f work seen) x = true → Rch p wo frm x
 | 0, _, _, _, _, _, h => h
 | f + 1, [], _, _, _, _, h => h
 | f + 1, k :: work, seen, hw, hl, hwr, h => by
  have hk := hw k List.mem_cons_self
  have hk2 := hk.2
  unfold M.qe9 at hk2
  have hr : ∀ x ∈ work, M.Node p x := fun x hx => hw x (List.mem_cons_of_mem _ hx)
  have hwr' : ∀ x ∈ work, x = wo ∨ Rch p wo frm x := fun x hx => hwr x (List.mem_cons_of_mem _ hx)
  unfold M.bfs
  split
  ·exact qjA f work seen hr hl hwr' h
  ·rename_i hc
   have hkR : Rch p wo frm k := (hwr k List.mem_cons_self).resolve_left fun e => hc (.inl e)
   refine qjA f _ _ (fun x hx => (List.mem_append.1 hx).elim (hr x) fun h' => ⟨hk.1, (qiF hk).1 x h'⟩) (by simpa using hl) (fun x hx => (List.mem_append.1 hx).elim (hwr' x) fun h' => ?_) fun x hx hs => ?_
   ·by_cases e : x = wo
    ·exact .inl e
    ·exact .inr (.step hkR h' e)
   ·rw [qiM hk2.1 (by omega) hx] at hs
    split at hs
    ·rename_i e; rw [e]; exact hkR
    ·exact h x hx hs
def Closed (p : List D.Ins) (wo : Int) (frm work : List Int) (seen : List Bool) : Prop :=
 (∀ s ∈ frm, s ≠ wo → rd seen s = true ∨ s ∈ work) ∧ ∀ k, M.qe9 p k → rd seen k = true → ∀ s ∈ M.qeu p k, s ≠ wo → rd seen s = true ∨ s ∈ work
theorem qiT {p : List D.Ins} {wo : Int} {frm : List Int} : ∀ (f : Nat) (work : List Int) (seen : List Bool), (∀ x ∈ work, M.Node p x) → (∀ x ∈ frm, M.qe9 p x) → seen.length = p.length + 1 → 3 * qhL seen + work.length ≤ f → Closed p wo frm work seen → Closed p wo frm [] (M.bfs p wo f work seen)
 | 0, work, seen, _, _, _, hf, hc => by
  have : work = [] := List.eq_nil_of_length_eq_zero (by omega)
  subst this; exact hc
 | f + 1, [], seen, _, _, _, _, hc => hc
 | f + 1, k :: work, seen, hw, hfr, hl, hf, hc => by
  have hk := hw k List.mem_cons_self
  have hk2 := hk.2
  have hk3 := hk.2
  unfold M.qe9 at hk2
  have hr : ∀ x ∈ work, M.Node p x := fun x hx => hw x (List.mem_cons_of_mem _ hx)
  simp only [List.length_cons] at hf
  obtain ⟨c1, c2⟩ := hc
  unfold M.bfs
  split
  ·rename_i hd
   have drop : ∀ s, s ≠ wo → (rd seen s = true ∨ s ∈ k :: work) → rd seen s = true ∨ s ∈ work := by
    intro s hs h
    rcases h with h | h
    ·exact .inl h
    rcases List.mem_cons.1 h with rfl | h
    ·exact .inl (hd.resolve_left hs)
    ·exact .inr h
   exact qiT f work seen hr hfr hl (by omega) ⟨fun s hs hne => drop s hne (c1 s hs hne), fun j hj hsj s hs hne => drop s hne (c2 j hj hsj s hs hne)⟩
  ·rename_i hd
   have h2 : rd seen k = false := by simpa using fun e => hd (.inr e)
   have hfs := qiN (l := seen) (k := k.toNat) (by omega) (by rw [rdB hk2.1 (by omega), h2])
   have hn := qiF hk
   have up : ∀ s, M.qe9 p s → (rd seen s = true ∨ s ∈ k :: work) → rd (seen.set k.toNat true) s = true ∨ s ∈ work ++ M.qeu p k := by
    intro s hs h
    have hs2 := hs
    unfold M.qe9 at hs2
    rw [qiM hk2.1 (by omega) hs2.1]
    rcases h with h | h
    ·left; split; rfl; exact h
    rcases List.mem_cons.1 h with rfl | h
    ·left; rw [if_pos rfl]
    ·exact .inr (List.mem_append_left _ h)
   refine qiT f _ _ (fun x hx => (List.mem_append.1 hx).elim (hr x) fun h' => ⟨hk.1, hn.1 x h'⟩) hfr (by simpa using hl) (by simp only [List.length_append]; omega)
    ⟨fun s hs hne => up s (hfr s hs) (c1 s hs hne), fun j hj hsj s hs hne => ?_⟩
   have hj2 := hj
   unfold M.qe9 at hj2
   rw [qiM hk2.1 (by omega) hj2.1] at hsj
   split at hsj
   ·rename_i e; subst e
    exact .inr (List.mem_append_right _ hs)
   ·exact up s ((qiF ⟨hk.1, hj⟩).1 s hs) (c2 j hj hsj s hs hne)
theorem qp1 {p : List D.Ins} {wo : Int} {frm : List Int} (hp : M.qb6 p = true) (hf : ∀ x ∈ frm, M.qe9 p x) {x : Int} (h : Rch p wo frm x) : M.qe9 p x := by
 induction h with
 | base h _ => exact hf _ h
 | step _ hs _ ih => exact (qiF ⟨hp, ih⟩).1 _ hs
theorem qeV {p : List D.Ins} {wo : Int} {frm : List Int} (hp : M.qb6 p = true) (hf : ∀ x ∈ frm, M.qe9 p x) {x : Int} (hx : M.qe9 p x) : rd (M.reached p frm wo) x = true ↔ Rch p wo frm x := by
 constructor
 ·intro h
  refine qjA (frm := frm) _ frm _ (fun y hy => ⟨hp, hf y hy⟩) (qhO _) (fun y hy => ?_) (fun y _ hs => by rw [qld] at hs; cases hs) x hx.1 h
  by_cases e : y = wo
  ·exact .inl e
  ·exact .inr (.base hy e)
 ·intro h
  have hc := qiT (p := p) (wo := wo) (frm := frm) (3 * (p.length + 1) + frm.length) frm (List.replicate (p.length + 1) false) (fun y hy => ⟨hp, hf y hy⟩) hf (qhO _) (by rw [qh3]; omega)
   ⟨fun s hs _ => .inr hs, fun k _ hs => by rw [qld] at hs; cases hs⟩
  clear hx
  induction h with
  | base h hne => exact (hc.1 _ h hne).resolve_right List.not_mem_nil
  | step hk hs hne ih => exact (hc.2 _ (qp1 hp hf hk) ih _ hs hne).resolve_right List.not_mem_nil
theorem qjK (p : List D.Ins) (frm : List Int) (wo : Int) : (M.reached p frm wo).length = p.length + 1 := by
 unfold M.reached; rw [qml]; simp
theorem qm9 {p : List D.Ins} {k later : Int} (h : M.Node p k) (hl : M.qe9 p later) (h1 : M.qfw p k = true) (h2 : M.qdF p k later = true) : M.qfw p later = true := by
 obtain ⟨hp, hk⟩ := h
 have hn : M.qe9 p (p.length : Int) := ⟨by omega, by omega⟩
 have one : ∀ z, M.qe9 p z → ∀ x ∈ [z], M.qe9 p x := fun z hz x hx => by obtain rfl := List.mem_singleton.1 hx; exact hz
 have r1 := (qeV hp (one k hk) hn).1 h1
 have r2 : ¬ Rch p later [k] (p.length : Int) := fun hr => by
  have := (qeV hp (one k hk) hn).2 hr
  unfold M.qdF at h2
  rw [this] at h2; cases h2
 have hl1 : later ≠ -1 := by have := hl.1; omega
 have key : ∀ x, Rch p (-1) [k] x → Rch p later [k] x ∨ Rch p (-1) [later] x := by
  intro x hx
  induction hx with
  | @base s hs hne =>
   by_cases e : s = later
   ·exact .inr (.base (by simp [e]) hne)
   ·exact .inl (.base hs e)
  | @step j s _ hs hne ih =>
   rcases ih with ih | ih
   ·by_cases e : s = later
    ·exact .inr (.base (by simp [e]) hne)
    ·exact .inl (.step ih hs e)
   ·exact .inr (.step ih hs hne)
 exact (qeV hp (one later hl) hn).2 ((key _ r1).resolve_left r2)
theorem qjI {p : List D.Ins} (h : M.qfG p) : wrap .i64 ((p.length : Int) + 1) = ((p.length + 1 : Nat) : Int) := by
 unfold M.qfG at h
 rw [w64 (by omega) (by omega)]; push_cast; rfl
theorem qgH {p : List D.Ins} (hp : M.qb6 p = true) : M.qfG p := by have := qhm hp; unfold M.qfG; omega
theorem qi3 {p : List D.Ins} (h : M.qfG p) : M.Long p := by unfold M.qfG at h; unfold M.Long; omega
theorem qjs {l : List Int} {g : Int → Bool} {k : Nat} (hk : k < l.length) : (l.take (k + 1)).filter g = if g (rd l (k : Int)) then (l.take k).filter g ++ [rd l (k : Int)] else (l.take k).filter g := by
 rw [List.take_add_one, List.getElem?_eq_getElem hk, qcV hk, List.filter_append]
 by_cases e : g l[k] = true
 ·simp [e]
 ·simp [e]
theorem wp.qd3.math (l : List Int) (n : Int) (h : M.qfH l n) : wp.qd3 l n (fun r => r = M.qd3 l n) := by
 have hl : l.length ≤ 17179869183 := h
 refine qcS l.length (fun k => ((l.take k).filter (fun x => x != n), (k : Int), ())) (fun _ => True) rfl trivial (fun k hk _ next hn => ?_) fun _ next => ?_
 ·have hn := hn trivial
  rw [qjs hk] at hn
  have hle := List.length_filter_le (fun x => x != n) (l.take k)
  have hle2 : (l.take k).length ≤ k := by simp; omega
  refine qaH (by simp; omega) ⟨by omega, qa2 (fun e => ⟨by omega, ?_, ?_⟩) fun e => ?_⟩
  ·simp only [List.length_singleton]; omega
  ·rw [if_pos e] at hn; rw [up64 hk (by omega)]; exact hn
  ·rw [if_neg (by rw [e]; simp)] at hn; rw [up64 hk (by omega)]; exact hn
 ·refine qaA (by simp) ?_
  rw [List.take_length]; rfl
theorem wp.qdU.math (p : List D.Ins) (k : Int) (h : M.qh9 p k) : wp.qdU p k (fun r => r = M.qdU p k) := by
 refine ⟨qi3 h, fun r hr => qa2 (fun e r2 hr2 => ?_) fun e => ?_⟩
 all_goals have hr' : r = M.qb6 p := hr
 ·rw [hr2]; simp [M.qdU, M.qf5, ← hr', e, M.qaV]
 ·simp [M.qdU, M.qf5, ← hr', e]
theorem qmB (l : List Int) (n : Int) : ∀ k, M.putAt l n k ≤ k
 | 0 => Nat.le_refl _
 | k + 1 => by
  unfold M.putAt
  split
  ·have := qmB l n k; omega
  ·exact Nat.le_refl _
theorem qnq {σ : Type} {A : (σ → Prop) → Prop} {B : σ → Prop} (v : σ) (h : B v) (hA : ∀ J : σ → Prop, J v → A J) : qf9 A B := hA B h
theorem wp.qbf.math (l : List Int) (n : Int) (h : M.qgM l n) : wp.qbf l n (fun r => r = M.qbf l n) := by
 have hl : l.length ≤ 17179869183 := h
 have hle := qmB l n l.length
 have wd : ∀ k : Nat, 0 < k → k ≤ l.length → wrap .i64 ((k : Int) - 1) = ((k - 1 : Nat) : Int) := fun k h0 hk => by rw [w64 (by omega) (by omega)]; omega
 refine qnq (((M.putAt l n l.length : Nat) : Int), ()) ?_ fun J hJ => ?_
 ·generalize hq : M.putAt l n l.length = q at *
  have hd : ((q : Int)).toNat = q := by simp
  have tail : ¬ (q > 0 ∧ rd l ((q : Int) - 1) = n) → (0 ≤ (q : Int) ∧ (q : Int) ≤ (l.length : Int)) ∧ (([] : List Int).length + (List.take ((q : Int).toNat) l).length ≤ 17179869184) ∧ ((([] : List Int) ++ List.take ((q : Int).toNat) l).length + ([n] : List Int).length ≤ 17179869184) ∧ (0 ≤ (q : Int) ∧ (q : Int) ≤ (l.length : Int)) ∧ (((([] : List Int) ++ List.take ((q : Int).toNat) l) ++ [n]).length + (List.drop ((q : Int).toNat) l).length ≤ 17179869184) ∧ ((([] : List Int) ++ List.take ((q : Int).toNat) l) ++ [n]) ++ List.drop ((q : Int).toNat) l = M.qbf l n := by
   intro hn
   rw [hd]
   refine ⟨by omega, by simp; omega, by simp; omega, by omega, by simp; omega, ?_⟩
   simp only [M.qbf, hq]
   rw [if_neg hn]; simp
  show qf9 (σ := Unit) _ _
  refine qa2 (fun e => ⟨?_, qa2 (fun e2 => ?_) fun e2 => ?_⟩) fun e => ?_
  ·have e : q > 0 := by simp at e; omega
   rw [wd q e hle]; omega
  ·have e : q > 0 := by simp at e; omega
   rw [wd q e hle] at e2
   have e2 : rd l ((q : Int) - 1) = n := by rw [show (q : Int) - 1 = ((q - 1 : Nat) : Int) by omega]; simpa using e2
   simp only [M.qbf, hq]
   rw [if_pos ⟨e, e2⟩]
  ·have e : q > 0 := by simp at e; omega
   rw [wd q e hle] at e2
   refine tail fun hh => ?_
   rw [show (q : Int) - 1 = ((q - 1 : Nat) : Int) by omega] at hh
   have := hh.2
   simp [this] at e2
  ·have e : ¬ q > 0 := by simp at e; omega
   exact tail fun hh => e hh.1
 ·refine ⟨fun m z => ∃ k : Nat, z = ((k : Int), ()) ∧ m = k ∧ k ≤ l.length ∧ M.putAt l n k = M.putAt l n l.length, ⟨l.length, l.length, rfl, rfl, Nat.le_refl _, rfl⟩, ?_⟩
  rintro k z ⟨_, rfl, rfl, hk, hput⟩
  refine qa2 (fun e => ⟨?_, qa2 (fun e2 => ?_) fun e2 => ?_⟩) fun e => ?_
  ·have e : k > 0 := by simp at e; omega
   rw [wd k e hk]; omega
  ·have e : k > 0 := by simp at e; omega
   rw [wd k e hk] at e2 ⊢
   refine ⟨k - 1, by omega, k - 1, rfl, rfl, by omega, ?_⟩
   rw [← hput]
   obtain ⟨j, rfl⟩ : ∃ j, k = j + 1 := ⟨k - 1, by omega⟩
   rw [M.putAt, if_pos (by simpa using e2)]; rfl
  ·have e : k > 0 := by simp at e; omega
   rw [wd k e hk] at e2
   obtain ⟨j, rfl⟩ : ∃ j, k = j + 1 := ⟨k - 1, by omega⟩
   rw [M.putAt, if_neg (by simpa using e2)] at hput
   rw [← hput] at hJ; exact hJ
  ·have e : k = 0 := by simp at e; omega
   subst e
   rw [← hput] at hJ; exact hJ
theorem qpw (a b : Int) : M.qbf [a] b = M.qhs a b := by
 unfold M.qbf M.qhs
 have hq : M.putAt [a] b 1 = if a > b then 0 else 1 := by
  unfold M.putAt
  have : rd [a] ((0 : Nat) : Int) = a := rfl
  rw [this]
  split <;> rfl
 have h1l : ([a] : List Int).length = 1 := rfl
 by_cases h1 : b < a
 ·have hq' : M.putAt [a] b ([a] : List Int).length = 0 := by rw [h1l, hq, if_pos h1]
  rw [hq', if_pos h1, if_neg (by omega)]; simp
 ·have hq' : M.putAt [a] b ([a] : List Int).length = 1 := by rw [h1l, hq, if_neg h1]
  rw [hq', if_neg h1]
  have : rd [a] (((1 : Nat) : Int) - 1) = a := rfl
  rw [this]
  by_cases h2 : b = a
  ·rw [if_pos h2, if_pos ⟨by omega, h2.symm⟩]
  ·rw [if_neg h2, if_neg (fun h => h2 h.2.symm)]; simp
theorem wp.qcr.math (p : List D.Ins) (k : Int) (h : M.qfi p k) : wp.qcr p k (fun r => r = M.qcr p k) := by
 obtain ⟨hp, h0, h1⟩ := h
 have h32 := qhm hp
 have hw : wrap .i64 (k + 1) = k + 1 := w64 (by omega) (by omega)
 unfold wp.qcr
 rw [hw]
 refine qa2 (fun e => ?_) fun e => ?_
 ·have e : k = p.length := by simpa using e
  simp [M.qcr, M.qeu, e]
 have e : ¬ k = p.length := by simpa using e
 refine ⟨by omega, qa2 (fun e1 => ?_) fun e1 => qa2 (fun e2 => ⟨by omega, ?_⟩) fun e2 => qa2 (fun e3 => ⟨by omega, by show (1 : Nat) ≤ 17179869183; omega, fun r hr => ?_⟩) fun e3 => ?_⟩
 all_goals simp only [M.qcr, M.qeu]
 all_goals rw [if_neg e]
 ·rw [if_pos (by simpa using e1)]
 ·rw [if_neg (by simpa using e1), if_pos (by simpa using e2)]
 ·rw [if_neg (by simpa using e1), if_neg (by simpa using e2), if_pos (by simpa using e3), hr, qpw]
 ·rw [if_neg (by simpa using e1), if_neg (by simpa using e2), if_neg (by simpa using e3)]
theorem qgG {k : Int} {rest : List Int} : rd (k :: rest) 0 = k ∧ List.drop ((1 : Int).toNat) (k :: rest) = rest ∧ (0 ≤ (0 : Int) ∧ (0 : Int) < ((k :: rest).length : Int)) ∧ (0 ≤ (1 : Int) ∧ (1 : Int) ≤ ((k :: rest).length : Int)) ∧ decide (((k :: rest).length : Int) > 0) = true := by
 refine ⟨rfl, rfl, by simp only [List.length_cons]; omega, by simp only [List.length_cons]; omega, ?_⟩
 simp only [List.length_cons, decide_eq_true_eq]; omega
theorem qmb {p : List D.Ins} (hp : M.qb6 p = true) : List.replicate ((wrap .i64 ((p.length : Int) + 1)).toNat) (default : Bool) = List.replicate (p.length + 1) false := by
 rw [qjI (qgH hp)]; rfl
theorem qfO {p : List D.Ins} {k : Int} {seen : List Bool} (h : M.Node p k) (hl : seen.length = p.length + 1) : 0 ≤ k ∧ k < (seen.length : Int) := by
 obtain ⟨_, h0, h1⟩ := h
 omega
theorem wp.qcL.math (p : List D.Ins) (l : List Int) (h : M.qg2 p l) : wp.qcL p l (fun r => r = M.qcL p l) := by
 have hp := h.1
 have h32 := qhm hp
 have h4 := h.2.2
 unfold wp.qcL
 rw [qmb hp, qjI (qgH hp)]
 refine ⟨by omega, by simp; omega, ?_⟩
 rw [List.nil_append]
 refine qkX (wo := -1) (I := fun _ => True) h (qhO _) trivial (R := M.qcL p l) rfl (by rw [qh3]; omega) (fun k rest seen next hk hl _ hc hn => ?_) (fun k rest seen next hk hl _ h1 h2 _ h5 hn => ?_) fun next _ => qaA rfl rfl
 ·obtain ⟨f1, f2, f3, f4, f5⟩ := qgG (k := k) (rest := rest)
  refine qaH f5 ⟨f3, f4, ?_⟩
  rw [f1, f2]
  have hk1 : ¬ k = -1 := by have := hk.2.1; omega
  exact ⟨qfO hk hl, qaH (hc.resolve_left hk1) hn⟩
 ·obtain ⟨f1, f2, f3, f4, f5⟩ := qgG (k := k) (rest := rest)
  refine qaH f5 ⟨f3, f4, ?_⟩
  rw [f1, f2]
  refine ⟨qfO hk hl, qaA h2 ⟨qfO hk hl, hk, fun r hr => ?_⟩⟩
  have hr' : r = M.qeu p k := hr
  rw [hr']
  exact ⟨h5, hn trivial⟩
theorem qmK {p : List D.Ins} {k : Int} (h : M.Node p k) : M.Starts p [k] := ⟨h.1, fun x hx => by obtain rfl := List.mem_singleton.1 hx; exact h.2, by simp⟩
theorem qeW {p : List D.Ins} {k : Int} : M.qf5 p k = true ↔ M.Node p k := by
 simp only [M.qf5, M.Node, M.qe9, Bool.and_eq_true, M.isIn, decide_eq_true_eq]
theorem wp.qaN.math (p : List D.Ins) (k : Int) (h : M.qe2 p k) : wp.qaN p k (fun r => r = M.qaN p k) := by
 refine ⟨h, fun r hr => qa2 (fun e => ?_) fun e => ?_⟩
 all_goals have hr' : r = M.qf5 p k := hr
 ·have hN := qeW.1 (hr'.symm.trans e)
  refine ⟨qmK hN, fun r2 hr2 => ⟨?_, ?_⟩⟩
  ·rw [hr2]; show _ ∧ _ < ((M.reached p [k] (-1)).length : Int); rw [qjK]; omega
  ·rw [hr2]; simp only [M.qaN, ← hr', e, Bool.true_and]; rfl
 ·simp [M.qaN, ← hr', e]
theorem wp.qcN.math (p : List D.Ins) (k later : Int) (h : M.qeZ p k later) : wp.qcN p k later (fun r => r = M.qcN p k later) := by
 have hp := h.1
 have h32 := qhm hp
 have hs := qmK h
 have hn : M.qe9 p (p.length : Int) := ⟨by omega, by omega⟩
 refine qa2 (fun e => ?_) fun e => ?_
 ·have e : k = later := by simpa using e
  show true = M.qdF p k later
  have : rd (M.reached p [k] later) (p.length : Int) = false := by
   refine Bool.eq_false_iff.2 fun hr => ?_
   have hr := (qeV hp hs.2.1 hn).1 hr
   have none : ∀ x, ¬ Rch p later [k] x := by
    intro x hx
    induction hx with
    | base h1 h2 => obtain rfl := List.mem_singleton.1 h1; exact h2 e
    | step _ _ _ ih => exact ih
   exact none _ hr
  unfold M.qdF; rw [this]; rfl
 rw [qmb hp, qjI (qgH hp)]
 refine ⟨by omega, ?_⟩
 refine qkX (wo := later) (I := fun seen => rd seen (p.length : Int) = false) hs (qhO _) (qld _ _) (R := M.reached p [k] later) rfl (by rw [qh3]; simp) (fun j rest seen next hk hl _ hc hn => ?_) (fun j rest seen next hk hl hI h1 h2 h3 h5 hn => ?_) fun next hI => qaA rfl ?_
 ·obtain ⟨f1, f2, f3, f4, f5⟩ := qgG (k := j) (rest := rest)
  refine qaH f5 ⟨f3, f4, ?_⟩
  rw [f1, f2]
  refine ⟨qfO hk hl, qa2 (fun _ => hn) fun e1 => qaH ?_ hn⟩
  rcases hc with hc | hc
  ·simpa using hc
  ·rw [hc] at e1; cases e1
 ·obtain ⟨f1, f2, f3, f4, f5⟩ := qgG (k := j) (rest := rest)
  refine qaH f5 ⟨f3, f4, ?_⟩
  rw [f1, f2]
  refine ⟨qfO hk hl, qaA h2 (qaA (by simpa using h1) (qa2 (fun e1 => ?_) fun e1 => ⟨qfO hk hl, hk, fun r hr => ?_⟩))⟩
  ·have e1 : j = (p.length : Int) := by simpa using e1
   show false = M.qdF p k later
   unfold M.qdF
   rw [← e1, h3]; rfl
  ·have e1 : ¬ j = (p.length : Int) := by simpa using e1
   have hr' : r = M.qeu p j := hr
   rw [hr']
   refine ⟨h5, hn ?_⟩
   have hj := hk.2
   unfold M.qe9 at hj
   rw [qiM hj.1 (by omega) (by omega), if_neg (fun e => e1 e.symm)]
   exact hI
 ·show true = M.qdF p k later
  unfold M.qdF; rw [hI]; rfl
theorem wp.qcw.math (p : List D.Ins) (k : Int) (h : M.qg8 p k) : wp.qcw p k (fun r => r = M.qcw p k) := by
 refine ⟨h, fun r hr => qa2 (fun e => ?_) fun e => ?_⟩
 ·have := nt e (show r = (M.qf5 p k && M.qfw p k) from hr)
  simp [M.qcw, M.qcA, this]
 ·have he := nf e (show r = (M.qf5 p k && M.qfw p k) from hr)
  have hN : M.Node p k := qeW.1 (by simp only [Bool.and_eq_true] at he; exact he.1)
  have h32 := qhm hN.1
  have hM : M.qcw p k = M.idx (M.qdF p k) (p.length + 1) := by simp only [M.qcw, M.qcA, he, if_true]
  rw [hM]
  refine qkV (fun j xs next hj hxs hle h1 h2 => ?_) fun next => qaA (by simp; omega) rfl
  refine qaH (by simp; omega) ⟨hN, fun r2 hr2 => qa2 (fun e2 => ⟨by simp; omega, ?_⟩) fun e2 => ?_⟩
  ·rw [up64 (n := p.length + 1) hj (by omega)]; exact h1 ((show r2 = M.qdF p k (j : Int) from hr2).symm.trans e2)
  ·rw [up64 (n := p.length + 1) hj (by omega)]; exact h2 ((show r2 = M.qdF p k (j : Int) from hr2).symm.trans e2)
theorem qm4 (p : List D.Ins) (all l : List Int) (k : Nat) (hk : k < l.length) : M.qhg p all (l.drop k) = if all.all (M.qdF p (rd l (k : Int))) then rd l (k : Int) else M.qhg p all (l.drop (k + 1)) := by
 rw [List.drop_eq_getElem_cons hk, qcV hk]; rfl
theorem wp.qdi.math (p : List D.Ins) (l : List Int) (h : M.qga p l) : wp.qdi p l (fun r => r = M.qdi p l) := by
 obtain ⟨h1, h2⟩ := h
 have hl : l.length ≤ 17179869183 := h1
 refine qcS l.length (fun k => ((k : Int), ())) (fun k => M.qhg p l l = M.qhg p l (l.drop k)) rfl rfl (fun k hk hF next hn => ?_) fun hF next => qaA (by simp) ?_
 ·rw [qm4 p l l k hk] at hF
  refine qaH (by simp; omega) ?_
  have hN := h2 _ (qgk hk)
  refine qcS l.length (fun j => ((l.take j).all (M.qdF p (rd l (k : Int))), (j : Int), ())) (fun _ => True) rfl trivial (fun j hj _ next2 hn2 => ?_) fun _ next2 => ?_
  ·have hn2 := hn2 trivial
   have ht : (l.take (j + 1)).all (M.qdF p (rd l (k : Int))) = ((l.take j).all (M.qdF p (rd l (k : Int))) && M.qdF p (rd l (k : Int)) (rd l (j : Int))) := by
    rw [List.take_add_one, List.getElem?_eq_getElem hj, qcV hj, List.all_append]; simp
   rw [ht] at hn2
   refine qaH (by simp; omega) (qa2 (fun e => ⟨by omega, by omega, hN, fun r hr => ?_⟩) fun e => ?_)
   ·rw [e, Bool.true_and] at hn2
    rw [hr, up64 hj (by omega)]; exact hn2
   ·rw [e, Bool.false_and] at hn2
    rw [up64 hj (by omega)]; exact hn2
  ·refine qaA (by simp) ?_
   rw [List.take_length]
   refine qa2 (fun e => ⟨by omega, ?_⟩) fun e => ?_
   ·rw [if_pos e] at hF; exact hF.symm
   ·rw [if_neg (by rw [e]; simp)] at hF
    rw [up64 hk (by omega)]; exact hn hF
 ·rw [List.drop_length] at hF; exact hF.symm
theorem qgj {p : List D.Ins} {k x : Int} (h : x ∈ M.others (M.qcA p k) k) : M.Node p x ∧ M.Node p k ∧ M.qfw p k = true ∧ M.qdF p k x = true := by
 have h := (List.mem_filter.1 h).1
 unfold M.qcA at h
 split at h
 ·rename_i e
  simp only [Bool.and_eq_true] at e
  have hN := qeW.1 e.1
  obtain ⟨j, hj, rfl, hg⟩ := qjD.1 h
  exact ⟨⟨hN.1, by omega, by omega⟩, hN, e.2, hg⟩
 ·exact absurd h List.not_mem_nil
theorem qiV (p : List D.Ins) (k : Int) : (M.qcA p k).length ≤ p.length + 1 := by
 unfold M.qcA
 split
 ·exact ql2 _ _
 ·simp
theorem qlw {p : List D.Ins} (hp : M.qfG p) (k : Int) : M.Nodes p (M.others (M.qcA p k) k) := by
 have h1 := qiV p k
 have h2 := List.length_filter_le (fun x => x != k) (M.qcA p k)
 unfold M.qfG at hp
 refine ⟨?_, fun x hx => (qgj hx).1⟩
 show (M.others (M.qcA p k) k).length ≤ 17179869183
 unfold M.others; omega
theorem wp.qcj.math (p : List D.Ins) (k : Int) (h : M.qfv p k) : wp.qcj p k (fun r => r = M.qcj p k) := by
 have h1 := qiV p k
 have hs : p.length ≤ 2097152 := h
 refine ⟨h, fun r hr => ⟨?_, fun r2 hr2 => ⟨?_, fun r3 hr3 => ?_⟩⟩⟩
 ·rw [hr]; show (M.qcA p k).length ≤ 17179869183; omega
 ·rw [hr2, hr]; exact qlw h k
 ·rw [hr3, hr2, hr]; rfl
theorem qpR {p : List D.Ins} {b : Int} (h : M.Branch p b) : M.Node p (b + 1) ∧ M.Node p (rd p b).B ∧ M.Node p b ∧ b + 1 < 9223372036854775807 := by
 obtain ⟨hp, h0, h1, hb⟩ := h
 have h32 := qhm hp
 simp only [M.isBr, Bool.and_eq_true, beq_iff_eq] at hb
 have ht := qhe (qp8 hp h0 h1) (.inl hb.1)
 exact ⟨⟨hp, by omega, by omega⟩, ⟨hp, ht⟩, ⟨hp, by omega, by omega⟩, by omega⟩
theorem wp.qcD.math (p : List D.Ins) (b : Int) (h : M.qgx p b) : wp.qcD p b (fun r => r = M.qcD p b) := by
 obtain ⟨n1, n2, n3, n4⟩ := qpR h
 have hs := qgH h.1
 have hw : wrap .i64 (b + 1) = b + 1 := w64 (by have := h.2.1; omega) (by omega)
 have hb := h.2
 unfold wp.qcD
 rw [hw]
 have m1 : M.qaN p (b + 1) = M.qfw p (b + 1) := by simp [M.qaN, qeW.2 n1]
 have m2 : M.qaN p (rd p b).B = M.qfw p (rd p b).B := by simp [M.qaN, qeW.2 n2]
 refine ⟨hs, fun r hr => qa2 (fun e => ?_) fun e => ⟨⟨hb.1, hb.2.1⟩, hs, fun r2 hr2 => qa2 (fun e2 => ?_) fun e2 => ⟨hs, fun r3 hr3 => ?_⟩⟩⟩
 all_goals rw [m1] at hr
 ·simp [M.qcD, M.qh8, nt e hr]
 ·rw [m2] at hr2
  simp [M.qcD, M.qh8, nt e2 hr2]
 ·rw [m2] at hr2
  rw [hr3]; simp [M.qcD, M.qh8, nf e hr, nf e2 hr2, M.qcj]
theorem qnY {p : List D.Ins} {b : Int} (h : M.has (M.branches p) b = true) : M.Branch p b := by
 simp only [M.has, List.any_eq_true, beq_iff_eq] at h
 obtain ⟨x, hx, rfl⟩ := h
 unfold M.branches at hx
 split at hx
 ·rename_i hp
  obtain ⟨j, hj, rfl, hg⟩ := qjD.1 hx
  exact ⟨hp, by omega, by omega, hg⟩
 ·exact absurd hx List.not_mem_nil
theorem qlI (p : List D.Ins) : (M.branches p).length ≤ p.length := by
 unfold M.branches
 split
 ·exact ql2 _ _
 ·simp
end Go.V
namespace Go.V
open IntKind (wrap)
def wp.cmp_isNaN_int (a : Int) (Q : Bool → Prop) : Prop :=
 Q (a != a)
def wp.cmp_Less_int (a : Int) (b : Int) (Q : Bool → Prop) : Prop :=
 (∀ c, c = M.cmp_isNaN_int a → qa1 c ((∀ d, d = M.cmp_isNaN_int b → qa1 (!d) (Q true) (Q (decide (a < b))))) (Q (decide (a < b))))
def wp.qat (k : List Int) (e : Int) (l : Int) (Q : ((List Int)) → Prop) : Prop :=
 qcX (σ := Int × (List Int) × Unit) (fun (m : Int × (List Int) × Unit) d => match m with | (c, f, _) => qa1 (decide (c < l)) (qcX (σ := Int × (List Int) × Unit) (fun (n : Int × (List Int) × Unit) g => match n with | (a, b, _) => qf9 (σ := Unit) (fun h => qa1 (decide (a > e)) (((0 ≤ a ∧ a < (b.length : Int)) ∧ ((0 ≤ (wrap .i64 (a - 1)) ∧ (wrap .i64 (a - 1)) < (b.length : Int)) ∧ (((∀ i, i = M.cmp_Less_int (rd b a) (rd b (wrap .i64 (a - 1))) → qa1 i (h (())) (d ((wrap .i64 (c + 1)), b, ())))) ∧ ((∀ j, j = M.cmp_Less_int (rd b a) (rd b (wrap .i64 (a - 1))) → qa1 j (h (())) (d ((wrap .i64 (c + 1)), b, ())))) ∧ True)))) (((d ((wrap .i64 (c + 1)), b, ())) ∧ (d ((wrap .i64 (c + 1)), b, ())) ∧ True))) (fun (o : Unit) => match o with | (_) => ((0 ≤ (wrap .i64 (a - 1)) ∧ (wrap .i64 (a - 1)) < (b.length : Int)) ∧ ((0 ≤ a ∧ a < (b.length : Int)) ∧ ((((0 ≤ a ∧ a < (b.length : Int)) ∧ ((0 ≤ (wrap .i64 (a - 1)) ∧ (wrap .i64 (a - 1)) < ((List.set b (a.toNat) (rd b (wrap .i64 (a - 1)))).length : Int)) ∧ g ((wrap .i64 (a - 1)), (List.set (List.set b (a.toNat) (rd b (wrap .i64 (a - 1)))) ((wrap .i64 (a - 1)).toNat) (rd b a)), ())))) ∧ (((0 ≤ a ∧ a < (b.length : Int)) ∧ ((0 ≤ (wrap .i64 (a - 1)) ∧ (wrap .i64 (a - 1)) < ((List.set b (a.toNat) (rd b (wrap .i64 (a - 1)))).length : Int)) ∧ g ((wrap .i64 (a - 1)), (List.set (List.set b (a.toNat) (rd b (wrap .i64 (a - 1)))) ((wrap .i64 (a - 1)).toNat) (rd b a)), ())))) ∧ True))))) (c, f, ())) (Q f)) ((wrap .i64 (e + 1)), k, ())
def wp.qbK (a : Int) (Q : Int → Prop) : Prop :=
 qf9 (σ := Int × Int × Unit) (fun e => qa1 (decide (a ≥ 4294967296)) (e ((Int.fdiv a (2 ^ (min ((32 : Int).toNat) (IntKind.bits .u64)))), 32, ())) (e (a, 0, ()))) (fun (j : Int × Int × Unit) => match j with | (b, f, _) => qf9 (σ := Int × Int × Unit) (fun g => qa1 (decide (b ≥ 65536)) (g ((Int.fdiv b (2 ^ (min ((16 : Int).toNat) (IntKind.bits .u64)))), (wrap .i64 (f + 16)), ())) (g (b, f, ()))) (fun (k : Int × Int × Unit) => match k with | (c, h, _) => qf9 (σ := Int × Int × Unit) (fun i => qa1 (decide (c ≥ 256)) (i ((Int.fdiv c (2 ^ (min ((8 : Int).toNat) (IntKind.bits .u64)))), (wrap .i64 (h + 8)), ())) (i (c, h, ()))) (fun (l : Int × Int × Unit) => match l with | (d, m, _) => ((0 ≤ IntKind.wrap .u8 d ∧ IntKind.wrap .u8 d < ((ByteArray.size (⟨#[0, 1, 2, 2, 3, 3, 3, 3, 4, 4, 4, 4, 4, 4, 4, 4, 5, 5, 5, 5, 5, 5, 5, 5, 5, 5, 5, 5, 5, 5, 5, 5, 6, 6, 6, 6, 6, 6, 6, 6, 6, 6, 6, 6, 6, 6, 6, 6, 6, 6, 6, 6, 6, 6, 6, 6, 6, 6, 6, 6, 6, 6, 6, 6, 7, 7, 7, 7, 7, 7, 7, 7, 7, 7, 7, 7, 7, 7, 7, 7, 7, 7, 7, 7, 7, 7, 7, 7, 7, 7, 7, 7, 7, 7, 7, 7, 7, 7, 7, 7, 7, 7, 7, 7, 7, 7, 7, 7, 7, 7, 7, 7, 7, 7, 7, 7, 7, 7, 7, 7, 7, 7, 7, 7, 7, 7, 7, 7, 8, 8, 8, 8, 8, 8, 8, 8, 8, 8, 8, 8, 8, 8, 8, 8, 8, 8, 8, 8, 8, 8, 8, 8, 8, 8, 8, 8, 8, 8, 8, 8, 8, 8, 8, 8, 8, 8, 8, 8, 8, 8, 8, 8, 8, 8, 8, 8, 8, 8, 8, 8, 8, 8, 8, 8, 8, 8, 8, 8, 8, 8, 8, 8, 8, 8, 8, 8, 8, 8, 8, 8, 8, 8, 8, 8, 8, 8, 8, 8, 8, 8, 8, 8, 8, 8, 8, 8, 8, 8, 8, 8, 8, 8, 8, 8, 8, 8, 8, 8, 8, 8, 8, 8, 8, 8, 8, 8, 8, 8, 8, 8, 8, 8, 8, 8, 8, 8, 8, 8, 8, 8, 8, 8, 8, 8, 8, 8]⟩) : Nat) : Int)) ∧ Q (wrap .i64 (m + (wrap .i64 (bt (⟨#[0, 1, 2, 2, 3, 3, 3, 3, 4, 4, 4, 4, 4, 4, 4, 4, 5, 5, 5, 5, 5, 5, 5, 5, 5, 5, 5, 5, 5, 5, 5, 5, 6, 6, 6, 6, 6, 6, 6, 6, 6, 6, 6, 6, 6, 6, 6, 6, 6, 6, 6, 6, 6, 6, 6, 6, 6, 6, 6, 6, 6, 6, 6, 6, 7, 7, 7, 7, 7, 7, 7, 7, 7, 7, 7, 7, 7, 7, 7, 7, 7, 7, 7, 7, 7, 7, 7, 7, 7, 7, 7, 7, 7, 7, 7, 7, 7, 7, 7, 7, 7, 7, 7, 7, 7, 7, 7, 7, 7, 7, 7, 7, 7, 7, 7, 7, 7, 7, 7, 7, 7, 7, 7, 7, 7, 7, 7, 7, 8, 8, 8, 8, 8, 8, 8, 8, 8, 8, 8, 8, 8, 8, 8, 8, 8, 8, 8, 8, 8, 8, 8, 8, 8, 8, 8, 8, 8, 8, 8, 8, 8, 8, 8, 8, 8, 8, 8, 8, 8, 8, 8, 8, 8, 8, 8, 8, 8, 8, 8, 8, 8, 8, 8, 8, 8, 8, 8, 8, 8, 8, 8, 8, 8, 8, 8, 8, 8, 8, 8, 8, 8, 8, 8, 8, 8, 8, 8, 8, 8, 8, 8, 8, 8, 8, 8, 8, 8, 8, 8, 8, 8, 8, 8, 8, 8, 8, 8, 8, 8, 8, 8, 8, 8, 8, 8, 8, 8, 8, 8, 8, 8, 8, 8, 8, 8, 8, 8, 8, 8, 8, 8, 8, 8, 8, 8, 8]⟩) (IntKind.wrap .u8 d)))))))))
def wp.qcP (a : Int) (Q : Int → Prop) : Prop :=
 (M.qfn a ∧ ∀ b, b = M.qbK a → Q b)
def wp.qaQ (c : List Int) (e : Int) (f : Int) (g : Int) (Q : ((List Int)) → Prop) : Prop :=
 qcX (σ := Int × Int × Int × Bool × Bool × Unit) (fun (h : Int × Int × Int × Bool × Bool × Unit) j => match h with | (a, b, i, k, l, _) => qa1 (decide ((wrap .i64 (b - a)) ≤ 12)) ((M.qdm c a b ∧ ∀ d, d = M.qat c a b → Q d)) (qa1 (i == 0) (False) (False))) (e, f, g, true, true, ())
def wp.qb1 (a : List Int) (Q : ((List Int)) → Prop) : Prop :=
 (M.qf0 (IntKind.wrap .u64 (a.length : Int)) ∧ ∀ b, b = M.qcP (IntKind.wrap .u64 (a.length : Int)) → (M.qdY a 0 (a.length : Int) b ∧ ∀ c, c = M.qaQ a 0 (a.length : Int) b → Q c))
def wp.qaB (a : List Int) (Q : (List Int) → Prop) : Prop :=
 qa1 (decide ((a.length : Int) < 2)) (Q a) (qcX (σ := Int × Unit) (fun (d : Int × Unit) e => match d with | (b, _) => qa1 (decide (b < (a.length : Int))) (((0 ≤ b ∧ b < (a.length : Int)) ∧ ((0 ≤ (wrap .i64 (b - 1)) ∧ (wrap .i64 (b - 1)) < (a.length : Int)) ∧ qa1 ((rd a b) == (rd a (wrap .i64 (b - 1)))) (((0 ≤ b ∧ b ≤ (a.length : Int)) ∧ qcX (σ := Int × Int × Unit) (fun (f : Int × Int × Unit) h => match f with | (c, g, _) => qa1 (decide (g < (((List.drop (b.toNat) a)).length : Int))) (False) (((0 ≤ c ∧ c ≤ (a.length : Int)) ∧ ((0 ≤ c ∧ c ≤ ((List.take (c.toNat) a ++ List.replicate (a.length - (c.toNat)) default).length : Int)) ∧ Q (List.take (c.toNat) (List.take (c.toNat) a ++ List.replicate (a.length - (c.toNat)) default)))))) (b, 1, ()))) (e ((wrap .i64 (b + 1)), ()))))) (Q a)) (1, ()))
def wp.qdw (b : List D.Ins) (a : Int) (Q : (List Int) → Prop) : Prop :=
 qa1 (a == (b.length : Int)) (Q ([] : List Int)) (((0 ≤ a ∧ a < (b.length : Int)) ∧ qa1 ((rd b a).Op == 12) (Q ([(b.length : Int)] : List Int)) (qa1 ((rd b a).Op == 11) (Q ([(rd b a).B] : List Int)) (qa1 ((rd b a).Op == 10) ((M.qeD ([(rd b a).B, (wrap .i64 (a + 1))] : List Int) ∧ ∀ c, c = M.qb1 ([(rd b a).B, (wrap .i64 (a + 1))] : List Int) → (M.qeh c ∧ ∀ d, d = M.qaB c → Q d))) (Q ([(wrap .i64 (a + 1))] : List Int))))))
def wp.qbL (b : List D.Ins) (Q : (List Int) → Prop) : Prop :=
 (M.qej b ∧ ∀ d, d = M.qbn b → qa1 (!d) (Q ([] : List Int)) (qcX (σ := (List Int) × Int × Unit) (fun (g : (List Int) × Int × Unit) e => match g with | (c, a, _) => qa1 (decide (a < (b.length : Int))) ((M.qfP b a ∧ ∀ f, f = M.qdw b a → qa1 ((f.length : Int) == 2) (((c.length + ([a] : List Int).length ≤ 17179869184) ∧ e ((c ++ ([a] : List Int)), (wrap .i64 (a + 1)), ()))) (e (c, (wrap .i64 (a + 1)), ())))) (Q c)) (([] : List Int), 0, ())))
def wp.qdj (b : List D.Ins) (c : Int) (Q : Bool → Prop) : Prop :=
 (M.qfs b ∧ ∀ a, a = M.qbL b → (M.qeb a c ∧ ∀ d, d = M.qb5 a c → Q d))
def wp.qcE (c : List D.Ins) (f : List Int) (h : Int) (Q : (List Bool) → Prop) : Prop :=
 ((0 ≤ (wrap .i64 ((c.length : Int) + 1)) ∧ (wrap .i64 ((c.length : Int) + 1)) ≤ 17179869184) ∧ (M.qaW f ∧ ∀ g, g = M.qaq f → qcX (σ := (List Int) × (List Bool) × Unit) (fun (i : (List Int) × (List Bool) × Unit) d => match i with | (a, b, _) => qa1 (decide ((a.length : Int) > 0)) (((0 ≤ (0 : Int) ∧ (0 : Int) < (a.length : Int)) ∧ ((0 ≤ (1 : Int) ∧ (1 : Int) ≤ (a.length : Int)) ∧ qa1 ((rd a 0) == h) (d ((List.drop ((1 : Int).toNat) a), b, ())) (((0 ≤ (rd a 0) ∧ (rd a 0) < (b.length : Int)) ∧ qa1 (rd b (rd a 0)) (d ((List.drop ((1 : Int).toNat) a), b, ())) (((0 ≤ (rd a 0) ∧ (rd a 0) < (b.length : Int)) ∧ (M.qfP c (rd a 0) ∧ ∀ e, e = M.qdw c (rd a 0) → (((List.drop ((1 : Int).toNat) a).length + e.length ≤ 17179869184) ∧ d (((List.drop ((1 : Int).toNat) a) ++ e), (List.set b ((rd a 0).toNat) true), ())))))))))) (Q b)) (g, (List.replicate ((wrap .i64 ((c.length : Int) + 1)).toNat) (default : Bool)), ())))
def wp.qbE (a : List D.Ins) (c : Int) (Q : Bool → Prop) : Prop :=
 (M.qfd a ([c] : List Int) (-1) ∧ ∀ b, b = M.qcE a ([c] : List Int) (-1) → ((0 ≤ (a.length : Int) ∧ (a.length : Int) < (b.length : Int)) ∧ Q (rd b (a.length : Int))))
def wp.qdd (a : List D.Ins) (d : Int) (Q : Bool → Prop) : Prop :=
 (M.qej a ∧ ∀ b, b = M.qbn a → qa1 b ((∀ c, c = M.qar d 0 (a.length : Int) → Q c)) (Q false))
def wp.qcp (a : List D.Ins) (b : Int) (d : Int) (Q : Bool → Prop) : Prop :=
 (M.qeo a b ∧ ∀ e, e = M.qbE a b → qa1 e ((M.qfd a ([b] : List Int) d ∧ ∀ c, c = M.qcE a ([b] : List Int) d → ((0 ≤ (a.length : Int) ∧ (a.length : Int) < (c.length : Int)) ∧ Q (!(rd c (a.length : Int)))))) (Q false))
def wp.qbP (a : List D.Ins) (b : Int) (c : Int) (Q : Bool → Prop) : Prop :=
 (M.qfJ a b ∧ ∀ d, d = M.qdd a b → qa1 d ((M.qfJ a c ∧ ∀ e, e = M.qdd a c → qa1 e ((M.qfh a b c ∧ ∀ f, f = M.qcp a b c → Q f)) (Q false))) (Q false))
def wp.qbY (c : List D.Ins) (d : Int) (Q : (List Int) → Prop) : Prop :=
 qcX (σ := (List Int) × Int × Unit) (fun (g : (List Int) × Int × Unit) e => match g with | (b, a, _) => qa1 (decide (a < (wrap .i64 ((c.length : Int) + 1)))) ((M.qgo c d a ∧ ∀ f, f = M.qbP c d a → qa1 f (((b.length + ([a] : List Int).length ≤ 17179869184) ∧ e ((b ++ ([a] : List Int)), (wrap .i64 (a + 1)), ()))) (e (b, (wrap .i64 (a + 1)), ())))) (Q b)) (([] : List Int), 0, ())
def wp.qbC (a : Int) (b : Int) (Q : Bool → Prop) : Prop :=
 Q (a == b)
def wp.qay (d : List Int) (f : Int → Bool) (g : Int → Prop) (Q : (List Int) → Prop) : Prop :=
 (M.qds d f g ∧ ∀ e, e = M.qan d f → qa1 (e == (-1)) (Q d) (qcX (σ := Int × Int × (List Int) × Unit) (fun (j : Int × Int × (List Int) × Unit) h => match j with | (a, c, b, _) => qa1 (decide (c < (d.length : Int))) (((0 ≤ c ∧ c < (b.length : Int)) ∧ (g (rd b c) ∧ ∀ i, i = f (rd b c) → qa1 (!i) (((0 ≤ a ∧ a < (b.length : Int)) ∧ h ((wrap .i64 (a + 1)), (wrap .i64 (c + 1)), (List.set b (a.toNat) (rd b c)), ()))) (h (a, (wrap .i64 (c + 1)), b, ()))))) (((0 ≤ a ∧ a ≤ (b.length : Int)) ∧ ((0 ≤ a ∧ a ≤ ((List.take (a.toNat) b ++ List.replicate (b.length - (a.toNat)) default).length : Int)) ∧ Q (List.take (a.toNat) (List.take (a.toNat) b ++ List.replicate (b.length - (a.toNat)) default)))))) (e, (wrap .i64 (e + 1)), d, ())))
def wp.qcl (a : Int) (b : List D.Ins) (c : Int) (Q : Bool → Prop) : Prop :=
 (M.qfh b c a ∧ ∀ d, d = M.qcp b c a → Q (!d))
def wp.qdz (d : List D.Ins) (a : List Int) (Q : Int → Prop) : Prop :=
 qcX (σ := Int × Unit) (fun (f : Int × Unit) g => match f with | (b, _) => qa1 (decide (b < (a.length : Int))) (((0 ≤ b ∧ b < (a.length : Int)) ∧ (M.qd8 a (fun c => M.qcl c d (rd a b)) (fun c => M.qfK c d (rd a b)) ∧ ∀ e, e = M.qak a (fun c => M.qcl c d (rd a b)) → qa1 (!e) (Q (rd a b)) (g ((wrap .i64 (b + 1)), ()))))) (Q (-1))) (0, ())
def wp.qci (c : List D.Ins) (a : Int) (Q : Int → Prop) : Prop :=
 (M.qg4 c a ∧ ∀ d, d = M.qbY c a → (M.qdX d (fun b => M.qbC b a) (fun b => M.qeP b a) ∧ ∀ e, e = M.qay d (fun b => M.qbC b a) → (M.qgs c e ∧ ∀ f, f = M.qdz c e → Q f)))
def wp.qdn (a : List D.Ins) (b : Int) (Q : Int → Prop) : Prop :=
 (M.qfV a b ∧ ∀ e, e = M.qdj a b → qa1 (!e) (Q (-1)) ((M.qfP a b ∧ ∀ d, d = M.qdw a b → qcX (σ := Int × Unit) (fun (h : Int × Unit) i => match h with | (c, _) => qa1 (decide (c < (d.length : Int))) (((0 ≤ c ∧ c < (d.length : Int)) ∧ (M.qeo a (rd d c) ∧ ∀ f, f = M.qbE a (rd d c) → qa1 (!f) (Q (a.length : Int)) (i ((wrap .i64 (c + 1)), ()))))) ((M.qfm a b ∧ ∀ g, g = M.qci a b → Q g))) (0, ()))))
end Go.V
namespace Go.V
open IntKind (wrap)
theorem wp.cmp_isNaN_int.math (x : Int) : wp.cmp_isNaN_int x (fun r => r = M.cmp_isNaN_int x) := by simp [wp.cmp_isNaN_int, M.cmp_isNaN_int]
theorem wp.cmp_Less_int.math (x y : Int) : wp.cmp_Less_int x y (fun r => r = M.cmp_Less_int x y) := by
 intro r hr
 have : r = false := hr
 subst this
 exact qaA rfl rfl
theorem wp.qat.math (l : List Int) (a b : Int) (h : M.qdm l a b) : wp.qat l a b (fun r => r = M.qat l a b) := by
 obtain ⟨hl, rfl, rfl⟩ := h
 match l, hl with
 | [x, y], _ =>
 have w0 : wrap .i64 ((0 : Int) + 1) = 1 := by decide +kernel
 have w1 : wrap .i64 ((1 : Int) + 1) = 2 := by decide +kernel
 have w2 : wrap .i64 ((1 : Int) - 1) = 0 := by decide +kernel
 unfold wp.qat
 rw [w0]
 have r1 : rd [x, y] 1 = y := rfl
 have r0 : rd [x, y] 0 = x := rfl
 -- the outer loop: one round
 refine ⟨fun m z => (m = 1 ∧ z = (1, [x, y], ())) ∨ (m = 0 ∧ z = (2, M.qiG [x, y], ())), ⟨1, .inl ⟨rfl, rfl⟩⟩, ?_⟩
 rintro m z (⟨rfl, rfl⟩ | ⟨rfl, rfl⟩)
 ·refine qaH rfl ?_
  refine ⟨fun m z => (m = 1 ∧ z = (1, [x, y], ())) ∨ (m = 0 ∧ z = (0, M.qiG [x, y], ())), ⟨1, .inl ⟨rfl, rfl⟩⟩, ?_⟩
  rintro m z (⟨rfl, rfl⟩ | ⟨rfl, rfl⟩)
  ·unfold qf9
   have i1 : (0 ≤ (1 : Int) ∧ (1 : Int) < (([x, y] : List Int).length : Int)) := by simp
   have i0 : (0 ≤ (0 : Int) ∧ (0 : Int) < (([x, y] : List Int).length : Int)) := by simp
   by_cases hc : y < x
   ·have hs : M.qiG [x, y] = [y, x] := by simp [M.qiG, r1, r0, hc]
    have e1 : List.set (List.set [x, y] ((1 : Int).toNat) x) ((0 : Int).toNat) y = [y, x] := rfl
    have e2 : List.set (List.set [x, y] ((0 : Int).toNat) y) ((1 : Int).toNat) x = [y, x] := rfl
    have hd : (decide (y < x)) = true := decide_eq_true hc
    refine qaH rfl ?_
    simp only [w2, r1, r0, M.cmp_Less_int, forall_eq, hd, e1, e2, hs]
    have j1 : ∀ v, (0 ≤ (1 : Int) ∧ (1 : Int) < ((List.set [x, y] ((0 : Int).toNat) v).length : Int)) := fun v => by simp
    have j0 : ∀ v, (0 ≤ (0 : Int) ∧ (0 : Int) < ((List.set [x, y] ((1 : Int).toNat) v).length : Int)) := fun v => by simp
    simp only [i1, i0, j1, j0, true_and, and_true, and_self, qa1]
    exact ⟨0, by omega, .inr rfl⟩
   ·have hs : M.qiG [x, y] = [x, y] := by simp [M.qiG, r1, r0, hc]
    have hd : (decide (y < x)) = false := decide_eq_false hc
    refine qaH rfl ?_
    simp only [w2, w1, r1, r0, M.cmp_Less_int, forall_eq, hd, hs]
    simp only [i1, i0, true_and, and_true, and_self, qa1]
    exact ⟨0, by omega, .inr rfl⟩
  ·unfold qf9
   refine qaA rfl ?_
   rw [w1]
   have hn : ∃ m', m' < 1 ∧ ((m' = 1 ∧ ((2 : Int), M.qiG [x, y], ()) = (1, [x, y], ())) ∨ (m' = 0 ∧ ((2 : Int), M.qiG [x, y], ()) = (2, M.qiG [x, y], ()))) := ⟨0, by omega, .inr ⟨rfl, rfl⟩⟩
   exact ⟨hn, hn, trivial⟩
 ·exact qaA rfl rfl
set_option maxRecDepth 100000 in
theorem wp.qbK.math (x : Int) (h : M.qfn x) : wp.qbK x (fun r => r = M.qbK x) := by
 obtain ⟨h0, h1⟩ := h
 have : x = 0 ∨ x = 1 ∨ x = 2 ∨ x = 3 ∨ x = 4 ∨ x = 5 ∨ x = 6 ∨ x = 7 ∨ x = 8 ∨ x = 9 ∨ x = 10 ∨ x = 11 ∨ x = 12 := by omega
 unfold wp.qbK
 unfold qf9
 rcases this with rfl | rfl | rfl | rfl | rfl | rfl | rfl | rfl | rfl | rfl | rfl | rfl | rfl
 all_goals
  refine qaA rfl (qaA rfl (qaA rfl ⟨by decide +kernel, ?_⟩))
  show _ = M.qbK _
  decide +kernel
theorem wp.qcP.math (x : Int) (h : M.qf0 x) : wp.qcP x (fun r => r = M.qcP x) := ⟨h, fun r hr => by rw [hr]; rfl⟩
theorem wp.qaQ.math (l : List Int) (a b c : Int) (h : M.qdY l a b c) : wp.qaQ l a b c (fun r => r = M.qaQ l a b c) := by
 obtain ⟨hl, rfl, rfl⟩ := h
 refine qcS 0 (fun _ => (0, 2, c, true, true, ())) (fun _ => True) rfl trivial (fun k hk _ _ _ => absurd hk (by omega)) fun _ next => ?_
 exact qaH (by decide +kernel) ⟨⟨hl, rfl, rfl⟩, fun r hr => by rw [hr]; rfl⟩
theorem wp.qb1.math (l : List Int) (h : M.qeD l) : wp.qb1 l (fun r => r = M.qb1 l) := by
 have hl : l.length = 2 := h
 unfold wp.qb1
 have e : (l.length : Int) = 2 := by omega
 rw [e]
 refine ⟨by show 0 ≤ IntKind.wrap .u64 2 ∧ IntKind.wrap .u64 2 ≤ 12; decide +kernel, fun r hr => ⟨⟨hl, rfl, rfl⟩, fun r2 hr2 => by rw [hr2]; rfl⟩⟩
theorem wp.qaB.math (l : List Int) (h : M.qeh l) : wp.qaB l (fun r => r = M.qaB l) := by
 match l, h with
 | [x, y], _ =>
 have w2 : wrap .i64 ((1 : Int) - 1) = 0 := by decide +kernel
 have w1 : wrap .i64 ((1 : Int) + 1) = 2 := by decide +kernel
 have r1 : rd [x, y] 1 = y := rfl
 have r0 : rd [x, y] 0 = x := rfl
 refine qaA rfl ?_
 by_cases hc : y = x
 ·have hM : M.qaB [x, y] = [x] := by unfold M.qaB; rw [r1, r0, if_pos hc]; rfl
  rw [hM]
  refine qcS 0 (fun _ => (1, ())) (fun _ => True) rfl trivial (fun k hk _ _ _ => absurd hk (by omega)) fun _ next => ?_
  refine qaH rfl ⟨by simp, by rw [w2]; simp, ?_⟩
  rw [w2, r1, r0]
  refine qaH (by simpa using hc) ⟨by simp, ?_⟩
  refine qcS 0 (fun _ => (1, 1, ())) (fun _ => True) rfl trivial (fun k hk _ _ _ => absurd hk (by omega)) fun _ next => ?_
  exact qaA rfl ⟨by simp, by simp, rfl⟩
 ·have hM : M.qaB [x, y] = [x, y] := by unfold M.qaB; rw [r1, r0, if_neg hc]
  rw [hM]
  refine qcS 1 (fun k => ((k : Int) + 1, ())) (fun _ => True) rfl trivial (fun k hk _ next hn => ?_) fun _ next => qaA rfl rfl
  have hk0 : k = 0 := by omega
  subst hk0
  have hn := hn trivial
  refine qaH rfl ⟨by simp, ?_, ?_⟩
  ·show 0 ≤ wrap .i64 ((1 : Int) - 1) ∧ wrap .i64 ((1 : Int) - 1) < (([x, y] : List Int).length : Int)
   rw [w2]; simp
  ·show qa1 (rd [x, y] 1 == rd [x, y] (wrap .i64 ((1 : Int) - 1))) _ _
   rw [w2, r1, r0]
   refine qaA (by simpa using hc) ?_
   show next (wrap .i64 ((1 : Int) + 1), ())
   rw [w1]; exact hn
theorem qlB (a b : Int) : M.qaB (M.qb1 [a, b]) = M.qhs b a ∧ (M.qb1 [a, b]).length = 2 := by
 have r1 : rd [a, b] 1 = b := rfl
 have r0 : rd [a, b] 0 = a := rfl
 have s1 : rd [b, a] 1 = a := rfl
 have s0 : rd [b, a] 0 = b := rfl
 simp only [M.qaB, M.qb1, M.qiG, M.qhs, r1, r0]
 by_cases h1 : b < a
 ·rw [if_pos h1, s1, s0, if_neg (by omega), if_neg (by omega), if_neg (by omega)]
  exact ⟨rfl, rfl⟩
 ·rw [if_neg h1, r1, r0]
  by_cases h2 : b = a
  ·rw [if_pos h2, if_neg (by omega), if_pos h2.symm]; exact ⟨by rw [h2]; rfl, rfl⟩
  ·rw [if_neg h2, if_pos (by omega)]; exact ⟨rfl, rfl⟩
theorem wp.qdw.math (p : List D.Ins) (k : Int) (h : M.qfP p k) : wp.qdw p k (fun r => r = M.qdw p k) := by
 obtain ⟨hp, h0, h1⟩ := h
 have h32 := qhm hp
 have hw : wrap .i64 (k + 1) = k + 1 := w64 (by omega) (by omega)
 unfold wp.qdw
 rw [hw]
 refine qa2 (fun e => ?_) fun e => ?_
 ·have e : k = p.length := by simpa using e
  simp [M.qdw, M.qeu, e]
 have e : ¬ k = p.length := by simpa using e
 refine ⟨by omega, qa2 (fun e1 => ?_) fun e1 => qa2 (fun e2 => ?_) fun e2 => qa2 (fun e3 => ⟨rfl, fun r hr => ?_⟩) fun e3 => ?_⟩
 all_goals simp only [M.qdw, M.qeu]
 all_goals rw [if_neg e]
 ·rw [if_pos (by simpa using e1)]
 ·rw [if_neg (by simpa using e1), if_pos (by simpa using e2)]
 ·rw [if_neg (by simpa using e1), if_neg (by simpa using e2), if_pos (by simpa using e3)]
  have hsc := qlB (rd p k).B (k + 1)
  subst hr
  exact ⟨hsc.2, fun r2 hr2 => by rw [hr2]; exact hsc.1⟩
 ·rw [if_neg (by simpa using e1), if_neg (by simpa using e2), if_neg (by simpa using e3)]
theorem qoz {p : List D.Ins} (hp : M.qb6 p = true) {k : Nat} (hk : k < p.length) : (((M.qeu p (k : Int)).length : Int) == 2) = M.isBr p (k : Int) := by
 have hne : ¬ (k : Int) = p.length := by omega
 unfold M.qeu M.isBr
 rw [if_neg hne]
 by_cases h12 : (rd p (k : Int)).Op = 12
 ·rw [if_pos h12, h12]; rfl
 rw [if_neg h12]
 by_cases h11 : (rd p (k : Int)).Op = 11
 ·rw [if_pos h11, h11]; rfl
 rw [if_neg h11]
 by_cases h10 : (rd p (k : Int)).Op = 10
 ·rw [if_pos h10, h10]
  unfold M.qhs
  by_cases h1 : (rd p (k : Int)).B < (k : Int) + 1
  ·rw [if_pos h1]
   have : ((rd p (k : Int)).B != (k : Int) + 1) = true := by simp; omega
   rw [this]; rfl
  rw [if_neg h1]
  by_cases h2 : (rd p (k : Int)).B = (k : Int) + 1
  ·rw [if_pos h2]
   have : ((rd p (k : Int)).B != (k : Int) + 1) = false := by simp [h2]
   rw [this]; rfl
  ·rw [if_neg h2]
   have : ((rd p (k : Int)).B != (k : Int) + 1) = true := by simpa using h2
   rw [this]; rfl
 ·rw [if_neg h10]
  have : ((rd p (k : Int)).Op == 10) = false := by simpa using h10
  rw [this]; rfl
theorem wp.qbL.math (p : List D.Ins) (h : M.qfs p) : wp.qbL p (fun r => r = M.qbL p) := by
 have hs : p.length ≤ 2097152 := h
 refine ⟨qi3 h, fun r hr => qa2 (fun e => ?_) fun e => ?_⟩
 ·have := nt e (show r = M.qb6 p from hr)
  simp [M.qbL, M.branches, this]
 have hp := nf e (show r = M.qb6 p from hr)
 have hM : M.qbL p = M.idx (M.isBr p) p.length := by simp [M.qbL, M.branches, hp]
 rw [hM]
 refine qkV (fun k xs next hk hxs hle h1 h2 => ?_) fun next => qaA (by simp) rfl
 refine qaH (by simp; omega) ⟨⟨hp, by omega, by omega⟩, fun r2 hr2 => ?_⟩
 have hr2' : r2 = M.qeu p (k : Int) := hr2
 rw [hr2', qoz hp hk, up64 hk (by omega)]
 exact qa2 (fun e2 => ⟨by simp; omega, h1 e2⟩) fun e2 => h2 e2
theorem wp.qdj.math (p : List D.Ins) (b : Int) (h : M.qfV p b) : wp.qdj p b (fun r => r = M.qdj p b) := by
 have hs : p.length ≤ 2097152 := h
 have hbl := qlI p
 exact ⟨h, fun r hr => ⟨by rw [hr]; show (M.branches p).length ≤ 9223372036854775807; omega, fun r2 hr2 => by rw [hr2, hr]; rfl⟩⟩
theorem wp.qcE.math (p : List D.Ins) (l : List Int) (wo : Int) (h : M.qfd p l wo) : wp.qcE p l wo (fun r => r = M.qcE p l wo) := by
 have hp := h.1
 have h32 := qhm hp
 have h4 := h.2.2
 unfold wp.qcE
 rw [qmb hp, qjI (qgH hp)]
 refine ⟨by omega, by show l.length ≤ 17179869184; omega, fun r hr => ?_⟩
 have hr' : r = l := hr
 subst hr'
 refine qkX (wo := wo) (I := fun _ => True) h (qhO _) trivial (R := M.qcE p r wo) rfl (by rw [qh3]; omega) (fun k rest seen next hk hl _ hc hn => ?_) (fun k rest seen next hk hl _ h1 h2 _ h5 hn => ?_) fun next _ => qaA rfl rfl
 ·obtain ⟨f1, f2, f3, f4, f5⟩ := qgG (k := k) (rest := rest)
  refine qaH f5 ⟨f3, f4, ?_⟩
  rw [f1, f2]
  refine qa2 (fun _ => hn) fun e1 => ⟨qfO hk hl, qaH (hc.resolve_left (by simpa using e1)) hn⟩
 ·obtain ⟨f1, f2, f3, f4, f5⟩ := qgG (k := k) (rest := rest)
  refine qaH f5 ⟨f3, f4, ?_⟩
  rw [f1, f2]
  refine qaA (by simpa using h1) ⟨qfO hk hl, qaA h2 ⟨qfO hk hl, hk, fun r hr => ?_⟩⟩
  have hr' : r = M.qeu p k := hr
  rw [hr']
  exact ⟨h5, hn trivial⟩
theorem qog (p : List D.Ins) (l : List Int) (wo : Int) : (0 ≤ (p.length : Int) ∧ (p.length : Int) < ((M.reached p l wo).length : Int)) := by rw [qjK]; omega
theorem wp.qbE.math (p : List D.Ins) (k : Int) (h : M.qeo p k) : wp.qbE p k (fun r => r = M.qbE p k) :=
 ⟨qmK h, fun r hr => by rw [hr]; exact ⟨qog _ _ _, rfl⟩⟩
theorem wp.qdd.math (p : List D.Ins) (k : Int) (h : M.qfJ p k) : wp.qdd p k (fun r => r = M.qdd p k) := by
 refine ⟨qi3 h, fun r hr => qa2 (fun e r2 hr2 => ?_) fun e => ?_⟩
 all_goals have hr' : r = M.qb6 p := hr
 ·rw [hr2]; simp [M.qdd, M.qf5, ← hr', e, M.qar]
 ·simp [M.qdd, M.qf5, ← hr', e]
theorem wp.qcp.math (p : List D.Ins) (k later : Int) (h : M.qfh p k later) : wp.qcp p k later (fun r => r = M.qcp p k later) := by
 refine ⟨h, fun r hr => qa2 (fun e => ⟨qmK h, fun r2 hr2 => ?_⟩) fun e => ?_⟩
 all_goals have hr' : r = M.qfw p k := hr
 ·rw [hr2]
  refine ⟨qog _ _ _, ?_⟩
  simp only [M.qcp, ← hr', e, Bool.true_and]; rfl
 ·simp [M.qcp, ← hr', e]
theorem wp.qbP.math (p : List D.Ins) (k later : Int) (h : M.qgo p k later) : wp.qbP p k later (fun r => r = M.qbP p k later) := by
 refine ⟨h, fun r hr => qa2 (fun e => ⟨h, fun r2 hr2 => qa2 (fun e2 => ?_) fun e2 => ?_⟩) fun e => ?_⟩
 all_goals have hr' : r = M.qf5 p k := hr
 ·have hr2' : r2 = M.qf5 p later := hr2
  refine ⟨qeW.1 (hr'.symm.trans e), fun r3 hr3 => ?_⟩
  rw [hr3]; simp [M.qbP, ← hr', e, ← hr2', e2, M.qcp]
 ·have hr2' : r2 = M.qf5 p later := hr2
  simp [M.qbP, ← hr2', e2]
 ·simp [M.qbP, ← hr', e]
theorem wp.qbY.math (p : List D.Ins) (k : Int) (h : M.qg4 p k) : wp.qbY p k (fun r => r = M.qbY p k) := by
 have hs : p.length ≤ 2097152 := h
 unfold wp.qbY
 rw [qjI h]
 by_cases hc : (M.qf5 p k && M.qfw p k) = true
 ·have hN : M.Node p k := qeW.1 (by simp only [Bool.and_eq_true] at hc; exact hc.1)
  have hM : M.qbY p k = M.idx (M.qdF p k) (p.length + 1) := by simp only [M.qbY, M.qcA, hc, if_true]
  rw [hM]
  refine qkV (fun j xs next hj hxs hle h1 h2 => ?_) fun next => qaA (by simp) rfl
  have hj2 : M.qf5 p (j : Int) = true := qeW.2 ⟨hN.1, by omega, by omega⟩
  simp only [Bool.and_eq_true] at hc
  have hv : M.qbP p k (j : Int) = M.qdF p k (j : Int) := by simp only [M.qbP, hc.1, hc.2, hj2, Bool.true_and]
  refine qaH (by simp; omega) ⟨h, fun r2 hr2 => ?_⟩
  rw [hr2, hv, up64 (n := p.length + 1) hj (by omega)]
  exact qa2 (fun e2 => ⟨by simp; omega, h1 e2⟩) fun e2 => h2 e2
 ·have hc : (M.qf5 p k && M.qfw p k) = false := by simpa using hc
  have hM : M.qbY p k = [] := by simp only [M.qbY, M.qcA, hc]; rfl
  rw [hM]
  refine qcS (p.length + 1) (fun j => ([], (j : Int), ())) (fun _ => True) rfl trivial (fun j hj _ next hn => ?_) fun _ next => qaA (by simp) rfl
  have hv : M.qbP p k (j : Int) = false := by
   cases h1 : M.qf5 p k with
   | false => simp [M.qbP, h1]
   | true =>
    rw [h1, Bool.true_and] at hc
    simp [M.qbP, hc]
  refine qaH (by simp; omega) ⟨h, fun r2 hr2 => ?_⟩
  rw [hr2, hv, up64 (n := p.length + 1) hj (by omega)]
  exact qaA rfl (hn trivial)
theorem wp.qbC.math (x k : Int) (h : M.qeP x k) : wp.qbC x k (fun r => r = M.qbC x k) := rfl
theorem qj2 (g : Int → Bool) : ∀ (l : List Int) (i : Nat), (M.qez g l i = -1 ∧ l.all (fun x => !g x) = true) ∨ ∃ k : Nat, k < l.length ∧ M.qez g l i = ((i + k : Nat) : Int) ∧ (l.take k).all (fun x => !g x) = true ∧ g (rd l (k : Int)) = true
 | [], i => .inl ⟨rfl, rfl⟩
 | x :: l, i => by
  unfold M.qez
  by_cases hx : g x = true
  ·rw [if_pos hx]
   exact .inr ⟨0, by simp, by simp, by simp, hx⟩
  ·rw [if_neg hx]
   rcases qj2 g l (i + 1) with ⟨h1, h2⟩ | ⟨k, hk, h1, h2, h3⟩
   ·exact .inl ⟨h1, by simp [hx]; simpa using h2⟩
   ·refine .inr ⟨k + 1, by simp; omega, by rw [h1]; congr 1; omega, ?_, ?_⟩
    ·rw [List.take_succ_cons, List.all_cons, h2]; simp [hx]
    ·rw [qcV (by simp; omega)]; rw [qcV hk] at h3; exact h3
theorem qkb {l : List Int} {g : Int → Bool} (h : l.all g = true) : l.filter g = l := List.filter_eq_self.2 (List.all_eq_true.1 h)
theorem wp.qay.math (l : List Int) (g : Int → Bool) (D : Int → Prop) (h : M.qdX l g D) : wp.qay l g D (fun r => r = M.qay l g) := by
 obtain ⟨hl, hD⟩ := h
 have hl' : l.length ≤ 9223372036854775807 := hl
 refine ⟨⟨hl, hD⟩, fun r hr => ?_⟩
 have hr' : r = M.qez g l 0 := hr
 rcases qj2 g l 0 with ⟨h1, h2⟩ | ⟨k, hk, h1, h2, h3⟩
 ·rw [hr', h1]
  exact qaH rfl (by show l = l.filter _; exact (qkb h2).symm)
 rw [hr', h1, Nat.zero_add]
 refine qaA (by simp) ?_
 rw [up64 hk hl']
 let G : Nat → List Int := fun j => (l.take j).filter fun x => !g x
 have hG : ∀ j, j < l.length → G (j + 1) = if (!g (rd l (j : Int))) = true then G j ++ [rd l (j : Int)] else G j := fun j hj => qjs hj
 have hGl : ∀ j, j ≤ l.length → (G j).length ≤ j := fun j hj => by
  have := List.length_filter_le (fun x => !g x) (l.take j)
  have h2 : (l.take j).length ≤ j := by simp; omega
  exact Nat.le_trans this h2
 have hGk : G (k + 1) = G k ∧ (G k).length = k := by
  refine ⟨by rw [hG k hk, if_neg (by rw [h3]; simp)], ?_⟩
  show ((l.take k).filter fun x => !g x).length = k
  rw [qkb h2]; simp; omega
 refine ⟨fun m z => ∃ (j : Nat) (xs : List Int), z = (((G j).length : Int), (j : Int), xs, ()) ∧ m = l.length - j ∧ k < j ∧ j ≤ l.length ∧ (G j).length < j ∧ xs.length = l.length ∧ xs.take (G j).length = G j ∧ xs.drop j = l.drop j,
  ⟨_, k + 1, l, by rw [hGk.1, hGk.2], rfl, by omega, by omega, by rw [hGk.1, hGk.2]; omega, rfl, by rw [hGk.1]; rw [hGk.2]; exact (qkb h2).symm, rfl⟩, ?_⟩
 rintro m z ⟨j, xs, rfl, rfl, hkj, hjl, hgj, hxl, hx1, hx2⟩
 have hget : j < l.length → rd xs (j : Int) = rd l (j : Int) := fun hj => by
  rw [qcV (by omega), qcV hj]
  have := congrArg (fun q => q[0]?) hx2
  simp only [List.getElem?_drop, Nat.add_zero] at this
  rw [List.getElem?_eq_getElem (by omega), List.getElem?_eq_getElem hj] at this
  exact Option.some.inj this
 by_cases hj : j < l.length
 ·refine qaH (by simp; omega) ⟨by omega, ?_⟩
  have hGj := hG j hj
  have hgl : (G j).length < xs.length := by omega
  have hd2 : (xs.set (G j).length (rd l (j : Int))).drop (j + 1) = l.drop (j + 1) := by
   rw [List.drop_set_of_lt (by omega)]
   have := congrArg (fun q => q.drop 1) hx2
   simpa [List.drop_drop, Nat.add_comm] using this
  have hd1 : xs.drop (j + 1) = l.drop (j + 1) := by
   have := congrArg (fun q => q.drop 1) hx2
   simpa [List.drop_drop, Nat.add_comm] using this
  show D (rd xs (j : Int)) ∧ _
  dsimp only
  rw [hget hj]
  refine ⟨hD _ (qgk hj), fun r2 hr2 => qa2 (fun e => ⟨⟨by omega, by omega⟩, ?_⟩) fun e => ?_⟩
  ·have e : (!g (rd l (j : Int))) = true := by rw [← hr2]; exact e
   rw [if_pos e] at hGj
   have hlen : (G (j + 1)).length = (G j).length + 1 := by rw [hGj]; simp
   refine ⟨l.length - (j + 1), by omega, j + 1, xs.set (G j).length (rd l (j : Int)), ?_, rfl, by omega, by omega, by omega, by simpa using hxl, ?_, hd2⟩
   ·rw [up64 (n := l.length) (k := (G j).length) (by omega) hl', up64 hj hl', hlen]; rfl
   ·rw [hlen, hGj, List.take_add_one, List.getElem?_set_self (by omega), List.take_set_of_le (Nat.le_refl _), hx1]; rfl
  ·have e : ¬ (!g (rd l (j : Int))) = true := by rw [← hr2, e]; simp
   rw [if_neg e] at hGj
   refine ⟨l.length - (j + 1), by omega, j + 1, xs, ?_, rfl, by omega, by omega, by rw [hGj]; omega, hxl, by rw [hGj]; exact hx1, hd1⟩
   rw [up64 hj hl', hGj]
 ·have hje : j = l.length := by omega
  have hGl : G l.length = l.filter fun x => !g x := by show (l.take l.length).filter _ = _; rw [List.take_length]
  refine qaA (by simp; omega) ⟨by omega, by simp; omega, ?_⟩
  show _ = l.filter _
  rw [← hGl, ← hje]
  have : (((G j).length : Int)).toNat = (G j).length := by simp
  rw [this, List.take_append_of_le_length (by simp; omega), List.take_take, Nat.min_self, hx1]
theorem wp.qcl.math (z : Int) (p : List D.Ins) (x : Int) (h : M.qfK z p x) : wp.qcl z p x (fun r => r = M.qcl z p x) := ⟨h, fun r hr => by rw [hr]; rfl⟩
theorem qmg (p : List D.Ins) (all l : List Int) (k : Nat) (hk : k < l.length) : M.qiY p all (l.drop k) = if all.all (fun z => M.qfw p (rd l (k : Int)) && M.qdF p (rd l (k : Int)) z) then rd l (k : Int) else M.qiY p all (l.drop (k + 1)) := by
 rw [List.drop_eq_getElem_cons hk, qcV hk]; rfl
theorem wp.qdz.math (p : List D.Ins) (l : List Int) (h : M.qgs p l) : wp.qdz p l (fun r => r = M.qdz p l) := by
 obtain ⟨h1, h2⟩ := h
 have hl : l.length ≤ 17179869183 := h1
 refine qcS l.length (fun k => ((k : Int), ())) (fun k => M.qiY p l l = M.qiY p l (l.drop k)) rfl rfl (fun k hk hF next hn => ?_) fun hF next => qaA (by simp) ?_
 ·rw [qmg p l l k hk] at hF
  have hN := h2 _ (qgk hk)
  refine qaH (by simp; omega) ⟨by omega, ⟨by show l.length ≤ 9223372036854775807; omega, fun z hz => hN⟩, fun r hr => ?_⟩
  have hr' : r = !(l.all fun z => M.qfw p (rd l (k : Int)) && M.qdF p (rd l (k : Int)) z) := by
   rw [hr]
   simp only [M.qak, M.qcl]
   rw [List.all_eq_not_any_not, Bool.not_not]
  refine qa2 (fun e => ?_) fun e => ?_
  ·have e2 := nt e hr'
   rw [if_pos (by simpa using e2)] at hF; exact hF.symm
  ·have e2 := nf e hr'
   rw [if_neg (by simpa using e2)] at hF
   rw [up64 hk (by omega)]; exact hn hF
 ·rw [List.drop_length] at hF; exact hF.symm
theorem qkt {p : List D.Ins} {all : List Int} : ∀ (l : List Int), (∀ x ∈ l, M.qfw p x = true) → M.qiY p all l = M.qhg p all l
 | [], _ => rfl
 | x :: l, h => by
  have hx := h x List.mem_cons_self
  unfold M.qiY M.qhg
  simp only [hx, Bool.true_and]
  rw [qkt l fun y hy => h y (List.mem_cons_of_mem _ hy)]
theorem wp.qci.math (p : List D.Ins) (k : Int) (h : M.qfm p k) : wp.qci p k (fun r => r = M.qci p k) := by
 have h1 := qiV p k
 have hs : p.length ≤ 2097152 := h
 refine ⟨h, fun r hr => ⟨⟨?_, fun _ _ => trivial⟩, fun r2 hr2 => ?_⟩⟩
 ·rw [hr]; show (M.qcA p k).length ≤ 9223372036854775807; omega
 have hr2' : r2 = M.others (M.qcA p k) k := by rw [hr2, hr]; rfl
 refine ⟨by rw [hr2']; exact qlw h k, fun r3 hr3 => ?_⟩
 rw [hr3, hr2']
 exact qkt _ fun x hx => by
  obtain ⟨a, b, c, d⟩ := qgj hx
  exact qm9 b a.2 c d
theorem wp.qdn.math (p : List D.Ins) (b : Int) (h : M.qgX p b) : wp.qdn p b (fun r => r = M.qdn p b) := by
 refine ⟨h, fun r hr => qa2 (fun e => ?_) fun e => ?_⟩
 ·have := nt e (show r = M.has (M.branches p) b from hr)
  simp [M.qdn, M.qlx, this]
 have e := nf e (show r = M.has (M.branches p) b from hr)
 have hB := qnY e
 obtain ⟨n1, n2, n3, n4⟩ := qpR hB
 have hM : M.qdn p b = M.qh8 p b := by simp only [M.qdn, M.qlx, e, if_true]
 rw [hM]
 refine ⟨n3, fun r2 hr2 => ?_⟩
 have hnx : M.qeu p b = M.qhs (b + 1) (rd p b).B := by
  have hb := hB.2.2.2
  simp only [M.isBr, Bool.and_eq_true, beq_iff_eq] at hb
  have := hB.2.2.1
  unfold M.qeu
  rw [if_neg (by omega), if_neg (by omega), if_neg (by omega), if_pos hb.1]
 have hr2' : r2 = M.qhs (b + 1) (rd p b).B := by rw [hr2]; exact hnx
 have hlen := qkA (b + 1) (rd p b).B
 rw [← hr2'] at hlen
 have hmem : ∀ x, x ∈ r2 ↔ x = b + 1 ∨ x = (rd p b).B := fun x => by rw [hr2']; exact qiP
 clear hr2 hr2' hnx
 have hall : r2.all (M.qfw p) = (M.qfw p (b + 1) && M.qfw p (rd p b).B) := by
  rw [Bool.eq_iff_iff, List.all_eq_true, Bool.and_eq_true]
  constructor
  ·exact fun hh => ⟨hh _ ((hmem _).2 (.inl rfl)), hh _ ((hmem _).2 (.inr rfl))⟩
  ·rintro ⟨a1, a2⟩ x hx
   rcases (hmem x).1 hx with rfl | rfl
   ·exact a1
   ·exact a2
 have hnode : ∀ x ∈ r2, M.Node p x := fun x hx => by rcases (hmem x).1 hx with rfl | rfl; exact n1; exact n2
 refine qcS r2.length (fun k => ((k : Int), ())) (fun k => (r2.take k).all (M.qfw p) = true) rfl (by simp) (fun k hk hF next hn => ?_) fun hF next => ?_
 ·refine qaH (by simp; omega) ⟨by omega, hnode _ (qgk hk), fun r3 hr3 => qa2 (fun e3 => ?_) fun e3 => ?_⟩
  ·have e3 := nt e3 (show r3 = M.qfw p (rd r2 (k : Int)) from hr3)
   have := all_false (g := M.qfw p) hk e3
   rw [hall] at this
   show _ = M.qh8 p b
   simp [M.qh8, this]
  ·have e3 := nf e3 (show r3 = M.qfw p (rd r2 (k : Int)) from hr3)
   rw [up64 hk (by omega)]
   rw [qcV hk] at e3
   exact hn (qir hk hF e3)
 ·refine qaA (by simp) ⟨h, fun r3 hr3 => ?_⟩
  rw [List.take_length, hall] at hF
  rw [hr3]
  show _ = M.qh8 p b
  simp [M.qh8, hF, M.qci]
end Go.V
