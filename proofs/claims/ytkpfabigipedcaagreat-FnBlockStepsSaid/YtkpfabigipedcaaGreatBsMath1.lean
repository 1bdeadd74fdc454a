import Derived.Test.YtkpfabigipedcaaGreatBsVBase
import Derived.Test.YtkpfabigipedcaaGreatBsVWords
import Derived.Test.YtkpfabigipedcaaGreatBsVOwn
import Derived.Test.YtkpfabigipedcaaGreatBsVLoop
import Derived.Test.YtkpfabigipedcaaGreatBsVDeep
import Derived.Test.YtkpfabigipedcaaGreatBsVEq
import Derived.Test.YtkpfabigipedcaaGreatBsVCut
import Derived.Test.YtkpfabigipedcaaGreatBsVPlc
import Derived.Test.YtkpfabigipedcaaGreatBsVFoc
import Derived.Test.YtkpfabigipedcaaGreatBsPure2
set_option linter.unusedVariables false
set_option linter.unusedSimpArgs false
set_option maxRecDepth 20000
namespace Go.V.M
open IntKind (wrap)
def qdl (p : List D.Ins) (n : Int) : D.Warp := ⟨n, if p.length > 0 then [⟨0, p.length, 255⟩] else [], List.replicate 32 0⟩
def qmx : D.Warp := ⟨0, [], []⟩
def ql6 : D.Block := ⟨[], [], [], 0, 0⟩
def qca (p : List D.Ins) (n : Int) : D.Warp × Bool := if qaT p && isIn n 0 2 then (qdl p n, true) else (qmx, false)
def qfR (p : List D.Ins) (n : Int) : Prop := Long p
def qee (p : List D.Ins) (c : Int) : D.Block := ⟨p, (List.range c.toNat).map fun k : Nat => qdl p (k : Int), List.replicate 32 0, 0, 0⟩
def qeP (p : List D.Ins) (c : Int) : D.Block × Bool := if qaT p && isIn c 1 3 then (qee p c, true) else (ql6, false)
def qbg := qeP
def qfA (p : List D.Ins) (c : Int) : Prop := Long p
def qak (l : List D.Ins) : List D.Ins := l
def qbB (l : List D.Ins) : Prop := l.length ≤ 17179869184
def qad (l : List D.Frame) : List D.Frame := l
def qaX (l : List D.Frame) : Prop := l.length ≤ 17179869184
def WFit (x : D.Warp) : Prop := x.Frames.length ≤ 17179869184 ∧ x.Regs.length ≤ 17179869184
def BFit (b : D.Block) : Prop := b.Code.length ≤ 17179869184 ∧ (b.Warps.length ≤ 17179869184 ∧ ∀ x ∈ b.Warps, WFit x) ∧ b.Memory.length ≤ 17179869184
def qbQ (x : D.Warp) : D.Warp := x
def qef (x : D.Warp) : Prop := WFit x
def qd3 (b : D.Block) : D.Block := b
def qfY (b : D.Block) : Prop := BFit b
def qcr (x : D.Warp) : D.Warp := x
def qfw (x : D.Warp) : Prop := WFit x
def qbm (b : D.Block) : D.Block := b
def qdW (b : D.Block) : Prop := BFit b
end Go.V.M
namespace Go.V.M
open IntKind (wrap)
def qdV (x : D.Warp) (l : Int) : Prop := x.Regs.length = 32 ∧ 0 ≤ l ∧ l ≤ 7
def qb3 (x : D.Warp) : Int := if x.Frames.isEmpty then 0 else (qcL x.Frames).Mask
def qbt := qb3
def qdP (x : D.Warp) : Prop := Long x.Frames
def qbc := qb3
def qd0 (x : D.Warp) : Prop := Long x.Frames
def qiR (k : Int) : Int := wrap .i64 (1 * 2 ^ (min (k.toNat) (IntKind.bits .i64)))
def qec (x : D.Warp) (reg : Int) (m : Int) (k : Int) : Int := if rd x.Regs (k * 4 + reg) = 0 then qgs .i64 m (qiR k) else m
def qch (x : D.Warp) (reg : Int) : Int := (qeX (qb3 x)).foldl (qec x reg) 0
def qaJ := qch
def qcQ (x : D.Warp) (reg : Int) : Prop := Long x.Frames ∧ x.Regs.length = 32 ∧ qg7 reg = true
def qaK (x : D.Warp) (reg : Int) : Int := if qg7 reg && x.Regs.length == 32 then qch x reg else 0
def qdI (x : D.Warp) (reg : Int) : Prop := Long x.Frames
def Runs (p : List D.Ins) (x : D.Warp) : Prop := qaT p = true ∧ qfo p x = true ∧ x.Frames ≠ []
def qdq (x : D.Warp) : Int := (qcL x.Frames).Pc
def qaF (p : List D.Ins) (x : D.Warp) : D.Ins := rd p (qdq x)
def splits (p : List D.Ins) (x : D.Warp) : Bool :=
 ((qaF p x).Op == 10 && (qaF p x).B != qdq x + 1) && (qch x (qaF p x).A != 0 && qch x (qaF p x).A != (qcL x.Frames).Mask)
def qb9 := splits
def qel (p : List D.Ins) (x : D.Warp) : Prop := Runs p x
def qaR (x : D.Warp) (p : List D.Ins) : Bool := splits p x
def qe1 (x : D.Warp) (p : List D.Ins) : Prop := Runs p x
def qaG (p : List D.Ins) (x : D.Warp) : Bool := !x.Frames.isEmpty && (qcw (qaF p x) && (!splits p x || decide (x.Frames.length ≤ 22)))
def qfv (p : List D.Ins) (x : D.Warp) : Prop := qaT p = true ∧ qfo p x = true
def qgO (b : D.Block) (w : Int) : Bool :=
 let x := rd b.Warps w
 !x.Frames.isEmpty && (!waits b w && (if qcw (qaF b.Code x) then !splits b.Code x || decide (x.Frames.length ≤ 22) else (qaF b.Code x).Op != 16 || x.Frames.length == 1))
def qcp := qgO
def qgn (b : D.Block) (w : Int) : Prop := Has b w
def qaC := qgO
def qei (b : D.Block) (w : Int) : Prop := Has b w
def qfV (b : D.Block) (w : Int) : Bool := qf5 b w && qgO b w
def qck := qfV
def qeL (b : D.Block) (w : Int) : Prop := qi9 b
def qgz (b : D.Block) (n f : Int) : Nat → Int → Int
 | 0, _ => -1
 | r + 1, k => if qgO b (Int.tmod (f + k) n) then Int.tmod (f + k) n else qgz b n f r (k + 1)
def pick (b : D.Block) (q : Int) : Int := qgz b b.Warps.length (Int.tmod q b.Warps.length) b.Warps.length 0
def Good (b : D.Block) : Prop := qi9 b ∧ qdS b = true
def qdf := pick
def qfZ (b : D.Block) (q : Int) : Prop := Good b ∧ 0 ≤ q ∧ q ≤ 9223372036854775807
end Go.V.M
namespace Go.V.M
open IntKind (wrap)
def qf4 (p : List D.Ins) : Prop := p.length ≤ 2097152
def qnz {α : Type} (l : List α) : Prop := l.length ≤ 17179869183
def idx (g : Int → Bool) : Nat → List Int
 | 0 => []
 | k + 1 => if g (k : Int) then idx g k ++ [(k : Int)] else idx g k
def isBr (p : List D.Ins) (k : Int) : Bool := (rd p k).Op == 10 && (rd p k).B != k + 1
def branches (p : List D.Ins) : List Int := if qaT p then idx (isBr p) p.length else []
def others (l : List Int) (n : Int) : List Int := l.filter fun x => x != n
def has (l : List Int) (n : Int) : Bool := l.any fun y => n == y
def qdN (p : List D.Ins) (k : Int) : Prop := 0 ≤ k ∧ k ≤ (p.length : Int)
def Node (p : List D.Ins) (k : Int) : Prop := qaT p = true ∧ qdN p k
def qeF (p : List D.Ins) (k : Int) : Bool := qaT p && isIn k 0 p.length
def qh1 (a b : Int) : List Int := if b < a then [b, a] else if b = a then [a] else [a, b]
def qe6 (p : List D.Ins) (k : Int) : List Int :=
 if k = p.length then [] else if (rd p k).Op = 12 then [(p.length : Int)] else if (rd p k).Op = 11 then [(rd p k).B] else if (rd p k).Op = 10 then qh1 (k + 1) (rd p k).B else [k + 1]
def bfs (p : List D.Ins) (wo : Int) : Nat → List Int → List Bool → List Bool
 | 0, _, seen => seen
 | _ + 1, [], seen => seen
 | f + 1, k :: work, seen => if k = wo ∨ rd seen k = true then bfs p wo f work seen else bfs p wo f (work ++ qe6 p k) (seen.set k.toNat true)
def reached (p : List D.Ins) (frm : List Int) (wo : Int) : List Bool := bfs p wo (3 * (p.length + 1) + frm.length) frm (List.replicate (p.length + 1) false)
def qeV (p : List D.Ins) (k : Int) : Bool := rd (reached p [k] (-1)) p.length
def qdj (p : List D.Ins) (k later : Int) : Bool := !rd (reached p [k] later) p.length
def qci (p : List D.Ins) (k : Int) : List Int := if qeF p k && qeV p k then idx (qdj p k) (p.length + 1) else []
def qgL (p : List D.Ins) (all : List Int) : List Int → Int
 | [] => -1
 | x :: l => if all.all (qdj p x) then x else qgL p all l
def qil (p : List D.Ins) (all : List Int) : List Int → Int
 | [] => -1
 | x :: l => if all.all (fun z => qeV p x && qdj p x z) then x else qil p all l
def qhl (p : List D.Ins) (k : Int) : Int := qgL p (others (qci p k) k) (others (qci p k) k)
def qgF (p : List D.Ins) (b : Int) : Int := if qeV p (b + 1) && qeV p (rd p b).B then qhl p b else p.length
def qcE := others
def qfn (l : List Int) (n : Int) : Prop := qnz l
def qdv := qeF
def qgE (p : List D.Ins) (k : Int) : Prop := qf4 p
def putAt (l : List Int) (n : Int) : Nat → Nat
 | 0 => 0
 | k + 1 => if rd l (k : Int) > n then putAt l n k else k + 1
def qcC (l : List Int) (n : Int) : List Int :=
 if putAt l n l.length > 0 ∧ rd l (((putAt l n l.length : Nat) : Int) - 1) = n then l else l.take (putAt l n l.length) ++ [n] ++ l.drop (putAt l n l.length)
def qgo (l : List Int) (n : Int) : Prop := qnz l
def qc9 := qe6
def qeR (p : List D.Ins) (k : Int) : Prop := Node p k
def Starts (p : List D.Ins) (l : List Int) : Prop := qaT p = true ∧ (∀ x ∈ l, qdN p x) ∧ l.length ≤ 4
def qcu (p : List D.Ins) (l : List Int) : List Bool := reached p l (-1)
def qfH (p : List D.Ins) (l : List Int) : Prop := Starts p l
def qaE (p : List D.Ins) (k : Int) : Bool := qeF p k && qeV p k
def qdD (p : List D.Ins) (k : Int) : Prop := qf4 p
def qcs := qdj
def qew (p : List D.Ins) (k later : Int) : Prop := Node p k
def qce := qci
def qfC (p : List D.Ins) (k : Int) : Prop := qf4 p
def Nodes (p : List D.Ins) (l : List Int) : Prop := qnz l ∧ ∀ x ∈ l, Node p x
def qcS (p : List D.Ins) (l : List Int) : Int := qgL p l l
def qfq (p : List D.Ins) (l : List Int) : Prop := Nodes p l
def qbT := qhl
def qeY (p : List D.Ins) (k : Int) : Prop := qf4 p
def Branch (p : List D.Ins) (b : Int) : Prop := qaT p = true ∧ 0 ≤ b ∧ b < (p.length : Int) ∧ isBr p b = true
def qcl := qgF
def qfU (p : List D.Ins) (b : Int) : Prop := Branch p b
def cmp_isNaN_int (x : Int) : Bool := false
def cmp_Less_int (x y : Int) : Bool := decide (x < y)
def qhZ (l : List Int) : List Int := if rd l 1 < rd l 0 then [rd l 1, rd l 0] else l
def qao (l : List Int) (a b : Int) : List Int := qhZ l
def qcU (l : List Int) (a b : Int) : Prop := l.length = 2 ∧ a = 0 ∧ b = 2
def qbU (x : Int) : Int := 2
def qeT (x : Int) : Prop := x = 2
def qcR (x : Int) : Int := 2
def qfG (x : Int) : Prop := x = 2
def qaH (l : List Int) (a b c : Int) : List Int := qhZ l
def qdx (l : List Int) (a b c : Int) : Prop := l.length = 2 ∧ a = 0 ∧ b = 2
def qaO (l : List Int) : List Int := qhZ l
def qea (l : List Int) : Prop := l.length = 2
def qat (l : List Int) : List Int := if rd l 1 = rd l 0 then l.take 1 else l
def qdR (l : List Int) : Prop := l.length = 2
def qdb := qe6
def qfj (p : List D.Ins) (k : Int) : Prop := Node p k
def qbu := branches
def qf0 (p : List D.Ins) : Prop := qf4 p
def qcT (p : List D.Ins) (b : Int) : Bool := has (branches p) b
def qfz (p : List D.Ins) (b : Int) : Prop := qf4 p
def qco := reached
def qeN (p : List D.Ins) (l : List Int) (wo : Int) : Prop := Starts p l
def qbr := qeV
def qe4 (p : List D.Ins) (k : Int) : Prop := Node p k
def qcN := qeF
def qfi (p : List D.Ins) (k : Int) : Prop := qf4 p
def qc0 (p : List D.Ins) (k later : Int) : Bool := qeV p k && qdj p k later
def qeO (p : List D.Ins) (k later : Int) : Prop := Node p k
def qbz (p : List D.Ins) (k later : Int) : Bool := qeF p k && (qeF p later && (qeV p k && qdj p k later))
def qg2 (p : List D.Ins) (k later : Int) : Prop := qf4 p
def qbI := qci
def qfE (p : List D.Ins) (k : Int) : Prop := qf4 p
def qbo (x k : Int) : Bool := x == k
def qes (x k : Int) : Prop := True
def qar (l : List Int) (g : Int → Bool) : List Int := l.filter fun x => !g x
def qdy (l : List Int) (g : Int → Bool) (D : Int → Prop) : Prop := Long l ∧ ∀ x ∈ l, D x
def qbV (z : Int) (p : List D.Ins) (x : Int) : Bool := !(qeV p x && qdj p x z)
def qff (z : Int) (p : List D.Ins) (x : Int) : Prop := Node p x
def qde (p : List D.Ins) (l : List Int) : Int := qil p l l
def qfS (p : List D.Ins) (l : List Int) : Prop := Nodes p l
def qbS := qhl
def qeU (p : List D.Ins) (k : Int) : Prop := qf4 p
def qkE (p : List D.Ins) (b : Int) : Int := if has (branches p) b then qgF p b else -1
def qcX := qkE
def qgr (p : List D.Ins) (b : Int) : Prop := qf4 p
end Go.V.M
namespace Go.V.M
open IntKind (wrap)
def qiC (fs : List D.Frame) (n : Int) : Nat → List D.Frame
 | 0 => []
 | k + 1 => if (rd fs (k : Int)).Pc ≠ (rd fs (k : Int)).Stop ∧ (rd fs (k : Int)).Pc ≠ n then fs.take (k + 1) else qiC fs n k
def qkX (fs : List D.Frame) (n : Int) : List D.Frame := qiC fs n fs.length
def qga (x : D.Warp) (n : Int) : D.Warp := ⟨x.Number, qkX x.Frames n, x.Regs⟩
def qbl := qga
def qdU (x : D.Warp) (n : Int) : Prop := Long x.Frames
def qaD (p : List D.Ins) (x : D.Warp) : D.Warp := qga x p.length
def qcA (p : List D.Ins) (x : D.Warp) : Prop := WFit x
def qen (r : List Int) (l : Nat) : List Int := (r.take (l * 4 + 4)).drop (l * 4)
def qfa (r : List Int) (l : Nat) (x : List Int) : List Int := r.take (l * 4) ++ x ++ r.drop (l * 4 + 4)
def qfl (i : D.Ins) (num m : Int) (r : List Int) : Nat → List Int
 | 0 => r
 | k + 1 => if qd9 m (k : Int) then qfa (qfl i num m r k) k (apply i (num * 8 + (k : Int)) (qen r k)) else qfl i num m r k
def qg9 (i : D.Ins) (num m : Int) (r : List Int) : List Int := qfl i num m r 8
def qcI (p : List D.Ins) (x : D.Warp) : List Int := qg9 (qaF p x) x.Number (qcL x.Frames).Mask x.Regs
def qfy (p : List D.Ins) (x : D.Warp) : Prop := Runs p x
def qaZ (i : D.Ins) (t : Int) (xs : List Int) (lo hi : Nat) : List Int := xs.take lo ++ apply i t ((xs.take hi).drop lo) ++ xs.drop hi
def qg4 (i : D.Ins) (t : Int) (xs : List Int) (lo hi : Nat) : Prop := Fits i ((xs.take hi).drop lo) ∧ lo ≤ hi ∧ hi ≤ xs.length
def qg5 (p : List D.Ins) (x : D.Warp) : Int :=
 if (qaF p x).Op = 12 then (p.length : Int) else if (qaF p x).Op = 11 then (qaF p x).B else if (qaF p x).Op = 10 ∧ qch x (qaF p x).A = (qcL x.Frames).Mask then (qaF p x).B else qdq x + 1
def qe0 (fs : List D.Frame) (pc : Int) : List D.Frame := fs.set (fs.length - 1) ⟨pc, (qcL fs).Stop, (qcL fs).Mask⟩
def advance (p : List D.Ins) (x : D.Warp) : D.Warp := ⟨x.Number, qe0 x.Frames (qg5 p x), qg9 (qaF p x) x.Number (qcL x.Frames).Mask x.Regs⟩
def qb5 (x : D.Warp) (p : List D.Ins) : D.Warp := advance p x
def qeq (x : D.Warp) (p : List D.Ins) : Prop := Runs p x
def qla (p : List D.Ins) (x : D.Warp) : Prop := (qaF p x).Op = 10 ∧ (qaF p x).B ≠ qdq x + 1
def separated (p : List D.Ins) (x : D.Warp) : D.Warp :=
 ⟨x.Number, qe0 x.Frames (qgF p (qdq x)) ++ [⟨qdq x + 1, qgF p (qdq x), qeE .i64 (qcL x.Frames).Mask (qch x (qaF p x).A)⟩, ⟨(qaF p x).B, qgF p (qdq x), qch x (qaF p x).A⟩], x.Regs⟩
def qaI (x : D.Warp) (p : List D.Ins) : Bool × D.Warp := if x.Frames.length ≤ 22 then (true, separated p x) else (false, x)
def qej (x : D.Warp) (p : List D.Ins) : Prop := Runs p x ∧ qla p x
def stepW (p : List D.Ins) (x : D.Warp) : D.Warp := qga (if splits p x then separated p x else advance p x) p.length
def Goes (p : List D.Ins) (x : D.Warp) : Prop := Runs p x ∧ qaG p x = true
def qd5 := stepW
def qg3 (p : List D.Ins) (x : D.Warp) : Prop := Goes p x
def Fine (p : List D.Ins) (x : D.Warp) : Prop := qaT p = true ∧ qfo p x = true
def qba (x : D.Warp) (p : List D.Ins) : Bool × D.Warp := if qaG p x then (true, stepW p x) else (false, x)
def qfe (x : D.Warp) (p : List D.Ins) : Prop := Fine p x
end Go.V.M
namespace Go.V.M
open IntKind (wrap)
def once (c : D.Cur) (n : Int) : Bool × D.Cur := ((qa0 c n).1 == 0, (qa0 c n).2)
def qcz := once
def qeM (c : D.Cur) (n : Int) : Prop := qdn c
def setB (p : List D.Ins) (k : Nat) (v : Int) : List D.Ins := p.set k ⟨(rd p (k : Int)).Op, (rd p (k : Int)).A, v, (rd p (k : Int)).C⟩
def qhV (p : List D.Ins) : List D.Ins := p ++ [(⟨8, 3, 0, 0⟩ : D.Ins)]
def qj5 (p : List D.Ins) : List D.Ins := ((qhV p ++ [(⟨10, 3, 0, 0⟩ : D.Ins)]) ++ [(⟨3, 0, 0, 1⟩ : D.Ins), (⟨1, 2, 1, 0⟩ : D.Ins), (⟨4, 3, 3, 2⟩ : D.Ins)]) ++ [(⟨11, 0, ((qhV p).length : Int), 0⟩ : D.Ins)]
def qhM (p : List D.Ins) : List D.Ins := setB (qj5 p) (qhV p).length ((qj5 p).length : Int)
def qcP (rec : D.Cur → List D.Ins → List D.Ins × D.Cur) (c : D.Cur) (p : List D.Ins) : List D.Ins × D.Cur := rec (qa0 c 4).2 (p ++ [⟨10, (qa0 c 4).1, 0, 0⟩])
def qh7 (rec : D.Cur → List D.Ins → List D.Ins × D.Cur) (c : D.Cur) (p q : List D.Ins) : List D.Ins × D.Cur := rec c (setB (q ++ [⟨11, 0, 0, 0⟩]) p.length ((q ++ [(⟨11, 0, 0, 0⟩ : D.Ins)]).length : Int))
def ifIn (rec : D.Cur → List D.Ins → List D.Ins × D.Cur) (c : D.Cur) (p : List D.Ins) : List D.Ins × D.Cur :=
 if (once (qcP rec c p).2 2).1 then (setB (qcP rec c p).1 p.length ((qcP rec c p).1.length : Int), (once (qcP rec c p).2 2).2)
 else (setB (qh7 rec (once (qcP rec c p).2 2).2 p (qcP rec c p).1).1 (qcP rec c p).1.length ((qh7 rec (once (qcP rec c p).2 2).2 p (qcP rec c p).1).1.length : Int), (qh7 rec (once (qcP rec c p).2 2).2 p (qcP rec c p).1).2)
def qer (rec : D.Cur → List D.Ins → List D.Ins × D.Cur) (deep : Bool) (c : D.Cur) (p : List D.Ins) : List D.Ins × D.Cur :=
 if (qa0 c 5).1 = 0 then (if deep then ifIn rec (qa0 c 5).2 p else (p, (qa0 c 5).2))
 else if (qa0 c 5).1 = 1 then (if deep ∧ ¬ (p.length : Int) > 14 then (qhM p, (qa0 c 5).2) else (p, (qa0 c 5).2))
 else (p ++ [(qaw (qa0 c 5).2).1], (qaw (qa0 c 5).2).2)
def qis (rec : D.Cur → List D.Ins → List D.Ins × D.Cur) (deep : Bool) : Nat → D.Cur → List D.Ins → List D.Ins × D.Cur
 | 0, c, p => (p, c)
 | n + 1, c, p => if (p.length : Int) < 20 then qis rec deep n (qer rec deep c p).2 (qer rec deep c p).1 else (p, c)
def body : Nat → D.Cur → List D.Ins → List D.Ins × D.Cur
 | 0, c, p => qis (fun c p => (p, c)) false (qa0 c 4).1.toNat (qa0 c 4).2 p
 | d + 1, c, p => qis (body d) true (qa0 c 4).1.toNat (qa0 c 4).2 p
def qaQ (c : D.Cur) (p : List D.Ins) (d : Int) : List D.Ins × D.Cur := body d.toNat c p
def qdA (c : D.Cur) (p : List D.Ins) (d : Int) : Prop := qdn c ∧ p.length ≤ 24 ∧ 0 ≤ d ∧ d ≤ 2
end Go.V.M
namespace Go.V.M
open IntKind (wrap)
def qbA (c : D.Cur) : D.Ins × D.Cur :=
 (⟨(qap c [13, 14, 15]).1, (qa0 (qap c [13, 14, 15]).2 4).1, (qa0 (qa0 (qap c [13, 14, 15]).2 4).2 4).1, 0⟩, (qa0 (qa0 (qap c [13, 14, 15]).2 4).2 4).2)
def qf9 (c : D.Cur) : Prop := qdn c
def qj2 (c : D.Cur) : List D.Ins × D.Cur := ([⟨8, 0, 0, 0⟩, ⟨14, 0, (qa0 c 4).1, 0⟩], (qa0 c 4).2)
def qjR (c : D.Cur) : List D.Ins × D.Cur := ([⟨1, 1, (qap c [1, 8, 31]).1, 0⟩, ⟨8, 0, 0, 0⟩, ⟨3, 0, 0, 1⟩, ⟨13, 2, 0, 0⟩], (qap c [1, 8, 31]).2)
def qkh (c : D.Cur) : List D.Ins × D.Cur := ([⟨1, 1, 24 + (qa0 c 8).1, 0⟩, ⟨15, 1, (qa0 (qa0 c 8).2 4).1, 0⟩], (qa0 (qa0 c 8).2 4).2)
def qfX (c : D.Cur) (p : List D.Ins) : List D.Ins × D.Cur :=
 if (qa0 c 7).1 = 0 then (p ++ [⟨16, 0, 0, 0⟩], (qa0 c 7).2)
 else if (qa0 c 7).1 = 1 then (p ++ (qj2 (qa0 c 7).2).1, (qj2 (qa0 c 7).2).2)
 else if (qa0 c 7).1 = 2 then (p ++ (qjR (qa0 c 7).2).1, (qjR (qa0 c 7).2).2)
 else if (qa0 c 7).1 = 3 then (p ++ (qkh (qa0 c 7).2).1, (qkh (qa0 c 7).2).2)
 else if (qa0 c 7).1 = 4 then (if (p.length : Int) < 12 then body 1 (qa0 c 7).2 p else (p, (qa0 c 7).2))
 else if (qa0 c 7).1 = 5 then (p ++ [(qbA (qa0 c 7).2).1], (qbA (qa0 c 7).2).2)
 else (p ++ [(qaw (qa0 c 7).2).1], (qaw (qa0 c 7).2).2)
def qhD : Nat → D.Cur → List D.Ins → List D.Ins × D.Cur
 | 0, c, p => (p, c)
 | n + 1, c, p => if (p.length : Int) + 4 ≤ 32 then qhD n (qfX c p).2 (qfX c p).1 else (p, c)
def qa7 (c : D.Cur) : List D.Ins × D.Cur := qhD (1 + (qa0 c 5).1).toNat (qa0 c 5).2 [⟨8, 0, 0, 0⟩]
def qf2 (c : D.Cur) : Prop := qdn c
end Go.V.M
namespace Go.V.M
open IntKind (wrap)
def qeG (i : D.Ins) (s : List Int × List Int) (k : Int) : List Int × List Int :=
 if i.Op = 13 then (s.1.set (k * 4 + i.A).toNat (rd s.2 (Int.tmod (rd s.1 (k * 4 + i.B)) 32)), s.2)
 else if i.Op = 14 then (s.1, s.2.set (Int.tmod (rd s.1 (k * 4 + i.A)) 32).toNat (rd s.1 (k * 4 + i.B)))
 else if i.Op = 15 then (s.1, s.2.set (Int.tmod (rd s.1 (k * 4 + i.A)) 32).toNat (addW (rd s.2 (Int.tmod (rd s.1 (k * 4 + i.A)) 32)) (rd s.1 (k * 4 + i.B))))
 else s
def qjg (i : D.Ins) (m : Int) (s : List Int × List Int) : Nat → List Int × List Int
 | 0 => s
 | k + 1 => if qd9 m (k : Int) then qeG i (qjg i m s k) (k : Int) else qjg i m s k
def qiG (i : D.Ins) (x : D.Warp) (mem : List Int) : List Int × List Int := qjg i (qb3 x) (x.Regs, mem) 8
def ql8 (b : D.Block) (w : Int) (x : D.Warp) : D.Block := ⟨b.Code, b.Warps.set w.toNat x, b.Memory, b.Waiting, b.Phase⟩
def qcx (b : D.Block) (w : Int) (i : D.Ins) : D.Block :=
 ⟨b.Code, b.Warps.set w.toNat ⟨(rd b.Warps w).Number, (rd b.Warps w).Frames, (qiG i (rd b.Warps w) b.Memory).1⟩, (qiG i (rd b.Warps w) b.Memory).2, b.Waiting, b.Phase⟩
def Live (b : D.Block) (w : Int) : Prop := Has b w ∧ (rd b.Warps w).Frames ≠ []
def qbN (b : D.Block) (w : Int) : D.Block × List D.Warp × List Int := (qcx b w (qcB b w), (qcx b w (qcB b w)).Warps, (qcx b w (qcB b w)).Memory)
def qfk (b : D.Block) (w : Int) : Prop := Live b w ∧ qcw (qcB b w) = false
def qbD (b : D.Block) (w : Int) (i : D.Ins) : D.Block := qcx b w i
def qep (b : D.Block) (w : Int) (i : D.Ins) : Prop := Live b w ∧ i = qcB b w ∧ qcw i = false
def qf1 (b : D.Block) : Nat → Bool
 | 0 => true
 | k + 1 => qf1 b k && ((rd b.Warps (k : Int)).Frames.isEmpty || waits b (k : Int))
def qbj (b : D.Block) : Bool := qf1 b b.Warps.length && b.Waiting != 0
def qgi (b : D.Block) : Prop := Long b.Warps
def qhh (p : List D.Ins) (x : D.Warp) : D.Warp := qga ⟨x.Number, qe0 x.Frames (qdq x + 1), x.Regs⟩ p.length
def actB (b : D.Block) (w : Int) : D.Block :=
 if qcw (qcB b w) then ql8 b w (stepW b.Code (rd b.Warps w))
 else ⟨b.Code, b.Warps.set w.toNat (qhh b.Code (rd (qcx b w (qcB b w)).Warps w)), (qcx b w (qcB b w)).Memory, if (qcB b w).Op = 16 then qgs .i64 b.Waiting (qiR w) else b.Waiting, b.Phase⟩
def qhj (b : D.Block) : D.Block := if qbj b then ⟨b.Code, b.Warps, b.Memory, 0, b.Phase + 1⟩ else b
def qdo (b : D.Block) (w : Int) : D.Block := qhj (actB b w)
def qhv (b : D.Block) (w : Int) : Prop := Has b w ∧ qgO b w = true
def qdd := qdo
def qg0 (b : D.Block) (w : Int) : Prop := qhv b w
def qbe (b : D.Block) (w : Int) : Bool × D.Block := (decide ((qdo b w).Phase ≤ 100000), qdo b w)
def qeZ (b : D.Block) (w : Int) : Prop := qhv b w
def qfP (b : D.Block) (w : Int) : D.Block × Bool := if qfV b w then (if (qdo b w).Phase > 100000 then (b, false) else (qdo b w, true)) else (b, false)
def qcD := qfP
def qfb (b : D.Block) (w : Int) : Prop := BFit b
end Go.V.M
namespace Go.V.M
open IntKind (wrap)
def stops (f : Nat → Int) (x : D.Block) (k : Nat) : Bool := decide (f k < 0) || (x.Phase == 100000 || decide (pick x (f k) < 0))
def goTo (f : Nat → Int) : Nat → D.Block → Nat → D.Block × Int
 | 0, x, k => (x, (k : Int))
 | m + 1, x, k => if stops f x k then (x, (k : Int)) else goTo f m (qdo x (pick x (f k))) (k + 1)
def goAt (f : Nat → Int) (b : D.Block) : Nat → D.Block
 | 0 => b
 | k + 1 => qdo (goAt f b k) (pick (goAt f b k) (f k))
def qe3 (s : Int) (k : Nat) : Int := (k : Int) * s
end Go.V.M
namespace Go.V.M
open IntKind (wrap)
def qcV (b : D.Block) (s n : Int) : D.Block := (goTo (qe3 s) n.toNat b 0).1
def qgj (b : D.Block) (s n : Int) : Prop := Good b ∧ 0 ≤ s ∧ s ≤ 100 ∧ 0 ≤ n ∧ n ≤ 9000
def qaU (c : D.Cur) : D.Block × D.Cur :=
 let p := qa7 c; let n := qa0 p.2 3; let b := (qeP p.1 (1 + n.1)).1; let o := once n.2 3
 if o.1 then (⟨b.Code, b.Warps, (qbf o.2 32).1, b.Waiting, b.Phase⟩, (qbf o.2 32).2) else (b, o.2)
def qct (c : D.Cur) : D.Block × D.Cur :=
 (qcV (qaU c).1 (qa0 (qaU c).2 4).1 (qa0 (qa0 (qaU c).2 4).2 40).1, (qa0 (qa0 (qaU c).2 4).2 40).2)
def qfB (c : D.Cur) : Prop := qdn c
def qbP (b : List Int) : D.Block := (qct (qaB b)).1
def qfc (b : List Int) : Prop := Long b
def qaP (b : List Int) : Bool := true
def qeo (b : List Int) : Prop := Long b
end Go.V.M
namespace Go.V
open IntKind (wrap)
def wp.qan (x0 : Int) (x1 : Int) (x2 : Int) (Q : Bool → Prop) : Prop :=
 bcase (decide (x0 ≥ x1)) (Q (decide (x0 ≤ x2))) (Q false)
def wp.qaM (x0 : Int) (x1 : Int) (x2 : Int) (Q : Bool → Prop) : Prop :=
 bcase (decide (x0 ≥ x1)) (Q (decide (x0 ≤ x2))) (Q false)
def wp.qbs (x0 : Int) (Q : Bool → Prop) : Prop :=
 (∀ r21, r21 = M.qan x0 0 65535 → Q r21)
def wp.qb0 (x0 : Int) (Q : Bool → Prop) : Prop :=
 (∀ r21, r21 = M.qaM x0 0 65535 → Q r21)
def wp.qcZ (x0 : Int) (Q : Bool → Prop) : Prop :=
 (∀ r21, r21 = M.qan x0 0 255 → Q r21)
def wp.qdz (x0 : Int) (Q : Bool → Prop) : Prop :=
 (∀ r21, r21 = M.qan x0 0 7 → Q r21)
def wp.qcy (x0 : Int) (x1 : Int) (Q : Bool → Prop) : Prop :=
 (∀ r21, r21 = M.qcZ x0 → bcase r21 ((∀ r26, r26 = M.qdz x1 → bcase r26 (((0 ≤ x1) ∧ Q ((qdt .i64 (Int.fdiv x0 (2 ^ (min (x1.toNat) (IntKind.bits .i64)))) 1) == 1))) (Q false))) (Q false))
def wp.qc7 (x0 : Int) (Q : (List Int) → Prop) : Prop :=
 qd4 (σ := (List Int) × Int × Unit) (fun (p54 : (List Int) × Int × Unit) next31 => match p54 with | (xs24, i27, _) => bcase (decide (i27 < 8)) ((∀ r33, r33 = M.qcy x0 i27 → bcase r33 (((xs24.length + ([i27] : List Int).length ≤ 17179869184) ∧ next31 ((xs24 ++ ([i27] : List Int)), (wrap .i64 (i27 + 1)), ()))) (next31 (xs24, (wrap .i64 (i27 + 1)), ())))) (Q xs24)) (([] : List Int), 0, ())
end Go.V
namespace Go.V
open IntKind (wrap)
theorem wp.qan.math (x a b : Int) : wp.qan x a b (fun r => r = M.qan x a b) := by
 simp only [wp.qan, qgl, M.qan, M.isIn]
 exact ⟨fun h => by simp at h; simp [h], fun h => by simp at h; simp; omega⟩
theorem wp.qaM.math (x a b : Int) : wp.qaM x a b (fun r => r = M.qaM x a b) := wp.qan.math x a b
theorem wp.qbs.math (x : Int) : wp.qbs x (fun r => r = M.qbs x) := fun r h => h
theorem wp.qb0.math (x : Int) : wp.qb0 x (fun r => r = M.qb0 x) := fun r h => h
theorem wp.qcZ.math (x : Int) : wp.qcZ x (fun r => r = M.qcZ x) := fun r h => h
theorem wp.qdz.math (x : Int) : wp.qdz x (fun r => r = M.qdz x) := fun r h => h
theorem wp.qcy.math (m l : Int) : wp.qcy m l (fun r => r = M.qcy m l) := by
 intro r1 h1
 refine qa2 (fun e1 r2 h2 => qa2 (fun e2 => ?_) fun e2 => ?_) fun e1 => ?_
 ·have : M.qhR l = true := by rw [← e2, h2]; rfl
  have h0 : 0 ≤ l := by simp [M.qhR, M.isIn] at this; omega
  refine ⟨h0, ?_⟩
  have e1' : M.qfp m = true := by rw [← e1, h1]; rfl
  simp [M.qcy, M.qd9, e1', this]
 ·have : M.qhR l = false := by rw [← e2, h2]; rfl
  simp [M.qcy, M.qd9, this]
 ·have : M.qfp m = false := by rw [← e1, h1]; rfl
  simp [M.qcy, M.qd9, this]
theorem wp.qc7.math (m : Int) : wp.qc7 m (fun r => r = M.qc7 m) := by
 unfold wp.qc7
 refine ⟨fun k p => (k : Int) = 8 - p.2.1 ∧ 0 ≤ p.2.1 ∧ p.2.1 ≤ 8 ∧ p.1 = ([0, 1, 2, 3, 4, 5, 6, 7].take p.2.1.toNat).filter (M.qd9 m), ⟨8, by simp⟩, ?_⟩
 rintro k ⟨xs, i, _⟩ ⟨hk, h0, h8, hx⟩
 simp only at hk h0 h8 hx ⊢
 refine qa2 (fun e => ?_) fun e => ?_
 ·have hlt : i < 8 := by simpa using e
  intro r hr
  have hs : (([0, 1, 2, 3, 4, 5, 6, 7] : List Int).take (i + 1).toNat) = ([0, 1, 2, 3, 4, 5, 6, 7] : List Int).take i.toNat ++ [i] := by
   have : i = 0 ∨ i = 1 ∨ i = 2 ∨ i = 3 ∨ i = 4 ∨ i = 5 ∨ i = 6 ∨ i = 7 := by omega
   rcases this with rfl | rfl | rfl | rfl | rfl | rfl | rfl | rfl <;> rfl
  have hw : wrap .i64 (i + 1) = i + 1 := w64 (by omega) (by omega)
  refine qa2 (fun e2 => ⟨?_, (k - 1), by omega, ?_⟩) fun e2 => ⟨k - 1, by omega, ?_⟩
  ·rw [hx]
   have := List.length_filter_le (M.qd9 m) (([0, 1, 2, 3, 4, 5, 6, 7] : List Int).take i.toNat)
   simp at this ⊢; omega
  ·simp only [hw, hs, List.filter_append]
   refine ⟨by omega, by omega, by omega, ?_⟩
   rw [hx, List.filter_cons, if_pos (by rw [← e2, hr]; rfl)]; rfl
  ·simp only [hw, hs, List.filter_append]
   refine ⟨by omega, by omega, by omega, ?_⟩
   rw [hx, List.filter_cons, if_neg (by rw [show M.qd9 m i = r from hr.symm, e2]; simp)]; simp
 ·have : i = 8 := by simp at e; omega
  subst this
  rw [hx]; rfl
end Go.V
namespace Go.V
open IntKind (wrap)
def wp.qbk (x0 : Int) (Q : Int → Prop) : Prop :=
 Q (Int.tmod (wrap .i64 ((Int.tmod x0 65536) + 65536)) 65536)
def wp.qbi (x0 : Int) (x1 : Int) (Q : Int → Prop) : Prop :=
 (∀ r21, r21 = M.qb0 x0 → bcase (!r21) (Q 0) ((∀ r26, r26 = M.qb0 x1 → bcase (!r26) (Q 0) ((∀ r31, r31 = M.qbk (wrap .i64 (x0 + x1)) → Q r31)))))
def wp.qai (xs0 : List Int) (g1 : Int → Bool) (D1 : Int → Prop) (Q : Int → Prop) : Prop :=
 qd4 (σ := Int × Unit) (fun (p42 : Int × Unit) next25 => match p42 with | (i21, _) => bcase (decide (i21 < (xs0.length : Int))) (((0 ≤ i21 ∧ i21 < (xs0.length : Int)) ∧ (D1 (rd xs0 i21) ∧ ∀ r32, r32 = g1 (rd xs0 i21) → bcase r32 (Q i21) (next25 ((wrap .i64 (i21 + 1)), ()))))) (Q (-1))) (0, ())
def wp.qaf (xs0 : List Int) (g1 : Int → Bool) (D1 : Int → Prop) (Q : Bool → Prop) : Prop :=
 (M.qd7 xs0 g1 D1 ∧ ∀ r21, r21 = M.qai xs0 g1 → Q (decide (r21 ≥ 0)))
def wp.qbG (x0 : Int) (Q : Bool → Prop) : Prop :=
 (∀ r21, r21 = M.qbs x0 → Q (!r21))
def wp.qbJ (xs0 : List Int) (Q : Bool → Prop) : Prop :=
 (M.qcJ xs0 (fun z0_ => M.qbG z0_) (fun _ => True) ∧ ∀ r21, r21 = M.qaf xs0 (fun z0_ => M.qbG z0_) → Q (!r21))
def wp.qcK (x0 : Int) (Q : Int → Prop) : Prop :=
 Q (qdt .i64 x0 65535)
def wp.qbd (x0 : Int) (x1 : Int) (x2 : Int) (Q : Int → Prop) : Prop :=
 (∀ r21, r21 = M.qbs x0 → bcase (!r21) (Q 0) ((∀ r26, r26 = M.qbs x1 → bcase (!r26) (Q 0) ((∀ r31, r31 = M.qcK x2 → Q r31)))))
def wp.qbE (x0 : Int) (x1 : Int) (Q : Int → Prop) : Prop :=
 (∀ r21, r21 = M.qbd x0 x1 (wrap .i64 (x0 + x1)) → Q r21)
def wp.qdB (x0 : Int) (Q : Bool → Prop) : Prop :=
 (∀ r21, r21 = M.qaM x0 0 255 → Q r21)
def wp.qby (x0 : Int) (x1 : Int) (Q : Bool → Prop) : Prop :=
 (∀ r21, r21 = M.qdB x0 → bcase r21 ((∀ r26, r26 = M.qaM x1 0 7 → bcase r26 (((0 ≤ x1) ∧ Q ((qdt .i64 (Int.fdiv x0 (2 ^ (min (x1.toNat) (IntKind.bits .i64)))) 1) == 1))) (Q false))) (Q false))
end Go.V
namespace Go.V
open IntKind (wrap)
theorem qdr {x : Int} : M.isWord x = true ↔ 0 ≤ x ∧ x ≤ 65535 := by simp [M.isWord, M.isIn]
theorem qm6 {x : Int} : M.qhR x = true ↔ 0 ≤ x ∧ x ≤ 7 := by simp [M.qhR, M.isIn]
theorem qgy {α : Type} [Inhabited α] {xs : List α} {k : Nat} (h : k < xs.length) : rd xs (k : Int) ∈ xs := by rw [qdO h]; exact List.getElem_mem h
theorem nt {r x : Bool} (e : (!r) = true) (h : r = x) : x = false := by subst h; simpa using e
theorem nf {r x : Bool} (e : (!r) = false) (h : r = x) : x = true := by subst h; simpa using e
theorem qlO (x : Int) : qdt .i64 x 65535 = x % 65536 := by
 unfold qdt
 have e1 : (BitVec.ofInt (IntKind.bits .i64) x &&& BitVec.ofInt (IntKind.bits .i64) 65535).toNat = (x % 65536).toNat := by
  show (BitVec.ofInt 64 x &&& BitVec.ofInt 64 65535).toNat = _
  rw [BitVec.toNat_and, BitVec.toNat_ofInt, show (BitVec.ofInt 64 65535).toNat = 2 ^ 16 - 1 from rfl, Nat.and_two_pow_sub_one_eq_mod]
  rw [show ((2 ^ 64 : Nat) : Int) = 18446744073709551616 from rfl]
  omega
 rw [e1, w64 (by omega) (by omega)]
 omega
theorem wp.qcK.math (x : Int) : wp.qcK x (fun r => r = M.qcK x) := qlO x
theorem wp.qbk.math (x : Int) : wp.qbk x (fun r => r = M.qbk x) := by
 show Int.tmod (wrap .i64 (Int.tmod x 65536 + 65536)) 65536 = x % 65536
 have h1 : Int.tmod x 65536 < 65536 := Int.tmod_lt_of_pos x (by omega)
 have h2 : -65536 < Int.tmod x 65536 := by
  have := Int.tmod_lt_of_pos (-x) (b := 65536) (by omega)
  rw [Int.neg_tmod] at this; omega
 rw [w64 (by omega) (by omega), Int.tmod_eq_emod_of_nonneg (by omega)]
 have h3 : x = 65536 * Int.tdiv x 65536 + Int.tmod x 65536 := (Int.mul_tdiv_add_tmod x 65536).symm
 omega
theorem wp.qbi.math (a b : Int) : wp.qbi a b (fun r => r = M.qbi a b) := by
 intro r1 h1
 refine qa2 (fun e1 => ?_) fun e1 r2 h2 => qa2 (fun e2 => ?_) fun e2 r3 h3 => ?_
 ·have : M.isWord a = false := nt e1 h1
  simp [M.qbi, M.addW, this]
 ·have : M.isWord b = false := nt e2 h2
  simp [M.qbi, M.addW, this]
 ·have ha : M.isWord a = true := nf e1 h1
  have hb : M.isWord b = true := nf e2 h2
  have := qdr.1 ha
  have := qdr.1 hb
  rw [h3, w64 (by omega) (by omega)]
  simp [M.qbi, M.addW, M.qbk, ha, hb]
theorem wp.qbd.math (a b n : Int) : wp.qbd a b n (fun r => r = M.qbd a b n) := by
 intro r1 h1
 refine qa2 (fun e1 => ?_) fun e1 r2 h2 => qa2 (fun e2 => ?_) fun e2 r3 h3 => ?_
 ·have : M.isWord a = false := nt e1 h1
  simp [M.qbd, this]
 ·have : M.isWord b = false := nt e2 h2
  simp [M.qbd, this]
 ·have ha : M.isWord a = true := nf e1 h1
  have hb : M.isWord b = true := nf e2 h2
  rw [h3]
  simp [M.qbd, M.qcK, ha, hb]
theorem wp.qbE.math (a b : Int) : wp.qbE a b (fun r => r = M.qbE a b) := by
 intro r hr
 rw [hr]
 simp only [M.qbd, M.qbE, M.addW]
 by_cases h : (M.isWord a && M.isWord b) = true
 ·rw [if_pos h, if_pos h]
  simp only [Bool.and_eq_true, qdr] at h
  rw [w64 (by omega) (by omega)]
 ·rw [if_neg h, if_neg h]
theorem qh5 {α : Type} [Inhabited α] (g : α → Bool) (l : List α) : ∀ (k : Nat), k < l.length → M.qeb g (l.drop k) k = if g (rd l (k : Int)) then (k : Int) else M.qeb g (l.drop (k + 1)) (k + 1) := by
 intro k hk
 rw [List.drop_eq_getElem_cons hk, qdO hk]; rfl
theorem wp.qai.math (l : List Int) (g : Int → Bool) (D : Int → Prop) (h : M.qd7 l g D) : wp.qai l g D (fun r => r = M.qai l g) := by
 unfold wp.qai
 obtain ⟨h1, h2⟩ := h
 refine qd2 l.length (fun k => ((k : Int), ())) (fun k => M.qai l g = M.qeb g (l.drop k) k) rfl (by simp [M.qai]) (fun k hk hF next hn => ?_) fun hF next => ?_
 ·rw [qh5 g l k hk] at hF
  refine qaA (by simp; omega) ⟨by omega, h2 _ (qgy hk), fun r hr => qa2 (fun e => ?_) fun e => ?_⟩
  ·rw [hF, if_pos (by rw [← hr]; exact e)]
  ·rw [up64 hk h1]
   exact hn (by rw [hF, if_neg (by rw [← hr, e]; simp)])
 ·refine qax (by simp) ?_
  rw [hF]; simp [M.qeb]
theorem qfL {α : Type} (g : α → Bool) : ∀ (l : List α) (k : Nat), decide (M.qeb g l k ≥ 0) = l.any g
 | [], k => by simp [M.qeb]
 | x :: l, k => by
  simp only [M.qeb, List.any_cons]
  by_cases hx : g x = true
  ·simp [hx]
  ·simp only [hx, Bool.false_eq_true, if_false, Bool.false_or]; simpa [hx] using qfL g l (k + 1)
theorem wp.qaf.math (l : List Int) (g : Int → Bool) (D : Int → Prop) (h : M.qcJ l g D) : wp.qaf l g D (fun r => r = M.qaf l g) :=
 ⟨h, fun r hr => by rw [hr]; exact qfL g l 0⟩
theorem wp.qbG.math (x : Int) : wp.qbG x (fun r => r = M.qbG x) := fun r hr => by rw [hr]; rfl
theorem wp.qbJ.math (l : List Int) (h : M.qey l) : wp.qbJ l (fun r => r = M.qbJ l) := by
 refine ⟨⟨h, fun _ _ => trivial⟩, fun r hr => ?_⟩
 rw [hr]
 simp only [M.qaf, M.qbJ, M.qbG]
 rw [← List.all_eq_not_any_not]
theorem wp.qdB.math (x : Int) : wp.qdB x (fun r => r = M.qdB x) := fun r hr => hr
theorem wp.qby.math (m l : Int) : wp.qby m l (fun r => r = M.qby m l) := by
 intro r1 h1
 refine qa2 (fun e1 r2 h2 => qa2 (fun e2 => ?_) fun e2 => ?_) fun e1 => ?_
 ·have : M.qhR l = true := by rw [← e2, h2]; rfl
  have h0 : 0 ≤ l := (qm6.1 this).1
  refine ⟨h0, ?_⟩
  have e1' : M.qfp m = true := by rw [← e1, h1]; rfl
  simp [M.qby, M.qd9, e1', this]
 ·have : M.qhR l = false := by rw [← e2, h2]; rfl
  simp [M.qby, M.qd9, this]
 ·have : M.qfp m = false := by rw [← e1, h1]; rfl
  simp [M.qby, M.qd9, this]
theorem qlQ (x : Int) : M.isWord (x % 65536) = true := qdr.2 ⟨by omega, by omega⟩
end Go.V
namespace Go.V
open IntKind (wrap)
def wp.qcj (s0 : D.Ins) (Q : Bool → Prop) : Prop :=
 (∀ r23, r23 = M.qaM s0.Op 0 12 → Q r23)
def wp.qaW (x0 : Int) (Q : Bool → Prop) : Prop :=
 (∀ r21, r21 = M.qaM x0 0 3 → Q r21)
def wp.qds (s0 : D.Ins) (x1 : Int) (Q : Bool → Prop) : Prop :=
 (∀ r23, r23 = M.qaM x1 0 32 → bcase (!r23) (Q false) (qf3 (σ := Bool × Unit) (fun J29 => bcase (s0.Op == 0) (J29 (true, ())) (bcase (s0.Op == 12) (J29 (true, ())) (J29 ((s0.Op == 16), ())))) (fun (p124 : Bool × Unit) => match p124 with | (b28, _) => bcase b28 (bcase (s0.A == 0) (bcase (s0.B == 0) (Q (s0.C == 0)) (Q false)) (Q false)) (bcase (s0.Op == 1) ((∀ r36, r36 = M.qaW s0.A → bcase r36 ((∀ r41, r41 = M.qb0 s0.B → bcase r41 (Q (s0.C == 0)) (Q false))) (Q false))) (qf3 (σ := Bool × Unit) (fun J49 => bcase (s0.Op == 2) (J49 (true, ())) (bcase (s0.Op == 13) (J49 (true, ())) (bcase (s0.Op == 14) (J49 (true, ())) (J49 ((s0.Op == 15), ()))))) (fun (p120 : Bool × Unit) => match p120 with | (b48, _) => bcase b48 ((∀ r55, r55 = M.qaW s0.A → bcase r55 ((∀ r60, r60 = M.qaW s0.B → bcase r60 (Q (s0.C == 0)) (Q false))) (Q false))) (bcase (s0.Op == 8) ((∀ r67, r67 = M.qaW s0.A → bcase r67 (bcase (s0.B == 0) (Q (s0.C == 0)) (Q false)) (Q false))) (bcase (s0.Op == 10) ((∀ r74, r74 = M.qaW s0.A → bcase r74 ((∀ r79, r79 = M.qaM s0.B 0 x1 → bcase r79 (Q (s0.C == 0)) (Q false))) (Q false))) (bcase (s0.Op == 11) (bcase (s0.A == 0) ((∀ r86, r86 = M.qaM s0.B 0 x1 → bcase r86 (Q (s0.C == 0)) (Q false))) (Q false)) ((∀ r93, r93 = M.qaM s0.Op 3 9 → bcase r93 ((∀ r98, r98 = M.qaW s0.A → bcase r98 ((∀ r103, r103 = M.qaW s0.B → bcase r103 ((∀ r108, r108 = M.qaW s0.C → Q r108)) (Q false))) (Q false))) (Q false))))))))))))
def wp.qb2 (xs0 : List D.Ins) (Q : Bool → Prop) : Prop :=
 qd4 (σ := Int × Unit) (fun (p42 : Int × Unit) next25 => match p42 with | (i21, _) => bcase (decide (i21 < (xs0.length : Int))) (((0 ≤ i21 ∧ i21 < (xs0.length : Int)) ∧ (∀ r32, r32 = M.qds (rd xs0 i21) (xs0.length : Int) → bcase (!r32) (Q false) (next25 ((wrap .i64 (i21 + 1)), ()))))) (Q (decide ((xs0.length : Int) ≤ 32)))) (0, ())
def wp.qbL (x0 : Int) (x1 : Int) (Q : Int → Prop) : Prop :=
 (∀ r21, r21 = M.qb0 x0 → bcase (!r21) (Q 0) ((∀ r26, r26 = M.qb0 x1 → bcase (!r26) (Q 0) ((∀ r31, r31 = M.qbk (wrap .i64 (x0 - x1)) → Q r31)))))
def wp.qbH (x0 : Int) (x1 : Int) (Q : Int → Prop) : Prop :=
 (∀ r21, r21 = M.qb0 x0 → bcase (!r21) (Q 0) ((∀ r26, r26 = M.qb0 x1 → bcase (!r26) (Q 0) ((∀ r31, r31 = M.qbk (wrap .i64 (x0 * x1)) → Q r31)))))
def wp.qb6 (x0 : Int) (x1 : Int) (Q : Int → Prop) : Prop :=
 (∀ r21, r21 = M.qb0 x0 → bcase r21 ((∀ r26, r26 = M.qb0 x1 → bcase r26 (bcase (decide (x0 < x1)) (Q 1) (Q 0)) (Q 0))) (Q 0))
def wp.qaV (s0 : D.Ins) (x1 : Int) (xs2 : List Int) (Q : (List Int) → Prop) : Prop :=
 ((([] : List Int).length + xs2.length ≤ 17179869184) ∧ bcase (s0.Op == 1) (((0 ≤ s0.A ∧ s0.A < ((([] : List Int) ++ xs2).length : Int)) ∧ Q (List.set (([] : List Int) ++ xs2) (s0.A.toNat) s0.B))) (bcase (s0.Op == 2) (((0 ≤ s0.B ∧ s0.B < (xs2.length : Int)) ∧ ((0 ≤ s0.A ∧ s0.A < ((([] : List Int) ++ xs2).length : Int)) ∧ Q (List.set (([] : List Int) ++ xs2) (s0.A.toNat) (rd xs2 s0.B))))) (bcase (s0.Op == 3) (((0 ≤ s0.B ∧ s0.B < (xs2.length : Int)) ∧ ((0 ≤ s0.C ∧ s0.C < (xs2.length : Int)) ∧ (∀ r84, r84 = M.qbi (rd xs2 s0.B) (rd xs2 s0.C) → ((0 ≤ s0.A ∧ s0.A < ((([] : List Int) ++ xs2).length : Int)) ∧ Q (List.set (([] : List Int) ++ xs2) (s0.A.toNat) r84)))))) (bcase (s0.Op == 4) (((0 ≤ s0.B ∧ s0.B < (xs2.length : Int)) ∧ ((0 ≤ s0.C ∧ s0.C < (xs2.length : Int)) ∧ (∀ r128, r128 = M.qbL (rd xs2 s0.B) (rd xs2 s0.C) → ((0 ≤ s0.A ∧ s0.A < ((([] : List Int) ++ xs2).length : Int)) ∧ Q (List.set (([] : List Int) ++ xs2) (s0.A.toNat) r128)))))) (bcase (s0.Op == 5) (((0 ≤ s0.B ∧ s0.B < (xs2.length : Int)) ∧ ((0 ≤ s0.C ∧ s0.C < (xs2.length : Int)) ∧ (∀ r172, r172 = M.qbH (rd xs2 s0.B) (rd xs2 s0.C) → ((0 ≤ s0.A ∧ s0.A < ((([] : List Int) ++ xs2).length : Int)) ∧ Q (List.set (([] : List Int) ++ xs2) (s0.A.toNat) r172)))))) (bcase (s0.Op == 6) (((0 ≤ s0.B ∧ s0.B < (xs2.length : Int)) ∧ ((0 ≤ s0.C ∧ s0.C < (xs2.length : Int)) ∧ ((0 ≤ s0.A ∧ s0.A < ((([] : List Int) ++ xs2).length : Int)) ∧ Q (List.set (([] : List Int) ++ xs2) (s0.A.toNat) (qgh .i64 (rd xs2 s0.B) (rd xs2 s0.C))))))) (bcase (s0.Op == 7) (((0 ≤ s0.B ∧ s0.B < (xs2.length : Int)) ∧ ((0 ≤ s0.C ∧ s0.C < (xs2.length : Int)) ∧ (∀ r235, r235 = M.qb6 (rd xs2 s0.B) (rd xs2 s0.C) → ((0 ≤ s0.A ∧ s0.A < ((([] : List Int) ++ xs2).length : Int)) ∧ Q (List.set (([] : List Int) ++ xs2) (s0.A.toNat) r235)))))) (bcase (s0.Op == 8) (((0 ≤ s0.A ∧ s0.A < ((([] : List Int) ++ xs2).length : Int)) ∧ Q (List.set (([] : List Int) ++ xs2) (s0.A.toNat) x1))) (bcase (s0.Op == 9) (((0 ≤ s0.C ∧ s0.C < (xs2.length : Int)) ∧ bcase ((rd xs2 s0.C) != 0) (((0 ≤ s0.B ∧ s0.B < (xs2.length : Int)) ∧ ((0 ≤ s0.A ∧ s0.A < ((([] : List Int) ++ xs2).length : Int)) ∧ Q (List.set (([] : List Int) ++ xs2) (s0.A.toNat) (rd xs2 s0.B))))) (Q (([] : List Int) ++ xs2)))) (Q (([] : List Int) ++ xs2)))))))))))
def wp.qaj (xs0 : List Int) (Q : (List Int) → Prop) : Prop :=
 (∀ b21 : Bool, (b21 = true → xs0 = []) → bcase b21 (Q ([] : List Int)) (((([] : List Int).length + xs0.length ≤ 17179869184) ∧ Q (([] : List Int) ++ xs0))))
def wp.qdk (x0 : Int) (Q : ByteArray → Prop) : Prop :=
 (∀ r21, r21 = M.qan x0 0 16 → bcase (!r21) (Q (⟨#[]⟩)) (((0 ≤ x0 ∧ x0 < (([⟨#[45, 45, 45]⟩, ⟨#[82, 87, 45]⟩, ⟨#[82, 82, 45]⟩, ⟨#[82, 82, 82]⟩, ⟨#[82, 82, 82]⟩, ⟨#[82, 82, 82]⟩, ⟨#[82, 82, 82]⟩, ⟨#[82, 82, 82]⟩, ⟨#[82, 45, 45]⟩, ⟨#[82, 82, 82]⟩, ⟨#[82, 84, 45]⟩, ⟨#[45, 84, 45]⟩, ⟨#[45, 45, 45]⟩, ⟨#[82, 82, 45]⟩, ⟨#[82, 82, 45]⟩, ⟨#[82, 82, 45]⟩, ⟨#[45, 45, 45]⟩] : List ByteArray).length : Int)) ∧ Q (rd ([⟨#[45, 45, 45]⟩, ⟨#[82, 87, 45]⟩, ⟨#[82, 82, 45]⟩, ⟨#[82, 82, 82]⟩, ⟨#[82, 82, 82]⟩, ⟨#[82, 82, 82]⟩, ⟨#[82, 82, 82]⟩, ⟨#[82, 82, 82]⟩, ⟨#[82, 45, 45]⟩, ⟨#[82, 82, 82]⟩, ⟨#[82, 84, 45]⟩, ⟨#[45, 84, 45]⟩, ⟨#[45, 45, 45]⟩, ⟨#[82, 82, 45]⟩, ⟨#[82, 82, 45]⟩, ⟨#[82, 82, 45]⟩, ⟨#[45, 45, 45]⟩] : List ByteArray) x0))))
def wp.qdH (x0 : Int) (Q : Bool → Prop) : Prop :=
 (∀ r21, r21 = M.qan x0 0 3 → Q r21)
def wp.qaz (x0 : Int) (x1 : Int) (x2 : Int) (Q : Bool → Prop) : Prop :=
 bcase (x0 == 82) ((∀ r21, r21 = M.qdH x1 → Q r21)) (bcase (x0 == 87) ((∀ r26, r26 = M.qbs x1 → Q r26)) (bcase (x0 == 84) ((∀ r31, r31 = M.qan x1 0 x2 → Q r31)) (Q (x1 == 0))))
def wp.qaY (s0 : D.Ins) (x1 : Int) (Q : Bool → Prop) : Prop :=
 (∀ r23, r23 = M.qdk s0.Op → bcase (!(ByteArray.toList r23 == ByteArray.toList (⟨#[]⟩))) ((∀ r28, r28 = M.qan x1 0 32 → bcase r28 (((0 ≤ (0 : Int) ∧ (0 : Int) < ((ByteArray.size r23 : Nat) : Int)) ∧ (M.qdg (bt r23 0) s0.A x1 ∧ ∀ r38, r38 = M.qaz (bt r23 0) s0.A x1 → bcase r38 (((0 ≤ (1 : Int) ∧ (1 : Int) < ((ByteArray.size r23 : Nat) : Int)) ∧ (M.qdg (bt r23 1) s0.B x1 ∧ ∀ r48, r48 = M.qaz (bt r23 1) s0.B x1 → bcase r48 (((0 ≤ (2 : Int) ∧ (2 : Int) < ((ByteArray.size r23 : Nat) : Int)) ∧ (M.qdg (bt r23 2) s0.C x1 ∧ ∀ r58, r58 = M.qaz (bt r23 2) s0.C x1 → Q r58))) (Q false)))) (Q false)))) (Q false))) (Q false))
def wp.qbq (s0 : D.Ins) (xs1 : List D.Ins) (Q : Bool → Prop) : Prop :=
 (∀ r23, r23 = M.qaY s0 (xs1.length : Int) → Q (!r23))
def wp.qa8 (xs0 : List D.Ins) (g1 : D.Ins → Bool) (D1 : D.Ins → Prop) (Q : Int → Prop) : Prop :=
 qd4 (σ := Int × Unit) (fun (p42 : Int × Unit) next25 => match p42 with | (i21, _) => bcase (decide (i21 < (xs0.length : Int))) (((0 ≤ i21 ∧ i21 < (xs0.length : Int)) ∧ (D1 (rd xs0 i21) ∧ ∀ r32, r32 = g1 (rd xs0 i21) → bcase r32 (Q i21) (next25 ((wrap .i64 (i21 + 1)), ()))))) (Q (-1))) (0, ())
def wp.qaa (xs0 : List D.Ins) (g1 : D.Ins → Bool) (D1 : D.Ins → Prop) (Q : Bool → Prop) : Prop :=
 (M.qcF xs0 g1 D1 ∧ ∀ r21, r21 = M.qa8 xs0 g1 → Q (decide (r21 ≥ 0)))
def wp.qb7 (xs0 : List D.Ins) (Q : Bool → Prop) : Prop :=
 bcase (decide ((xs0.length : Int) ≤ 32)) ((M.qcq xs0 (fun z0_ => M.qbq z0_ xs0) (fun _ => True) ∧ ∀ r23, r23 = M.qaa xs0 (fun z0_ => M.qbq z0_ xs0) → Q (!r23))) (Q false)
def wp.qcm (s0 : D.Ins) (Q : Bool → Prop) : Prop :=
 (∀ r23, r23 = M.qan s0.Op 0 12 → Q r23)
def wp.qcc (x0 : Int) (x1 : Int) (Q : Int → Prop) : Prop :=
 (∀ r21, r21 = M.qbd x0 x1 (wrap .i64 (x0 - x1)) → Q r21)
def wp.qcd (x0 : Int) (x1 : Int) (Q : Int → Prop) : Prop :=
 (∀ r21, r21 = M.qbd x0 x1 (wrap .i64 (x0 * x1)) → Q r21)
def wp.qbW (x0 : Int) (x1 : Int) (Q : Int → Prop) : Prop :=
 (∀ r21, r21 = M.qbs x0 → bcase r21 ((∀ r26, r26 = M.qbs x1 → bcase r26 (bcase (decide (x0 < x1)) (Q 1) (Q 0)) (Q 0))) (Q 0))
end Go.V
namespace Go.V
open IntKind (wrap)
theorem bcq {b x z : Bool} : bcase b (x = z) (false = z) ↔ (b && x) = z := by cases b <;> simp [bcase]
theorem wp.qaj.math (l : List Int) (h : M.qaL l) : wp.qaj l (fun r => r = M.qaj l) := by
 intro b hb
 refine qa2 (fun e => ?_) fun e => ⟨by simpa [M.qaL] using h, rfl⟩
 rw [hb e]; rfl
theorem wp.qcj.math (i : D.Ins) : wp.qcj i (fun r => r = M.qcj i) := fun r hr => hr
theorem wp.qcm.math (i : D.Ins) : wp.qcm i (fun r => r = M.qcm i) := fun r hr => hr
theorem wp.qaW.math (x : Int) : wp.qaW x (fun r => r = M.qaW x) := fun r hr => hr
theorem wp.qdH.math (x : Int) : wp.qdH x (fun r => r = M.qdH x) := fun r hr => hr
theorem wp.qds.math (i : D.Ins) (n : Int) : wp.qds i n (fun r => r = M.qds i n) := by
 simp only [wp.qds, qf3, forall_eq, M.qaM, M.qaW, M.qb0, bcq, M.qds, M.qdh]
 refine qa2 (fun e => ?_) fun e => ?_
 ·have hn : M.isIn n 0 32 = false := by simpa using e
  simp [hn]
 have hn : M.isIn n 0 32 = true := by simpa using e
 rw [hn, Bool.true_and]
 by_cases h0 : i.Op = 0
 ·simp [h0, bcase, Bool.and_assoc]
 by_cases h12 : i.Op = 12
 ·simp [h12, bcase, Bool.and_assoc]
 by_cases h16 : i.Op = 16
 ·simp [h16, bcase, Bool.and_assoc]
 by_cases h1 : i.Op = 1
 ·simp [h1, bcase, Bool.and_assoc]
 by_cases h2 : i.Op = 2
 ·simp [h2, bcase, Bool.and_assoc]
 by_cases h13 : i.Op = 13
 ·simp [h13, bcase, Bool.and_assoc]
 by_cases h14 : i.Op = 14
 ·simp [h14, bcase, Bool.and_assoc]
 by_cases h15 : i.Op = 15
 ·simp [h15, bcase, Bool.and_assoc]
 by_cases h8 : i.Op = 8
 ·simp [h8, bcase, Bool.and_assoc]
 by_cases h10 : i.Op = 10
 ·simp [h10, bcase, Bool.and_assoc]
 by_cases h11 : i.Op = 11
 ·simp [h11, bcase, Bool.and_assoc]
 have b0 : (i.Op == 0) = false := by simp [h0]
 have b12 : (i.Op == 12) = false := by simp [h12]
 have b16 : (i.Op == 16) = false := by simp [h16]
 have b1 : (i.Op == 1) = false := by simp [h1]
 have b2 : (i.Op == 2) = false := by simp [h2]
 have b13 : (i.Op == 13) = false := by simp [h13]
 have b14 : (i.Op == 14) = false := by simp [h14]
 have b15 : (i.Op == 15) = false := by simp [h15]
 have b8 : (i.Op == 8) = false := by simp [h8]
 have b10 : (i.Op == 10) = false := by simp [h10]
 have b11 : (i.Op == 11) = false := by simp [h11]
 simp only [b0, b12, b16, b1, b2, b13, b14, b15, b8, b10, b11, bcase, h0, h12, h16, h1, h2, h13, h14, h15, h8, h10, h11, or_self, if_false]
theorem qln {α : Type} [Inhabited α] {l : List α} {g : α → Bool} (hl : M.Long l) {B : (Int × Unit) → ((Int × Unit) → Prop) → Prop} {Q : Bool → Prop}
    (hb : ∀ (k : Nat) (next : (Int × Unit) → Prop), k < l.length → (g (rd l (k : Int)) = false → l.all g = false → Q false) → (g (rd l (k : Int)) = true → next (((k + 1 : Nat) : Int), ())) → B ((k : Int), ()) next)
    (he : ∀ (next : (Int × Unit) → Prop), l.all g = true → B ((l.length : Int), ()) next) (hQ : l.all g = false → Q false) : qd4 B (0, ()) := by
 refine qd2 l.length (fun k => ((k : Int), ())) (fun k => (l.take k).all g = true) rfl (by simp) (fun k hk hF next hn => ?_) fun hF next => ?_
 ·refine hb k next hk (fun e h => hQ h) fun e => ?_
  rw [qdO hk] at e
  exact hn (qhU hk hF e)
 ·rw [List.take_length] at hF
  exact he next hF
theorem all_false {α : Type} [Inhabited α] {l : List α} {g : α → Bool} {k : Nat} (hk : k < l.length) (e : g (rd l (k : Int)) = false) : l.all g = false := by
 rw [qdO hk] at e; exact qnW hk e
theorem wp.qb2.math (p : List D.Ins) (h : M.qdT p) : wp.qb2 p (fun r => r = M.qb2 p) := by
 unfold wp.qb2
 refine qln (g := fun i => M.qdh i p.length) (Q := fun r => r = M.qaT p) h (fun k next hk h1 h2 => ?_) (fun next ha => ?_) fun ha => by simp only [M.qaT, ha, Bool.and_false]
 ·refine qaA (by simp; omega) ⟨by omega, fun r hr => qa2 (fun e => ?_) fun e => ?_⟩
  ·have := nt e hr
   exact h1 this (all_false (g := fun i => M.qdh i p.length) hk this)
  ·rw [up64 hk h]; exact h2 (nf e hr)
 ·refine qax (by simp) ?_
  simp only [M.qb2, M.qaT, ha, Bool.and_true]
  by_cases h32 : p.length ≤ 32
  ·simp [h32]; omega
  ·simp [h32]; omega
theorem wp.qdk.math (op : Int) : wp.qdk op (fun r => r = M.qdk op) := by
 intro r hr
 refine qa2 (fun e => ?_) fun e => ?_
 ·have : M.isIn op 0 16 = false := nt e hr
  have h' : ¬ (0 ≤ op ∧ op ≤ 16) := by simpa [M.isIn] using this
  have h2 : M.isIn op 3 9 = false := by simp [M.isIn]; omega
  simp only [M.qdk, M.qh3, h2]
  rw [if_neg (by omega), if_neg (by omega), if_neg (by omega), if_neg (by omega), if_neg (by omega), if_neg (by omega)]
  rfl
 ·have : M.isIn op 0 16 = true := nf e hr
  have h' : 0 ≤ op ∧ op ≤ 16 := by simpa [M.isIn] using this
  refine ⟨by simp; omega, ?_⟩
  have : op = 0 ∨ op = 1 ∨ op = 2 ∨ op = 3 ∨ op = 4 ∨ op = 5 ∨ op = 6 ∨ op = 7 ∨ op = 8 ∨ op = 9 ∨ op = 10 ∨ op = 11 ∨ op = 12 ∨ op = 13 ∨ op = 14 ∨ op = 15 ∨ op = 16 := by omega
  rcases this with rfl | rfl | rfl | rfl | rfl | rfl | rfl | rfl | rfl | rfl | rfl | rfl | rfl | rfl | rfl | rfl | rfl <;> rfl
theorem wp.qaz.math (f x n : Int) (h : M.qdg f x n) : wp.qaz f x n (fun r => r = M.qaz f x n) := by
 refine qa2 (fun e r hr => ?_) fun e1 => qa2 (fun e r hr => ?_) fun e2 => qa2 (fun e r hr => ?_) fun e3 => ?_
 ·simp at e; simp [M.qaz, e, hr, M.qdH]
 ·simp at e; simp [M.qaz, e, hr, M.qbs]
 ·simp at e; simp [M.qaz, e, hr, M.qan]
 ·simp at e1 e2 e3; simp [M.qaz, e1, e2, e3]
theorem qnV {a b : ByteArray} (h : ByteArray.toList a ≠ ByteArray.toList b) : (!(ByteArray.toList a == ByteArray.toList b)) = true := by simp [h]
theorem qku (op : Int) : (M.qh3 op = ⟨#[45, 45, 45]⟩ ∧ (op = 0 ∨ op = 12 ∨ op = 16)) ∨ (M.qh3 op = ⟨#[82, 87, 45]⟩ ∧ op = 1) ∨ (M.qh3 op = ⟨#[82, 82, 45]⟩ ∧ (op = 2 ∨ op = 13 ∨ op = 14 ∨ op = 15)) ∨
    (M.qh3 op = ⟨#[82, 45, 45]⟩ ∧ op = 8) ∨ (M.qh3 op = ⟨#[82, 84, 45]⟩ ∧ op = 10) ∨ (M.qh3 op = ⟨#[45, 84, 45]⟩ ∧ op = 11) ∨ (M.qh3 op = ⟨#[82, 82, 82]⟩ ∧ (3 ≤ op ∧ op ≤ 7 ∨ op = 9)) ∨
    (M.qh3 op = ⟨#[]⟩ ∧ (op < 0 ∨ op > 16)) := by
 unfold M.qh3
 by_cases a1 : op = 0 ∨ op = 12 ∨ op = 16
 ·rw [if_pos a1]; exact .inl ⟨rfl, a1⟩
 rw [if_neg a1]
 by_cases a2 : op = 1
 ·rw [if_pos a2]; exact .inr (.inl ⟨rfl, a2⟩)
 rw [if_neg a2]
 by_cases a3 : op = 2 ∨ op = 13 ∨ op = 14 ∨ op = 15
 ·rw [if_pos a3]; exact .inr (.inr (.inl ⟨rfl, a3⟩))
 rw [if_neg a3]
 by_cases a4 : op = 8
 ·rw [if_pos a4]; exact .inr (.inr (.inr (.inl ⟨rfl, a4⟩)))
 rw [if_neg a4]
 by_cases a5 : op = 10
 ·rw [if_pos a5]; exact .inr (.inr (.inr (.inr (.inl ⟨rfl, a5⟩))))
 rw [if_neg a5]
 by_cases a6 : op = 11
 ·rw [if_pos a6]; exact .inr (.inr (.inr (.inr (.inr (.inl ⟨rfl, a6⟩)))))
 rw [if_neg a6]
 by_cases a7 : 3 ≤ op ∧ op ≤ 9
 ·rw [if_pos (by simp [M.isIn]; omega)]; exact .inr (.inr (.inr (.inr (.inr (.inr (.inl ⟨rfl, by omega⟩))))))
 rw [if_neg (by simp [M.isIn]; omega)]; exact .inr (.inr (.inr (.inr (.inr (.inr (.inr ⟨rfl, by omega⟩))))))
theorem qgT {i : D.Ins} {n : Int} {f : ByteArray} {x y z : Int} (hx : bt f 0 = x) (hy : bt f 1 = y) (hz : bt f 2 = z) (hs : f.size = 3) (hf : ByteArray.toList f ≠ ByteArray.toList (⟨#[]⟩)) {P : Bool → Prop} (hin : M.isIn n 0 32 = false → P false)
    (h : M.isIn n 0 32 = true → P (M.qaz x i.A n && (M.qaz y i.B n && M.qaz z i.C n))) :
    bcase (!(ByteArray.toList f == ByteArray.toList (⟨#[]⟩))) ((∀ r28, r28 = M.qan n 0 32 → bcase r28 (((0 ≤ (0 : Int) ∧ (0 : Int) < ((ByteArray.size f : Nat) : Int)) ∧ (M.qdg (bt f 0) i.A n ∧ ∀ r38, r38 = M.qaz (bt f 0) i.A n → bcase r38 (((0 ≤ (1 : Int) ∧ (1 : Int) < ((ByteArray.size f : Nat) : Int)) ∧ (M.qdg (bt f 1) i.B n ∧ ∀ r48, r48 = M.qaz (bt f 1) i.B n → bcase r48 (((0 ≤ (2 : Int) ∧ (2 : Int) < ((ByteArray.size f : Nat) : Int)) ∧ (M.qdg (bt f 2) i.C n ∧ ∀ r58, r58 = M.qaz (bt f 2) i.C n → P r58))) (P false)))) (P false)))) (P false))) (P false) := by
 refine qaA (qnV hf) fun r1 h1 => qa2 (fun e1 => ⟨by omega, trivial, fun r2 h2 => qa2 (fun e2 => ⟨by omega, trivial, fun r3 h3 => qa2 (fun e3 => ⟨by omega, trivial, fun r4 h4 => ?_⟩) fun e3 => ?_⟩) fun e2 => ?_⟩) fun e1 => hin (h1.symm.trans e1)
 all_goals have hh := h (h1.symm.trans e1)
 ·rw [hx] at h2; rw [hy] at h3; rw [hz] at h4
  rw [← h2, ← h3, ← h4, e2, e3] at hh; exact hh
 ·rw [hx] at h2; rw [hy] at h3
  rw [← h2, ← h3, e2, e3] at hh; exact hh
 ·rw [hx] at h2
  rw [← h2, e2] at hh; exact hh
theorem wp.qaY.math (i : D.Ins) (n : Int) : wp.qaY i n (fun r => r = M.qaY i n) := by
 intro r hr
 have hr' : r = M.qh3 i.Op := hr
 rcases qku i.Op with ⟨e, h⟩ | ⟨e, h⟩ | ⟨e, h⟩ | ⟨e, h⟩ | ⟨e, h⟩ | ⟨e, h⟩ | ⟨e, h⟩ | ⟨e, h⟩
 case inr.inr.inr.inr.inr.inr.inr =>
  rw [hr', e]
  refine qax (by simp) ?_
  simp only [M.qaY, M.qdh]
  rw [if_neg (by omega), if_neg (by omega), if_neg (by omega), if_neg (by omega), if_neg (by omega), if_neg (by omega)]
  have : M.isIn i.Op 3 9 = false := by simp [M.isIn]; omega
  simp [this]
 ·rw [hr', e]
  refine qgT (x := 45) (y := 45) (z := 45) (P := fun r => r = M.qaY i n) (by decide +kernel) (by decide +kernel) (by decide +kernel) rfl (by decide +kernel) (fun hn => by simp [M.qaY, M.qdh, hn]) fun hn => ?_
  simp only [M.qaY, M.qdh, hn, Bool.true_and]
  rw [if_pos h]
  simp [M.qaz]
 ·rw [hr', e]
  refine qgT (x := 82) (y := 87) (z := 45) (P := fun r => r = M.qaY i n) (by decide +kernel) (by decide +kernel) (by decide +kernel) rfl (by decide +kernel) (fun hn => by simp [M.qaY, M.qdh, hn]) fun hn => ?_
  simp only [M.qaY, M.qdh, hn, Bool.true_and]
  rw [if_neg (by omega), if_pos h]
  simp [M.qaz]
 ·rw [hr', e]
  refine qgT (x := 82) (y := 82) (z := 45) (P := fun r => r = M.qaY i n) (by decide +kernel) (by decide +kernel) (by decide +kernel) rfl (by decide +kernel) (fun hn => by simp [M.qaY, M.qdh, hn]) fun hn => ?_
  simp only [M.qaY, M.qdh, hn, Bool.true_and]
  rw [if_neg (by omega), if_neg (by omega), if_pos h]
  simp [M.qaz]
 ·rw [hr', e]
  refine qgT (x := 82) (y := 45) (z := 45) (P := fun r => r = M.qaY i n) (by decide +kernel) (by decide +kernel) (by decide +kernel) rfl (by decide +kernel) (fun hn => by simp [M.qaY, M.qdh, hn]) fun hn => ?_
  simp only [M.qaY, M.qdh, hn, Bool.true_and]
  rw [if_neg (by omega), if_neg (by omega), if_neg (by omega), if_pos h]
  simp [M.qaz]
 ·rw [hr', e]
  refine qgT (x := 82) (y := 84) (z := 45) (P := fun r => r = M.qaY i n) (by decide +kernel) (by decide +kernel) (by decide +kernel) rfl (by decide +kernel) (fun hn => by simp [M.qaY, M.qdh, hn]) fun hn => ?_
  simp only [M.qaY, M.qdh, hn, Bool.true_and]
  rw [if_neg (by omega), if_neg (by omega), if_neg (by omega), if_neg (by omega), if_pos h]
  simp [M.qaz]
 ·rw [hr', e]
  refine qgT (x := 45) (y := 84) (z := 45) (P := fun r => r = M.qaY i n) (by decide +kernel) (by decide +kernel) (by decide +kernel) rfl (by decide +kernel) (fun hn => by simp [M.qaY, M.qdh, hn]) fun hn => ?_
  simp only [M.qaY, M.qdh, hn, Bool.true_and]
  rw [if_neg (by omega), if_neg (by omega), if_neg (by omega), if_neg (by omega), if_neg (by omega), if_pos h]
  simp [M.qaz]
 ·rw [hr', e]
  refine qgT (x := 82) (y := 82) (z := 82) (P := fun r => r = M.qaY i n) (by decide +kernel) (by decide +kernel) (by decide +kernel) rfl (by decide +kernel) (fun hn => by simp [M.qaY, M.qdh, hn]) fun hn => ?_
  simp only [M.qaY, M.qdh, hn, Bool.true_and]
  rw [if_neg (by omega), if_neg (by omega), if_neg (by omega), if_neg (by omega), if_neg (by omega), if_neg (by omega)]
  have : M.isIn i.Op 3 9 = true := by simp [M.isIn]; omega
  simp [M.qaz, this]
theorem wp.qbq.math (i : D.Ins) (p : List D.Ins) : wp.qbq i p (fun r => r = M.qbq i p) := fun r hr => by rw [hr]; rfl
theorem wp.qa8.math (l : List D.Ins) (g : D.Ins → Bool) (D : D.Ins → Prop) (h : M.qcF l g D) : wp.qa8 l g D (fun r => r = M.qa8 l g) := by
 unfold wp.qa8
 obtain ⟨h1, h2⟩ := h
 refine qd2 l.length (fun k => ((k : Int), ())) (fun k => M.qa8 l g = M.qeb g (l.drop k) k) rfl (by simp [M.qa8]) (fun k hk hF next hn => ?_) fun hF next => ?_
 ·rw [qh5 g l k hk] at hF
  refine qaA (by simp; omega) ⟨by omega, h2 _ (qgy hk), fun r hr => qa2 (fun e => ?_) fun e => ?_⟩
  ·rw [hF, if_pos (by rw [← hr]; exact e)]
  ·rw [up64 hk h1]
   exact hn (by rw [hF, if_neg (by rw [← hr, e]; simp)])
 ·refine qax (by simp) ?_
  rw [hF]; simp [M.qeb]
theorem wp.qaa.math (l : List D.Ins) (g : D.Ins → Bool) (D : D.Ins → Prop) (h : M.qcq l g D) : wp.qaa l g D (fun r => r = M.qaa l g) :=
 ⟨h, fun r hr => by rw [hr]; exact qfL g l 0⟩
theorem wp.qb7.math (p : List D.Ins) (h : M.qdX p) : wp.qb7 p (fun r => r = M.qb7 p) := by
 refine qa2 (fun e => ⟨⟨h, fun _ _ => trivial⟩, fun r hr => ?_⟩) fun e => ?_
 ·have h32 : p.length ≤ 32 := by simp at e; omega
  rw [hr]
  simp only [M.qaa, M.qb7, M.qaT, M.qbq, ← List.all_eq_not_any_not, h32, decide_true, Bool.true_and]
 ·have h32 : ¬ p.length ≤ 32 := by simp at e; omega
  simp [M.qb7, M.qaT, h32]
theorem wp.qbL.math (a b : Int) : wp.qbL a b (fun r => r = M.qbL a b) := by
 intro r1 h1
 refine qa2 (fun e1 => ?_) fun e1 r2 h2 => qa2 (fun e2 => ?_) fun e2 r3 h3 => ?_
 ·have : M.isWord a = false := nt e1 h1
  simp [M.qbL, M.subW, this]
 ·have : M.isWord b = false := nt e2 h2
  simp [M.qbL, M.subW, this]
 ·have ha : M.isWord a = true := nf e1 h1
  have hb : M.isWord b = true := nf e2 h2
  have := qdr.1 ha
  have := qdr.1 hb
  rw [h3, w64 (by omega) (by omega)]
  simp [M.qbL, M.subW, M.qbk, ha, hb]
theorem qkm {a b : Int} (ha : 0 ≤ a ∧ a ≤ 65535) (hb : 0 ≤ b ∧ b ≤ 65535) : 0 ≤ a * b ∧ a * b ≤ 4294836225 :=
 ⟨Int.mul_nonneg ha.1 hb.1, by have := Int.mul_le_mul ha.2 hb.2 hb.1 (by omega : (0 : Int) ≤ 65535); omega⟩
theorem wp.qbH.math (a b : Int) : wp.qbH a b (fun r => r = M.qbH a b) := by
 intro r1 h1
 refine qa2 (fun e1 => ?_) fun e1 r2 h2 => qa2 (fun e2 => ?_) fun e2 r3 h3 => ?_
 ·have : M.isWord a = false := nt e1 h1
  simp [M.qbH, M.mulW, this]
 ·have : M.isWord b = false := nt e2 h2
  simp [M.qbH, M.mulW, this]
 ·have ha : M.isWord a = true := nf e1 h1
  have hb : M.isWord b = true := nf e2 h2
  have := qkm (qdr.1 ha) (qdr.1 hb)
  rw [h3, w64 (by omega) (by omega)]
  simp [M.qbH, M.mulW, M.qbk, ha, hb]
theorem wp.qb6.math (a b : Int) : wp.qb6 a b (fun r => r = M.qb6 a b) := by
 intro r1 h1
 refine qa2 (fun e1 r2 h2 => qa2 (fun e2 => qa2 (fun e3 => ?_) fun e3 => ?_) fun e2 => ?_) fun e1 => ?_
 ·have ha : M.isWord a = true := h1.symm.trans e1
  have hb : M.isWord b = true := h2.symm.trans e2
  simp at e3; simp [M.qb6, M.qk6, ha, hb, e3]
 ·simp at e3; simp [M.qb6, M.qk6]; omega
 ·have hb : M.isWord b = false := h2.symm.trans e2
  simp [M.qb6, M.qk6, hb]
 ·have ha : M.isWord a = false := h1.symm.trans e1
  simp [M.qb6, M.qk6, ha]
theorem wp.qbW.math (a b : Int) : wp.qbW a b (fun r => r = M.qbW a b) := wp.qb6.math a b
theorem wp.qcc.math (a b : Int) : wp.qcc a b (fun r => r = M.qcc a b) := by
 intro r hr
 rw [hr]
 simp only [M.qbd, M.qcc, M.subW]
 by_cases h : (M.isWord a && M.isWord b) = true
 ·rw [if_pos h, if_pos h]
  simp only [Bool.and_eq_true, qdr] at h
  rw [w64 (by omega) (by omega)]
 ·rw [if_neg h, if_neg h]
theorem wp.qcd.math (a b : Int) : wp.qcd a b (fun r => r = M.qcd a b) := by
 intro r hr
 rw [hr]
 simp only [M.qbd, M.qcd, M.mulW]
 by_cases h : (M.isWord a && M.isWord b) = true
 ·rw [if_pos h, if_pos h]
  simp only [Bool.and_eq_true, qdr] at h
  have := qkm h.1 h.2
  rw [w64 (by omega) (by omega)]
 ·rw [if_neg h, if_neg h]
theorem qfQ {x : Int} : M.qg7 x = true ↔ 0 ≤ x ∧ x ≤ 3 := by simp [M.qg7, M.isIn]
theorem qja {i : D.Ins} {r : List Int} (h : M.Fits i r) : r.length = 4 ∧ (1 ≤ i.Op ∧ i.Op ≤ 10 → 0 ≤ i.A ∧ i.A ≤ 3) ∧ (2 ≤ i.Op ∧ i.Op ≤ 7 ∨ i.Op = 9 → 0 ≤ i.B ∧ i.B ≤ 3) ∧ (3 ≤ i.Op ∧ i.Op ≤ 7 ∨ i.Op = 9 → 0 ≤ i.C ∧ i.C ≤ 3) := by
 obtain ⟨hl, n, hok⟩ := h
 simp only [M.qdh, Bool.and_eq_true] at hok
 have hok := hok.2
 split at hok
 ·exact ⟨hl, by omega, by omega, by omega⟩
 split at hok
 ·simp only [Bool.and_eq_true, qfQ] at hok
  exact ⟨hl, fun _ => hok.1, by omega, by omega⟩
 split at hok
 ·simp only [Bool.and_eq_true, qfQ] at hok
  exact ⟨hl, fun _ => hok.1, fun _ => hok.2.1, by omega⟩
 split at hok
 ·simp only [Bool.and_eq_true, qfQ] at hok
  exact ⟨hl, fun _ => hok.1, by omega, by omega⟩
 split at hok
 ·simp only [Bool.and_eq_true, qfQ] at hok
  exact ⟨hl, fun _ => hok.1, by omega, by omega⟩
 split at hok
 ·exact ⟨hl, by omega, by omega, by omega⟩
 ·simp only [Bool.and_eq_true, qfQ] at hok
  exact ⟨hl, fun _ => hok.2.1, fun _ => hok.2.2.1, fun _ => hok.2.2.2⟩
theorem qcO {r : List Int} {x : Int} (hl : r.length = 4) (h : 0 ≤ x ∧ x ≤ 3) : 0 ≤ x ∧ x < (r.length : Int) := by omega
theorem wp.qaV.math (i : D.Ins) (t : Int) (r : List Int) (h : M.qfD i t r) : wp.qaV i t r (fun x => x = M.qaV i t r) := by
 obtain ⟨hl, hA, hB, hC⟩ := qja h
 simp only [wp.qaV, List.nil_append, List.length_nil, forall_eq]
 refine ⟨by omega, ?_⟩
 refine qa2 (fun e => ?_) fun n1 => qa2 (fun e => ?_) fun n2 => qa2 (fun e => ?_) fun n3 => qa2 (fun e => ?_) fun n4 => qa2 (fun e => ?_) fun n5 => qa2 (fun e => ?_) fun n6 => qa2 (fun e => ?_) fun n7 => qa2 (fun e => ?_) fun n8 => qa2 (fun e => ?_) fun n9 => ?_
 ·have hk : i.Op = 1 := by simpa using e
  exact ⟨qcO hl (hA (by omega)), by simp [M.qaV, M.apply, hk]⟩
 ·have hk : i.Op = 2 := by simpa using e
  exact ⟨qcO hl (hB (by omega)), qcO hl (hA (by omega)), by simp [M.qaV, M.apply, hk]⟩
 ·have hk : i.Op = 3 := by simpa using e
  exact ⟨qcO hl (hB (by omega)), qcO hl (hC (by omega)), qcO hl (hA (by omega)), by simp [M.qaV, M.apply, hk, M.qbi, M.qbE]⟩
 ·have hk : i.Op = 4 := by simpa using e
  exact ⟨qcO hl (hB (by omega)), qcO hl (hC (by omega)), qcO hl (hA (by omega)), by simp [M.qaV, M.apply, hk, M.qbL, M.qcc]⟩
 ·have hk : i.Op = 5 := by simpa using e
  exact ⟨qcO hl (hB (by omega)), qcO hl (hC (by omega)), qcO hl (hA (by omega)), by simp [M.qaV, M.apply, hk, M.qbH, M.qcd]⟩
 ·have hk : i.Op = 6 := by simpa using e
  exact ⟨qcO hl (hB (by omega)), qcO hl (hC (by omega)), qcO hl (hA (by omega)), by simp [M.qaV, M.apply, hk]⟩
 ·have hk : i.Op = 7 := by simpa using e
  exact ⟨qcO hl (hB (by omega)), qcO hl (hC (by omega)), qcO hl (hA (by omega)), by simp [M.qaV, M.apply, hk, M.qb6, M.qbW]⟩
 ·have hk : i.Op = 8 := by simpa using e
  exact ⟨qcO hl (hA (by omega)), by simp [M.qaV, M.apply, hk]⟩
 ·have hk : i.Op = 9 := by simpa using e
  refine ⟨qcO hl (hC (by omega)), qa2 (fun e2 => ⟨qcO hl (hB (by omega)), qcO hl (hA (by omega)), ?_⟩) fun e2 => ?_⟩
  ·have h2 : ¬ rd r i.C = 0 := by simpa using e2
   simp [M.qaV, M.apply, hk, h2]
  ·have h2 : rd r i.C = 0 := by simpa using e2
   simp [M.qaV, M.apply, hk, h2]
 ·simp at n1 n2 n3 n4 n5 n6 n7 n8 n9
  simp [M.qaV, M.apply, n1, n2, n3, n4, n5, n6, n7, n8, n9]
theorem qjr {α : Type} [Inhabited α] {xs : List α} {i : Int} (h0 : 0 ≤ i) (h1 : i < (xs.length : Int)) : rd xs i ∈ xs := by
 obtain ⟨k, rfl⟩ := Int.eq_ofNat_of_zero_le h0
 exact qgy (by omega)
theorem qhO (i : D.Ins) (t : Int) (r : List Int) : (M.apply i t r).length = r.length := by
 unfold M.apply
 (repeat' split) <;> simp
end Go.V
namespace Go.V
open IntKind (wrap)
def wp.qbp (x0 : Int) (Q : Bool → Prop) : Prop :=
 (∀ r21, r21 = M.qan x0 0 2 → Q r21)
def wp.qaN (xs0 : List Int) (x1 : Int) (Q : Int → Prop) : Prop :=
 qd4 (σ := Int × Unit) (fun (p37 : Int × Unit) next25 => match p37 with | (i21, _) => bcase (decide (i21 < (xs0.length : Int))) (((0 ≤ i21 ∧ i21 < (xs0.length : Int)) ∧ bcase (x1 == (rd xs0 i21)) (Q i21) (next25 ((wrap .i64 (i21 + 1)), ())))) (Q (-1))) (0, ())
def wp.qaS (xs0 : List Int) (x1 : Int) (Q : Bool → Prop) : Prop :=
 (M.qe9 xs0 x1 ∧ ∀ r21, r21 = M.qaN xs0 x1 → Q (decide (r21 ≥ 0)))
end Go.V
namespace Go.V
open IntKind (wrap)
theorem wp.qbp.math (x : Int) : wp.qbp x (fun r => r = M.qbp x) := fun r hr => hr
theorem wp.qaN.math (l : List Int) (x : Int) (h : M.qe9 l x) : wp.qaN l x (fun r => r = M.qaN l x) := by
 unfold wp.qaN
 refine qd2 l.length (fun k => ((k : Int), ())) (fun k => M.qaN l x = M.qeb (fun y => x == y) (l.drop k) k) rfl (by simp [M.qaN]) (fun k hk hF next hn => ?_) fun hF next => ?_
 ·rw [qh5 _ l k hk] at hF
  refine qaA (by simp; omega) ⟨by omega, qa2 (fun e => ?_) fun e => ?_⟩
  ·rw [hF, if_pos e]
  ·rw [up64 hk h]
   exact hn (by rw [hF, if_neg (by rw [e]; simp)])
 ·refine qax (by simp) ?_
  rw [hF]; simp [M.qeb]
theorem wp.qaS.math (l : List Int) (x : Int) (h : M.qdK l x) : wp.qaS l x (fun r => r = M.qaS l x) :=
 ⟨h, fun r hr => by rw [hr]; exact qfL _ l 0⟩
end Go.V
namespace Go.V
open IntKind (wrap)
def wp.qaB (xs0 : List Int) (Q : D.Cur → Prop) : Prop :=
 qd4 (σ := Int × Int × Unit) (fun (p42 : Int × Int × Unit) next26 => match p42 with | (i21, i22, _) => bcase (decide (i22 < (xs0.length : Int))) (bcase (decide (i22 < 4000)) (((0 ≤ i22 ∧ i22 < (xs0.length : Int)) ∧ next26 ((qdt .i64 (wrap .i64 ((wrap .i64 ((wrap .i64 (i21 * 131)) + (wrap .i64 (rd xs0 i22)))) + 7)) 1073741823), (wrap .i64 (i22 + 1)), ()))) (Q (⟨xs0, 0, i21⟩ : D.Cur))) (Q (⟨xs0, 0, i21⟩ : D.Cur))) ((wrap .i64 (98561 + (xs0.length : Int))), 0, ())
def wp.qae (s0 : D.Cur) (Q : (Int × D.Cur) → Prop) : Prop :=
 bcase (decide (s0.i < (s0.b.length : Int))) (((0 ≤ s0.i ∧ s0.i < (s0.b.length : Int)) ∧ Q ((qdt .i64 (wrap .i64 ((qdt .i64 (qgh .i64 (Int.fdiv (wrap .i64 ((wrap .i64 (s0.h * 6364136223846793005)) + 1442695040888963407)) (2 ^ (min ((33 : Int).toNat) (IntKind.bits .i64)))) (Int.fdiv (wrap .i64 ((wrap .i64 (s0.h * 6364136223846793005)) + 1442695040888963407)) (2 ^ (min ((45 : Int).toNat) (IntKind.bits .i64))))) 255) + (wrap .i64 (rd s0.b s0.i)))) 255), (⟨s0.b, (wrap .i64 (s0.i + 1)), (wrap .i64 ((wrap .i64 (s0.h * 6364136223846793005)) + 1442695040888963407))⟩ : D.Cur)))) (Q ((qdt .i64 (qgh .i64 (Int.fdiv (wrap .i64 ((wrap .i64 (s0.h * 6364136223846793005)) + 1442695040888963407)) (2 ^ (min ((33 : Int).toNat) (IntKind.bits .i64)))) (Int.fdiv (wrap .i64 ((wrap .i64 (s0.h * 6364136223846793005)) + 1442695040888963407)) (2 ^ (min ((45 : Int).toNat) (IntKind.bits .i64))))) 255), (⟨s0.b, s0.i, (wrap .i64 ((wrap .i64 (s0.h * 6364136223846793005)) + 1442695040888963407))⟩ : D.Cur)))
def wp.qa0 (s0 : D.Cur) (x1 : Int) (Q : (Int × D.Cur) → Prop) : Prop :=
 bcase (decide (x1 ≤ 0)) (Q (0, (⟨s0.b, s0.i, s0.h⟩ : D.Cur))) (bcase (decide (x1 ≤ 256)) ((M.qdw s0 ∧ ∀ r21, r21 = M.qae s0 → (((x1 : Int) ≠ 0) ∧ Q ((Int.tmod r21.1 x1), (⟨s0.b, r21.2.i, r21.2.h⟩ : D.Cur))))) ((M.qdw s0 ∧ ∀ r28, r28 = M.qae s0 → (M.qdw (⟨s0.b, r28.2.i, r28.2.h⟩ : D.Cur) ∧ ∀ r34, r34 = M.qae (⟨s0.b, r28.2.i, r28.2.h⟩ : D.Cur) → (M.qdw (⟨s0.b, r34.2.i, r34.2.h⟩ : D.Cur) ∧ ∀ r40, r40 = M.qae (⟨s0.b, r34.2.i, r34.2.h⟩ : D.Cur) → (M.qdw (⟨s0.b, r40.2.i, r40.2.h⟩ : D.Cur) ∧ ∀ r46, r46 = M.qae (⟨s0.b, r40.2.i, r40.2.h⟩ : D.Cur) → (((x1 : Int) ≠ 0) ∧ Q ((Int.tmod (wrap .i64 ((wrap .i64 ((wrap .i64 ((wrap .i64 (r28.1 * 16777216)) + (wrap .i64 (r34.1 * 65536)))) + (wrap .i64 (r40.1 * 256)))) + r46.1)) x1), (⟨s0.b, r46.2.i, r46.2.h⟩ : D.Cur)))))))))
def wp.qap (s0 : D.Cur) (xs1 : List Int) (Q : (Int × D.Cur) → Prop) : Prop :=
 (M.qaq s0 (xs1.length : Int) ∧ ∀ r21, r21 = M.qa0 s0 (xs1.length : Int) → ((0 ≤ r21.1 ∧ r21.1 < (xs1.length : Int)) ∧ Q ((rd xs1 r21.1), (⟨s0.b, r21.2.i, r21.2.h⟩ : D.Cur))))
def wp.qaw (s0 : D.Cur) (Q : (D.Ins × D.Cur) → Prop) : Prop :=
 (M.qaq s0 9 ∧ ∀ r23, r23 = M.qa0 s0 9 → (M.qaq (⟨s0.b, r23.2.i, r23.2.h⟩ : D.Cur) 4 ∧ ∀ r29, r29 = M.qa0 (⟨s0.b, r23.2.i, r23.2.h⟩ : D.Cur) 4 → bcase ((wrap .i64 (1 + r23.1)) == 1) ((M.qaq (⟨s0.b, r29.2.i, r29.2.h⟩ : D.Cur) 6 ∧ ∀ r39, r39 = M.qa0 (⟨s0.b, r29.2.i, r29.2.h⟩ : D.Cur) 6 → Q ((⟨(wrap .i64 (1 + r23.1)), r29.1, r39.1, 0⟩ : D.Ins), (⟨s0.b, r39.2.i, r39.2.h⟩ : D.Cur)))) (bcase ((wrap .i64 (1 + r23.1)) == 8) (Q ((⟨(wrap .i64 (1 + r23.1)), r29.1, 0, 0⟩ : D.Ins), (⟨s0.b, r29.2.i, r29.2.h⟩ : D.Cur))) (bcase ((wrap .i64 (1 + r23.1)) == 2) ((M.qaq (⟨s0.b, r29.2.i, r29.2.h⟩ : D.Cur) 4 ∧ ∀ r51, r51 = M.qa0 (⟨s0.b, r29.2.i, r29.2.h⟩ : D.Cur) 4 → Q ((⟨(wrap .i64 (1 + r23.1)), r29.1, r51.1, 0⟩ : D.Ins), (⟨s0.b, r51.2.i, r51.2.h⟩ : D.Cur)))) ((M.qaq (⟨s0.b, r29.2.i, r29.2.h⟩ : D.Cur) 4 ∧ ∀ r61, r61 = M.qa0 (⟨s0.b, r29.2.i, r29.2.h⟩ : D.Cur) 4 → (M.qaq (⟨s0.b, r61.2.i, r61.2.h⟩ : D.Cur) 4 ∧ ∀ r69, r69 = M.qa0 (⟨s0.b, r61.2.i, r61.2.h⟩ : D.Cur) 4 → Q ((⟨(wrap .i64 (1 + r23.1)), r29.1, r61.1, r69.1⟩ : D.Ins), (⟨s0.b, r69.2.i, r69.2.h⟩ : D.Cur)))))))))
def wp.qbK (s0 : D.Cur) (Q : (Int × D.Cur) → Prop) : Prop :=
 (M.qaq s0 9 ∧ ∀ r21, r21 = M.qa0 s0 9 → (M.qaq (⟨s0.b, r21.2.i, r21.2.h⟩ : D.Cur) 9000 ∧ ∀ r27, r27 = M.qa0 (⟨s0.b, r21.2.i, r21.2.h⟩ : D.Cur) 9000 → (M.qdQ (⟨s0.b, r27.2.i, r27.2.h⟩ : D.Cur) ([0, 1, 2, 7, 100, 65535, 32768, r21.1, r27.1] : List Int) ∧ ∀ r36, r36 = M.qap (⟨s0.b, r27.2.i, r27.2.h⟩ : D.Cur) ([0, 1, 2, 7, 100, 65535, 32768, r21.1, r27.1] : List Int) → Q (r36.1, (⟨s0.b, r36.2.i, r36.2.h⟩ : D.Cur)))))
def wp.qbf (s0 : D.Cur) (x1 : Int) (Q : ((List Int) × D.Cur) → Prop) : Prop :=
 qd4 (σ := (List Int) × Int × Int × Int × Unit) (fun (p76 : (List Int) × Int × Int × Int × Unit) next56 => match p76 with | (xs47, i50, i51, i52, _) => bcase (decide (i50 < x1)) ((M.qg1 (⟨s0.b, i51, i52⟩ : D.Cur) ∧ ∀ r58, r58 = M.qbK (⟨s0.b, i51, i52⟩ : D.Cur) → ((xs47.length + ([r58.1] : List Int).length ≤ 17179869184) ∧ next56 ((xs47 ++ ([r58.1] : List Int)), (wrap .i64 (i50 + 1)), r58.2.i, r58.2.h, ())))) (Q (xs47, (⟨s0.b, i51, i52⟩ : D.Cur)))) (([] : List Int), 0, s0.i, s0.h, ())
def wp.qbb (xs0 : List Int) (Q : (List Int) → Prop) : Prop :=
 (M.qfg xs0 ∧ ∀ r21, r21 = M.qaB xs0 → qd4 (σ := (List Int) × Int × Int × Int × Unit) (fun (p82 : (List Int) × Int × Int × Int × Unit) next62 => match p82 with | (xs53, i56, i57, i58, _) => bcase (decide (i56 < 12)) ((M.qaq (⟨xs0, i57, i58⟩ : D.Cur) 10000 ∧ ∀ r64, r64 = M.qa0 (⟨xs0, i57, i58⟩ : D.Cur) 10000 → ((xs53.length + ([r64.1] : List Int).length ≤ 17179869184) ∧ next62 ((xs53 ++ ([r64.1] : List Int)), (wrap .i64 (i56 + 1)), r64.2.i, r64.2.h, ())))) (Q xs53)) (([] : List Int), 0, r21.i, r21.h, ()))
def wp.qeQ (xs0 : List Int) (Q : Bool → Prop) : Prop :=
 Q (decide ((xs0.length : Int) > 1048576))
def wp.qbx (xs0 : List Int) (xs1 : List Int) (Q : Bool → Prop) : Prop :=
 bcase ((xs0.length : Int) != (xs1.length : Int)) (Q false) (qd4 (σ := Int × Unit) (fun (p43 : Int × Unit) next25 => match p43 with | (i21, _) => bcase (decide (i21 < (xs0.length : Int))) (((0 ≤ i21 ∧ i21 < (xs0.length : Int)) ∧ ((0 ≤ i21 ∧ i21 < (xs1.length : Int)) ∧ bcase ((rd xs0 i21) != (rd xs1 i21)) (Q false) (next25 ((wrap .i64 (i21 + 1)), ()))))) (Q true)) (0, ()))
end Go.V
namespace Go.V
open IntKind (wrap)
theorem qjA (x : Int) : qdt .i64 x 255 = x % 256 := by
 unfold qdt
 have e1 : (BitVec.ofInt (IntKind.bits .i64) x &&& BitVec.ofInt (IntKind.bits .i64) 255).toNat = (x % 256).toNat := by
  show (BitVec.ofInt 64 x &&& BitVec.ofInt 64 255).toNat = _
  rw [BitVec.toNat_and, BitVec.toNat_ofInt, show (BitVec.ofInt 64 255).toNat = 2 ^ 8 - 1 from rfl, Nat.and_two_pow_sub_one_eq_mod]
  rw [show ((2 ^ 64 : Nat) : Int) = 18446744073709551616 from rfl]
  omega
 rw [e1, w64 (by omega) (by omega)]
 omega
theorem qj6 (c : D.Cur) : 0 ≤ (M.qae c).1 ∧ (M.qae c).1 ≤ 255 := by
 unfold M.qae
 split
 ·show 0 ≤ qdt .i64 _ 255 ∧ qdt .i64 _ 255 ≤ 255
  rw [qjA]; omega
 ·show 0 ≤ M.curX _ ∧ M.curX _ ≤ 255
  unfold M.curX
  rw [qjA]; omega
theorem qiQ (c : D.Cur) : (M.qae c).2.b = c.b := by unfold M.qae; split <;> rfl
theorem qhe {c : D.Cur} (h : M.qdn c) : M.qdn (M.qae c).2 := by
 obtain ⟨h1, h2⟩ := h
 refine ⟨?_, by rw [qiQ]; exact h2⟩
 unfold M.Long at h2
 unfold M.qae
 split
 ·rename_i hlt
  show 0 ≤ wrap .i64 (c.i + 1)
  rw [w64 (by omega) (by omega)]; omega
 ·exact h1
theorem qbZ (c : D.Cur) (n : Int) : (M.qa0 c n).2.b = c.b := by
 unfold M.qa0
 (repeat' split) <;> simp only [qiQ]
theorem qbh {c : D.Cur} (h : M.qdn c) (n : Int) : M.qdn (M.qa0 c n).2 := by
 unfold M.qa0
 split
 ·exact h
 split
 ·exact qhe h
 ·exact qhe (qhe (qhe (qhe h)))
theorem qle {x n : Int} (hx : 0 ≤ x) (hn : 0 < n) : 0 ≤ Int.tmod x n ∧ Int.tmod x n < n :=
 ⟨Int.tmod_nonneg _ hx, Int.tmod_lt_of_pos _ hn⟩
theorem qcG (c : D.Cur) {n : Int} (hn : 0 < n) : 0 ≤ (M.qa0 c n).1 ∧ (M.qa0 c n).1 < n := by
 unfold M.qa0
 rw [if_neg (by omega)]
 split
 ·exact qle (qj6 c).1 hn
 ·refine qle ?_ hn
  have h1 := qj6 c
  have h2 := qj6 (M.qae c).2
  have h3 := qj6 (M.qae (M.qae c).2).2
  have h4 := qj6 (M.qae (M.qae (M.qae c).2).2).2
  rw [w64 (x := (M.qae c).1 * 16777216) (by omega) (by omega), w64 (x := (M.qae (M.qae c).2).1 * 65536) (by omega) (by omega),
   w64 (x := (M.qae (M.qae (M.qae c).2).2).1 * 256) (by omega) (by omega), w64 (x := _ + (M.qae (M.qae c).2).1 * 65536) (by omega) (by omega),
   w64 (x := _ + (M.qae (M.qae (M.qae c).2).2).1 * 256) (by omega) (by omega), w64 (by omega) (by omega)]
  omega
set_option maxRecDepth 20000 in
theorem wp.qaB.math (b : List Int) (h : M.qfg b) : wp.qaB b (fun r => r = M.qaB b) := by
 unfold wp.qaB
 have hl : b.length ≤ 9223372036854775807 := h
 let h0 := wrap .i64 (98561 + (b.length : Int))
 refine qd2 (min b.length 4000) (fun k => ((b.take k).foldl M.qlc h0, (k : Int), ())) (fun _ => True) rfl trivial (fun k hk _ next hn => ?_) fun _ next => ?_
 ·have hk1 : k < b.length := by omega
  have hn := hn trivial
  rw [List.take_add_one, List.getElem?_eq_getElem hk1, Option.toList_some, List.foldl_append] at hn
  refine qaA (by simp; omega) (qaA (by simp; omega) ⟨by omega, ?_⟩)
  rw [up64 hk1 hl, qdO hk1]
  exact hn
 ·have fin : (⟨b, 0, (b.take (min b.length 4000)).foldl M.qlc h0⟩ : D.Cur) = M.qaB b := by
    unfold M.qaB
    congr 2
    rcases Nat.le_total b.length 4000 with g | g
    ·rw [Nat.min_eq_left g, List.take_length, List.take_of_length_le g]
    ·rw [Nat.min_eq_right g]
  by_cases g : b.length ≤ 4000
  ·exact qax (by simp; omega) fin
  ·exact qaA (by simp; omega) (qax (by simp; omega) fin)
theorem wp.qae.math (c : D.Cur) (h : M.qdw c) : wp.qae c (fun r => r = M.qae c) := by
 obtain ⟨h1, h2⟩ := h
 refine qa2 (fun e => ⟨⟨h1, by simpa using e⟩, ?_⟩) fun e => ?_
 ·have e : c.i < (c.b.length : Int) := by simpa using e
  unfold M.qae
  rw [if_pos e]; rfl
 ·have e : ¬ c.i < (c.b.length : Int) := by simpa using e
  unfold M.qae
  rw [if_neg e]; rfl
theorem qcf {c d : D.Cur} (h : d.b = c.b) : (⟨c.b, d.i, d.h⟩ : D.Cur) = d := by rw [← h]
theorem wp.qap.math (c : D.Cur) (l : List Int) (h : M.qdQ c l) : wp.qap c l (fun r => r = M.qap c l) := by
 obtain ⟨h1, h2, h3⟩ := h
 have hpos : (0 : Int) < (l.length : Int) := by have := List.length_pos_iff.2 h2; omega
 refine ⟨h1, fun r hr => ?_⟩
 have := qcG c hpos
 refine ⟨by rw [hr]; exact this, ?_⟩
 rw [hr, qcf (qbZ c _)]; rfl
theorem wp.qa0.math (c : D.Cur) (n : Int) (h : M.qaq c n) : wp.qa0 c n (fun r => r = M.qa0 c n) := by
 refine qa2 (fun e => ?_) fun e => qa2 (fun e2 => ⟨h, fun r hr => ⟨?_, ?_⟩⟩) fun e2 => ?_
 ·have e : n ≤ 0 := by simpa using e
  unfold M.qa0; rw [if_pos e]
 ·simp at e; omega
 ·have e : ¬ n ≤ 0 := by simpa using e
  have e2 : n ≤ 256 := by simpa using e2
  unfold M.qa0; rw [if_neg e, if_pos e2, hr, qcf (qiQ c)]
 ·have e : ¬ n ≤ 0 := by simpa using e
  have e2 : ¬ n ≤ 256 := by simpa using e2
  have h1 := qhe h
  have h2 := qhe h1
  have h3 := qhe h2
  have b1 := qiQ c
  have b2 : (M.qae (M.qae c).2).2.b = c.b := (qiQ _).trans b1
  have b3 : (M.qae (M.qae (M.qae c).2).2).2.b = c.b := (qiQ _).trans b2
  have b4 : (M.qae (M.qae (M.qae (M.qae c).2).2).2).2.b = c.b := (qiQ _).trans b3
  refine ⟨h, fun r1 g1 => ?_⟩
  subst g1
  rw [qcf b1]
  refine ⟨h1, fun r2 g2 => ?_⟩
  subst g2
  rw [qcf b2]
  refine ⟨h2, fun r3 g3 => ?_⟩
  subst g3
  rw [qcf b3]
  refine ⟨h3, fun r4 g4 => ⟨by omega, ?_⟩⟩
  subst g4
  rw [qcf b4]
  unfold M.qa0; rw [if_neg e, if_neg e2]
theorem wp.qaw.math (c : D.Cur) (h : M.qex c) : wp.qaw c (fun r => r = M.qaw c) := by
 refine ⟨h, fun r1 g1 => ?_⟩
 subst g1
 rw [qcf (qbZ c 9)]
 refine ⟨qbh h 9, fun r2 g2 => ?_⟩
 subst g2
 have b2 : (M.qa0 (M.qa0 c 9).2 4).2.b = c.b := (qbZ _ _).trans (qbZ _ _)
 have h2 := qbh (qbh h 9) 4
 rw [qcf b2]
 have cut : ∀ (n : Int), (⟨c.b, (M.qa0 (M.qa0 (M.qa0 c 9).2 4).2 n).2.i, (M.qa0 (M.qa0 (M.qa0 c 9).2 4).2 n).2.h⟩ : D.Cur) = (M.qa0 (M.qa0 (M.qa0 c 9).2 4).2 n).2 := fun n => qcf ((qbZ _ _).trans b2)
 refine qa2 (fun e => ⟨h2, fun r3 g3 => ?_⟩) fun e1 => qa2 (fun e => ?_) fun e8 => qa2 (fun e => ⟨h2, fun r3 g3 => ?_⟩) fun e2 => ⟨h2, fun r3 g3 => ?_⟩
 ·subst g3
  rw [cut]
  have e : wrap .i64 (1 + (M.qa0 c 9).1) = 1 := by simpa using e
  simp only [M.qaw]; rw [if_pos e]
 ·have e1 : ¬ wrap .i64 (1 + (M.qa0 c 9).1) = 1 := by simpa using e1
  have e : wrap .i64 (1 + (M.qa0 c 9).1) = 8 := by simpa using e
  simp only [M.qaw]; rw [if_neg e1, if_pos e]
 ·subst g3
  rw [cut]
  have e1 : ¬ wrap .i64 (1 + (M.qa0 c 9).1) = 1 := by simpa using e1
  have e8 : ¬ wrap .i64 (1 + (M.qa0 c 9).1) = 8 := by simpa using e8
  have e : wrap .i64 (1 + (M.qa0 c 9).1) = 2 := by simpa using e
  simp only [M.qaw]; rw [if_neg e1, if_neg e8, if_pos e]
 ·subst g3
  rw [cut]
  refine ⟨qbh h2 4, fun r4 g4 => ?_⟩
  subst g4
  rw [qcf ((qbZ _ _).trans ((qbZ _ _).trans b2))]
  have e1 : ¬ wrap .i64 (1 + (M.qa0 c 9).1) = 1 := by simpa using e1
  have e8 : ¬ wrap .i64 (1 + (M.qa0 c 9).1) = 8 := by simpa using e8
  have e2 : ¬ wrap .i64 (1 + (M.qa0 c 9).1) = 2 := by simpa using e2
  simp only [M.qaw]; rw [if_neg e1, if_neg e8, if_neg e2]
theorem qkp (c : D.Cur) (l : List Int) : (M.qap c l).2.b = c.b := qbZ _ _
theorem qjZ {c : D.Cur} (h : M.qdn c) (l : List Int) : M.qdn (M.qap c l).2 := qbh h _
theorem qo1 (c : D.Cur) : (M.qbK c).2.b = c.b := by
 simp only [M.qbK]; rw [qkp, qbZ, qbZ]
theorem qnt {c : D.Cur} (h : M.qdn c) : M.qdn (M.qbK c).2 := qjZ (qbh (qbh h _) _) _
theorem wp.qbK.math (c : D.Cur) (h : M.qg1 c) : wp.qbK c (fun r => r = M.qbK c) := by
 refine ⟨h, fun r1 g1 => ?_⟩
 subst g1
 rw [qcf (qbZ c 9)]
 refine ⟨qbh h 9, fun r2 g2 => ?_⟩
 subst g2
 have b2 : (M.qa0 (M.qa0 c 9).2 9000).2.b = c.b := (qbZ _ _).trans (qbZ _ _)
 rw [qcf b2]
 refine ⟨⟨qbh (qbh h 9) 9000, by simp, by simp⟩, fun r3 g3 => ?_⟩
 subst g3
 rw [qcf ((qkp _ _).trans b2)]
 rfl
theorem qjP : ∀ (k : Nat) (c : D.Cur), (M.qgx k c).2.b = c.b
 | 0, c => rfl
 | k + 1, c => by simp only [M.qgx]; rw [qo1, qjP k c]
theorem qke : ∀ (k : Nat) {c : D.Cur}, M.qdn c → M.qdn (M.qgx k c).2
 | 0, c, h => h
 | k + 1, c, h => qnt (qke k h)
theorem qiE : ∀ (k : Nat) (c : D.Cur), (M.qgx k c).1.length = k
 | 0, c => rfl
 | k + 1, c => by simp only [M.qgx, List.length_append, qiE k c]; rfl
theorem wp.qbf.math (c : D.Cur) (n : Int) (h : M.qfu c n) : wp.qbf c n (fun r => r = M.qbf c n) := by
 obtain ⟨h1, h2, h3⟩ := h
 refine qd2 n.toNat (fun k => ((M.qgx k c).1, (k : Int), (M.qgx k c).2.i, (M.qgx k c).2.h, ())) (fun _ => True) rfl trivial (fun k hk _ next hn => ?_) fun _ next => ?_
 ·have hn := hn trivial
  refine qaA (by simp; omega) ?_
  rw [qcf (qjP k c)]
  refine ⟨qke k h1, fun r hr => ⟨by rw [qiE]; simp; omega, ?_⟩⟩
  subst hr
  rw [up64 (n := n.toNat) hk (by omega)]
  exact hn
 ·refine qax (by simp; omega) ?_
  rw [qcf (qjP _ c)]; rfl
theorem qn6 (c : D.Cur) (n : Int) : (M.qbf c n).2.b = c.b := qjP _ _
theorem wp.qeQ.math (b : List Int) : wp.qeQ b (fun r => r = M.qeQ b) := rfl
theorem wp.qbx.math (a b : List Int) (h : M.qfx a b) : wp.qbx a b (fun r => r = M.qbx a b) := by
 unfold wp.qbx
 have hb : a.length ≤ 9223372036854775807 := h
 refine qa2 (fun e => ?_) fun e => ?_
 ·simp [M.qbx]; rintro rfl; simp at e
 have hl : a.length = b.length := by simp at e; omega
 refine qd2 a.length (fun k => ((k : Int), ())) (fun k => ∀ j : Nat, j < k → rd a j = rd b j) rfl (by simp) (fun k hk hF next hn => ?_) fun hF next => ?_
 ·refine qaA (by simp; omega) ⟨by omega, by omega, qa2 (fun e => ?_) fun e => ?_⟩
  ·simp [M.qbx]; rintro rfl; simp at e
  ·rw [up64 hk hb]
   refine hn fun j hj => ?_
   by_cases hjk : j = k
   ·subst hjk; simpa using e
   ·exact hF j (by omega)
 ·refine qax (by simp) ?_
  have := qj7 hl hF
  simp [M.qbx, this]
theorem qmN (c : D.Cur) : (M.qaw c).2.b = c.b := by
 simp only [M.qaw]
 (repeat' split) <;> simp only [qbZ]
theorem qlm {c : D.Cur} (h : M.qdn c) : M.qdn (M.qaw c).2 := by
 simp only [M.qaw]
 have h2 := qbh (qbh h 9) 4
 (repeat' split)
 ·exact qbh h2 _
 ·exact h2
 ·exact qbh h2 _
 ·exact qbh (qbh h2 _) _
theorem qlo : ∀ (k : Nat) (c : D.Cur), (M.qek k c).2.b = c.b
 | 0, c => rfl
 | k + 1, c => by simp only [M.qek]; rw [qbZ, qlo k c]
theorem qkt : ∀ (k : Nat) {c : D.Cur}, M.qdn c → M.qdn (M.qek k c).2
 | 0, c, h => h
 | k + 1, c, h => qbh (qkt k h) _
theorem qhk : ∀ (k : Nat) (c : D.Cur), (M.qek k c).1.length = k
 | 0, c => rfl
 | k + 1, c => by simp only [M.qek, List.length_append, qhk k c]; rfl
theorem qll {b : List Int} (h : M.Long b) : M.qdn (M.qaB b) := ⟨by simp [M.qaB], h⟩
theorem wp.qbb.math (b : List Int) (h : M.qeS b) : wp.qbb b (fun r => r = M.qbb b) := by
 refine ⟨h, fun r0 g0 => ?_⟩
 subst g0
 refine qd2 12 (fun k => ((M.qek k (M.qaB b)).1, (k : Int), (M.qek k (M.qaB b)).2.i, (M.qek k (M.qaB b)).2.h, ())) (fun _ => True) rfl trivial (fun k hk _ next hn => ?_) fun _ next => ?_
 ·have hn := hn trivial
  refine qaA (by simp; omega) ?_
  have e : (⟨b, (M.qek k (M.qaB b)).2.i, (M.qek k (M.qaB b)).2.h⟩ : D.Cur) = (M.qek k (M.qaB b)).2 := qcf (c := M.qaB b) (qlo k _)
  rw [e]
  refine ⟨qkt k (qll h), fun r hr => ⟨by rw [qhk]; simp; omega, ?_⟩⟩
  subst hr
  rw [up64 hk (by omega)]
  exact hn
 ·exact qax (by simp) rfl
theorem qhP (c : D.Cur) : M.qg7 (M.qa0 c 4).1 = true := by
 have := qcG c (n := 4) (by omega)
 rw [qfQ]; omega
theorem qlK (c : D.Cur) {n : Int} (hn : 0 ≤ n ∧ n ≤ 32) : M.qdh (M.qaw c).1 n = true ∧ M.qcw (M.qaw c).1 = true := by
 have h9 := qcG c (n := 9) (by omega)
 have hw : wrap .i64 (1 + (M.qa0 c 9).1) = 1 + (M.qa0 c 9).1 := w64 (by omega) (by omega)
 have hin : M.isIn n 0 32 = true := by simp [M.isIn]; omega
 have h6 := fun d : D.Cur => qcG d (n := 6) (by omega)
 have hw6 : ∀ d : D.Cur, M.isWord (M.qa0 d 6).1 = true := fun d => by rw [qdr]; have := h6 d; omega
 simp only [M.qaw, hw]
 generalize (M.qa0 c 9).1 = o at *
 split
 ·rename_i e
  refine ⟨?_, by simp [M.qcw, M.isIn]; omega⟩
  simp only [M.qdh, hin, Bool.true_and]
  rw [if_neg (by omega), if_pos (by omega)]
  simp [qhP, hw6]
 split
 ·rename_i e
  refine ⟨?_, by simp [M.qcw, M.isIn]; omega⟩
  simp only [M.qdh, hin, Bool.true_and]
  rw [if_neg (by omega), if_neg (by omega), if_neg (by omega), if_pos (by omega)]
  simp [qhP]
 split
 ·rename_i e
  refine ⟨?_, by simp [M.qcw, M.isIn]; omega⟩
  simp only [M.qdh, hin, Bool.true_and]
  rw [if_neg (by omega), if_neg (by omega), if_pos (by omega)]
  simp [qhP]
 ·refine ⟨?_, by simp [M.qcw, M.isIn]; omega⟩
  simp only [M.qdh, hin, Bool.true_and]
  rw [if_neg (by omega), if_neg (by omega), if_neg (by omega), if_neg (by omega), if_neg (by omega), if_neg (by omega)]
  have : M.isIn (1 + o) 3 9 = true := by simp [M.isIn]; omega
  simp [qhP, this]
theorem qme (c : D.Cur) : M.isWord (M.qbK c).1 = true := by
 have h9 := qcG c (n := 9) (by omega)
 have h9000 := qcG (M.qa0 c 9).2 (n := 9000) (by omega)
 simp only [M.qbK, M.qap]
 generalize (M.qa0 c 9).1 = a at *
 generalize M.qa0 (M.qa0 c 9).2 9000 = b at *
 have hi := qcG b.2 (n := (([0, 1, 2, 7, 100, 65535, 32768, a, b.1] : List Int).length : Int)) (by simp)
 have hm := qjr hi.1 hi.2
 rw [qdr]
 generalize rd ([0, 1, 2, 7, 100, 65535, 32768, a, b.1] : List Int) _ = x at *
 simp only [List.mem_cons, List.not_mem_nil, or_false] at hm
 omega
theorem qjD : ∀ (k : Nat) (c : D.Cur), (M.qgx k c).1.all M.isWord = true
 | 0, c => rfl
 | k + 1, c => by simp only [M.qgx, List.all_append, qjD k c, List.all_cons, List.all_nil, qme, Bool.and_self]
theorem qiP : ∀ (k : Nat) (c : D.Cur), ∀ x ∈ (M.qek k c).1, 0 ≤ x ∧ x < 10000
 | 0, c, x, hx => by simp [M.qek] at hx
 | k + 1, c, x, hx => by
  simp only [M.qek, List.mem_append, List.mem_singleton] at hx
  rcases hx with hx | rfl
  ·exact qiP k c x hx
  ·exact qcG _ (by omega)
theorem qm2 (a b : Int) : M.isWord (M.qk6 a b) = true := by unfold M.qk6; split <;> rfl
theorem qhw (c : Bool) (x : Int) : M.isWord (if c then x % 65536 else 0) = true := by split; exact qlQ x; rfl
theorem qkJ (a b : Int) : M.isWord (M.addW a b) = true := qhw _ _
theorem qmF (a b : Int) : M.isWord (M.subW a b) = true := qhw _ _
theorem qmJ (a b : Int) : M.isWord (M.mulW a b) = true := qhw _ _
theorem qmO {a b : Int} (ha : M.isWord a = true) (hb : M.isWord b = true) : M.isWord (qgh .i64 a b) = true := by
 rw [qdr] at *
 unfold qgh
 have e1 : (BitVec.ofInt (IntKind.bits .i64) a ^^^ BitVec.ofInt (IntKind.bits .i64) b).toNat = a.toNat ^^^ b.toNat := by
  show (BitVec.ofInt 64 a ^^^ BitVec.ofInt 64 b).toNat = _
  rw [BitVec.toNat_xor, BitVec.toNat_ofInt, BitVec.toNat_ofInt, show ((2 ^ 64 : Nat) : Int) = 18446744073709551616 from rfl]
  congr 1 <;> omega
 have e2 : a.toNat ^^^ b.toNat < 2 ^ 16 := Nat.xor_lt_two_pow (by omega) (by omega)
 rw [e1, w64 (by omega) (by omega)]
 omega
theorem qfm {r : List Int} (h : r.all M.isWord = true) (k : Nat) {x : Int} (hx : M.isWord x = true) : (r.set k x).all M.isWord = true := by
 rw [List.all_eq_true] at *
 intro y hy
 rcases List.mem_or_eq_of_mem_set hy with h' | rfl
 ·exact h y h'
 ·exact hx
theorem qlg {i : D.Ins} {n : Int} {t : Int} {r : List Int} (hok : M.qdh i n = true) (ht : 0 ≤ t ∧ t ≤ 23) (hl : r.length = 4) (h : r.all M.isWord = true) : (M.apply i t r).all M.isWord = true := by
 obtain ⟨_, hA, hB, hC⟩ := qja (i := i) (r := r) ⟨hl, n, hok⟩
 have hw := List.all_eq_true.1 h
 have rdw : ∀ x, 0 ≤ x ∧ x ≤ 3 → M.isWord (rd r x) = true := fun x hx => hw _ (qjr hx.1 (by omega))
 unfold M.apply
 split
 ·rename_i e
  refine qfm h _ ?_
  simp only [M.qdh, Bool.and_eq_true] at hok
  have hok := hok.2
  rw [if_neg (by omega), if_pos e] at hok
  simp only [Bool.and_eq_true] at hok
  exact hok.2.1
 split
 ·exact qfm h _ (rdw _ (hB (by omega)))
 split
 ·exact qfm h _ (qkJ _ _)
 split
 ·exact qfm h _ (qmF _ _)
 split
 ·exact qfm h _ (qmJ _ _)
 split
 ·exact qfm h _ (qmO (rdw _ (hB (by omega))) (rdw _ (hC (by omega))))
 split
 ·exact qfm h _ (qm2 _ _)
 split
 ·exact qfm h _ (qdr.2 (by omega))
 split
 ·split
  ·exact qfm h _ (rdw _ (hB (by omega)))
  ·exact h
 ·exact h
end Go.V
namespace Go.V
open IntKind (wrap)
theorem qny {α : Type} [Inhabited α] [BEq α] [LawfulBEq α] {a b : List α} (ha : M.Long a) (hl : a.length = b.length) {B : (Int × Unit) → ((Int × Unit) → Prop) → Prop} {Q : Bool → Prop}
    (hb : ∀ (k : Nat) (next : (Int × Unit) → Prop), k < a.length → k < b.length → (rd a (k : Int) ≠ rd b (k : Int) → Q false) → (rd a (k : Int) = rd b (k : Int) → next (((k + 1 : Nat) : Int), ())) → B ((k : Int), ()) next)
    (he : ∀ (next : (Int × Unit) → Prop), a = b → B ((a.length : Int), ()) next) (hQ : a ≠ b → Q false) : qd4 B (0, ()) := by
 refine qd2 a.length (fun k => ((k : Int), ())) (fun k => ∀ j : Nat, j < k → rd a j = rd b j) rfl (by simp) (fun k hk hF next hn => ?_) fun hF next => ?_
 ·refine hb k next hk (by omega) (fun e => hQ (fun h => e (by rw [h]))) fun e => hn fun j hj => ?_
  by_cases hjk : j = k
  ·subst hjk; exact e
  ·exact hF j (by omega)
 ·exact he next (qj7 hl hF)
end Go.V
namespace Go.V
open IntKind (wrap)
def wp.qbC (x0 : Int) (Q : Bool → Prop) : Prop :=
 (∀ r21, r21 = M.qan x0 1 3 → Q r21)
def wp.qb8 (xs0 : List Int) (Q : Bool → Prop) : Prop :=
 bcase ((xs0.length : Int) == 32) ((M.qey xs0 ∧ ∀ r21, r21 = M.qbJ xs0 → Q r21)) (Q false)
def wp.qbR (xs0 : List Int) (Q : Bool → Prop) : Prop :=
 Q ((xs0.length : Int) == 32)
def wp.qbO (xs0 : List D.Frame) (x1 : Int) (Q : Bool → Prop) : Prop :=
 qd4 (σ := Int × Unit) (fun (p83 : Int × Unit) next25 => match p83 with | (i21, _) => bcase (decide (i21 < (xs0.length : Int))) (((0 ≤ i21 ∧ i21 < (xs0.length : Int)) ∧ (∀ r36, r36 = M.qan ((rd xs0 i21).Pc) 0 x1 → bcase (!r36) (Q false) ((∀ r41, r41 = M.qan ((rd xs0 i21).Stop) 0 x1 → bcase (!r41) (Q false) ((∀ r46, r46 = M.qcZ ((rd xs0 i21).Mask) → bcase (!r46) (Q false) (bcase ((rd xs0 i21).Mask == 0) (Q false) (next25 ((wrap .i64 (i21 + 1)), ())))))))))) (bcase ((xs0.length : Int) == 0) (Q true) (((0 ≤ (wrap .i64 ((xs0.length : Int) - 1)) ∧ (wrap .i64 ((xs0.length : Int) - 1)) < (xs0.length : Int)) ∧ bcase (decide ((xs0.length : Int) ≤ 24)) (bcase ((rd xs0 (wrap .i64 ((xs0.length : Int) - 1))).Pc != (rd xs0 (wrap .i64 ((xs0.length : Int) - 1))).Stop) (bcase ((rd xs0 (wrap .i64 ((xs0.length : Int) - 1))).Pc != x1) (((0 ≤ (0 : Int) ∧ (0 : Int) < (xs0.length : Int)) ∧ bcase ((rd xs0 0).Stop == x1) (((0 ≤ (0 : Int) ∧ (0 : Int) < (xs0.length : Int)) ∧ Q ((rd xs0 0).Mask == 255))) (Q false))) (Q false)) (Q false)) (Q false))))) (0, ())
def wp.qcv (xs0 : List D.Ins) (s1 : D.Warp) (Q : Bool → Prop) : Prop :=
 (∀ r23, r23 = M.qbp s1.Number → bcase r23 ((∀ r28, r28 = M.qbR s1.Regs → bcase r28 ((M.qey s1.Regs ∧ ∀ r33, r33 = M.qbJ s1.Regs → bcase r33 ((M.qf8 s1.Frames (xs0.length : Int) ∧ ∀ r38, r38 = M.qbO s1.Frames (xs0.length : Int) → Q r38)) (Q false))) (Q false))) (Q false))
def wp.qcn (s0 : D.Block) (Q : Bool → Prop) : Prop :=
 (M.qdX s0.Code ∧ ∀ r29, r29 = M.qb7 s0.Code → bcase (!r29) (Q false) ((∀ r34, r34 = M.qbC (s0.Warps.length : Int) → bcase (!r34) (Q false) ((M.qfs s0.Memory ∧ ∀ r39, r39 = M.qb8 s0.Memory → bcase (!r39) (Q false) (((0 ≤ (s0.Warps.length : Int)) ∧ (∀ r45, r45 = M.qan s0.Waiting 0 (wrap .i64 ((wrap .i64 (1 * 2 ^ (min ((s0.Warps.length : Int).toNat) (IntKind.bits .i64)))) - 2)) → bcase (!r45) (Q false) ((∀ r50, r50 = M.qan s0.Phase 0 100000 → bcase (!r50) (Q false) (qd4 (σ := Int × Unit) (fun (p92 : Int × Unit) next59 => match p92 with | (i55, _) => bcase (decide (i55 < (s0.Warps.length : Int))) (((0 ≤ i55 ∧ i55 < (s0.Warps.length : Int)) ∧ bcase ((rd s0.Warps i55).Number != i55) (Q false) ((M.qfF s0.Code (rd s0.Warps i55) ∧ ∀ r81, r81 = M.qcv s0.Code (rd s0.Warps i55) → bcase (!r81) (Q false) (next59 ((wrap .i64 (i55 + 1)), ())))))) (Q true)) (0, ()))))))))))))
def wp.qc8 (s0 : D.Block) (x1 : Int) (Q : Bool → Prop) : Prop :=
 (M.qeK s0 ∧ ∀ r23, r23 = M.qcn s0 → bcase r23 ((∀ r28, r28 = M.qan x1 0 (wrap .i64 ((s0.Warps.length : Int) - 1)) → Q r28)) (Q false))
def wp.qb1 (s0 : D.Block) (x1 : Int) (Q : Bool → Prop) : Prop :=
 ((0 ≤ x1) ∧ Q ((qdt .i64 (Int.fdiv s0.Waiting (2 ^ (min (x1.toNat) (IntKind.bits .i64)))) 1) == 1))
def wp.qay (s0 : D.Block) (x1 : Int) (Q : Bool → Prop) : Prop :=
 (M.qeh s0 x1 ∧ ∀ r23, r23 = M.qc8 s0 x1 → bcase r23 ((M.qdC s0 x1 ∧ ∀ r28, r28 = M.qb1 s0 x1 → Q r28)) (Q false))
end Go.V
namespace Go.V
open IntKind (wrap)
theorem qdc {n : Nat} (h : n ≤ 9223372036854775807) : wrap .i64 ((n : Int) - 1) = (n : Int) - 1 := w64 (by omega) (by omega)
theorem qgv {fs : List D.Frame} {n : Int} {k : Nat} (hk : k < fs.length) (h : M.qdY n (rd fs (k : Int)) = false) : M.qdJ fs n = false := by
 have := all_false (g := M.qdY n) hk h
 simp [M.qdJ, this]
theorem wp.qbO.math (fs : List D.Frame) (n : Int) (h : M.qf8 fs n) : wp.qbO fs n (fun r => r = M.qbO fs n) := by
 unfold wp.qbO
 have hl : fs.length ≤ 9223372036854775807 := h
 refine qln (g := M.qdY n) (Q := fun r => r = M.qdJ fs n) h (fun k next hk h1 h2 => ?_) (fun next ha => ?_) fun ha => by simp [M.qdJ, ha]
 ·refine qaA (by simp; omega) ⟨by omega, fun r hr => qa2 (fun e => ?_) fun e r2 hr2 => qa2 (fun e2 => ?_) fun e2 r3 hr3 => qa2 (fun e3 => ?_) fun e3 => qa2 (fun e4 => ?_) fun e4 => ?_⟩
  all_goals simp only [M.qan, M.qcZ] at *
  ·have := nt e hr
   exact (qgv hk (by simp [M.qdY, this])).symm
  ·have := nt e2 hr2
   exact (qgv hk (by simp [M.qdY, this])).symm
  ·have := nt e3 hr3
   exact (qgv hk (by simp [M.qdY, this])).symm
  ·have e4 : (rd fs (k : Int)).Mask = 0 := by simpa using e4
   exact (qgv hk (by simp [M.qdY, e4])).symm
  ·rw [up64 hk h]
   refine h2 ?_
   have e4 : (rd fs (k : Int)).Mask ≠ 0 := by simpa using e4
   simp [M.qdY, nf e hr, nf e2 hr2, nf e3 hr3, e4]
 ·refine qax (by simp) (qa2 (fun e => ?_) fun e => ?_)
  ·have : fs = [] := by simpa using e
   subst this; rfl
  have h0 : fs ≠ [] := by rintro rfl; simp at e
  have hpos : 0 < fs.length := List.length_pos_iff.2 h0
  have hA : M.qdJ fs n = M.qhL fs n := by
   have : fs.isEmpty = false := by simpa using h0
   simp [M.qdJ, ha, this]
  show _
  simp only [M.qbO, hA, qdc hl]
  refine ⟨by omega, qa2 (fun e1 => qa2 (fun e2 => qa2 (fun e3 => ⟨by omega, qa2 (fun e4 => ⟨by omega, ?_⟩) fun e4 => ?_⟩) fun e3 => ?_) fun e2 => ?_) fun e1 => ?_⟩
  all_goals simp only [M.qhL]
  all_goals change _ = (_ && ((rd fs ((fs.length : Int) - 1)).Pc != (rd fs ((fs.length : Int) - 1)).Stop && ((rd fs ((fs.length : Int) - 1)).Pc != n && _)))
  ·have e1 : fs.length ≤ 24 := by simp at e1; omega
   rw [e2, e3, e4]; simp [e1]
  ·rw [e4]; simp
  ·rw [e3]; simp
  ·rw [e2]; simp
  ·have e1 : ¬ fs.length ≤ 24 := by simp at e1; omega
   simp [e1]
theorem lenE {r : List Int} : ((r.length : Int) == 32) = (r.length == 32) := by
 rw [Bool.eq_iff_iff]; simp; omega
theorem wp.qbR.math (r : List Int) : wp.qbR r (fun x => x = M.qbR r) := lenE
theorem wp.qbC.math (n : Int) : wp.qbC n (fun x => x = M.qbC n) := fun r hr => hr
theorem wp.qb8.math (m : List Int) (h : M.qfs m) : wp.qb8 m (fun x => x = M.qb8 m) := by
 refine qa2 (fun e => ⟨h, fun r hr => ?_⟩) fun e => ?_
 ·have : m.length = 32 := by simp at e; omega
  rw [hr]; simp [M.qb8, this, M.qbJ]
 ·have : ¬ m.length = 32 := by simp at e; omega
  simp [M.qb8, this]
theorem wp.qcv.math (p : List D.Ins) (x : D.Warp) (h : M.qfF p x) : wp.qcv p x (fun r => r = M.qcv p x) := by
 obtain ⟨h1, h2⟩ := h
 refine fun r hr => qa2 (fun e r2 hr2 => qa2 (fun e2 => ⟨h2, fun r3 hr3 => qa2 (fun e3 => ⟨h1, fun r4 hr4 => ?_⟩) fun e3 => ?_⟩) fun e2 => ?_) fun e => ?_
 all_goals try simp only [M.qbp, M.qbR, M.qbJ, M.qbO, M.qcv, M.qfo] at *
 ·subst hr hr2 hr3 hr4; simp [e, e2, e3]
 ·subst hr hr2 hr3; simp [e, e2, e3]
 ·subst hr hr2; simp [e, e2]
 ·subst hr; simp [e]
theorem lenB {r : List Int} : ((r.length : Int) != 32) = !(r.length == 32) := by rw [← lenE]; rfl
theorem qlM (p : List D.Ins) (l : List D.Warp) (k : Nat) (hk : k < l.length) : M.qda p k (l.drop k) = (M.qgw p k (rd l (k : Int)) && M.qda p (k + 1) (l.drop (k + 1))) := by
 rw [List.drop_eq_getElem_cons hk, qdO hk]; rfl
theorem qlW {p : List D.Ins} {l : List D.Warp} (hl : M.Long l) {B : (Int × Unit) → ((Int × Unit) → Prop) → Prop}
    (hb : ∀ (k : Nat) (next : (Int × Unit) → Prop), k < l.length → (M.qgw p k (rd l (k : Int)) = false → false = M.qda p 0 l) → (M.qgw p k (rd l (k : Int)) = true → next (((k + 1 : Nat) : Int), ())) → B ((k : Int), ()) next)
    (he : ∀ (next : (Int × Unit) → Prop), true = M.qda p 0 l → B ((l.length : Int), ()) next) : qd4 B (0, ()) := by
 refine qd2 l.length (fun k => ((k : Int), ())) (fun k => M.qda p 0 l = M.qda p k (l.drop k)) rfl rfl (fun k hk hF next hn => ?_) fun hF next => ?_
 ·rw [qlM p l k hk] at hF
  refine hb k next hk (fun e => by rw [hF, e]; rfl) fun e => hn (by rw [hF, e]; rfl)
 ·refine he next ?_
  rw [hF, List.drop_length]; rfl
theorem wp.qcn.math (b : D.Block) (h : M.qeK b) : wp.qcn b (fun r => r = M.qcn b) := by
 obtain ⟨h1, ⟨h2, hW⟩, h3⟩ := h
 refine ⟨h1, fun r hr => qa2 (fun e => ?_) fun e r2 hr2 => qa2 (fun e2 => ?_) fun e2 => ⟨h3, fun r4 hr4 => qa2 (fun e4 => ?_) fun e4 => ⟨by omega, fun r5 hr5 => qa2 (fun e5 => ?_) fun e5 r6 hr6 => qa2 (fun e6 => ?_) fun e6 => ?_⟩⟩⟩
 all_goals simp only [M.qb7, M.qbC, M.qan] at *
 all_goals simp only [M.qcn, M.qdS]
 ·rw [nt e hr]; rfl
 ·rw [nt e2 hr2]; simp
 ·rw [nt e4 hr4]; simp
 ·have := nt e5 hr5
  unfold M.qh9; rw [this]; simp
 ·rw [nt e6 hr6]; simp
 have h5 := nf e5 hr5
 unfold M.qh9
 rw [nf e hr, nf e2 hr2, nf e4 hr4, h5, nf e6 hr6]
 simp only [Bool.true_and]
 refine qlW h2 (fun k next hk g1 g2 => ?_) fun next hh => qax (by simp) hh
 refine qaA (by simp; omega) ⟨by omega, qa2 (fun e2 => ?_) fun e2 => ⟨hW _ (qgy hk), fun r hr => qa2 (fun e => ?_) fun e => ?_⟩⟩
 all_goals simp only [M.qcv] at *
 ·have e2 : (rd b.Warps (k : Int)).Number ≠ (k : Int) := by simpa using e2
  exact g1 (by simp [M.qgw, e2])
 ·exact g1 (by simp [M.qgw, nt e hr])
 ·have e2 : (rd b.Warps (k : Int)).Number = (k : Int) := by simpa using e2
  rw [up64 hk h2]; exact g2 (by simp [M.qgw, e2, nf e hr])
theorem wp.qc8.math (b : D.Block) (w : Int) (h : M.qeh b w) : wp.qc8 b w (fun r => r = M.qc8 b w) := by
 refine ⟨h, fun r hr => qa2 (fun e r2 hr2 => ?_) fun e => ?_⟩
 all_goals simp only [M.qcn, M.qan, M.qc8, M.qf5] at *
 ·rw [hr2, ← hr, e]; rfl
 ·rw [← hr, e]; rfl
theorem wp.qb1.math (b : D.Block) (w : Int) (h : M.qdC b w) : wp.qb1 b w (fun r => r = M.qb1 b w) := ⟨h, rfl⟩
theorem qnk {b : D.Block} {w : Int} (hb : M.Long b.Warps) (h : M.qf5 b w = true) : 0 ≤ w ∧ w < (b.Warps.length : Int) ∧ M.qdS b = true := by
 have hl : b.Warps.length ≤ 9223372036854775807 := hb
 simp only [M.qf5, Bool.and_eq_true, M.isIn, decide_eq_true_eq, qdc hl] at h
 exact ⟨h.2.1, by omega, h.1⟩
theorem wp.qay.math (b : D.Block) (w : Int) (h : M.qbF b w) : wp.qay b w (fun r => r = M.qay b w) := by
 refine ⟨h, fun r hr => qa2 (fun e => ⟨?_, fun r2 hr2 => ?_⟩) fun e => ?_⟩
 ·exact (qnk h.2.1.1 (hr.symm.trans e)).1
 ·have : M.qf5 b w = true := hr.symm.trans e
  rw [hr2]
  simp only [M.qay, M.qgQ, this, M.qb1, Bool.true_and]
 ·have : M.qf5 b w = false := hr.symm.trans e
  simp only [M.qay, M.qgQ, this, Bool.false_and]
theorem qjs {b : D.Block} (h : M.qmt b) : M.qi9 b := by
 obtain ⟨h1, ⟨h2, h3⟩, h4⟩ := h
 unfold M.qi9 M.qmG M.qmC M.Long
 exact ⟨by omega, ⟨by omega, fun x hx => by have := h3 x hx; unfold M.qlu at this; omega⟩, by omega⟩
end Go.V
namespace Go.V
open IntKind (wrap)
def wp.qcb (s0 : D.Block) (x1 : Int) (Q : D.Ins → Prop) : Prop :=
 ((0 ≤ x1 ∧ x1 < (s0.Warps.length : Int)) ∧ ((0 ≤ (wrap .i64 (((rd s0.Warps x1).Frames.length : Int) - 1)) ∧ (wrap .i64 (((rd s0.Warps x1).Frames.length : Int) - 1)) < (((rd s0.Warps x1).Frames).length : Int)) ∧ ((0 ≤ (rd ((rd s0.Warps x1).Frames) (wrap .i64 (((rd s0.Warps x1).Frames.length : Int) - 1))).Pc ∧ (rd ((rd s0.Warps x1).Frames) (wrap .i64 (((rd s0.Warps x1).Frames.length : Int) - 1))).Pc < (s0.Code.length : Int)) ∧ Q (⟨(rd s0.Code ((rd ((rd s0.Warps x1).Frames) (wrap .i64 (((rd s0.Warps x1).Frames.length : Int) - 1))).Pc)).Op, (rd s0.Code ((rd ((rd s0.Warps x1).Frames) (wrap .i64 (((rd s0.Warps x1).Frames.length : Int) - 1))).Pc)).A, (rd s0.Code ((rd ((rd s0.Warps x1).Frames) (wrap .i64 (((rd s0.Warps x1).Frames.length : Int) - 1))).Pc)).B, (rd s0.Code ((rd ((rd s0.Warps x1).Frames) (wrap .i64 (((rd s0.Warps x1).Frames.length : Int) - 1))).Pc)).C⟩ : D.Ins))))
def wp.qau (s0 : D.Block) (x1 : Int) (Q : (D.Ins × Bool) → Prop) : Prop :=
 ((0 ≤ x1 ∧ x1 < (s0.Warps.length : Int)) ∧ bcase (((rd s0.Warps x1).Frames.length : Int) == 0) (Q ((⟨0, 0, 0, 0⟩ : D.Ins), false)) (((0 ≤ (wrap .i64 (((rd s0.Warps x1).Frames.length : Int) - 1)) ∧ (wrap .i64 (((rd s0.Warps x1).Frames.length : Int) - 1)) < (((rd s0.Warps x1).Frames).length : Int)) ∧ ((0 ≤ (rd ((rd s0.Warps x1).Frames) (wrap .i64 (((rd s0.Warps x1).Frames.length : Int) - 1))).Pc ∧ (rd ((rd s0.Warps x1).Frames) (wrap .i64 (((rd s0.Warps x1).Frames.length : Int) - 1))).Pc < (s0.Code.length : Int)) ∧ Q ((⟨(rd s0.Code ((rd ((rd s0.Warps x1).Frames) (wrap .i64 (((rd s0.Warps x1).Frames.length : Int) - 1))).Pc)).Op, (rd s0.Code ((rd ((rd s0.Warps x1).Frames) (wrap .i64 (((rd s0.Warps x1).Frames.length : Int) - 1))).Pc)).A, (rd s0.Code ((rd ((rd s0.Warps x1).Frames) (wrap .i64 (((rd s0.Warps x1).Frames.length : Int) - 1))).Pc)).B, (rd s0.Code ((rd ((rd s0.Warps x1).Frames) (wrap .i64 (((rd s0.Warps x1).Frames.length : Int) - 1))).Pc)).C⟩ : D.Ins), true)))))
def wp.qcY (s0 : D.Block) (x1 : Int) (Q : Int → Prop) : Prop :=
 (M.qeh s0 x1 ∧ ∀ r23, r23 = M.qc8 s0 x1 → bcase (!r23) (Q (-1)) ((M.qdi s0 x1 ∧ ∀ r28, r28 = M.qau s0 x1 → bcase (!r28.2) (Q (-1)) (Q r28.1.Op))))
end Go.V
namespace Go.V
open IntKind (wrap)
theorem qgK {α : Type} {l : List α} : ((l.length : Int) == 0) = l.isEmpty := by
 cases l with
 | nil => rfl
 | cons x l =>
  have : ¬ ((x :: l).length : Int) = 0 := by simp only [List.length_cons]; omega
  rw [beq_eq_false_iff_ne.2 this]; rfl
theorem qmh {p : List D.Ins} : ∀ {l : List D.Warp} {k n : Nat}, M.qda p k l = true → n < l.length → M.qgw p (k + n) (rd l (n : Int)) = true
 | [], k, n, h, hn => absurd hn (by simp)
 | x :: l, k, 0, h, hn => by
  simp only [M.qda, Bool.and_eq_true] at h
  exact h.1
 | x :: l, k, n + 1, h, hn => by
  simp only [M.qda, Bool.and_eq_true] at h
  have := qmh (n := n) h.2 (by simpa using hn)
  rw [show k + (n + 1) = k + 1 + n by omega]
  have e : rd (x :: l) ((n + 1 : Nat) : Int) = rd l (n : Int) := by
   have hn' : n < l.length := by simpa using hn
   rw [qdO hn, qdO hn']; rfl
  rw [e]; exact this
theorem qe2 {b : D.Block} {w : Int} (h : M.Has b w) : 0 ≤ w ∧ w < (b.Warps.length : Int) ∧ M.qaT b.Code = true ∧ M.qfo b.Code (rd b.Warps w) = true ∧ (rd b.Warps w).Number = w ∧ M.qdS b = true := by
 obtain ⟨hb, hh⟩ := h
 obtain ⟨h0, h1, hok⟩ := qnk hb.2.1.1 hh
 have hok' := hok
 simp only [M.qdS, Bool.and_eq_true] at hok
 obtain ⟨k, rfl⟩ := Int.eq_ofNat_of_zero_le h0
 have := qmh (n := k) hok.2.2.2.2.2 (by omega)
 rw [Nat.zero_add] at this
 simp only [M.qgw, Bool.and_eq_true, beq_iff_eq] at this
 exact ⟨h0, h1, hok.1, this.2, this.1, hok'⟩
theorem qhx {p : List D.Ins} {x : D.Warp} (h : M.qfo p x = true) (hx : x.Frames ≠ []) : x.Frames.length ≤ 24 ∧ 0 ≤ (M.qcL x.Frames).Pc ∧ (M.qcL x.Frames).Pc < (p.length : Int) := by
 simp only [M.qfo, M.qdJ, Bool.and_eq_true, Bool.or_eq_true] at h
 obtain ⟨h1, h2, h3, h4, h5⟩ := h
 have h5 := h5.resolve_left (by simpa using hx)
 have hpos : 0 < x.Frames.length := List.length_pos_iff.2 hx
 have hm : M.qcL x.Frames ∈ x.Frames := qjr (by omega) (by omega)
 have hf := List.all_eq_true.1 h4 _ hm
 simp only [M.qhL, M.qdY, M.isIn, Bool.and_eq_true, decide_eq_true_eq, bne_iff_ne] at h5 hf
 exact ⟨h5.1, hf.1.1, by omega⟩
theorem wp.qcb.math (b : D.Block) (w : Int) (h : M.qeg b w) : wp.qcb b w (fun r => r = M.qcb b w) := by
 obtain ⟨hh, hx⟩ := h
 obtain ⟨h0, h1, hp, hw, hn, hok⟩ := qe2 hh
 obtain ⟨k1, k2, k3⟩ := qhx hw hx
 have hpos : 0 < (rd b.Warps w).Frames.length := List.length_pos_iff.2 hx
 unfold wp.qcb
 rw [qdc (by omega)]
 exact ⟨⟨h0, h1⟩, ⟨by omega, by omega⟩, ⟨k2, k3⟩, rfl⟩
theorem wp.qau.math (b : D.Block) (w : Int) (h : M.qdi b w) : wp.qau b w (fun r => r = M.qau b w) := by
 obtain ⟨h0, h1, hp, hw, hn, hok⟩ := qe2 h
 unfold wp.qau
 rw [qgK]
 refine ⟨⟨h0, h1⟩, qa2 (fun e => ?_) fun e => ?_⟩
 ·simp [M.qau, e]
 ·have hx : (rd b.Warps w).Frames ≠ [] := by simpa using e
  obtain ⟨k1, k2, k3⟩ := qhx hw hx
  have hpos : 0 < (rd b.Warps w).Frames.length := List.length_pos_iff.2 hx
  rw [qdc (by omega)]
  refine ⟨⟨by omega, by omega⟩, ⟨k2, k3⟩, ?_⟩
  simp only [M.qau, e]; rfl
theorem wp.qcY.math (b : D.Block) (w : Int) (h : M.qgm b w) : wp.qcY b w (fun r => r = M.qcY b w) := by
 refine ⟨h, fun r hr => qa2 (fun e => ?_) fun e => ?_⟩
 ·have : M.qf5 b w = false := nt e hr
  simp [M.qcY, M.qjv, this]
 have hw : M.qf5 b w = true := nf e hr
 refine ⟨⟨h, hw⟩, fun r2 hr2 => ?_⟩
 subst hr2
 unfold M.qau
 by_cases e2 : (rd b.Warps w).Frames.isEmpty = true
 ·rw [if_pos e2]
  exact qaA rfl (by simp [M.qcY, M.qjv, e2])
 ·rw [if_neg e2]
  have e2 : (rd b.Warps w).Frames.isEmpty = false := by simpa using e2
  exact qax rfl (by simp [M.qcY, M.qjv, e2, hw])
end Go.V
namespace Go.V
open IntKind (wrap)
def wp.qag (xs0 : List D.Ins) (xs1 : List D.Ins) (Q : Bool → Prop) : Prop :=
 bcase ((xs0.length : Int) != (xs1.length : Int)) (Q false) (qd4 (σ := Int × Unit) (fun (p43 : Int × Unit) next25 => match p43 with | (i21, _) => bcase (decide (i21 < (xs0.length : Int))) (((0 ≤ i21 ∧ i21 < (xs0.length : Int)) ∧ ((0 ≤ i21 ∧ i21 < (xs1.length : Int)) ∧ bcase (!(((rd xs0 i21).Op == (rd xs1 i21).Op) && ((rd xs0 i21).A == (rd xs1 i21).A) && ((rd xs0 i21).B == (rd xs1 i21).B) && ((rd xs0 i21).C == (rd xs1 i21).C))) (Q false) (next25 ((wrap .i64 (i21 + 1)), ()))))) (Q true)) (0, ()))
def wp.qa3 (xs0 : List D.Warp) (xs1 : List D.Warp) (g2 : D.Warp → D.Warp → Bool) (D2 : D.Warp → D.Warp → Prop) (Q : Bool → Prop) : Prop :=
 bcase ((xs0.length : Int) != (xs1.length : Int)) (Q false) (qd4 (σ := Int × Unit) (fun (p77 : Int × Unit) next25 => match p77 with | (i21, _) => bcase (decide (i21 < (xs0.length : Int))) (((0 ≤ i21 ∧ i21 < (xs0.length : Int)) ∧ ((0 ≤ i21 ∧ i21 < (xs1.length : Int)) ∧ (D2 (rd xs0 i21) (rd xs1 i21) ∧ ∀ r67, r67 = g2 (rd xs0 i21) (rd xs1 i21) → bcase (!r67) (Q false) (next25 ((wrap .i64 (i21 + 1)), ())))))) (Q true)) (0, ()))
def wp.qac (xs0 : List D.Frame) (xs1 : List D.Frame) (Q : Bool → Prop) : Prop :=
 bcase ((xs0.length : Int) != (xs1.length : Int)) (Q false) (qd4 (σ := Int × Unit) (fun (p43 : Int × Unit) next25 => match p43 with | (i21, _) => bcase (decide (i21 < (xs0.length : Int))) (((0 ≤ i21 ∧ i21 < (xs0.length : Int)) ∧ ((0 ≤ i21 ∧ i21 < (xs1.length : Int)) ∧ bcase (!(((rd xs0 i21).Pc == (rd xs1 i21).Pc) && ((rd xs0 i21).Stop == (rd xs1 i21).Stop) && ((rd xs0 i21).Mask == (rd xs1 i21).Mask))) (Q false) (next25 ((wrap .i64 (i21 + 1)), ()))))) (Q true)) (0, ()))
def wp.qas (xs0 : List Int) (xs1 : List Int) (Q : Bool → Prop) : Prop :=
 bcase ((xs0.length : Int) != (xs1.length : Int)) (Q false) (qd4 (σ := Int × Unit) (fun (p43 : Int × Unit) next25 => match p43 with | (i21, _) => bcase (decide (i21 < (xs0.length : Int))) (((0 ≤ i21 ∧ i21 < (xs0.length : Int)) ∧ ((0 ≤ i21 ∧ i21 < (xs1.length : Int)) ∧ bcase ((rd xs0 i21) != (rd xs1 i21)) (Q false) (next25 ((wrap .i64 (i21 + 1)), ()))))) (Q true)) (0, ()))
def wp.qbw (s0 : D.Warp) (s1 : D.Warp) (Q : Bool → Prop) : Prop :=
 bcase (s0.Number == s1.Number) ((M.qcH s0.Frames s1.Frames ∧ ∀ r25, r25 = M.qac s0.Frames s1.Frames → bcase r25 ((M.qdu s0.Regs s1.Regs ∧ ∀ r30, r30 = M.qas s0.Regs s1.Regs → Q r30)) (Q false))) (Q false)
def wp.qbX (s0 : D.Block) (s1 : D.Block) (Q : Bool → Prop) : Prop :=
 (M.qd8 s0.Code s1.Code ∧ ∀ r25, r25 = M.qag s0.Code s1.Code → bcase r25 ((M.qb4 s0.Warps s1.Warps (fun z0_ z1_ => M.qbw z0_ z1_) (fun z0_ z1_ => M.qeA z0_ z1_) ∧ ∀ r30, r30 = M.qa3 s0.Warps s1.Warps (fun z0_ z1_ => M.qbw z0_ z1_) → bcase r30 ((M.qdu s0.Memory s1.Memory ∧ ∀ r35, r35 = M.qas s0.Memory s1.Memory → bcase r35 (bcase (s0.Waiting == s1.Waiting) (Q (s0.Phase == s1.Phase)) (Q false)) (Q false))) (Q false))) (Q false))
end Go.V
namespace Go.V
open IntKind (wrap)
theorem insB (a b : D.Ins) : ((a.Op == b.Op) && (a.A == b.A) && (a.B == b.B) && (a.C == b.C)) = (a == b) := by
 cases a; cases b; rw [Bool.eq_iff_iff]; simp [and_assoc]
theorem qo0 (a b : D.Frame) : ((a.Pc == b.Pc) && (a.Stop == b.Stop) && (a.Mask == b.Mask)) = (a == b) := by
 cases a; cases b; rw [Bool.eq_iff_iff]; simp [and_assoc]
theorem qiS {α : Type} [Inhabited α] [BEq α] [LawfulBEq α] {a b : List α} (ha : M.Long a) {Q : Bool → Prop} {B : (Int × Unit) → ((Int × Unit) → Prop) → Prop}
    (hb : a.length = b.length → ∀ (k : Nat) (next : (Int × Unit) → Prop), k < a.length → k < b.length → (rd a (k : Int) ≠ rd b (k : Int) → Q false) → (rd a (k : Int) = rd b (k : Int) → next (((k + 1 : Nat) : Int), ())) → B ((k : Int), ()) next)
    (he : ∀ (next : (Int × Unit) → Prop), a = b → B ((a.length : Int), ()) next) (hQ : a ≠ b → Q false) : bcase ((a.length : Int) != (b.length : Int)) (Q false) (qd4 B (0, ())) := by
 refine qa2 (fun e => hQ ?_) fun e => ?_
 ·rintro rfl; simp at e
 ·have hl : a.length = b.length := by simp at e; omega
  exact qny ha hl (hb hl) he hQ
theorem wp.qag.math (a b : List D.Ins) (h : M.qd8 a b) : wp.qag a b (fun r => r = M.qag a b) := by
 unfold wp.qag
 simp only [insB]
 refine qiS h (Q := fun r => r = M.qag a b) (fun hl k next hk hk' h1 h2 => ?_) (fun next e => qax (by simp) (by simp [M.qag, e])) fun hne => by simp [M.qag, hne]
 refine qaA (by simp; omega) ⟨by omega, by omega, qa2 (fun e => h1 (by simpa using e)) fun e => ?_⟩
 rw [up64 hk h]; exact h2 (by simpa using e)
theorem wp.qac.math (a b : List D.Frame) (h : M.qcH a b) : wp.qac a b (fun r => r = M.qac a b) := by
 unfold wp.qac
 simp only [qo0]
 refine qiS h (Q := fun r => r = M.qac a b) (fun hl k next hk hk' h1 h2 => ?_) (fun next e => qax (by simp) (by simp [M.qac, e])) fun hne => by simp [M.qac, hne]
 refine qaA (by simp; omega) ⟨by omega, by omega, qa2 (fun e => h1 (by simpa using e)) fun e => ?_⟩
 rw [up64 hk h]; exact h2 (by simpa using e)
theorem wp.qas.math (a b : List Int) (h : M.qdu a b) : wp.qas a b (fun r => r = M.qas a b) := by
 unfold wp.qas
 refine qiS h (Q := fun r => r = M.qas a b) (fun hl k next hk hk' h1 h2 => ?_) (fun next e => qax (by simp) (by simp [M.qas, e])) fun hne => by simp [M.qas, hne]
 refine qaA (by simp; omega) ⟨by omega, by omega, qa2 (fun e => h1 (by simpa using e)) fun e => ?_⟩
 rw [up64 hk h]; exact h2 (by simpa using e)
theorem qkZ {a b : D.Warp} (h : a.Number ≠ b.Number ∨ a.Frames ≠ b.Frames ∨ a.Regs ≠ b.Regs) : (a == b) = false := by
 refine beq_eq_false_iff_ne.2 ?_
 rintro rfl
 simp at h
theorem qnP {a b : D.Warp} (h1 : a.Number = b.Number) (h2 : a.Frames = b.Frames) (h3 : a.Regs = b.Regs) : (a == b) = true := by
 cases a; cases b; simp at *; exact ⟨h1, h2, h3⟩
theorem qhT {a b : D.Block} (h : a.Code ≠ b.Code ∨ a.Warps ≠ b.Warps ∨ a.Memory ≠ b.Memory ∨ a.Waiting ≠ b.Waiting ∨ a.Phase ≠ b.Phase) : (a == b) = false := by
 refine beq_eq_false_iff_ne.2 ?_
 rintro rfl
 simp at h
theorem qn1 {a b : D.Block} (h1 : a.Code = b.Code) (h2 : a.Warps = b.Warps) (h3 : a.Memory = b.Memory) (h4 : a.Waiting = b.Waiting) (h5 : a.Phase = b.Phase) : (a == b) = true := by
 cases a; cases b; simp at *; exact ⟨h1, h2, h3, h4, h5⟩
theorem qn2 (g : D.Warp → D.Warp → Bool) (a b : List D.Warp) (k : Nat) (hk : k < a.length) (hk' : k < b.length) : M.allTwo g (a.drop k) (b.drop k) = (g (rd a (k : Int)) (rd b (k : Int)) && M.allTwo g (a.drop (k + 1)) (b.drop (k + 1))) := by
 rw [List.drop_eq_getElem_cons hk, List.drop_eq_getElem_cons hk', qdO hk, qdO hk']; rfl
theorem qmq (g : D.Warp → D.Warp → Bool) : ∀ (a b : List D.Warp), a.length ≠ b.length → M.allTwo g a b = false
 | [], [], h => by simp at h
 | [], y :: b, h => rfl
 | x :: a, [], h => rfl
 | x :: a, y :: b, h => by
  simp only [M.allTwo, qmq g a b (by simpa using h), Bool.and_false]
theorem wp.qa3.math (a b : List D.Warp) (g : D.Warp → D.Warp → Bool) (D : D.Warp → D.Warp → Prop) (h : M.qb4 a b g D) :
    wp.qa3 a b g D (fun r => r = M.qa3 a b g) := by
 obtain ⟨h1, h2⟩ := h
 refine qa2 (fun e => ?_) fun e => ?_
 ·exact (qmq g a b (by simp at e; omega)).symm
 have hl : a.length = b.length := by simp at e; omega
 refine qd2 a.length (fun k => ((k : Int), ())) (fun k => M.allTwo g a b = M.allTwo g (a.drop k) (b.drop k)) rfl rfl (fun k hk hF next hn => ?_) fun hF next => ?_
 ·rw [qn2 g a b k hk (by omega)] at hF
  refine qaA (by simp; omega) ⟨by omega, by omega, h2 _ (qgy hk) _, fun r hr => qa2 (fun e => ?_) fun e => ?_⟩
  ·show false = M.allTwo g a b
   rw [hF, nt e hr]; rfl
  ·rw [up64 hk h1]
   exact hn (by rw [hF, nf e hr]; rfl)
 ·refine qax (by simp) ?_
  show true = M.allTwo g a b
  rw [hF, List.drop_length, hl, List.drop_length]; rfl
theorem wp.qbw.math (a b : D.Warp) (h : M.qeA a b) : wp.qbw a b (fun r => r = M.qbw a b) := by
 obtain ⟨h1, h2⟩ := h
 refine qa2 (fun e => ⟨h1, fun r hr => qa2 (fun e2 => ⟨h2, fun r3 hr3 => ?_⟩) fun e2 => ?_⟩) fun e => ?_
 ·have e : a.Number = b.Number := by simpa using e
  have e2 : a.Frames = b.Frames := by have := hr.symm.trans e2; simpa [M.qac] using this
  by_cases e3 : a.Regs = b.Regs
  ·rw [hr3, show M.qbw a b = true from qnP e e2 e3]; simp [M.qas, e3]
  ·rw [hr3, show M.qbw a b = false from qkZ (.inr (.inr e3))]; simp [M.qas, e3]
 ·have := hr.symm.trans e2
  exact (qkZ (.inr (.inl (by simpa [M.qac] using this)))).symm
 ·exact (qkZ (.inl (by simpa using e))).symm
theorem qnl : ∀ (a b : List D.Warp), M.allTwo (fun x y => M.qbw x y) a b = (a == b)
 | [], [] => rfl
 | [], y :: b => rfl
 | x :: a, [] => rfl
 | x :: a, y :: b => by
  rw [M.allTwo, qnl a b]
  show ((x == y) && (a == b)) = _
  rw [Bool.eq_iff_iff]; simp
theorem wp.qbX.math (a b : D.Block) (h : M.qfd a b) : wp.qbX a b (fun r => r = M.qbX a b) := by
 obtain ⟨h1, ⟨h2, hW⟩, h3⟩ := h
 refine ⟨h1, fun r hr => qa2 (fun e => ⟨⟨h2, fun x hx y => hW x hx⟩, fun r2 hr2 => qa2 (fun e2 => ⟨h3, fun r3 hr3 => qa2 (fun e3 => qa2 (fun e4 => ?_) fun e4 => ?_) fun e3 => ?_⟩) fun e2 => ?_⟩) fun e => ?_⟩
 all_goals try simp only [M.qa3, qnl] at hr2
 all_goals try simp only [M.qag] at hr
 all_goals try simp only [M.qas] at hr3
 ·have k1 : a.Code = b.Code := by have := hr.symm.trans e; simpa using this
  have k2 : a.Warps = b.Warps := by have := hr2.symm.trans e2; simpa using this
  have k3 : a.Memory = b.Memory := by have := hr3.symm.trans e3; simpa using this
  have k4 : a.Waiting = b.Waiting := by simpa using e4
  by_cases k5 : a.Phase = b.Phase
  ·rw [show M.qbX a b = true from qn1 k1 k2 k3 k4 k5]; simp [k5]
  ·rw [show M.qbX a b = false from qhT (.inr (.inr (.inr (.inr k5))))]; simp [k5]
 ·exact (qhT (.inr (.inr (.inr (.inl (by simpa using e4)))))).symm
 ·exact (qhT (.inr (.inr (.inl (by have := hr3.symm.trans e3; simpa using this))))).symm
 ·exact (qhT (.inr (.inl (by have := hr2.symm.trans e2; simpa using this)))).symm
 ·exact (qhT (.inl (by have := hr.symm.trans e; simpa using this))).symm
end Go.V
namespace Go.V
open IntKind (wrap)
def wp.qca (xs0 : List D.Ins) (x1 : Int) (Q : (D.Warp × Bool) → Prop) : Prop :=
 (M.qdT xs0 ∧ ∀ r23, r23 = M.qb2 xs0 → bcase (!r23) (Q ((⟨0, ([] : List D.Frame), ([] : List Int)⟩ : D.Warp), false)) ((∀ r30, r30 = M.qaM x1 0 2 → bcase (!r30) (Q ((⟨0, ([] : List D.Frame), ([] : List Int)⟩ : D.Warp), false)) (((0 ≤ (32 : Int) ∧ (32 : Int) ≤ 17179869184) ∧ bcase (decide ((xs0.length : Int) > 0)) (Q ((⟨x1, ([(⟨0, (xs0.length : Int), 255⟩ : D.Frame)] : List D.Frame), (List.replicate ((32 : Int).toNat) (default : Int))⟩ : D.Warp), true)) (Q ((⟨x1, ([] : List D.Frame), (List.replicate ((32 : Int).toNat) (default : Int))⟩ : D.Warp), true)))))))
def wp.qbg (xs0 : List D.Ins) (x1 : Int) (Q : (D.Block × Bool) → Prop) : Prop :=
 (M.qdT xs0 ∧ ∀ r23, r23 = M.qb2 xs0 → bcase (!r23) (Q ((⟨([] : List D.Ins), ([] : List D.Warp), ([] : List Int), 0, 0⟩ : D.Block), false)) ((∀ r30, r30 = M.qaM x1 1 3 → bcase (!r30) (Q ((⟨([] : List D.Ins), ([] : List D.Warp), ([] : List Int), 0, 0⟩ : D.Block), false)) (qf3 (σ := (List D.Ins) × (List D.Warp) × (List Int) × Int × Int × Unit) (fun J49 => ((((((([] : List D.Ins).length + xs0.length ≤ 17179869184) ∧ ((((0 ≤ (32 : Int) ∧ (32 : Int) ≤ 17179869184) ∧ J49 ((([] : List D.Ins) ++ xs0), [], (List.replicate ((32 : Int).toNat) (default : Int)), 0, 0, ()))) ∧ (((0 ≤ (32 : Int) ∧ (32 : Int) ≤ 17179869184) ∧ J49 ((([] : List D.Ins) ++ xs0), [], (List.replicate ((32 : Int).toNat) (default : Int)), 0, 0, ()))) ∧ True))) ∧ (((0 ≤ (32 : Int) ∧ (32 : Int) ≤ 17179869184) ∧ ((((([] : List D.Ins).length + xs0.length ≤ 17179869184) ∧ J49 ((([] : List D.Ins) ++ xs0), [], (List.replicate ((32 : Int).toNat) (default : Int)), 0, 0, ()))) ∧ (((([] : List D.Ins).length + xs0.length ≤ 17179869184) ∧ J49 ((([] : List D.Ins) ++ xs0), [], (List.replicate ((32 : Int).toNat) (default : Int)), 0, 0, ()))) ∧ True))) ∧ (((((([] : List D.Ins).length + xs0.length ≤ 17179869184) ∧ ((0 ≤ (32 : Int) ∧ (32 : Int) ≤ 17179869184) ∧ J49 ((([] : List D.Ins) ++ xs0), [], (List.replicate ((32 : Int).toNat) (default : Int)), 0, 0, ())))) ∧ (((0 ≤ (32 : Int) ∧ (32 : Int) ≤ 17179869184) ∧ ((([] : List D.Ins).length + xs0.length ≤ 17179869184) ∧ J49 ((([] : List D.Ins) ++ xs0), [], (List.replicate ((32 : Int).toNat) (default : Int)), 0, 0, ())))) ∧ True)) ∧ True)) ∧ (((0 ≤ (32 : Int) ∧ (32 : Int) ≤ 17179869184) ∧ ((((((([] : List D.Ins).length + xs0.length ≤ 17179869184) ∧ J49 ((([] : List D.Ins) ++ xs0), [], (List.replicate ((32 : Int).toNat) (default : Int)), 0, 0, ()))) ∧ (((([] : List D.Ins).length + xs0.length ≤ 17179869184) ∧ J49 ((([] : List D.Ins) ++ xs0), [], (List.replicate ((32 : Int).toNat) (default : Int)), 0, 0, ()))) ∧ True)) ∧ (((([] : List D.Ins).length + xs0.length ≤ 17179869184) ∧ J49 ((([] : List D.Ins) ++ xs0), [], (List.replicate ((32 : Int).toNat) (default : Int)), 0, 0, ()))) ∧ True))) ∧ (((((((([] : List D.Ins).length + xs0.length ≤ 17179869184) ∧ ((0 ≤ (32 : Int) ∧ (32 : Int) ≤ 17179869184) ∧ J49 ((([] : List D.Ins) ++ xs0), [], (List.replicate ((32 : Int).toNat) (default : Int)), 0, 0, ())))) ∧ (((0 ≤ (32 : Int) ∧ (32 : Int) ≤ 17179869184) ∧ ((([] : List D.Ins).length + xs0.length ≤ 17179869184) ∧ J49 ((([] : List D.Ins) ++ xs0), [], (List.replicate ((32 : Int).toNat) (default : Int)), 0, 0, ())))) ∧ True)) ∧ (((0 ≤ (32 : Int) ∧ (32 : Int) ≤ 17179869184) ∧ ((([] : List D.Ins).length + xs0.length ≤ 17179869184) ∧ J49 ((([] : List D.Ins) ++ xs0), [], (List.replicate ((32 : Int).toNat) (default : Int)), 0, 0, ())))) ∧ True)) ∧ True)) (fun (p333 : (List D.Ins) × (List D.Warp) × (List Int) × Int × Int × Unit) => match p333 with | (xs37, xs41, xs44, i47, i48, _) => qd4 (σ := Int × (List D.Warp) × Int × Int × Unit) (fun (p329 : Int × (List D.Warp) × Int × Int × Unit) next293 => match p329 with | (i283, xs285, i288, i289, _) => bcase (decide (i283 < x1)) ((M.qfR xs0 i283 ∧ ∀ r295, r295 = M.qca xs0 i283 → ((xs285.length + ([r295.1] : List D.Warp).length ≤ 17179869184) ∧ next293 ((wrap .i64 (i283 + 1)), (xs285 ++ ([r295.1] : List D.Warp)), i288, i289, ())))) (Q ((⟨xs37, xs285, xs44, i288, i289⟩ : D.Block), true))) (0, xs41, i47, i48, ()))))))
def wp.qak (xs0 : List D.Ins) (Q : (List D.Ins) → Prop) : Prop :=
 (∀ b21 : Bool, (b21 = true → xs0 = []) → bcase b21 (Q ([] : List D.Ins)) (((([] : List D.Ins).length + xs0.length ≤ 17179869184) ∧ Q (([] : List D.Ins) ++ xs0))))
def wp.qbQ (s0 : D.Warp) (Q : D.Warp → Prop) : Prop :=
 ((((((([] : List D.Frame).length + s0.Frames.length ≤ 17179869184) ∧ ((([] : List Int).length + s0.Regs.length ≤ 17179869184) ∧ Q (⟨s0.Number, (([] : List D.Frame) ++ s0.Frames), (([] : List Int) ++ s0.Regs)⟩ : D.Warp)))) ∧ (((([] : List D.Frame).length + s0.Frames.length ≤ 17179869184) ∧ ((([] : List Int).length + s0.Regs.length ≤ 17179869184) ∧ Q (⟨s0.Number, (([] : List D.Frame) ++ s0.Frames), (([] : List Int) ++ s0.Regs)⟩ : D.Warp)))) ∧ True)) ∧ (((([] : List D.Frame).length + s0.Frames.length ≤ 17179869184) ∧ ((([] : List Int).length + s0.Regs.length ≤ 17179869184) ∧ Q (⟨s0.Number, (([] : List D.Frame) ++ s0.Frames), (([] : List Int) ++ s0.Regs)⟩ : D.Warp)))) ∧ True)
def wp.qd3 (s0 : D.Block) (Q : D.Block → Prop) : Prop :=
 qf3 (σ := (List D.Ins) × (List D.Warp) × (List Int) × Int × Int × Unit) (fun J37 => ((((((([] : List D.Ins).length + s0.Code.length ≤ 17179869184) ∧ ((((((([] : List Int).length + s0.Memory.length ≤ 17179869184) ∧ J37 ((([] : List D.Ins) ++ s0.Code), [], (([] : List Int) ++ s0.Memory), s0.Waiting, s0.Phase, ()))) ∧ (((([] : List Int).length + s0.Memory.length ≤ 17179869184) ∧ J37 ((([] : List D.Ins) ++ s0.Code), [], (([] : List Int) ++ s0.Memory), s0.Waiting, s0.Phase, ()))) ∧ True)) ∧ (((([] : List Int).length + s0.Memory.length ≤ 17179869184) ∧ J37 ((([] : List D.Ins) ++ s0.Code), [], (([] : List Int) ++ s0.Memory), s0.Waiting, s0.Phase, ()))) ∧ True))) ∧ (((((([] : List D.Ins).length + s0.Code.length ≤ 17179869184) ∧ ((((([] : List Int).length + s0.Memory.length ≤ 17179869184) ∧ J37 ((([] : List D.Ins) ++ s0.Code), [], (([] : List Int) ++ s0.Memory), s0.Waiting, s0.Phase, ()))) ∧ (((([] : List Int).length + s0.Memory.length ≤ 17179869184) ∧ J37 ((([] : List D.Ins) ++ s0.Code), [], (([] : List Int) ++ s0.Memory), s0.Waiting, s0.Phase, ()))) ∧ True))) ∧ (((([] : List D.Ins).length + s0.Code.length ≤ 17179869184) ∧ ((([] : List Int).length + s0.Memory.length ≤ 17179869184) ∧ J37 ((([] : List D.Ins) ++ s0.Code), [], (([] : List Int) ++ s0.Memory), s0.Waiting, s0.Phase, ())))) ∧ True)) ∧ (((((([] : List D.Ins).length + s0.Code.length ≤ 17179869184) ∧ ((([] : List Int).length + s0.Memory.length ≤ 17179869184) ∧ J37 ((([] : List D.Ins) ++ s0.Code), [], (([] : List Int) ++ s0.Memory), s0.Waiting, s0.Phase, ())))) ∧ (((([] : List D.Ins).length + s0.Code.length ≤ 17179869184) ∧ ((([] : List Int).length + s0.Memory.length ≤ 17179869184) ∧ J37 ((([] : List D.Ins) ++ s0.Code), [], (([] : List Int) ++ s0.Memory), s0.Waiting, s0.Phase, ())))) ∧ True)) ∧ True)) ∧ (((((((([] : List D.Ins).length + s0.Code.length ≤ 17179869184) ∧ ((((([] : List Int).length + s0.Memory.length ≤ 17179869184) ∧ J37 ((([] : List D.Ins) ++ s0.Code), [], (([] : List Int) ++ s0.Memory), s0.Waiting, s0.Phase, ()))) ∧ (((([] : List Int).length + s0.Memory.length ≤ 17179869184) ∧ J37 ((([] : List D.Ins) ++ s0.Code), [], (([] : List Int) ++ s0.Memory), s0.Waiting, s0.Phase, ()))) ∧ True))) ∧ (((([] : List D.Ins).length + s0.Code.length ≤ 17179869184) ∧ ((([] : List Int).length + s0.Memory.length ≤ 17179869184) ∧ J37 ((([] : List D.Ins) ++ s0.Code), [], (([] : List Int) ++ s0.Memory), s0.Waiting, s0.Phase, ())))) ∧ True)) ∧ (((([] : List D.Ins).length + s0.Code.length ≤ 17179869184) ∧ ((([] : List Int).length + s0.Memory.length ≤ 17179869184) ∧ J37 ((([] : List D.Ins) ++ s0.Code), [], (([] : List Int) ++ s0.Memory), s0.Waiting, s0.Phase, ())))) ∧ True)) ∧ (((((((([] : List D.Ins).length + s0.Code.length ≤ 17179869184) ∧ ((([] : List Int).length + s0.Memory.length ≤ 17179869184) ∧ J37 ((([] : List D.Ins) ++ s0.Code), [], (([] : List Int) ++ s0.Memory), s0.Waiting, s0.Phase, ())))) ∧ (((([] : List D.Ins).length + s0.Code.length ≤ 17179869184) ∧ ((([] : List Int).length + s0.Memory.length ≤ 17179869184) ∧ J37 ((([] : List D.Ins) ++ s0.Code), [], (([] : List Int) ++ s0.Memory), s0.Waiting, s0.Phase, ())))) ∧ True)) ∧ (((([] : List D.Ins).length + s0.Code.length ≤ 17179869184) ∧ ((([] : List Int).length + s0.Memory.length ≤ 17179869184) ∧ J37 ((([] : List D.Ins) ++ s0.Code), [], (([] : List Int) ++ s0.Memory), s0.Waiting, s0.Phase, ())))) ∧ True)) ∧ True)) (fun (p543 : (List D.Ins) × (List D.Warp) × (List Int) × Int × Int × Unit) => match p543 with | (xs25, xs29, xs32, i35, i36, _) => qd4 (σ := Int × (List D.Warp) × Int × Int × Unit) (fun (p539 : Int × (List D.Warp) × Int × Int × Unit) next452 => match p539 with | (i442, xs444, i447, i448, _) => bcase (decide (i442 < (s0.Warps.length : Int))) (((0 ≤ i442 ∧ i442 < (s0.Warps.length : Int)) ∧ (M.qef (rd s0.Warps i442) ∧ ∀ r509, r509 = M.qbQ (rd s0.Warps i442) → ((xs444.length + ([r509] : List D.Warp).length ≤ 17179869184) ∧ next452 ((wrap .i64 (i442 + 1)), (xs444 ++ ([r509] : List D.Warp)), i447, i448, ()))))) (Q (⟨xs25, xs444, xs32, i447, i448⟩ : D.Block))) (0, xs29, i35, i36, ()))
def wp.qad (xs0 : List D.Frame) (Q : (List D.Frame) → Prop) : Prop :=
 (∀ b21 : Bool, (b21 = true → xs0 = []) → bcase b21 (Q ([] : List D.Frame)) (((([] : List D.Frame).length + xs0.length ≤ 17179869184) ∧ Q (([] : List D.Frame) ++ xs0))))
def wp.qcr (s0 : D.Warp) (Q : D.Warp → Prop) : Prop :=
 (((((M.qaX s0.Frames ∧ ∀ r25, r25 = M.qad s0.Frames → (M.qaL s0.Regs ∧ ∀ r32, r32 = M.qaj s0.Regs → Q (⟨s0.Number, r25, r32⟩ : D.Warp)))) ∧ ((M.qaX s0.Frames ∧ ∀ r45, r45 = M.qad s0.Frames → (M.qaL s0.Regs ∧ ∀ r52, r52 = M.qaj s0.Regs → Q (⟨s0.Number, r45, r52⟩ : D.Warp)))) ∧ True)) ∧ ((M.qaX s0.Frames ∧ ∀ r65, r65 = M.qad s0.Frames → (M.qaL s0.Regs ∧ ∀ r72, r72 = M.qaj s0.Regs → Q (⟨s0.Number, r65, r72⟩ : D.Warp)))) ∧ True)
def wp.qbm (s0 : D.Block) (Q : D.Block → Prop) : Prop :=
 qf3 (σ := (List D.Ins) × (List D.Warp) × (List Int) × Int × Int × Unit) (fun J37 => (((M.qbB s0.Code ∧ ∀ r41, r41 = M.qak s0.Code → (((M.qaL s0.Memory ∧ ∀ r48, r48 = M.qaj s0.Memory → J37 (r41, [], r48, s0.Waiting, s0.Phase, ()))) ∧ ((M.qaL s0.Memory ∧ ∀ r61, r61 = M.qaj s0.Memory → J37 (r41, [], r61, s0.Waiting, s0.Phase, ()))) ∧ True))) ∧ ((M.qbB s0.Code ∧ ∀ r72, r72 = M.qak s0.Code → (M.qaL s0.Memory ∧ ∀ r79, r79 = M.qaj s0.Memory → J37 (r72, [], r79, s0.Waiting, s0.Phase, ())))) ∧ True)) (fun (p328 : (List D.Ins) × (List D.Warp) × (List Int) × Int × Int × Unit) => match p328 with | (xs25, xs29, xs32, i35, i36, _) => qd4 (σ := Int × (List D.Warp) × Int × Int × Unit) (fun (p324 : Int × (List D.Warp) × Int × Int × Unit) next249 => match p324 with | (i239, xs241, i244, i245, _) => bcase (decide (i239 < (s0.Warps.length : Int))) (((0 ≤ i239 ∧ i239 < (s0.Warps.length : Int)) ∧ (M.qfw (rd s0.Warps i239) ∧ ∀ r294, r294 = M.qcr (rd s0.Warps i239) → ((xs241.length + ([r294] : List D.Warp).length ≤ 17179869184) ∧ next249 ((wrap .i64 (i239 + 1)), (xs241 ++ ([r294] : List D.Warp)), i244, i245, ()))))) (Q (⟨xs25, xs241, xs32, i244, i245⟩ : D.Block))) (0, xs29, i35, i36, ()))
end Go.V
namespace Go.V
open IntKind (wrap)
theorem wp.qak.math (l : List D.Ins) (h : M.qbB l) : wp.qak l (fun r => r = M.qak l) := by
 intro b hb
 refine qa2 (fun e => ?_) fun e => ⟨by simp only [List.length_nil, Nat.zero_add]; exact h, ?_⟩
 ·rw [hb e]; rfl
 ·simp [M.qak]
theorem wp.qad.math (l : List D.Frame) (h : M.qaX l) : wp.qad l (fun r => r = M.qad l) := by
 intro b hb
 refine qa2 (fun e => ?_) fun e => ⟨by simp only [List.length_nil, Nat.zero_add]; exact h, ?_⟩
 ·rw [hb e]; rfl
 ·simp [M.qad]
theorem qlR (p : List D.Ins) (n : Int) : bcase (decide ((p.length : Int) > 0)) ((⟨n, [⟨0, (p.length : Int), 255⟩], List.replicate ((32 : Int).toNat) (default : Int)⟩ : D.Warp) = M.qdl p n) ((⟨n, [], List.replicate ((32 : Int).toNat) (default : Int)⟩ : D.Warp) = M.qdl p n) := by
 refine qa2 (fun e => ?_) fun e => ?_
 ·have e3 : p.length > 0 := by simp only [decide_eq_true_eq] at e; omega
  unfold M.qdl; rw [if_pos e3]; rfl
 ·have e3 : ¬ p.length > 0 := by simp only [decide_eq_false_iff_not] at e; omega
  unfold M.qdl; rw [if_neg e3]; rfl
theorem wp.qca.math (p : List D.Ins) (n : Int) (h : M.qfR p n) : wp.qca p n (fun r => r = M.qca p n) := by
 refine ⟨h, fun r hr => qa2 (fun e => ?_) fun e r2 hr2 => qa2 (fun e2 => ?_) fun e2 => ⟨by omega, ?_⟩⟩
 all_goals simp only [M.qb2, M.qaM] at *
 ·simp [M.qca, nt e hr, M.qmx]
 ·simp [M.qca, nt e2 hr2, M.qmx]
 ·have hM : M.qca p n = (M.qdl p n, true) := by simp [M.qca, nf e hr, nf e2 hr2]
  rw [hM]
  have := qgl.1 (qlR p n)
  exact qa2 (fun e3 => by rw [this.1 e3]) fun e3 => by rw [this.2 e3]
theorem qgu {σ : Type} {A : (σ → Prop) → Prop} {B : σ → Prop} (v : σ) (h : B v) (hA : ∀ J : σ → Prop, J v → A J) : qf3 A B := hA B h
theorem qjn {α : Type} (g : Nat → α) (k : Nat) : (List.range (k + 1)).map g = (List.range k).map g ++ [g k] := by simp [List.range_succ]
theorem qjw {p : List D.Ins} (h : M.qaT p = true) : p.length ≤ 32 := by
 simp only [M.qaT, Bool.and_eq_true, decide_eq_true_eq] at h
 exact h.1
theorem wp.qbg.math (p : List D.Ins) (c : Int) (h : M.qfA p c) : wp.qbg p c (fun r => r = M.qbg p c) := by
 refine ⟨h, fun r hr => qa2 (fun e => ?_) fun e r2 hr2 => qa2 (fun e2 => ?_) fun e2 => ?_⟩
 all_goals simp only [M.qb2, M.qaM] at *
 ·simp [M.qbg, M.qeP, nt e hr, M.ql6]
 ·simp [M.qbg, M.qeP, nt e2 hr2, M.ql6]
 have h1 := nf e hr
 have h2 := nf e2 hr2
 have h3 := qjw h1
 have h4 : 1 ≤ c ∧ c ≤ 3 := by simpa [M.isIn] using h2
 have hM : M.qbg p c = (M.qee p c, true) := by simp [M.qbg, M.qeP, h1, h2]
 rw [hM]
 have hm : (0 ≤ (32 : Int) ∧ (32 : Int) ≤ 17179869184) := by omega
 have hl : ([] : List D.Ins).length + p.length ≤ 17179869184 := by simp; omega
 refine qgu (p, [], List.replicate 32 0, 0, 0, ()) ?_ fun J hJ => ?_
 ·refine qd2 c.toNat (fun k => ((k : Int), (List.range k).map (fun j : Nat => M.qdl p (j : Int)), 0, 0, ())) (fun _ => True) rfl trivial (fun k hk _ next hn => ?_) fun _ next => ?_
  ·refine qaA (by simp; omega) ⟨h, fun r hr => ⟨by simp; omega, ?_⟩⟩
   have hin : M.isIn (k : Int) 0 2 = true := by simp [M.isIn]; omega
   have : r = (M.qdl p (k : Int), true) := by rw [hr]; simp [M.qca, h1, hin]
   rw [up64 hk (by omega), this]
   have := hn trivial
   rwa [qjn] at this
  ·exact qax (by simp; omega) rfl
 ·have hJ' : J ((([] : List D.Ins) ++ p), [], (List.replicate ((32 : Int).toNat) (default : Int)), 0, 0, ()) := hJ
  simp only [and_true]
  simp only [hl, hm, hJ', and_self]
theorem wp.qcr.math (x : D.Warp) (h : M.qfw x) : wp.qcr x (fun r => r = M.qcr x) := by
 obtain ⟨h1, h2⟩ := h
 have q1 : M.qaX x.Frames := h1
 have q2 : M.qaL x.Regs := h2
 unfold wp.qcr
 simp only [M.qad, M.qaj, forall_eq, q1, q2, true_and, and_true, M.qcr, and_self]
theorem wp.qbm.math (b : D.Block) (h : M.qdW b) : wp.qbm b (fun r => r = M.qbm b) := by
 obtain ⟨h1, ⟨h2, hW⟩, h3⟩ := h
 have q1 : M.qbB b.Code := h1
 have q2 : M.qaL b.Memory := h3
 unfold wp.qbm
 simp only [M.qak, M.qaj, forall_eq]
 refine qgu (b.Code, [], b.Memory, b.Waiting, b.Phase, ()) ?_ fun J hJ => ⟨⟨q1, ⟨q2, hJ⟩, ⟨q2, hJ⟩, trivial⟩, ⟨q1, q2, hJ⟩, trivial⟩
 refine qd2 b.Warps.length (fun k => ((k : Int), b.Warps.take k, b.Waiting, b.Phase, ())) (fun _ => True) rfl trivial (fun k hk _ next hn => ?_) fun _ next => ?_
 ·refine qaA (by simp; omega) ⟨by omega, hW _ (qgy hk), by simp; omega, ?_⟩
  rw [up64 hk (by omega)]
  have := hn trivial
  rw [List.take_add_one, List.getElem?_eq_getElem hk, Option.toList_some] at this
  rw [qdO hk]; exact this
 ·refine qax (by simp) ?_
  rw [List.take_length]; rfl
theorem qo5 {α : Type} [Inhabited α] {l m : List α} {y : α} {k : Nat} (h : l.length = k) : rd (l ++ y :: m) (k : Int) = y := by
 subst h
 rw [qdO (by simp)]; simp
theorem wp.qbQ.math (x : D.Warp) (h : M.qef x) : wp.qbQ x (fun r => r = M.qbQ x) := by
 obtain ⟨h1, h2⟩ := h
 unfold wp.qbQ
 simp only [List.nil_append, List.length_nil, Nat.zero_add, h1, h2, true_and, and_true, and_self, M.qbQ]
theorem wp.qd3.math (b : D.Block) (h : M.qfY b) : wp.qd3 b (fun r => r = M.qd3 b) := by
 obtain ⟨h1, ⟨h2, hW⟩, h3⟩ := h
 unfold wp.qd3
 simp only [List.nil_append, List.length_nil, Nat.zero_add]
 refine qgu (b.Code, [], b.Memory, b.Waiting, b.Phase, ()) ?_ fun J hJ => by simp only [h1, h3, hJ, true_and, and_true, and_self]
 refine qd2 b.Warps.length (fun k => ((k : Int), b.Warps.take k, b.Waiting, b.Phase, ())) (fun _ => True) rfl trivial (fun k hk _ next hn => ?_) fun _ next => ?_
 ·refine qaA (by simp; omega) ⟨by omega, hW _ (qgy hk), fun r hr => ⟨by simp; omega, ?_⟩⟩
  rw [up64 hk (by omega), hr]
  have := hn trivial
  rw [List.take_add_one, List.getElem?_eq_getElem hk, Option.toList_some] at this
  rw [qdO hk]; exact this
 ·refine qax (by simp) ?_
  rw [List.take_length]; rfl
theorem qn4 {b : D.Block} (h : M.BFit b) : M.qi9 b := by
 obtain ⟨h1, ⟨h2, hW⟩, h3⟩ := h
 unfold M.qi9 M.qmG M.qmC M.Long
 exact ⟨by omega, ⟨by omega, fun x hx => by have := hW x hx; unfold M.WFit at this; omega⟩, by omega⟩
theorem qkS {b : D.Block} (h : M.qmt b) : M.BFit b := by
 obtain ⟨h1, ⟨h2, hW⟩, h3⟩ := h
 exact ⟨by omega, ⟨by omega, fun x hx => by have := hW x hx; unfold M.qlu at this; unfold M.WFit; omega⟩, by omega⟩
end Go.V
namespace Go.V
open IntKind (wrap)
def wp.qbt (s0 : D.Warp) (Q : Int → Prop) : Prop :=
 bcase ((s0.Frames.length : Int) == 0) (Q 0) (((0 ≤ (wrap .i64 ((s0.Frames.length : Int) - 1)) ∧ (wrap .i64 ((s0.Frames.length : Int) - 1)) < (s0.Frames.length : Int)) ∧ Q ((rd s0.Frames (wrap .i64 ((s0.Frames.length : Int) - 1))).Mask)))
def wp.qaK (s0 : D.Warp) (x1 : Int) (Q : Int → Prop) : Prop :=
 (∀ r23, r23 = M.qaW x1 → bcase (!r23) (Q 0) (bcase ((s0.Regs.length : Int) != 32) (Q 0) (qd4 (σ := Int × Int × Unit) (fun (p63 : Int × Int × Unit) next33 => match p63 with | (i28, i29, _) => bcase (decide (i29 < 8)) ((M.qdP s0 ∧ ∀ r35, r35 = M.qbt s0 → (∀ r40, r40 = M.qby r35 i29 → bcase r40 (((0 ≤ (wrap .i64 ((wrap .i64 (i29 * 4)) + x1)) ∧ (wrap .i64 ((wrap .i64 (i29 * 4)) + x1)) < (s0.Regs.length : Int)) ∧ bcase ((rd s0.Regs (wrap .i64 ((wrap .i64 (i29 * 4)) + x1))) == 0) (((0 ≤ i29) ∧ next33 ((qgs .i64 i28 (wrap .i64 (1 * 2 ^ (min (i29.toNat) (IntKind.bits .i64))))), (wrap .i64 (i29 + 1)), ()))) (next33 (i28, (wrap .i64 (i29 + 1)), ())))) (next33 (i28, (wrap .i64 (i29 + 1)), ()))))) (Q i28)) (0, 0, ()))))
def wp.qb9 (xs0 : List D.Ins) (s1 : D.Warp) (Q : Bool → Prop) : Prop :=
 ((0 ≤ (wrap .i64 ((s1.Frames.length : Int) - 1)) ∧ (wrap .i64 ((s1.Frames.length : Int) - 1)) < (s1.Frames.length : Int)) ∧ ((0 ≤ (rd s1.Frames (wrap .i64 ((s1.Frames.length : Int) - 1))).Pc ∧ (rd s1.Frames (wrap .i64 ((s1.Frames.length : Int) - 1))).Pc < (xs0.length : Int)) ∧ bcase ((rd xs0 ((rd s1.Frames (wrap .i64 ((s1.Frames.length : Int) - 1))).Pc)).Op != 10) (Q false) (((0 ≤ (rd s1.Frames (wrap .i64 ((s1.Frames.length : Int) - 1))).Pc ∧ (rd s1.Frames (wrap .i64 ((s1.Frames.length : Int) - 1))).Pc < (xs0.length : Int)) ∧ bcase ((rd xs0 ((rd s1.Frames (wrap .i64 ((s1.Frames.length : Int) - 1))).Pc)).B == (wrap .i64 ((rd s1.Frames (wrap .i64 ((s1.Frames.length : Int) - 1))).Pc + 1))) (Q false) (((0 ≤ (rd s1.Frames (wrap .i64 ((s1.Frames.length : Int) - 1))).Pc ∧ (rd s1.Frames (wrap .i64 ((s1.Frames.length : Int) - 1))).Pc < (xs0.length : Int)) ∧ (M.qdI s1 ((rd xs0 ((rd s1.Frames (wrap .i64 ((s1.Frames.length : Int) - 1))).Pc)).A) ∧ ∀ r49, r49 = M.qaK s1 ((rd xs0 ((rd s1.Frames (wrap .i64 ((s1.Frames.length : Int) - 1))).Pc)).A) → bcase (r49 != 0) (Q (r49 != (rd s1.Frames (wrap .i64 ((s1.Frames.length : Int) - 1))).Mask)) (Q false))))))))
def wp.qaG (xs0 : List D.Ins) (s1 : D.Warp) (Q : Bool → Prop) : Prop :=
 bcase ((s1.Frames.length : Int) == 0) (Q false) (((0 ≤ (wrap .i64 ((s1.Frames.length : Int) - 1)) ∧ (wrap .i64 ((s1.Frames.length : Int) - 1)) < (s1.Frames.length : Int)) ∧ ((0 ≤ (rd s1.Frames (wrap .i64 ((s1.Frames.length : Int) - 1))).Pc ∧ (rd s1.Frames (wrap .i64 ((s1.Frames.length : Int) - 1))).Pc < (xs0.length : Int)) ∧ (∀ r33, r33 = M.qcj (rd xs0 ((rd s1.Frames (wrap .i64 ((s1.Frames.length : Int) - 1))).Pc)) → bcase (!r33) (Q false) ((M.qel xs0 s1 ∧ ∀ r38, r38 = M.qb9 xs0 s1 → bcase (!r38) (Q true) (Q (decide ((s1.Frames.length : Int) ≤ 22)))))))))
def wp.qcp (s0 : D.Block) (x1 : Int) (Q : Bool → Prop) : Prop :=
 ((0 ≤ x1 ∧ x1 < (s0.Warps.length : Int)) ∧ bcase (((rd s0.Warps x1).Frames.length : Int) == 0) (Q false) (((0 ≤ x1) ∧ bcase ((qdt .i64 (Int.fdiv s0.Waiting (2 ^ (min (x1.toNat) (IntKind.bits .i64)))) 1) == 1) (Q false) ((M.qeg s0 x1 ∧ ∀ r44, r44 = M.qcb s0 x1 → (∀ r53, r53 = M.qcj r44 → bcase r53 ((M.qfv s0.Code (rd s0.Warps x1) ∧ ∀ r58, r58 = M.qaG s0.Code (rd s0.Warps x1) → Q r58)) (bcase (r44.Op != 16) (Q true) (Q (((rd s0.Warps x1).Frames.length : Int) == 1)))))))))
def wp.qbc (s0 : D.Warp) (Q : Int → Prop) : Prop :=
 bcase ((s0.Frames.length : Int) == 0) (Q 0) (((0 ≤ (wrap .i64 ((s0.Frames.length : Int) - 1)) ∧ (wrap .i64 ((s0.Frames.length : Int) - 1)) < (s0.Frames.length : Int)) ∧ Q ((rd s0.Frames (wrap .i64 ((s0.Frames.length : Int) - 1))).Mask)))
def wp.qaJ (s0 : D.Warp) (x1 : Int) (Q : Int → Prop) : Prop :=
 (M.qd0 s0 ∧ ∀ r23, r23 = M.qbc s0 → (∀ r28, r28 = M.qc7 r23 → qd4 (σ := Int × Int × Unit) (fun (p64 : Int × Int × Unit) next40 => match p64 with | (i35, i36, _) => bcase (decide (i36 < (r28.length : Int))) (((0 ≤ i36 ∧ i36 < (r28.length : Int)) ∧ (M.qdV s0 (rd r28 i36) ∧ ((0 ≤ x1 ∧ x1 < ((List.drop ((wrap .i64 ((rd r28 i36) * 4)).toNat) (List.take ((wrap .i64 ((wrap .i64 ((rd r28 i36) + 1)) * 4)).toNat) s0.Regs)).length : Int)) ∧ bcase ((rd (List.drop ((wrap .i64 ((rd r28 i36) * 4)).toNat) (List.take ((wrap .i64 ((wrap .i64 ((rd r28 i36) + 1)) * 4)).toNat) s0.Regs)) x1) == 0) (((0 ≤ (rd r28 i36)) ∧ next40 ((qgs .i64 i35 (wrap .i64 (1 * 2 ^ (min ((rd r28 i36).toNat) (IntKind.bits .i64))))), (wrap .i64 (i36 + 1)), ()))) (next40 (i35, (wrap .i64 (i36 + 1)), ())))))) (Q i35)) (0, 0, ())))
def wp.qaR (s0 : D.Warp) (xs1 : List D.Ins) (Q : Bool → Prop) : Prop :=
 ((0 ≤ (wrap .i64 ((s0.Frames.length : Int) - 1)) ∧ (wrap .i64 ((s0.Frames.length : Int) - 1)) < (s0.Frames.length : Int)) ∧ ((0 ≤ (rd s0.Frames (wrap .i64 ((s0.Frames.length : Int) - 1))).Pc ∧ (rd s0.Frames (wrap .i64 ((s0.Frames.length : Int) - 1))).Pc < (xs1.length : Int)) ∧ bcase ((rd xs1 ((rd s0.Frames (wrap .i64 ((s0.Frames.length : Int) - 1))).Pc)).Op != 10) (Q false) (((0 ≤ (rd s0.Frames (wrap .i64 ((s0.Frames.length : Int) - 1))).Pc ∧ (rd s0.Frames (wrap .i64 ((s0.Frames.length : Int) - 1))).Pc < (xs1.length : Int)) ∧ bcase ((rd xs1 ((rd s0.Frames (wrap .i64 ((s0.Frames.length : Int) - 1))).Pc)).B == (wrap .i64 ((rd s0.Frames (wrap .i64 ((s0.Frames.length : Int) - 1))).Pc + 1))) (Q false) (((0 ≤ (rd s0.Frames (wrap .i64 ((s0.Frames.length : Int) - 1))).Pc ∧ (rd s0.Frames (wrap .i64 ((s0.Frames.length : Int) - 1))).Pc < (xs1.length : Int)) ∧ (M.qcQ s0 ((rd xs1 ((rd s0.Frames (wrap .i64 ((s0.Frames.length : Int) - 1))).Pc)).A) ∧ ∀ r44, r44 = M.qaJ s0 ((rd xs1 ((rd s0.Frames (wrap .i64 ((s0.Frames.length : Int) - 1))).Pc)).A) → bcase (r44 != 0) ((M.qd0 s0 ∧ ∀ r49, r49 = M.qbc s0 → Q (r44 != r49))) (Q false))))))))
def wp.qaC (s0 : D.Block) (x1 : Int) (Q : Bool → Prop) : Prop :=
 (M.qdi s0 x1 ∧ ∀ r23, r23 = M.qau s0 x1 → qf3 (σ := Bool × Unit) (fun J33 => bcase (!r23.2) (J33 (true, ())) ((M.qdC s0 x1 ∧ ∀ r36, r36 = M.qb1 s0 x1 → J33 (r36, ())))) (fun (p126 : Bool × Unit) => match p126 with | (b32, _) => bcase b32 (Q false) (bcase (r23.1.Op == 16) (((0 ≤ x1 ∧ x1 < (s0.Warps.length : Int)) ∧ Q (((rd s0.Warps x1).Frames.length : Int) == 1))) ((∀ r58, r58 = M.qcm r23.1 → bcase r58 (((0 ≤ x1 ∧ x1 < (s0.Warps.length : Int)) ∧ (M.qe1 (rd s0.Warps x1) s0.Code ∧ ∀ r101, r101 = M.qaR (rd s0.Warps x1) s0.Code → bcase (!r101) (Q true) (((0 ≤ x1 ∧ x1 < (s0.Warps.length : Int)) ∧ Q (decide ((wrap .i64 (((rd s0.Warps x1).Frames.length : Int) + 2)) ≤ 24))))))) (Q true))))))
def wp.qck (s0 : D.Block) (x1 : Int) (Q : Bool → Prop) : Prop :=
 (M.qeh s0 x1 ∧ ∀ r23, r23 = M.qc8 s0 x1 → bcase r23 ((M.qei s0 x1 ∧ ∀ r28, r28 = M.qaC s0 x1 → Q r28)) (Q false))
def wp.qdf (s0 : D.Block) (x1 : Int) (Q : Int → Prop) : Prop :=
 ((((s0.Warps.length : Int) : Int) ≠ 0) ∧ qd4 (σ := Int × Unit) (fun (p41 : Int × Unit) next28 => match p41 with | (i24, _) => bcase (decide (i24 < (s0.Warps.length : Int))) (((((s0.Warps.length : Int) : Int) ≠ 0) ∧ (M.qgn s0 (Int.tmod (wrap .i64 ((Int.tmod x1 (s0.Warps.length : Int)) + i24)) (s0.Warps.length : Int)) ∧ ∀ r31, r31 = M.qcp s0 (Int.tmod (wrap .i64 ((Int.tmod x1 (s0.Warps.length : Int)) + i24)) (s0.Warps.length : Int)) → bcase r31 (Q (Int.tmod (wrap .i64 ((Int.tmod x1 (s0.Warps.length : Int)) + i24)) (s0.Warps.length : Int))) (next28 ((wrap .i64 (i24 + 1)), ()))))) (Q (-1))) (0, ()))
end Go.V
namespace Go.V
open IntKind (wrap)
theorem qhI {x : D.Warp} (h : M.Long x.Frames) {Q : Int → Prop} (hQ : Q (M.qb3 x)) : bcase ((x.Frames.length : Int) == 0) (Q 0) (((0 ≤ (wrap .i64 ((x.Frames.length : Int) - 1)) ∧ (wrap .i64 ((x.Frames.length : Int) - 1)) < (x.Frames.length : Int)) ∧ Q ((rd x.Frames (wrap .i64 ((x.Frames.length : Int) - 1))).Mask))) := by
 rw [qgK]
 refine qa2 (fun e => ?_) fun e => ?_
 ·unfold M.qb3 at hQ; rw [if_pos e] at hQ; exact hQ
 ·have hx : x.Frames ≠ [] := by simpa using e
  have hpos : 0 < x.Frames.length := List.length_pos_iff.2 hx
  rw [qdc h]
  unfold M.qb3 at hQ
  rw [if_neg (by rw [e]; simp)] at hQ
  exact ⟨by omega, hQ⟩
theorem wp.qbt.math (x : D.Warp) (h : M.qdP x) : wp.qbt x (fun r => r = M.qbt x) := qhI (Q := fun r => r = M.qb3 x) h rfl
theorem wp.qbc.math (x : D.Warp) (h : M.qd0 x) : wp.qbc x (fun r => r = M.qbc x) := qhI (Q := fun r => r = M.qb3 x) h rfl
theorem qjl (x : D.Warp) (reg : Int) : M.qch x reg = (List.range 8).foldl (fun m (k : Nat) => if M.qd9 (M.qb3 x) (k : Int) = true then M.qec x reg m (k : Int) else m) 0 := by
 unfold M.qch M.qeX
 rw [List.foldl_filter]
 rfl
theorem qmw {reg k : Int} (hr : M.qg7 reg = true) (h0 : 0 ≤ k) (h7 : k ≤ 7) : 0 ≤ k * 4 + reg ∧ k * 4 + reg < 32 := by rw [qfQ] at hr; omega
theorem wp.qaK.math (x : D.Warp) (reg : Int) (h : M.qdI x reg) : wp.qaK x reg (fun r => r = M.qaK x reg) := by
 unfold wp.qaK
 simp only [lenB]
 refine fun r hr => qa2 (fun e => ?_) fun e => qa2 (fun e2 => ?_) fun e2 => ?_
 all_goals simp only [M.qaW] at hr
 ·simp [M.qaK, nt e hr]
 ·have : (x.Regs.length == 32) = false := by simpa using e2
  simp [M.qaK, this]
 have hreg := nf e hr
 have h32 : (x.Regs.length == 32) = true := by simpa using e2
 have h32' : x.Regs.length = 32 := by simpa using h32
 have hM : M.qaK x reg = M.qch x reg := by simp [M.qaK, hreg, h32]
 rw [hM, qjl]
 let F : Nat → Int := fun k => (List.range k).foldl (fun m (k : Nat) => if M.qd9 (M.qb3 x) (k : Int) = true then M.qec x reg m (k : Int) else m) 0
 have hF : ∀ k, F (k + 1) = if M.qd9 (M.qb3 x) (k : Int) = true then M.qec x reg (F k) (k : Int) else F k := fun k => by simp [F, List.range_succ]
 refine qd2 8 (fun k => (F k, (k : Int), ())) (fun _ => True) rfl trivial (fun k hk _ next hn => ?_) fun _ next => qax (by simp) rfl
 have hn := hn trivial
 rw [hF] at hn
 have hw : wrap .i64 (wrap .i64 ((k : Int) * 4) + reg) = (k : Int) * 4 + reg := by
  have := qmw hreg (k := (k : Int)) (by omega) (by omega)
  rw [w64 (x := (k : Int) * 4) (by omega) (by omega), w64 (by omega) (by omega)]
 have hin := qmw hreg (k := (k : Int)) (by omega) (by omega)
 refine qaA (by simp; omega) ⟨h, fun r2 hr2 r3 hr3 => qa2 (fun e3 => ?_) fun e3 => ?_⟩
 all_goals simp only [M.qbt] at hr2
 all_goals simp only [M.qby, hr2] at hr3
 ·rw [hw, h32']
  rw [if_pos (hr3.symm.trans e3)] at hn
  refine ⟨⟨hin.1, by omega⟩, qa2 (fun e4 => ⟨Int.natCast_nonneg k, ?_⟩) fun e4 => ?_⟩
  ·have e4 : rd x.Regs ((k : Int) * 4 + reg) = 0 := by simpa using e4
   unfold M.qec at hn
   rw [if_pos e4] at hn
   rw [up64 (n := 8) hk (by omega)]; exact hn
  ·have e4 : ¬ rd x.Regs ((k : Int) * 4 + reg) = 0 := by simpa using e4
   unfold M.qec at hn
   rw [if_neg e4] at hn
   rw [up64 (n := 8) hk (by omega)]; exact hn
 ·have e3 : ¬ M.qd9 (M.qb3 x) (k : Int) = true := by rw [← hr3, e3]; simp
  rw [if_neg e3] at hn
  rw [up64 (n := 8) hk (by omega)]; exact hn
theorem qit {m l : Int} (h : l ∈ M.qeX m) : 0 ≤ l ∧ l ≤ 7 := by
 have := (List.mem_filter.1 h).1
 simp only [List.mem_cons, List.not_mem_nil, or_false] at this
 omega
theorem qkr (m : Int) : (M.qeX m).length ≤ 8 := by
 have := List.length_filter_le (M.qd9 m) [0, 1, 2, 3, 4, 5, 6, 7]
 exact this
theorem qmr {α : Type} [Inhabited α] {l : List α} {a b : Nat} {i : Int} (h0 : 0 ≤ i) (hi : a + i.toNat < b) (hb : b ≤ l.length) : rd ((l.take b).drop a) i = rd l ((a : Int) + i) := by
 have e : ((a : Int) + i).toNat = a + i.toNat := by omega
 unfold rd
 rw [e, List.getD_eq_getElem?_getD, List.getD_eq_getElem?_getD, List.getElem?_drop, List.getElem?_take, if_pos hi]
theorem wp.qaJ.math (x : D.Warp) (reg : Int) (h : M.qcQ x reg) : wp.qaJ x reg (fun r => r = M.qaJ x reg) := by
 obtain ⟨h1, h32, hreg⟩ := h
 refine ⟨h1, fun r hr r2 hr2 => ?_⟩
 have hr2' : r2 = M.qeX (M.qb3 x) := by rw [hr2, hr]; rfl
 show qd4 _ _
 have hl := qkr (M.qb3 x)
 have hmem : ∀ k : Nat, k < r2.length → 0 ≤ rd r2 (k : Int) ∧ rd r2 (k : Int) ≤ 7 := fun k hk => qit (m := M.qb3 x) (by rw [← hr2']; exact qgy hk)
 have hM : M.qaJ x reg = r2.foldl (M.qec x reg) 0 := by rw [hr2']; rfl
 rw [hM]
 have hlen : r2.length ≤ 8 := by rw [hr2']; exact hl
 clear hr2 hr2' hM
 refine qd2 r2.length (fun k => ((r2.take k).foldl (M.qec x reg) 0, (k : Int), ())) (fun _ => True) rfl trivial (fun k hk _ next hn => ?_) fun _ next => qax (by simp) (by rw [List.take_length])
 have hn := hn trivial
 rw [List.take_add_one, List.getElem?_eq_getElem hk, Option.toList_some, List.foldl_append, ← qdO hk] at hn
 simp only [List.foldl_cons, List.foldl_nil] at hn
 have hm := hmem k hk
 dsimp only
 generalize rd r2 (k : Int) = l at *
 have hin := qmw hreg hm.1 hm.2
 rw [qfQ] at hreg
 have a1 : wrap .i64 (l * 4) = l * 4 := w64 (by omega) (by omega)
 have a2 : wrap .i64 ((wrap .i64 (l + 1)) * 4) = l * 4 + 4 := by rw [w64 (x := l + 1) (by omega) (by omega), w64 (by omega) (by omega)]; omega
 rw [a1, a2]
 have hc : rd ((x.Regs.take (l * 4 + 4).toNat).drop (l * 4).toNat) reg = rd x.Regs (l * 4 + reg) := by
  rw [qmr hreg.1 (by omega) (by omega)]
  congr 1; omega
 rw [hc, up64 hk (by omega)]
 refine qaA (by simp; omega) ⟨by omega, ⟨h32, hm⟩, ⟨by omega, by simp; omega⟩, qa2 (fun e => ⟨by omega, ?_⟩) fun e => ?_⟩
 ·have e : rd x.Regs (l * 4 + reg) = 0 := by simpa using e
  unfold M.qec at hn
  rw [if_pos e] at hn
  exact hn
 ·have e : ¬ rd x.Regs (l * 4 + reg) = 0 := by simpa using e
  unfold M.qec at hn
  rw [if_neg e] at hn
  exact hn
theorem qdF {p : List D.Ins} {x : D.Warp} (h : M.Runs p x) : p.length ≤ 32 ∧ 0 < x.Frames.length ∧ x.Frames.length ≤ 24 ∧ x.Regs.length = 32 ∧ 0 ≤ M.qdq x ∧ M.qdq x < (p.length : Int) ∧ M.qdh (M.qaF p x) p.length = true ∧ 0 ≤ x.Number ∧ x.Number ≤ 2 := by
 obtain ⟨hp, hw, hx⟩ := h
 obtain ⟨k1, k2, k3⟩ := qhx hw hx
 have hp' := hp
 simp only [M.qaT, Bool.and_eq_true, decide_eq_true_eq, List.all_eq_true] at hp
 simp only [M.qfo, Bool.and_eq_true, M.isIn, decide_eq_true_eq, beq_iff_eq] at hw
 exact ⟨hp.1, List.length_pos_iff.2 hx, k1, hw.2.1, k2, k3, hp.2 _ (qjr k2 k3), hw.1.1, hw.1.2⟩
theorem qhm {i : D.Ins} {n : Int} (h : M.qdh i n = true) (e : i.Op = 10) : M.qg7 i.A = true := by
 simp only [M.qdh, Bool.and_eq_true] at h
 have h := h.2
 rw [if_neg (by omega), if_neg (by omega), if_neg (by omega), if_neg (by omega), if_pos e] at h
 simp only [Bool.and_eq_true] at h
 exact h.1
theorem qgC {x : D.Warp} (h : x.Frames ≠ []) : M.qb3 x = (M.qcL x.Frames).Mask := by
 unfold M.qb3
 rw [if_neg (by simpa using h)]
theorem wp.qb9.math (p : List D.Ins) (x : D.Warp) (h : M.qel p x) : wp.qb9 p x (fun r => r = M.qb9 p x) := by
 obtain ⟨t1, t2, t3, t4, t5, t6, t7, _⟩ := qdF h
 unfold wp.qb9
 rw [qdc (by omega)]
 change (_ ∧ _) ∧ (0 ≤ M.qdq x ∧ M.qdq x < _) ∧ bcase ((M.qaF p x).Op != 10) _ ((0 ≤ M.qdq x ∧ M.qdq x < _) ∧ bcase ((M.qaF p x).B == wrap .i64 (M.qdq x + 1)) _ ((0 ≤ M.qdq x ∧ M.qdq x < _) ∧ (M.qdI x (M.qaF p x).A ∧ ∀ r, r = M.qaK x (M.qaF p x).A → bcase (r != 0) ((r != (M.qcL x.Frames).Mask) = _) _)))
 rw [w64 (x := M.qdq x + 1) (by omega) (by omega)]
 refine ⟨by omega, ⟨t5, t6⟩, qa2 (fun e => ?_) fun e => ⟨⟨t5, t6⟩, qa2 (fun e2 => ?_) fun e2 => ⟨⟨t5, t6⟩, by show x.Frames.length ≤ 9223372036854775807; omega, fun r hr => qa2 (fun e3 => ?_) fun e3 => ?_⟩⟩⟩
 ·have e : ¬ (M.qaF p x).Op = 10 := by simpa using e
  simp [M.qb9, M.splits, e]
 ·have e2 : (M.qaF p x).B = M.qdq x + 1 := by simpa using e2
  simp [M.qb9, M.splits, e2]
 all_goals
  have e : (M.qaF p x).Op = 10 := by simpa using e
  have e2 : ¬ (M.qaF p x).B = M.qdq x + 1 := by simpa using e2
  have hz : r = M.qch x (M.qaF p x).A := by
   rw [hr]
   simp [M.qaK, qhm t7 e, t4]
  rw [hz] at e3
  try rw [hz]
 ·simp only [M.qb9, M.splits, e, e3, Bool.true_and]
  have : ((M.qaF p x).B != M.qdq x + 1) = true := by simpa using e2
  rw [this]; rfl
 ·simp only [M.qb9, M.splits, e3, Bool.false_and, Bool.and_false]
theorem wp.qaR.math (x : D.Warp) (p : List D.Ins) (h : M.qe1 x p) : wp.qaR x p (fun r => r = M.qaR x p) := by
 obtain ⟨t1, t2, t3, t4, t5, t6, t7, _⟩ := qdF h
 have hL : M.Long x.Frames := by unfold M.Long; omega
 unfold wp.qaR
 rw [qdc (by omega)]
 change (_ ∧ _) ∧ (0 ≤ M.qdq x ∧ M.qdq x < _) ∧ bcase ((M.qaF p x).Op != 10) _ ((0 ≤ M.qdq x ∧ M.qdq x < _) ∧ bcase ((M.qaF p x).B == wrap .i64 (M.qdq x + 1)) _ ((0 ≤ M.qdq x ∧ M.qdq x < _) ∧ (M.qcQ x (M.qaF p x).A ∧ ∀ r, r = M.qaJ x (M.qaF p x).A → bcase (r != 0) (M.qd0 x ∧ ∀ r49, r49 = M.qbc x → (r != r49) = _) _)))
 rw [w64 (x := M.qdq x + 1) (by omega) (by omega)]
 refine ⟨by omega, ⟨t5, t6⟩, qa2 (fun e => ?_) fun e => ⟨⟨t5, t6⟩, qa2 (fun e2 => ?_) fun e2 => ⟨⟨t5, t6⟩, ⟨hL, t4, qhm t7 (by simpa using e)⟩, fun r hr => qa2 (fun e3 => ⟨hL, fun r4 hr4 => ?_⟩) fun e3 => ?_⟩⟩⟩
 ·have e : ¬ (M.qaF p x).Op = 10 := by simpa using e
  simp [M.qaR, M.splits, e]
 ·have e2 : (M.qaF p x).B = M.qdq x + 1 := by simpa using e2
  simp [M.qaR, M.splits, e2]
 all_goals
  have e : (M.qaF p x).Op = 10 := by simpa using e
  have e2 : ¬ (M.qaF p x).B = M.qdq x + 1 := by simpa using e2
  have hz : r = M.qch x (M.qaF p x).A := hr
  rw [hz] at e3
  try rw [hz]
 ·have hr4' : r4 = (M.qcL x.Frames).Mask := by rw [hr4]; exact qgC h.2.2
  rw [hr4']
  simp only [M.qaR, M.splits, e, e3, Bool.true_and]
  have : ((M.qaF p x).B != M.qdq x + 1) = true := by simpa using e2
  rw [this]; rfl
 ·simp only [M.qaR, M.splits, e3, Bool.false_and, Bool.and_false]
theorem wp.qaG.math (p : List D.Ins) (x : D.Warp) (h : M.qfv p x) : wp.qaG p x (fun r => r = M.qaG p x) := by
 unfold wp.qaG
 rw [qgK]
 refine qa2 (fun e => ?_) fun e => ?_
 ·simp [M.qaG, e]
 have hx : x.Frames ≠ [] := by simpa using e
 obtain ⟨t1, t2, t3, t4, t5, t6, t7, _⟩ := qdF ⟨h.1, h.2, hx⟩
 rw [qdc (by omega)]
 refine ⟨by omega, ⟨t5, t6⟩, fun r hr => qa2 (fun e2 => ?_) fun e2 => ⟨⟨h.1, h.2, hx⟩, fun r2 hr2 => qa2 (fun e3 => ?_) fun e3 => ?_⟩⟩
 all_goals have hr' : r = M.qcw (M.qaF p x) := hr
 ·have := nt e2 hr'
  simp [M.qaG, this]
 ·have := nt e3 (show r2 = M.splits p x from hr2)
  simp [M.qaG, e, nf e2 hr', this]
 ·have := nf e3 (show r2 = M.splits p x from hr2)
  simp only [M.qaG, e, nf e2 hr', this, Bool.not_false, Bool.not_true, Bool.true_and, Bool.false_or]
  congr 1; exact propext (by omega)
theorem qg8 {b : D.Block} {w : Int} (h : M.Has b w) (hx : (rd b.Warps w).Frames ≠ []) : M.Runs b.Code (rd b.Warps w) := by
 obtain ⟨_, _, hp, hw, _⟩ := qe2 h
 exact ⟨hp, hw, hx⟩
theorem qmo {α : Type} {l : List α} : ((l.length : Int) == 1) = (l.length == 1) := by
 rw [Bool.eq_iff_iff]; simp; omega
theorem wp.qcp.math (b : D.Block) (w : Int) (h : M.qgn b w) : wp.qcp b w (fun r => r = M.qcp b w) := by
 obtain ⟨h0, h1, hp, hw, hn, hok⟩ := qe2 h
 unfold wp.qcp
 rw [qgK, qmo]
 refine ⟨⟨h0, h1⟩, qa2 (fun e => ?_) fun e => ⟨h0, qa2 (fun e2 => ?_) fun e2 => ?_⟩⟩
 ·simp [M.qcp, M.qgO, e]
 ·have : M.waits b w = true := e2
  simp [M.qcp, M.qgO, this]
 have hx : (rd b.Warps w).Frames ≠ [] := by simpa using e
 have e2 : M.waits b w = false := e2
 refine ⟨⟨h, hx⟩, fun r hr r2 hr2 => qa2 (fun e3 => ⟨⟨hp, hw⟩, fun r3 hr3 => ?_⟩) fun e3 => qa2 (fun e4 => ?_) fun e4 => ?_⟩
 all_goals
  have hr' : r = M.qaF b.Code (rd b.Warps w) := hr
  have hr2' : r2 = M.qcw (M.qaF b.Code (rd b.Warps w)) := by rw [hr2, hr']; rfl
 ·have hl := hr2'.symm.trans e3
  rw [hr3]
  simp only [M.qaG, M.qcp, M.qgO, e, e2, hl, if_true, Bool.not_false, Bool.true_and]
 ·have hl := hr2'.symm.trans e3
  rw [hr'] at e4
  simp [M.qcp, M.qgO, e, e2, hl, e4]
 ·have hl := hr2'.symm.trans e3
  rw [hr'] at e4
  simp [M.qcp, M.qgO, e, e2, hl, e4]
theorem wp.qaC.math (b : D.Block) (w : Int) (h : M.qei b w) : wp.qaC b w (fun r => r = M.qaC b w) := by
 obtain ⟨h0, h1, hp, hw, hn, hok⟩ := qe2 h
 refine ⟨h, fun r hr => ?_⟩
 by_cases e : (rd b.Warps w).Frames.isEmpty = true
 ·have hr' : r = (⟨0, 0, 0, 0⟩, false) := by rw [hr]; simp [M.qau, e]
  rw [hr']
  unfold qf3
  refine qaA rfl (qaA rfl ?_)
  simp [M.qaC, M.qgO, e]
 have e : (rd b.Warps w).Frames.isEmpty = false := by simpa using e
 have hx : (rd b.Warps w).Frames ≠ [] := by simpa using e
 have hr' : r = (M.qaF b.Code (rd b.Warps w), true) := by
  rw [hr]; simp only [M.qau]; rw [if_neg (by rw [e]; simp)]; rfl
 have hruns := qg8 h hx
 obtain ⟨t1, t2, t3, t4, t5, t6, t7, _⟩ := qdF hruns
 rw [hr']
 unfold qf3
 refine qax rfl ⟨h0, fun r2 hr2 => ?_⟩
 have hr2' : r2 = M.waits b w := hr2
 refine qa2 (fun e2 => ?_) fun e2 => qa2 (fun e3 => ?_) fun e3 => ?_
 ·have := hr2'.symm.trans e2
  simp [M.qaC, M.qgO, this]
 ·have e2 := hr2'.symm.trans e2
  have e3 : (M.qaF b.Code (rd b.Warps w)).Op = 16 := by simpa using e3
  have hl : M.qcw (M.qaF b.Code (rd b.Warps w)) = false := by simp [M.qcw, M.isIn, e3]
  refine ⟨⟨h0, h1⟩, ?_⟩
  rw [qmo]
  simp only [M.qaC, M.qgO, e, e2, hl, e3, Bool.not_false, Bool.true_and, bne_self_eq_false, Bool.false_or, Bool.false_eq_true, if_false]
 ·have e2 := hr2'.symm.trans e2
  have e3 : ¬ (M.qaF b.Code (rd b.Warps w)).Op = 16 := by simpa using e3
  intro r3 hr3
  refine qa2 (fun e4 => ⟨⟨h0, h1⟩, hruns, fun r4 hr4 => qa2 (fun e5 => ?_) fun e5 => ⟨⟨h0, h1⟩, ?_⟩⟩) fun e4 => ?_
  ·have e4 := (show r3 = M.qcw (M.qaF b.Code (rd b.Warps w)) from hr3).symm.trans e4
   have := nt e5 (show r4 = M.splits b.Code (rd b.Warps w) from hr4)
   simp [M.qaC, M.qgO, e, e2, e4, this]
  ·have e4 := (show r3 = M.qcw (M.qaF b.Code (rd b.Warps w)) from hr3).symm.trans e4
   have := nf e5 (show r4 = M.splits b.Code (rd b.Warps w) from hr4)
   rw [w64 (by omega) (by omega)]
   simp only [M.qaC, M.qgO, e, e2, e4, this, Bool.not_false, Bool.not_true, Bool.true_and, Bool.false_or, if_true]
   congr 1; exact propext (by omega)
  ·have e4 := (show r3 = M.qcw (M.qaF b.Code (rd b.Warps w)) from hr3).symm.trans e4
   simp [M.qaC, M.qgO, e, e2, e4, e3]
theorem wp.qck.math (b : D.Block) (w : Int) (h : M.qeL b w) : wp.qck b w (fun r => r = M.qck b w) := by
 refine ⟨h, fun r hr => qa2 (fun e => ⟨⟨h, hr.symm.trans e⟩, fun r2 hr2 => ?_⟩) fun e => ?_⟩
 all_goals have hr' : r = M.qf5 b w := hr
 ·rw [hr2]; simp [M.qck, M.qfV, ← hr', e, M.qaC]
 ·simp [M.qck, M.qfV, ← hr', e]
theorem qge {b : D.Block} (h : M.Good b) : 1 ≤ b.Warps.length ∧ b.Warps.length ≤ 3 := by
 have := h.2
 simp only [M.qdS, Bool.and_eq_true, M.isIn, decide_eq_true_eq] at this
 omega
theorem qjV {b : D.Block} (h : M.Good b) {w : Int} (h0 : 0 ≤ w) (h1 : w < (b.Warps.length : Int)) : M.Has b w := by
 have hc := qge h
 refine ⟨h.1, ?_⟩
 simp only [M.qf5, h.2, Bool.true_and, M.isIn, qdc (n := b.Warps.length) (by omega), Bool.and_eq_true, decide_eq_true_eq]
 omega
theorem qhW {x n : Int} (hx : 0 ≤ x) (hn : 0 < n) : 0 ≤ Int.tmod x n ∧ Int.tmod x n < n :=
 ⟨Int.tmod_nonneg _ hx, Int.tmod_lt_of_pos _ hn⟩
theorem qma {b : D.Block} (h : M.Good b) {q : Int} (h0 : 0 ≤ q) (hq : q ≤ 9223372036854775807) {B : (Int × Unit) → ((Int × Unit) → Prop) → Prop} {Q : Int → Prop} (hQ : Q (M.pick b q))
    (hb : ∀ (k : Nat) (next : (Int × Unit) → Prop), k < b.Warps.length → M.Has b (Int.tmod (Int.tmod q b.Warps.length + k) b.Warps.length) → (M.qgO b (Int.tmod (Int.tmod q b.Warps.length + k) b.Warps.length) = true → Q (Int.tmod (Int.tmod q b.Warps.length + k) b.Warps.length)) →
     (M.qgO b (Int.tmod (Int.tmod q b.Warps.length + k) b.Warps.length) = false → next (((k + 1 : Nat) : Int), ())) → wrap .i64 (Int.tmod q b.Warps.length + k) = Int.tmod q b.Warps.length + k → B ((k : Int), ()) next)
    (he : ∀ next : (Int × Unit) → Prop, Q (-1) → B ((b.Warps.length : Int), ()) next) : qd4 B (0, ()) := by
 have hc := qge h
 have ht := qhW (x := q) (n := b.Warps.length) h0 (by omega)
 refine qd2 b.Warps.length (fun k => ((k : Int), ())) (fun k => M.pick b q = M.qgz b b.Warps.length (Int.tmod q b.Warps.length) (b.Warps.length - k) (k : Int)) rfl rfl (fun k hk hF next hn => ?_) fun hF next => ?_
 ·rw [show b.Warps.length - k = (b.Warps.length - (k + 1)) + 1 by omega, M.qgz] at hF
  have ht2 := qhW (x := Int.tmod q b.Warps.length + k) (n := b.Warps.length) (by omega) (by omega)
  refine hb k next hk (qjV h ht2.1 ht2.2) (fun e => ?_) (fun e => hn ?_) (w64 (by omega) (by omega))
  ·rw [if_pos e] at hF; rw [← hF]; exact hQ
  ·rw [if_neg (by rw [e]; simp)] at hF; rw [hF]; rfl
 ·refine he next ?_
  rw [Nat.sub_self, M.qgz] at hF
  rw [← hF]; exact hQ
theorem wp.qdf.math (b : D.Block) (q : Int) (h : M.qfZ b q) : wp.qdf b q (fun r => r = M.qdf b q) := by
 obtain ⟨hg, h0, hq⟩ := h
 have hc := qge hg
 refine ⟨by omega, qma hg h0 hq (Q := fun r => r = M.pick b q) rfl (fun k next hk hh h1 h2 hw => ?_) fun next hh => qax (by simp) hh⟩
 refine qaA (by simp; omega) ⟨by omega, ?_⟩
 simp only [hw]
 refine ⟨hh, fun r hr => qa2 (fun e => h1 (hr.symm.trans e)) fun e => ?_⟩
 rw [up64 hk (by omega)]; exact h2 (hr.symm.trans e)
end Go.V
namespace Go.V
open IntKind (wrap)
def wp.qcE (xs0 : List Int) (x1 : Int) (Q : (List Int) → Prop) : Prop :=
 qd4 (σ := (List Int) × Int × Unit) (fun (p59 : (List Int) × Int × Unit) next31 => match p59 with | (xs24, i27, _) => bcase (decide (i27 < (xs0.length : Int))) (((0 ≤ i27 ∧ i27 < (xs0.length : Int)) ∧ bcase ((rd xs0 i27) != x1) (((0 ≤ i27 ∧ i27 < (xs0.length : Int)) ∧ ((xs24.length + ([(rd xs0 i27)] : List Int).length ≤ 17179869184) ∧ next31 ((xs24 ++ ([(rd xs0 i27)] : List Int)), (wrap .i64 (i27 + 1)), ())))) (next31 (xs24, (wrap .i64 (i27 + 1)), ())))) (Q xs24)) (([] : List Int), 0, ())
def wp.qdv (xs0 : List D.Ins) (x1 : Int) (Q : Bool → Prop) : Prop :=
 (M.qdT xs0 ∧ ∀ r21, r21 = M.qb2 xs0 → bcase r21 ((∀ r26, r26 = M.qaM x1 0 (xs0.length : Int) → Q r26)) (Q false))
def wp.qcC (xs0 : List Int) (x1 : Int) (Q : (List Int) → Prop) : Prop :=
 qf3 (σ := Int × Unit) (fun J22 => qd4 (σ := Int × Unit) (fun (p41 : Int × Unit) next29 => match p41 with | (i25, _) => bcase (decide (i25 > 0)) (((0 ≤ (wrap .i64 (i25 - 1)) ∧ (wrap .i64 (i25 - 1)) < (xs0.length : Int)) ∧ bcase (decide ((rd xs0 (wrap .i64 (i25 - 1))) > x1)) (next29 ((wrap .i64 (i25 - 1)), ())) (J22 (i25, ())))) (J22 (i25, ()))) ((xs0.length : Int), ())) (fun (p82 : Int × Unit) => match p82 with | (i21, _) => qf3 (σ := Unit) (fun J45 => bcase (decide (i21 > 0)) (((0 ≤ (wrap .i64 (i21 - 1)) ∧ (wrap .i64 (i21 - 1)) < (xs0.length : Int)) ∧ bcase ((rd xs0 (wrap .i64 (i21 - 1))) == x1) (Q xs0) (J45 (())))) (J45 (()))) (fun (p80 : Unit) => match p80 with | (_) => ((0 ≤ i21 ∧ i21 ≤ (xs0.length : Int)) ∧ ((([] : List Int).length + (List.take (i21.toNat) xs0).length ≤ 17179869184) ∧ (((([] : List Int) ++ (List.take (i21.toNat) xs0)).length + ([x1] : List Int).length ≤ 17179869184) ∧ ((0 ≤ i21 ∧ i21 ≤ (xs0.length : Int)) ∧ ((((([] : List Int) ++ (List.take (i21.toNat) xs0)) ++ ([x1] : List Int)).length + (List.drop (i21.toNat) xs0).length ≤ 17179869184) ∧ Q (((([] : List Int) ++ (List.take (i21.toNat) xs0)) ++ ([x1] : List Int)) ++ (List.drop (i21.toNat) xs0)))))))))
def wp.qc9 (xs0 : List D.Ins) (x1 : Int) (Q : (List Int) → Prop) : Prop :=
 bcase (x1 == (xs0.length : Int)) (Q ([] : List Int)) (((0 ≤ x1 ∧ x1 < (xs0.length : Int)) ∧ bcase ((rd xs0 x1).Op == 12) (Q ([(xs0.length : Int)] : List Int)) (bcase ((rd xs0 x1).Op == 11) (((0 ≤ x1 ∧ x1 < (xs0.length : Int)) ∧ Q ([(rd xs0 x1).B] : List Int))) (bcase ((rd xs0 x1).Op == 10) (((0 ≤ x1 ∧ x1 < (xs0.length : Int)) ∧ (M.qgo ([(wrap .i64 (x1 + 1))] : List Int) ((rd xs0 x1).B) ∧ ∀ r48, r48 = M.qcC ([(wrap .i64 (x1 + 1))] : List Int) ((rd xs0 x1).B) → Q r48))) (Q ([(wrap .i64 (x1 + 1))] : List Int))))))
def wp.qcu (xs0 : List D.Ins) (xs1 : List Int) (Q : (List Bool) → Prop) : Prop :=
 ((0 ≤ (wrap .i64 ((xs0.length : Int) + 1)) ∧ (wrap .i64 ((xs0.length : Int) + 1)) ≤ 17179869184) ∧ ((([] : List Int).length + xs1.length ≤ 17179869184) ∧ qd4 (σ := (List Int) × (List Bool) × Unit) (fun (p127 : (List Int) × (List Bool) × Unit) next85 => match p127 with | (xs77, xs80, _) => bcase (decide ((xs77.length : Int) > 0)) (((0 ≤ (0 : Int) ∧ (0 : Int) < (xs77.length : Int)) ∧ ((0 ≤ (1 : Int) ∧ (1 : Int) ≤ (xs77.length : Int)) ∧ ((0 ≤ (rd xs77 0) ∧ (rd xs77 0) < (xs80.length : Int)) ∧ bcase (rd xs80 (rd xs77 0)) (next85 ((List.drop ((1 : Int).toNat) xs77), xs80, ())) (((0 ≤ (rd xs77 0) ∧ (rd xs77 0) < (xs80.length : Int)) ∧ (M.qeR xs0 (rd xs77 0) ∧ ∀ r110, r110 = M.qc9 xs0 (rd xs77 0) → (((List.drop ((1 : Int).toNat) xs77).length + r110.length ≤ 17179869184) ∧ next85 (((List.drop ((1 : Int).toNat) xs77) ++ r110), (List.set xs80 ((rd xs77 0).toNat) true), ()))))))))) (Q xs80)) ((([] : List Int) ++ xs1), (List.replicate ((wrap .i64 ((xs0.length : Int) + 1)).toNat) (default : Bool)), ())))
def wp.qaE (xs0 : List D.Ins) (x1 : Int) (Q : Bool → Prop) : Prop :=
 (M.qgE xs0 x1 ∧ ∀ r21, r21 = M.qdv xs0 x1 → bcase r21 ((M.qfH xs0 ([x1] : List Int) ∧ ∀ r29, r29 = M.qcu xs0 ([x1] : List Int) → ((0 ≤ (xs0.length : Int) ∧ (xs0.length : Int) < (r29.length : Int)) ∧ Q (rd r29 (xs0.length : Int))))) (Q false))
def wp.qcs (xs0 : List D.Ins) (x1 : Int) (x2 : Int) (Q : Bool → Prop) : Prop :=
 bcase (x1 == x2) (Q true) (((0 ≤ (wrap .i64 ((xs0.length : Int) + 1)) ∧ (wrap .i64 ((xs0.length : Int) + 1)) ≤ 17179869184) ∧ qd4 (σ := (List Int) × (List Bool) × Unit) (fun (p130 : (List Int) × (List Bool) × Unit) next83 => match p130 with | (xs75, xs78, _) => bcase (decide ((xs75.length : Int) > 0)) (((0 ≤ (0 : Int) ∧ (0 : Int) < (xs75.length : Int)) ∧ ((0 ≤ (1 : Int) ∧ (1 : Int) ≤ (xs75.length : Int)) ∧ ((0 ≤ (rd xs75 0) ∧ (rd xs75 0) < (xs78.length : Int)) ∧ bcase (rd xs78 (rd xs75 0)) (next83 ((List.drop ((1 : Int).toNat) xs75), xs78, ())) (bcase ((rd xs75 0) == x2) (next83 ((List.drop ((1 : Int).toNat) xs75), xs78, ())) (bcase ((rd xs75 0) == (xs0.length : Int)) (Q false) (((0 ≤ (rd xs75 0) ∧ (rd xs75 0) < (xs78.length : Int)) ∧ (M.qeR xs0 (rd xs75 0) ∧ ∀ r111, r111 = M.qc9 xs0 (rd xs75 0) → (((List.drop ((1 : Int).toNat) xs75).length + r111.length ≤ 17179869184) ∧ next83 (((List.drop ((1 : Int).toNat) xs75) ++ r111), (List.set xs78 ((rd xs75 0).toNat) true), ()))))))))))) (Q true)) (([x1] : List Int), (List.replicate ((wrap .i64 ((xs0.length : Int) + 1)).toNat) (default : Bool)), ())))
def wp.qce (xs0 : List D.Ins) (x1 : Int) (Q : (List Int) → Prop) : Prop :=
 (M.qdD xs0 x1 ∧ ∀ r24, r24 = M.qaE xs0 x1 → bcase (!r24) (Q ([] : List Int)) (qd4 (σ := (List Int) × Int × Unit) (fun (p59 : (List Int) × Int × Unit) next36 => match p59 with | (xs29, i32, _) => bcase (decide (i32 ≤ (xs0.length : Int))) ((M.qew xs0 x1 i32 ∧ ∀ r38, r38 = M.qcs xs0 x1 i32 → bcase r38 (((xs29.length + ([i32] : List Int).length ≤ 17179869184) ∧ next36 ((xs29 ++ ([i32] : List Int)), (wrap .i64 (i32 + 1)), ()))) (next36 (xs29, (wrap .i64 (i32 + 1)), ())))) (Q xs29)) (([] : List Int), 0, ())))
def wp.qcS (xs0 : List D.Ins) (xs1 : List Int) (Q : Int → Prop) : Prop :=
 qd4 (σ := Int × Unit) (fun (p72 : Int × Unit) next25 => match p72 with | (i21, _) => bcase (decide (i21 < (xs1.length : Int))) (qd4 (σ := Bool × Int × Unit) (fun (p67 : Bool × Int × Unit) next32 => match p67 with | (b27, i28, _) => bcase (decide (i28 < (xs1.length : Int))) (bcase b27 (((0 ≤ i21 ∧ i21 < (xs1.length : Int)) ∧ ((0 ≤ i28 ∧ i28 < (xs1.length : Int)) ∧ (M.qew xs0 (rd xs1 i21) (rd xs1 i28) ∧ ∀ r45, r45 = M.qcs xs0 (rd xs1 i21) (rd xs1 i28) → next32 (r45, (wrap .i64 (i28 + 1)), ()))))) (next32 (false, (wrap .i64 (i28 + 1)), ()))) (bcase b27 (((0 ≤ i21 ∧ i21 < (xs1.length : Int)) ∧ Q (rd xs1 i21))) (next25 ((wrap .i64 (i21 + 1)), ())))) (true, 0, ())) (Q (-1))) (0, ())
def wp.qbT (xs0 : List D.Ins) (x1 : Int) (Q : Int → Prop) : Prop :=
 (M.qfC xs0 x1 ∧ ∀ r21, r21 = M.qce xs0 x1 → (M.qfn r21 x1 ∧ ∀ r28, r28 = M.qcE r21 x1 → (M.qfq xs0 r28 ∧ ∀ r35, r35 = M.qcS xs0 r28 → Q r35)))
def wp.qcl (xs0 : List D.Ins) (x1 : Int) (Q : Int → Prop) : Prop :=
 (M.qdD xs0 (wrap .i64 (x1 + 1)) ∧ ∀ r21, r21 = M.qaE xs0 (wrap .i64 (x1 + 1)) → bcase (!r21) (Q (xs0.length : Int)) (((0 ≤ x1 ∧ x1 < (xs0.length : Int)) ∧ (M.qdD xs0 ((rd xs0 x1).B) ∧ ∀ r31, r31 = M.qaE xs0 ((rd xs0 x1).B) → bcase (!r31) (Q (xs0.length : Int)) ((M.qeY xs0 x1 ∧ ∀ r36, r36 = M.qbT xs0 x1 → Q r36))))))
end Go.V
namespace Go.V
open IntKind (wrap)
theorem qjc {g : Int → Bool} {x : Int} : ∀ {n : Nat}, x ∈ M.idx g n ↔ ∃ k : Nat, k < n ∧ x = (k : Int) ∧ g x = true
 | 0 => by simp [M.idx]
 | n + 1 => by
  have ih := qjc (g := g) (x := x) (n := n)
  unfold M.idx
  constructor
  ·intro h
   split at h
   ·rename_i e
    rcases List.mem_append.1 h with h | h
    ·obtain ⟨k, hk, h1, h2⟩ := ih.1 h; exact ⟨k, by omega, h1, h2⟩
    ·obtain rfl := List.mem_singleton.1 h; exact ⟨n, by omega, rfl, e⟩
   ·obtain ⟨k, hk, h1, h2⟩ := ih.1 h; exact ⟨k, by omega, h1, h2⟩
  ·rintro ⟨k, hk, rfl, h2⟩
   by_cases hkn : k = n
   ·subst hkn; rw [if_pos h2]; simp
   ·have := ih.2 ⟨k, by omega, rfl, h2⟩
    split
    ·exact List.mem_append_left _ this
    ·exact this
theorem qjX (g : Int → Bool) : ∀ n, (M.idx g n).length ≤ n
 | 0 => by simp [M.idx]
 | n + 1 => by
  have := qjX g n
  unfold M.idx
  split <;> simp <;> omega
theorem qk4 {n : Nat} {g : Int → Bool} {B : (List Int × Int × Unit) → ((List Int × Int × Unit) → Prop) → Prop}
    (hb : ∀ (k : Nat) (xs : List Int) (next : (List Int × Int × Unit) → Prop), k < n → xs = M.idx g k → xs.length ≤ k → (g (k : Int) = true → next (xs ++ [(k : Int)], ((k + 1 : Nat) : Int), ())) → (g (k : Int) = false → next (xs, ((k + 1 : Nat) : Int), ())) → B (xs, (k : Int), ()) next)
    (he : ∀ next : (List Int × Int × Unit) → Prop, B (M.idx g n, (n : Int), ()) next) : qd4 B ([], 0, ()) := by
 refine qd2 n (fun k => (M.idx g k, (k : Int), ())) (fun _ => True) rfl trivial (fun k hk _ next hn => ?_) fun _ next => he next
 have hn := hn trivial
 unfold M.idx at hn
 exact hb k _ next hk rfl (qjX g k) (fun e => by rwa [if_pos e] at hn) fun e => by rwa [if_neg (by rw [e]; simp)] at hn
theorem qni {p : List D.Ins} (hp : M.qaT p = true) {k : Int} (h0 : 0 ≤ k) (h1 : k < (p.length : Int)) : M.qdh (rd p k) p.length = true := by
 simp only [M.qaT, Bool.and_eq_true, decide_eq_true_eq, List.all_eq_true] at hp
 exact hp.2 _ (qjr h0 h1)
theorem qgR {p : List D.Ins} (hp : M.qaT p = true) : p.length ≤ 32 := by
 simp only [M.qaT, Bool.and_eq_true, decide_eq_true_eq] at hp
 exact hp.1
theorem qgH {i : D.Ins} {n : Int} (h : M.qdh i n = true) (e : i.Op = 10 ∨ i.Op = 11) : 0 ≤ i.B ∧ i.B ≤ n := by
 simp only [M.qdh, Bool.and_eq_true] at h
 have h := h.2
 rcases e with e | e
 ·rw [if_neg (by omega), if_neg (by omega), if_neg (by omega), if_neg (by omega), if_pos e] at h
  simp only [Bool.and_eq_true, M.isIn, decide_eq_true_eq] at h
  exact h.2.1
 ·rw [if_neg (by omega), if_neg (by omega), if_neg (by omega), if_neg (by omega), if_neg (by omega), if_pos e] at h
  simp only [Bool.and_eq_true, M.isIn, decide_eq_true_eq] at h
  exact h.2.1
theorem qif {a b x : Int} : x ∈ M.qh1 a b ↔ x = a ∨ x = b := by
 unfold M.qh1
 split
 ·simp [or_comm]
 split
 ·rename_i h1 h2; subst h2; simp
 ·simp
theorem qjI (a b : Int) : (M.qh1 a b).length ≤ 2 := by
 unfold M.qh1
 (repeat' split) <;> simp
theorem qib {p : List D.Ins} {k : Int} (h : M.Node p k) : (∀ x ∈ M.qe6 p k, M.qdN p x) ∧ (M.qe6 p k).length ≤ 2 := by
 obtain ⟨hp, h0, h1⟩ := h
 unfold M.qe6
 split
 ·exact ⟨fun x hx => absurd hx List.not_mem_nil, by simp⟩
 rename_i hne
 have hlt : k < (p.length : Int) := by omega
 have hi := qni hp h0 hlt
 split
 ·exact ⟨fun x hx => by obtain rfl := List.mem_singleton.1 hx; exact ⟨by omega, by omega⟩, by simp⟩
 split
 ·rename_i e
  exact ⟨fun x hx => by obtain rfl := List.mem_singleton.1 hx; exact qgH hi (.inr e), by simp⟩
 split
 ·rename_i e
  refine ⟨fun x hx => ?_, qjI _ _⟩
  rcases qif.1 hx with rfl | rfl
  ·exact ⟨by omega, by omega⟩
  ·exact qgH hi (.inl e)
 ·exact ⟨fun x hx => by obtain rfl := List.mem_singleton.1 hx; exact ⟨by omega, by omega⟩, by simp⟩
def falses (l : List Bool) : Nat := l.count false
theorem qic : ∀ {l : List Bool} {k : Nat}, k < l.length → l[k]? = some false → falses (l.set k true) + 1 = falses l
 | [], k, hk, _ => absurd hk (by simp)
 | b :: l, 0, hk, h => by
  simp at h; subst h
  simp [falses]
 | b :: l, k + 1, hk, h => by
  have := qic (l := l) (k := k) (by simpa using hk) (by simpa using h)
  unfold falses at *
  simp only [List.set_cons_succ, List.count_cons]
  omega
theorem rdB {l : List Bool} {k : Int} (h0 : 0 ≤ k) (h1 : k < (l.length : Int)) : l[k.toNat]? = some (rd l k) := by
 have : k.toNat < l.length := by omega
 simp [rd, List.getD_eq_getElem?_getD, this]
theorem qi5 {l : List Bool} {k j : Int} (h0 : 0 ≤ k) (h1 : k < (l.length : Int)) (hj : 0 ≤ j) : rd (l.set k.toNat true) j = if j = k then true else rd l j := by
 unfold rd
 rw [List.getD_eq_getElem?_getD, List.getD_eq_getElem?_getD, List.getElem?_set]
 by_cases e : j = k
 ·subst e
  have : j.toNat < l.length := by omega
  simp [this]
 ·have : ¬ k.toNat = j.toNat := by omega
  rw [if_neg this, if_neg e]
theorem qld (p : List D.Ins) (wo : Int) : ∀ (f : Nat) (work : List Int) (seen : List Bool), (M.bfs p wo f work seen).length = seen.length
 | 0, _, _ => rfl
 | f + 1, [], _ => rfl
 | f + 1, k :: work, seen => by
  unfold M.bfs
  split
  ·exact qld p wo f _ _
  ·rw [qld p wo f]; simp
theorem qjW (p : List D.Ins) (wo : Int) {j : Int} (hj : 0 ≤ j) : ∀ (f : Nat) (work : List Int) (seen : List Bool), (∀ x ∈ work, M.Node p x) → seen.length = p.length + 1 → rd seen j = true → rd (M.bfs p wo f work seen) j = true
 | 0, _, _, _, _, h => h
 | f + 1, [], _, _, _, h => h
 | f + 1, k :: work, seen, hw, hl, h => by
  have hk := hw k List.mem_cons_self
  have hr : ∀ x ∈ work, M.Node p x := fun x hx => hw x (List.mem_cons_of_mem _ hx)
  unfold M.bfs
  split
  ·exact qjW p wo hj f _ _ hr hl h
  ·refine qjW p wo hj f _ _ (fun x hx => (List.mem_append.1 hx).elim (hr x) fun h' => ⟨hk.1, (qib hk).1 x h'⟩) (by simpa using hl) ?_
   have hk2 := hk.2
   unfold M.qdN at hk2
   rw [qi5 hk2.1 (by omega) hj]
   split
   ·rfl
   ·exact h
theorem qjQ {p : List D.Ins} {wo : Int} {I : List Bool → Prop} {B : (List Int × List Bool × Unit) → ((List Int × List Bool × Unit) → Prop) → Prop} {work0 : List Int} {seen0 R : List Bool} {fuel : Nat}
    (hs : M.Starts p work0) (hl0 : seen0.length = p.length + 1) (hI0 : I seen0) (hR : M.bfs p wo fuel work0 seen0 = R) (hf : 3 * falses seen0 + work0.length ≤ fuel)
    (hb0 : ∀ (k : Int) (rest : List Int) (seen : List Bool) (next : (List Int × List Bool × Unit) → Prop), M.Node p k → seen.length = p.length + 1 → I seen → (k = wo ∨ rd seen k = true) → next (rest, seen, ()) → B (k :: rest, seen, ()) next)
    (hb1 : ∀ (k : Int) (rest : List Int) (seen : List Bool) (next : (List Int × List Bool × Unit) → Prop), M.Node p k → seen.length = p.length + 1 → I seen → ¬ k = wo → rd seen k = false → rd R k = true → rest.length + (M.qe6 p k).length ≤ 17179869184 → (I (seen.set k.toNat true) → next (rest ++ M.qe6 p k, seen.set k.toNat true, ())) → B (k :: rest, seen, ()) next)
    (he : ∀ (next : (List Int × List Bool × Unit) → Prop), I R → B ([], R, ()) next) : qd4 B (work0, seen0, ()) := by
 obtain ⟨hp, hw, h4⟩ := hs
 have h32 := qgR hp
 have hc0 : falses seen0 ≤ p.length + 1 := by unfold falses; rw [← hl0]; exact List.count_le_length
 refine ⟨fun m z => ∃ work seen f, z = (work, seen, ()) ∧ m = 3 * falses seen + work.length ∧ m ≤ f ∧ M.bfs p wo f work seen = R ∧ seen.length = p.length + 1 ∧ (∀ x ∈ work, M.Node p x) ∧ m ≤ 200 ∧ I seen,
  ⟨_, work0, seen0, fuel, rfl, rfl, hf, hR, hl0, fun x hx => ⟨hp, hw x hx⟩, by omega, hI0⟩, ?_⟩
 rintro m z ⟨work, seen, f, rfl, rfl, hmf, hbf, hl, hwk, hm, hI⟩
 cases work with
 | nil =>
  have : seen = R := by
   cases f with
   | zero => exact hbf
   | succ f => exact hbf
  subst this
  exact he _ hI
 | cons k rest =>
  have hk := hwk k List.mem_cons_self
  have hr : ∀ x ∈ rest, M.Node p x := fun x hx => hwk x (List.mem_cons_of_mem _ hx)
  cases f with
  | zero => simp at hmf
  | succ f =>
   by_cases hc : k = wo ∨ rd seen k = true
   ·refine hb0 k rest seen _ hk hl hI hc ⟨_, ?_, rest, seen, f, rfl, rfl, ?_, ?_, hl, hr, ?_, hI⟩
    ·simp
    ·simp at hmf; omega
    ·rw [M.bfs, if_pos hc] at hbf; exact hbf
    ·simp at hm; omega
   ·have h1 : ¬ k = wo := fun e => hc (.inl e)
    have h2 : rd seen k = false := by simpa using fun e => hc (.inr e)
    have hk2 := hk.2
    unfold M.qdN at hk2
    have hn := qib hk
    have hfs := qic (l := seen) (k := k.toNat) (by omega) (by rw [rdB hk2.1 (by omega), h2])
    rw [M.bfs, if_neg hc] at hbf
    have hw' : ∀ x ∈ rest ++ M.qe6 p k, M.Node p x := fun x hx => (List.mem_append.1 hx).elim (hr x) fun h' => ⟨hk.1, hn.1 x h'⟩
    have hR' : rd R k = true := by
     rw [← hbf]
     refine qjW p wo hk2.1 f _ _ hw' (by simpa using hl) ?_
     rw [qi5 hk2.1 (by omega) hk2.1, if_pos rfl]
    refine hb1 k rest seen _ hk hl hI h1 h2 hR' ?_ fun hI' => ⟨_, ?_, _, _, f, rfl, rfl, ?_, hbf, by simpa using hl, hw', ?_, hI'⟩
    ·simp at hm; omega
    ·simp only [List.length_append, List.length_cons]; omega
    ·simp only [List.length_append, List.length_cons] at *; omega
    ·simp only [List.length_append, List.length_cons] at *; omega
theorem qhg (n : Nat) : (List.replicate (n + 1) false).length = n + 1 := by simp
theorem qgt (n : Nat) : falses (List.replicate (n + 1) false) = n + 1 := by simp [falses]
theorem qjS (n : Nat) (k : Int) : rd (List.replicate (n + 1) false) k = false := by
 unfold rd
 rw [List.getD_eq_getElem?_getD, List.getElem?_replicate]
 split <;> rfl
inductive Rch (p : List D.Ins) (wo : Int) (frm : List Int) : Int → Prop
 | base {s : Int} : s ∈ frm → s ≠ wo → Rch p wo frm s
 | step {k s : Int} : Rch p wo frm k → s ∈ M.qe6 p k → s ≠ wo → Rch p wo frm s
theorem qiA {p : List D.Ins} {wo : Int} {frm : List Int} : ∀ (f : Nat) (work : List Int) (seen : List Bool), (∀ x ∈ work, M.Node p x) → seen.length = p.length + 1 → (∀ x ∈ work, x = wo ∨ Rch p wo frm x) → (∀ x, 0 ≤ x → rd seen x = true → Rch p wo frm x) →
    ∀ x, 0 ≤ x → rd (M.bfs p wo f work seen) x = true → Rch p wo frm x
 | 0, _, _, _, _, _, h => h
 | f + 1, [], _, _, _, _, h => h
 | f + 1, k :: work, seen, hw, hl, hwr, h => by
  have hk := hw k List.mem_cons_self
  have hk2 := hk.2
  unfold M.qdN at hk2
  have hr : ∀ x ∈ work, M.Node p x := fun x hx => hw x (List.mem_cons_of_mem _ hx)
  have hwr' : ∀ x ∈ work, x = wo ∨ Rch p wo frm x := fun x hx => hwr x (List.mem_cons_of_mem _ hx)
  unfold M.bfs
  split
  ·exact qiA f work seen hr hl hwr' h
  ·rename_i hc
   have hkR : Rch p wo frm k := (hwr k List.mem_cons_self).resolve_left fun e => hc (.inl e)
   refine qiA f _ _ (fun x hx => (List.mem_append.1 hx).elim (hr x) fun h' => ⟨hk.1, (qib hk).1 x h'⟩) (by simpa using hl) (fun x hx => (List.mem_append.1 hx).elim (hwr' x) fun h' => ?_) fun x hx hs => ?_
   ·by_cases e : x = wo
    ·exact .inl e
    ·exact .inr (.step hkR h' e)
   ·rw [qi5 hk2.1 (by omega) hx] at hs
    split at hs
    ·rename_i e; rw [e]; exact hkR
    ·exact h x hx hs
def Closed (p : List D.Ins) (wo : Int) (frm work : List Int) (seen : List Bool) : Prop :=
 (∀ s ∈ frm, s ≠ wo → rd seen s = true ∨ s ∈ work) ∧ ∀ k, M.qdN p k → rd seen k = true → ∀ s ∈ M.qe6 p k, s ≠ wo → rd seen s = true ∨ s ∈ work
theorem qi8 {p : List D.Ins} {wo : Int} {frm : List Int} : ∀ (f : Nat) (work : List Int) (seen : List Bool), (∀ x ∈ work, M.Node p x) → (∀ x ∈ frm, M.qdN p x) → seen.length = p.length + 1 → 3 * falses seen + work.length ≤ f → Closed p wo frm work seen → Closed p wo frm [] (M.bfs p wo f work seen)
 | 0, work, seen, _, _, _, hf, hc => by
  have : work = [] := List.eq_nil_of_length_eq_zero (by omega)
  subst this; exact hc
 | f + 1, [], seen, _, _, _, _, hc => hc
 | f + 1, k :: work, seen, hw, hfr, hl, hf, hc => by
  have hk := hw k List.mem_cons_self
  have hk2 := hk.2
  have hk3 := hk.2
  unfold M.qdN at hk2
  have hr : ∀ x ∈ work, M.Node p x := fun x hx => hw x (List.mem_cons_of_mem _ hx)
  simp only [List.length_cons] at hf
  obtain ⟨c1, c2⟩ := hc
  unfold M.bfs
  split
  ·rename_i hd
   have drop : ∀ s, s ≠ wo → (rd seen s = true ∨ s ∈ k :: work) → rd seen s = true ∨ s ∈ work := by
    intro s hs h
    rcases h with h | h
    ·exact .inl h
    rcases List.mem_cons.1 h with rfl | h
    ·exact .inl (hd.resolve_left hs)
    ·exact .inr h
   exact qi8 f work seen hr hfr hl (by omega) ⟨fun s hs hne => drop s hne (c1 s hs hne), fun j hj hsj s hs hne => drop s hne (c2 j hj hsj s hs hne)⟩
  ·rename_i hd
   have h2 : rd seen k = false := by simpa using fun e => hd (.inr e)
   have hfs := qic (l := seen) (k := k.toNat) (by omega) (by rw [rdB hk2.1 (by omega), h2])
   have hn := qib hk
   have up : ∀ s, M.qdN p s → (rd seen s = true ∨ s ∈ k :: work) → rd (seen.set k.toNat true) s = true ∨ s ∈ work ++ M.qe6 p k := by
    intro s hs h
    have hs2 := hs
    unfold M.qdN at hs2
    rw [qi5 hk2.1 (by omega) hs2.1]
    rcases h with h | h
    ·left; split; rfl; exact h
    rcases List.mem_cons.1 h with rfl | h
    ·left; rw [if_pos rfl]
    ·exact .inr (List.mem_append_left _ h)
   refine qi8 f _ _ (fun x hx => (List.mem_append.1 hx).elim (hr x) fun h' => ⟨hk.1, hn.1 x h'⟩) hfr (by simpa using hl) (by simp only [List.length_append]; omega)
    ⟨fun s hs hne => up s (hfr s hs) (c1 s hs hne), fun j hj hsj s hs hne => ?_⟩
   have hj2 := hj
   unfold M.qdN at hj2
   rw [qi5 hk2.1 (by omega) hj2.1] at hsj
   split at hsj
   ·rename_i e; subst e
    exact .inr (List.mem_append_right _ hs)
   ·exact up s ((qib ⟨hk.1, hj⟩).1 s hs) (c2 j hj hsj s hs hne)
theorem qng {p : List D.Ins} {wo : Int} {frm : List Int} (hp : M.qaT p = true) (hf : ∀ x ∈ frm, M.qdN p x) {x : Int} (h : Rch p wo frm x) : M.qdN p x := by
 induction h with
 | base h _ => exact hf _ h
 | step _ hs _ ih => exact (qib ⟨hp, ih⟩).1 _ hs
theorem qeu {p : List D.Ins} {wo : Int} {frm : List Int} (hp : M.qaT p = true) (hf : ∀ x ∈ frm, M.qdN p x) {x : Int} (hx : M.qdN p x) : rd (M.reached p frm wo) x = true ↔ Rch p wo frm x := by
 constructor
 ·intro h
  refine qiA (frm := frm) _ frm _ (fun y hy => ⟨hp, hf y hy⟩) (qhg _) (fun y hy => ?_) (fun y _ hs => by rw [qjS] at hs; cases hs) x hx.1 h
  by_cases e : y = wo
  ·exact .inl e
  ·exact .inr (.base hy e)
 ·intro h
  have hc := qi8 (p := p) (wo := wo) (frm := frm) (3 * (p.length + 1) + frm.length) frm (List.replicate (p.length + 1) false) (fun y hy => ⟨hp, hf y hy⟩) hf (qhg _) (by rw [qgt]; omega)
   ⟨fun s hs _ => .inr hs, fun k _ hs => by rw [qjS] at hs; cases hs⟩
  clear hx
  induction h with
  | base h hne => exact (hc.1 _ h hne).resolve_right List.not_mem_nil
  | step hk hs hne ih => exact (hc.2 _ (qng hp hf hk) ih _ hs hne).resolve_right List.not_mem_nil
theorem qiy (p : List D.Ins) (frm : List Int) (wo : Int) : (M.reached p frm wo).length = p.length + 1 := by
 unfold M.reached; rw [qld]; simp
theorem ql7 {p : List D.Ins} {k later : Int} (h : M.Node p k) (hl : M.qdN p later) (h1 : M.qeV p k = true) (h2 : M.qdj p k later = true) : M.qeV p later = true := by
 obtain ⟨hp, hk⟩ := h
 have hn : M.qdN p (p.length : Int) := ⟨by omega, by omega⟩
 have one : ∀ z, M.qdN p z → ∀ x ∈ [z], M.qdN p x := fun z hz x hx => by obtain rfl := List.mem_singleton.1 hx; exact hz
 have r1 := (qeu hp (one k hk) hn).1 h1
 have r2 : ¬ Rch p later [k] (p.length : Int) := fun hr => by
  have := (qeu hp (one k hk) hn).2 hr
  unfold M.qdj at h2
  rw [this] at h2; cases h2
 have hl1 : later ≠ -1 := by have := hl.1; omega
 have key : ∀ x, Rch p (-1) [k] x → Rch p later [k] x ∨ Rch p (-1) [later] x := by
  intro x hx
  induction hx with
  | @base s hs hne =>
   by_cases e : s = later
   ·exact .inr (.base (by simp [e]) hne)
   ·exact .inl (.base hs e)
  | @step j s _ hs hne ih =>
   rcases ih with ih | ih
   ·by_cases e : s = later
    ·exact .inr (.base (by simp [e]) hne)
    ·exact .inl (.step ih hs e)
   ·exact .inr (.step ih hs hne)
 exact (qeu hp (one later hl) hn).2 ((key _ r1).resolve_left r2)
theorem qj9 {p : List D.Ins} (h : M.qf4 p) : wrap .i64 ((p.length : Int) + 1) = ((p.length + 1 : Nat) : Int) := by
 unfold M.qf4 at h
 rw [w64 (by omega) (by omega)]; push_cast; rfl
theorem qgd {p : List D.Ins} (hp : M.qaT p = true) : M.qf4 p := by have := qgR hp; unfold M.qf4; omega
theorem qhB {p : List D.Ins} (h : M.qf4 p) : M.Long p := by unfold M.qf4 at h; unfold M.Long; omega
theorem qjd {l : List Int} {g : Int → Bool} {k : Nat} (hk : k < l.length) : (l.take (k + 1)).filter g = if g (rd l (k : Int)) then (l.take k).filter g ++ [rd l (k : Int)] else (l.take k).filter g := by
 rw [List.take_add_one, List.getElem?_eq_getElem hk, qdO hk, List.filter_append]
 by_cases e : g l[k] = true
 ·simp [e]
 ·simp [e]
theorem wp.qcE.math (l : List Int) (n : Int) (h : M.qfn l n) : wp.qcE l n (fun r => r = M.qcE l n) := by
 have hl : l.length ≤ 17179869183 := h
 refine qd2 l.length (fun k => ((l.take k).filter (fun x => x != n), (k : Int), ())) (fun _ => True) rfl trivial (fun k hk _ next hn => ?_) fun _ next => ?_
 ·have hn := hn trivial
  rw [qjd hk] at hn
  have hle := List.length_filter_le (fun x => x != n) (l.take k)
  have hle2 : (l.take k).length ≤ k := by simp; omega
  refine qaA (by simp; omega) ⟨by omega, qa2 (fun e => ⟨by omega, ?_, ?_⟩) fun e => ?_⟩
  ·simp only [List.length_singleton]; omega
  ·rw [if_pos e] at hn; rw [up64 hk (by omega)]; exact hn
  ·rw [if_neg (by rw [e]; simp)] at hn; rw [up64 hk (by omega)]; exact hn
 ·refine qax (by simp) ?_
  rw [List.take_length]; rfl
theorem wp.qdv.math (p : List D.Ins) (k : Int) (h : M.qgE p k) : wp.qdv p k (fun r => r = M.qdv p k) := by
 refine ⟨qhB h, fun r hr => qa2 (fun e r2 hr2 => ?_) fun e => ?_⟩
 all_goals have hr' : r = M.qaT p := hr
 ·rw [hr2]; simp [M.qdv, M.qeF, ← hr', e, M.qaM]
 ·simp [M.qdv, M.qeF, ← hr', e]
theorem qlE (l : List Int) (n : Int) : ∀ k, M.putAt l n k ≤ k
 | 0 => Nat.le_refl _
 | k + 1 => by
  unfold M.putAt
  split
  ·have := qlE l n k; omega
  ·exact Nat.le_refl _
theorem qlZ {σ : Type} {A : (σ → Prop) → Prop} {B : σ → Prop} (v : σ) (h : B v) (hA : ∀ J : σ → Prop, J v → A J) : qf3 A B := hA B h
theorem wp.qcC.math (l : List Int) (n : Int) (h : M.qgo l n) : wp.qcC l n (fun r => r = M.qcC l n) := by
 have hl : l.length ≤ 17179869183 := h
 have hle := qlE l n l.length
 have wd : ∀ k : Nat, 0 < k → k ≤ l.length → wrap .i64 ((k : Int) - 1) = ((k - 1 : Nat) : Int) := fun k h0 hk => by rw [w64 (by omega) (by omega)]; omega
 refine qlZ (((M.putAt l n l.length : Nat) : Int), ()) ?_ fun J hJ => ?_
 ·generalize hq : M.putAt l n l.length = q at *
  have hd : ((q : Int)).toNat = q := by simp
  have tail : ¬ (q > 0 ∧ rd l ((q : Int) - 1) = n) → (0 ≤ (q : Int) ∧ (q : Int) ≤ (l.length : Int)) ∧ (([] : List Int).length + (List.take ((q : Int).toNat) l).length ≤ 17179869184) ∧ ((([] : List Int) ++ List.take ((q : Int).toNat) l).length + ([n] : List Int).length ≤ 17179869184) ∧ (0 ≤ (q : Int) ∧ (q : Int) ≤ (l.length : Int)) ∧ (((([] : List Int) ++ List.take ((q : Int).toNat) l) ++ [n]).length + (List.drop ((q : Int).toNat) l).length ≤ 17179869184) ∧ ((([] : List Int) ++ List.take ((q : Int).toNat) l) ++ [n]) ++ List.drop ((q : Int).toNat) l = M.qcC l n := by
   intro hn
   rw [hd]
   refine ⟨by omega, by simp; omega, by simp; omega, by omega, by simp; omega, ?_⟩
   simp only [M.qcC, hq]
   rw [if_neg hn]; simp
  show qf3 (σ := Unit) _ _
  refine qa2 (fun e => ⟨?_, qa2 (fun e2 => ?_) fun e2 => ?_⟩) fun e => ?_
  ·have e : q > 0 := by simp at e; omega
   rw [wd q e hle]; omega
  ·have e : q > 0 := by simp at e; omega
   rw [wd q e hle] at e2
   have e2 : rd l ((q : Int) - 1) = n := by rw [show (q : Int) - 1 = ((q - 1 : Nat) : Int) by omega]; simpa using e2
   simp only [M.qcC, hq]
   rw [if_pos ⟨e, e2⟩]
  ·have e : q > 0 := by simp at e; omega
   rw [wd q e hle] at e2
   refine tail fun hh => ?_
   rw [show (q : Int) - 1 = ((q - 1 : Nat) : Int) by omega] at hh
   have := hh.2
   simp [this] at e2
  ·have e : ¬ q > 0 := by simp at e; omega
   exact tail fun hh => e hh.1
 ·refine ⟨fun m z => ∃ k : Nat, z = ((k : Int), ()) ∧ m = k ∧ k ≤ l.length ∧ M.putAt l n k = M.putAt l n l.length, ⟨l.length, l.length, rfl, rfl, Nat.le_refl _, rfl⟩, ?_⟩
  rintro k z ⟨_, rfl, rfl, hk, hput⟩
  refine qa2 (fun e => ⟨?_, qa2 (fun e2 => ?_) fun e2 => ?_⟩) fun e => ?_
  ·have e : k > 0 := by simp at e; omega
   rw [wd k e hk]; omega
  ·have e : k > 0 := by simp at e; omega
   rw [wd k e hk] at e2 ⊢
   refine ⟨k - 1, by omega, k - 1, rfl, rfl, by omega, ?_⟩
   rw [← hput]
   obtain ⟨j, rfl⟩ : ∃ j, k = j + 1 := ⟨k - 1, by omega⟩
   rw [M.putAt, if_pos (by simpa using e2)]; rfl
  ·have e : k > 0 := by simp at e; omega
   rw [wd k e hk] at e2
   obtain ⟨j, rfl⟩ : ∃ j, k = j + 1 := ⟨k - 1, by omega⟩
   rw [M.putAt, if_neg (by simpa using e2)] at hput
   rw [← hput] at hJ; exact hJ
  ·have e : k = 0 := by simp at e; omega
   subst e
   rw [← hput] at hJ; exact hJ
theorem qnQ (a b : Int) : M.qcC [a] b = M.qh1 a b := by
 unfold M.qcC M.qh1
 have hq : M.putAt [a] b 1 = if a > b then 0 else 1 := by
  unfold M.putAt
  have : rd [a] ((0 : Nat) : Int) = a := rfl
  rw [this]
  split <;> rfl
 have h1l : ([a] : List Int).length = 1 := rfl
 by_cases h1 : b < a
 ·have hq' : M.putAt [a] b ([a] : List Int).length = 0 := by rw [h1l, hq, if_pos h1]
  rw [hq', if_pos h1, if_neg (by omega)]; simp
 ·have hq' : M.putAt [a] b ([a] : List Int).length = 1 := by rw [h1l, hq, if_neg h1]
  rw [hq', if_neg h1]
  have : rd [a] (((1 : Nat) : Int) - 1) = a := rfl
  rw [this]
  by_cases h2 : b = a
  ·rw [if_pos h2, if_pos ⟨by omega, h2.symm⟩]
  ·rw [if_neg h2, if_neg (fun h => h2 h.2.symm)]; simp
theorem wp.qc9.math (p : List D.Ins) (k : Int) (h : M.qeR p k) : wp.qc9 p k (fun r => r = M.qc9 p k) := by
 obtain ⟨hp, h0, h1⟩ := h
 have h32 := qgR hp
 have hw : wrap .i64 (k + 1) = k + 1 := w64 (by omega) (by omega)
 unfold wp.qc9
 rw [hw]
 refine qa2 (fun e => ?_) fun e => ?_
 ·have e : k = p.length := by simpa using e
  simp [M.qc9, M.qe6, e]
 have e : ¬ k = p.length := by simpa using e
 refine ⟨by omega, qa2 (fun e1 => ?_) fun e1 => qa2 (fun e2 => ⟨by omega, ?_⟩) fun e2 => qa2 (fun e3 => ⟨by omega, by show (1 : Nat) ≤ 17179869183; omega, fun r hr => ?_⟩) fun e3 => ?_⟩
 all_goals simp only [M.qc9, M.qe6]
 all_goals rw [if_neg e]
 ·rw [if_pos (by simpa using e1)]
 ·rw [if_neg (by simpa using e1), if_pos (by simpa using e2)]
 ·rw [if_neg (by simpa using e1), if_neg (by simpa using e2), if_pos (by simpa using e3), hr, qnQ]
 ·rw [if_neg (by simpa using e1), if_neg (by simpa using e2), if_neg (by simpa using e3)]
theorem qgf {k : Int} {rest : List Int} : rd (k :: rest) 0 = k ∧ List.drop ((1 : Int).toNat) (k :: rest) = rest ∧ (0 ≤ (0 : Int) ∧ (0 : Int) < ((k :: rest).length : Int)) ∧ (0 ≤ (1 : Int) ∧ (1 : Int) ≤ ((k :: rest).length : Int)) ∧ decide (((k :: rest).length : Int) > 0) = true := by
 refine ⟨rfl, rfl, by simp only [List.length_cons]; omega, by simp only [List.length_cons]; omega, ?_⟩
 simp only [List.length_cons, decide_eq_true_eq]; omega
theorem qkY {p : List D.Ins} (hp : M.qaT p = true) : List.replicate ((wrap .i64 ((p.length : Int) + 1)).toNat) (default : Bool) = List.replicate (p.length + 1) false := by
 rw [qj9 (qgd hp)]; rfl
theorem qf7 {p : List D.Ins} {k : Int} {seen : List Bool} (h : M.Node p k) (hl : seen.length = p.length + 1) : 0 ≤ k ∧ k < (seen.length : Int) := by
 obtain ⟨_, h0, h1⟩ := h
 omega
theorem wp.qcu.math (p : List D.Ins) (l : List Int) (h : M.qfH p l) : wp.qcu p l (fun r => r = M.qcu p l) := by
 have hp := h.1
 have h32 := qgR hp
 have h4 := h.2.2
 unfold wp.qcu
 rw [qkY hp, qj9 (qgd hp)]
 refine ⟨by omega, by simp; omega, ?_⟩
 rw [List.nil_append]
 refine qjQ (wo := -1) (I := fun _ => True) h (qhg _) trivial (R := M.qcu p l) rfl (by rw [qgt]; omega) (fun k rest seen next hk hl _ hc hn => ?_) (fun k rest seen next hk hl _ h1 h2 _ h5 hn => ?_) fun next _ => qax rfl rfl
 ·obtain ⟨f1, f2, f3, f4, f5⟩ := qgf (k := k) (rest := rest)
  refine qaA f5 ⟨f3, f4, ?_⟩
  rw [f1, f2]
  have hk1 : ¬ k = -1 := by have := hk.2.1; omega
  exact ⟨qf7 hk hl, qaA (hc.resolve_left hk1) hn⟩
 ·obtain ⟨f1, f2, f3, f4, f5⟩ := qgf (k := k) (rest := rest)
  refine qaA f5 ⟨f3, f4, ?_⟩
  rw [f1, f2]
  refine ⟨qf7 hk hl, qax h2 ⟨qf7 hk hl, hk, fun r hr => ?_⟩⟩
  have hr' : r = M.qe6 p k := hr
  rw [hr']
  exact ⟨h5, hn trivial⟩
theorem qls {p : List D.Ins} {k : Int} (h : M.Node p k) : M.Starts p [k] := ⟨h.1, fun x hx => by obtain rfl := List.mem_singleton.1 hx; exact h.2, by simp⟩
theorem qeB {p : List D.Ins} {k : Int} : M.qeF p k = true ↔ M.Node p k := by
 simp only [M.qeF, M.Node, M.qdN, Bool.and_eq_true, M.isIn, decide_eq_true_eq]
theorem wp.qaE.math (p : List D.Ins) (k : Int) (h : M.qdD p k) : wp.qaE p k (fun r => r = M.qaE p k) := by
 refine ⟨h, fun r hr => qa2 (fun e => ?_) fun e => ?_⟩
 all_goals have hr' : r = M.qeF p k := hr
 ·have hN := qeB.1 (hr'.symm.trans e)
  refine ⟨qls hN, fun r2 hr2 => ⟨?_, ?_⟩⟩
  ·rw [hr2]; show _ ∧ _ < ((M.reached p [k] (-1)).length : Int); rw [qiy]; omega
  ·rw [hr2]; simp only [M.qaE, ← hr', e, Bool.true_and]; rfl
 ·simp [M.qaE, ← hr', e]
theorem wp.qcs.math (p : List D.Ins) (k later : Int) (h : M.qew p k later) : wp.qcs p k later (fun r => r = M.qcs p k later) := by
 have hp := h.1
 have h32 := qgR hp
 have hs := qls h
 have hn : M.qdN p (p.length : Int) := ⟨by omega, by omega⟩
 refine qa2 (fun e => ?_) fun e => ?_
 ·have e : k = later := by simpa using e
  show true = M.qdj p k later
  have : rd (M.reached p [k] later) (p.length : Int) = false := by
   refine Bool.eq_false_iff.2 fun hr => ?_
   have hr := (qeu hp hs.2.1 hn).1 hr
   have none : ∀ x, ¬ Rch p later [k] x := by
    intro x hx
    induction hx with
    | base h1 h2 => obtain rfl := List.mem_singleton.1 h1; exact h2 e
    | step _ _ _ ih => exact ih
   exact none _ hr
  unfold M.qdj; rw [this]; rfl
 rw [qkY hp, qj9 (qgd hp)]
 refine ⟨by omega, ?_⟩
 refine qjQ (wo := later) (I := fun seen => rd seen (p.length : Int) = false) hs (qhg _) (qjS _ _) (R := M.reached p [k] later) rfl (by rw [qgt]; simp) (fun j rest seen next hk hl _ hc hn => ?_) (fun j rest seen next hk hl hI h1 h2 h3 h5 hn => ?_) fun next hI => qax rfl ?_
 ·obtain ⟨f1, f2, f3, f4, f5⟩ := qgf (k := j) (rest := rest)
  refine qaA f5 ⟨f3, f4, ?_⟩
  rw [f1, f2]
  refine ⟨qf7 hk hl, qa2 (fun _ => hn) fun e1 => qaA ?_ hn⟩
  rcases hc with hc | hc
  ·simpa using hc
  ·rw [hc] at e1; cases e1
 ·obtain ⟨f1, f2, f3, f4, f5⟩ := qgf (k := j) (rest := rest)
  refine qaA f5 ⟨f3, f4, ?_⟩
  rw [f1, f2]
  refine ⟨qf7 hk hl, qax h2 (qax (by simpa using h1) (qa2 (fun e1 => ?_) fun e1 => ⟨qf7 hk hl, hk, fun r hr => ?_⟩))⟩
  ·have e1 : j = (p.length : Int) := by simpa using e1
   show false = M.qdj p k later
   unfold M.qdj
   rw [← e1, h3]; rfl
  ·have e1 : ¬ j = (p.length : Int) := by simpa using e1
   have hr' : r = M.qe6 p j := hr
   rw [hr']
   refine ⟨h5, hn ?_⟩
   have hj := hk.2
   unfold M.qdN at hj
   rw [qi5 hj.1 (by omega) (by omega), if_neg (fun e => e1 e.symm)]
   exact hI
 ·show true = M.qdj p k later
  unfold M.qdj; rw [hI]; rfl
theorem wp.qce.math (p : List D.Ins) (k : Int) (h : M.qfC p k) : wp.qce p k (fun r => r = M.qce p k) := by
 refine ⟨h, fun r hr => qa2 (fun e => ?_) fun e => ?_⟩
 ·have := nt e (show r = (M.qeF p k && M.qeV p k) from hr)
  simp [M.qce, M.qci, this]
 ·have he := nf e (show r = (M.qeF p k && M.qeV p k) from hr)
  have hN : M.Node p k := qeB.1 (by simp only [Bool.and_eq_true] at he; exact he.1)
  have h32 := qgR hN.1
  have hM : M.qce p k = M.idx (M.qdj p k) (p.length + 1) := by simp only [M.qce, M.qci, he, if_true]
  rw [hM]
  refine qk4 (fun j xs next hj hxs hle h1 h2 => ?_) fun next => qax (by simp; omega) rfl
  refine qaA (by simp; omega) ⟨hN, fun r2 hr2 => qa2 (fun e2 => ⟨by simp; omega, ?_⟩) fun e2 => ?_⟩
  ·rw [up64 (n := p.length + 1) hj (by omega)]; exact h1 ((show r2 = M.qdj p k (j : Int) from hr2).symm.trans e2)
  ·rw [up64 (n := p.length + 1) hj (by omega)]; exact h2 ((show r2 = M.qdj p k (j : Int) from hr2).symm.trans e2)
theorem ql0 (p : List D.Ins) (all l : List Int) (k : Nat) (hk : k < l.length) : M.qgL p all (l.drop k) = if all.all (M.qdj p (rd l (k : Int))) then rd l (k : Int) else M.qgL p all (l.drop (k + 1)) := by
 rw [List.drop_eq_getElem_cons hk, qdO hk]; rfl
theorem wp.qcS.math (p : List D.Ins) (l : List Int) (h : M.qfq p l) : wp.qcS p l (fun r => r = M.qcS p l) := by
 obtain ⟨h1, h2⟩ := h
 have hl : l.length ≤ 17179869183 := h1
 refine qd2 l.length (fun k => ((k : Int), ())) (fun k => M.qgL p l l = M.qgL p l (l.drop k)) rfl rfl (fun k hk hF next hn => ?_) fun hF next => qax (by simp) ?_
 ·rw [ql0 p l l k hk] at hF
  refine qaA (by simp; omega) ?_
  have hN := h2 _ (qgy hk)
  refine qd2 l.length (fun j => ((l.take j).all (M.qdj p (rd l (k : Int))), (j : Int), ())) (fun _ => True) rfl trivial (fun j hj _ next2 hn2 => ?_) fun _ next2 => ?_
  ·have hn2 := hn2 trivial
   have ht : (l.take (j + 1)).all (M.qdj p (rd l (k : Int))) = ((l.take j).all (M.qdj p (rd l (k : Int))) && M.qdj p (rd l (k : Int)) (rd l (j : Int))) := by
    rw [List.take_add_one, List.getElem?_eq_getElem hj, qdO hj, List.all_append]; simp
   rw [ht] at hn2
   refine qaA (by simp; omega) (qa2 (fun e => ⟨by omega, by omega, hN, fun r hr => ?_⟩) fun e => ?_)
   ·rw [e, Bool.true_and] at hn2
    rw [hr, up64 hj (by omega)]; exact hn2
   ·rw [e, Bool.false_and] at hn2
    rw [up64 hj (by omega)]; exact hn2
  ·refine qax (by simp) ?_
   rw [List.take_length]
   refine qa2 (fun e => ⟨by omega, ?_⟩) fun e => ?_
   ·rw [if_pos e] at hF; exact hF.symm
   ·rw [if_neg (by rw [e]; simp)] at hF
    rw [up64 hk (by omega)]; exact hn hF
 ·rw [List.drop_length] at hF; exact hF.symm
theorem qfO {p : List D.Ins} {k x : Int} (h : x ∈ M.others (M.qci p k) k) : M.Node p x ∧ M.Node p k ∧ M.qeV p k = true ∧ M.qdj p k x = true := by
 have h := (List.mem_filter.1 h).1
 unfold M.qci at h
 split at h
 ·rename_i e
  simp only [Bool.and_eq_true] at e
  have hN := qeB.1 e.1
  obtain ⟨j, hj, rfl, hg⟩ := qjc.1 h
  exact ⟨⟨hN.1, by omega, by omega⟩, hN, e.2, hg⟩
 ·exact absurd h List.not_mem_nil
theorem qi7 (p : List D.Ins) (k : Int) : (M.qci p k).length ≤ p.length + 1 := by
 unfold M.qci
 split
 ·exact qjX _ _
 ·simp
theorem qkF {p : List D.Ins} (hp : M.qf4 p) (k : Int) : M.Nodes p (M.others (M.qci p k) k) := by
 have h1 := qi7 p k
 have h2 := List.length_filter_le (fun x => x != k) (M.qci p k)
 unfold M.qf4 at hp
 refine ⟨?_, fun x hx => (qfO hx).1⟩
 show (M.others (M.qci p k) k).length ≤ 17179869183
 unfold M.others; omega
theorem wp.qbT.math (p : List D.Ins) (k : Int) (h : M.qeY p k) : wp.qbT p k (fun r => r = M.qbT p k) := by
 have h1 := qi7 p k
 have hs : p.length ≤ 2097152 := h
 refine ⟨h, fun r hr => ⟨?_, fun r2 hr2 => ⟨?_, fun r3 hr3 => ?_⟩⟩⟩
 ·rw [hr]; show (M.qci p k).length ≤ 17179869183; omega
 ·rw [hr2, hr]; exact qkF h k
 ·rw [hr3, hr2, hr]; rfl
theorem qnN {p : List D.Ins} {b : Int} (h : M.Branch p b) : M.Node p (b + 1) ∧ M.Node p (rd p b).B ∧ M.Node p b ∧ b + 1 < 9223372036854775807 := by
 obtain ⟨hp, h0, h1, hb⟩ := h
 have h32 := qgR hp
 simp only [M.isBr, Bool.and_eq_true, beq_iff_eq] at hb
 have ht := qgH (qni hp h0 h1) (.inl hb.1)
 exact ⟨⟨hp, by omega, by omega⟩, ⟨hp, ht⟩, ⟨hp, by omega, by omega⟩, by omega⟩
theorem wp.qcl.math (p : List D.Ins) (b : Int) (h : M.qfU p b) : wp.qcl p b (fun r => r = M.qcl p b) := by
 obtain ⟨n1, n2, n3, n4⟩ := qnN h
 have hs := qgd h.1
 have hw : wrap .i64 (b + 1) = b + 1 := w64 (by have := h.2.1; omega) (by omega)
 have hb := h.2
 unfold wp.qcl
 rw [hw]
 have m1 : M.qaE p (b + 1) = M.qeV p (b + 1) := by simp [M.qaE, qeB.2 n1]
 have m2 : M.qaE p (rd p b).B = M.qeV p (rd p b).B := by simp [M.qaE, qeB.2 n2]
 refine ⟨hs, fun r hr => qa2 (fun e => ?_) fun e => ⟨⟨hb.1, hb.2.1⟩, hs, fun r2 hr2 => qa2 (fun e2 => ?_) fun e2 => ⟨hs, fun r3 hr3 => ?_⟩⟩⟩
 all_goals rw [m1] at hr
 ·simp [M.qcl, M.qgF, nt e hr]
 ·rw [m2] at hr2
  simp [M.qcl, M.qgF, nt e2 hr2]
 ·rw [m2] at hr2
  rw [hr3]; simp [M.qcl, M.qgF, nf e hr, nf e2 hr2, M.qbT]
theorem qmy {p : List D.Ins} {b : Int} (h : M.has (M.branches p) b = true) : M.Branch p b := by
 simp only [M.has, List.any_eq_true, beq_iff_eq] at h
 obtain ⟨x, hx, rfl⟩ := h
 unfold M.branches at hx
 split at hx
 ·rename_i hp
  obtain ⟨j, hj, rfl, hg⟩ := qjc.1 hx
  exact ⟨hp, by omega, by omega, hg⟩
 ·exact absurd hx List.not_mem_nil
theorem qkD (p : List D.Ins) : (M.branches p).length ≤ p.length := by
 unfold M.branches
 split
 ·exact qjX _ _
 ·simp
end Go.V
namespace Go.V
open IntKind (wrap)
def wp.cmp_isNaN_int (x0 : Int) (Q : Bool → Prop) : Prop :=
 Q (x0 != x0)
def wp.cmp_Less_int (x0 : Int) (x1 : Int) (Q : Bool → Prop) : Prop :=
 (∀ r21, r21 = M.cmp_isNaN_int x0 → bcase r21 ((∀ r26, r26 = M.cmp_isNaN_int x1 → bcase (!r26) (Q true) (Q (decide (x0 < x1))))) (Q (decide (x0 < x1))))
def wp.qao (xs0 : List Int) (x1 : Int) (x2 : Int) (Q : ((List Int)) → Prop) : Prop :=
 qd4 (σ := Int × (List Int) × Unit) (fun (p299 : Int × (List Int) × Unit) next126 => match p299 with | (i120, xs121, _) => bcase (decide (i120 < x2)) (qd4 (σ := Int × (List Int) × Unit) (fun (p294 : Int × (List Int) × Unit) next204 => match p294 with | (i198, xs199, _) => qf3 (σ := Unit) (fun J206 => bcase (decide (i198 > x1)) (((0 ≤ i198 ∧ i198 < (xs199.length : Int)) ∧ ((0 ≤ (wrap .i64 (i198 - 1)) ∧ (wrap .i64 (i198 - 1)) < (xs199.length : Int)) ∧ (((∀ r219, r219 = M.cmp_Less_int (rd xs199 i198) (rd xs199 (wrap .i64 (i198 - 1))) → bcase r219 (J206 (())) (next126 ((wrap .i64 (i120 + 1)), xs199, ())))) ∧ ((∀ r228, r228 = M.cmp_Less_int (rd xs199 i198) (rd xs199 (wrap .i64 (i198 - 1))) → bcase r228 (J206 (())) (next126 ((wrap .i64 (i120 + 1)), xs199, ())))) ∧ True)))) (((next126 ((wrap .i64 (i120 + 1)), xs199, ())) ∧ (next126 ((wrap .i64 (i120 + 1)), xs199, ())) ∧ True))) (fun (p292 : Unit) => match p292 with | (_) => ((0 ≤ (wrap .i64 (i198 - 1)) ∧ (wrap .i64 (i198 - 1)) < (xs199.length : Int)) ∧ ((0 ≤ i198 ∧ i198 < (xs199.length : Int)) ∧ ((((0 ≤ i198 ∧ i198 < (xs199.length : Int)) ∧ ((0 ≤ (wrap .i64 (i198 - 1)) ∧ (wrap .i64 (i198 - 1)) < ((List.set xs199 (i198.toNat) (rd xs199 (wrap .i64 (i198 - 1)))).length : Int)) ∧ next204 ((wrap .i64 (i198 - 1)), (List.set (List.set xs199 (i198.toNat) (rd xs199 (wrap .i64 (i198 - 1)))) ((wrap .i64 (i198 - 1)).toNat) (rd xs199 i198)), ())))) ∧ (((0 ≤ i198 ∧ i198 < (xs199.length : Int)) ∧ ((0 ≤ (wrap .i64 (i198 - 1)) ∧ (wrap .i64 (i198 - 1)) < ((List.set xs199 (i198.toNat) (rd xs199 (wrap .i64 (i198 - 1)))).length : Int)) ∧ next204 ((wrap .i64 (i198 - 1)), (List.set (List.set xs199 (i198.toNat) (rd xs199 (wrap .i64 (i198 - 1)))) ((wrap .i64 (i198 - 1)).toNat) (rd xs199 i198)), ())))) ∧ True))))) (i120, xs121, ())) (Q xs121)) ((wrap .i64 (x1 + 1)), xs0, ())
def wp.qbU (x0 : Int) (Q : Int → Prop) : Prop :=
 qf3 (σ := Int × Int × Unit) (fun J23 => bcase (decide (x0 ≥ 4294967296)) (J23 ((Int.fdiv x0 (2 ^ (min ((32 : Int).toNat) (IntKind.bits .u64)))), 32, ())) (J23 (x0, 0, ()))) (fun (p51 : Int × Int × Unit) => match p51 with | (i21, i22, _) => qf3 (σ := Int × Int × Unit) (fun J30 => bcase (decide (i21 ≥ 65536)) (J30 ((Int.fdiv i21 (2 ^ (min ((16 : Int).toNat) (IntKind.bits .u64)))), (wrap .i64 (i22 + 16)), ())) (J30 (i21, i22, ()))) (fun (p49 : Int × Int × Unit) => match p49 with | (i28, i29, _) => qf3 (σ := Int × Int × Unit) (fun J37 => bcase (decide (i28 ≥ 256)) (J37 ((Int.fdiv i28 (2 ^ (min ((8 : Int).toNat) (IntKind.bits .u64)))), (wrap .i64 (i29 + 8)), ())) (J37 (i28, i29, ()))) (fun (p47 : Int × Int × Unit) => match p47 with | (i35, i36, _) => ((0 ≤ IntKind.wrap .u8 i35 ∧ IntKind.wrap .u8 i35 < ((ByteArray.size (⟨#[0, 1, 2, 2, 3, 3, 3, 3, 4, 4, 4, 4, 4, 4, 4, 4, 5, 5, 5, 5, 5, 5, 5, 5, 5, 5, 5, 5, 5, 5, 5, 5, 6, 6, 6, 6, 6, 6, 6, 6, 6, 6, 6, 6, 6, 6, 6, 6, 6, 6, 6, 6, 6, 6, 6, 6, 6, 6, 6, 6, 6, 6, 6, 6, 7, 7, 7, 7, 7, 7, 7, 7, 7, 7, 7, 7, 7, 7, 7, 7, 7, 7, 7, 7, 7, 7, 7, 7, 7, 7, 7, 7, 7, 7, 7, 7, 7, 7, 7, 7, 7, 7, 7, 7, 7, 7, 7, 7, 7, 7, 7, 7, 7, 7, 7, 7, 7, 7, 7, 7, 7, 7, 7, 7, 7, 7, 7, 7, 8, 8, 8, 8, 8, 8, 8, 8, 8, 8, 8, 8, 8, 8, 8, 8, 8, 8, 8, 8, 8, 8, 8, 8, 8, 8, 8, 8, 8, 8, 8, 8, 8, 8, 8, 8, 8, 8, 8, 8, 8, 8, 8, 8, 8, 8, 8, 8, 8, 8, 8, 8, 8, 8, 8, 8, 8, 8, 8, 8, 8, 8, 8, 8, 8, 8, 8, 8, 8, 8, 8, 8, 8, 8, 8, 8, 8, 8, 8, 8, 8, 8, 8, 8, 8, 8, 8, 8, 8, 8, 8, 8, 8, 8, 8, 8, 8, 8, 8, 8, 8, 8, 8, 8, 8, 8, 8, 8, 8, 8, 8, 8, 8, 8, 8, 8, 8, 8, 8, 8, 8, 8, 8, 8, 8, 8, 8, 8]⟩) : Nat) : Int)) ∧ Q (wrap .i64 (i36 + (wrap .i64 (bt (⟨#[0, 1, 2, 2, 3, 3, 3, 3, 4, 4, 4, 4, 4, 4, 4, 4, 5, 5, 5, 5, 5, 5, 5, 5, 5, 5, 5, 5, 5, 5, 5, 5, 6, 6, 6, 6, 6, 6, 6, 6, 6, 6, 6, 6, 6, 6, 6, 6, 6, 6, 6, 6, 6, 6, 6, 6, 6, 6, 6, 6, 6, 6, 6, 6, 7, 7, 7, 7, 7, 7, 7, 7, 7, 7, 7, 7, 7, 7, 7, 7, 7, 7, 7, 7, 7, 7, 7, 7, 7, 7, 7, 7, 7, 7, 7, 7, 7, 7, 7, 7, 7, 7, 7, 7, 7, 7, 7, 7, 7, 7, 7, 7, 7, 7, 7, 7, 7, 7, 7, 7, 7, 7, 7, 7, 7, 7, 7, 7, 8, 8, 8, 8, 8, 8, 8, 8, 8, 8, 8, 8, 8, 8, 8, 8, 8, 8, 8, 8, 8, 8, 8, 8, 8, 8, 8, 8, 8, 8, 8, 8, 8, 8, 8, 8, 8, 8, 8, 8, 8, 8, 8, 8, 8, 8, 8, 8, 8, 8, 8, 8, 8, 8, 8, 8, 8, 8, 8, 8, 8, 8, 8, 8, 8, 8, 8, 8, 8, 8, 8, 8, 8, 8, 8, 8, 8, 8, 8, 8, 8, 8, 8, 8, 8, 8, 8, 8, 8, 8, 8, 8, 8, 8, 8, 8, 8, 8, 8, 8, 8, 8, 8, 8, 8, 8, 8, 8, 8, 8, 8, 8, 8, 8, 8, 8, 8, 8, 8, 8, 8, 8, 8, 8, 8, 8, 8, 8]⟩) (IntKind.wrap .u8 i35)))))))))
def wp.qcR (x0 : Int) (Q : Int → Prop) : Prop :=
 (M.qeT x0 ∧ ∀ r21, r21 = M.qbU x0 → Q r21)
def wp.qaH (xs0 : List Int) (x1 : Int) (x2 : Int) (x3 : Int) (Q : ((List Int)) → Prop) : Prop :=
 qd4 (σ := Int × Int × Int × Bool × Bool × Unit) (fun (p44 : Int × Int × Int × Bool × Bool × Unit) next29 => match p44 with | (i21, i22, i23, b24, b25, _) => bcase (decide ((wrap .i64 (i22 - i21)) ≤ 12)) ((M.qcU xs0 i21 i22 ∧ ∀ r31, r31 = M.qao xs0 i21 i22 → Q r31)) (bcase (i23 == 0) (False) (False))) (x1, x2, x3, true, true, ())
def wp.qaO (xs0 : List Int) (Q : ((List Int)) → Prop) : Prop :=
 (M.qfG (IntKind.wrap .u64 (xs0.length : Int)) ∧ ∀ r21, r21 = M.qcR (IntKind.wrap .u64 (xs0.length : Int)) → (M.qdx xs0 0 (xs0.length : Int) r21 ∧ ∀ r26, r26 = M.qaH xs0 0 (xs0.length : Int) r21 → Q r26))
def wp.qat (xs0 : List Int) (Q : (List Int) → Prop) : Prop :=
 bcase (decide ((xs0.length : Int) < 2)) (Q xs0) (qd4 (σ := Int × Unit) (fun (p64 : Int × Unit) next25 => match p64 with | (i21, _) => bcase (decide (i21 < (xs0.length : Int))) (((0 ≤ i21 ∧ i21 < (xs0.length : Int)) ∧ ((0 ≤ (wrap .i64 (i21 - 1)) ∧ (wrap .i64 (i21 - 1)) < (xs0.length : Int)) ∧ bcase ((rd xs0 i21) == (rd xs0 (wrap .i64 (i21 - 1)))) (((0 ≤ i21 ∧ i21 ≤ (xs0.length : Int)) ∧ qd4 (σ := Int × Int × Unit) (fun (p55 : Int × Int × Unit) next45 => match p55 with | (i40, i41, _) => bcase (decide (i41 < (((List.drop (i21.toNat) xs0)).length : Int))) (False) (((0 ≤ i40 ∧ i40 ≤ (xs0.length : Int)) ∧ ((0 ≤ i40 ∧ i40 ≤ ((List.take (i40.toNat) xs0 ++ List.replicate (xs0.length - (i40.toNat)) default).length : Int)) ∧ Q (List.take (i40.toNat) (List.take (i40.toNat) xs0 ++ List.replicate (xs0.length - (i40.toNat)) default)))))) (i21, 1, ()))) (next25 ((wrap .i64 (i21 + 1)), ()))))) (Q xs0)) (1, ()))
def wp.qdb (xs0 : List D.Ins) (x1 : Int) (Q : (List Int) → Prop) : Prop :=
 bcase (x1 == (xs0.length : Int)) (Q ([] : List Int)) (((0 ≤ x1 ∧ x1 < (xs0.length : Int)) ∧ bcase ((rd xs0 x1).Op == 12) (Q ([(xs0.length : Int)] : List Int)) (bcase ((rd xs0 x1).Op == 11) (Q ([(rd xs0 x1).B] : List Int)) (bcase ((rd xs0 x1).Op == 10) ((M.qea ([(rd xs0 x1).B, (wrap .i64 (x1 + 1))] : List Int) ∧ ∀ r42, r42 = M.qaO ([(rd xs0 x1).B, (wrap .i64 (x1 + 1))] : List Int) → (M.qdR r42 ∧ ∀ r48, r48 = M.qat r42 → Q r48))) (Q ([(wrap .i64 (x1 + 1))] : List Int))))))
def wp.qbu (xs0 : List D.Ins) (Q : (List Int) → Prop) : Prop :=
 (M.qdX xs0 ∧ ∀ r21, r21 = M.qb7 xs0 → bcase (!r21) (Q ([] : List Int)) (qd4 (σ := (List Int) × Int × Unit) (fun (p61 : (List Int) × Int × Unit) next36 => match p61 with | (xs29, i32, _) => bcase (decide (i32 < (xs0.length : Int))) ((M.qfj xs0 i32 ∧ ∀ r38, r38 = M.qdb xs0 i32 → bcase ((r38.length : Int) == 2) (((xs29.length + ([i32] : List Int).length ≤ 17179869184) ∧ next36 ((xs29 ++ ([i32] : List Int)), (wrap .i64 (i32 + 1)), ()))) (next36 (xs29, (wrap .i64 (i32 + 1)), ())))) (Q xs29)) (([] : List Int), 0, ())))
def wp.qcT (xs0 : List D.Ins) (x1 : Int) (Q : Bool → Prop) : Prop :=
 (M.qf0 xs0 ∧ ∀ r21, r21 = M.qbu xs0 → (M.qdK r21 x1 ∧ ∀ r28, r28 = M.qaS r21 x1 → Q r28))
def wp.qco (xs0 : List D.Ins) (xs1 : List Int) (x2 : Int) (Q : (List Bool) → Prop) : Prop :=
 ((0 ≤ (wrap .i64 ((xs0.length : Int) + 1)) ∧ (wrap .i64 ((xs0.length : Int) + 1)) ≤ 17179869184) ∧ (M.qaL xs1 ∧ ∀ r26, r26 = M.qaj xs1 → qd4 (σ := (List Int) × (List Bool) × Unit) (fun (p133 : (List Int) × (List Bool) × Unit) next87 => match p133 with | (xs79, xs82, _) => bcase (decide ((xs79.length : Int) > 0)) (((0 ≤ (0 : Int) ∧ (0 : Int) < (xs79.length : Int)) ∧ ((0 ≤ (1 : Int) ∧ (1 : Int) ≤ (xs79.length : Int)) ∧ bcase ((rd xs79 0) == x2) (next87 ((List.drop ((1 : Int).toNat) xs79), xs82, ())) (((0 ≤ (rd xs79 0) ∧ (rd xs79 0) < (xs82.length : Int)) ∧ bcase (rd xs82 (rd xs79 0)) (next87 ((List.drop ((1 : Int).toNat) xs79), xs82, ())) (((0 ≤ (rd xs79 0) ∧ (rd xs79 0) < (xs82.length : Int)) ∧ (M.qfj xs0 (rd xs79 0) ∧ ∀ r115, r115 = M.qdb xs0 (rd xs79 0) → (((List.drop ((1 : Int).toNat) xs79).length + r115.length ≤ 17179869184) ∧ next87 (((List.drop ((1 : Int).toNat) xs79) ++ r115), (List.set xs82 ((rd xs79 0).toNat) true), ())))))))))) (Q xs82)) (r26, (List.replicate ((wrap .i64 ((xs0.length : Int) + 1)).toNat) (default : Bool)), ())))
def wp.qbr (xs0 : List D.Ins) (x1 : Int) (Q : Bool → Prop) : Prop :=
 (M.qeN xs0 ([x1] : List Int) (-1) ∧ ∀ r24, r24 = M.qco xs0 ([x1] : List Int) (-1) → ((0 ≤ (xs0.length : Int) ∧ (xs0.length : Int) < (r24.length : Int)) ∧ Q (rd r24 (xs0.length : Int))))
def wp.qcN (xs0 : List D.Ins) (x1 : Int) (Q : Bool → Prop) : Prop :=
 (M.qdX xs0 ∧ ∀ r21, r21 = M.qb7 xs0 → bcase r21 ((∀ r26, r26 = M.qan x1 0 (xs0.length : Int) → Q r26)) (Q false))
def wp.qc0 (xs0 : List D.Ins) (x1 : Int) (x2 : Int) (Q : Bool → Prop) : Prop :=
 (M.qe4 xs0 x1 ∧ ∀ r21, r21 = M.qbr xs0 x1 → bcase r21 ((M.qeN xs0 ([x1] : List Int) x2 ∧ ∀ r29, r29 = M.qco xs0 ([x1] : List Int) x2 → ((0 ≤ (xs0.length : Int) ∧ (xs0.length : Int) < (r29.length : Int)) ∧ Q (!(rd r29 (xs0.length : Int)))))) (Q false))
def wp.qbz (xs0 : List D.Ins) (x1 : Int) (x2 : Int) (Q : Bool → Prop) : Prop :=
 (M.qfi xs0 x1 ∧ ∀ r21, r21 = M.qcN xs0 x1 → bcase r21 ((M.qfi xs0 x2 ∧ ∀ r26, r26 = M.qcN xs0 x2 → bcase r26 ((M.qeO xs0 x1 x2 ∧ ∀ r31, r31 = M.qc0 xs0 x1 x2 → Q r31)) (Q false))) (Q false))
def wp.qbI (xs0 : List D.Ins) (x1 : Int) (Q : (List Int) → Prop) : Prop :=
 qd4 (σ := (List Int) × Int × Unit) (fun (p54 : (List Int) × Int × Unit) next31 => match p54 with | (xs24, i27, _) => bcase (decide (i27 < (wrap .i64 ((xs0.length : Int) + 1)))) ((M.qg2 xs0 x1 i27 ∧ ∀ r33, r33 = M.qbz xs0 x1 i27 → bcase r33 (((xs24.length + ([i27] : List Int).length ≤ 17179869184) ∧ next31 ((xs24 ++ ([i27] : List Int)), (wrap .i64 (i27 + 1)), ()))) (next31 (xs24, (wrap .i64 (i27 + 1)), ())))) (Q xs24)) (([] : List Int), 0, ())
def wp.qbo (x0 : Int) (x1 : Int) (Q : Bool → Prop) : Prop :=
 Q (x0 == x1)
def wp.qar (xs0 : List Int) (g1 : Int → Bool) (D1 : Int → Prop) (Q : (List Int) → Prop) : Prop :=
 (M.qd7 xs0 g1 D1 ∧ ∀ r21, r21 = M.qai xs0 g1 → bcase (r21 == (-1)) (Q xs0) (qd4 (σ := Int × Int × (List Int) × Unit) (fun (p92 : Int × Int × (List Int) × Unit) next58 => match p92 with | (i51, i52, xs53, _) => bcase (decide (i52 < (xs0.length : Int))) (((0 ≤ i52 ∧ i52 < (xs53.length : Int)) ∧ (D1 (rd xs53 i52) ∧ ∀ r65, r65 = g1 (rd xs53 i52) → bcase (!r65) (((0 ≤ i51 ∧ i51 < (xs53.length : Int)) ∧ next58 ((wrap .i64 (i51 + 1)), (wrap .i64 (i52 + 1)), (List.set xs53 (i51.toNat) (rd xs53 i52)), ()))) (next58 (i51, (wrap .i64 (i52 + 1)), xs53, ()))))) (((0 ≤ i51 ∧ i51 ≤ (xs53.length : Int)) ∧ ((0 ≤ i51 ∧ i51 ≤ ((List.take (i51.toNat) xs53 ++ List.replicate (xs53.length - (i51.toNat)) default).length : Int)) ∧ Q (List.take (i51.toNat) (List.take (i51.toNat) xs53 ++ List.replicate (xs53.length - (i51.toNat)) default)))))) (r21, (wrap .i64 (r21 + 1)), xs0, ())))
def wp.qbV (x0 : Int) (xs1 : List D.Ins) (x2 : Int) (Q : Bool → Prop) : Prop :=
 (M.qeO xs1 x2 x0 ∧ ∀ r21, r21 = M.qc0 xs1 x2 x0 → Q (!r21))
def wp.qde (xs0 : List D.Ins) (xs1 : List Int) (Q : Int → Prop) : Prop :=
 qd4 (σ := Int × Unit) (fun (p48 : Int × Unit) next27 => match p48 with | (i23, _) => bcase (decide (i23 < (xs1.length : Int))) (((0 ≤ i23 ∧ i23 < (xs1.length : Int)) ∧ (M.qcJ xs1 (fun z0_ => M.qbV z0_ xs0 (rd xs1 i23)) (fun z0_ => M.qff z0_ xs0 (rd xs1 i23)) ∧ ∀ r38, r38 = M.qaf xs1 (fun z0_ => M.qbV z0_ xs0 (rd xs1 i23)) → bcase (!r38) (Q (rd xs1 i23)) (next27 ((wrap .i64 (i23 + 1)), ()))))) (Q (-1))) (0, ())
def wp.qbS (xs0 : List D.Ins) (x1 : Int) (Q : Int → Prop) : Prop :=
 (M.qfE xs0 x1 ∧ ∀ r23, r23 = M.qbI xs0 x1 → (M.qdy r23 (fun z0_ => M.qbo z0_ x1) (fun z0_ => M.qes z0_ x1) ∧ ∀ r30, r30 = M.qar r23 (fun z0_ => M.qbo z0_ x1) → (M.qfS xs0 r30 ∧ ∀ r37, r37 = M.qde xs0 r30 → Q r37)))
def wp.qcX (xs0 : List D.Ins) (x1 : Int) (Q : Int → Prop) : Prop :=
 (M.qfz xs0 x1 ∧ ∀ r21, r21 = M.qcT xs0 x1 → bcase (!r21) (Q (-1)) ((M.qfj xs0 x1 ∧ ∀ r26, r26 = M.qdb xs0 x1 → qd4 (σ := Int × Unit) (fun (p59 : Int × Unit) next37 => match p59 with | (i33, _) => bcase (decide (i33 < (r26.length : Int))) (((0 ≤ i33 ∧ i33 < (r26.length : Int)) ∧ (M.qe4 xs0 (rd r26 i33) ∧ ∀ r44, r44 = M.qbr xs0 (rd r26 i33) → bcase (!r44) (Q (xs0.length : Int)) (next37 ((wrap .i64 (i33 + 1)), ()))))) ((M.qeU xs0 x1 ∧ ∀ r53, r53 = M.qbS xs0 x1 → Q r53))) (0, ()))))
end Go.V
namespace Go.V
open IntKind (wrap)
theorem wp.cmp_isNaN_int.math (x : Int) : wp.cmp_isNaN_int x (fun r => r = M.cmp_isNaN_int x) := by simp [wp.cmp_isNaN_int, M.cmp_isNaN_int]
theorem wp.cmp_Less_int.math (x y : Int) : wp.cmp_Less_int x y (fun r => r = M.cmp_Less_int x y) := by
 intro r hr
 have : r = false := hr
 subst this
 exact qax rfl rfl
theorem wp.qao.math (l : List Int) (a b : Int) (h : M.qcU l a b) : wp.qao l a b (fun r => r = M.qao l a b) := by
 obtain ⟨hl, rfl, rfl⟩ := h
 match l, hl with
 | [x, y], _ =>
 have w0 : wrap .i64 ((0 : Int) + 1) = 1 := by decide +kernel
 have w1 : wrap .i64 ((1 : Int) + 1) = 2 := by decide +kernel
 have w2 : wrap .i64 ((1 : Int) - 1) = 0 := by decide +kernel
 unfold wp.qao
 rw [w0]
 have r1 : rd [x, y] 1 = y := rfl
 have r0 : rd [x, y] 0 = x := rfl
 -- the outer loop: one round
 refine ⟨fun m z => (m = 1 ∧ z = (1, [x, y], ())) ∨ (m = 0 ∧ z = (2, M.qhZ [x, y], ())), ⟨1, .inl ⟨rfl, rfl⟩⟩, ?_⟩
 rintro m z (⟨rfl, rfl⟩ | ⟨rfl, rfl⟩)
 ·refine qaA rfl ?_
  refine ⟨fun m z => (m = 1 ∧ z = (1, [x, y], ())) ∨ (m = 0 ∧ z = (0, M.qhZ [x, y], ())), ⟨1, .inl ⟨rfl, rfl⟩⟩, ?_⟩
  rintro m z (⟨rfl, rfl⟩ | ⟨rfl, rfl⟩)
  ·unfold qf3
   have i1 : (0 ≤ (1 : Int) ∧ (1 : Int) < (([x, y] : List Int).length : Int)) := by simp
   have i0 : (0 ≤ (0 : Int) ∧ (0 : Int) < (([x, y] : List Int).length : Int)) := by simp
   by_cases hc : y < x
   ·have hs : M.qhZ [x, y] = [y, x] := by simp [M.qhZ, r1, r0, hc]
    have e1 : List.set (List.set [x, y] ((1 : Int).toNat) x) ((0 : Int).toNat) y = [y, x] := rfl
    have e2 : List.set (List.set [x, y] ((0 : Int).toNat) y) ((1 : Int).toNat) x = [y, x] := rfl
    have hd : (decide (y < x)) = true := decide_eq_true hc
    refine qaA rfl ?_
    simp only [w2, r1, r0, M.cmp_Less_int, forall_eq, hd, e1, e2, hs]
    have j1 : ∀ v, (0 ≤ (1 : Int) ∧ (1 : Int) < ((List.set [x, y] ((0 : Int).toNat) v).length : Int)) := fun v => by simp
    have j0 : ∀ v, (0 ≤ (0 : Int) ∧ (0 : Int) < ((List.set [x, y] ((1 : Int).toNat) v).length : Int)) := fun v => by simp
    simp only [i1, i0, j1, j0, true_and, and_true, and_self, bcase]
    exact ⟨0, by omega, .inr rfl⟩
   ·have hs : M.qhZ [x, y] = [x, y] := by simp [M.qhZ, r1, r0, hc]
    have hd : (decide (y < x)) = false := decide_eq_false hc
    refine qaA rfl ?_
    simp only [w2, w1, r1, r0, M.cmp_Less_int, forall_eq, hd, hs]
    simp only [i1, i0, true_and, and_true, and_self, bcase]
    exact ⟨0, by omega, .inr rfl⟩
  ·unfold qf3
   refine qax rfl ?_
   rw [w1]
   have hn : ∃ m', m' < 1 ∧ ((m' = 1 ∧ ((2 : Int), M.qhZ [x, y], ()) = (1, [x, y], ())) ∨ (m' = 0 ∧ ((2 : Int), M.qhZ [x, y], ()) = (2, M.qhZ [x, y], ()))) := ⟨0, by omega, .inr ⟨rfl, rfl⟩⟩
   exact ⟨hn, hn, trivial⟩
 ·exact qax rfl rfl
set_option maxRecDepth 100000 in
theorem wp.qbU.math (x : Int) (h : M.qeT x) : wp.qbU x (fun r => r = M.qbU x) := by
 have h : x = 2 := h
 subst h
 unfold wp.qbU
 unfold qf3
 refine qax rfl (qax rfl (qax rfl ⟨?_, ?_⟩))
 ·have : IntKind.wrap .u8 2 = 2 := by decide +kernel
  rw [this]
  exact ⟨by omega, by decide +kernel⟩
 ·show _ = (2 : Int)
  decide +kernel
theorem wp.qcR.math (x : Int) (h : M.qfG x) : wp.qcR x (fun r => r = M.qcR x) := ⟨h, fun r hr => by rw [hr]; rfl⟩
theorem wp.qaH.math (l : List Int) (a b c : Int) (h : M.qdx l a b c) : wp.qaH l a b c (fun r => r = M.qaH l a b c) := by
 obtain ⟨hl, rfl, rfl⟩ := h
 refine qd2 0 (fun _ => (0, 2, c, true, true, ())) (fun _ => True) rfl trivial (fun k hk _ _ _ => absurd hk (by omega)) fun _ next => ?_
 exact qaA (by decide +kernel) ⟨⟨hl, rfl, rfl⟩, fun r hr => by rw [hr]; rfl⟩
theorem wp.qaO.math (l : List Int) (h : M.qea l) : wp.qaO l (fun r => r = M.qaO l) := by
 have hl : l.length = 2 := h
 unfold wp.qaO
 have e : (l.length : Int) = 2 := by omega
 rw [e]
 refine ⟨by show IntKind.wrap .u64 2 = 2; decide +kernel, fun r hr => ⟨⟨hl, rfl, rfl⟩, fun r2 hr2 => by rw [hr2]; rfl⟩⟩
theorem wp.qat.math (l : List Int) (h : M.qdR l) : wp.qat l (fun r => r = M.qat l) := by
 match l, h with
 | [x, y], _ =>
 have w2 : wrap .i64 ((1 : Int) - 1) = 0 := by decide +kernel
 have w1 : wrap .i64 ((1 : Int) + 1) = 2 := by decide +kernel
 have r1 : rd [x, y] 1 = y := rfl
 have r0 : rd [x, y] 0 = x := rfl
 refine qax rfl ?_
 by_cases hc : y = x
 ·have hM : M.qat [x, y] = [x] := by unfold M.qat; rw [r1, r0, if_pos hc]; rfl
  rw [hM]
  refine qd2 0 (fun _ => (1, ())) (fun _ => True) rfl trivial (fun k hk _ _ _ => absurd hk (by omega)) fun _ next => ?_
  refine qaA rfl ⟨by simp, by rw [w2]; simp, ?_⟩
  rw [w2, r1, r0]
  refine qaA (by simpa using hc) ⟨by simp, ?_⟩
  refine qd2 0 (fun _ => (1, 1, ())) (fun _ => True) rfl trivial (fun k hk _ _ _ => absurd hk (by omega)) fun _ next => ?_
  exact qax rfl ⟨by simp, by simp, rfl⟩
 ·have hM : M.qat [x, y] = [x, y] := by unfold M.qat; rw [r1, r0, if_neg hc]
  rw [hM]
  refine qd2 1 (fun k => ((k : Int) + 1, ())) (fun _ => True) rfl trivial (fun k hk _ next hn => ?_) fun _ next => qax rfl rfl
  have hk0 : k = 0 := by omega
  subst hk0
  have hn := hn trivial
  refine qaA rfl ⟨by simp, ?_, ?_⟩
  ·show 0 ≤ wrap .i64 ((1 : Int) - 1) ∧ wrap .i64 ((1 : Int) - 1) < (([x, y] : List Int).length : Int)
   rw [w2]; simp
  ·show bcase (rd [x, y] 1 == rd [x, y] (wrap .i64 ((1 : Int) - 1))) _ _
   rw [w2, r1, r0]
   refine qax (by simpa using hc) ?_
   show next (wrap .i64 ((1 : Int) + 1), ())
   rw [w1]; exact hn
theorem qkw (a b : Int) : M.qat (M.qaO [a, b]) = M.qh1 b a ∧ (M.qaO [a, b]).length = 2 := by
 have r1 : rd [a, b] 1 = b := rfl
 have r0 : rd [a, b] 0 = a := rfl
 have s1 : rd [b, a] 1 = a := rfl
 have s0 : rd [b, a] 0 = b := rfl
 simp only [M.qat, M.qaO, M.qhZ, M.qh1, r1, r0]
 by_cases h1 : b < a
 ·rw [if_pos h1, s1, s0, if_neg (by omega), if_neg (by omega), if_neg (by omega)]
  exact ⟨rfl, rfl⟩
 ·rw [if_neg h1, r1, r0]
  by_cases h2 : b = a
  ·rw [if_pos h2, if_neg (by omega), if_pos h2.symm]; exact ⟨by rw [h2]; rfl, rfl⟩
  ·rw [if_neg h2, if_pos (by omega)]; exact ⟨rfl, rfl⟩
theorem wp.qdb.math (p : List D.Ins) (k : Int) (h : M.qfj p k) : wp.qdb p k (fun r => r = M.qdb p k) := by
 obtain ⟨hp, h0, h1⟩ := h
 have h32 := qgR hp
 have hw : wrap .i64 (k + 1) = k + 1 := w64 (by omega) (by omega)
 unfold wp.qdb
 rw [hw]
 refine qa2 (fun e => ?_) fun e => ?_
 ·have e : k = p.length := by simpa using e
  simp [M.qdb, M.qe6, e]
 have e : ¬ k = p.length := by simpa using e
 refine ⟨by omega, qa2 (fun e1 => ?_) fun e1 => qa2 (fun e2 => ?_) fun e2 => qa2 (fun e3 => ⟨rfl, fun r hr => ?_⟩) fun e3 => ?_⟩
 all_goals simp only [M.qdb, M.qe6]
 all_goals rw [if_neg e]
 ·rw [if_pos (by simpa using e1)]
 ·rw [if_neg (by simpa using e1), if_pos (by simpa using e2)]
 ·rw [if_neg (by simpa using e1), if_neg (by simpa using e2), if_pos (by simpa using e3)]
  have hsc := qkw (rd p k).B (k + 1)
  subst hr
  exact ⟨hsc.2, fun r2 hr2 => by rw [hr2]; exact hsc.1⟩
 ·rw [if_neg (by simpa using e1), if_neg (by simpa using e2), if_neg (by simpa using e3)]
theorem qmY {p : List D.Ins} (hp : M.qaT p = true) {k : Nat} (hk : k < p.length) : (((M.qe6 p (k : Int)).length : Int) == 2) = M.isBr p (k : Int) := by
 have hne : ¬ (k : Int) = p.length := by omega
 unfold M.qe6 M.isBr
 rw [if_neg hne]
 by_cases h12 : (rd p (k : Int)).Op = 12
 ·rw [if_pos h12, h12]; rfl
 rw [if_neg h12]
 by_cases h11 : (rd p (k : Int)).Op = 11
 ·rw [if_pos h11, h11]; rfl
 rw [if_neg h11]
 by_cases h10 : (rd p (k : Int)).Op = 10
 ·rw [if_pos h10, h10]
  unfold M.qh1
  by_cases h1 : (rd p (k : Int)).B < (k : Int) + 1
  ·rw [if_pos h1]
   have : ((rd p (k : Int)).B != (k : Int) + 1) = true := by simp; omega
   rw [this]; rfl
  rw [if_neg h1]
  by_cases h2 : (rd p (k : Int)).B = (k : Int) + 1
  ·rw [if_pos h2]
   have : ((rd p (k : Int)).B != (k : Int) + 1) = false := by simp [h2]
   rw [this]; rfl
  ·rw [if_neg h2]
   have : ((rd p (k : Int)).B != (k : Int) + 1) = true := by simpa using h2
   rw [this]; rfl
 ·rw [if_neg h10]
  have : ((rd p (k : Int)).Op == 10) = false := by simpa using h10
  rw [this]; rfl
theorem wp.qbu.math (p : List D.Ins) (h : M.qf0 p) : wp.qbu p (fun r => r = M.qbu p) := by
 have hs : p.length ≤ 2097152 := h
 refine ⟨qhB h, fun r hr => qa2 (fun e => ?_) fun e => ?_⟩
 ·have := nt e (show r = M.qaT p from hr)
  simp [M.qbu, M.branches, this]
 have hp := nf e (show r = M.qaT p from hr)
 have hM : M.qbu p = M.idx (M.isBr p) p.length := by simp [M.qbu, M.branches, hp]
 rw [hM]
 refine qk4 (fun k xs next hk hxs hle h1 h2 => ?_) fun next => qax (by simp) rfl
 refine qaA (by simp; omega) ⟨⟨hp, by omega, by omega⟩, fun r2 hr2 => ?_⟩
 have hr2' : r2 = M.qe6 p (k : Int) := hr2
 rw [hr2', qmY hp hk, up64 hk (by omega)]
 exact qa2 (fun e2 => ⟨by simp; omega, h1 e2⟩) fun e2 => h2 e2
theorem wp.qcT.math (p : List D.Ins) (b : Int) (h : M.qfz p b) : wp.qcT p b (fun r => r = M.qcT p b) := by
 have hs : p.length ≤ 2097152 := h
 have hbl := qkD p
 exact ⟨h, fun r hr => ⟨by rw [hr]; show (M.branches p).length ≤ 9223372036854775807; omega, fun r2 hr2 => by rw [hr2, hr]; rfl⟩⟩
theorem wp.qco.math (p : List D.Ins) (l : List Int) (wo : Int) (h : M.qeN p l wo) : wp.qco p l wo (fun r => r = M.qco p l wo) := by
 have hp := h.1
 have h32 := qgR hp
 have h4 := h.2.2
 unfold wp.qco
 rw [qkY hp, qj9 (qgd hp)]
 refine ⟨by omega, by show l.length ≤ 17179869184; omega, fun r hr => ?_⟩
 have hr' : r = l := hr
 subst hr'
 refine qjQ (wo := wo) (I := fun _ => True) h (qhg _) trivial (R := M.qco p r wo) rfl (by rw [qgt]; omega) (fun k rest seen next hk hl _ hc hn => ?_) (fun k rest seen next hk hl _ h1 h2 _ h5 hn => ?_) fun next _ => qax rfl rfl
 ·obtain ⟨f1, f2, f3, f4, f5⟩ := qgf (k := k) (rest := rest)
  refine qaA f5 ⟨f3, f4, ?_⟩
  rw [f1, f2]
  refine qa2 (fun _ => hn) fun e1 => ⟨qf7 hk hl, qaA (hc.resolve_left (by simpa using e1)) hn⟩
 ·obtain ⟨f1, f2, f3, f4, f5⟩ := qgf (k := k) (rest := rest)
  refine qaA f5 ⟨f3, f4, ?_⟩
  rw [f1, f2]
  refine qax (by simpa using h1) ⟨qf7 hk hl, qax h2 ⟨qf7 hk hl, hk, fun r hr => ?_⟩⟩
  have hr' : r = M.qe6 p k := hr
  rw [hr']
  exact ⟨h5, hn trivial⟩
theorem qmD (p : List D.Ins) (l : List Int) (wo : Int) : (0 ≤ (p.length : Int) ∧ (p.length : Int) < ((M.reached p l wo).length : Int)) := by rw [qiy]; omega
theorem wp.qbr.math (p : List D.Ins) (k : Int) (h : M.qe4 p k) : wp.qbr p k (fun r => r = M.qbr p k) :=
 ⟨qls h, fun r hr => by rw [hr]; exact ⟨qmD _ _ _, rfl⟩⟩
theorem wp.qcN.math (p : List D.Ins) (k : Int) (h : M.qfi p k) : wp.qcN p k (fun r => r = M.qcN p k) := by
 refine ⟨qhB h, fun r hr => qa2 (fun e r2 hr2 => ?_) fun e => ?_⟩
 all_goals have hr' : r = M.qaT p := hr
 ·rw [hr2]; simp [M.qcN, M.qeF, ← hr', e, M.qan]
 ·simp [M.qcN, M.qeF, ← hr', e]
theorem wp.qc0.math (p : List D.Ins) (k later : Int) (h : M.qeO p k later) : wp.qc0 p k later (fun r => r = M.qc0 p k later) := by
 refine ⟨h, fun r hr => qa2 (fun e => ⟨qls h, fun r2 hr2 => ?_⟩) fun e => ?_⟩
 all_goals have hr' : r = M.qeV p k := hr
 ·rw [hr2]
  refine ⟨qmD _ _ _, ?_⟩
  simp only [M.qc0, ← hr', e, Bool.true_and]; rfl
 ·simp [M.qc0, ← hr', e]
theorem wp.qbz.math (p : List D.Ins) (k later : Int) (h : M.qg2 p k later) : wp.qbz p k later (fun r => r = M.qbz p k later) := by
 refine ⟨h, fun r hr => qa2 (fun e => ⟨h, fun r2 hr2 => qa2 (fun e2 => ?_) fun e2 => ?_⟩) fun e => ?_⟩
 all_goals have hr' : r = M.qeF p k := hr
 ·have hr2' : r2 = M.qeF p later := hr2
  refine ⟨qeB.1 (hr'.symm.trans e), fun r3 hr3 => ?_⟩
  rw [hr3]; simp [M.qbz, ← hr', e, ← hr2', e2, M.qc0]
 ·have hr2' : r2 = M.qeF p later := hr2
  simp [M.qbz, ← hr2', e2]
 ·simp [M.qbz, ← hr', e]
theorem wp.qbI.math (p : List D.Ins) (k : Int) (h : M.qfE p k) : wp.qbI p k (fun r => r = M.qbI p k) := by
 have hs : p.length ≤ 2097152 := h
 unfold wp.qbI
 rw [qj9 h]
 by_cases hc : (M.qeF p k && M.qeV p k) = true
 ·have hN : M.Node p k := qeB.1 (by simp only [Bool.and_eq_true] at hc; exact hc.1)
  have hM : M.qbI p k = M.idx (M.qdj p k) (p.length + 1) := by simp only [M.qbI, M.qci, hc, if_true]
  rw [hM]
  refine qk4 (fun j xs next hj hxs hle h1 h2 => ?_) fun next => qax (by simp) rfl
  have hj2 : M.qeF p (j : Int) = true := qeB.2 ⟨hN.1, by omega, by omega⟩
  simp only [Bool.and_eq_true] at hc
  have hv : M.qbz p k (j : Int) = M.qdj p k (j : Int) := by simp only [M.qbz, hc.1, hc.2, hj2, Bool.true_and]
  refine qaA (by simp; omega) ⟨h, fun r2 hr2 => ?_⟩
  rw [hr2, hv, up64 (n := p.length + 1) hj (by omega)]
  exact qa2 (fun e2 => ⟨by simp; omega, h1 e2⟩) fun e2 => h2 e2
 ·have hc : (M.qeF p k && M.qeV p k) = false := by simpa using hc
  have hM : M.qbI p k = [] := by simp only [M.qbI, M.qci, hc]; rfl
  rw [hM]
  refine qd2 (p.length + 1) (fun j => ([], (j : Int), ())) (fun _ => True) rfl trivial (fun j hj _ next hn => ?_) fun _ next => qax (by simp) rfl
  have hv : M.qbz p k (j : Int) = false := by
   cases h1 : M.qeF p k with
   | false => simp [M.qbz, h1]
   | true =>
    rw [h1, Bool.true_and] at hc
    simp [M.qbz, hc]
  refine qaA (by simp; omega) ⟨h, fun r2 hr2 => ?_⟩
  rw [hr2, hv, up64 (n := p.length + 1) hj (by omega)]
  exact qax rfl (hn trivial)
theorem wp.qbo.math (x k : Int) (h : M.qes x k) : wp.qbo x k (fun r => r = M.qbo x k) := rfl
theorem qio (g : Int → Bool) : ∀ (l : List Int) (i : Nat), (M.qeb g l i = -1 ∧ l.all (fun x => !g x) = true) ∨ ∃ k : Nat, k < l.length ∧ M.qeb g l i = ((i + k : Nat) : Int) ∧ (l.take k).all (fun x => !g x) = true ∧ g (rd l (k : Int)) = true
 | [], i => .inl ⟨rfl, rfl⟩
 | x :: l, i => by
  unfold M.qeb
  by_cases hx : g x = true
  ·rw [if_pos hx]
   exact .inr ⟨0, by simp, by simp, by simp, hx⟩
  ·rw [if_neg hx]
   rcases qio g l (i + 1) with ⟨h1, h2⟩ | ⟨k, hk, h1, h2, h3⟩
   ·exact .inl ⟨h1, by simp [hx]; simpa using h2⟩
   ·refine .inr ⟨k + 1, by simp; omega, by rw [h1]; congr 1; omega, ?_, ?_⟩
    ·rw [List.take_succ_cons, List.all_cons, h2]; simp [hx]
    ·rw [qdO (by simp; omega)]; rw [qdO hk] at h3; exact h3
theorem qiM {l : List Int} {g : Int → Bool} (h : l.all g = true) : l.filter g = l := List.filter_eq_self.2 (List.all_eq_true.1 h)
theorem wp.qar.math (l : List Int) (g : Int → Bool) (D : Int → Prop) (h : M.qdy l g D) : wp.qar l g D (fun r => r = M.qar l g) := by
 obtain ⟨hl, hD⟩ := h
 have hl' : l.length ≤ 9223372036854775807 := hl
 refine ⟨⟨hl, hD⟩, fun r hr => ?_⟩
 have hr' : r = M.qeb g l 0 := hr
 rcases qio g l 0 with ⟨h1, h2⟩ | ⟨k, hk, h1, h2, h3⟩
 ·rw [hr', h1]
  exact qaA rfl (by show l = l.filter _; exact (qiM h2).symm)
 rw [hr', h1, Nat.zero_add]
 refine qax (by simp) ?_
 rw [up64 hk hl']
 let G : Nat → List Int := fun j => (l.take j).filter fun x => !g x
 have hG : ∀ j, j < l.length → G (j + 1) = if (!g (rd l (j : Int))) = true then G j ++ [rd l (j : Int)] else G j := fun j hj => qjd hj
 have hGl : ∀ j, j ≤ l.length → (G j).length ≤ j := fun j hj => by
  have := List.length_filter_le (fun x => !g x) (l.take j)
  have h2 : (l.take j).length ≤ j := by simp; omega
  exact Nat.le_trans this h2
 have hGk : G (k + 1) = G k ∧ (G k).length = k := by
  refine ⟨by rw [hG k hk, if_neg (by rw [h3]; simp)], ?_⟩
  show ((l.take k).filter fun x => !g x).length = k
  rw [qiM h2]; simp; omega
 refine ⟨fun m z => ∃ (j : Nat) (xs : List Int), z = (((G j).length : Int), (j : Int), xs, ()) ∧ m = l.length - j ∧ k < j ∧ j ≤ l.length ∧ (G j).length < j ∧ xs.length = l.length ∧ xs.take (G j).length = G j ∧ xs.drop j = l.drop j,
  ⟨_, k + 1, l, by rw [hGk.1, hGk.2], rfl, by omega, by omega, by rw [hGk.1, hGk.2]; omega, rfl, by rw [hGk.1]; rw [hGk.2]; exact (qiM h2).symm, rfl⟩, ?_⟩
 rintro m z ⟨j, xs, rfl, rfl, hkj, hjl, hgj, hxl, hx1, hx2⟩
 have hget : j < l.length → rd xs (j : Int) = rd l (j : Int) := fun hj => by
  rw [qdO (by omega), qdO hj]
  have := congrArg (fun q => q[0]?) hx2
  simp only [List.getElem?_drop, Nat.add_zero] at this
  rw [List.getElem?_eq_getElem (by omega), List.getElem?_eq_getElem hj] at this
  exact Option.some.inj this
 by_cases hj : j < l.length
 ·refine qaA (by simp; omega) ⟨by omega, ?_⟩
  have hGj := hG j hj
  have hgl : (G j).length < xs.length := by omega
  have hd2 : (xs.set (G j).length (rd l (j : Int))).drop (j + 1) = l.drop (j + 1) := by
   rw [List.drop_set_of_lt (by omega)]
   have := congrArg (fun q => q.drop 1) hx2
   simpa [List.drop_drop, Nat.add_comm] using this
  have hd1 : xs.drop (j + 1) = l.drop (j + 1) := by
   have := congrArg (fun q => q.drop 1) hx2
   simpa [List.drop_drop, Nat.add_comm] using this
  show D (rd xs (j : Int)) ∧ _
  dsimp only
  rw [hget hj]
  refine ⟨hD _ (qgy hj), fun r2 hr2 => qa2 (fun e => ⟨⟨by omega, by omega⟩, ?_⟩) fun e => ?_⟩
  ·have e : (!g (rd l (j : Int))) = true := by rw [← hr2]; exact e
   rw [if_pos e] at hGj
   have hlen : (G (j + 1)).length = (G j).length + 1 := by rw [hGj]; simp
   refine ⟨l.length - (j + 1), by omega, j + 1, xs.set (G j).length (rd l (j : Int)), ?_, rfl, by omega, by omega, by omega, by simpa using hxl, ?_, hd2⟩
   ·rw [up64 (n := l.length) (k := (G j).length) (by omega) hl', up64 hj hl', hlen]; rfl
   ·rw [hlen, hGj, List.take_add_one, List.getElem?_set_self (by omega), List.take_set_of_le (Nat.le_refl _), hx1]; rfl
  ·have e : ¬ (!g (rd l (j : Int))) = true := by rw [← hr2, e]; simp
   rw [if_neg e] at hGj
   refine ⟨l.length - (j + 1), by omega, j + 1, xs, ?_, rfl, by omega, by omega, by rw [hGj]; omega, hxl, by rw [hGj]; exact hx1, hd1⟩
   rw [up64 hj hl', hGj]
 ·have hje : j = l.length := by omega
  have hGl : G l.length = l.filter fun x => !g x := by show (l.take l.length).filter _ = _; rw [List.take_length]
  refine qax (by simp; omega) ⟨by omega, by simp; omega, ?_⟩
  show _ = l.filter _
  rw [← hGl, ← hje]
  have : (((G j).length : Int)).toNat = (G j).length := by simp
  rw [this, List.take_append_of_le_length (by simp; omega), List.take_take, Nat.min_self, hx1]
theorem wp.qbV.math (z : Int) (p : List D.Ins) (x : Int) (h : M.qff z p x) : wp.qbV z p x (fun r => r = M.qbV z p x) := ⟨h, fun r hr => by rw [hr]; rfl⟩
theorem qlf (p : List D.Ins) (all l : List Int) (k : Nat) (hk : k < l.length) : M.qil p all (l.drop k) = if all.all (fun z => M.qeV p (rd l (k : Int)) && M.qdj p (rd l (k : Int)) z) then rd l (k : Int) else M.qil p all (l.drop (k + 1)) := by
 rw [List.drop_eq_getElem_cons hk, qdO hk]; rfl
theorem wp.qde.math (p : List D.Ins) (l : List Int) (h : M.qfS p l) : wp.qde p l (fun r => r = M.qde p l) := by
 obtain ⟨h1, h2⟩ := h
 have hl : l.length ≤ 17179869183 := h1
 refine qd2 l.length (fun k => ((k : Int), ())) (fun k => M.qil p l l = M.qil p l (l.drop k)) rfl rfl (fun k hk hF next hn => ?_) fun hF next => qax (by simp) ?_
 ·rw [qlf p l l k hk] at hF
  have hN := h2 _ (qgy hk)
  refine qaA (by simp; omega) ⟨by omega, ⟨by show l.length ≤ 9223372036854775807; omega, fun z hz => hN⟩, fun r hr => ?_⟩
  have hr' : r = !(l.all fun z => M.qeV p (rd l (k : Int)) && M.qdj p (rd l (k : Int)) z) := by
   rw [hr]
   simp only [M.qaf, M.qbV]
   rw [List.all_eq_not_any_not, Bool.not_not]
  refine qa2 (fun e => ?_) fun e => ?_
  ·have e2 := nt e hr'
   rw [if_pos (by simpa using e2)] at hF; exact hF.symm
  ·have e2 := nf e hr'
   rw [if_neg (by simpa using e2)] at hF
   rw [up64 hk (by omega)]; exact hn hF
 ·rw [List.drop_length] at hF; exact hF.symm
theorem qjx {p : List D.Ins} {all : List Int} : ∀ (l : List Int), (∀ x ∈ l, M.qeV p x = true) → M.qil p all l = M.qgL p all l
 | [], _ => rfl
 | x :: l, h => by
  have hx := h x List.mem_cons_self
  unfold M.qil M.qgL
  simp only [hx, Bool.true_and]
  rw [qjx l fun y hy => h y (List.mem_cons_of_mem _ hy)]
theorem wp.qbS.math (p : List D.Ins) (k : Int) (h : M.qeU p k) : wp.qbS p k (fun r => r = M.qbS p k) := by
 have h1 := qi7 p k
 have hs : p.length ≤ 2097152 := h
 refine ⟨h, fun r hr => ⟨⟨?_, fun _ _ => trivial⟩, fun r2 hr2 => ?_⟩⟩
 ·rw [hr]; show (M.qci p k).length ≤ 9223372036854775807; omega
 have hr2' : r2 = M.others (M.qci p k) k := by rw [hr2, hr]; rfl
 refine ⟨by rw [hr2']; exact qkF h k, fun r3 hr3 => ?_⟩
 rw [hr3, hr2']
 exact qjx _ fun x hx => by
  obtain ⟨a, b, c, d⟩ := qfO hx
  exact ql7 b a.2 c d
theorem wp.qcX.math (p : List D.Ins) (b : Int) (h : M.qgr p b) : wp.qcX p b (fun r => r = M.qcX p b) := by
 refine ⟨h, fun r hr => qa2 (fun e => ?_) fun e => ?_⟩
 ·have := nt e (show r = M.has (M.branches p) b from hr)
  simp [M.qcX, M.qkE, this]
 have e := nf e (show r = M.has (M.branches p) b from hr)
 have hB := qmy e
 obtain ⟨n1, n2, n3, n4⟩ := qnN hB
 have hM : M.qcX p b = M.qgF p b := by simp only [M.qcX, M.qkE, e, if_true]
 rw [hM]
 refine ⟨n3, fun r2 hr2 => ?_⟩
 have hnx : M.qe6 p b = M.qh1 (b + 1) (rd p b).B := by
  have hb := hB.2.2.2
  simp only [M.isBr, Bool.and_eq_true, beq_iff_eq] at hb
  have := hB.2.2.1
  unfold M.qe6
  rw [if_neg (by omega), if_neg (by omega), if_neg (by omega), if_pos hb.1]
 have hr2' : r2 = M.qh1 (b + 1) (rd p b).B := by rw [hr2]; exact hnx
 have hlen := qjI (b + 1) (rd p b).B
 rw [← hr2'] at hlen
 have hmem : ∀ x, x ∈ r2 ↔ x = b + 1 ∨ x = (rd p b).B := fun x => by rw [hr2']; exact qif
 clear hr2 hr2' hnx
 have hall : r2.all (M.qeV p) = (M.qeV p (b + 1) && M.qeV p (rd p b).B) := by
  rw [Bool.eq_iff_iff, List.all_eq_true, Bool.and_eq_true]
  constructor
  ·exact fun hh => ⟨hh _ ((hmem _).2 (.inl rfl)), hh _ ((hmem _).2 (.inr rfl))⟩
  ·rintro ⟨a1, a2⟩ x hx
   rcases (hmem x).1 hx with rfl | rfl
   ·exact a1
   ·exact a2
 have hnode : ∀ x ∈ r2, M.Node p x := fun x hx => by rcases (hmem x).1 hx with rfl | rfl; exact n1; exact n2
 refine qd2 r2.length (fun k => ((k : Int), ())) (fun k => (r2.take k).all (M.qeV p) = true) rfl (by simp) (fun k hk hF next hn => ?_) fun hF next => ?_
 ·refine qaA (by simp; omega) ⟨by omega, hnode _ (qgy hk), fun r3 hr3 => qa2 (fun e3 => ?_) fun e3 => ?_⟩
  ·have e3 := nt e3 (show r3 = M.qeV p (rd r2 (k : Int)) from hr3)
   have := all_false (g := M.qeV p) hk e3
   rw [hall] at this
   show _ = M.qgF p b
   simp [M.qgF, this]
  ·have e3 := nf e3 (show r3 = M.qeV p (rd r2 (k : Int)) from hr3)
   rw [up64 hk (by omega)]
   rw [qdO hk] at e3
   exact hn (qhU hk hF e3)
 ·refine qax (by simp) ⟨h, fun r3 hr3 => ?_⟩
  rw [List.take_length, hall] at hF
  rw [hr3]
  show _ = M.qgF p b
  simp [M.qgF, hF, M.qbS]
end Go.V
