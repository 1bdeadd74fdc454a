import Derived.Test.YtkpfabigipedcaaGreatBaVBase
import Derived.Test.YtkpfabigipedcaaGreatBaVWords
import Derived.Test.YtkpfabigipedcaaGreatBaVOwn
import Derived.Test.YtkpfabigipedcaaGreatBaVLoop
import Derived.Test.YtkpfabigipedcaaGreatBaVDeep
import Derived.Test.YtkpfabigipedcaaGreatBaVEq
import Derived.Test.YtkpfabigipedcaaGreatBaVCut
import Derived.Test.YtkpfabigipedcaaGreatBaVPlc
import Derived.Test.YtkpfabigipedcaaGreatBaVFoc
import Derived.Test.YtkpfabigipedcaaGreatBaPure2
set_option linter.unusedVariables false
set_option linter.unusedSimpArgs false
set_option maxRecDepth 20000
namespace Go.V.M
open IntKind (wrap)
def qct (p : List D.Ins) (n : Int) : D.Warp := ⟨n, if p.length > 0 then [⟨0, p.length, 255⟩] else [], List.replicate 32 0⟩
def qks : D.Block := ⟨[], [], [], 0, 0⟩
def qcC := qct
def qfa (p : List D.Ins) (n : Int) : Prop := True
def qbt (p : List D.Ins) (c : Int) : D.Block := ⟨p, (List.range c.toNat).map fun k : Nat => qct p (k : Int), List.replicate 32 0, 0, 0⟩
def qcb := qbt
def qeQ (p : List D.Ins) (c : Int) : Prop := p.length ≤ 17179869184 ∧ 0 ≤ c ∧ c ≤ 1000
def qgA (p : List D.Ins) (c : Int) : D.Block × Bool := if qat p && isIn c 1 3 then (qbt p c, true) else (qks, false)
def qbR := qgA
def qe0 (p : List D.Ins) (c : Int) : Prop := Long p
def qa2 (l : List D.Ins) : List D.Ins := l
def qal (l : List D.Ins) : Prop := l.length ≤ 17179869184
def qaa (l : List D.Frame) : List D.Frame := l
def qaO (l : List D.Frame) : Prop := l.length ≤ 17179869184
def WFit (x : D.Warp) : Prop := x.Frames.length ≤ 17179869184 ∧ x.Regs.length ≤ 17179869184
def BFit (b : D.Block) : Prop := b.Code.length ≤ 17179869184 ∧ (b.Warps.length ≤ 17179869184 ∧ ∀ x ∈ b.Warps, WFit x) ∧ b.Memory.length ≤ 17179869184
def qc9 (x : D.Warp) : D.Warp := x
def qeZ (x : D.Warp) : Prop := WFit x
def qbS (b : D.Block) : D.Block := b
def qeB (b : D.Block) : Prop := BFit b
end Go.V.M
namespace Go.V.M
open IntKind (wrap)
def qdc (x : D.Warp) (l : Int) : Prop := x.Regs.length = 32 ∧ 0 ≤ l ∧ l ≤ 7
def qbb (x : D.Warp) : Int := if x.Frames.isEmpty then 0 else (qb3 x.Frames).Mask
def qb0 := qbb
def qcs (x : D.Warp) : Prop := Long x.Frames
def qi8 (k : Int) : Int := wrap .i64 (1 * 2 ^ (min (k.toNat) (IntKind.bits .i64)))
def qdA (x : D.Warp) (reg : Int) (m : Int) (k : Int) : Int := if rd x.Regs (k * 4 + reg) = 0 then qgD .i64 m (qi8 k) else m
def qbE (x : D.Warp) (reg : Int) : Int := (qdX (qbb x)).foldl (qdA x reg) 0
def qaz := qbE
def qcl (x : D.Warp) (reg : Int) : Prop := Long x.Frames ∧ x.Regs.length = 32 ∧ qfr reg = true
def Runs (p : List D.Ins) (x : D.Warp) : Prop := qat p = true ∧ qeM p x = true ∧ x.Frames ≠ []
def qbw (x : D.Warp) : Int := (qb3 x.Frames).Pc
def qar (p : List D.Ins) (x : D.Warp) : D.Ins := rd p (qbw x)
def splits (p : List D.Ins) (x : D.Warp) : Bool :=
 ((qar p x).Op == 10 && (qar p x).B != qbw x + 1) && (qbE x (qar p x).A != 0 && qbE x (qar p x).A != (qb3 x.Frames).Mask)
def qaK (x : D.Warp) (p : List D.Ins) : Bool := splits p x
def qdn (x : D.Warp) (p : List D.Ins) : Prop := Runs p x
def qca (p : List D.Ins) (x : D.Warp) : Bool := !x.Frames.isEmpty && (qbu (qar p x) && (!splits p x || decide (x.Frames.length ≤ 22)))
def qf8 (b : D.Block) (w : Int) : Bool :=
 let x := rd b.Warps w
 !x.Frames.isEmpty && (!waits b w && (if qbu (qar b.Code x) then !splits b.Code x || decide (x.Frames.length ≤ 22) else (qar b.Code x).Op != 16 || x.Frames.length == 1))
def qas := qf8
def qd6 (b : D.Block) (w : Int) : Prop := Has b w
def qf2 (b : D.Block) (n f : Int) : Nat → Int → Int
 | 0, _ => -1
 | r + 1, k => if qf8 b (Int.tmod (f + k) n) then Int.tmod (f + k) n else qf2 b n f r (k + 1)
def pick (b : D.Block) (q : Int) : Int := qf2 b b.Warps.length (Int.tmod q b.Warps.length) b.Warps.length 0
def Good (b : D.Block) : Prop := qgV b ∧ qcH b = true
def qb7 := pick
def qdF (b : D.Block) (q : Int) : Prop := Good b ∧ 0 ≤ q ∧ q ≤ 9223372036854775807
def qfz (b : D.Block) : Bool := qcH b && (!ended b && (List.range b.Warps.length).all fun k : Nat => !qf8 b (k : Int))
def qbV := qfz
def qfc (b : D.Block) : Prop := qgV b
def qeR (b : D.Block) : ByteArray := if qfz b then (if (List.range b.Warps.length).all (fun k : Nat => !qdj b (k : Int)) then ⟨#[102, 114, 97, 109, 101, 115]⟩ else ⟨#[115, 112, 108, 105, 116]⟩) else ⟨#[]⟩
def qb6 := qeR
def qe8 (b : D.Block) : Prop := qgV b
end Go.V.M
namespace Go.V.M
open IntKind (wrap)
def qeC (p : List D.Ins) : Prop := p.length ≤ 2097152
def qnm {α : Type} (l : List α) : Prop := l.length ≤ 17179869183
def idx (g : Int → Bool) : Nat → List Int
 | 0 => []
 | k + 1 => if g (k : Int) then idx g k ++ [(k : Int)] else idx g k
def isBr (p : List D.Ins) (k : Int) : Bool := (rd p k).Op == 10 && (rd p k).B != k + 1
def branches (p : List D.Ins) : List Int := if qat p then idx (isBr p) p.length else []
def others (l : List Int) (n : Int) : List Int := l.filter fun x => x != n
def has (l : List Int) (n : Int) : Bool := l.any fun y => n == y
def qcO (p : List D.Ins) (k : Int) : Prop := 0 ≤ k ∧ k ≤ (p.length : Int)
def Node (p : List D.Ins) (k : Int) : Prop := qat p = true ∧ qcO p k
def qfx (p : List D.Ins) (k : Int) : Bool := qat p && isIn k 0 p.length
def qgv (a b : Int) : List Int := if b < a then [b, a] else if b = a then [a] else [a, b]
def qbq (p : List D.Ins) (k : Int) : List Int :=
 if k = p.length then [] else if (rd p k).Op = 12 then [(p.length : Int)] else if (rd p k).Op = 11 then [(rd p k).B] else if (rd p k).Op = 10 then qgv (k + 1) (rd p k).B else [k + 1]
def bfs (p : List D.Ins) (wo : Int) : Nat → List Int → List Bool → List Bool
 | 0, _, seen => seen
 | _ + 1, [], seen => seen
 | f + 1, k :: work, seen => if k = wo ∨ rd seen k = true then bfs p wo f work seen else bfs p wo f (work ++ qbq p k) (seen.set k.toNat true)
def reached (p : List D.Ins) (frm : List Int) (wo : Int) : List Bool := bfs p wo (3 * (p.length + 1) + frm.length) frm (List.replicate (p.length + 1) false)
def qeW (p : List D.Ins) (k : Int) : Bool := rd (reached p [k] (-1)) p.length
def qdP (p : List D.Ins) (k later : Int) : Bool := !rd (reached p [k] later) p.length
def qc8 (p : List D.Ins) (k : Int) : List Int := if qfx p k && qeW p k then idx (qdP p k) (p.length + 1) else []
def qgu (p : List D.Ins) (all : List Int) : List Int → Int
 | [] => -1
 | x :: l => if all.all (qdP p x) then x else qgu p all l
def qhR (p : List D.Ins) (all : List Int) : List Int → Int
 | [] => -1
 | x :: l => if all.all (fun z => qeW p x && qdP p x z) then x else qhR p all l
def qfq (p : List D.Ins) (k : Int) : Int := qgu p (others (qc8 p k) k) (others (qc8 p k) k)
def qde (p : List D.Ins) (b : Int) : Int := if qeW p (b + 1) && qeW p (rd p b).B then qfq p b else p.length
def marked (seen : List Bool) : List Int := idx (fun k => rd seen k) seen.length
def qee (p : List D.Ins) (b : Int) : List Int := if has (branches p) b then marked (reached p (qbq p b) (qde p b)) else []
def qkC (p : List D.Ins) (k : Int) : Bool := !(decide (k < (p.length : Int)) && (rd p k).Op == 16)
def qet (p : List D.Ins) : Bool := qat p && (branches p).all fun b => (qee p b).all (qkC p)
def Starts (p : List D.Ins) (l : List Int) : Prop := qat p = true ∧ (∀ x ∈ l, qcO p x) ∧ l.length ≤ 4
def Nodes (p : List D.Ins) (l : List Int) : Prop := qnm l ∧ ∀ x ∈ l, Node p x
def Branch (p : List D.Ins) (b : Int) : Prop := qat p = true ∧ 0 ≤ b ∧ b < (p.length : Int) ∧ isBr p b = true
def cmp_isNaN_int (x : Int) : Bool := false
def cmp_Less_int (x y : Int) : Bool := decide (x < y)
def qhk (l : List Int) : List Int := if rd l 1 < rd l 0 then [rd l 1, rd l 0] else l
def qai (l : List Int) (a b : Int) : List Int := qhk l
def qcr (l : List Int) (a b : Int) : Prop := l.length = 2 ∧ a = 0 ∧ b = 2
def qbm (x : Int) : Int := if x ≤ 0 then 0 else if x ≤ 1 then 1 else if x ≤ 3 then 2 else if x ≤ 7 then 3 else 4
def qej (x : Int) : Prop := 0 ≤ x ∧ x ≤ 12
def qco (x : Int) : Int := qbm x
def qeY (x : Int) : Prop := 0 ≤ x ∧ x ≤ 12
def qay (l : List Int) (a b c : Int) : List Int := qhk l
def qcU (l : List Int) (a b c : Int) : Prop := l.length = 2 ∧ a = 0 ∧ b = 2
def qaF (l : List Int) : List Int := qhk l
def qdy (l : List Int) : Prop := l.length = 2
def qam (l : List Int) : List Int := if rd l 1 = rd l 0 then l.take 1 else l
def qd8 (l : List Int) : Prop := l.length = 2
def qcm := qbq
def qdZ (p : List D.Ins) (k : Int) : Prop := Node p k
def qb4 := branches
def qdC (p : List D.Ins) : Prop := qeC p
def qbZ (p : List D.Ins) (b : Int) : Bool := has (branches p) b
def qe2 (p : List D.Ins) (b : Int) : Prop := qeC p
def qbF := reached
def qdI (p : List D.Ins) (l : List Int) (wo : Int) : Prop := Starts p l
def qbk := qeW
def qdp (p : List D.Ins) (k : Int) : Prop := Node p k
def qcj := qfx
def qeD (p : List D.Ins) (k : Int) : Prop := qeC p
def qbN (p : List D.Ins) (k later : Int) : Bool := qeW p k && qdP p k later
def qeg (p : List D.Ins) (k later : Int) : Prop := Node p k
def qbp (p : List D.Ins) (k later : Int) : Bool := qfx p k && (qfx p later && (qeW p k && qdP p k later))
def qfg (p : List D.Ins) (k later : Int) : Prop := qeC p
def qbA := qc8
def qeV (p : List D.Ins) (k : Int) : Prop := qeC p
def qbh (x k : Int) : Bool := x == k
def qdY (x k : Int) : Prop := True
def qak (l : List Int) (g : Int → Bool) : List Int := l.filter fun x => !g x
def qcR (l : List Int) (g : Int → Bool) (D : Int → Prop) : Prop := Long l ∧ ∀ x ∈ l, D x
def qbL (z : Int) (p : List D.Ins) (x : Int) : Bool := !(qeW p x && qdP p x z)
def qeE (z : Int) (p : List D.Ins) (x : Int) : Prop := Node p x
def qcD (p : List D.Ins) (l : List Int) : Int := qhR p l l
def qfb (p : List D.Ins) (l : List Int) : Prop := Nodes p l
def qbJ := qfq
def qep (p : List D.Ins) (k : Int) : Prop := qeC p
def qjf (p : List D.Ins) (b : Int) : Int := if has (branches p) b then qde p b else -1
def qbW := qjf
def qeI (p : List D.Ins) (b : Int) : Prop := qeC p
def qdb := marked
def qfE (l : List Bool) : Prop := qnm l
def qbO := qee
def qeU (p : List D.Ins) (b : Int) : Prop := qeC p
def qax (k : Int) (p : List D.Ins) : Bool := !qkC p k
def qdk (k : Int) (p : List D.Ins) : Prop := 0 ≤ k
def qaU (b : Int) (p : List D.Ins) : Bool := !(qee p b).all (qkC p)
def qdw (b : Int) (p : List D.Ins) : Prop := qeC p
def qbg := qet
def qdf (p : List D.Ins) : Prop := qeC p
end Go.V.M
namespace Go.V.M
open IntKind (wrap)
def qhx (fs : List D.Frame) (n : Int) : Nat → List D.Frame
 | 0 => []
 | k + 1 => if (rd fs (k : Int)).Pc ≠ (rd fs (k : Int)).Stop ∧ (rd fs (k : Int)).Pc ≠ n then fs.take (k + 1) else qhx fs n k
def qlj (fs : List D.Frame) (n : Int) : List D.Frame := qhx fs n fs.length
def qgG (x : D.Warp) (n : Int) : D.Warp := ⟨x.Number, qlj x.Frames n, x.Regs⟩
def qbd := qgG
def qdh (x : D.Warp) (n : Int) : Prop := Long x.Frames
def qcc (r : List Int) (l : Nat) : List Int := (r.take (l * 4 + 4)).drop (l * 4)
def qf9 (r : List Int) (l : Nat) (x : List Int) : List Int := r.take (l * 4) ++ x ++ r.drop (l * 4 + 4)
def qek (i : D.Ins) (num m : Int) (r : List Int) : Nat → List Int
 | 0 => r
 | k + 1 => if qaB m (k : Int) then qf9 (qek i num m r k) k (apply i (num * 8 + (k : Int)) (qcc r k)) else qek i num m r k
def qfm (i : D.Ins) (num m : Int) (r : List Int) : List Int := qek i num m r 8
def qaP (i : D.Ins) (t : Int) (xs : List Int) (lo hi : Nat) : List Int := xs.take lo ++ apply i t ((xs.take hi).drop lo) ++ xs.drop hi
def qfd (i : D.Ins) (t : Int) (xs : List Int) (lo hi : Nat) : Prop := Fits i ((xs.take hi).drop lo) ∧ lo ≤ hi ∧ hi ≤ xs.length
def qf6 (p : List D.Ins) (x : D.Warp) : Int :=
 if (qar p x).Op = 12 then (p.length : Int) else if (qar p x).Op = 11 then (qar p x).B else if (qar p x).Op = 10 ∧ qbE x (qar p x).A = (qb3 x.Frames).Mask then (qar p x).B else qbw x + 1
def qcP (fs : List D.Frame) (pc : Int) : List D.Frame := fs.set (fs.length - 1) ⟨pc, (qb3 fs).Stop, (qb3 fs).Mask⟩
def advance (p : List D.Ins) (x : D.Warp) : D.Warp := ⟨x.Number, qcP x.Frames (qf6 p x), qfm (qar p x) x.Number (qb3 x.Frames).Mask x.Regs⟩
def qaV (x : D.Warp) (p : List D.Ins) : D.Warp := advance p x
def qdR (x : D.Warp) (p : List D.Ins) : Prop := Runs p x
def qkr (p : List D.Ins) (x : D.Warp) : Prop := (qar p x).Op = 10 ∧ (qar p x).B ≠ qbw x + 1
def separated (p : List D.Ins) (x : D.Warp) : D.Warp :=
 ⟨x.Number, qcP x.Frames (qde p (qbw x)) ++ [⟨qbw x + 1, qde p (qbw x), qdK .i64 (qb3 x.Frames).Mask (qbE x (qar p x).A)⟩, ⟨(qar p x).B, qde p (qbw x), qbE x (qar p x).A⟩], x.Regs⟩
def qaA (x : D.Warp) (p : List D.Ins) : Bool × D.Warp := if x.Frames.length ≤ 22 then (true, separated p x) else (false, x)
def qdN (x : D.Warp) (p : List D.Ins) : Prop := Runs p x ∧ qkr p x
def stepW (p : List D.Ins) (x : D.Warp) : D.Warp := qgG (if splits p x then separated p x else advance p x) p.length
def Goes (p : List D.Ins) (x : D.Warp) : Prop := Runs p x ∧ qca p x = true
def Fine (p : List D.Ins) (x : D.Warp) : Prop := qat p = true ∧ qeM p x = true
def qaZ (x : D.Warp) (p : List D.Ins) : Bool × D.Warp := if qca p x then (true, stepW p x) else (false, x)
def qeG (x : D.Warp) (p : List D.Ins) : Prop := Fine p x
def qer (m : Int) : Nat → Int
 | 0 => 0
 | k + 1 => if qaB m (k : Int) then qer m k + 1 else qer m k
end Go.V.M
namespace Go.V.M
open IntKind (wrap)
def once (c : D.Cur) (n : Int) : Bool × D.Cur := ((qa0 c n).1 == 0, (qa0 c n).2)
def qcF := once
def qff (c : D.Cur) (n : Int) : Prop := qdv c
def setB (p : List D.Ins) (k : Nat) (v : Int) : List D.Ins := p.set k ⟨(rd p (k : Int)).Op, (rd p (k : Int)).A, v, (rd p (k : Int)).C⟩
def qh1 (p : List D.Ins) : List D.Ins := p ++ [(⟨8, 3, 0, 0⟩ : D.Ins)]
def qis (p : List D.Ins) : List D.Ins := ((qh1 p ++ [(⟨10, 3, 0, 0⟩ : D.Ins)]) ++ [(⟨3, 0, 0, 1⟩ : D.Ins), (⟨1, 2, 1, 0⟩ : D.Ins), (⟨4, 3, 3, 2⟩ : D.Ins)]) ++ [(⟨11, 0, ((qh1 p).length : Int), 0⟩ : D.Ins)]
def qgX (p : List D.Ins) : List D.Ins := setB (qis p) (qh1 p).length ((qis p).length : Int)
def qck (rec : D.Cur → List D.Ins → List D.Ins × D.Cur) (c : D.Cur) (p : List D.Ins) : List D.Ins × D.Cur := rec (qa0 c 4).2 (p ++ [⟨10, (qa0 c 4).1, 0, 0⟩])
def qgg (rec : D.Cur → List D.Ins → List D.Ins × D.Cur) (c : D.Cur) (p q : List D.Ins) : List D.Ins × D.Cur := rec c (setB (q ++ [⟨11, 0, 0, 0⟩]) p.length ((q ++ [(⟨11, 0, 0, 0⟩ : D.Ins)]).length : Int))
def ifIn (rec : D.Cur → List D.Ins → List D.Ins × D.Cur) (c : D.Cur) (p : List D.Ins) : List D.Ins × D.Cur :=
 if (once (qck rec c p).2 2).1 then (setB (qck rec c p).1 p.length ((qck rec c p).1.length : Int), (once (qck rec c p).2 2).2)
 else (setB (qgg rec (once (qck rec c p).2 2).2 p (qck rec c p).1).1 (qck rec c p).1.length ((qgg rec (once (qck rec c p).2 2).2 p (qck rec c p).1).1.length : Int), (qgg rec (once (qck rec c p).2 2).2 p (qck rec c p).1).2)
def qdQ (rec : D.Cur → List D.Ins → List D.Ins × D.Cur) (deep : Bool) (c : D.Cur) (p : List D.Ins) : List D.Ins × D.Cur :=
 if (qa0 c 5).1 = 0 then (if deep then ifIn rec (qa0 c 5).2 p else (p, (qa0 c 5).2))
 else if (qa0 c 5).1 = 1 then (if deep ∧ ¬ (p.length : Int) > 14 then (qgX p, (qa0 c 5).2) else (p, (qa0 c 5).2))
 else (p ++ [(qaq (qa0 c 5).2).1], (qaq (qa0 c 5).2).2)
def qhU (rec : D.Cur → List D.Ins → List D.Ins × D.Cur) (deep : Bool) : Nat → D.Cur → List D.Ins → List D.Ins × D.Cur
 | 0, c, p => (p, c)
 | n + 1, c, p => if (p.length : Int) < 20 then qhU rec deep n (qdQ rec deep c p).2 (qdQ rec deep c p).1 else (p, c)
def body : Nat → D.Cur → List D.Ins → List D.Ins × D.Cur
 | 0, c, p => qhU (fun c p => (p, c)) false (qa0 c 4).1.toNat (qa0 c 4).2 p
 | d + 1, c, p => qhU (body d) true (qa0 c 4).1.toNat (qa0 c 4).2 p
def qaJ (c : D.Cur) (p : List D.Ins) (d : Int) : List D.Ins × D.Cur := body d.toNat c p
def qcS (c : D.Cur) (p : List D.Ins) (d : Int) : Prop := qdv c ∧ p.length ≤ 24 ∧ 0 ≤ d ∧ d ≤ 2
end Go.V.M
namespace Go.V.M
open IntKind (wrap)
def qbs (c : D.Cur) : D.Ins × D.Cur :=
 (⟨(qap c [13, 14, 15]).1, (qa0 (qap c [13, 14, 15]).2 4).1, (qa0 (qa0 (qap c [13, 14, 15]).2 4).2 4).1, 0⟩, (qa0 (qa0 (qap c [13, 14, 15]).2 4).2 4).2)
def qex (c : D.Cur) : Prop := qdv c
def qix (c : D.Cur) : List D.Ins × D.Cur := ([⟨8, 0, 0, 0⟩, ⟨14, 0, (qa0 c 4).1, 0⟩], (qa0 c 4).2)
def qjy (c : D.Cur) : List D.Ins × D.Cur := ([⟨1, 1, (qap c [1, 8, 31]).1, 0⟩, ⟨8, 0, 0, 0⟩, ⟨3, 0, 0, 1⟩, ⟨13, 2, 0, 0⟩], (qap c [1, 8, 31]).2)
def qjm (c : D.Cur) : List D.Ins × D.Cur := ([⟨1, 1, 24 + (qa0 c 8).1, 0⟩, ⟨15, 1, (qa0 (qa0 c 8).2 4).1, 0⟩], (qa0 (qa0 c 8).2 4).2)
def qfi (c : D.Cur) (p : List D.Ins) : List D.Ins × D.Cur :=
 if (qa0 c 7).1 = 0 then (p ++ [⟨16, 0, 0, 0⟩], (qa0 c 7).2)
 else if (qa0 c 7).1 = 1 then (p ++ (qix (qa0 c 7).2).1, (qix (qa0 c 7).2).2)
 else if (qa0 c 7).1 = 2 then (p ++ (qjy (qa0 c 7).2).1, (qjy (qa0 c 7).2).2)
 else if (qa0 c 7).1 = 3 then (p ++ (qjm (qa0 c 7).2).1, (qjm (qa0 c 7).2).2)
 else if (qa0 c 7).1 = 4 then (if (p.length : Int) < 12 then body 1 (qa0 c 7).2 p else (p, (qa0 c 7).2))
 else if (qa0 c 7).1 = 5 then (p ++ [(qbs (qa0 c 7).2).1], (qbs (qa0 c 7).2).2)
 else (p ++ [(qaq (qa0 c 7).2).1], (qaq (qa0 c 7).2).2)
def qgR : Nat → D.Cur → List D.Ins → List D.Ins × D.Cur
 | 0, c, p => (p, c)
 | n + 1, c, p => if (p.length : Int) + 4 ≤ 32 then qgR n (qfi c p).2 (qfi c p).1 else (p, c)
def qaC (c : D.Cur) : List D.Ins × D.Cur := qgR (1 + (qa0 c 5).1).toNat (qa0 c 5).2 [⟨8, 0, 0, 0⟩]
def qen (c : D.Cur) : Prop := qdv c
def qbH (b : List Int) : List D.Ins := (qaC (qaM b)).1
def qe7 (b : List Int) : Prop := Long b
end Go.V.M
namespace Go.V.M
open IntKind (wrap)
def qeT (i : D.Ins) (s : List Int × List Int) (k : Int) : List Int × List Int :=
 if i.Op = 13 then (s.1.set (k * 4 + i.A).toNat (rd s.2 (Int.tmod (rd s.1 (k * 4 + i.B)) 32)), s.2)
 else if i.Op = 14 then (s.1, s.2.set (Int.tmod (rd s.1 (k * 4 + i.A)) 32).toNat (rd s.1 (k * 4 + i.B)))
 else if i.Op = 15 then (s.1, s.2.set (Int.tmod (rd s.1 (k * 4 + i.A)) 32).toNat (addW (rd s.2 (Int.tmod (rd s.1 (k * 4 + i.A)) 32)) (rd s.1 (k * 4 + i.B))))
 else s
def qjK (i : D.Ins) (m : Int) (s : List Int × List Int) : Nat → List Int × List Int
 | 0 => s
 | k + 1 => if qaB m (k : Int) then qeT i (qjK i m s k) (k : Int) else qjK i m s k
def qhJ (i : D.Ins) (x : D.Warp) (mem : List Int) : List Int × List Int := qjK i (qbb x) (x.Regs, mem) 8
def qlV (b : D.Block) (w : Int) (x : D.Warp) : D.Block := ⟨b.Code, b.Warps.set w.toNat x, b.Memory, b.Waiting, b.Phase⟩
def qd2 (b : D.Block) (w : Int) (i : D.Ins) : D.Block :=
 ⟨b.Code, b.Warps.set w.toNat ⟨(rd b.Warps w).Number, (rd b.Warps w).Frames, (qhJ i (rd b.Warps w) b.Memory).1⟩, (qhJ i (rd b.Warps w) b.Memory).2, b.Waiting, b.Phase⟩
def Live (b : D.Block) (w : Int) : Prop := Has b w ∧ (rd b.Warps w).Frames ≠ []
def qby (b : D.Block) (w : Int) (i : D.Ins) : D.Block := qd2 b w i
def qdV (b : D.Block) (w : Int) (i : D.Ins) : Prop := Live b w ∧ i = qcZ b w ∧ qbu i = false
def qeq (b : D.Block) : Nat → Bool
 | 0 => true
 | k + 1 => qeq b k && ((rd b.Warps (k : Int)).Frames.isEmpty || waits b (k : Int))
def qdU (b : D.Block) : Bool := qeq b b.Warps.length && b.Waiting != 0
def qgf (p : List D.Ins) (x : D.Warp) : D.Warp := qgG ⟨x.Number, qcP x.Frames (qbw x + 1), x.Regs⟩ p.length
def actB (b : D.Block) (w : Int) : D.Block :=
 if qbu (qcZ b w) then qlV b w (stepW b.Code (rd b.Warps w))
 else ⟨b.Code, b.Warps.set w.toNat (qgf b.Code (rd (qd2 b w (qcZ b w)).Warps w)), (qd2 b w (qcZ b w)).Memory, if (qcZ b w).Op = 16 then qgD .i64 b.Waiting (qi8 w) else b.Waiting, b.Phase⟩
def qh3 (b : D.Block) : D.Block := if qdU b then ⟨b.Code, b.Warps, b.Memory, 0, b.Phase + 1⟩ else b
def qf5 (b : D.Block) (w : Int) : D.Block := qh3 (actB b w)
def qhs (b : D.Block) (w : Int) : Prop := Has b w ∧ qf8 b w = true
def qba (b : D.Block) (w : Int) : Bool × D.Block := (decide ((qf5 b w).Phase ≤ 100000), qf5 b w)
def qeo (b : D.Block) (w : Int) : Prop := qhs b w
end Go.V.M
namespace Go.V.M
open IntKind (wrap)
def stops (f : Nat → Int) (x : D.Block) (k : Nat) : Bool := decide (f k < 0) || (x.Phase == 100000 || decide (pick x (f k) < 0))
def goTo (f : Nat → Int) : Nat → D.Block → Nat → D.Block × Int
 | 0, x, k => (x, (k : Int))
 | m + 1, x, k => if stops f x k then (x, (k : Int)) else goTo f m (qf5 x (pick x (f k))) (k + 1)
def goAt (f : Nat → Int) (b : D.Block) : Nat → D.Block
 | 0 => b
 | k + 1 => qf5 (goAt f b k) (pick (goAt f b k) (f k))
def qcX (s : Int) (k : Nat) : Int := (k : Int) * s
def finish (b : D.Block) (s : Int) : D.Block × Int := goTo (qcX s) 9000 b 0
def qdD (b : D.Block) (s : Int) : D.Block × Int := if qcH b && isIn s 0 100 then finish b s else (b, -1)
def qaR (k s : Int) : Int × Bool := (wrap .i64 (k * s), decide (k < 9000))
def qbj (w : Int) : Unit := ()
def qao (b : D.Block) (s : Int) : Int × D.Block := ((finish b s).2, (finish b s).1)
def qcz (b : D.Block) (s : Int) : Prop := Good b ∧ 0 ≤ s ∧ s ≤ 100
def qaH := qao
def qdz := qcz
def qcp (s : Int) : Bool := isIn s 0 100
def qb5 := qdD
def qcV (b : D.Block) (s : Int) : Prop := BFit b
end Go.V.M
namespace Go.V.M
open IntKind (wrap)
def qcf (b : List Int) : Bool := true
def qel (b : List Int) : Prop := Long b
end Go.V.M
namespace Go.V
open IntKind (wrap)
def wp.qah (a : Int) (b : Int) (c : Int) (Q : Bool → Prop) : Prop :=
 qa1 (decide (a ≥ b)) (Q (decide (a ≤ c))) (Q false)
def wp.qbn (b : Int) (Q : Bool → Prop) : Prop :=
 (∀ a, a = M.qah b 0 65535 → Q a)
def wp.qcv (b : Int) (Q : Bool → Prop) : Prop :=
 (∀ a, a = M.qah b 0 255 → Q a)
def wp.qcQ (b : Int) (Q : Bool → Prop) : Prop :=
 (∀ a, a = M.qah b 0 7 → Q a)
def wp.qce (b : Int) (a : Int) (Q : Bool → Prop) : Prop :=
 (∀ c, c = M.qcv b → qa1 c ((∀ d, d = M.qcQ a → qa1 d (((0 ≤ a) ∧ Q ((qds .i64 (Int.fdiv b (2 ^ (min (a.toNat) (IntKind.bits .i64)))) 1) == 1))) (Q false))) (Q false))
def wp.qbM (e : Int) (Q : (List Int) → Prop) : Prop :=
 qdd (σ := (List Int) × Int × Unit) (fun (f : (List Int) × Int × Unit) c => match f with | (b, a, _) => qa1 (decide (a < 8)) ((∀ d, d = M.qce e a → qa1 d (((b.length + ([a] : List Int).length ≤ 17179869184) ∧ c ((b ++ ([a] : List Int)), (wrap .i64 (a + 1)), ()))) (c (b, (wrap .i64 (a + 1)), ())))) (Q b)) (([] : List Int), 0, ())
end Go.V
namespace Go.V
open IntKind (wrap)
theorem wp.qah.math (x a b : Int) : wp.qah x a b (fun r => r = M.qah x a b) := by
 simp only [wp.qah, qfK, M.qah, M.isIn]
 exact ⟨fun h => by simp at h; simp [h], fun h => by simp at h; simp; omega⟩
theorem wp.qbn.math (x : Int) : wp.qbn x (fun r => r = M.qbn x) := fun r h => h
theorem wp.qcv.math (x : Int) : wp.qcv x (fun r => r = M.qcv x) := fun r h => h
theorem wp.qcQ.math (x : Int) : wp.qcQ x (fun r => r = M.qcQ x) := fun r h => h
theorem wp.qce.math (m l : Int) : wp.qce m l (fun r => r = M.qce m l) := by
 intro r1 h1
 refine qa3 (fun e1 r2 h2 => qa3 (fun e2 => ?_) fun e2 => ?_) fun e1 => ?_
 ·have : M.qjU l = true := by rw [← e2, h2]; rfl
  have h0 : 0 ≤ l := by simp [M.qjU, M.isIn] at this; omega
  refine ⟨h0, ?_⟩
  have e1' : M.qeL m = true := by rw [← e1, h1]; rfl
  simp [M.qce, M.qaB, e1', this]
 ·have : M.qjU l = false := by rw [← e2, h2]; rfl
  simp [M.qce, M.qaB, this]
 ·have : M.qeL m = false := by rw [← e1, h1]; rfl
  simp [M.qce, M.qaB, this]
theorem wp.qbM.math (m : Int) : wp.qbM m (fun r => r = M.qbM m) := by
 unfold wp.qbM
 refine ⟨fun k p => (k : Int) = 8 - p.2.1 ∧ 0 ≤ p.2.1 ∧ p.2.1 ≤ 8 ∧ p.1 = ([0, 1, 2, 3, 4, 5, 6, 7].take p.2.1.toNat).filter (M.qaB m), ⟨8, by simp⟩, ?_⟩
 rintro k ⟨xs, i, _⟩ ⟨hk, h0, h8, hx⟩
 simp only at hk h0 h8 hx ⊢
 refine qa3 (fun e => ?_) fun e => ?_
 ·have hlt : i < 8 := by simpa using e
  intro r hr
  have hs : (([0, 1, 2, 3, 4, 5, 6, 7] : List Int).take (i + 1).toNat) = ([0, 1, 2, 3, 4, 5, 6, 7] : List Int).take i.toNat ++ [i] := by
   have : i = 0 ∨ i = 1 ∨ i = 2 ∨ i = 3 ∨ i = 4 ∨ i = 5 ∨ i = 6 ∨ i = 7 := by omega
   rcases this with rfl | rfl | rfl | rfl | rfl | rfl | rfl | rfl <;> rfl
  have hw : wrap .i64 (i + 1) = i + 1 := w64 (by omega) (by omega)
  refine qa3 (fun e2 => ⟨?_, (k - 1), by omega, ?_⟩) fun e2 => ⟨k - 1, by omega, ?_⟩
  ·rw [hx]
   have := List.length_filter_le (M.qaB m) (([0, 1, 2, 3, 4, 5, 6, 7] : List Int).take i.toNat)
   simp at this ⊢; omega
  ·simp only [hw, hs, List.filter_append]
   refine ⟨by omega, by omega, by omega, ?_⟩
   rw [hx, List.filter_cons, if_pos (by rw [← e2, hr]; rfl)]; rfl
  ·simp only [hw, hs, List.filter_append]
   refine ⟨by omega, by omega, by omega, ?_⟩
   rw [hx, List.filter_cons, if_neg (by rw [show M.qaB m i = r from hr.symm, e2]; simp)]; simp
 ·have : i = 8 := by simp at e; omega
  subst this
  rw [hx]; rfl
end Go.V
namespace Go.V
open IntKind (wrap)
def wp.qad (b : List Int) (d : Int → Bool) (e : Int → Prop) (Q : Int → Prop) : Prop :=
 qdd (σ := Int × Unit) (fun (f : Int × Unit) g => match f with | (a, _) => qa1 (decide (a < (b.length : Int))) (((0 ≤ a ∧ a < (b.length : Int)) ∧ (e (rd b a) ∧ ∀ c, c = d (rd b a) → qa1 c (Q a) (g ((wrap .i64 (a + 1)), ()))))) (Q (-1))) (0, ())
def wp.qa9 (a : List Int) (b : Int → Bool) (d : Int → Prop) (Q : Bool → Prop) : Prop :=
 (M.qcx a b d ∧ ∀ c, c = M.qad a b → Q (decide (c ≥ 0)))
def wp.qbB (b : Int) (Q : Bool → Prop) : Prop :=
 (∀ a, a = M.qbn b → Q (!a))
def wp.qbz (b : List Int) (Q : Bool → Prop) : Prop :=
 (M.qbe b (fun a => M.qbB a) (fun _ => True) ∧ ∀ c, c = M.qa9 b (fun a => M.qbB a) → Q (!c))
def wp.qch (a : Int) (Q : Int → Prop) : Prop :=
 Q (qds .i64 a 65535)
def wp.qb9 (d : Int) (e : Int) (f : Int) (Q : Int → Prop) : Prop :=
 (∀ a, a = M.qbn d → qa1 (!a) (Q 0) ((∀ b, b = M.qbn e → qa1 (!b) (Q 0) ((∀ c, c = M.qch f → Q c)))))
def wp.qbG (a : Int) (b : Int) (Q : Int → Prop) : Prop :=
 (∀ c, c = M.qb9 a b (wrap .i64 (a + b)) → Q c)
end Go.V
namespace Go.V
open IntKind (wrap)
theorem qeN {x : Int} : M.isWord x = true ↔ 0 ≤ x ∧ x ≤ 65535 := by simp [M.isWord, M.isIn]
theorem qg7 {α : Type} [Inhabited α] {xs : List α} {k : Nat} (h : k < xs.length) : rd xs (k : Int) ∈ xs := by rw [qcJ h]; exact List.getElem_mem h
theorem nt {r x : Bool} (e : (!r) = true) (h : r = x) : x = false := by subst h; simpa using e
theorem nf {r x : Bool} (e : (!r) = false) (h : r = x) : x = true := by subst h; simpa using e
theorem qlg (x : Int) : qds .i64 x 65535 = x % 65536 := by
 unfold qds
 have e1 : (BitVec.ofInt (IntKind.bits .i64) x &&& BitVec.ofInt (IntKind.bits .i64) 65535).toNat = (x % 65536).toNat := by
  show (BitVec.ofInt 64 x &&& BitVec.ofInt 64 65535).toNat = _
  rw [BitVec.toNat_and, BitVec.toNat_ofInt, show (BitVec.ofInt 64 65535).toNat = 2 ^ 16 - 1 from rfl, Nat.and_two_pow_sub_one_eq_mod]
  rw [show ((2 ^ 64 : Nat) : Int) = 18446744073709551616 from rfl]
  omega
 rw [e1, w64 (by omega) (by omega)]
 omega
theorem wp.qch.math (x : Int) : wp.qch x (fun r => r = M.qch x) := qlg x
theorem wp.qb9.math (a b n : Int) : wp.qb9 a b n (fun r => r = M.qb9 a b n) := by
 intro r1 h1
 refine qa3 (fun e1 => ?_) fun e1 r2 h2 => qa3 (fun e2 => ?_) fun e2 r3 h3 => ?_
 ·have : M.isWord a = false := nt e1 h1
  simp [M.qb9, this]
 ·have : M.isWord b = false := nt e2 h2
  simp [M.qb9, this]
 ·have ha : M.isWord a = true := nf e1 h1
  have hb : M.isWord b = true := nf e2 h2
  rw [h3]
  simp [M.qb9, M.qch, ha, hb]
theorem wp.qbG.math (a b : Int) : wp.qbG a b (fun r => r = M.qbG a b) := by
 intro r hr
 rw [hr]
 simp only [M.qb9, M.qbG, M.addW]
 by_cases h : (M.isWord a && M.isWord b) = true
 ·rw [if_pos h, if_pos h]
  simp only [Bool.and_eq_true, qeN] at h
  rw [w64 (by omega) (by omega)]
 ·rw [if_neg h, if_neg h]
theorem qfA {α : Type} [Inhabited α] (g : α → Bool) (l : List α) : ∀ (k : Nat), k < l.length → M.qd7 g (l.drop k) k = if g (rd l (k : Int)) then (k : Int) else M.qd7 g (l.drop (k + 1)) (k + 1) := by
 intro k hk
 rw [List.drop_eq_getElem_cons hk, qcJ hk]; rfl
theorem wp.qad.math (l : List Int) (g : Int → Bool) (D : Int → Prop) (h : M.qcx l g D) : wp.qad l g D (fun r => r = M.qad l g) := by
 unfold wp.qad
 obtain ⟨h1, h2⟩ := h
 refine qdl l.length (fun k => ((k : Int), ())) (fun k => M.qad l g = M.qd7 g (l.drop k) k) rfl (by simp [M.qad]) (fun k hk hF next hn => ?_) fun hF next => ?_
 ·rw [qfA g l k hk] at hF
  refine qb1 (by simp; omega) ⟨by omega, h2 _ (qg7 hk), fun r hr => qa3 (fun e => ?_) fun e => ?_⟩
  ·rw [hF, if_pos (by rw [← hr]; exact e)]
  ·rw [up64 hk h1]
   exact hn (by rw [hF, if_neg (by rw [← hr, e]; simp)])
 ·refine qb8 (by simp) ?_
  rw [hF]; simp [M.qd7]
theorem qe9 {α : Type} (g : α → Bool) : ∀ (l : List α) (k : Nat), decide (M.qd7 g l k ≥ 0) = l.any g
 | [], k => by simp [M.qd7]
 | x :: l, k => by
  simp only [M.qd7, List.any_cons]
  by_cases hx : g x = true
  ·simp [hx]
  ·simp only [hx, Bool.false_eq_true, if_false, Bool.false_or]; simpa [hx] using qe9 g l (k + 1)
theorem wp.qa9.math (l : List Int) (g : Int → Bool) (D : Int → Prop) (h : M.qbe l g D) : wp.qa9 l g D (fun r => r = M.qa9 l g) :=
 ⟨h, fun r hr => by rw [hr]; exact qe9 g l 0⟩
theorem wp.qbB.math (x : Int) : wp.qbB x (fun r => r = M.qbB x) := fun r hr => by rw [hr]; rfl
theorem wp.qbz.math (l : List Int) (h : M.qe3 l) : wp.qbz l (fun r => r = M.qbz l) := by
 refine ⟨⟨h, fun _ _ => trivial⟩, fun r hr => ?_⟩
 rw [hr]
 simp only [M.qa9, M.qbz, M.qbB]
 rw [← List.all_eq_not_any_not]
theorem qlm (x : Int) : M.isWord (x % 65536) = true := qeN.2 ⟨by omega, by omega⟩
end Go.V
namespace Go.V
open IntKind (wrap)
def wp.qcy (a : Int) (b : Int) (Q : Int → Prop) : Prop :=
 (∀ c, c = M.qid a → qa1 c ((∀ d, d = M.qid b → qa1 d (qa1 (decide (a < b)) (Q 1) (Q 0)) (Q 0))) (Q 0))
def wp.qag (a : List Int) (Q : (List Int) → Prop) : Prop :=
 (∀ b : Bool, (b = true → a = []) → qa1 b (Q ([] : List Int)) (((([] : List Int).length + a.length ≤ 17179869184) ∧ Q (([] : List Int) ++ a))))
def wp.qcN (a : Int) (Q : ByteArray → Prop) : Prop :=
 (∀ b, b = M.qah a 0 16 → qa1 (!b) (Q (⟨#[]⟩)) (((0 ≤ a ∧ a < (([⟨#[45, 45, 45]⟩, ⟨#[82, 87, 45]⟩, ⟨#[82, 82, 45]⟩, ⟨#[82, 82, 82]⟩, ⟨#[82, 82, 82]⟩, ⟨#[82, 82, 82]⟩, ⟨#[82, 82, 82]⟩, ⟨#[82, 82, 82]⟩, ⟨#[82, 45, 45]⟩, ⟨#[82, 82, 82]⟩, ⟨#[82, 84, 45]⟩, ⟨#[45, 84, 45]⟩, ⟨#[45, 45, 45]⟩, ⟨#[82, 82, 45]⟩, ⟨#[82, 82, 45]⟩, ⟨#[82, 82, 45]⟩, ⟨#[45, 45, 45]⟩] : List ByteArray).length : Int)) ∧ Q (rd ([⟨#[45, 45, 45]⟩, ⟨#[82, 87, 45]⟩, ⟨#[82, 82, 45]⟩, ⟨#[82, 82, 82]⟩, ⟨#[82, 82, 82]⟩, ⟨#[82, 82, 82]⟩, ⟨#[82, 82, 82]⟩, ⟨#[82, 82, 82]⟩, ⟨#[82, 45, 45]⟩, ⟨#[82, 82, 82]⟩, ⟨#[82, 84, 45]⟩, ⟨#[45, 84, 45]⟩, ⟨#[45, 45, 45]⟩, ⟨#[82, 82, 45]⟩, ⟨#[82, 82, 45]⟩, ⟨#[82, 82, 45]⟩, ⟨#[45, 45, 45]⟩] : List ByteArray) a))))
def wp.qd0 (b : Int) (Q : Bool → Prop) : Prop :=
 (∀ a, a = M.qah b 0 3 → Q a)
def wp.qav (b : Int) (a : Int) (f : Int) (Q : Bool → Prop) : Prop :=
 qa1 (b == 82) ((∀ c, c = M.qd0 a → Q c)) (qa1 (b == 87) ((∀ d, d = M.qbn a → Q d)) (qa1 (b == 84) ((∀ e, e = M.qah a 0 f → Q e)) (Q (a == 0))))
def wp.qaN (b : D.Ins) (c : Int) (Q : Bool → Prop) : Prop :=
 (∀ a, a = M.qcN b.Op → qa1 (!(ByteArray.toList a == ByteArray.toList (⟨#[]⟩))) ((∀ d, d = M.qah c 0 32 → qa1 d (((0 ≤ (0 : Int) ∧ (0 : Int) < ((ByteArray.size a : Nat) : Int)) ∧ (M.qcE (bt a 0) b.A c ∧ ∀ e, e = M.qav (bt a 0) b.A c → qa1 e (((0 ≤ (1 : Int) ∧ (1 : Int) < ((ByteArray.size a : Nat) : Int)) ∧ (M.qcE (bt a 1) b.B c ∧ ∀ f, f = M.qav (bt a 1) b.B c → qa1 f (((0 ≤ (2 : Int) ∧ (2 : Int) < ((ByteArray.size a : Nat) : Int)) ∧ (M.qcE (bt a 2) b.C c ∧ ∀ g, g = M.qav (bt a 2) b.C c → Q g))) (Q false)))) (Q false)))) (Q false))) (Q false))
def wp.qbl (b : D.Ins) (c : List D.Ins) (Q : Bool → Prop) : Prop :=
 (∀ a, a = M.qaN b (c.length : Int) → Q (!a))
def wp.qa7 (b : List D.Ins) (d : D.Ins → Bool) (e : D.Ins → Prop) (Q : Int → Prop) : Prop :=
 qdd (σ := Int × Unit) (fun (f : Int × Unit) g => match f with | (a, _) => qa1 (decide (a < (b.length : Int))) (((0 ≤ a ∧ a < (b.length : Int)) ∧ (e (rd b a) ∧ ∀ c, c = d (rd b a) → qa1 c (Q a) (g ((wrap .i64 (a + 1)), ()))))) (Q (-1))) (0, ())
def wp.qa8 (a : List D.Ins) (b : D.Ins → Bool) (d : D.Ins → Prop) (Q : Bool → Prop) : Prop :=
 (M.qci a b d ∧ ∀ c, c = M.qa7 a b → Q (decide (c ≥ 0)))
def wp.qaD (a : List D.Ins) (Q : Bool → Prop) : Prop :=
 qa1 (decide ((a.length : Int) ≤ 32)) ((M.qbX a (fun b => M.qbl b a) (fun _ => True) ∧ ∀ c, c = M.qa8 a (fun b => M.qbl b a) → Q (!c))) (Q false)
def wp.qbU (b : D.Ins) (Q : Bool → Prop) : Prop :=
 (∀ a, a = M.qah b.Op 0 12 → Q a)
def wp.qc7 (a : Int) (b : Int) (Q : Int → Prop) : Prop :=
 (∀ c, c = M.qb9 a b (wrap .i64 (a - b)) → Q c)
def wp.qbY (a : Int) (b : Int) (Q : Int → Prop) : Prop :=
 (∀ c, c = M.qb9 a b (wrap .i64 (a * b)) → Q c)
def wp.qbT (a : Int) (b : Int) (Q : Int → Prop) : Prop :=
 (∀ c, c = M.qbn a → qa1 c ((∀ d, d = M.qbn b → qa1 d (qa1 (decide (a < b)) (Q 1) (Q 0)) (Q 0))) (Q 0))
end Go.V
namespace Go.V
open IntKind (wrap)
theorem wp.qag.math (l : List Int) (h : M.qaE l) : wp.qag l (fun r => r = M.qag l) := by
 intro b hb
 refine qa3 (fun e => ?_) fun e => ⟨by simpa [M.qaE] using h, rfl⟩
 rw [hb e]; rfl
theorem wp.qbU.math (i : D.Ins) : wp.qbU i (fun r => r = M.qbU i) := fun r hr => hr
theorem wp.qd0.math (x : Int) : wp.qd0 x (fun r => r = M.qd0 x) := fun r hr => hr
theorem qmy {α : Type} [Inhabited α] {l : List α} {g : α → Bool} (hl : M.Long l) {B : (Int × Unit) → ((Int × Unit) → Prop) → Prop} {Q : Bool → Prop}
    (hb : ∀ (k : Nat) (next : (Int × Unit) → Prop), k < l.length → (g (rd l (k : Int)) = false → l.all g = false → Q false) → (g (rd l (k : Int)) = true → next (((k + 1 : Nat) : Int), ())) → B ((k : Int), ()) next)
    (he : ∀ (next : (Int × Unit) → Prop), l.all g = true → B ((l.length : Int), ()) next) (hQ : l.all g = false → Q false) : qdd B (0, ()) := by
 refine qdl l.length (fun k => ((k : Int), ())) (fun k => (l.take k).all g = true) rfl (by simp) (fun k hk hF next hn => ?_) fun hF next => ?_
 ·refine hb k next hk (fun e h => hQ h) fun e => ?_
  rw [qcJ hk] at e
  exact hn (qha hk hF e)
 ·rw [List.take_length] at hF
  exact he next hF
theorem all_false {α : Type} [Inhabited α] {l : List α} {g : α → Bool} {k : Nat} (hk : k < l.length) (e : g (rd l (k : Int)) = false) : l.all g = false := by
 rw [qcJ hk] at e; exact qo1 hk e
theorem wp.qcN.math (op : Int) : wp.qcN op (fun r => r = M.qcN op) := by
 intro r hr
 refine qa3 (fun e => ?_) fun e => ?_
 ·have : M.isIn op 0 16 = false := nt e hr
  have h' : ¬ (0 ≤ op ∧ op ≤ 16) := by simpa [M.isIn] using this
  have h2 : M.isIn op 3 9 = false := by simp [M.isIn]; omega
  simp only [M.qcN, M.qga, h2]
  rw [if_neg (by omega), if_neg (by omega), if_neg (by omega), if_neg (by omega), if_neg (by omega), if_neg (by omega)]
  rfl
 ·have : M.isIn op 0 16 = true := nf e hr
  have h' : 0 ≤ op ∧ op ≤ 16 := by simpa [M.isIn] using this
  refine ⟨by simp; omega, ?_⟩
  have : op = 0 ∨ op = 1 ∨ op = 2 ∨ op = 3 ∨ op = 4 ∨ op = 5 ∨ op = 6 ∨ op = 7 ∨ op = 8 ∨ op = 9 ∨ op = 10 ∨ op = 11 ∨ op = 12 ∨ op = 13 ∨ op = 14 ∨ op = 15 ∨ op = 16 := by omega
  rcases this with rfl | rfl | rfl | rfl | rfl | rfl | rfl | rfl | rfl | rfl | rfl | rfl | rfl | rfl | rfl | rfl | rfl <;> rfl
theorem wp.qav.math (f x n : Int) (h : M.qcE f x n) : wp.qav f x n (fun r => r = M.qav f x n) := by
 refine qa3 (fun e r hr => ?_) fun e1 => qa3 (fun e r hr => ?_) fun e2 => qa3 (fun e r hr => ?_) fun e3 => ?_
 ·simp at e; simp [M.qav, e, hr, M.qd0]
 ·simp at e; simp [M.qav, e, hr, M.qbn]
 ·simp at e; simp [M.qav, e, hr, M.qah]
 ·simp at e1 e2 e3; simp [M.qav, e1, e2, e3]
theorem qnV {a b : ByteArray} (h : ByteArray.toList a ≠ ByteArray.toList b) : (!(ByteArray.toList a == ByteArray.toList b)) = true := by simp [h]
theorem qkk (op : Int) : (M.qga op = ⟨#[45, 45, 45]⟩ ∧ (op = 0 ∨ op = 12 ∨ op = 16)) ∨ (M.qga op = ⟨#[82, 87, 45]⟩ ∧ op = 1) ∨ (M.qga op = ⟨#[82, 82, 45]⟩ ∧ (op = 2 ∨ op = 13 ∨ op = 14 ∨ op = 15)) ∨
    (M.qga op = ⟨#[82, 45, 45]⟩ ∧ op = 8) ∨ (M.qga op = ⟨#[82, 84, 45]⟩ ∧ op = 10) ∨ (M.qga op = ⟨#[45, 84, 45]⟩ ∧ op = 11) ∨ (M.qga op = ⟨#[82, 82, 82]⟩ ∧ (3 ≤ op ∧ op ≤ 7 ∨ op = 9)) ∨
    (M.qga op = ⟨#[]⟩ ∧ (op < 0 ∨ op > 16)) := by
 unfold M.qga
 by_cases a1 : op = 0 ∨ op = 12 ∨ op = 16
 ·rw [if_pos a1]; exact .inl ⟨rfl, a1⟩
 rw [if_neg a1]
 by_cases a2 : op = 1
 ·rw [if_pos a2]; exact .inr (.inl ⟨rfl, a2⟩)
 rw [if_neg a2]
 by_cases a3 : op = 2 ∨ op = 13 ∨ op = 14 ∨ op = 15
 ·rw [if_pos a3]; exact .inr (.inr (.inl ⟨rfl, a3⟩))
 rw [if_neg a3]
 by_cases a4 : op = 8
 ·rw [if_pos a4]; exact .inr (.inr (.inr (.inl ⟨rfl, a4⟩)))
 rw [if_neg a4]
 by_cases a5 : op = 10
 ·rw [if_pos a5]; exact .inr (.inr (.inr (.inr (.inl ⟨rfl, a5⟩))))
 rw [if_neg a5]
 by_cases a6 : op = 11
 ·rw [if_pos a6]; exact .inr (.inr (.inr (.inr (.inr (.inl ⟨rfl, a6⟩)))))
 rw [if_neg a6]
 by_cases a7 : 3 ≤ op ∧ op ≤ 9
 ·rw [if_pos (by simp [M.isIn]; omega)]; exact .inr (.inr (.inr (.inr (.inr (.inr (.inl ⟨rfl, by omega⟩))))))
 rw [if_neg (by simp [M.isIn]; omega)]; exact .inr (.inr (.inr (.inr (.inr (.inr (.inr ⟨rfl, by omega⟩))))))
theorem qfW {i : D.Ins} {n : Int} {f : ByteArray} {x y z : Int} (hx : bt f 0 = x) (hy : bt f 1 = y) (hz : bt f 2 = z) (hs : f.size = 3) (hf : ByteArray.toList f ≠ ByteArray.toList (⟨#[]⟩)) {P : Bool → Prop} (hin : M.isIn n 0 32 = false → P false)
    (h : M.isIn n 0 32 = true → P (M.qav x i.A n && (M.qav y i.B n && M.qav z i.C n))) :
    qa1 (!(ByteArray.toList f == ByteArray.toList (⟨#[]⟩))) ((∀ r28, r28 = M.qah n 0 32 → qa1 r28 (((0 ≤ (0 : Int) ∧ (0 : Int) < ((ByteArray.size f : Nat) : Int)) ∧ (M.qcE (bt f 0) i.A n ∧ ∀ r38, r38 = M.qav (bt f 0) i.A n → qa1 r38 (((0 ≤ (1 : Int) ∧ (1 : Int) < ((ByteArray.size f : Nat) : Int)) ∧ (M.qcE (bt f 1) i.B n ∧ ∀ r48, r48 = M.qav (bt f 1) i.B n → qa1 r48 (((0 ≤ (2 : Int) ∧ (2 : Int) < ((ByteArray.size f : Nat) : Int)) ∧ (M.qcE (bt f 2) i.C n ∧ ∀ r58, r58 = M.qav (bt f 2) i.C n → P r58))) (P false)))) (P false)))) (P false))) (P false) := by
 refine qb1 (qnV hf) fun r1 h1 => qa3 (fun e1 => ⟨by omega, trivial, fun r2 h2 => qa3 (fun e2 => ⟨by omega, trivial, fun r3 h3 => qa3 (fun e3 => ⟨by omega, trivial, fun r4 h4 => ?_⟩) fun e3 => ?_⟩) fun e2 => ?_⟩) fun e1 => hin (h1.symm.trans e1)
 all_goals have hh := h (h1.symm.trans e1)
 ·rw [hx] at h2; rw [hy] at h3; rw [hz] at h4
  rw [← h2, ← h3, ← h4, e2, e3] at hh; exact hh
 ·rw [hx] at h2; rw [hy] at h3
  rw [← h2, ← h3, e2, e3] at hh; exact hh
 ·rw [hx] at h2
  rw [← h2, e2] at hh; exact hh
theorem wp.qaN.math (i : D.Ins) (n : Int) : wp.qaN i n (fun r => r = M.qaN i n) := by
 intro r hr
 have hr' : r = M.qga i.Op := hr
 rcases qkk i.Op with ⟨e, h⟩ | ⟨e, h⟩ | ⟨e, h⟩ | ⟨e, h⟩ | ⟨e, h⟩ | ⟨e, h⟩ | ⟨e, h⟩ | ⟨e, h⟩
 case inr.inr.inr.inr.inr.inr.inr =>
  rw [hr', e]
  refine qb8 (by simp) ?_
  simp only [M.qaN, M.qcM]
  rw [if_neg (by omega), if_neg (by omega), if_neg (by omega), if_neg (by omega), if_neg (by omega), if_neg (by omega)]
  have : M.isIn i.Op 3 9 = false := by simp [M.isIn]; omega
  simp [this]
 ·rw [hr', e]
  refine qfW (x := 45) (y := 45) (z := 45) (P := fun r => r = M.qaN i n) (by decide +kernel) (by decide +kernel) (by decide +kernel) rfl (by decide +kernel) (fun hn => by simp [M.qaN, M.qcM, hn]) fun hn => ?_
  simp only [M.qaN, M.qcM, hn, Bool.true_and]
  rw [if_pos h]
  simp [M.qav]
 ·rw [hr', e]
  refine qfW (x := 82) (y := 87) (z := 45) (P := fun r => r = M.qaN i n) (by decide +kernel) (by decide +kernel) (by decide +kernel) rfl (by decide +kernel) (fun hn => by simp [M.qaN, M.qcM, hn]) fun hn => ?_
  simp only [M.qaN, M.qcM, hn, Bool.true_and]
  rw [if_neg (by omega), if_pos h]
  simp [M.qav]
 ·rw [hr', e]
  refine qfW (x := 82) (y := 82) (z := 45) (P := fun r => r = M.qaN i n) (by decide +kernel) (by decide +kernel) (by decide +kernel) rfl (by decide +kernel) (fun hn => by simp [M.qaN, M.qcM, hn]) fun hn => ?_
  simp only [M.qaN, M.qcM, hn, Bool.true_and]
  rw [if_neg (by omega), if_neg (by omega), if_pos h]
  simp [M.qav]
 ·rw [hr', e]
  refine qfW (x := 82) (y := 45) (z := 45) (P := fun r => r = M.qaN i n) (by decide +kernel) (by decide +kernel) (by decide +kernel) rfl (by decide +kernel) (fun hn => by simp [M.qaN, M.qcM, hn]) fun hn => ?_
  simp only [M.qaN, M.qcM, hn, Bool.true_and]
  rw [if_neg (by omega), if_neg (by omega), if_neg (by omega), if_pos h]
  simp [M.qav]
 ·rw [hr', e]
  refine qfW (x := 82) (y := 84) (z := 45) (P := fun r => r = M.qaN i n) (by decide +kernel) (by decide +kernel) (by decide +kernel) rfl (by decide +kernel) (fun hn => by simp [M.qaN, M.qcM, hn]) fun hn => ?_
  simp only [M.qaN, M.qcM, hn, Bool.true_and]
  rw [if_neg (by omega), if_neg (by omega), if_neg (by omega), if_neg (by omega), if_pos h]
  simp [M.qav]
 ·rw [hr', e]
  refine qfW (x := 45) (y := 84) (z := 45) (P := fun r => r = M.qaN i n) (by decide +kernel) (by decide +kernel) (by decide +kernel) rfl (by decide +kernel) (fun hn => by simp [M.qaN, M.qcM, hn]) fun hn => ?_
  simp only [M.qaN, M.qcM, hn, Bool.true_and]
  rw [if_neg (by omega), if_neg (by omega), if_neg (by omega), if_neg (by omega), if_neg (by omega), if_pos h]
  simp [M.qav]
 ·rw [hr', e]
  refine qfW (x := 82) (y := 82) (z := 82) (P := fun r => r = M.qaN i n) (by decide +kernel) (by decide +kernel) (by decide +kernel) rfl (by decide +kernel) (fun hn => by simp [M.qaN, M.qcM, hn]) fun hn => ?_
  simp only [M.qaN, M.qcM, hn, Bool.true_and]
  rw [if_neg (by omega), if_neg (by omega), if_neg (by omega), if_neg (by omega), if_neg (by omega), if_neg (by omega)]
  have : M.isIn i.Op 3 9 = true := by simp [M.isIn]; omega
  simp [M.qav, this]
theorem wp.qbl.math (i : D.Ins) (p : List D.Ins) : wp.qbl i p (fun r => r = M.qbl i p) := fun r hr => by rw [hr]; rfl
theorem wp.qa7.math (l : List D.Ins) (g : D.Ins → Bool) (D : D.Ins → Prop) (h : M.qci l g D) : wp.qa7 l g D (fun r => r = M.qa7 l g) := by
 unfold wp.qa7
 obtain ⟨h1, h2⟩ := h
 refine qdl l.length (fun k => ((k : Int), ())) (fun k => M.qa7 l g = M.qd7 g (l.drop k) k) rfl (by simp [M.qa7]) (fun k hk hF next hn => ?_) fun hF next => ?_
 ·rw [qfA g l k hk] at hF
  refine qb1 (by simp; omega) ⟨by omega, h2 _ (qg7 hk), fun r hr => qa3 (fun e => ?_) fun e => ?_⟩
  ·rw [hF, if_pos (by rw [← hr]; exact e)]
  ·rw [up64 hk h1]
   exact hn (by rw [hF, if_neg (by rw [← hr, e]; simp)])
 ·refine qb8 (by simp) ?_
  rw [hF]; simp [M.qd7]
theorem wp.qa8.math (l : List D.Ins) (g : D.Ins → Bool) (D : D.Ins → Prop) (h : M.qbX l g D) : wp.qa8 l g D (fun r => r = M.qa8 l g) :=
 ⟨h, fun r hr => by rw [hr]; exact qe9 g l 0⟩
theorem wp.qaD.math (p : List D.Ins) (h : M.qcB p) : wp.qaD p (fun r => r = M.qaD p) := by
 refine qa3 (fun e => ⟨⟨h, fun _ _ => trivial⟩, fun r hr => ?_⟩) fun e => ?_
 ·have h32 : p.length ≤ 32 := by simp at e; omega
  rw [hr]
  simp only [M.qa8, M.qaD, M.qat, M.qbl, ← List.all_eq_not_any_not, h32, decide_true, Bool.true_and]
 ·have h32 : ¬ p.length ≤ 32 := by simp at e; omega
  simp [M.qaD, M.qat, h32]
theorem qlX {a b : Int} (ha : 0 ≤ a ∧ a ≤ 65535) (hb : 0 ≤ b ∧ b ≤ 65535) : 0 ≤ a * b ∧ a * b ≤ 4294836225 :=
 ⟨Int.mul_nonneg ha.1 hb.1, by have := Int.mul_le_mul ha.2 hb.2 hb.1 (by omega : (0 : Int) ≤ 65535); omega⟩
theorem wp.qcy.math (a b : Int) : wp.qcy a b (fun r => r = M.qcy a b) := by
 intro r1 h1
 refine qa3 (fun e1 r2 h2 => qa3 (fun e2 => qa3 (fun e3 => ?_) fun e3 => ?_) fun e2 => ?_) fun e1 => ?_
 ·have ha : M.isWord a = true := h1.symm.trans e1
  have hb : M.isWord b = true := h2.symm.trans e2
  simp at e3; simp [M.qcy, M.qjh, ha, hb, e3]
 ·simp at e3; simp [M.qcy, M.qjh]; omega
 ·have hb : M.isWord b = false := h2.symm.trans e2
  simp [M.qcy, M.qjh, hb]
 ·have ha : M.isWord a = false := h1.symm.trans e1
  simp [M.qcy, M.qjh, ha]
theorem wp.qbT.math (a b : Int) : wp.qbT a b (fun r => r = M.qbT a b) := wp.qcy.math a b
theorem wp.qc7.math (a b : Int) : wp.qc7 a b (fun r => r = M.qc7 a b) := by
 intro r hr
 rw [hr]
 simp only [M.qb9, M.qc7, M.subW]
 by_cases h : (M.isWord a && M.isWord b) = true
 ·rw [if_pos h, if_pos h]
  simp only [Bool.and_eq_true, qeN] at h
  rw [w64 (by omega) (by omega)]
 ·rw [if_neg h, if_neg h]
theorem wp.qbY.math (a b : Int) : wp.qbY a b (fun r => r = M.qbY a b) := by
 intro r hr
 rw [hr]
 simp only [M.qb9, M.qbY, M.mulW]
 by_cases h : (M.isWord a && M.isWord b) = true
 ·rw [if_pos h, if_pos h]
  simp only [Bool.and_eq_true, qeN] at h
  have := qlX h.1 h.2
  rw [w64 (by omega) (by omega)]
 ·rw [if_neg h, if_neg h]
theorem qew {x : Int} : M.qfr x = true ↔ 0 ≤ x ∧ x ≤ 3 := by simp [M.qfr, M.isIn]
theorem qkj {i : D.Ins} {r : List Int} (h : M.Fits i r) : r.length = 4 ∧ (1 ≤ i.Op ∧ i.Op ≤ 10 → 0 ≤ i.A ∧ i.A ≤ 3) ∧ (2 ≤ i.Op ∧ i.Op ≤ 7 ∨ i.Op = 9 → 0 ≤ i.B ∧ i.B ≤ 3) ∧ (3 ≤ i.Op ∧ i.Op ≤ 7 ∨ i.Op = 9 → 0 ≤ i.C ∧ i.C ≤ 3) := by
 obtain ⟨hl, n, hok⟩ := h
 simp only [M.qcM, Bool.and_eq_true] at hok
 have hok := hok.2
 split at hok
 ·exact ⟨hl, by omega, by omega, by omega⟩
 split at hok
 ·simp only [Bool.and_eq_true, qew] at hok
  exact ⟨hl, fun _ => hok.1, by omega, by omega⟩
 split at hok
 ·simp only [Bool.and_eq_true, qew] at hok
  exact ⟨hl, fun _ => hok.1, fun _ => hok.2.1, by omega⟩
 split at hok
 ·simp only [Bool.and_eq_true, qew] at hok
  exact ⟨hl, fun _ => hok.1, by omega, by omega⟩
 split at hok
 ·simp only [Bool.and_eq_true, qew] at hok
  exact ⟨hl, fun _ => hok.1, by omega, by omega⟩
 split at hok
 ·exact ⟨hl, by omega, by omega, by omega⟩
 ·simp only [Bool.and_eq_true, qew] at hok
  exact ⟨hl, fun _ => hok.2.1, fun _ => hok.2.2.1, fun _ => hok.2.2.2⟩
theorem qe5 {r : List Int} {x : Int} (hl : r.length = 4) (h : 0 ≤ x ∧ x ≤ 3) : 0 ≤ x ∧ x < (r.length : Int) := by omega
def Inv (p : List D.Ins) (l : D.Lane) : Prop := 0 ≤ l.Pc ∧ l.Pc ≤ p.length ∧ l.Regs.length = 4
theorem qib {α : Type} [Inhabited α] {xs : List α} {i : Int} (h0 : 0 ≤ i) (h1 : i < (xs.length : Int)) : rd xs i ∈ xs := by
 obtain ⟨k, rfl⟩ := Int.eq_ofNat_of_zero_le h0
 exact qg7 (by omega)
theorem qnj {p : List D.Ins} (hp : M.qat p = true) {l : D.Lane} (hi : Inv p l) (hlt : l.Pc < p.length) : M.At p l.Pc l.Regs := by
 obtain ⟨h0, h1, h2⟩ := hi
 simp only [M.qat, Bool.and_eq_true, decide_eq_true_eq, List.all_eq_true] at hp
 exact ⟨by unfold M.Long; omega, h0, hlt, h2, _, hp.2 _ (qib h0 hlt)⟩
theorem qgo (i : D.Ins) (t : Int) (r : List Int) : (M.apply i t r).length = r.length := by
 unfold M.apply
 (repeat' split) <;> simp
theorem qns {p : List D.Ins} {l : D.Lane} (hp : M.qat p = true) (hi : Inv p l) (hlt : l.Pc < p.length) : 0 ≤ M.next p l.Pc l.Regs ∧ M.next p l.Pc l.Regs ≤ p.length := by
 obtain ⟨h0, h1, h2⟩ := hi
 simp only [M.qat, Bool.and_eq_true, decide_eq_true_eq, List.all_eq_true] at hp
 have hok := hp.2 _ (qib h0 hlt)
 simp only [M.qcM, Bool.and_eq_true] at hok
 have hok := hok.2
 unfold M.next
 split
 ·omega
 split
 ·rename_i h12 h11
  rw [if_neg (by omega), if_neg (by omega), if_neg (by omega), if_neg (by omega), if_neg (by omega), if_pos h11] at hok
  simp only [Bool.and_eq_true, M.isIn, decide_eq_true_eq] at hok
  exact hok.2.1
 split
 ·rename_i h12 h11 h10
  rw [if_neg (by omega), if_neg (by omega), if_neg (by omega), if_neg (by omega), if_pos h10] at hok
  simp only [Bool.and_eq_true, M.isIn, decide_eq_true_eq] at hok
  split
  ·exact hok.2.1
  ·omega
 ·omega
theorem qmM {p : List D.Ins} {l : D.Lane} (hp : M.qat p = true) (hi : Inv p l) (hlt : l.Pc < p.length) : Inv p (M.step p l) := by
 have h := qns hp hi hlt
 exact ⟨h.1, h.2, by simp only [M.step, qgo]; exact hi.2.2⟩
theorem qht {p : List D.Ins} {l : D.Lane} (h : M.qfB p l = true) : M.qat p = true ∧ Inv p l := by
 simp only [M.qfB, M.qkm, M.qgt, M.isIn, Bool.and_eq_true, decide_eq_true_eq, beq_iff_eq] at h
 exact ⟨h.1, h.2.2.1.1, h.2.2.1.2, h.2.2.2.1⟩
end Go.V
namespace Go.V
open IntKind (wrap)
def wp.qbf (b : Int) (Q : Bool → Prop) : Prop :=
 (∀ a, a = M.qah b 0 2 → Q a)
def wp.qaG (b : List Int) (c : Int) (Q : Int → Prop) : Prop :=
 qdd (σ := Int × Unit) (fun (d : Int × Unit) e => match d with | (a, _) => qa1 (decide (a < (b.length : Int))) (((0 ≤ a ∧ a < (b.length : Int)) ∧ qa1 (c == (rd b a)) (Q a) (e ((wrap .i64 (a + 1)), ())))) (Q (-1))) (0, ())
def wp.qaL (a : List Int) (b : Int) (Q : Bool → Prop) : Prop :=
 (M.qdt a b ∧ ∀ c, c = M.qaG a b → Q (decide (c ≥ 0)))
end Go.V
namespace Go.V
open IntKind (wrap)
theorem wp.qbf.math (x : Int) : wp.qbf x (fun r => r = M.qbf x) := fun r hr => hr
theorem wp.qaG.math (l : List Int) (x : Int) (h : M.qdt l x) : wp.qaG l x (fun r => r = M.qaG l x) := by
 unfold wp.qaG
 refine qdl l.length (fun k => ((k : Int), ())) (fun k => M.qaG l x = M.qd7 (fun y => x == y) (l.drop k) k) rfl (by simp [M.qaG]) (fun k hk hF next hn => ?_) fun hF next => ?_
 ·rw [qfA _ l k hk] at hF
  refine qb1 (by simp; omega) ⟨by omega, qa3 (fun e => ?_) fun e => ?_⟩
  ·rw [hF, if_pos e]
  ·rw [up64 hk h]
   exact hn (by rw [hF, if_neg (by rw [e]; simp)])
 ·refine qb8 (by simp) ?_
  rw [hF]; simp [M.qd7]
theorem wp.qaL.math (l : List Int) (x : Int) (h : M.qd3 l x) : wp.qaL l x (fun r => r = M.qaL l x) :=
 ⟨h, fun r hr => by rw [hr]; exact qe9 _ l 0⟩
end Go.V
namespace Go.V
open IntKind (wrap)
def wp.qaM (a : List Int) (Q : D.Cur → Prop) : Prop :=
 qdd (σ := Int × Int × Unit) (fun (d : Int × Int × Unit) e => match d with | (c, b, _) => qa1 (decide (b < (a.length : Int))) (qa1 (decide (b < 4000)) (((0 ≤ b ∧ b < (a.length : Int)) ∧ e ((qds .i64 (wrap .i64 ((wrap .i64 ((wrap .i64 (c * 131)) + (wrap .i64 (rd a b)))) + 7)) 1073741823), (wrap .i64 (b + 1)), ()))) (Q (⟨a, 0, c⟩ : D.Cur))) (Q (⟨a, 0, c⟩ : D.Cur))) ((wrap .i64 (98561 + (a.length : Int))), 0, ())
def wp.qab (a : D.Cur) (Q : (Int × D.Cur) → Prop) : Prop :=
 qa1 (decide (a.i < (a.b.length : Int))) (((0 ≤ a.i ∧ a.i < (a.b.length : Int)) ∧ Q ((qds .i64 (wrap .i64 ((qds .i64 (qg8 .i64 (Int.fdiv (wrap .i64 ((wrap .i64 (a.h * 6364136223846793005)) + 1442695040888963407)) (2 ^ (min ((33 : Int).toNat) (IntKind.bits .i64)))) (Int.fdiv (wrap .i64 ((wrap .i64 (a.h * 6364136223846793005)) + 1442695040888963407)) (2 ^ (min ((45 : Int).toNat) (IntKind.bits .i64))))) 255) + (wrap .i64 (rd a.b a.i)))) 255), (⟨a.b, (wrap .i64 (a.i + 1)), (wrap .i64 ((wrap .i64 (a.h * 6364136223846793005)) + 1442695040888963407))⟩ : D.Cur)))) (Q ((qds .i64 (qg8 .i64 (Int.fdiv (wrap .i64 ((wrap .i64 (a.h * 6364136223846793005)) + 1442695040888963407)) (2 ^ (min ((33 : Int).toNat) (IntKind.bits .i64)))) (Int.fdiv (wrap .i64 ((wrap .i64 (a.h * 6364136223846793005)) + 1442695040888963407)) (2 ^ (min ((45 : Int).toNat) (IntKind.bits .i64))))) 255), (⟨a.b, a.i, (wrap .i64 ((wrap .i64 (a.h * 6364136223846793005)) + 1442695040888963407))⟩ : D.Cur)))
def wp.qa0 (a : D.Cur) (c : Int) (Q : (Int × D.Cur) → Prop) : Prop :=
 qa1 (decide (c ≤ 0)) (Q (0, (⟨a.b, a.i, a.h⟩ : D.Cur))) (qa1 (decide (c ≤ 256)) ((M.qcT a ∧ ∀ g, g = M.qab a → (((c : Int) ≠ 0) ∧ Q ((Int.tmod g.1 c), (⟨a.b, g.2.i, g.2.h⟩ : D.Cur))))) ((M.qcT a ∧ ∀ d, d = M.qab a → (M.qcT (⟨a.b, d.2.i, d.2.h⟩ : D.Cur) ∧ ∀ e, e = M.qab (⟨a.b, d.2.i, d.2.h⟩ : D.Cur) → (M.qcT (⟨a.b, e.2.i, e.2.h⟩ : D.Cur) ∧ ∀ f, f = M.qab (⟨a.b, e.2.i, e.2.h⟩ : D.Cur) → (M.qcT (⟨a.b, f.2.i, f.2.h⟩ : D.Cur) ∧ ∀ j, j = M.qab (⟨a.b, f.2.i, f.2.h⟩ : D.Cur) → (((c : Int) ≠ 0) ∧ Q ((Int.tmod (wrap .i64 ((wrap .i64 ((wrap .i64 ((wrap .i64 (d.1 * 16777216)) + (wrap .i64 (e.1 * 65536)))) + (wrap .i64 (f.1 * 256)))) + j.1)) c), (⟨a.b, j.2.i, j.2.h⟩ : D.Cur)))))))))
def wp.qap (d : D.Cur) (c : List Int) (Q : (Int × D.Cur) → Prop) : Prop :=
 (M.qau d (c.length : Int) ∧ ∀ a, a = M.qa0 d (c.length : Int) → ((0 ≤ a.1 ∧ a.1 < (c.length : Int)) ∧ Q ((rd c a.1), (⟨d.b, a.2.i, a.2.h⟩ : D.Cur))))
def wp.qaq (c : D.Cur) (Q : (D.Ins × D.Cur) → Prop) : Prop :=
 (M.qau c 9 ∧ ∀ d, d = M.qa0 c 9 → (M.qau (⟨c.b, d.2.i, d.2.h⟩ : D.Cur) 4 ∧ ∀ a, a = M.qa0 (⟨c.b, d.2.i, d.2.h⟩ : D.Cur) 4 → qa1 ((wrap .i64 (1 + d.1)) == 1) ((M.qau (⟨c.b, a.2.i, a.2.h⟩ : D.Cur) 6 ∧ ∀ f, f = M.qa0 (⟨c.b, a.2.i, a.2.h⟩ : D.Cur) 6 → Q ((⟨(wrap .i64 (1 + d.1)), a.1, f.1, 0⟩ : D.Ins), (⟨c.b, f.2.i, f.2.h⟩ : D.Cur)))) (qa1 ((wrap .i64 (1 + d.1)) == 8) (Q ((⟨(wrap .i64 (1 + d.1)), a.1, 0, 0⟩ : D.Ins), (⟨c.b, a.2.i, a.2.h⟩ : D.Cur))) (qa1 ((wrap .i64 (1 + d.1)) == 2) ((M.qau (⟨c.b, a.2.i, a.2.h⟩ : D.Cur) 4 ∧ ∀ g, g = M.qa0 (⟨c.b, a.2.i, a.2.h⟩ : D.Cur) 4 → Q ((⟨(wrap .i64 (1 + d.1)), a.1, g.1, 0⟩ : D.Ins), (⟨c.b, g.2.i, g.2.h⟩ : D.Cur)))) ((M.qau (⟨c.b, a.2.i, a.2.h⟩ : D.Cur) 4 ∧ ∀ e, e = M.qa0 (⟨c.b, a.2.i, a.2.h⟩ : D.Cur) 4 → (M.qau (⟨c.b, e.2.i, e.2.h⟩ : D.Cur) 4 ∧ ∀ j, j = M.qa0 (⟨c.b, e.2.i, e.2.h⟩ : D.Cur) 4 → Q ((⟨(wrap .i64 (1 + d.1)), a.1, e.1, j.1⟩ : D.Ins), (⟨c.b, j.2.i, j.2.h⟩ : D.Cur)))))))))
def wp.qb2 (b : List Int) (Q : (List Int) → Prop) : Prop :=
 (M.qez b ∧ ∀ c, c = M.qaM b → qdd (σ := (List Int) × Int × Int × Int × Unit) (fun (j : (List Int) × Int × Int × Int × Unit) k => match j with | (d, e, f, g, _) => qa1 (decide (e < 12)) ((M.qau (⟨b, f, g⟩ : D.Cur) 10000 ∧ ∀ a, a = M.qa0 (⟨b, f, g⟩ : D.Cur) 10000 → ((d.length + ([a.1] : List Int).length ≤ 17179869184) ∧ k ((d ++ ([a.1] : List Int)), (wrap .i64 (e + 1)), a.2.i, a.2.h, ())))) (Q d)) (([] : List Int), 0, c.i, c.h, ()))
def wp.qeh (a : List Int) (Q : Bool → Prop) : Prop :=
 Q (decide ((a.length : Int) > 1048576))
end Go.V
namespace Go.V
open IntKind (wrap)
theorem qj7 (x : Int) : qds .i64 x 255 = x % 256 := by
 unfold qds
 have e1 : (BitVec.ofInt (IntKind.bits .i64) x &&& BitVec.ofInt (IntKind.bits .i64) 255).toNat = (x % 256).toNat := by
  show (BitVec.ofInt 64 x &&& BitVec.ofInt 64 255).toNat = _
  rw [BitVec.toNat_and, BitVec.toNat_ofInt, show (BitVec.ofInt 64 255).toNat = 2 ^ 8 - 1 from rfl, Nat.and_two_pow_sub_one_eq_mod]
  rw [show ((2 ^ 64 : Nat) : Int) = 18446744073709551616 from rfl]
  omega
 rw [e1, w64 (by omega) (by omega)]
 omega
theorem qip (c : D.Cur) : 0 ≤ (M.qab c).1 ∧ (M.qab c).1 ≤ 255 := by
 unfold M.qab
 split
 ·show 0 ≤ qds .i64 _ 255 ∧ qds .i64 _ 255 ≤ 255
  rw [qj7]; omega
 ·show 0 ≤ M.curX _ ∧ M.curX _ ≤ 255
  unfold M.curX
  rw [qj7]; omega
theorem qiC (c : D.Cur) : (M.qab c).2.b = c.b := by unfold M.qab; split <;> rfl
theorem qgp {c : D.Cur} (h : M.qdv c) : M.qdv (M.qab c).2 := by
 obtain ⟨h1, h2⟩ := h
 refine ⟨?_, by rw [qiC]; exact h2⟩
 unfold M.Long at h2
 unfold M.qab
 split
 ·rename_i hlt
  show 0 ≤ wrap .i64 (c.i + 1)
  rw [w64 (by omega) (by omega)]; omega
 ·exact h1
theorem qcq (c : D.Cur) (n : Int) : (M.qa0 c n).2.b = c.b := by
 unfold M.qa0
 (repeat' split) <;> simp only [qiC]
theorem qbP {c : D.Cur} (h : M.qdv c) (n : Int) : M.qdv (M.qa0 c n).2 := by
 unfold M.qa0
 split
 ·exact h
 split
 ·exact qgp h
 ·exact qgp (qgp (qgp (qgp h)))
theorem qku {x n : Int} (hx : 0 ≤ x) (hn : 0 < n) : 0 ≤ Int.tmod x n ∧ Int.tmod x n < n :=
 ⟨Int.tmod_nonneg _ hx, Int.tmod_lt_of_pos _ hn⟩
theorem qd5 (c : D.Cur) {n : Int} (hn : 0 < n) : 0 ≤ (M.qa0 c n).1 ∧ (M.qa0 c n).1 < n := by
 unfold M.qa0
 rw [if_neg (by omega)]
 split
 ·exact qku (qip c).1 hn
 ·refine qku ?_ hn
  have h1 := qip c
  have h2 := qip (M.qab c).2
  have h3 := qip (M.qab (M.qab c).2).2
  have h4 := qip (M.qab (M.qab (M.qab c).2).2).2
  rw [w64 (x := (M.qab c).1 * 16777216) (by omega) (by omega), w64 (x := (M.qab (M.qab c).2).1 * 65536) (by omega) (by omega),
   w64 (x := (M.qab (M.qab (M.qab c).2).2).1 * 256) (by omega) (by omega), w64 (x := _ + (M.qab (M.qab c).2).1 * 65536) (by omega) (by omega),
   w64 (x := _ + (M.qab (M.qab (M.qab c).2).2).1 * 256) (by omega) (by omega), w64 (by omega) (by omega)]
  omega
set_option maxRecDepth 20000 in
theorem wp.qaM.math (b : List Int) (h : M.qez b) : wp.qaM b (fun r => r = M.qaM b) := by
 unfold wp.qaM
 have hl : b.length ≤ 9223372036854775807 := h
 let h0 := wrap .i64 (98561 + (b.length : Int))
 refine qdl (min b.length 4000) (fun k => ((b.take k).foldl M.qkD h0, (k : Int), ())) (fun _ => True) rfl trivial (fun k hk _ next hn => ?_) fun _ next => ?_
 ·have hk1 : k < b.length := by omega
  have hn := hn trivial
  rw [List.take_add_one, List.getElem?_eq_getElem hk1, Option.toList_some, List.foldl_append] at hn
  refine qb1 (by simp; omega) (qb1 (by simp; omega) ⟨by omega, ?_⟩)
  rw [up64 hk1 hl, qcJ hk1]
  exact hn
 ·have fin : (⟨b, 0, (b.take (min b.length 4000)).foldl M.qkD h0⟩ : D.Cur) = M.qaM b := by
    unfold M.qaM
    congr 2
    rcases Nat.le_total b.length 4000 with g | g
    ·rw [Nat.min_eq_left g, List.take_length, List.take_of_length_le g]
    ·rw [Nat.min_eq_right g]
  by_cases g : b.length ≤ 4000
  ·exact qb8 (by simp; omega) fin
  ·exact qb1 (by simp; omega) (qb8 (by simp; omega) fin)
theorem wp.qab.math (c : D.Cur) (h : M.qcT c) : wp.qab c (fun r => r = M.qab c) := by
 obtain ⟨h1, h2⟩ := h
 refine qa3 (fun e => ⟨⟨h1, by simpa using e⟩, ?_⟩) fun e => ?_
 ·have e : c.i < (c.b.length : Int) := by simpa using e
  unfold M.qab
  rw [if_pos e]; rfl
 ·have e : ¬ c.i < (c.b.length : Int) := by simpa using e
  unfold M.qab
  rw [if_neg e]; rfl
theorem qcL {c d : D.Cur} (h : d.b = c.b) : (⟨c.b, d.i, d.h⟩ : D.Cur) = d := by rw [← h]
theorem wp.qap.math (c : D.Cur) (l : List Int) (h : M.qdE c l) : wp.qap c l (fun r => r = M.qap c l) := by
 obtain ⟨h1, h2, h3⟩ := h
 have hpos : (0 : Int) < (l.length : Int) := by have := List.length_pos_iff.2 h2; omega
 refine ⟨h1, fun r hr => ?_⟩
 have := qd5 c hpos
 refine ⟨by rw [hr]; exact this, ?_⟩
 rw [hr, qcL (qcq c _)]; rfl
theorem wp.qa0.math (c : D.Cur) (n : Int) (h : M.qau c n) : wp.qa0 c n (fun r => r = M.qa0 c n) := by
 refine qa3 (fun e => ?_) fun e => qa3 (fun e2 => ⟨h, fun r hr => ⟨?_, ?_⟩⟩) fun e2 => ?_
 ·have e : n ≤ 0 := by simpa using e
  unfold M.qa0; rw [if_pos e]
 ·simp at e; omega
 ·have e : ¬ n ≤ 0 := by simpa using e
  have e2 : n ≤ 256 := by simpa using e2
  unfold M.qa0; rw [if_neg e, if_pos e2, hr, qcL (qiC c)]
 ·have e : ¬ n ≤ 0 := by simpa using e
  have e2 : ¬ n ≤ 256 := by simpa using e2
  have h1 := qgp h
  have h2 := qgp h1
  have h3 := qgp h2
  have b1 := qiC c
  have b2 : (M.qab (M.qab c).2).2.b = c.b := (qiC _).trans b1
  have b3 : (M.qab (M.qab (M.qab c).2).2).2.b = c.b := (qiC _).trans b2
  have b4 : (M.qab (M.qab (M.qab (M.qab c).2).2).2).2.b = c.b := (qiC _).trans b3
  refine ⟨h, fun r1 g1 => ?_⟩
  subst g1
  rw [qcL b1]
  refine ⟨h1, fun r2 g2 => ?_⟩
  subst g2
  rw [qcL b2]
  refine ⟨h2, fun r3 g3 => ?_⟩
  subst g3
  rw [qcL b3]
  refine ⟨h3, fun r4 g4 => ⟨by omega, ?_⟩⟩
  subst g4
  rw [qcL b4]
  unfold M.qa0; rw [if_neg e, if_neg e2]
theorem wp.qaq.math (c : D.Cur) (h : M.qe1 c) : wp.qaq c (fun r => r = M.qaq c) := by
 refine ⟨h, fun r1 g1 => ?_⟩
 subst g1
 rw [qcL (qcq c 9)]
 refine ⟨qbP h 9, fun r2 g2 => ?_⟩
 subst g2
 have b2 : (M.qa0 (M.qa0 c 9).2 4).2.b = c.b := (qcq _ _).trans (qcq _ _)
 have h2 := qbP (qbP h 9) 4
 rw [qcL b2]
 have cut : ∀ (n : Int), (⟨c.b, (M.qa0 (M.qa0 (M.qa0 c 9).2 4).2 n).2.i, (M.qa0 (M.qa0 (M.qa0 c 9).2 4).2 n).2.h⟩ : D.Cur) = (M.qa0 (M.qa0 (M.qa0 c 9).2 4).2 n).2 := fun n => qcL ((qcq _ _).trans b2)
 refine qa3 (fun e => ⟨h2, fun r3 g3 => ?_⟩) fun e1 => qa3 (fun e => ?_) fun e8 => qa3 (fun e => ⟨h2, fun r3 g3 => ?_⟩) fun e2 => ⟨h2, fun r3 g3 => ?_⟩
 ·subst g3
  rw [cut]
  have e : wrap .i64 (1 + (M.qa0 c 9).1) = 1 := by simpa using e
  simp only [M.qaq]; rw [if_pos e]
 ·have e1 : ¬ wrap .i64 (1 + (M.qa0 c 9).1) = 1 := by simpa using e1
  have e : wrap .i64 (1 + (M.qa0 c 9).1) = 8 := by simpa using e
  simp only [M.qaq]; rw [if_neg e1, if_pos e]
 ·subst g3
  rw [cut]
  have e1 : ¬ wrap .i64 (1 + (M.qa0 c 9).1) = 1 := by simpa using e1
  have e8 : ¬ wrap .i64 (1 + (M.qa0 c 9).1) = 8 := by simpa using e8
  have e : wrap .i64 (1 + (M.qa0 c 9).1) = 2 := by simpa using e
  simp only [M.qaq]; rw [if_neg e1, if_neg e8, if_pos e]
 ·subst g3
  rw [cut]
  refine ⟨qbP h2 4, fun r4 g4 => ?_⟩
  subst g4
  rw [qcL ((qcq _ _).trans ((qcq _ _).trans b2))]
  have e1 : ¬ wrap .i64 (1 + (M.qa0 c 9).1) = 1 := by simpa using e1
  have e8 : ¬ wrap .i64 (1 + (M.qa0 c 9).1) = 8 := by simpa using e8
  have e2 : ¬ wrap .i64 (1 + (M.qa0 c 9).1) = 2 := by simpa using e2
  simp only [M.qaq]; rw [if_neg e1, if_neg e8, if_neg e2]
theorem qlI (c : D.Cur) (l : List Int) : (M.qap c l).2.b = c.b := qcq _ _
theorem qkL {c : D.Cur} (h : M.qdv c) (l : List Int) : M.qdv (M.qap c l).2 := qbP h _
theorem wp.qeh.math (b : List Int) : wp.qeh b (fun r => r = M.qeh b) := rfl
theorem qmb (c : D.Cur) : (M.qaq c).2.b = c.b := by
 simp only [M.qaq]
 (repeat' split) <;> simp only [qcq]
theorem qkV {c : D.Cur} (h : M.qdv c) : M.qdv (M.qaq c).2 := by
 simp only [M.qaq]
 have h2 := qbP (qbP h 9) 4
 (repeat' split)
 ·exact qbP h2 _
 ·exact h2
 ·exact qbP h2 _
 ·exact qbP (qbP h2 _) _
theorem qla : ∀ (k : Nat) (c : D.Cur), (M.qdO k c).2.b = c.b
 | 0, c => rfl
 | k + 1, c => by simp only [M.qdO]; rw [qcq, qla k c]
theorem qk6 : ∀ (k : Nat) {c : D.Cur}, M.qdv c → M.qdv (M.qdO k c).2
 | 0, c, h => h
 | k + 1, c, h => qbP (qk6 k h) _
theorem qgx : ∀ (k : Nat) (c : D.Cur), (M.qdO k c).1.length = k
 | 0, c => rfl
 | k + 1, c => by simp only [M.qdO, List.length_append, qgx k c]; rfl
theorem qkX {b : List Int} (h : M.Long b) : M.qdv (M.qaM b) := ⟨by simp [M.qaM], h⟩
theorem wp.qb2.math (b : List Int) (h : M.qei b) : wp.qb2 b (fun r => r = M.qb2 b) := by
 refine ⟨h, fun r0 g0 => ?_⟩
 subst g0
 refine qdl 12 (fun k => ((M.qdO k (M.qaM b)).1, (k : Int), (M.qdO k (M.qaM b)).2.i, (M.qdO k (M.qaM b)).2.h, ())) (fun _ => True) rfl trivial (fun k hk _ next hn => ?_) fun _ next => ?_
 ·have hn := hn trivial
  refine qb1 (by simp; omega) ?_
  have e : (⟨b, (M.qdO k (M.qaM b)).2.i, (M.qdO k (M.qaM b)).2.h⟩ : D.Cur) = (M.qdO k (M.qaM b)).2 := qcL (c := M.qaM b) (qla k _)
  rw [e]
  refine ⟨qk6 k (qkX h), fun r hr => ⟨by rw [qgx]; simp; omega, ?_⟩⟩
  subst hr
  rw [up64 hk (by omega)]
  exact hn
 ·exact qb8 (by simp) rfl
theorem qhb (c : D.Cur) : M.qfr (M.qa0 c 4).1 = true := by
 have := qd5 c (n := 4) (by omega)
 rw [qew]; omega
theorem qld (c : D.Cur) {n : Int} (hn : 0 ≤ n ∧ n ≤ 32) : M.qcM (M.qaq c).1 n = true ∧ M.qbu (M.qaq c).1 = true := by
 have h9 := qd5 c (n := 9) (by omega)
 have hw : wrap .i64 (1 + (M.qa0 c 9).1) = 1 + (M.qa0 c 9).1 := w64 (by omega) (by omega)
 have hin : M.isIn n 0 32 = true := by simp [M.isIn]; omega
 have h6 := fun d : D.Cur => qd5 d (n := 6) (by omega)
 have hw6 : ∀ d : D.Cur, M.isWord (M.qa0 d 6).1 = true := fun d => by rw [qeN]; have := h6 d; omega
 simp only [M.qaq, hw]
 generalize (M.qa0 c 9).1 = o at *
 split
 ·rename_i e
  refine ⟨?_, by simp [M.qbu, M.isIn]; omega⟩
  simp only [M.qcM, hin, Bool.true_and]
  rw [if_neg (by omega), if_pos (by omega)]
  simp [qhb, hw6]
 split
 ·rename_i e
  refine ⟨?_, by simp [M.qbu, M.isIn]; omega⟩
  simp only [M.qcM, hin, Bool.true_and]
  rw [if_neg (by omega), if_neg (by omega), if_neg (by omega), if_pos (by omega)]
  simp [qhb]
 split
 ·rename_i e
  refine ⟨?_, by simp [M.qbu, M.isIn]; omega⟩
  simp only [M.qcM, hin, Bool.true_and]
  rw [if_neg (by omega), if_neg (by omega), if_pos (by omega)]
  simp [qhb]
 ·refine ⟨?_, by simp [M.qbu, M.isIn]; omega⟩
  simp only [M.qcM, hin, Bool.true_and]
  rw [if_neg (by omega), if_neg (by omega), if_neg (by omega), if_neg (by omega), if_neg (by omega), if_neg (by omega)]
  have : M.isIn (1 + o) 3 9 = true := by simp [M.isIn]; omega
  simp [qhb, this]
theorem qiA : ∀ (k : Nat) (c : D.Cur), ∀ x ∈ (M.qdO k c).1, 0 ≤ x ∧ x < 10000
 | 0, c, x, hx => by simp [M.qdO] at hx
 | k + 1, c, x, hx => by
  simp only [M.qdO, List.mem_append, List.mem_singleton] at hx
  rcases hx with hx | rfl
  ·exact qiA k c x hx
  ·exact qd5 _ (by omega)
theorem qlr (a b : Int) : M.isWord (M.qjh a b) = true := by unfold M.qjh; split <;> rfl
theorem qgM (c : Bool) (x : Int) : M.isWord (if c then x % 65536 else 0) = true := by split; exact qlm x; rfl
theorem qki (a b : Int) : M.isWord (M.addW a b) = true := qgM _ _
theorem qlC (a b : Int) : M.isWord (M.subW a b) = true := qgM _ _
theorem qm5 (a b : Int) : M.isWord (M.mulW a b) = true := qgM _ _
theorem qlM {a b : Int} (ha : M.isWord a = true) (hb : M.isWord b = true) : M.isWord (qg8 .i64 a b) = true := by
 rw [qeN] at *
 unfold qg8
 have e1 : (BitVec.ofInt (IntKind.bits .i64) a ^^^ BitVec.ofInt (IntKind.bits .i64) b).toNat = a.toNat ^^^ b.toNat := by
  show (BitVec.ofInt 64 a ^^^ BitVec.ofInt 64 b).toNat = _
  rw [BitVec.toNat_xor, BitVec.toNat_ofInt, BitVec.toNat_ofInt, show ((2 ^ 64 : Nat) : Int) = 18446744073709551616 from rfl]
  congr 1 <;> omega
 have e2 : a.toNat ^^^ b.toNat < 2 ^ 16 := Nat.xor_lt_two_pow (by omega) (by omega)
 rw [e1, w64 (by omega) (by omega)]
 omega
theorem qeA {r : List Int} (h : r.all M.isWord = true) (k : Nat) {x : Int} (hx : M.isWord x = true) : (r.set k x).all M.isWord = true := by
 rw [List.all_eq_true] at *
 intro y hy
 rcases List.mem_or_eq_of_mem_set hy with h' | rfl
 ·exact h y h'
 ·exact hx
theorem qin {i : D.Ins} {n : Int} {t : Int} {r : List Int} (hok : M.qcM i n = true) (ht : 0 ≤ t ∧ t ≤ 23) (hl : r.length = 4) (h : r.all M.isWord = true) : (M.apply i t r).all M.isWord = true := by
 obtain ⟨_, hA, hB, hC⟩ := qkj (i := i) (r := r) ⟨hl, n, hok⟩
 have hw := List.all_eq_true.1 h
 have rdw : ∀ x, 0 ≤ x ∧ x ≤ 3 → M.isWord (rd r x) = true := fun x hx => hw _ (qib hx.1 (by omega))
 unfold M.apply
 split
 ·rename_i e
  refine qeA h _ ?_
  simp only [M.qcM, Bool.and_eq_true] at hok
  have hok := hok.2
  rw [if_neg (by omega), if_pos e] at hok
  simp only [Bool.and_eq_true] at hok
  exact hok.2.1
 split
 ·exact qeA h _ (rdw _ (hB (by omega)))
 split
 ·exact qeA h _ (qki _ _)
 split
 ·exact qeA h _ (qlC _ _)
 split
 ·exact qeA h _ (qm5 _ _)
 split
 ·exact qeA h _ (qlM (rdw _ (hB (by omega))) (rdw _ (hC (by omega))))
 split
 ·exact qeA h _ (qlr _ _)
 split
 ·exact qeA h _ (qeN.2 (by omega))
 split
 ·split
  ·exact qeA h _ (rdw _ (hB (by omega)))
  ·exact h
 ·exact h
theorem qdi {p : List D.Ins} {l : D.Lane} (h : M.qfB p l = true) (hlt : l.Pc < p.length) : M.qfB p (M.step p l) = true := by
 obtain ⟨hp, hI⟩ := qht h
 have hI' := qmM hp hI hlt
 have hins := qnj hp hI hlt
 simp only [M.qfB, M.qkm, M.qgt, M.isIn, Bool.and_eq_true, decide_eq_true_eq, beq_iff_eq] at h ⊢
 have hok : M.qcM (rd p l.Pc) p.length = true := by
  simp only [M.qat, Bool.and_eq_true, decide_eq_true_eq, List.all_eq_true] at hp
  exact hp.2 _ (qib hI.1 hlt)
 exact ⟨hp, h.2.1, ⟨hI'.1, hI'.2.1⟩, hI'.2.2, qin hok h.2.1 h.2.2.2.1 h.2.2.2.2⟩
end Go.V
namespace Go.V
open IntKind (wrap)
def wp.qaW (b : Int) (Q : Bool → Prop) : Prop :=
 (∀ a, a = M.qah b 1 3 → Q a)
def wp.qbo (a : List Int) (Q : Bool → Prop) : Prop :=
 qa1 ((a.length : Int) == 32) ((M.qe3 a ∧ ∀ b, b = M.qbz a → Q b)) (Q false)
def wp.qbK (a : List Int) (Q : Bool → Prop) : Prop :=
 Q ((a.length : Int) == 32)
def wp.qbD (a : List D.Frame) (c : Int) (Q : Bool → Prop) : Prop :=
 qdd (σ := Int × Unit) (fun (g : Int × Unit) h => match g with | (b, _) => qa1 (decide (b < (a.length : Int))) (((0 ≤ b ∧ b < (a.length : Int)) ∧ (∀ d, d = M.qah ((rd a b).Pc) 0 c → qa1 (!d) (Q false) ((∀ e, e = M.qah ((rd a b).Stop) 0 c → qa1 (!e) (Q false) ((∀ f, f = M.qcv ((rd a b).Mask) → qa1 (!f) (Q false) (qa1 ((rd a b).Mask == 0) (Q false) (h ((wrap .i64 (b + 1)), ())))))))))) (qa1 ((a.length : Int) == 0) (Q true) (((0 ≤ (wrap .i64 ((a.length : Int) - 1)) ∧ (wrap .i64 ((a.length : Int) - 1)) < (a.length : Int)) ∧ qa1 (decide ((a.length : Int) ≤ 24)) (qa1 ((rd a (wrap .i64 ((a.length : Int) - 1))).Pc != (rd a (wrap .i64 ((a.length : Int) - 1))).Stop) (qa1 ((rd a (wrap .i64 ((a.length : Int) - 1))).Pc != c) (((0 ≤ (0 : Int) ∧ (0 : Int) < (a.length : Int)) ∧ qa1 ((rd a 0).Stop == c) (((0 ≤ (0 : Int) ∧ (0 : Int) < (a.length : Int)) ∧ Q ((rd a 0).Mask == 255))) (Q false))) (Q false)) (Q false)) (Q false))))) (0, ())
def wp.qc0 (b : List D.Ins) (a : D.Warp) (Q : Bool → Prop) : Prop :=
 (∀ c, c = M.qbf a.Number → qa1 c ((∀ d, d = M.qbK a.Regs → qa1 d ((M.qe3 a.Regs ∧ ∀ e, e = M.qbz a.Regs → qa1 e ((M.qeH a.Frames (b.length : Int) ∧ ∀ f, f = M.qbD a.Frames (b.length : Int) → Q f)) (Q false))) (Q false))) (Q false))
def wp.qbr (a : D.Block) (Q : Bool → Prop) : Prop :=
 (M.qcB a.Code ∧ ∀ c, c = M.qaD a.Code → qa1 (!c) (Q false) ((∀ d, d = M.qaW (a.Warps.length : Int) → qa1 (!d) (Q false) ((M.qf1 a.Memory ∧ ∀ e, e = M.qbo a.Memory → qa1 (!e) (Q false) (((0 ≤ (a.Warps.length : Int)) ∧ (∀ f, f = M.qah a.Waiting 0 (wrap .i64 ((wrap .i64 (1 * 2 ^ (min ((a.Warps.length : Int).toNat) (IntKind.bits .i64)))) - 2)) → qa1 (!f) (Q false) ((∀ g, g = M.qah a.Phase 0 100000 → qa1 (!g) (Q false) (qdd (σ := Int × Unit) (fun (i : Int × Unit) j => match i with | (b, _) => qa1 (decide (b < (a.Warps.length : Int))) (((0 ≤ b ∧ b < (a.Warps.length : Int)) ∧ qa1 ((rd a.Warps b).Number != b) (Q false) ((M.qeO a.Code (rd a.Warps b) ∧ ∀ h, h = M.qc0 a.Code (rd a.Warps b) → qa1 (!h) (Q false) (j ((wrap .i64 (b + 1)), ())))))) (Q true)) (0, ()))))))))))))
def wp.qcw (a : D.Block) (d : Int) (Q : Bool → Prop) : Prop :=
 (M.qda a ∧ ∀ b, b = M.qbr a → qa1 b ((∀ c, c = M.qah d 0 (wrap .i64 ((a.Warps.length : Int) - 1)) → Q c)) (Q false))
def wp.qbi (b : D.Block) (a : Int) (Q : Bool → Prop) : Prop :=
 ((0 ≤ a) ∧ Q ((qds .i64 (Int.fdiv b.Waiting (2 ^ (min (a.toNat) (IntKind.bits .i64)))) 1) == 1))
end Go.V
namespace Go.V
open IntKind (wrap)
theorem qdH {n : Nat} (h : n ≤ 9223372036854775807) : wrap .i64 ((n : Int) - 1) = (n : Int) - 1 := w64 (by omega) (by omega)
theorem qfC {fs : List D.Frame} {n : Int} {k : Nat} (hk : k < fs.length) (h : M.qd1 n (rd fs (k : Int)) = false) : M.qcW fs n = false := by
 have := all_false (g := M.qd1 n) hk h
 simp [M.qcW, this]
theorem wp.qbD.math (fs : List D.Frame) (n : Int) (h : M.qeH fs n) : wp.qbD fs n (fun r => r = M.qbD fs n) := by
 unfold wp.qbD
 have hl : fs.length ≤ 9223372036854775807 := h
 refine qmy (g := M.qd1 n) (Q := fun r => r = M.qcW fs n) h (fun k next hk h1 h2 => ?_) (fun next ha => ?_) fun ha => by simp [M.qcW, ha]
 ·refine qb1 (by simp; omega) ⟨by omega, fun r hr => qa3 (fun e => ?_) fun e r2 hr2 => qa3 (fun e2 => ?_) fun e2 r3 hr3 => qa3 (fun e3 => ?_) fun e3 => qa3 (fun e4 => ?_) fun e4 => ?_⟩
  all_goals simp only [M.qah, M.qcv] at *
  ·have := nt e hr
   exact (qfC hk (by simp [M.qd1, this])).symm
  ·have := nt e2 hr2
   exact (qfC hk (by simp [M.qd1, this])).symm
  ·have := nt e3 hr3
   exact (qfC hk (by simp [M.qd1, this])).symm
  ·have e4 : (rd fs (k : Int)).Mask = 0 := by simpa using e4
   exact (qfC hk (by simp [M.qd1, e4])).symm
  ·rw [up64 hk h]
   refine h2 ?_
   have e4 : (rd fs (k : Int)).Mask ≠ 0 := by simpa using e4
   simp [M.qd1, nf e hr, nf e2 hr2, nf e3 hr3, e4]
 ·refine qb8 (by simp) (qa3 (fun e => ?_) fun e => ?_)
  ·have : fs = [] := by simpa using e
   subst this; rfl
  have h0 : fs ≠ [] := by rintro rfl; simp at e
  have hpos : 0 < fs.length := List.length_pos_iff.2 h0
  have hA : M.qcW fs n = M.qgE fs n := by
   have : fs.isEmpty = false := by simpa using h0
   simp [M.qcW, ha, this]
  show _
  simp only [M.qbD, hA, qdH hl]
  refine ⟨by omega, qa3 (fun e1 => qa3 (fun e2 => qa3 (fun e3 => ⟨by omega, qa3 (fun e4 => ⟨by omega, ?_⟩) fun e4 => ?_⟩) fun e3 => ?_) fun e2 => ?_) fun e1 => ?_⟩
  all_goals simp only [M.qgE]
  all_goals change _ = (_ && ((rd fs ((fs.length : Int) - 1)).Pc != (rd fs ((fs.length : Int) - 1)).Stop && ((rd fs ((fs.length : Int) - 1)).Pc != n && _)))
  ·have e1 : fs.length ≤ 24 := by simp at e1; omega
   rw [e2, e3, e4]; simp [e1]
  ·rw [e4]; simp
  ·rw [e3]; simp
  ·rw [e2]; simp
  ·have e1 : ¬ fs.length ≤ 24 := by simp at e1; omega
   simp [e1]
theorem lenE {r : List Int} : ((r.length : Int) == 32) = (r.length == 32) := by
 rw [Bool.eq_iff_iff]; simp; omega
theorem wp.qbK.math (r : List Int) : wp.qbK r (fun x => x = M.qbK r) := lenE
theorem wp.qaW.math (n : Int) : wp.qaW n (fun x => x = M.qaW n) := fun r hr => hr
theorem wp.qbo.math (m : List Int) (h : M.qf1 m) : wp.qbo m (fun x => x = M.qbo m) := by
 refine qa3 (fun e => ⟨h, fun r hr => ?_⟩) fun e => ?_
 ·have : m.length = 32 := by simp at e; omega
  rw [hr]; simp [M.qbo, this, M.qbz]
 ·have : ¬ m.length = 32 := by simp at e; omega
  simp [M.qbo, this]
theorem wp.qc0.math (p : List D.Ins) (x : D.Warp) (h : M.qeO p x) : wp.qc0 p x (fun r => r = M.qc0 p x) := by
 obtain ⟨h1, h2⟩ := h
 refine fun r hr => qa3 (fun e r2 hr2 => qa3 (fun e2 => ⟨h2, fun r3 hr3 => qa3 (fun e3 => ⟨h1, fun r4 hr4 => ?_⟩) fun e3 => ?_⟩) fun e2 => ?_) fun e => ?_
 all_goals try simp only [M.qbf, M.qbK, M.qbz, M.qbD, M.qc0, M.qeM] at *
 ·subst hr hr2 hr3 hr4; simp [e, e2, e3]
 ·subst hr hr2 hr3; simp [e, e2, e3]
 ·subst hr hr2; simp [e, e2]
 ·subst hr; simp [e]
theorem qlw (p : List D.Ins) (l : List D.Warp) (k : Nat) (hk : k < l.length) : M.qcA p k (l.drop k) = (M.qfD p k (rd l (k : Int)) && M.qcA p (k + 1) (l.drop (k + 1))) := by
 rw [List.drop_eq_getElem_cons hk, qcJ hk]; rfl
theorem qly {p : List D.Ins} {l : List D.Warp} (hl : M.Long l) {B : (Int × Unit) → ((Int × Unit) → Prop) → Prop}
    (hb : ∀ (k : Nat) (next : (Int × Unit) → Prop), k < l.length → (M.qfD p k (rd l (k : Int)) = false → false = M.qcA p 0 l) → (M.qfD p k (rd l (k : Int)) = true → next (((k + 1 : Nat) : Int), ())) → B ((k : Int), ()) next)
    (he : ∀ (next : (Int × Unit) → Prop), true = M.qcA p 0 l → B ((l.length : Int), ()) next) : qdd B (0, ()) := by
 refine qdl l.length (fun k => ((k : Int), ())) (fun k => M.qcA p 0 l = M.qcA p k (l.drop k)) rfl rfl (fun k hk hF next hn => ?_) fun hF next => ?_
 ·rw [qlw p l k hk] at hF
  refine hb k next hk (fun e => by rw [hF, e]; rfl) fun e => hn (by rw [hF, e]; rfl)
 ·refine he next ?_
  rw [hF, List.drop_length]; rfl
theorem wp.qbr.math (b : D.Block) (h : M.qda b) : wp.qbr b (fun r => r = M.qbr b) := by
 obtain ⟨h1, ⟨h2, hW⟩, h3⟩ := h
 refine ⟨h1, fun r hr => qa3 (fun e => ?_) fun e r2 hr2 => qa3 (fun e2 => ?_) fun e2 => ⟨h3, fun r4 hr4 => qa3 (fun e4 => ?_) fun e4 => ⟨by omega, fun r5 hr5 => qa3 (fun e5 => ?_) fun e5 r6 hr6 => qa3 (fun e6 => ?_) fun e6 => ?_⟩⟩⟩
 all_goals simp only [M.qaD, M.qaW, M.qah] at *
 all_goals simp only [M.qbr, M.qcH]
 ·rw [nt e hr]; rfl
 ·rw [nt e2 hr2]; simp
 ·rw [nt e4 hr4]; simp
 ·have := nt e5 hr5
  unfold M.qgd; rw [this]; simp
 ·rw [nt e6 hr6]; simp
 have h5 := nf e5 hr5
 unfold M.qgd
 rw [nf e hr, nf e2 hr2, nf e4 hr4, h5, nf e6 hr6]
 simp only [Bool.true_and]
 refine qly h2 (fun k next hk g1 g2 => ?_) fun next hh => qb8 (by simp) hh
 refine qb1 (by simp; omega) ⟨by omega, qa3 (fun e2 => ?_) fun e2 => ⟨hW _ (qg7 hk), fun r hr => qa3 (fun e => ?_) fun e => ?_⟩⟩
 all_goals simp only [M.qc0] at *
 ·have e2 : (rd b.Warps (k : Int)).Number ≠ (k : Int) := by simpa using e2
  exact g1 (by simp [M.qfD, e2])
 ·exact g1 (by simp [M.qfD, nt e hr])
 ·have e2 : (rd b.Warps (k : Int)).Number = (k : Int) := by simpa using e2
  rw [up64 hk h2]; exact g2 (by simp [M.qfD, e2, nf e hr])
theorem wp.qcw.math (b : D.Block) (w : Int) (h : M.qfh b w) : wp.qcw b w (fun r => r = M.qcw b w) := by
 refine ⟨h, fun r hr => qa3 (fun e r2 hr2 => ?_) fun e => ?_⟩
 all_goals simp only [M.qbr, M.qah, M.qcw, M.qfy] at *
 ·rw [hr2, ← hr, e]; rfl
 ·rw [← hr, e]; rfl
theorem wp.qbi.math (b : D.Block) (w : Int) (h : M.qdo b w) : wp.qbi b w (fun r => r = M.qbi b w) := ⟨h, rfl⟩
theorem qnX {b : D.Block} {w : Int} (hb : M.Long b.Warps) (h : M.qfy b w = true) : 0 ≤ w ∧ w < (b.Warps.length : Int) ∧ M.qcH b = true := by
 have hl : b.Warps.length ≤ 9223372036854775807 := hb
 simp only [M.qfy, Bool.and_eq_true, M.isIn, decide_eq_true_eq, qdH hl] at h
 exact ⟨h.2.1, by omega, h.1⟩
theorem qj8 {b : D.Block} (h : M.qlE b) : M.qgV b := by
 obtain ⟨h1, ⟨h2, h3⟩, h4⟩ := h
 unfold M.qgV M.qlY M.qmB M.Long
 exact ⟨by omega, ⟨by omega, fun x hx => by have := h3 x hx; unfold M.qlb at this; omega⟩, by omega⟩
end Go.V
namespace Go.V
open IntKind (wrap)
def wp.qa4 (b : List D.Warp) (d : D.Warp → Bool) (e : D.Warp → Prop) (Q : Int → Prop) : Prop :=
 qdd (σ := Int × Unit) (fun (f : Int × Unit) g => match f with | (a, _) => qa1 (decide (a < (b.length : Int))) (((0 ≤ a ∧ a < (b.length : Int)) ∧ (e (rd b a) ∧ ∀ c, c = d (rd b a) → qa1 c (Q a) (g ((wrap .i64 (a + 1)), ()))))) (Q (-1))) (0, ())
def wp.qa5 (a : List D.Warp) (b : D.Warp → Bool) (d : D.Warp → Prop) (Q : Bool → Prop) : Prop :=
 (M.qcd a b d ∧ ∀ c, c = M.qa4 a b → Q (decide (c ≥ 0)))
def wp.qaT (a : D.Warp) (Q : Bool → Prop) : Prop :=
 Q (decide ((a.Frames.length : Int) > 0))
def wp.qaX (b : D.Block) (Q : Bool → Prop) : Prop :=
 (M.qbQ b.Warps (fun a => M.qaT a) (fun a => M.qdM a) ∧ ∀ c, c = M.qa5 b.Warps (fun a => M.qaT a) → Q (!c))
def wp.qbC (a : D.Block) (Q : Bool → Prop) : Prop :=
 (M.qda a ∧ ∀ b, b = M.qbr a → qa1 b ((M.qdm a ∧ ∀ c, c = M.qaX a → Q c)) (Q false))
def wp.qan (a : D.Block) (b : Int) (Q : (D.Ins × Bool) → Prop) : Prop :=
 ((0 ≤ b ∧ b < (a.Warps.length : Int)) ∧ qa1 (((rd a.Warps b).Frames.length : Int) == 0) (Q ((⟨0, 0, 0, 0⟩ : D.Ins), false)) (((0 ≤ (wrap .i64 (((rd a.Warps b).Frames.length : Int) - 1)) ∧ (wrap .i64 (((rd a.Warps b).Frames.length : Int) - 1)) < (((rd a.Warps b).Frames).length : Int)) ∧ ((0 ≤ (rd ((rd a.Warps b).Frames) (wrap .i64 (((rd a.Warps b).Frames.length : Int) - 1))).Pc ∧ (rd ((rd a.Warps b).Frames) (wrap .i64 (((rd a.Warps b).Frames.length : Int) - 1))).Pc < (a.Code.length : Int)) ∧ Q ((⟨(rd a.Code ((rd ((rd a.Warps b).Frames) (wrap .i64 (((rd a.Warps b).Frames.length : Int) - 1))).Pc)).Op, (rd a.Code ((rd ((rd a.Warps b).Frames) (wrap .i64 (((rd a.Warps b).Frames.length : Int) - 1))).Pc)).A, (rd a.Code ((rd ((rd a.Warps b).Frames) (wrap .i64 (((rd a.Warps b).Frames.length : Int) - 1))).Pc)).B, (rd a.Code ((rd ((rd a.Warps b).Frames) (wrap .i64 (((rd a.Warps b).Frames.length : Int) - 1))).Pc)).C⟩ : D.Ins), true)))))
def wp.qcu (a : D.Block) (b : Int) (Q : Int → Prop) : Prop :=
 (M.qfh a b ∧ ∀ d, d = M.qcw a b → qa1 (!d) (Q (-1)) ((M.qcI a b ∧ ∀ c, c = M.qan a b → qa1 (!c.2) (Q (-1)) (Q c.1.Op))))
def wp.qcg (a : D.Block) (b : Int) (Q : Bool → Prop) : Prop :=
 (M.qfw a b ∧ ∀ c, c = M.qcu a b → Q (c == 16))
def wp.qaQ (b : D.Block) (a : Int) (Q : Bool → Prop) : Prop :=
 (M.qeJ b a ∧ ∀ c, c = M.qcg b a → qa1 c (((0 ≤ a ∧ a < (b.Warps.length : Int)) ∧ Q (decide (((rd b.Warps a).Frames.length : Int) > 1)))) (Q false))
end Go.V
namespace Go.V
open IntKind (wrap)
theorem qme {α : Type} {l : List α} : decide ((l.length : Int) > 0) = !l.isEmpty := by
 cases l with
 | nil => rfl
 | cons x l =>
  have : ((x :: l).length : Int) > 0 := by simp only [List.length_cons]; omega
  rw [decide_eq_true this]; rfl
theorem qhy {α : Type} {l : List α} : ((l.length : Int) == 0) = l.isEmpty := by
 cases l with
 | nil => rfl
 | cons x l =>
  have : ¬ ((x :: l).length : Int) = 0 := by simp only [List.length_cons]; omega
  rw [beq_eq_false_iff_ne.2 this]; rfl
theorem wp.qa4.math (l : List D.Warp) (g : D.Warp → Bool) (D : D.Warp → Prop) (h : M.qcd l g D) : wp.qa4 l g D (fun r => r = M.qa4 l g) := by
 unfold wp.qa4
 obtain ⟨h1, h2⟩ := h
 refine qdl l.length (fun k => ((k : Int), ())) (fun k => M.qa4 l g = M.qd7 g (l.drop k) k) rfl (by simp [M.qa4]) (fun k hk hF next hn => ?_) fun hF next => ?_
 ·rw [qfA g l k hk] at hF
  refine qb1 (by simp; omega) ⟨by omega, h2 _ (qg7 hk), fun r hr => qa3 (fun e => ?_) fun e => ?_⟩
  ·rw [hF, if_pos (by rw [← hr]; exact e)]
  ·rw [up64 hk h1]
   exact hn (by rw [hF, if_neg (by rw [← hr, e]; simp)])
 ·refine qb8 (by simp) ?_
  rw [hF]; simp [M.qd7]
theorem wp.qa5.math (l : List D.Warp) (g : D.Warp → Bool) (D : D.Warp → Prop) (h : M.qbQ l g D) : wp.qa5 l g D (fun r => r = M.qa5 l g) :=
 ⟨h, fun r hr => by rw [hr]; exact qe9 g l 0⟩
theorem wp.qaT.math (x : D.Warp) (h : M.qdM x) : wp.qaT x (fun r => r = M.qaT x) := qme
theorem wp.qaX.math (b : D.Block) (h : M.qdm b) : wp.qaX b (fun r => r = M.qaX b) := by
 refine ⟨⟨h, fun _ _ => trivial⟩, fun r hr => ?_⟩
 rw [hr]
 simp only [M.qa5, M.qaX, M.ended, M.qaT, ← List.all_eq_not_any_not]
theorem wp.qbC.math (b : D.Block) (h : M.qem b) : wp.qbC b (fun r => r = M.qbC b) := by
 refine ⟨h, fun r hr => qa3 (fun e => ⟨h.2.1.1, fun r2 hr2 => ?_⟩) fun e => ?_⟩
 ·have : M.qcH b = true := hr.symm.trans e
  rw [hr2]; simp [M.qbC, M.qfL, this, M.qaX]
 ·have : M.qcH b = false := hr.symm.trans e
  simp [M.qbC, M.qfL, this]
theorem qm9 {p : List D.Ins} : ∀ {l : List D.Warp} {k n : Nat}, M.qcA p k l = true → n < l.length → M.qfD p (k + n) (rd l (n : Int)) = true
 | [], k, n, h, hn => absurd hn (by simp)
 | x :: l, k, 0, h, hn => by
  simp only [M.qcA, Bool.and_eq_true] at h
  exact h.1
 | x :: l, k, n + 1, h, hn => by
  simp only [M.qcA, Bool.and_eq_true] at h
  have := qm9 (n := n) h.2 (by simpa using hn)
  rw [show k + (n + 1) = k + 1 + n by omega]
  have e : rd (x :: l) ((n + 1 : Nat) : Int) = rd l (n : Int) := by
   have hn' : n < l.length := by simpa using hn
   rw [qcJ hn, qcJ hn']; rfl
  rw [e]; exact this
theorem qdq {b : D.Block} {w : Int} (h : M.Has b w) : 0 ≤ w ∧ w < (b.Warps.length : Int) ∧ M.qat b.Code = true ∧ M.qeM b.Code (rd b.Warps w) = true ∧ (rd b.Warps w).Number = w ∧ M.qcH b = true := by
 obtain ⟨hb, hh⟩ := h
 obtain ⟨h0, h1, hok⟩ := qnX hb.2.1.1 hh
 have hok' := hok
 simp only [M.qcH, Bool.and_eq_true] at hok
 obtain ⟨k, rfl⟩ := Int.eq_ofNat_of_zero_le h0
 have := qm9 (n := k) hok.2.2.2.2.2 (by omega)
 rw [Nat.zero_add] at this
 simp only [M.qfD, Bool.and_eq_true, beq_iff_eq] at this
 exact ⟨h0, h1, hok.1, this.2, this.1, hok'⟩
theorem qif {p : List D.Ins} {x : D.Warp} (h : M.qeM p x = true) (hx : x.Frames ≠ []) : x.Frames.length ≤ 24 ∧ 0 ≤ (M.qb3 x.Frames).Pc ∧ (M.qb3 x.Frames).Pc < (p.length : Int) := by
 simp only [M.qeM, M.qcW, Bool.and_eq_true, Bool.or_eq_true] at h
 obtain ⟨h1, h2, h3, h4, h5⟩ := h
 have h5 := h5.resolve_left (by simpa using hx)
 have hpos : 0 < x.Frames.length := List.length_pos_iff.2 hx
 have hm : M.qb3 x.Frames ∈ x.Frames := qib (by omega) (by omega)
 have hf := List.all_eq_true.1 h4 _ hm
 simp only [M.qgE, M.qd1, M.isIn, Bool.and_eq_true, decide_eq_true_eq, bne_iff_ne] at h5 hf
 exact ⟨h5.1, hf.1.1, by omega⟩
theorem wp.qan.math (b : D.Block) (w : Int) (h : M.qcI b w) : wp.qan b w (fun r => r = M.qan b w) := by
 obtain ⟨h0, h1, hp, hw, hn, hok⟩ := qdq h
 unfold wp.qan
 rw [qhy]
 refine ⟨⟨h0, h1⟩, qa3 (fun e => ?_) fun e => ?_⟩
 ·simp [M.qan, e]
 ·have hx : (rd b.Warps w).Frames ≠ [] := by simpa using e
  obtain ⟨k1, k2, k3⟩ := qif hw hx
  have hpos : 0 < (rd b.Warps w).Frames.length := List.length_pos_iff.2 hx
  rw [qdH (by omega)]
  refine ⟨⟨by omega, by omega⟩, ⟨k2, k3⟩, ?_⟩
  simp only [M.qan, e]; rfl
theorem wp.qcu.math (b : D.Block) (w : Int) (h : M.qfw b w) : wp.qcu b w (fun r => r = M.qcu b w) := by
 refine ⟨h, fun r hr => qa3 (fun e => ?_) fun e => ?_⟩
 ·have : M.qfy b w = false := nt e hr
  simp [M.qcu, M.qiT, this]
 have hw : M.qfy b w = true := nf e hr
 refine ⟨⟨h, hw⟩, fun r2 hr2 => ?_⟩
 subst hr2
 unfold M.qan
 by_cases e2 : (rd b.Warps w).Frames.isEmpty = true
 ·rw [if_pos e2]
  exact qb1 rfl (by simp [M.qcu, M.qiT, e2])
 ·rw [if_neg e2]
  have e2 : (rd b.Warps w).Frames.isEmpty = false := by simpa using e2
  exact qb8 rfl (by simp [M.qcu, M.qiT, e2, hw])
theorem wp.qcg.math (b : D.Block) (w : Int) (h : M.qeJ b w) : wp.qcg b w (fun r => r = M.qcg b w) := ⟨h, fun r hr => by rw [hr]; rfl⟩
theorem qjG {b : D.Block} {w : Int} (h : M.qfN b w = true) : M.qfy b w = true := by
 unfold M.qfN M.qiT at h
 by_cases e : M.qfy b w = true
 ·exact e
 ·simp [e] at h
theorem wp.qaQ.math (b : D.Block) (w : Int) (h : M.qdB b w) : wp.qaQ b w (fun r => r = M.qaQ b w) := by
 refine ⟨h, fun r hr => qa3 (fun e => ?_) fun e => ?_⟩
 ·have e : M.qfN b w = true := hr.symm.trans e
  obtain ⟨h0, h1, _⟩ := qdq ⟨h, qjG e⟩
  refine ⟨⟨h0, h1⟩, ?_⟩
  simp only [M.qaQ, M.qdj, e, Bool.true_and]
 ·have e : M.qfN b w = false := hr.symm.trans e
  simp only [M.qaQ, M.qdj, e, Bool.false_and]
end Go.V
namespace Go.V
open IntKind (wrap)
def wp.qa2 (a : List D.Ins) (Q : (List D.Ins) → Prop) : Prop :=
 (∀ b : Bool, (b = true → a = []) → qa1 b (Q ([] : List D.Ins)) (((([] : List D.Ins).length + a.length ≤ 17179869184) ∧ Q (([] : List D.Ins) ++ a))))
def wp.qcC (a : List D.Ins) (b : Int) (Q : D.Warp → Prop) : Prop :=
 ((0 ≤ (32 : Int) ∧ (32 : Int) ≤ 17179869184) ∧ qa1 (decide ((a.length : Int) > 0)) (Q (⟨b, ([(⟨0, (a.length : Int), 255⟩ : D.Frame)] : List D.Frame), (List.replicate ((32 : Int).toNat) (default : Int))⟩ : D.Warp)) (Q (⟨b, ([] : List D.Frame), (List.replicate ((32 : Int).toNat) (default : Int))⟩ : D.Warp)))
def wp.qcb (a : List D.Ins) (m : Int) (Q : D.Block → Prop) : Prop :=
 qfQ (σ := (List D.Ins) × (List D.Warp) × (List Int) × Int × Int × Unit) (fun b => (((M.qal a ∧ ∀ d, d = M.qa2 a → ((((0 ≤ (32 : Int) ∧ (32 : Int) ≤ 17179869184) ∧ b (d, [], (List.replicate ((32 : Int).toNat) (default : Int)), 0, 0, ()))) ∧ (((0 ≤ (32 : Int) ∧ (32 : Int) ≤ 17179869184) ∧ b (d, [], (List.replicate ((32 : Int).toNat) (default : Int)), 0, 0, ()))) ∧ True))) ∧ (((0 ≤ (32 : Int) ∧ (32 : Int) ≤ 17179869184) ∧ (((M.qal a ∧ ∀ g, g = M.qa2 a → b (g, [], (List.replicate ((32 : Int).toNat) (default : Int)), 0, 0, ()))) ∧ ((M.qal a ∧ ∀ h, h = M.qa2 a → b (h, [], (List.replicate ((32 : Int).toNat) (default : Int)), 0, 0, ()))) ∧ True))) ∧ ((((M.qal a ∧ ∀ i, i = M.qa2 a → ((0 ≤ (32 : Int) ∧ (32 : Int) ≤ 17179869184) ∧ b (i, [], (List.replicate ((32 : Int).toNat) (default : Int)), 0, 0, ())))) ∧ (((0 ≤ (32 : Int) ∧ (32 : Int) ≤ 17179869184) ∧ (M.qal a ∧ ∀ j, j = M.qa2 a → b (j, [], (List.replicate ((32 : Int).toNat) (default : Int)), 0, 0, ())))) ∧ True)) ∧ True)) (fun (n : (List D.Ins) × (List D.Warp) × (List Int) × Int × Int × Unit) => match n with | (o, p, q, r, s, _) => qdd (σ := Int × (List D.Warp) × Int × Int × Unit) (fun (t : Int × (List D.Warp) × Int × Int × Unit) u => match t with | (c, e, k, l, _) => qa1 (decide (c < m)) ((M.qfa a c ∧ ∀ f, f = M.qcC a c → ((e.length + ([f] : List D.Warp).length ≤ 17179869184) ∧ u ((wrap .i64 (c + 1)), (e ++ ([f] : List D.Warp)), k, l, ())))) (Q (⟨o, e, q, k, l⟩ : D.Block))) (0, p, r, s, ()))
def wp.qbR (b : List D.Ins) (c : Int) (Q : (D.Block × Bool) → Prop) : Prop :=
 (M.qcB b ∧ ∀ d, d = M.qaD b → qa1 (!d) (Q ((⟨([] : List D.Ins), ([] : List D.Warp), ([] : List Int), 0, 0⟩ : D.Block), false)) ((∀ e, e = M.qaW c → qa1 (!e) (Q ((⟨([] : List D.Ins), ([] : List D.Warp), ([] : List Int), 0, 0⟩ : D.Block), false)) ((M.qeQ b c ∧ ∀ a, a = M.qcb b c → Q ((⟨a.Code, a.Warps, a.Memory, a.Waiting, a.Phase⟩ : D.Block), true))))))
def wp.qaa (a : List D.Frame) (Q : (List D.Frame) → Prop) : Prop :=
 (∀ b : Bool, (b = true → a = []) → qa1 b (Q ([] : List D.Frame)) (((([] : List D.Frame).length + a.length ≤ 17179869184) ∧ Q (([] : List D.Frame) ++ a))))
def wp.qc9 (a : D.Warp) (Q : D.Warp → Prop) : Prop :=
 (((((M.qaO a.Frames ∧ ∀ b, b = M.qaa a.Frames → (M.qaE a.Regs ∧ ∀ c, c = M.qag a.Regs → Q (⟨a.Number, b, c⟩ : D.Warp)))) ∧ ((M.qaO a.Frames ∧ ∀ d, d = M.qaa a.Frames → (M.qaE a.Regs ∧ ∀ e, e = M.qag a.Regs → Q (⟨a.Number, d, e⟩ : D.Warp)))) ∧ True)) ∧ ((M.qaO a.Frames ∧ ∀ f, f = M.qaa a.Frames → (M.qaE a.Regs ∧ ∀ g, g = M.qag a.Regs → Q (⟨a.Number, f, g⟩ : D.Warp)))) ∧ True)
def wp.qbS (a : D.Block) (Q : D.Block → Prop) : Prop :=
 qfQ (σ := (List D.Ins) × (List D.Warp) × (List Int) × Int × Int × Unit) (fun c => (((M.qal a.Code ∧ ∀ d, d = M.qa2 a.Code → (((M.qaE a.Memory ∧ ∀ g, g = M.qag a.Memory → c (d, [], g, a.Waiting, a.Phase, ()))) ∧ ((M.qaE a.Memory ∧ ∀ h, h = M.qag a.Memory → c (d, [], h, a.Waiting, a.Phase, ()))) ∧ True))) ∧ ((M.qal a.Code ∧ ∀ i, i = M.qa2 a.Code → (M.qaE a.Memory ∧ ∀ j, j = M.qag a.Memory → c (i, [], j, a.Waiting, a.Phase, ())))) ∧ True)) (fun (m : (List D.Ins) × (List D.Warp) × (List Int) × Int × Int × Unit) => match m with | (n, o, p, q, r, _) => qdd (σ := Int × (List D.Warp) × Int × Int × Unit) (fun (s : Int × (List D.Warp) × Int × Int × Unit) t => match s with | (b, e, k, l, _) => qa1 (decide (b < (a.Warps.length : Int))) (((0 ≤ b ∧ b < (a.Warps.length : Int)) ∧ (M.qeZ (rd a.Warps b) ∧ ∀ f, f = M.qc9 (rd a.Warps b) → ((e.length + ([f] : List D.Warp).length ≤ 17179869184) ∧ t ((wrap .i64 (b + 1)), (e ++ ([f] : List D.Warp)), k, l, ()))))) (Q (⟨n, e, p, k, l⟩ : D.Block))) (0, o, q, r, ()))
end Go.V
namespace Go.V
open IntKind (wrap)
theorem wp.qa2.math (l : List D.Ins) (h : M.qal l) : wp.qa2 l (fun r => r = M.qa2 l) := by
 intro b hb
 refine qa3 (fun e => ?_) fun e => ⟨by simp only [List.length_nil, Nat.zero_add]; exact h, ?_⟩
 ·rw [hb e]; rfl
 ·simp [M.qa2]
theorem wp.qaa.math (l : List D.Frame) (h : M.qaO l) : wp.qaa l (fun r => r = M.qaa l) := by
 intro b hb
 refine qa3 (fun e => ?_) fun e => ⟨by simp only [List.length_nil, Nat.zero_add]; exact h, ?_⟩
 ·rw [hb e]; rfl
 ·simp [M.qaa]
theorem qlo (p : List D.Ins) (n : Int) : qa1 (decide ((p.length : Int) > 0)) ((⟨n, [⟨0, (p.length : Int), 255⟩], List.replicate ((32 : Int).toNat) (default : Int)⟩ : D.Warp) = M.qct p n) ((⟨n, [], List.replicate ((32 : Int).toNat) (default : Int)⟩ : D.Warp) = M.qct p n) := by
 refine qa3 (fun e => ?_) fun e => ?_
 ·have e3 : p.length > 0 := by simp only [decide_eq_true_eq] at e; omega
  unfold M.qct; rw [if_pos e3]; rfl
 ·have e3 : ¬ p.length > 0 := by simp only [decide_eq_false_iff_not] at e; omega
  unfold M.qct; rw [if_neg e3]; rfl
theorem wp.qcC.math (p : List D.Ins) (n : Int) (h : M.qfa p n) : wp.qcC p n (fun r => r = M.qcC p n) := ⟨by omega, qlo p n⟩
theorem qhd {σ : Type} {A : (σ → Prop) → Prop} {B : σ → Prop} (v : σ) (h : B v) (hA : ∀ J : σ → Prop, J v → A J) : qfQ A B := hA B h
theorem qiN {α : Type} (g : Nat → α) (k : Nat) : (List.range (k + 1)).map g = (List.range k).map g ++ [g k] := by simp [List.range_succ]
theorem wp.qcb.math (p : List D.Ins) (c : Int) (h : M.qeQ p c) : wp.qcb p c (fun r => r = M.qcb p c) := by
 obtain ⟨hp, h0, h1⟩ := h
 unfold wp.qcb
 simp only [M.qa2, forall_eq]
 have q1 : M.qal p := hp
 refine qhd (p, [], List.replicate 32 0, 0, 0, ()) ?_ fun J hJ => ?_
 ·refine qdl c.toNat (fun k => ((k : Int), (List.range k).map (fun j : Nat => M.qct p (j : Int)), 0, 0, ())) (fun _ => True) rfl trivial (fun k hk _ next hn => ?_) fun _ next => ?_
  ·refine qb1 (by simp; omega) ⟨trivial, by simp; omega, ?_⟩
   have := hn trivial
   rw [qiN] at this
   rw [up64 hk (by omega)]
   exact this
  ·exact qb8 (by simp; omega) rfl
 ·have hm : (0 ≤ (32 : Int) ∧ (32 : Int) ≤ 17179869184) := by omega
  exact ⟨⟨q1, ⟨hm, hJ⟩, ⟨hm, hJ⟩, trivial⟩, ⟨hm, ⟨q1, hJ⟩, ⟨q1, hJ⟩, trivial⟩, ⟨⟨q1, hm, hJ⟩, ⟨hm, q1, hJ⟩, trivial⟩, trivial⟩
theorem qj2 {p : List D.Ins} (h : M.qat p = true) : p.length ≤ 32 := by
 simp only [M.qat, Bool.and_eq_true, decide_eq_true_eq] at h
 exact h.1
theorem wp.qbR.math (p : List D.Ins) (c : Int) (h : M.qe0 p c) : wp.qbR p c (fun r => r = M.qbR p c) := by
 refine ⟨h, fun r hr => qa3 (fun e => ?_) fun e r2 hr2 => qa3 (fun e2 => ?_) fun e2 => ?_⟩
 all_goals simp only [M.qaD, M.qaW] at *
 ·simp [M.qbR, M.qgA, nt e hr, M.qks]
 ·simp [M.qbR, M.qgA, nt e2 hr2, M.qks]
 ·have h1 := nf e hr
  have h2 := nf e2 hr2
  have h3 := qj2 h1
  have h4 : 1 ≤ c ∧ c ≤ 3 := by simpa [M.isIn] using h2
  refine ⟨⟨by omega, by omega, by omega⟩, fun r3 hr3 => ?_⟩
  rw [hr3]; simp [M.qbR, M.qgA, h1, h2, M.qcb]
theorem wp.qc9.math (x : D.Warp) (h : M.qeZ x) : wp.qc9 x (fun r => r = M.qc9 x) := by
 obtain ⟨h1, h2⟩ := h
 have q1 : M.qaO x.Frames := h1
 have q2 : M.qaE x.Regs := h2
 unfold wp.qc9
 simp only [M.qaa, M.qag, forall_eq, q1, q2, true_and, and_true, M.qc9, and_self]
theorem wp.qbS.math (b : D.Block) (h : M.qeB b) : wp.qbS b (fun r => r = M.qbS b) := by
 obtain ⟨h1, ⟨h2, hW⟩, h3⟩ := h
 have q1 : M.qal b.Code := h1
 have q2 : M.qaE b.Memory := h3
 unfold wp.qbS
 simp only [M.qa2, M.qag, forall_eq]
 refine qhd (b.Code, [], b.Memory, b.Waiting, b.Phase, ()) ?_ fun J hJ => ⟨⟨q1, ⟨q2, hJ⟩, ⟨q2, hJ⟩, trivial⟩, ⟨q1, q2, hJ⟩, trivial⟩
 refine qdl b.Warps.length (fun k => ((k : Int), b.Warps.take k, b.Waiting, b.Phase, ())) (fun _ => True) rfl trivial (fun k hk _ next hn => ?_) fun _ next => ?_
 ·refine qb1 (by simp; omega) ⟨by omega, hW _ (qg7 hk), by simp; omega, ?_⟩
  rw [up64 hk (by omega)]
  have := hn trivial
  rw [List.take_add_one, List.getElem?_eq_getElem hk, Option.toList_some] at this
  rw [qcJ hk]; exact this
 ·refine qb8 (by simp) ?_
  rw [List.take_length]; rfl
theorem qnL {α : Type} [Inhabited α] {l m : List α} {y : α} {k : Nat} (h : l.length = k) : rd (l ++ y :: m) (k : Int) = y := by
 subst h
 rw [qcJ (by simp)]; simp
theorem qms {b : D.Block} (h : M.BFit b) : M.qgV b := by
 obtain ⟨h1, ⟨h2, hW⟩, h3⟩ := h
 unfold M.qgV M.qlY M.qmB M.Long
 exact ⟨by omega, ⟨by omega, fun x hx => by have := hW x hx; unfold M.WFit at this; omega⟩, by omega⟩
theorem qmj {b : D.Block} (h : M.qlE b) : M.BFit b := by
 obtain ⟨h1, ⟨h2, hW⟩, h3⟩ := h
 exact ⟨by omega, ⟨by omega, fun x hx => by have := hW x hx; unfold M.qlb at this; unfold M.WFit; omega⟩, by omega⟩
end Go.V
namespace Go.V
open IntKind (wrap)
def wp.qb0 (a : D.Warp) (Q : Int → Prop) : Prop :=
 qa1 ((a.Frames.length : Int) == 0) (Q 0) (((0 ≤ (wrap .i64 ((a.Frames.length : Int) - 1)) ∧ (wrap .i64 ((a.Frames.length : Int) - 1)) < (a.Frames.length : Int)) ∧ Q ((rd a.Frames (wrap .i64 ((a.Frames.length : Int) - 1))).Mask)))
def wp.qaz (c : D.Warp) (d : Int) (Q : Int → Prop) : Prop :=
 (M.qcs c ∧ ∀ f, f = M.qb0 c → (∀ b, b = M.qbM f → qdd (σ := Int × Int × Unit) (fun (h : Int × Int × Unit) g => match h with | (e, a, _) => qa1 (decide (a < (b.length : Int))) (((0 ≤ a ∧ a < (b.length : Int)) ∧ (M.qdc c (rd b a) ∧ ((0 ≤ d ∧ d < ((List.drop ((wrap .i64 ((rd b a) * 4)).toNat) (List.take ((wrap .i64 ((wrap .i64 ((rd b a) + 1)) * 4)).toNat) c.Regs)).length : Int)) ∧ qa1 ((rd (List.drop ((wrap .i64 ((rd b a) * 4)).toNat) (List.take ((wrap .i64 ((wrap .i64 ((rd b a) + 1)) * 4)).toNat) c.Regs)) d) == 0) (((0 ≤ (rd b a)) ∧ g ((qgD .i64 e (wrap .i64 (1 * 2 ^ (min ((rd b a).toNat) (IntKind.bits .i64))))), (wrap .i64 (a + 1)), ()))) (g (e, (wrap .i64 (a + 1)), ())))))) (Q e)) (0, 0, ())))
def wp.qaK (a : D.Warp) (b : List D.Ins) (Q : Bool → Prop) : Prop :=
 ((0 ≤ (wrap .i64 ((a.Frames.length : Int) - 1)) ∧ (wrap .i64 ((a.Frames.length : Int) - 1)) < (a.Frames.length : Int)) ∧ ((0 ≤ (rd a.Frames (wrap .i64 ((a.Frames.length : Int) - 1))).Pc ∧ (rd a.Frames (wrap .i64 ((a.Frames.length : Int) - 1))).Pc < (b.length : Int)) ∧ qa1 ((rd b ((rd a.Frames (wrap .i64 ((a.Frames.length : Int) - 1))).Pc)).Op != 10) (Q false) (((0 ≤ (rd a.Frames (wrap .i64 ((a.Frames.length : Int) - 1))).Pc ∧ (rd a.Frames (wrap .i64 ((a.Frames.length : Int) - 1))).Pc < (b.length : Int)) ∧ qa1 ((rd b ((rd a.Frames (wrap .i64 ((a.Frames.length : Int) - 1))).Pc)).B == (wrap .i64 ((rd a.Frames (wrap .i64 ((a.Frames.length : Int) - 1))).Pc + 1))) (Q false) (((0 ≤ (rd a.Frames (wrap .i64 ((a.Frames.length : Int) - 1))).Pc ∧ (rd a.Frames (wrap .i64 ((a.Frames.length : Int) - 1))).Pc < (b.length : Int)) ∧ (M.qcl a ((rd b ((rd a.Frames (wrap .i64 ((a.Frames.length : Int) - 1))).Pc)).A) ∧ ∀ c, c = M.qaz a ((rd b ((rd a.Frames (wrap .i64 ((a.Frames.length : Int) - 1))).Pc)).A) → qa1 (c != 0) ((M.qcs a ∧ ∀ d, d = M.qb0 a → Q (c != d))) (Q false))))))))
def wp.qas (b : D.Block) (a : Int) (Q : Bool → Prop) : Prop :=
 (M.qcI b a ∧ ∀ c, c = M.qan b a → qfQ (σ := Bool × Unit) (fun d => qa1 (!c.2) (d (true, ())) ((M.qdo b a ∧ ∀ e, e = M.qbi b a → d (e, ())))) (fun (h : Bool × Unit) => match h with | (i, _) => qa1 i (Q false) (qa1 (c.1.Op == 16) (((0 ≤ a ∧ a < (b.Warps.length : Int)) ∧ Q (((rd b.Warps a).Frames.length : Int) == 1))) ((∀ f, f = M.qbU c.1 → qa1 f (((0 ≤ a ∧ a < (b.Warps.length : Int)) ∧ (M.qdn (rd b.Warps a) b.Code ∧ ∀ g, g = M.qaK (rd b.Warps a) b.Code → qa1 (!g) (Q true) (((0 ≤ a ∧ a < (b.Warps.length : Int)) ∧ Q (decide ((wrap .i64 (((rd b.Warps a).Frames.length : Int) + 2)) ≤ 24))))))) (Q true))))))
def wp.qb7 (a : D.Block) (c : Int) (Q : Int → Prop) : Prop :=
 qdd (σ := Int × Unit) (fun (e : Int × Unit) f => match e with | (b, _) => qa1 (decide (b < (a.Warps.length : Int))) (((((a.Warps.length : Int) : Int) ≠ 0) ∧ ((((a.Warps.length : Int) : Int) ≠ 0) ∧ (M.qd6 a (Int.tmod (wrap .i64 ((Int.tmod c (a.Warps.length : Int)) + b)) (a.Warps.length : Int)) ∧ ∀ d, d = M.qas a (Int.tmod (wrap .i64 ((Int.tmod c (a.Warps.length : Int)) + b)) (a.Warps.length : Int)) → qa1 d (Q (Int.tmod (wrap .i64 ((Int.tmod c (a.Warps.length : Int)) + b)) (a.Warps.length : Int))) (f ((wrap .i64 (b + 1)), ())))))) (Q (-1))) (0, ())
def wp.qbV (a : D.Block) (Q : Bool → Prop) : Prop :=
 (M.qda a ∧ ∀ c, c = M.qbr a → qa1 (!c) (Q false) ((M.qdm a ∧ ∀ d, d = M.qaX a → qa1 d (Q false) (qdd (σ := Int × Unit) (fun (f : Int × Unit) g => match f with | (b, _) => qa1 (decide (b < (a.Warps.length : Int))) ((M.qd6 a b ∧ ∀ e, e = M.qas a b → qa1 e (Q false) (g ((wrap .i64 (b + 1)), ())))) (Q true)) (0, ())))))
def wp.qb6 (a : D.Block) (Q : ByteArray → Prop) : Prop :=
 (M.qfc a ∧ ∀ c, c = M.qbV a → qa1 (!c) (Q (⟨#[]⟩)) (qdd (σ := Int × Unit) (fun (e : Int × Unit) f => match e with | (b, _) => qa1 (decide (b < (a.Warps.length : Int))) ((M.qdB a b ∧ ∀ d, d = M.qaQ a b → qa1 d (Q (⟨#[115, 112, 108, 105, 116]⟩)) (f ((wrap .i64 (b + 1)), ())))) (Q (⟨#[102, 114, 97, 109, 101, 115]⟩))) (0, ())))
end Go.V
namespace Go.V
open IntKind (wrap)
theorem qjg {x : D.Warp} (h : M.Long x.Frames) {Q : Int → Prop} (hQ : Q (M.qbb x)) : qa1 ((x.Frames.length : Int) == 0) (Q 0) (((0 ≤ (wrap .i64 ((x.Frames.length : Int) - 1)) ∧ (wrap .i64 ((x.Frames.length : Int) - 1)) < (x.Frames.length : Int)) ∧ Q ((rd x.Frames (wrap .i64 ((x.Frames.length : Int) - 1))).Mask))) := by
 rw [qhy]
 refine qa3 (fun e => ?_) fun e => ?_
 ·unfold M.qbb at hQ; rw [if_pos e] at hQ; exact hQ
 ·have hx : x.Frames ≠ [] := by simpa using e
  have hpos : 0 < x.Frames.length := List.length_pos_iff.2 hx
  rw [qdH h]
  unfold M.qbb at hQ
  rw [if_neg (by rw [e]; simp)] at hQ
  exact ⟨by omega, hQ⟩
theorem wp.qb0.math (x : D.Warp) (h : M.qcs x) : wp.qb0 x (fun r => r = M.qb0 x) := qjg (Q := fun r => r = M.qbb x) h rfl
theorem qnN {reg k : Int} (hr : M.qfr reg = true) (h0 : 0 ≤ k) (h7 : k ≤ 7) : 0 ≤ k * 4 + reg ∧ k * 4 + reg < 32 := by rw [qew] at hr; omega
theorem qhc {m l : Int} (h : l ∈ M.qdX m) : 0 ≤ l ∧ l ≤ 7 := by
 have := (List.mem_filter.1 h).1
 simp only [List.mem_cons, List.not_mem_nil, or_false] at this
 omega
theorem qjY (m : Int) : (M.qdX m).length ≤ 8 := by
 have := List.length_filter_le (M.qaB m) [0, 1, 2, 3, 4, 5, 6, 7]
 exact this
theorem qkS {α : Type} [Inhabited α] {l : List α} {a b : Nat} {i : Int} (h0 : 0 ≤ i) (hi : a + i.toNat < b) (hb : b ≤ l.length) : rd ((l.take b).drop a) i = rd l ((a : Int) + i) := by
 have e : ((a : Int) + i).toNat = a + i.toNat := by omega
 unfold rd
 rw [e, List.getD_eq_getElem?_getD, List.getD_eq_getElem?_getD, List.getElem?_drop, List.getElem?_take, if_pos hi]
theorem wp.qaz.math (x : D.Warp) (reg : Int) (h : M.qcl x reg) : wp.qaz x reg (fun r => r = M.qaz x reg) := by
 obtain ⟨h1, h32, hreg⟩ := h
 refine ⟨h1, fun r hr r2 hr2 => ?_⟩
 have hr2' : r2 = M.qdX (M.qbb x) := by rw [hr2, hr]; rfl
 show qdd _ _
 have hl := qjY (M.qbb x)
 have hmem : ∀ k : Nat, k < r2.length → 0 ≤ rd r2 (k : Int) ∧ rd r2 (k : Int) ≤ 7 := fun k hk => qhc (m := M.qbb x) (by rw [← hr2']; exact qg7 hk)
 have hM : M.qaz x reg = r2.foldl (M.qdA x reg) 0 := by rw [hr2']; rfl
 rw [hM]
 have hlen : r2.length ≤ 8 := by rw [hr2']; exact hl
 clear hr2 hr2' hM
 refine qdl r2.length (fun k => ((r2.take k).foldl (M.qdA x reg) 0, (k : Int), ())) (fun _ => True) rfl trivial (fun k hk _ next hn => ?_) fun _ next => qb8 (by simp) (by rw [List.take_length])
 have hn := hn trivial
 rw [List.take_add_one, List.getElem?_eq_getElem hk, Option.toList_some, List.foldl_append, ← qcJ hk] at hn
 simp only [List.foldl_cons, List.foldl_nil] at hn
 have hm := hmem k hk
 dsimp only
 generalize rd r2 (k : Int) = l at *
 have hin := qnN hreg hm.1 hm.2
 rw [qew] at hreg
 have a1 : wrap .i64 (l * 4) = l * 4 := w64 (by omega) (by omega)
 have a2 : wrap .i64 ((wrap .i64 (l + 1)) * 4) = l * 4 + 4 := by rw [w64 (x := l + 1) (by omega) (by omega), w64 (by omega) (by omega)]; omega
 rw [a1, a2]
 have hc : rd ((x.Regs.take (l * 4 + 4).toNat).drop (l * 4).toNat) reg = rd x.Regs (l * 4 + reg) := by
  rw [qkS hreg.1 (by omega) (by omega)]
  congr 1; omega
 rw [hc, up64 hk (by omega)]
 refine qb1 (by simp; omega) ⟨by omega, ⟨h32, hm⟩, ⟨by omega, by simp; omega⟩, qa3 (fun e => ⟨by omega, ?_⟩) fun e => ?_⟩
 ·have e : rd x.Regs (l * 4 + reg) = 0 := by simpa using e
  unfold M.qdA at hn
  rw [if_pos e] at hn
  exact hn
 ·have e : ¬ rd x.Regs (l * 4 + reg) = 0 := by simpa using e
  unfold M.qdA at hn
  rw [if_neg e] at hn
  exact hn
theorem qdg {p : List D.Ins} {x : D.Warp} (h : M.Runs p x) : p.length ≤ 32 ∧ 0 < x.Frames.length ∧ x.Frames.length ≤ 24 ∧ x.Regs.length = 32 ∧ 0 ≤ M.qbw x ∧ M.qbw x < (p.length : Int) ∧ M.qcM (M.qar p x) p.length = true ∧ 0 ≤ x.Number ∧ x.Number ≤ 2 := by
 obtain ⟨hp, hw, hx⟩ := h
 obtain ⟨k1, k2, k3⟩ := qif hw hx
 have hp' := hp
 simp only [M.qat, Bool.and_eq_true, decide_eq_true_eq, List.all_eq_true] at hp
 simp only [M.qeM, Bool.and_eq_true, M.isIn, decide_eq_true_eq, beq_iff_eq] at hw
 exact ⟨hp.1, List.length_pos_iff.2 hx, k1, hw.2.1, k2, k3, hp.2 _ (qib k2 k3), hw.1.1, hw.1.2⟩
theorem qgZ {i : D.Ins} {n : Int} (h : M.qcM i n = true) (e : i.Op = 10) : M.qfr i.A = true := by
 simp only [M.qcM, Bool.and_eq_true] at h
 have h := h.2
 rw [if_neg (by omega), if_neg (by omega), if_neg (by omega), if_neg (by omega), if_pos e] at h
 simp only [Bool.and_eq_true] at h
 exact h.1
theorem qec {x : D.Warp} (h : x.Frames ≠ []) : M.qbb x = (M.qb3 x.Frames).Mask := by
 unfold M.qbb
 rw [if_neg (by simpa using h)]
theorem wp.qaK.math (x : D.Warp) (p : List D.Ins) (h : M.qdn x p) : wp.qaK x p (fun r => r = M.qaK x p) := by
 obtain ⟨t1, t2, t3, t4, t5, t6, t7, _⟩ := qdg h
 have hL : M.Long x.Frames := by unfold M.Long; omega
 unfold wp.qaK
 rw [qdH (by omega)]
 change (_ ∧ _) ∧ (0 ≤ M.qbw x ∧ M.qbw x < _) ∧ qa1 ((M.qar p x).Op != 10) _ ((0 ≤ M.qbw x ∧ M.qbw x < _) ∧ qa1 ((M.qar p x).B == wrap .i64 (M.qbw x + 1)) _ ((0 ≤ M.qbw x ∧ M.qbw x < _) ∧ (M.qcl x (M.qar p x).A ∧ ∀ r, r = M.qaz x (M.qar p x).A → qa1 (r != 0) (M.qcs x ∧ ∀ r49, r49 = M.qb0 x → (r != r49) = _) _)))
 rw [w64 (x := M.qbw x + 1) (by omega) (by omega)]
 refine ⟨by omega, ⟨t5, t6⟩, qa3 (fun e => ?_) fun e => ⟨⟨t5, t6⟩, qa3 (fun e2 => ?_) fun e2 => ⟨⟨t5, t6⟩, ⟨hL, t4, qgZ t7 (by simpa using e)⟩, fun r hr => qa3 (fun e3 => ⟨hL, fun r4 hr4 => ?_⟩) fun e3 => ?_⟩⟩⟩
 ·have e : ¬ (M.qar p x).Op = 10 := by simpa using e
  simp [M.qaK, M.splits, e]
 ·have e2 : (M.qar p x).B = M.qbw x + 1 := by simpa using e2
  simp [M.qaK, M.splits, e2]
 all_goals
  have e : (M.qar p x).Op = 10 := by simpa using e
  have e2 : ¬ (M.qar p x).B = M.qbw x + 1 := by simpa using e2
  have hz : r = M.qbE x (M.qar p x).A := hr
  rw [hz] at e3
  try rw [hz]
 ·have hr4' : r4 = (M.qb3 x.Frames).Mask := by rw [hr4]; exact qec h.2.2
  rw [hr4']
  simp only [M.qaK, M.splits, e, e3, Bool.true_and]
  have : ((M.qar p x).B != M.qbw x + 1) = true := by simpa using e2
  rw [this]; rfl
 ·simp only [M.qaK, M.splits, e3, Bool.false_and, Bool.and_false]
theorem qg4 {b : D.Block} {w : Int} (h : M.Has b w) (hx : (rd b.Warps w).Frames ≠ []) : M.Runs b.Code (rd b.Warps w) := by
 obtain ⟨_, _, hp, hw, _⟩ := qdq h
 exact ⟨hp, hw, hx⟩
theorem qnr {α : Type} {l : List α} : ((l.length : Int) == 1) = (l.length == 1) := by
 rw [Bool.eq_iff_iff]; simp; omega
theorem wp.qas.math (b : D.Block) (w : Int) (h : M.qd6 b w) : wp.qas b w (fun r => r = M.qas b w) := by
 obtain ⟨h0, h1, hp, hw, hn, hok⟩ := qdq h
 refine ⟨h, fun r hr => ?_⟩
 by_cases e : (rd b.Warps w).Frames.isEmpty = true
 ·have hr' : r = (⟨0, 0, 0, 0⟩, false) := by rw [hr]; simp [M.qan, e]
  rw [hr']
  unfold qfQ
  refine qb1 rfl (qb1 rfl ?_)
  simp [M.qas, M.qf8, e]
 have e : (rd b.Warps w).Frames.isEmpty = false := by simpa using e
 have hx : (rd b.Warps w).Frames ≠ [] := by simpa using e
 have hr' : r = (M.qar b.Code (rd b.Warps w), true) := by
  rw [hr]; simp only [M.qan]; rw [if_neg (by rw [e]; simp)]; rfl
 have hruns := qg4 h hx
 obtain ⟨t1, t2, t3, t4, t5, t6, t7, _⟩ := qdg hruns
 rw [hr']
 unfold qfQ
 refine qb8 rfl ⟨h0, fun r2 hr2 => ?_⟩
 have hr2' : r2 = M.waits b w := hr2
 refine qa3 (fun e2 => ?_) fun e2 => qa3 (fun e3 => ?_) fun e3 => ?_
 ·have := hr2'.symm.trans e2
  simp [M.qas, M.qf8, this]
 ·have e2 := hr2'.symm.trans e2
  have e3 : (M.qar b.Code (rd b.Warps w)).Op = 16 := by simpa using e3
  have hl : M.qbu (M.qar b.Code (rd b.Warps w)) = false := by simp [M.qbu, M.isIn, e3]
  refine ⟨⟨h0, h1⟩, ?_⟩
  rw [qnr]
  simp only [M.qas, M.qf8, e, e2, hl, e3, Bool.not_false, Bool.true_and, bne_self_eq_false, Bool.false_or, Bool.false_eq_true, if_false]
 ·have e2 := hr2'.symm.trans e2
  have e3 : ¬ (M.qar b.Code (rd b.Warps w)).Op = 16 := by simpa using e3
  intro r3 hr3
  refine qa3 (fun e4 => ⟨⟨h0, h1⟩, hruns, fun r4 hr4 => qa3 (fun e5 => ?_) fun e5 => ⟨⟨h0, h1⟩, ?_⟩⟩) fun e4 => ?_
  ·have e4 := (show r3 = M.qbu (M.qar b.Code (rd b.Warps w)) from hr3).symm.trans e4
   have := nt e5 (show r4 = M.splits b.Code (rd b.Warps w) from hr4)
   simp [M.qas, M.qf8, e, e2, e4, this]
  ·have e4 := (show r3 = M.qbu (M.qar b.Code (rd b.Warps w)) from hr3).symm.trans e4
   have := nf e5 (show r4 = M.splits b.Code (rd b.Warps w) from hr4)
   rw [w64 (by omega) (by omega)]
   simp only [M.qas, M.qf8, e, e2, e4, this, Bool.not_false, Bool.not_true, Bool.true_and, Bool.false_or, if_true]
   congr 1; exact propext (by omega)
  ·have e4 := (show r3 = M.qbu (M.qar b.Code (rd b.Warps w)) from hr3).symm.trans e4
   simp [M.qas, M.qf8, e, e2, e4, e3]
theorem qev {b : D.Block} (h : M.Good b) : 1 ≤ b.Warps.length ∧ b.Warps.length ≤ 3 := by
 have := h.2
 simp only [M.qcH, Bool.and_eq_true, M.isIn, decide_eq_true_eq] at this
 omega
theorem qgY {b : D.Block} (h : M.Good b) {w : Int} (h0 : 0 ≤ w) (h1 : w < (b.Warps.length : Int)) : M.Has b w := by
 have hc := qev h
 refine ⟨h.1, ?_⟩
 simp only [M.qfy, h.2, Bool.true_and, M.isIn, qdH (n := b.Warps.length) (by omega), Bool.and_eq_true, decide_eq_true_eq]
 omega
theorem qfT {x n : Int} (hx : 0 ≤ x) (hn : 0 < n) : 0 ≤ Int.tmod x n ∧ Int.tmod x n < n :=
 ⟨Int.tmod_nonneg _ hx, Int.tmod_lt_of_pos _ hn⟩
theorem qlO {b : D.Block} (h : M.Good b) {q : Int} (h0 : 0 ≤ q) (hq : q ≤ 9223372036854775807) {B : (Int × Unit) → ((Int × Unit) → Prop) → Prop} {Q : Int → Prop} (hQ : Q (M.pick b q))
    (hb : ∀ (k : Nat) (next : (Int × Unit) → Prop), k < b.Warps.length → M.Has b (Int.tmod (Int.tmod q b.Warps.length + k) b.Warps.length) → (M.qf8 b (Int.tmod (Int.tmod q b.Warps.length + k) b.Warps.length) = true → Q (Int.tmod (Int.tmod q b.Warps.length + k) b.Warps.length)) →
     (M.qf8 b (Int.tmod (Int.tmod q b.Warps.length + k) b.Warps.length) = false → next (((k + 1 : Nat) : Int), ())) → wrap .i64 (Int.tmod q b.Warps.length + k) = Int.tmod q b.Warps.length + k → B ((k : Int), ()) next)
    (he : ∀ next : (Int × Unit) → Prop, Q (-1) → B ((b.Warps.length : Int), ()) next) : qdd B (0, ()) := by
 have hc := qev h
 have ht := qfT (x := q) (n := b.Warps.length) h0 (by omega)
 refine qdl b.Warps.length (fun k => ((k : Int), ())) (fun k => M.pick b q = M.qf2 b b.Warps.length (Int.tmod q b.Warps.length) (b.Warps.length - k) (k : Int)) rfl rfl (fun k hk hF next hn => ?_) fun hF next => ?_
 ·rw [show b.Warps.length - k = (b.Warps.length - (k + 1)) + 1 by omega, M.qf2] at hF
  have ht2 := qfT (x := Int.tmod q b.Warps.length + k) (n := b.Warps.length) (by omega) (by omega)
  refine hb k next hk (qgY h ht2.1 ht2.2) (fun e => ?_) (fun e => hn ?_) (w64 (by omega) (by omega))
  ·rw [if_pos e] at hF; rw [← hF]; exact hQ
  ·rw [if_neg (by rw [e]; simp)] at hF; rw [hF]; rfl
 ·refine he next ?_
  rw [Nat.sub_self, M.qf2] at hF
  rw [← hF]; exact hQ
theorem wp.qb7.math (b : D.Block) (q : Int) (h : M.qdF b q) : wp.qb7 b q (fun r => r = M.qb7 b q) := by
 obtain ⟨hg, h0, hq⟩ := h
 have hc := qev hg
 refine qlO hg h0 hq (Q := fun r => r = M.pick b q) rfl (fun k next hk hh h1 h2 hw => ?_) fun next hh => qb8 (by simp) hh
 refine qb1 (by simp; omega) ⟨by omega, by omega, ?_⟩
 simp only [hw]
 refine ⟨hh, fun r hr => qa3 (fun e => h1 (hr.symm.trans e)) fun e => ?_⟩
 rw [up64 hk (by omega)]; exact h2 (hr.symm.trans e)
theorem qk3 {b : D.Block} (hl : b.Warps.length ≤ 3) {g : Nat → Bool} {B : (Int × Unit) → ((Int × Unit) → Prop) → Prop}
    (hb : ∀ (k : Nat) (next : (Int × Unit) → Prop), k < b.Warps.length → (g k = false → (List.range b.Warps.length).all g = false) → (g k = true → next (((k + 1 : Nat) : Int), ())) → B ((k : Int), ()) next)
    (he : ∀ next : (Int × Unit) → Prop, (List.range b.Warps.length).all g = true → B ((b.Warps.length : Int), ()) next) : qdd B (0, ()) := by
 refine qdl b.Warps.length (fun k => ((k : Int), ())) (fun k => (List.range k).all g = true) rfl rfl (fun k hk hF next hn => ?_) fun hF next => he next hF
 refine hb k next hk (fun e => ?_) fun e => hn (by rw [List.range_succ, List.all_append, hF]; simp [e])
 refine Bool.eq_false_iff.2 fun hh => ?_
 rw [List.all_eq_true] at hh
 have := hh k (List.mem_range.2 hk)
 rw [e] at this; cases this
theorem wp.qbV.math (b : D.Block) (h : M.qfc b) : wp.qbV b (fun r => r = M.qbV b) := by
 refine ⟨h, fun r hr => qa3 (fun e => ?_) fun e => ⟨h.2.1.1, fun r2 hr2 => qa3 (fun e2 => ?_) fun e2 => ?_⟩⟩
 ·simp [M.qbV, M.qfz, nt e (show r = M.qcH b from hr)]
 ·have := (show r2 = M.ended b from hr2).symm.trans e2
  simp [M.qbV, M.qfz, this]
 ·have e := nf e (show r = M.qcH b from hr)
  have e2 := (show r2 = M.ended b from hr2).symm.trans e2
  have hg : M.Good b := ⟨h, e⟩
  have hc := qev hg
  have hM : M.qbV b = (List.range b.Warps.length).all fun k : Nat => !M.qf8 b (k : Int) := by simp only [M.qbV, M.qfz, e, e2, Bool.true_and, Bool.not_false]
  rw [hM]
  refine qk3 hc.2 (g := fun k : Nat => !M.qf8 b (k : Int)) (fun k next hk h1 h2 => ?_) fun next hh => qb8 (by simp) hh.symm
  refine qb1 (by simp; omega) ⟨qgY hg (by omega) (by omega), fun r3 hr3 => qa3 (fun e3 => (h1 ?_).symm) fun e3 => ?_⟩
  ·have := (show r3 = M.qf8 b (k : Int) from hr3).symm.trans e3
   simp [this]
  ·have := (show r3 = M.qf8 b (k : Int) from hr3).symm.trans e3
   rw [up64 hk (by omega)]; exact h2 (by simp [this])
theorem qlB {b : D.Block} (h : M.qgV b) (e : M.qfz b = true) : M.Good b := by
 simp only [M.qfz, Bool.and_eq_true] at e
 exact ⟨h, e.1⟩
theorem wp.qb6.math (b : D.Block) (h : M.qe8 b) : wp.qb6 b (fun r => r = M.qb6 b) := by
 refine ⟨h, fun r hr => qa3 (fun e => ?_) fun e => ?_⟩
 ·have := nt e (show r = M.qfz b from hr)
  simp [M.qb6, M.qeR, this]
 ·have e := nf e (show r = M.qfz b from hr)
  have hc := qev (qlB h e)
  refine qk3 hc.2 (g := fun k : Nat => !M.qdj b (k : Int)) (fun k next hk h1 h2 => ?_) fun next hh => qb8 (by simp) ?_
  ·refine qb1 (by simp; omega) ⟨h, fun r3 hr3 => qa3 (fun e3 => ?_) fun e3 => ?_⟩
   ·have e3 := (show r3 = M.qdj b (k : Int) from hr3).symm.trans e3
    have := h1 (by simp [e3])
    simp only [M.qb6, M.qeR, e, this, if_true, Bool.false_eq_true, if_false]
   ·have e3 := (show r3 = M.qdj b (k : Int) from hr3).symm.trans e3
    rw [up64 hk (by omega)]; exact h2 (by simp [e3])
  ·simp only [M.qb6, M.qeR, e, hh, if_true]
end Go.V
namespace Go.V
open IntKind (wrap)
theorem qfY {g : Int → Bool} {x : Int} : ∀ {n : Nat}, x ∈ M.idx g n ↔ ∃ k : Nat, k < n ∧ x = (k : Int) ∧ g x = true
 | 0 => by simp [M.idx]
 | n + 1 => by
  have ih := qfY (g := g) (x := x) (n := n)
  unfold M.idx
  constructor
  ·intro h
   split at h
   ·rename_i e
    rcases List.mem_append.1 h with h | h
    ·obtain ⟨k, hk, h1, h2⟩ := ih.1 h; exact ⟨k, by omega, h1, h2⟩
    ·obtain rfl := List.mem_singleton.1 h; exact ⟨n, by omega, rfl, e⟩
   ·obtain ⟨k, hk, h1, h2⟩ := ih.1 h; exact ⟨k, by omega, h1, h2⟩
  ·rintro ⟨k, hk, rfl, h2⟩
   by_cases hkn : k = n
   ·subst hkn; rw [if_pos h2]; simp
   ·have := ih.2 ⟨k, by omega, rfl, h2⟩
    split
    ·exact List.mem_append_left _ this
    ·exact this
theorem qiL (g : Int → Bool) : ∀ n, (M.idx g n).length ≤ n
 | 0 => by simp [M.idx]
 | n + 1 => by
  have := qiL g n
  unfold M.idx
  split <;> simp <;> omega
theorem qjr {n : Nat} {g : Int → Bool} {B : (List Int × Int × Unit) → ((List Int × Int × Unit) → Prop) → Prop}
    (hb : ∀ (k : Nat) (xs : List Int) (next : (List Int × Int × Unit) → Prop), k < n → xs = M.idx g k → xs.length ≤ k → (g (k : Int) = true → next (xs ++ [(k : Int)], ((k + 1 : Nat) : Int), ())) → (g (k : Int) = false → next (xs, ((k + 1 : Nat) : Int), ())) → B (xs, (k : Int), ()) next)
    (he : ∀ next : (List Int × Int × Unit) → Prop, B (M.idx g n, (n : Int), ()) next) : qdd B ([], 0, ()) := by
 refine qdl n (fun k => (M.idx g k, (k : Int), ())) (fun _ => True) rfl trivial (fun k hk _ next hn => ?_) fun _ next => he next
 have hn := hn trivial
 unfold M.idx at hn
 exact hb k _ next hk rfl (qiL g k) (fun e => by rwa [if_pos e] at hn) fun e => by rwa [if_neg (by rw [e]; simp)] at hn
theorem qn9 {p : List D.Ins} (hp : M.qat p = true) {k : Int} (h0 : 0 ≤ k) (h1 : k < (p.length : Int)) : M.qcM (rd p k) p.length = true := by
 simp only [M.qat, Bool.and_eq_true, decide_eq_true_eq, List.all_eq_true] at hp
 exact hp.2 _ (qib h0 h1)
theorem qhZ {p : List D.Ins} (hp : M.qat p = true) : p.length ≤ 32 := by
 simp only [M.qat, Bool.and_eq_true, decide_eq_true_eq] at hp
 exact hp.1
theorem qfJ {i : D.Ins} {n : Int} (h : M.qcM i n = true) (e : i.Op = 10 ∨ i.Op = 11) : 0 ≤ i.B ∧ i.B ≤ n := by
 simp only [M.qcM, Bool.and_eq_true] at h
 have h := h.2
 rcases e with e | e
 ·rw [if_neg (by omega), if_neg (by omega), if_neg (by omega), if_neg (by omega), if_pos e] at h
  simp only [Bool.and_eq_true, M.isIn, decide_eq_true_eq] at h
  exact h.2.1
 ·rw [if_neg (by omega), if_neg (by omega), if_neg (by omega), if_neg (by omega), if_neg (by omega), if_pos e] at h
  simp only [Bool.and_eq_true, M.isIn, decide_eq_true_eq] at h
  exact h.2.1
theorem qeX {a b x : Int} : x ∈ M.qgv a b ↔ x = a ∨ x = b := by
 unfold M.qgv
 split
 ·simp [or_comm]
 split
 ·rename_i h1 h2; subst h2; simp
 ·simp
theorem qje (a b : Int) : (M.qgv a b).length ≤ 2 := by
 unfold M.qgv
 (repeat' split) <;> simp
theorem qfu {p : List D.Ins} {k : Int} (h : M.Node p k) : (∀ x ∈ M.qbq p k, M.qcO p x) ∧ (M.qbq p k).length ≤ 2 := by
 obtain ⟨hp, h0, h1⟩ := h
 unfold M.qbq
 split
 ·exact ⟨fun x hx => absurd hx List.not_mem_nil, by simp⟩
 rename_i hne
 have hlt : k < (p.length : Int) := by omega
 have hi := qn9 hp h0 hlt
 split
 ·exact ⟨fun x hx => by obtain rfl := List.mem_singleton.1 hx; exact ⟨by omega, by omega⟩, by simp⟩
 split
 ·rename_i e
  exact ⟨fun x hx => by obtain rfl := List.mem_singleton.1 hx; exact qfJ hi (.inr e), by simp⟩
 split
 ·rename_i e
  refine ⟨fun x hx => ?_, qje _ _⟩
  rcases qeX.1 hx with rfl | rfl
  ·exact ⟨by omega, by omega⟩
  ·exact qfJ hi (.inl e)
 ·exact ⟨fun x hx => by obtain rfl := List.mem_singleton.1 hx; exact ⟨by omega, by omega⟩, by simp⟩
def qgc (l : List Bool) : Nat := l.count false
theorem qhl : ∀ {l : List Bool} {k : Nat}, k < l.length → l[k]? = some false → qgc (l.set k true) + 1 = qgc l
 | [], k, hk, _ => absurd hk (by simp)
 | b :: l, 0, hk, h => by
  simp at h; subst h
  simp [qgc]
 | b :: l, k + 1, hk, h => by
  have := qhl (l := l) (k := k) (by simpa using hk) (by simpa using h)
  unfold qgc at *
  simp only [List.set_cons_succ, List.count_cons]
  omega
theorem rdB {l : List Bool} {k : Int} (h0 : 0 ≤ k) (h1 : k < (l.length : Int)) : l[k.toNat]? = some (rd l k) := by
 have : k.toNat < l.length := by omega
 simp [rd, List.getD_eq_getElem?_getD, this]
theorem qie {l : List Bool} {k j : Int} (h0 : 0 ≤ k) (h1 : k < (l.length : Int)) (hj : 0 ≤ j) : rd (l.set k.toNat true) j = if j = k then true else rd l j := by
 unfold rd
 rw [List.getD_eq_getElem?_getD, List.getD_eq_getElem?_getD, List.getElem?_set]
 by_cases e : j = k
 ·subst e
  have : j.toNat < l.length := by omega
  simp [this]
 ·have : ¬ k.toNat = j.toNat := by omega
  rw [if_neg this, if_neg e]
theorem qkA (p : List D.Ins) (wo : Int) : ∀ (f : Nat) (work : List Int) (seen : List Bool), (M.bfs p wo f work seen).length = seen.length
 | 0, _, _ => rfl
 | f + 1, [], _ => rfl
 | f + 1, k :: work, seen => by
  unfold M.bfs
  split
  ·exact qkA p wo f _ _
  ·rw [qkA p wo f]; simp
theorem qjE (p : List D.Ins) (wo : Int) {j : Int} (hj : 0 ≤ j) : ∀ (f : Nat) (work : List Int) (seen : List Bool), (∀ x ∈ work, M.Node p x) → seen.length = p.length + 1 → rd seen j = true → rd (M.bfs p wo f work seen) j = true
 | 0, _, _, _, _, h => h
 | f + 1, [], _, _, _, h => h
 | f + 1, k :: work, seen, hw, hl, h => by
  have hk := hw k List.mem_cons_self
  have hr : ∀ x ∈ work, M.Node p x := fun x hx => hw x (List.mem_cons_of_mem _ hx)
  unfold M.bfs
  split
  ·exact qjE p wo hj f _ _ hr hl h
  ·refine qjE p wo hj f _ _ (fun x hx => (List.mem_append.1 hx).elim (hr x) fun h' => ⟨hk.1, (qfu hk).1 x h'⟩) (by simpa using hl) ?_
   have hk2 := hk.2
   unfold M.qcO at hk2
   rw [qie hk2.1 (by omega) hj]
   split
   ·rfl
   ·exact h
theorem qmC {p : List D.Ins} {wo : Int} {I : List Bool → Prop} {B : (List Int × List Bool × Unit) → ((List Int × List Bool × Unit) → Prop) → Prop} {work0 : List Int} {seen0 R : List Bool} {fuel : Nat}
    (hs : M.Starts p work0) (hl0 : seen0.length = p.length + 1) (hI0 : I seen0) (hR : M.bfs p wo fuel work0 seen0 = R) (hf : 3 * qgc seen0 + work0.length ≤ fuel)
    (hb0 : ∀ (k : Int) (rest : List Int) (seen : List Bool) (next : (List Int × List Bool × Unit) → Prop), M.Node p k → seen.length = p.length + 1 → I seen → (k = wo ∨ rd seen k = true) → next (rest, seen, ()) → B (k :: rest, seen, ()) next)
    (hb1 : ∀ (k : Int) (rest : List Int) (seen : List Bool) (next : (List Int × List Bool × Unit) → Prop), M.Node p k → seen.length = p.length + 1 → I seen → ¬ k = wo → rd seen k = false → rd R k = true → rest.length + (M.qbq p k).length ≤ 17179869184 → (I (seen.set k.toNat true) → next (rest ++ M.qbq p k, seen.set k.toNat true, ())) → B (k :: rest, seen, ()) next)
    (he : ∀ (next : (List Int × List Bool × Unit) → Prop), I R → B ([], R, ()) next) : qdd B (work0, seen0, ()) := by
 obtain ⟨hp, hw, h4⟩ := hs
 have h32 := qhZ hp
 have hc0 : qgc seen0 ≤ p.length + 1 := by unfold qgc; rw [← hl0]; exact List.count_le_length
 refine ⟨fun m z => ∃ work seen f, z = (work, seen, ()) ∧ m = 3 * qgc seen + work.length ∧ m ≤ f ∧ M.bfs p wo f work seen = R ∧ seen.length = p.length + 1 ∧ (∀ x ∈ work, M.Node p x) ∧ m ≤ 200 ∧ I seen,
  ⟨_, work0, seen0, fuel, rfl, rfl, hf, hR, hl0, fun x hx => ⟨hp, hw x hx⟩, by omega, hI0⟩, ?_⟩
 rintro m z ⟨work, seen, f, rfl, rfl, hmf, hbf, hl, hwk, hm, hI⟩
 cases work with
 | nil =>
  have : seen = R := by
   cases f with
   | zero => exact hbf
   | succ f => exact hbf
  subst this
  exact he _ hI
 | cons k rest =>
  have hk := hwk k List.mem_cons_self
  have hr : ∀ x ∈ rest, M.Node p x := fun x hx => hwk x (List.mem_cons_of_mem _ hx)
  cases f with
  | zero => simp at hmf
  | succ f =>
   by_cases hc : k = wo ∨ rd seen k = true
   ·refine hb0 k rest seen _ hk hl hI hc ⟨_, ?_, rest, seen, f, rfl, rfl, ?_, ?_, hl, hr, ?_, hI⟩
    ·simp
    ·simp at hmf; omega
    ·rw [M.bfs, if_pos hc] at hbf; exact hbf
    ·simp at hm; omega
   ·have h1 : ¬ k = wo := fun e => hc (.inl e)
    have h2 : rd seen k = false := by simpa using fun e => hc (.inr e)
    have hk2 := hk.2
    unfold M.qcO at hk2
    have hn := qfu hk
    have hfs := qhl (l := seen) (k := k.toNat) (by omega) (by rw [rdB hk2.1 (by omega), h2])
    rw [M.bfs, if_neg hc] at hbf
    have hw' : ∀ x ∈ rest ++ M.qbq p k, M.Node p x := fun x hx => (List.mem_append.1 hx).elim (hr x) fun h' => ⟨hk.1, hn.1 x h'⟩
    have hR' : rd R k = true := by
     rw [← hbf]
     refine qjE p wo hk2.1 f _ _ hw' (by simpa using hl) ?_
     rw [qie hk2.1 (by omega) hk2.1, if_pos rfl]
    refine hb1 k rest seen _ hk hl hI h1 h2 hR' ?_ fun hI' => ⟨_, ?_, _, _, f, rfl, rfl, ?_, hbf, by simpa using hl, hw', ?_, hI'⟩
    ·simp at hm; omega
    ·simp only [List.length_append, List.length_cons]; omega
    ·simp only [List.length_append, List.length_cons] at *; omega
    ·simp only [List.length_append, List.length_cons] at *; omega
theorem qiw (n : Nat) : (List.replicate (n + 1) false).length = n + 1 := by simp
theorem qhL (n : Nat) : qgc (List.replicate (n + 1) false) = n + 1 := by simp [qgc]
theorem qkY (n : Nat) (k : Int) : rd (List.replicate (n + 1) false) k = false := by
 unfold rd
 rw [List.getD_eq_getElem?_getD, List.getElem?_replicate]
 split <;> rfl
inductive Rch (p : List D.Ins) (wo : Int) (frm : List Int) : Int → Prop
 | base {s : Int} : s ∈ frm → s ≠ wo → Rch p wo frm s
 | step {k s : Int} : Rch p wo frm k → s ∈ M.qbq p k → s ≠ wo → Rch p wo frm s
theorem qic {p : List D.Ins} {wo : Int} {frm : List Int} : ∀ (f : Nat) (work : List Int) (seen : List Bool), (∀ x ∈ work, M.Node p x) → seen.length = p.length + 1 → (∀ x ∈ work, x = wo ∨ Rch p wo frm x) → (∀ x, 0 ≤ x → rd seen x = true → Rch p wo frm x) →
    ∀ x, 0 ≤ x → rd (M.bfs p wo f work seen) x = true → Rch p wo frm x
 | 0, _, _, _, _, _, h => h
 | f + 1, [], _, _, _, _, h => h
 | f + 1, k :: work, seen, hw, hl, hwr, h => by
  have hk := hw k List.mem_cons_self
  have hk2 := hk.2
  unfold M.qcO at hk2
  have hr : ∀ x ∈ work, M.Node p x := fun x hx => hw x (List.mem_cons_of_mem _ hx)
  have hwr' : ∀ x ∈ work, x = wo ∨ Rch p wo frm x := fun x hx => hwr x (List.mem_cons_of_mem _ hx)
  unfold M.bfs
  split
  ·exact qic f work seen hr hl hwr' h
  ·rename_i hc
   have hkR : Rch p wo frm k := (hwr k List.mem_cons_self).resolve_left fun e => hc (.inl e)
   refine qic f _ _ (fun x hx => (List.mem_append.1 hx).elim (hr x) fun h' => ⟨hk.1, (qfu hk).1 x h'⟩) (by simpa using hl) (fun x hx => (List.mem_append.1 hx).elim (hwr' x) fun h' => ?_) fun x hx hs => ?_
   ·by_cases e : x = wo
    ·exact .inl e
    ·exact .inr (.step hkR h' e)
   ·rw [qie hk2.1 (by omega) hx] at hs
    split at hs
    ·rename_i e; rw [e]; exact hkR
    ·exact h x hx hs
def Closed (p : List D.Ins) (wo : Int) (frm work : List Int) (seen : List Bool) : Prop :=
 (∀ s ∈ frm, s ≠ wo → rd seen s = true ∨ s ∈ work) ∧ ∀ k, M.qcO p k → rd seen k = true → ∀ s ∈ M.qbq p k, s ≠ wo → rd seen s = true ∨ s ∈ work
theorem qhq {p : List D.Ins} {wo : Int} {frm : List Int} : ∀ (f : Nat) (work : List Int) (seen : List Bool), (∀ x ∈ work, M.Node p x) → (∀ x ∈ frm, M.qcO p x) → seen.length = p.length + 1 → 3 * qgc seen + work.length ≤ f → Closed p wo frm work seen → Closed p wo frm [] (M.bfs p wo f work seen)
 | 0, work, seen, _, _, _, hf, hc => by
  have : work = [] := List.eq_nil_of_length_eq_zero (by omega)
  subst this; exact hc
 | f + 1, [], seen, _, _, _, _, hc => hc
 | f + 1, k :: work, seen, hw, hfr, hl, hf, hc => by
  have hk := hw k List.mem_cons_self
  have hk2 := hk.2
  have hk3 := hk.2
  unfold M.qcO at hk2
  have hr : ∀ x ∈ work, M.Node p x := fun x hx => hw x (List.mem_cons_of_mem _ hx)
  simp only [List.length_cons] at hf
  obtain ⟨c1, c2⟩ := hc
  unfold M.bfs
  split
  ·rename_i hd
   have drop : ∀ s, s ≠ wo → (rd seen s = true ∨ s ∈ k :: work) → rd seen s = true ∨ s ∈ work := by
    intro s hs h
    rcases h with h | h
    ·exact .inl h
    rcases List.mem_cons.1 h with rfl | h
    ·exact .inl (hd.resolve_left hs)
    ·exact .inr h
   exact qhq f work seen hr hfr hl (by omega) ⟨fun s hs hne => drop s hne (c1 s hs hne), fun j hj hsj s hs hne => drop s hne (c2 j hj hsj s hs hne)⟩
  ·rename_i hd
   have h2 : rd seen k = false := by simpa using fun e => hd (.inr e)
   have hfs := qhl (l := seen) (k := k.toNat) (by omega) (by rw [rdB hk2.1 (by omega), h2])
   have hn := qfu hk
   have up : ∀ s, M.qcO p s → (rd seen s = true ∨ s ∈ k :: work) → rd (seen.set k.toNat true) s = true ∨ s ∈ work ++ M.qbq p k := by
    intro s hs h
    have hs2 := hs
    unfold M.qcO at hs2
    rw [qie hk2.1 (by omega) hs2.1]
    rcases h with h | h
    ·left; split; rfl; exact h
    rcases List.mem_cons.1 h with rfl | h
    ·left; rw [if_pos rfl]
    ·exact .inr (List.mem_append_left _ h)
   refine qhq f _ _ (fun x hx => (List.mem_append.1 hx).elim (hr x) fun h' => ⟨hk.1, hn.1 x h'⟩) hfr (by simpa using hl) (by simp only [List.length_append]; omega)
    ⟨fun s hs hne => up s (hfr s hs) (c1 s hs hne), fun j hj hsj s hs hne => ?_⟩
   have hj2 := hj
   unfold M.qcO at hj2
   rw [qie hk2.1 (by omega) hj2.1] at hsj
   split at hsj
   ·rename_i e; subst e
    exact .inr (List.mem_append_right _ hs)
   ·exact up s ((qfu ⟨hk.1, hj⟩).1 s hs) (c2 j hj hsj s hs hne)
theorem qmR {p : List D.Ins} {wo : Int} {frm : List Int} (hp : M.qat p = true) (hf : ∀ x ∈ frm, M.qcO p x) {x : Int} (h : Rch p wo frm x) : M.qcO p x := by
 induction h with
 | base h _ => exact hf _ h
 | step _ hs _ ih => exact (qfu ⟨hp, ih⟩).1 _ hs
theorem qdx {p : List D.Ins} {wo : Int} {frm : List Int} (hp : M.qat p = true) (hf : ∀ x ∈ frm, M.qcO p x) {x : Int} (hx : M.qcO p x) : rd (M.reached p frm wo) x = true ↔ Rch p wo frm x := by
 constructor
 ·intro h
  refine qic (frm := frm) _ frm _ (fun y hy => ⟨hp, hf y hy⟩) (qiw _) (fun y hy => ?_) (fun y _ hs => by rw [qkY] at hs; cases hs) x hx.1 h
  by_cases e : y = wo
  ·exact .inl e
  ·exact .inr (.base hy e)
 ·intro h
  have hc := qhq (p := p) (wo := wo) (frm := frm) (3 * (p.length + 1) + frm.length) frm (List.replicate (p.length + 1) false) (fun y hy => ⟨hp, hf y hy⟩) hf (qiw _) (by rw [qhL]; omega)
   ⟨fun s hs _ => .inr hs, fun k _ hs => by rw [qkY] at hs; cases hs⟩
  clear hx
  induction h with
  | base h hne => exact (hc.1 _ h hne).resolve_right List.not_mem_nil
  | step hk hs hne ih => exact (hc.2 _ (qmR hp hf hk) ih _ hs hne).resolve_right List.not_mem_nil
theorem qfS (p : List D.Ins) (frm : List Int) (wo : Int) : (M.reached p frm wo).length = p.length + 1 := by
 unfold M.reached; rw [qkA]; simp
theorem qkz {p : List D.Ins} {k later : Int} (h : M.Node p k) (hl : M.qcO p later) (h1 : M.qeW p k = true) (h2 : M.qdP p k later = true) : M.qeW p later = true := by
 obtain ⟨hp, hk⟩ := h
 have hn : M.qcO p (p.length : Int) := ⟨by omega, by omega⟩
 have one : ∀ z, M.qcO p z → ∀ x ∈ [z], M.qcO p x := fun z hz x hx => by obtain rfl := List.mem_singleton.1 hx; exact hz
 have r1 := (qdx hp (one k hk) hn).1 h1
 have r2 : ¬ Rch p later [k] (p.length : Int) := fun hr => by
  have := (qdx hp (one k hk) hn).2 hr
  unfold M.qdP at h2
  rw [this] at h2; cases h2
 have hl1 : later ≠ -1 := by have := hl.1; omega
 have key : ∀ x, Rch p (-1) [k] x → Rch p later [k] x ∨ Rch p (-1) [later] x := by
  intro x hx
  induction hx with
  | @base s hs hne =>
   by_cases e : s = later
   ·exact .inr (.base (by simp [e]) hne)
   ·exact .inl (.base hs e)
  | @step j s _ hs hne ih =>
   rcases ih with ih | ih
   ·by_cases e : s = later
    ·exact .inr (.base (by simp [e]) hne)
    ·exact .inl (.step ih hs e)
   ·exact .inr (.step ih hs hne)
 exact (qdx hp (one later hl) hn).2 ((key _ r1).resolve_left r2)
theorem qkI {p : List D.Ins} (h : M.qeC p) : wrap .i64 ((p.length : Int) + 1) = ((p.length + 1 : Nat) : Int) := by
 unfold M.qeC at h
 rw [w64 (by omega) (by omega)]; push_cast; rfl
theorem qhh {p : List D.Ins} (hp : M.qat p = true) : M.qeC p := by have := qhZ hp; unfold M.qeC; omega
theorem qgN {p : List D.Ins} (h : M.qeC p) : M.Long p := by unfold M.qeC at h; unfold M.Long; omega
theorem qky {l : List Int} {g : Int → Bool} {k : Nat} (hk : k < l.length) : (l.take (k + 1)).filter g = if g (rd l (k : Int)) then (l.take k).filter g ++ [rd l (k : Int)] else (l.take k).filter g := by
 rw [List.take_add_one, List.getElem?_eq_getElem hk, qcJ hk, List.filter_append]
 by_cases e : g l[k] = true
 ·simp [e]
 ·simp [e]
theorem qiS {k : Int} {rest : List Int} : rd (k :: rest) 0 = k ∧ List.drop ((1 : Int).toNat) (k :: rest) = rest ∧ (0 ≤ (0 : Int) ∧ (0 : Int) < ((k :: rest).length : Int)) ∧ (0 ≤ (1 : Int) ∧ (1 : Int) ≤ ((k :: rest).length : Int)) ∧ decide (((k :: rest).length : Int) > 0) = true := by
 refine ⟨rfl, rfl, by simp only [List.length_cons]; omega, by simp only [List.length_cons]; omega, ?_⟩
 simp only [List.length_cons, decide_eq_true_eq]; omega
theorem qnB {p : List D.Ins} (hp : M.qat p = true) : List.replicate ((wrap .i64 ((p.length : Int) + 1)).toNat) (default : Bool) = List.replicate (p.length + 1) false := by
 rw [qkI (qhh hp)]; rfl
theorem qi5 {p : List D.Ins} {k : Int} {seen : List Bool} (h : M.Node p k) (hl : seen.length = p.length + 1) : 0 ≤ k ∧ k < (seen.length : Int) := by
 obtain ⟨_, h0, h1⟩ := h
 omega
theorem qna {p : List D.Ins} {k : Int} (h : M.Node p k) : M.Starts p [k] := ⟨h.1, fun x hx => by obtain rfl := List.mem_singleton.1 hx; exact h.2, by simp⟩
theorem qfp {p : List D.Ins} {k : Int} : M.qfx p k = true ↔ M.Node p k := by
 simp only [M.qfx, M.Node, M.qcO, Bool.and_eq_true, M.isIn, decide_eq_true_eq]
theorem qeu {p : List D.Ins} {k x : Int} (h : x ∈ M.others (M.qc8 p k) k) : M.Node p x ∧ M.Node p k ∧ M.qeW p k = true ∧ M.qdP p k x = true := by
 have h := (List.mem_filter.1 h).1
 unfold M.qc8 at h
 split at h
 ·rename_i e
  simp only [Bool.and_eq_true] at e
  have hN := qfp.1 e.1
  obtain ⟨j, hj, rfl, hg⟩ := qfY.1 h
  exact ⟨⟨hN.1, by omega, by omega⟩, hN, e.2, hg⟩
 ·exact absurd h List.not_mem_nil
theorem qiZ (p : List D.Ins) (k : Int) : (M.qc8 p k).length ≤ p.length + 1 := by
 unfold M.qc8
 split
 ·exact qiL _ _
 ·simp
theorem qlZ {p : List D.Ins} (hp : M.qeC p) (k : Int) : M.Nodes p (M.others (M.qc8 p k) k) := by
 have h1 := qiZ p k
 have h2 := List.length_filter_le (fun x => x != k) (M.qc8 p k)
 unfold M.qeC at hp
 refine ⟨?_, fun x hx => (qeu hx).1⟩
 show (M.others (M.qc8 p k) k).length ≤ 17179869183
 unfold M.others; omega
theorem qnq {p : List D.Ins} {b : Int} (h : M.Branch p b) : M.Node p (b + 1) ∧ M.Node p (rd p b).B ∧ M.Node p b ∧ b + 1 < 9223372036854775807 := by
 obtain ⟨hp, h0, h1, hb⟩ := h
 have h32 := qhZ hp
 simp only [M.isBr, Bool.and_eq_true, beq_iff_eq] at hb
 have ht := qfJ (qn9 hp h0 h1) (.inl hb.1)
 exact ⟨⟨hp, by omega, by omega⟩, ⟨hp, ht⟩, ⟨hp, by omega, by omega⟩, by omega⟩
theorem qm3 {seen : List Bool} (h : M.qnm seen) {Q : List Int → Prop} (hQ : Q (M.marked seen)) : qdd (σ := (List Int) × Int × Unit) (fun (p54 : (List Int) × Int × Unit) next31 => match p54 with | (xs24, i27, _) => qa1 (decide (i27 < (seen.length : Int))) (((0 ≤ i27 ∧ i27 < (seen.length : Int)) ∧ qa1 (rd seen i27) (((xs24.length + ([i27] : List Int).length ≤ 17179869184) ∧ next31 ((xs24 ++ ([i27] : List Int)), (wrap .i64 (i27 + 1)), ()))) (next31 (xs24, (wrap .i64 (i27 + 1)), ())))) (Q xs24)) (([] : List Int), 0, ()) := by
 have hl : seen.length ≤ 17179869183 := h
 refine qjr (n := seen.length) (g := fun k => rd seen k) (fun j xs next hj hxs hle h1 h2 => ?_) fun next => qb8 (by simp) hQ
 refine qb1 (by simp; omega) ⟨by omega, qa3 (fun e => ⟨by simp; omega, ?_⟩) fun e => ?_⟩
 ·rw [up64 hj (by omega)]; exact h1 e
 ·rw [up64 hj (by omega)]; exact h2 e
theorem qk2 {p : List D.Ins} {b : Int} (h : M.has (M.branches p) b = true) : M.Branch p b := by
 simp only [M.has, List.any_eq_true, beq_iff_eq] at h
 obtain ⟨x, hx, rfl⟩ := h
 unfold M.branches at hx
 split at hx
 ·rename_i hp
  obtain ⟨j, hj, rfl, hg⟩ := qfY.1 hx
  exact ⟨hp, by omega, by omega, hg⟩
 ·exact absurd hx List.not_mem_nil
theorem qhN (p : List D.Ins) : (M.branches p).length ≤ p.length := by
 unfold M.branches
 split
 ·exact qiL _ _
 ·simp
theorem qkE {p : List D.Ins} {k : Int} (h : M.Node p k) : M.Starts p (M.qbq p k) := ⟨h.1, (qfu h).1, by have := (qfu h).2; omega⟩
theorem qlq (p : List D.Ins) (b : Int) : (M.qee p b).length ≤ p.length + 1 := by
 unfold M.qee
 split
 ·have := qiL (fun k => rd (M.reached p (M.qbq p b) (M.qde p b)) k) (M.reached p (M.qbq p b) (M.qde p b)).length
  rw [qfS] at this
  unfold M.marked; rw [qfS]; exact this
 ·simp
theorem qlc {p : List D.Ins} {b x : Int} (h : x ∈ M.qee p b) : 0 ≤ x := by
 unfold M.qee at h
 split at h
 ·obtain ⟨j, hj, rfl, _⟩ := qfY.1 h; omega
 ·exact absurd h List.not_mem_nil
end Go.V
namespace Go.V
open IntKind (wrap)
def wp.cmp_isNaN_int (a : Int) (Q : Bool → Prop) : Prop :=
 Q (a != a)
def wp.cmp_Less_int (a : Int) (b : Int) (Q : Bool → Prop) : Prop :=
 (∀ c, c = M.cmp_isNaN_int a → qa1 c ((∀ d, d = M.cmp_isNaN_int b → qa1 (!d) (Q true) (Q (decide (a < b))))) (Q (decide (a < b))))
def wp.qai (k : List Int) (e : Int) (l : Int) (Q : ((List Int)) → Prop) : Prop :=
 qdd (σ := Int × (List Int) × Unit) (fun (m : Int × (List Int) × Unit) d => match m with | (c, f, _) => qa1 (decide (c < l)) (qdd (σ := Int × (List Int) × Unit) (fun (n : Int × (List Int) × Unit) g => match n with | (a, b, _) => qfQ (σ := Unit) (fun h => qa1 (decide (a > e)) (((0 ≤ a ∧ a < (b.length : Int)) ∧ ((0 ≤ (wrap .i64 (a - 1)) ∧ (wrap .i64 (a - 1)) < (b.length : Int)) ∧ (((∀ i, i = M.cmp_Less_int (rd b a) (rd b (wrap .i64 (a - 1))) → qa1 i (h (())) (d ((wrap .i64 (c + 1)), b, ())))) ∧ ((∀ j, j = M.cmp_Less_int (rd b a) (rd b (wrap .i64 (a - 1))) → qa1 j (h (())) (d ((wrap .i64 (c + 1)), b, ())))) ∧ True)))) (((d ((wrap .i64 (c + 1)), b, ())) ∧ (d ((wrap .i64 (c + 1)), b, ())) ∧ True))) (fun (o : Unit) => match o with | (_) => ((0 ≤ (wrap .i64 (a - 1)) ∧ (wrap .i64 (a - 1)) < (b.length : Int)) ∧ ((0 ≤ a ∧ a < (b.length : Int)) ∧ ((((0 ≤ a ∧ a < (b.length : Int)) ∧ ((0 ≤ (wrap .i64 (a - 1)) ∧ (wrap .i64 (a - 1)) < ((List.set b (a.toNat) (rd b (wrap .i64 (a - 1)))).length : Int)) ∧ g ((wrap .i64 (a - 1)), (List.set (List.set b (a.toNat) (rd b (wrap .i64 (a - 1)))) ((wrap .i64 (a - 1)).toNat) (rd b a)), ())))) ∧ (((0 ≤ a ∧ a < (b.length : Int)) ∧ ((0 ≤ (wrap .i64 (a - 1)) ∧ (wrap .i64 (a - 1)) < ((List.set b (a.toNat) (rd b (wrap .i64 (a - 1)))).length : Int)) ∧ g ((wrap .i64 (a - 1)), (List.set (List.set b (a.toNat) (rd b (wrap .i64 (a - 1)))) ((wrap .i64 (a - 1)).toNat) (rd b a)), ())))) ∧ True))))) (c, f, ())) (Q f)) ((wrap .i64 (e + 1)), k, ())
def wp.qbm (a : Int) (Q : Int → Prop) : Prop :=
 qfQ (σ := Int × Int × Unit) (fun e => qa1 (decide (a ≥ 4294967296)) (e ((Int.fdiv a (2 ^ (min ((32 : Int).toNat) (IntKind.bits .u64)))), 32, ())) (e (a, 0, ()))) (fun (j : Int × Int × Unit) => match j with | (b, f, _) => qfQ (σ := Int × Int × Unit) (fun g => qa1 (decide (b ≥ 65536)) (g ((Int.fdiv b (2 ^ (min ((16 : Int).toNat) (IntKind.bits .u64)))), (wrap .i64 (f + 16)), ())) (g (b, f, ()))) (fun (k : Int × Int × Unit) => match k with | (c, h, _) => qfQ (σ := Int × Int × Unit) (fun i => qa1 (decide (c ≥ 256)) (i ((Int.fdiv c (2 ^ (min ((8 : Int).toNat) (IntKind.bits .u64)))), (wrap .i64 (h + 8)), ())) (i (c, h, ()))) (fun (l : Int × Int × Unit) => match l with | (d, m, _) => ((0 ≤ IntKind.wrap .u8 d ∧ IntKind.wrap .u8 d < ((ByteArray.size (⟨#[0, 1, 2, 2, 3, 3, 3, 3, 4, 4, 4, 4, 4, 4, 4, 4, 5, 5, 5, 5, 5, 5, 5, 5, 5, 5, 5, 5, 5, 5, 5, 5, 6, 6, 6, 6, 6, 6, 6, 6, 6, 6, 6, 6, 6, 6, 6, 6, 6, 6, 6, 6, 6, 6, 6, 6, 6, 6, 6, 6, 6, 6, 6, 6, 7, 7, 7, 7, 7, 7, 7, 7, 7, 7, 7, 7, 7, 7, 7, 7, 7, 7, 7, 7, 7, 7, 7, 7, 7, 7, 7, 7, 7, 7, 7, 7, 7, 7, 7, 7, 7, 7, 7, 7, 7, 7, 7, 7, 7, 7, 7, 7, 7, 7, 7, 7, 7, 7, 7, 7, 7, 7, 7, 7, 7, 7, 7, 7, 8, 8, 8, 8, 8, 8, 8, 8, 8, 8, 8, 8, 8, 8, 8, 8, 8, 8, 8, 8, 8, 8, 8, 8, 8, 8, 8, 8, 8, 8, 8, 8, 8, 8, 8, 8, 8, 8, 8, 8, 8, 8, 8, 8, 8, 8, 8, 8, 8, 8, 8, 8, 8, 8, 8, 8, 8, 8, 8, 8, 8, 8, 8, 8, 8, 8, 8, 8, 8, 8, 8, 8, 8, 8, 8, 8, 8, 8, 8, 8, 8, 8, 8, 8, 8, 8, 8, 8, 8, 8, 8, 8, 8, 8, 8, 8, 8, 8, 8, 8, 8, 8, 8, 8, 8, 8, 8, 8, 8, 8, 8, 8, 8, 8, 8, 8, 8, 8, 8, 8, 8, 8, 8, 8, 8, 8, 8, 8]⟩) : Nat) : Int)) ∧ Q (wrap .i64 (m + (wrap .i64 (bt (⟨#[0, 1, 2, 2, 3, 3, 3, 3, 4, 4, 4, 4, 4, 4, 4, 4, 5, 5, 5, 5, 5, 5, 5, 5, 5, 5, 5, 5, 5, 5, 5, 5, 6, 6, 6, 6, 6, 6, 6, 6, 6, 6, 6, 6, 6, 6, 6, 6, 6, 6, 6, 6, 6, 6, 6, 6, 6, 6, 6, 6, 6, 6, 6, 6, 7, 7, 7, 7, 7, 7, 7, 7, 7, 7, 7, 7, 7, 7, 7, 7, 7, 7, 7, 7, 7, 7, 7, 7, 7, 7, 7, 7, 7, 7, 7, 7, 7, 7, 7, 7, 7, 7, 7, 7, 7, 7, 7, 7, 7, 7, 7, 7, 7, 7, 7, 7, 7, 7, 7, 7, 7, 7, 7, 7, 7, 7, 7, 7, 8, 8, 8, 8, 8, 8, 8, 8, 8, 8, 8, 8, 8, 8, 8, 8, 8, 8, 8, 8, 8, 8, 8, 8, 8, 8, 8, 8, 8, 8, 8, 8, 8, 8, 8, 8, 8, 8, 8, 8, 8, 8, 8, 8, 8, 8, 8, 8, 8, 8, 8, 8, 8, 8, 8, 8, 8, 8, 8, 8, 8, 8, 8, 8, 8, 8, 8, 8, 8, 8, 8, 8, 8, 8, 8, 8, 8, 8, 8, 8, 8, 8, 8, 8, 8, 8, 8, 8, 8, 8, 8, 8, 8, 8, 8, 8, 8, 8, 8, 8, 8, 8, 8, 8, 8, 8, 8, 8, 8, 8, 8, 8, 8, 8, 8, 8, 8, 8, 8, 8, 8, 8, 8, 8, 8, 8, 8, 8]⟩) (IntKind.wrap .u8 d)))))))))
def wp.qco (a : Int) (Q : Int → Prop) : Prop :=
 (M.qej a ∧ ∀ b, b = M.qbm a → Q b)
def wp.qay (c : List Int) (e : Int) (f : Int) (g : Int) (Q : ((List Int)) → Prop) : Prop :=
 qdd (σ := Int × Int × Int × Bool × Bool × Unit) (fun (h : Int × Int × Int × Bool × Bool × Unit) j => match h with | (a, b, i, k, l, _) => qa1 (decide ((wrap .i64 (b - a)) ≤ 12)) ((M.qcr c a b ∧ ∀ d, d = M.qai c a b → Q d)) (qa1 (i == 0) (False) (False))) (e, f, g, true, true, ())
def wp.qaF (a : List Int) (Q : ((List Int)) → Prop) : Prop :=
 (M.qeY (IntKind.wrap .u64 (a.length : Int)) ∧ ∀ b, b = M.qco (IntKind.wrap .u64 (a.length : Int)) → (M.qcU a 0 (a.length : Int) b ∧ ∀ c, c = M.qay a 0 (a.length : Int) b → Q c))
def wp.qam (a : List Int) (Q : (List Int) → Prop) : Prop :=
 qa1 (decide ((a.length : Int) < 2)) (Q a) (qdd (σ := Int × Unit) (fun (d : Int × Unit) e => match d with | (b, _) => qa1 (decide (b < (a.length : Int))) (((0 ≤ b ∧ b < (a.length : Int)) ∧ ((0 ≤ (wrap .i64 (b - 1)) ∧ (wrap .i64 (b - 1)) < (a.length : Int)) ∧ qa1 ((rd a b) == (rd a (wrap .i64 (b - 1)))) (((0 ≤ b ∧ b ≤ (a.length : Int)) ∧ qdd (σ := Int × Int × Unit) (fun (f : Int × Int × Unit) h => match f with | (c, g, _) => qa1 (decide (g < (((List.drop (b.toNat) a)).length : Int))) (False) (((0 ≤ c ∧ c ≤ (a.length : Int)) ∧ ((0 ≤ c ∧ c ≤ ((List.take (c.toNat) a ++ List.replicate (a.length - (c.toNat)) default).length : Int)) ∧ Q (List.take (c.toNat) (List.take (c.toNat) a ++ List.replicate (a.length - (c.toNat)) default)))))) (b, 1, ()))) (e ((wrap .i64 (b + 1)), ()))))) (Q a)) (1, ()))
def wp.qcm (b : List D.Ins) (a : Int) (Q : (List Int) → Prop) : Prop :=
 qa1 (a == (b.length : Int)) (Q ([] : List Int)) (((0 ≤ a ∧ a < (b.length : Int)) ∧ qa1 ((rd b a).Op == 12) (Q ([(b.length : Int)] : List Int)) (qa1 ((rd b a).Op == 11) (Q ([(rd b a).B] : List Int)) (qa1 ((rd b a).Op == 10) ((M.qdy ([(rd b a).B, (wrap .i64 (a + 1))] : List Int) ∧ ∀ c, c = M.qaF ([(rd b a).B, (wrap .i64 (a + 1))] : List Int) → (M.qd8 c ∧ ∀ d, d = M.qam c → Q d))) (Q ([(wrap .i64 (a + 1))] : List Int))))))
def wp.qb4 (b : List D.Ins) (Q : (List Int) → Prop) : Prop :=
 (M.qcB b ∧ ∀ d, d = M.qaD b → qa1 (!d) (Q ([] : List Int)) (qdd (σ := (List Int) × Int × Unit) (fun (g : (List Int) × Int × Unit) e => match g with | (c, a, _) => qa1 (decide (a < (b.length : Int))) ((M.qdZ b a ∧ ∀ f, f = M.qcm b a → qa1 ((f.length : Int) == 2) (((c.length + ([a] : List Int).length ≤ 17179869184) ∧ e ((c ++ ([a] : List Int)), (wrap .i64 (a + 1)), ()))) (e (c, (wrap .i64 (a + 1)), ())))) (Q c)) (([] : List Int), 0, ())))
def wp.qbZ (b : List D.Ins) (c : Int) (Q : Bool → Prop) : Prop :=
 (M.qdC b ∧ ∀ a, a = M.qb4 b → (M.qd3 a c ∧ ∀ d, d = M.qaL a c → Q d))
def wp.qbF (c : List D.Ins) (f : List Int) (h : Int) (Q : (List Bool) → Prop) : Prop :=
 ((0 ≤ (wrap .i64 ((c.length : Int) + 1)) ∧ (wrap .i64 ((c.length : Int) + 1)) ≤ 17179869184) ∧ (M.qaE f ∧ ∀ g, g = M.qag f → qdd (σ := (List Int) × (List Bool) × Unit) (fun (i : (List Int) × (List Bool) × Unit) d => match i with | (a, b, _) => qa1 (decide ((a.length : Int) > 0)) (((0 ≤ (0 : Int) ∧ (0 : Int) < (a.length : Int)) ∧ ((0 ≤ (1 : Int) ∧ (1 : Int) ≤ (a.length : Int)) ∧ qa1 ((rd a 0) == h) (d ((List.drop ((1 : Int).toNat) a), b, ())) (((0 ≤ (rd a 0) ∧ (rd a 0) < (b.length : Int)) ∧ qa1 (rd b (rd a 0)) (d ((List.drop ((1 : Int).toNat) a), b, ())) (((0 ≤ (rd a 0) ∧ (rd a 0) < (b.length : Int)) ∧ (M.qdZ c (rd a 0) ∧ ∀ e, e = M.qcm c (rd a 0) → (((List.drop ((1 : Int).toNat) a).length + e.length ≤ 17179869184) ∧ d (((List.drop ((1 : Int).toNat) a) ++ e), (List.set b ((rd a 0).toNat) true), ())))))))))) (Q b)) (g, (List.replicate ((wrap .i64 ((c.length : Int) + 1)).toNat) (default : Bool)), ())))
def wp.qbk (a : List D.Ins) (c : Int) (Q : Bool → Prop) : Prop :=
 (M.qdI a ([c] : List Int) (-1) ∧ ∀ b, b = M.qbF a ([c] : List Int) (-1) → ((0 ≤ (a.length : Int) ∧ (a.length : Int) < (b.length : Int)) ∧ Q (rd b (a.length : Int))))
def wp.qcj (a : List D.Ins) (d : Int) (Q : Bool → Prop) : Prop :=
 (M.qcB a ∧ ∀ b, b = M.qaD a → qa1 b ((∀ c, c = M.qah d 0 (a.length : Int) → Q c)) (Q false))
def wp.qbN (a : List D.Ins) (b : Int) (d : Int) (Q : Bool → Prop) : Prop :=
 (M.qdp a b ∧ ∀ e, e = M.qbk a b → qa1 e ((M.qdI a ([b] : List Int) d ∧ ∀ c, c = M.qbF a ([b] : List Int) d → ((0 ≤ (a.length : Int) ∧ (a.length : Int) < (c.length : Int)) ∧ Q (!(rd c (a.length : Int)))))) (Q false))
def wp.qbp (a : List D.Ins) (b : Int) (c : Int) (Q : Bool → Prop) : Prop :=
 (M.qeD a b ∧ ∀ d, d = M.qcj a b → qa1 d ((M.qeD a c ∧ ∀ e, e = M.qcj a c → qa1 e ((M.qeg a b c ∧ ∀ f, f = M.qbN a b c → Q f)) (Q false))) (Q false))
def wp.qbA (c : List D.Ins) (d : Int) (Q : (List Int) → Prop) : Prop :=
 qdd (σ := (List Int) × Int × Unit) (fun (g : (List Int) × Int × Unit) e => match g with | (b, a, _) => qa1 (decide (a < (wrap .i64 ((c.length : Int) + 1)))) ((M.qfg c d a ∧ ∀ f, f = M.qbp c d a → qa1 f (((b.length + ([a] : List Int).length ≤ 17179869184) ∧ e ((b ++ ([a] : List Int)), (wrap .i64 (a + 1)), ()))) (e (b, (wrap .i64 (a + 1)), ())))) (Q b)) (([] : List Int), 0, ())
def wp.qbh (a : Int) (b : Int) (Q : Bool → Prop) : Prop :=
 Q (a == b)
def wp.qak (d : List Int) (f : Int → Bool) (g : Int → Prop) (Q : (List Int) → Prop) : Prop :=
 (M.qcx d f g ∧ ∀ e, e = M.qad d f → qa1 (e == (-1)) (Q d) (qdd (σ := Int × Int × (List Int) × Unit) (fun (j : Int × Int × (List Int) × Unit) h => match j with | (a, c, b, _) => qa1 (decide (c < (d.length : Int))) (((0 ≤ c ∧ c < (b.length : Int)) ∧ (g (rd b c) ∧ ∀ i, i = f (rd b c) → qa1 (!i) (((0 ≤ a ∧ a < (b.length : Int)) ∧ h ((wrap .i64 (a + 1)), (wrap .i64 (c + 1)), (List.set b (a.toNat) (rd b c)), ()))) (h (a, (wrap .i64 (c + 1)), b, ()))))) (((0 ≤ a ∧ a ≤ (b.length : Int)) ∧ ((0 ≤ a ∧ a ≤ ((List.take (a.toNat) b ++ List.replicate (b.length - (a.toNat)) default).length : Int)) ∧ Q (List.take (a.toNat) (List.take (a.toNat) b ++ List.replicate (b.length - (a.toNat)) default)))))) (e, (wrap .i64 (e + 1)), d, ())))
def wp.qbL (a : Int) (b : List D.Ins) (c : Int) (Q : Bool → Prop) : Prop :=
 (M.qeg b c a ∧ ∀ d, d = M.qbN b c a → Q (!d))
def wp.qcD (d : List D.Ins) (a : List Int) (Q : Int → Prop) : Prop :=
 qdd (σ := Int × Unit) (fun (f : Int × Unit) g => match f with | (b, _) => qa1 (decide (b < (a.length : Int))) (((0 ≤ b ∧ b < (a.length : Int)) ∧ (M.qbe a (fun c => M.qbL c d (rd a b)) (fun c => M.qeE c d (rd a b)) ∧ ∀ e, e = M.qa9 a (fun c => M.qbL c d (rd a b)) → qa1 (!e) (Q (rd a b)) (g ((wrap .i64 (b + 1)), ()))))) (Q (-1))) (0, ())
def wp.qbJ (c : List D.Ins) (a : Int) (Q : Int → Prop) : Prop :=
 (M.qeV c a ∧ ∀ d, d = M.qbA c a → (M.qcR d (fun b => M.qbh b a) (fun b => M.qdY b a) ∧ ∀ e, e = M.qak d (fun b => M.qbh b a) → (M.qfb c e ∧ ∀ f, f = M.qcD c e → Q f)))
def wp.qbW (a : List D.Ins) (b : Int) (Q : Int → Prop) : Prop :=
 (M.qe2 a b ∧ ∀ e, e = M.qbZ a b → qa1 (!e) (Q (-1)) ((M.qdZ a b ∧ ∀ d, d = M.qcm a b → qdd (σ := Int × Unit) (fun (h : Int × Unit) i => match h with | (c, _) => qa1 (decide (c < (d.length : Int))) (((0 ≤ c ∧ c < (d.length : Int)) ∧ (M.qdp a (rd d c) ∧ ∀ f, f = M.qbk a (rd d c) → qa1 (!f) (Q (a.length : Int)) (i ((wrap .i64 (c + 1)), ()))))) ((M.qep a b ∧ ∀ g, g = M.qbJ a b → Q g))) (0, ()))))
def wp.qdb (c : List Bool) (Q : (List Int) → Prop) : Prop :=
 qdd (σ := (List Int) × Int × Unit) (fun (e : (List Int) × Int × Unit) d => match e with | (b, a, _) => qa1 (decide (a < (c.length : Int))) (((0 ≤ a ∧ a < (c.length : Int)) ∧ qa1 (rd c a) (((b.length + ([a] : List Int).length ≤ 17179869184) ∧ d ((b ++ ([a] : List Int)), (wrap .i64 (a + 1)), ()))) (d (b, (wrap .i64 (a + 1)), ())))) (Q b)) (([] : List Int), 0, ())
def wp.qbO (a : List D.Ins) (b : Int) (Q : (List Int) → Prop) : Prop :=
 (M.qe2 a b ∧ ∀ f, f = M.qbZ a b → qa1 (!f) (Q ([] : List Int)) ((M.qdZ a b ∧ ∀ c, c = M.qcm a b → (M.qeI a b ∧ ∀ d, d = M.qbW a b → (M.qdI a c d ∧ ∀ e, e = M.qbF a c d → (M.qfE e ∧ ∀ g, g = M.qdb e → Q g))))))
def wp.qax (a : Int) (b : List D.Ins) (Q : Bool → Prop) : Prop :=
 qa1 (decide (a < (b.length : Int))) (((0 ≤ a ∧ a < (b.length : Int)) ∧ Q ((rd b a).Op == 16))) (Q false)
def wp.qaU (d : Int) (a : List D.Ins) (Q : Bool → Prop) : Prop :=
 (M.qeU a d ∧ ∀ c, c = M.qbO a d → (M.qbe c (fun b => M.qax b a) (fun b => M.qdk b a) ∧ ∀ e, e = M.qa9 c (fun b => M.qax b a) → Q e))
def wp.qbg (a : List D.Ins) (Q : Bool → Prop) : Prop :=
 (M.qcB a ∧ ∀ d, d = M.qaD a → qa1 d ((M.qdC a ∧ ∀ c, c = M.qb4 a → (M.qbe c (fun b => M.qaU b a) (fun b => M.qdw b a) ∧ ∀ e, e = M.qa9 c (fun b => M.qaU b a) → Q (!e)))) (Q false))
end Go.V
namespace Go.V
open IntKind (wrap)
theorem wp.cmp_isNaN_int.math (x : Int) : wp.cmp_isNaN_int x (fun r => r = M.cmp_isNaN_int x) := by simp [wp.cmp_isNaN_int, M.cmp_isNaN_int]
theorem wp.cmp_Less_int.math (x y : Int) : wp.cmp_Less_int x y (fun r => r = M.cmp_Less_int x y) := by
 intro r hr
 have : r = false := hr
 subst this
 exact qb8 rfl rfl
theorem wp.qai.math (l : List Int) (a b : Int) (h : M.qcr l a b) : wp.qai l a b (fun r => r = M.qai l a b) := by
 obtain ⟨hl, rfl, rfl⟩ := h
 match l, hl with
 | [x, y], _ =>
 have w0 : wrap .i64 ((0 : Int) + 1) = 1 := by decide +kernel
 have w1 : wrap .i64 ((1 : Int) + 1) = 2 := by decide +kernel
 have w2 : wrap .i64 ((1 : Int) - 1) = 0 := by decide +kernel
 unfold wp.qai
 rw [w0]
 have r1 : rd [x, y] 1 = y := rfl
 have r0 : rd [x, y] 0 = x := rfl
 -- the outer loop: one round
 refine ⟨fun m z => (m = 1 ∧ z = (1, [x, y], ())) ∨ (m = 0 ∧ z = (2, M.qhk [x, y], ())), ⟨1, .inl ⟨rfl, rfl⟩⟩, ?_⟩
 rintro m z (⟨rfl, rfl⟩ | ⟨rfl, rfl⟩)
 ·refine qb1 rfl ?_
  refine ⟨fun m z => (m = 1 ∧ z = (1, [x, y], ())) ∨ (m = 0 ∧ z = (0, M.qhk [x, y], ())), ⟨1, .inl ⟨rfl, rfl⟩⟩, ?_⟩
  rintro m z (⟨rfl, rfl⟩ | ⟨rfl, rfl⟩)
  ·unfold qfQ
   have i1 : (0 ≤ (1 : Int) ∧ (1 : Int) < (([x, y] : List Int).length : Int)) := by simp
   have i0 : (0 ≤ (0 : Int) ∧ (0 : Int) < (([x, y] : List Int).length : Int)) := by simp
   by_cases hc : y < x
   ·have hs : M.qhk [x, y] = [y, x] := by simp [M.qhk, r1, r0, hc]
    have e1 : List.set (List.set [x, y] ((1 : Int).toNat) x) ((0 : Int).toNat) y = [y, x] := rfl
    have e2 : List.set (List.set [x, y] ((0 : Int).toNat) y) ((1 : Int).toNat) x = [y, x] := rfl
    have hd : (decide (y < x)) = true := decide_eq_true hc
    refine qb1 rfl ?_
    simp only [w2, r1, r0, M.cmp_Less_int, forall_eq, hd, e1, e2, hs]
    have j1 : ∀ v, (0 ≤ (1 : Int) ∧ (1 : Int) < ((List.set [x, y] ((0 : Int).toNat) v).length : Int)) := fun v => by simp
    have j0 : ∀ v, (0 ≤ (0 : Int) ∧ (0 : Int) < ((List.set [x, y] ((1 : Int).toNat) v).length : Int)) := fun v => by simp
    simp only [i1, i0, j1, j0, true_and, and_true, and_self, qa1]
    exact ⟨0, by omega, .inr rfl⟩
   ·have hs : M.qhk [x, y] = [x, y] := by simp [M.qhk, r1, r0, hc]
    have hd : (decide (y < x)) = false := decide_eq_false hc
    refine qb1 rfl ?_
    simp only [w2, w1, r1, r0, M.cmp_Less_int, forall_eq, hd, hs]
    simp only [i1, i0, true_and, and_true, and_self, qa1]
    exact ⟨0, by omega, .inr rfl⟩
  ·unfold qfQ
   refine qb8 rfl ?_
   rw [w1]
   have hn : ∃ m', m' < 1 ∧ ((m' = 1 ∧ ((2 : Int), M.qhk [x, y], ()) = (1, [x, y], ())) ∨ (m' = 0 ∧ ((2 : Int), M.qhk [x, y], ()) = (2, M.qhk [x, y], ()))) := ⟨0, by omega, .inr ⟨rfl, rfl⟩⟩
   exact ⟨hn, hn, trivial⟩
 ·exact qb8 rfl rfl
set_option maxRecDepth 100000 in
theorem wp.qbm.math (x : Int) (h : M.qej x) : wp.qbm x (fun r => r = M.qbm x) := by
 obtain ⟨h0, h1⟩ := h
 have : x = 0 ∨ x = 1 ∨ x = 2 ∨ x = 3 ∨ x = 4 ∨ x = 5 ∨ x = 6 ∨ x = 7 ∨ x = 8 ∨ x = 9 ∨ x = 10 ∨ x = 11 ∨ x = 12 := by omega
 unfold wp.qbm
 unfold qfQ
 rcases this with rfl | rfl | rfl | rfl | rfl | rfl | rfl | rfl | rfl | rfl | rfl | rfl | rfl
 all_goals
  refine qb8 rfl (qb8 rfl (qb8 rfl ⟨by decide +kernel, ?_⟩))
  show _ = M.qbm _
  decide +kernel
theorem wp.qco.math (x : Int) (h : M.qeY x) : wp.qco x (fun r => r = M.qco x) := ⟨h, fun r hr => by rw [hr]; rfl⟩
theorem wp.qay.math (l : List Int) (a b c : Int) (h : M.qcU l a b c) : wp.qay l a b c (fun r => r = M.qay l a b c) := by
 obtain ⟨hl, rfl, rfl⟩ := h
 refine qdl 0 (fun _ => (0, 2, c, true, true, ())) (fun _ => True) rfl trivial (fun k hk _ _ _ => absurd hk (by omega)) fun _ next => ?_
 exact qb1 (by decide +kernel) ⟨⟨hl, rfl, rfl⟩, fun r hr => by rw [hr]; rfl⟩
theorem wp.qaF.math (l : List Int) (h : M.qdy l) : wp.qaF l (fun r => r = M.qaF l) := by
 have hl : l.length = 2 := h
 unfold wp.qaF
 have e : (l.length : Int) = 2 := by omega
 rw [e]
 refine ⟨by show 0 ≤ IntKind.wrap .u64 2 ∧ IntKind.wrap .u64 2 ≤ 12; decide +kernel, fun r hr => ⟨⟨hl, rfl, rfl⟩, fun r2 hr2 => by rw [hr2]; rfl⟩⟩
theorem wp.qam.math (l : List Int) (h : M.qd8 l) : wp.qam l (fun r => r = M.qam l) := by
 match l, h with
 | [x, y], _ =>
 have w2 : wrap .i64 ((1 : Int) - 1) = 0 := by decide +kernel
 have w1 : wrap .i64 ((1 : Int) + 1) = 2 := by decide +kernel
 have r1 : rd [x, y] 1 = y := rfl
 have r0 : rd [x, y] 0 = x := rfl
 refine qb8 rfl ?_
 by_cases hc : y = x
 ·have hM : M.qam [x, y] = [x] := by unfold M.qam; rw [r1, r0, if_pos hc]; rfl
  rw [hM]
  refine qdl 0 (fun _ => (1, ())) (fun _ => True) rfl trivial (fun k hk _ _ _ => absurd hk (by omega)) fun _ next => ?_
  refine qb1 rfl ⟨by simp, by rw [w2]; simp, ?_⟩
  rw [w2, r1, r0]
  refine qb1 (by simpa using hc) ⟨by simp, ?_⟩
  refine qdl 0 (fun _ => (1, 1, ())) (fun _ => True) rfl trivial (fun k hk _ _ _ => absurd hk (by omega)) fun _ next => ?_
  exact qb8 rfl ⟨by simp, by simp, rfl⟩
 ·have hM : M.qam [x, y] = [x, y] := by unfold M.qam; rw [r1, r0, if_neg hc]
  rw [hM]
  refine qdl 1 (fun k => ((k : Int) + 1, ())) (fun _ => True) rfl trivial (fun k hk _ next hn => ?_) fun _ next => qb8 rfl rfl
  have hk0 : k = 0 := by omega
  subst hk0
  have hn := hn trivial
  refine qb1 rfl ⟨by simp, ?_, ?_⟩
  ·show 0 ≤ wrap .i64 ((1 : Int) - 1) ∧ wrap .i64 ((1 : Int) - 1) < (([x, y] : List Int).length : Int)
   rw [w2]; simp
  ·show qa1 (rd [x, y] 1 == rd [x, y] (wrap .i64 ((1 : Int) - 1))) _ _
   rw [w2, r1, r0]
   refine qb8 (by simpa using hc) ?_
   show next (wrap .i64 ((1 : Int) + 1), ())
   rw [w1]; exact hn
theorem qk0 (a b : Int) : M.qam (M.qaF [a, b]) = M.qgv b a ∧ (M.qaF [a, b]).length = 2 := by
 have r1 : rd [a, b] 1 = b := rfl
 have r0 : rd [a, b] 0 = a := rfl
 have s1 : rd [b, a] 1 = a := rfl
 have s0 : rd [b, a] 0 = b := rfl
 simp only [M.qam, M.qaF, M.qhk, M.qgv, r1, r0]
 by_cases h1 : b < a
 ·rw [if_pos h1, s1, s0, if_neg (by omega), if_neg (by omega), if_neg (by omega)]
  exact ⟨rfl, rfl⟩
 ·rw [if_neg h1, r1, r0]
  by_cases h2 : b = a
  ·rw [if_pos h2, if_neg (by omega), if_pos h2.symm]; exact ⟨by rw [h2]; rfl, rfl⟩
  ·rw [if_neg h2, if_pos (by omega)]; exact ⟨rfl, rfl⟩
theorem wp.qcm.math (p : List D.Ins) (k : Int) (h : M.qdZ p k) : wp.qcm p k (fun r => r = M.qcm p k) := by
 obtain ⟨hp, h0, h1⟩ := h
 have h32 := qhZ hp
 have hw : wrap .i64 (k + 1) = k + 1 := w64 (by omega) (by omega)
 unfold wp.qcm
 rw [hw]
 refine qa3 (fun e => ?_) fun e => ?_
 ·have e : k = p.length := by simpa using e
  simp [M.qcm, M.qbq, e]
 have e : ¬ k = p.length := by simpa using e
 refine ⟨by omega, qa3 (fun e1 => ?_) fun e1 => qa3 (fun e2 => ?_) fun e2 => qa3 (fun e3 => ⟨rfl, fun r hr => ?_⟩) fun e3 => ?_⟩
 all_goals simp only [M.qcm, M.qbq]
 all_goals rw [if_neg e]
 ·rw [if_pos (by simpa using e1)]
 ·rw [if_neg (by simpa using e1), if_pos (by simpa using e2)]
 ·rw [if_neg (by simpa using e1), if_neg (by simpa using e2), if_pos (by simpa using e3)]
  have hsc := qk0 (rd p k).B (k + 1)
  subst hr
  exact ⟨hsc.2, fun r2 hr2 => by rw [hr2]; exact hsc.1⟩
 ·rw [if_neg (by simpa using e1), if_neg (by simpa using e2), if_neg (by simpa using e3)]
theorem qmJ {p : List D.Ins} (hp : M.qat p = true) {k : Nat} (hk : k < p.length) : (((M.qbq p (k : Int)).length : Int) == 2) = M.isBr p (k : Int) := by
 have hne : ¬ (k : Int) = p.length := by omega
 unfold M.qbq M.isBr
 rw [if_neg hne]
 by_cases h12 : (rd p (k : Int)).Op = 12
 ·rw [if_pos h12, h12]; rfl
 rw [if_neg h12]
 by_cases h11 : (rd p (k : Int)).Op = 11
 ·rw [if_pos h11, h11]; rfl
 rw [if_neg h11]
 by_cases h10 : (rd p (k : Int)).Op = 10
 ·rw [if_pos h10, h10]
  unfold M.qgv
  by_cases h1 : (rd p (k : Int)).B < (k : Int) + 1
  ·rw [if_pos h1]
   have : ((rd p (k : Int)).B != (k : Int) + 1) = true := by simp; omega
   rw [this]; rfl
  rw [if_neg h1]
  by_cases h2 : (rd p (k : Int)).B = (k : Int) + 1
  ·rw [if_pos h2]
   have : ((rd p (k : Int)).B != (k : Int) + 1) = false := by simp [h2]
   rw [this]; rfl
  ·rw [if_neg h2]
   have : ((rd p (k : Int)).B != (k : Int) + 1) = true := by simpa using h2
   rw [this]; rfl
 ·rw [if_neg h10]
  have : ((rd p (k : Int)).Op == 10) = false := by simpa using h10
  rw [this]; rfl
theorem wp.qb4.math (p : List D.Ins) (h : M.qdC p) : wp.qb4 p (fun r => r = M.qb4 p) := by
 have hs : p.length ≤ 2097152 := h
 refine ⟨qgN h, fun r hr => qa3 (fun e => ?_) fun e => ?_⟩
 ·have := nt e (show r = M.qat p from hr)
  simp [M.qb4, M.branches, this]
 have hp := nf e (show r = M.qat p from hr)
 have hM : M.qb4 p = M.idx (M.isBr p) p.length := by simp [M.qb4, M.branches, hp]
 rw [hM]
 refine qjr (fun k xs next hk hxs hle h1 h2 => ?_) fun next => qb8 (by simp) rfl
 refine qb1 (by simp; omega) ⟨⟨hp, by omega, by omega⟩, fun r2 hr2 => ?_⟩
 have hr2' : r2 = M.qbq p (k : Int) := hr2
 rw [hr2', qmJ hp hk, up64 hk (by omega)]
 exact qa3 (fun e2 => ⟨by simp; omega, h1 e2⟩) fun e2 => h2 e2
theorem wp.qbZ.math (p : List D.Ins) (b : Int) (h : M.qe2 p b) : wp.qbZ p b (fun r => r = M.qbZ p b) := by
 have hs : p.length ≤ 2097152 := h
 have hbl := qhN p
 exact ⟨h, fun r hr => ⟨by rw [hr]; show (M.branches p).length ≤ 9223372036854775807; omega, fun r2 hr2 => by rw [hr2, hr]; rfl⟩⟩
theorem wp.qbF.math (p : List D.Ins) (l : List Int) (wo : Int) (h : M.qdI p l wo) : wp.qbF p l wo (fun r => r = M.qbF p l wo) := by
 have hp := h.1
 have h32 := qhZ hp
 have h4 := h.2.2
 unfold wp.qbF
 rw [qnB hp, qkI (qhh hp)]
 refine ⟨by omega, by show l.length ≤ 17179869184; omega, fun r hr => ?_⟩
 have hr' : r = l := hr
 subst hr'
 refine qmC (wo := wo) (I := fun _ => True) h (qiw _) trivial (R := M.qbF p r wo) rfl (by rw [qhL]; omega) (fun k rest seen next hk hl _ hc hn => ?_) (fun k rest seen next hk hl _ h1 h2 _ h5 hn => ?_) fun next _ => qb8 rfl rfl
 ·obtain ⟨f1, f2, f3, f4, f5⟩ := qiS (k := k) (rest := rest)
  refine qb1 f5 ⟨f3, f4, ?_⟩
  rw [f1, f2]
  refine qa3 (fun _ => hn) fun e1 => ⟨qi5 hk hl, qb1 (hc.resolve_left (by simpa using e1)) hn⟩
 ·obtain ⟨f1, f2, f3, f4, f5⟩ := qiS (k := k) (rest := rest)
  refine qb1 f5 ⟨f3, f4, ?_⟩
  rw [f1, f2]
  refine qb8 (by simpa using h1) ⟨qi5 hk hl, qb8 h2 ⟨qi5 hk hl, hk, fun r hr => ?_⟩⟩
  have hr' : r = M.qbq p k := hr
  rw [hr']
  exact ⟨h5, hn trivial⟩
theorem qmc (p : List D.Ins) (l : List Int) (wo : Int) : (0 ≤ (p.length : Int) ∧ (p.length : Int) < ((M.reached p l wo).length : Int)) := by rw [qfS]; omega
theorem wp.qbk.math (p : List D.Ins) (k : Int) (h : M.qdp p k) : wp.qbk p k (fun r => r = M.qbk p k) :=
 ⟨qna h, fun r hr => by rw [hr]; exact ⟨qmc _ _ _, rfl⟩⟩
theorem wp.qcj.math (p : List D.Ins) (k : Int) (h : M.qeD p k) : wp.qcj p k (fun r => r = M.qcj p k) := by
 refine ⟨qgN h, fun r hr => qa3 (fun e r2 hr2 => ?_) fun e => ?_⟩
 all_goals have hr' : r = M.qat p := hr
 ·rw [hr2]; simp [M.qcj, M.qfx, ← hr', e, M.qah]
 ·simp [M.qcj, M.qfx, ← hr', e]
theorem wp.qbN.math (p : List D.Ins) (k later : Int) (h : M.qeg p k later) : wp.qbN p k later (fun r => r = M.qbN p k later) := by
 refine ⟨h, fun r hr => qa3 (fun e => ⟨qna h, fun r2 hr2 => ?_⟩) fun e => ?_⟩
 all_goals have hr' : r = M.qeW p k := hr
 ·rw [hr2]
  refine ⟨qmc _ _ _, ?_⟩
  simp only [M.qbN, ← hr', e, Bool.true_and]; rfl
 ·simp [M.qbN, ← hr', e]
theorem wp.qbp.math (p : List D.Ins) (k later : Int) (h : M.qfg p k later) : wp.qbp p k later (fun r => r = M.qbp p k later) := by
 refine ⟨h, fun r hr => qa3 (fun e => ⟨h, fun r2 hr2 => qa3 (fun e2 => ?_) fun e2 => ?_⟩) fun e => ?_⟩
 all_goals have hr' : r = M.qfx p k := hr
 ·have hr2' : r2 = M.qfx p later := hr2
  refine ⟨qfp.1 (hr'.symm.trans e), fun r3 hr3 => ?_⟩
  rw [hr3]; simp [M.qbp, ← hr', e, ← hr2', e2, M.qbN]
 ·have hr2' : r2 = M.qfx p later := hr2
  simp [M.qbp, ← hr2', e2]
 ·simp [M.qbp, ← hr', e]
theorem wp.qbA.math (p : List D.Ins) (k : Int) (h : M.qeV p k) : wp.qbA p k (fun r => r = M.qbA p k) := by
 have hs : p.length ≤ 2097152 := h
 unfold wp.qbA
 rw [qkI h]
 by_cases hc : (M.qfx p k && M.qeW p k) = true
 ·have hN : M.Node p k := qfp.1 (by simp only [Bool.and_eq_true] at hc; exact hc.1)
  have hM : M.qbA p k = M.idx (M.qdP p k) (p.length + 1) := by simp only [M.qbA, M.qc8, hc, if_true]
  rw [hM]
  refine qjr (fun j xs next hj hxs hle h1 h2 => ?_) fun next => qb8 (by simp) rfl
  have hj2 : M.qfx p (j : Int) = true := qfp.2 ⟨hN.1, by omega, by omega⟩
  simp only [Bool.and_eq_true] at hc
  have hv : M.qbp p k (j : Int) = M.qdP p k (j : Int) := by simp only [M.qbp, hc.1, hc.2, hj2, Bool.true_and]
  refine qb1 (by simp; omega) ⟨h, fun r2 hr2 => ?_⟩
  rw [hr2, hv, up64 (n := p.length + 1) hj (by omega)]
  exact qa3 (fun e2 => ⟨by simp; omega, h1 e2⟩) fun e2 => h2 e2
 ·have hc : (M.qfx p k && M.qeW p k) = false := by simpa using hc
  have hM : M.qbA p k = [] := by simp only [M.qbA, M.qc8, hc]; rfl
  rw [hM]
  refine qdl (p.length + 1) (fun j => ([], (j : Int), ())) (fun _ => True) rfl trivial (fun j hj _ next hn => ?_) fun _ next => qb8 (by simp) rfl
  have hv : M.qbp p k (j : Int) = false := by
   cases h1 : M.qfx p k with
   | false => simp [M.qbp, h1]
   | true =>
    rw [h1, Bool.true_and] at hc
    simp [M.qbp, hc]
  refine qb1 (by simp; omega) ⟨h, fun r2 hr2 => ?_⟩
  rw [hr2, hv, up64 (n := p.length + 1) hj (by omega)]
  exact qb8 rfl (hn trivial)
theorem wp.qbh.math (x k : Int) (h : M.qdY x k) : wp.qbh x k (fun r => r = M.qbh x k) := rfl
theorem qhG (g : Int → Bool) : ∀ (l : List Int) (i : Nat), (M.qd7 g l i = -1 ∧ l.all (fun x => !g x) = true) ∨ ∃ k : Nat, k < l.length ∧ M.qd7 g l i = ((i + k : Nat) : Int) ∧ (l.take k).all (fun x => !g x) = true ∧ g (rd l (k : Int)) = true
 | [], i => .inl ⟨rfl, rfl⟩
 | x :: l, i => by
  unfold M.qd7
  by_cases hx : g x = true
  ·rw [if_pos hx]
   exact .inr ⟨0, by simp, by simp, by simp, hx⟩
  ·rw [if_neg hx]
   rcases qhG g l (i + 1) with ⟨h1, h2⟩ | ⟨k, hk, h1, h2, h3⟩
   ·exact .inl ⟨h1, by simp [hx]; simpa using h2⟩
   ·refine .inr ⟨k + 1, by simp; omega, by rw [h1]; congr 1; omega, ?_, ?_⟩
    ·rw [List.take_succ_cons, List.all_cons, h2]; simp [hx]
    ·rw [qcJ (by simp; omega)]; rw [qcJ hk] at h3; exact h3
theorem qig {l : List Int} {g : Int → Bool} (h : l.all g = true) : l.filter g = l := List.filter_eq_self.2 (List.all_eq_true.1 h)
theorem wp.qak.math (l : List Int) (g : Int → Bool) (D : Int → Prop) (h : M.qcR l g D) : wp.qak l g D (fun r => r = M.qak l g) := by
 obtain ⟨hl, hD⟩ := h
 have hl' : l.length ≤ 9223372036854775807 := hl
 refine ⟨⟨hl, hD⟩, fun r hr => ?_⟩
 have hr' : r = M.qd7 g l 0 := hr
 rcases qhG g l 0 with ⟨h1, h2⟩ | ⟨k, hk, h1, h2, h3⟩
 ·rw [hr', h1]
  exact qb1 rfl (by show l = l.filter _; exact (qig h2).symm)
 rw [hr', h1, Nat.zero_add]
 refine qb8 (by simp) ?_
 rw [up64 hk hl']
 let G : Nat → List Int := fun j => (l.take j).filter fun x => !g x
 have hG : ∀ j, j < l.length → G (j + 1) = if (!g (rd l (j : Int))) = true then G j ++ [rd l (j : Int)] else G j := fun j hj => qky hj
 have hGl : ∀ j, j ≤ l.length → (G j).length ≤ j := fun j hj => by
  have := List.length_filter_le (fun x => !g x) (l.take j)
  have h2 : (l.take j).length ≤ j := by simp; omega
  exact Nat.le_trans this h2
 have hGk : G (k + 1) = G k ∧ (G k).length = k := by
  refine ⟨by rw [hG k hk, if_neg (by rw [h3]; simp)], ?_⟩
  show ((l.take k).filter fun x => !g x).length = k
  rw [qig h2]; simp; omega
 refine ⟨fun m z => ∃ (j : Nat) (xs : List Int), z = (((G j).length : Int), (j : Int), xs, ()) ∧ m = l.length - j ∧ k < j ∧ j ≤ l.length ∧ (G j).length < j ∧ xs.length = l.length ∧ xs.take (G j).length = G j ∧ xs.drop j = l.drop j,
  ⟨_, k + 1, l, by rw [hGk.1, hGk.2], rfl, by omega, by omega, by rw [hGk.1, hGk.2]; omega, rfl, by rw [hGk.1]; rw [hGk.2]; exact (qig h2).symm, rfl⟩, ?_⟩
 rintro m z ⟨j, xs, rfl, rfl, hkj, hjl, hgj, hxl, hx1, hx2⟩
 have hget : j < l.length → rd xs (j : Int) = rd l (j : Int) := fun hj => by
  rw [qcJ (by omega), qcJ hj]
  have := congrArg (fun q => q[0]?) hx2
  simp only [List.getElem?_drop, Nat.add_zero] at this
  rw [List.getElem?_eq_getElem (by omega), List.getElem?_eq_getElem hj] at this
  exact Option.some.inj this
 by_cases hj : j < l.length
 ·refine qb1 (by simp; omega) ⟨by omega, ?_⟩
  have hGj := hG j hj
  have hgl : (G j).length < xs.length := by omega
  have hd2 : (xs.set (G j).length (rd l (j : Int))).drop (j + 1) = l.drop (j + 1) := by
   rw [List.drop_set_of_lt (by omega)]
   have := congrArg (fun q => q.drop 1) hx2
   simpa [List.drop_drop, Nat.add_comm] using this
  have hd1 : xs.drop (j + 1) = l.drop (j + 1) := by
   have := congrArg (fun q => q.drop 1) hx2
   simpa [List.drop_drop, Nat.add_comm] using this
  show D (rd xs (j : Int)) ∧ _
  dsimp only
  rw [hget hj]
  refine ⟨hD _ (qg7 hj), fun r2 hr2 => qa3 (fun e => ⟨⟨by omega, by omega⟩, ?_⟩) fun e => ?_⟩
  ·have e : (!g (rd l (j : Int))) = true := by rw [← hr2]; exact e
   rw [if_pos e] at hGj
   have hlen : (G (j + 1)).length = (G j).length + 1 := by rw [hGj]; simp
   refine ⟨l.length - (j + 1), by omega, j + 1, xs.set (G j).length (rd l (j : Int)), ?_, rfl, by omega, by omega, by omega, by simpa using hxl, ?_, hd2⟩
   ·rw [up64 (n := l.length) (k := (G j).length) (by omega) hl', up64 hj hl', hlen]; rfl
   ·rw [hlen, hGj, List.take_add_one, List.getElem?_set_self (by omega), List.take_set_of_le (Nat.le_refl _), hx1]; rfl
  ·have e : ¬ (!g (rd l (j : Int))) = true := by rw [← hr2, e]; simp
   rw [if_neg e] at hGj
   refine ⟨l.length - (j + 1), by omega, j + 1, xs, ?_, rfl, by omega, by omega, by rw [hGj]; omega, hxl, by rw [hGj]; exact hx1, hd1⟩
   rw [up64 hj hl', hGj]
 ·have hje : j = l.length := by omega
  have hGl : G l.length = l.filter fun x => !g x := by show (l.take l.length).filter _ = _; rw [List.take_length]
  refine qb8 (by simp; omega) ⟨by omega, by simp; omega, ?_⟩
  show _ = l.filter _
  rw [← hGl, ← hje]
  have : (((G j).length : Int)).toNat = (G j).length := by simp
  rw [this, List.take_append_of_le_length (by simp; omega), List.take_take, Nat.min_self, hx1]
theorem wp.qbL.math (z : Int) (p : List D.Ins) (x : Int) (h : M.qeE z p x) : wp.qbL z p x (fun r => r = M.qbL z p x) := ⟨h, fun r hr => by rw [hr]; rfl⟩
theorem qkF (p : List D.Ins) (all l : List Int) (k : Nat) (hk : k < l.length) : M.qhR p all (l.drop k) = if all.all (fun z => M.qeW p (rd l (k : Int)) && M.qdP p (rd l (k : Int)) z) then rd l (k : Int) else M.qhR p all (l.drop (k + 1)) := by
 rw [List.drop_eq_getElem_cons hk, qcJ hk]; rfl
theorem wp.qcD.math (p : List D.Ins) (l : List Int) (h : M.qfb p l) : wp.qcD p l (fun r => r = M.qcD p l) := by
 obtain ⟨h1, h2⟩ := h
 have hl : l.length ≤ 17179869183 := h1
 refine qdl l.length (fun k => ((k : Int), ())) (fun k => M.qhR p l l = M.qhR p l (l.drop k)) rfl rfl (fun k hk hF next hn => ?_) fun hF next => qb8 (by simp) ?_
 ·rw [qkF p l l k hk] at hF
  have hN := h2 _ (qg7 hk)
  refine qb1 (by simp; omega) ⟨by omega, ⟨by show l.length ≤ 9223372036854775807; omega, fun z hz => hN⟩, fun r hr => ?_⟩
  have hr' : r = !(l.all fun z => M.qeW p (rd l (k : Int)) && M.qdP p (rd l (k : Int)) z) := by
   rw [hr]
   simp only [M.qa9, M.qbL]
   rw [List.all_eq_not_any_not, Bool.not_not]
  refine qa3 (fun e => ?_) fun e => ?_
  ·have e2 := nt e hr'
   rw [if_pos (by simpa using e2)] at hF; exact hF.symm
  ·have e2 := nf e hr'
   rw [if_neg (by simpa using e2)] at hF
   rw [up64 hk (by omega)]; exact hn hF
 ·rw [List.drop_length] at hF; exact hF.symm
theorem qiX {p : List D.Ins} {all : List Int} : ∀ (l : List Int), (∀ x ∈ l, M.qeW p x = true) → M.qhR p all l = M.qgu p all l
 | [], _ => rfl
 | x :: l, h => by
  have hx := h x List.mem_cons_self
  unfold M.qhR M.qgu
  simp only [hx, Bool.true_and]
  rw [qiX l fun y hy => h y (List.mem_cons_of_mem _ hy)]
theorem wp.qbJ.math (p : List D.Ins) (k : Int) (h : M.qep p k) : wp.qbJ p k (fun r => r = M.qbJ p k) := by
 have h1 := qiZ p k
 have hs : p.length ≤ 2097152 := h
 refine ⟨h, fun r hr => ⟨⟨?_, fun _ _ => trivial⟩, fun r2 hr2 => ?_⟩⟩
 ·rw [hr]; show (M.qc8 p k).length ≤ 9223372036854775807; omega
 have hr2' : r2 = M.others (M.qc8 p k) k := by rw [hr2, hr]; rfl
 refine ⟨by rw [hr2']; exact qlZ h k, fun r3 hr3 => ?_⟩
 rw [hr3, hr2']
 exact qiX _ fun x hx => by
  obtain ⟨a, b, c, d⟩ := qeu hx
  exact qkz b a.2 c d
theorem wp.qbW.math (p : List D.Ins) (b : Int) (h : M.qeI p b) : wp.qbW p b (fun r => r = M.qbW p b) := by
 refine ⟨h, fun r hr => qa3 (fun e => ?_) fun e => ?_⟩
 ·have := nt e (show r = M.has (M.branches p) b from hr)
  simp [M.qbW, M.qjf, this]
 have e := nf e (show r = M.has (M.branches p) b from hr)
 have hB := qk2 e
 obtain ⟨n1, n2, n3, n4⟩ := qnq hB
 have hM : M.qbW p b = M.qde p b := by simp only [M.qbW, M.qjf, e, if_true]
 rw [hM]
 refine ⟨n3, fun r2 hr2 => ?_⟩
 have hnx : M.qbq p b = M.qgv (b + 1) (rd p b).B := by
  have hb := hB.2.2.2
  simp only [M.isBr, Bool.and_eq_true, beq_iff_eq] at hb
  have := hB.2.2.1
  unfold M.qbq
  rw [if_neg (by omega), if_neg (by omega), if_neg (by omega), if_pos hb.1]
 have hr2' : r2 = M.qgv (b + 1) (rd p b).B := by rw [hr2]; exact hnx
 have hlen := qje (b + 1) (rd p b).B
 rw [← hr2'] at hlen
 have hmem : ∀ x, x ∈ r2 ↔ x = b + 1 ∨ x = (rd p b).B := fun x => by rw [hr2']; exact qeX
 clear hr2 hr2' hnx
 have hall : r2.all (M.qeW p) = (M.qeW p (b + 1) && M.qeW p (rd p b).B) := by
  rw [Bool.eq_iff_iff, List.all_eq_true, Bool.and_eq_true]
  constructor
  ·exact fun hh => ⟨hh _ ((hmem _).2 (.inl rfl)), hh _ ((hmem _).2 (.inr rfl))⟩
  ·rintro ⟨a1, a2⟩ x hx
   rcases (hmem x).1 hx with rfl | rfl
   ·exact a1
   ·exact a2
 have hnode : ∀ x ∈ r2, M.Node p x := fun x hx => by rcases (hmem x).1 hx with rfl | rfl; exact n1; exact n2
 refine qdl r2.length (fun k => ((k : Int), ())) (fun k => (r2.take k).all (M.qeW p) = true) rfl (by simp) (fun k hk hF next hn => ?_) fun hF next => ?_
 ·refine qb1 (by simp; omega) ⟨by omega, hnode _ (qg7 hk), fun r3 hr3 => qa3 (fun e3 => ?_) fun e3 => ?_⟩
  ·have e3 := nt e3 (show r3 = M.qeW p (rd r2 (k : Int)) from hr3)
   have := all_false (g := M.qeW p) hk e3
   rw [hall] at this
   show _ = M.qde p b
   simp [M.qde, this]
  ·have e3 := nf e3 (show r3 = M.qeW p (rd r2 (k : Int)) from hr3)
   rw [up64 hk (by omega)]
   rw [qcJ hk] at e3
   exact hn (qha hk hF e3)
 ·refine qb8 (by simp) ⟨h, fun r3 hr3 => ?_⟩
  rw [List.take_length, hall] at hF
  rw [hr3]
  show _ = M.qde p b
  simp [M.qde, hF, M.qbJ]
theorem wp.qdb.math (l : List Bool) (h : M.qfE l) : wp.qdb l (fun r => r = M.qdb l) := qm3 h (Q := fun r => r = M.marked l) rfl
theorem wp.qbO.math (p : List D.Ins) (b : Int) (h : M.qeU p b) : wp.qbO p b (fun r => r = M.qbO p b) := by
 have hs : p.length ≤ 2097152 := h
 refine ⟨h, fun r hr => qa3 (fun e => ?_) fun e => ?_⟩
 ·have := nt e (show r = M.has (M.branches p) b from hr)
  simp [M.qbO, M.qee, this]
 have e := nf e (show r = M.has (M.branches p) b from hr)
 have hB := qk2 e
 obtain ⟨n1, n2, n3, n4⟩ := qnq hB
 have hM : M.qbO p b = M.marked (M.reached p (M.qbq p b) (M.qde p b)) := by simp only [M.qbO, M.qee, e, if_true]
 rw [hM]
 refine ⟨n3, fun r2 hr2 => ⟨h, fun r3 hr3 => ?_⟩⟩
 have hr2' : r2 = M.qbq p b := hr2
 have hr3' : r3 = M.qde p b := by rw [hr3]; simp only [M.qbW, M.qjf, e, if_true]
 rw [hr2', hr3']
 refine ⟨qkE n3, fun r4 hr4 => ⟨?_, fun r5 hr5 => ?_⟩⟩
 ·rw [hr4]; show (M.reached p (M.qbq p b) (M.qde p b)).length ≤ 17179869183; rw [qfS]; omega
 ·rw [hr5, hr4]; rfl
theorem wp.qax.math (k : Int) (p : List D.Ins) (h : M.qdk k p) : wp.qax k p (fun r => r = M.qax k p) := by
 refine qa3 (fun e => ⟨⟨h, by simpa using e⟩, ?_⟩) fun e => ?_
 ·simp only [M.qax, M.qkC, e, Bool.true_and, Bool.not_not]
 ·simp only [M.qax, M.qkC, e, Bool.false_and, Bool.not_not]
theorem qiG {α : Type} (l : List α) (g : α → Bool) : (l.any fun x => !g x) = !(l.all g) := by
 rw [List.all_eq_not_any_not, Bool.not_not]
theorem wp.qaU.math (b : Int) (p : List D.Ins) (h : M.qdw b p) : wp.qaU b p (fun r => r = M.qaU b p) := by
 have hs : p.length ≤ 2097152 := h
 have hil := qlq p b
 refine ⟨h, fun r hr => ⟨⟨?_, fun x hx => ?_⟩, fun r2 hr2 => ?_⟩⟩
 ·rw [hr]; show (M.qee p b).length ≤ 9223372036854775807; omega
 ·rw [hr] at hx; exact qlc hx
 ·rw [hr2, hr]; exact qiG _ _
theorem wp.qbg.math (p : List D.Ins) (h : M.qdf p) : wp.qbg p (fun r => r = M.qbg p) := by
 have hs : p.length ≤ 2097152 := h
 have hbl := qhN p
 refine ⟨qgN h, fun r hr => qa3 (fun e => ⟨h, fun r2 hr2 => ⟨⟨?_, fun _ _ => h⟩, fun r3 hr3 => ?_⟩⟩) fun e => ?_⟩
 all_goals have hr' : r = M.qat p := hr
 ·rw [hr2]; show (M.branches p).length ≤ 9223372036854775807; omega
 ·have e := hr'.symm.trans e
  rw [hr3, hr2]
  show (!((M.branches p).any fun b => !(M.qee p b).all (M.qkC p))) = M.qet p
  rw [qiG, Bool.not_not]
  simp only [M.qet, e, Bool.true_and]
 ·have e := hr'.symm.trans e
  simp [M.qbg, M.qet, e]
end Go.V
namespace Go.V
open IntKind (wrap)
def wp.qaA (a : D.Warp) (d : List D.Ins) (Q : (Bool × D.Warp) → Prop) : Prop :=
 qa1 (decide ((wrap .i64 ((a.Frames.length : Int) + 2)) > 24)) (Q (false, (⟨a.Number, a.Frames, a.Regs⟩ : D.Warp))) (((0 ≤ (wrap .i64 ((a.Frames.length : Int) - 1)) ∧ (wrap .i64 ((a.Frames.length : Int) - 1)) < (a.Frames.length : Int)) ∧ ((0 ≤ (rd a.Frames (wrap .i64 ((a.Frames.length : Int) - 1))).Pc ∧ (rd a.Frames (wrap .i64 ((a.Frames.length : Int) - 1))).Pc < (d.length : Int)) ∧ (M.qcl a ((rd d ((rd a.Frames (wrap .i64 ((a.Frames.length : Int) - 1))).Pc)).A) ∧ ∀ c, c = M.qaz a ((rd d ((rd a.Frames (wrap .i64 ((a.Frames.length : Int) - 1))).Pc)).A) → (M.qeI d ((rd a.Frames (wrap .i64 ((a.Frames.length : Int) - 1))).Pc) ∧ ∀ b, b = M.qbW d ((rd a.Frames (wrap .i64 ((a.Frames.length : Int) - 1))).Pc) → ((0 ≤ (rd a.Frames (wrap .i64 ((a.Frames.length : Int) - 1))).Pc ∧ (rd a.Frames (wrap .i64 ((a.Frames.length : Int) - 1))).Pc < (d.length : Int)) ∧ (((((List.set a.Frames ((wrap .i64 ((a.Frames.length : Int) - 1)).toNat) (⟨b, (rd a.Frames (wrap .i64 ((a.Frames.length : Int) - 1))).Stop, (rd a.Frames (wrap .i64 ((a.Frames.length : Int) - 1))).Mask⟩ : D.Frame)).length + ([(⟨(wrap .i64 ((rd a.Frames (wrap .i64 ((a.Frames.length : Int) - 1))).Pc + 1)), b, (qdK .i64 ((rd a.Frames (wrap .i64 ((a.Frames.length : Int) - 1))).Mask) c)⟩ : D.Frame), (⟨(rd d ((rd a.Frames (wrap .i64 ((a.Frames.length : Int) - 1))).Pc)).B, b, c⟩ : D.Frame)] : List D.Frame).length ≤ 17179869184) ∧ Q (true, (⟨a.Number, ((List.set a.Frames ((wrap .i64 ((a.Frames.length : Int) - 1)).toNat) (⟨b, (rd a.Frames (wrap .i64 ((a.Frames.length : Int) - 1))).Stop, (rd a.Frames (wrap .i64 ((a.Frames.length : Int) - 1))).Mask⟩ : D.Frame)) ++ ([(⟨(wrap .i64 ((rd a.Frames (wrap .i64 ((a.Frames.length : Int) - 1))).Pc + 1)), b, (qdK .i64 ((rd a.Frames (wrap .i64 ((a.Frames.length : Int) - 1))).Mask) c)⟩ : D.Frame), (⟨(rd d ((rd a.Frames (wrap .i64 ((a.Frames.length : Int) - 1))).Pc)).B, b, c⟩ : D.Frame)] : List D.Frame)), a.Regs⟩ : D.Warp)))) ∧ ((((((List.set a.Frames ((wrap .i64 ((a.Frames.length : Int) - 1)).toNat) (⟨b, (rd a.Frames (wrap .i64 ((a.Frames.length : Int) - 1))).Stop, (rd a.Frames (wrap .i64 ((a.Frames.length : Int) - 1))).Mask⟩ : D.Frame)).length + ([(⟨(wrap .i64 ((rd a.Frames (wrap .i64 ((a.Frames.length : Int) - 1))).Pc + 1)), b, (qdK .i64 ((rd a.Frames (wrap .i64 ((a.Frames.length : Int) - 1))).Mask) c)⟩ : D.Frame), (⟨(rd d ((rd a.Frames (wrap .i64 ((a.Frames.length : Int) - 1))).Pc)).B, b, c⟩ : D.Frame)] : List D.Frame).length ≤ 17179869184) ∧ Q (true, (⟨a.Number, ((List.set a.Frames ((wrap .i64 ((a.Frames.length : Int) - 1)).toNat) (⟨b, (rd a.Frames (wrap .i64 ((a.Frames.length : Int) - 1))).Stop, (rd a.Frames (wrap .i64 ((a.Frames.length : Int) - 1))).Mask⟩ : D.Frame)) ++ ([(⟨(wrap .i64 ((rd a.Frames (wrap .i64 ((a.Frames.length : Int) - 1))).Pc + 1)), b, (qdK .i64 ((rd a.Frames (wrap .i64 ((a.Frames.length : Int) - 1))).Mask) c)⟩ : D.Frame), (⟨(rd d ((rd a.Frames (wrap .i64 ((a.Frames.length : Int) - 1))).Pc)).B, b, c⟩ : D.Frame)] : List D.Frame)), a.Regs⟩ : D.Warp)))) ∧ ((((List.set a.Frames ((wrap .i64 ((a.Frames.length : Int) - 1)).toNat) (⟨b, (rd a.Frames (wrap .i64 ((a.Frames.length : Int) - 1))).Stop, (rd a.Frames (wrap .i64 ((a.Frames.length : Int) - 1))).Mask⟩ : D.Frame)).length + ([(⟨(wrap .i64 ((rd a.Frames (wrap .i64 ((a.Frames.length : Int) - 1))).Pc + 1)), b, (qdK .i64 ((rd a.Frames (wrap .i64 ((a.Frames.length : Int) - 1))).Mask) c)⟩ : D.Frame), (⟨(rd d ((rd a.Frames (wrap .i64 ((a.Frames.length : Int) - 1))).Pc)).B, b, c⟩ : D.Frame)] : List D.Frame).length ≤ 17179869184) ∧ Q (true, (⟨a.Number, ((List.set a.Frames ((wrap .i64 ((a.Frames.length : Int) - 1)).toNat) (⟨b, (rd a.Frames (wrap .i64 ((a.Frames.length : Int) - 1))).Stop, (rd a.Frames (wrap .i64 ((a.Frames.length : Int) - 1))).Mask⟩ : D.Frame)) ++ ([(⟨(wrap .i64 ((rd a.Frames (wrap .i64 ((a.Frames.length : Int) - 1))).Pc + 1)), b, (qdK .i64 ((rd a.Frames (wrap .i64 ((a.Frames.length : Int) - 1))).Mask) c)⟩ : D.Frame), (⟨(rd d ((rd a.Frames (wrap .i64 ((a.Frames.length : Int) - 1))).Pc)).B, b, c⟩ : D.Frame)] : List D.Frame)), a.Regs⟩ : D.Warp)))) ∧ True)) ∧ True)))))))
def wp.qaP (a : D.Ins) (i : Int) (b : List Int) (c d : Nat) (Q : ((List Int)) → Prop) : Prop :=
 qa1 (a.Op == 1) (((0 ≤ a.A ∧ a.A < ((List.drop c (List.take d b)).length : Int)) ∧ Q (List.set b (c + (a.A.toNat)) a.B))) (qa1 (a.Op == 2) (((0 ≤ a.B ∧ a.B < ((List.drop c (List.take d b)).length : Int)) ∧ ((0 ≤ a.A ∧ a.A < ((List.drop c (List.take d b)).length : Int)) ∧ Q (List.set b (c + (a.A.toNat)) (rd (List.drop c (List.take d b)) a.B))))) (qa1 (a.Op == 3) (((0 ≤ a.B ∧ a.B < ((List.drop c (List.take d b)).length : Int)) ∧ ((0 ≤ a.C ∧ a.C < ((List.drop c (List.take d b)).length : Int)) ∧ (∀ e, e = M.qbG (rd (List.drop c (List.take d b)) a.B) (rd (List.drop c (List.take d b)) a.C) → ((0 ≤ a.A ∧ a.A < ((List.drop c (List.take d b)).length : Int)) ∧ Q (List.set b (c + (a.A.toNat)) e)))))) (qa1 (a.Op == 4) (((0 ≤ a.B ∧ a.B < ((List.drop c (List.take d b)).length : Int)) ∧ ((0 ≤ a.C ∧ a.C < ((List.drop c (List.take d b)).length : Int)) ∧ (∀ f, f = M.qc7 (rd (List.drop c (List.take d b)) a.B) (rd (List.drop c (List.take d b)) a.C) → ((0 ≤ a.A ∧ a.A < ((List.drop c (List.take d b)).length : Int)) ∧ Q (List.set b (c + (a.A.toNat)) f)))))) (qa1 (a.Op == 5) (((0 ≤ a.B ∧ a.B < ((List.drop c (List.take d b)).length : Int)) ∧ ((0 ≤ a.C ∧ a.C < ((List.drop c (List.take d b)).length : Int)) ∧ (∀ g, g = M.qbY (rd (List.drop c (List.take d b)) a.B) (rd (List.drop c (List.take d b)) a.C) → ((0 ≤ a.A ∧ a.A < ((List.drop c (List.take d b)).length : Int)) ∧ Q (List.set b (c + (a.A.toNat)) g)))))) (qa1 (a.Op == 6) (((0 ≤ a.B ∧ a.B < ((List.drop c (List.take d b)).length : Int)) ∧ ((0 ≤ a.C ∧ a.C < ((List.drop c (List.take d b)).length : Int)) ∧ ((0 ≤ a.A ∧ a.A < ((List.drop c (List.take d b)).length : Int)) ∧ Q (List.set b (c + (a.A.toNat)) (qg8 .i64 (rd (List.drop c (List.take d b)) a.B) (rd (List.drop c (List.take d b)) a.C))))))) (qa1 (a.Op == 7) (((0 ≤ a.B ∧ a.B < ((List.drop c (List.take d b)).length : Int)) ∧ ((0 ≤ a.C ∧ a.C < ((List.drop c (List.take d b)).length : Int)) ∧ (∀ h, h = M.qbT (rd (List.drop c (List.take d b)) a.B) (rd (List.drop c (List.take d b)) a.C) → ((0 ≤ a.A ∧ a.A < ((List.drop c (List.take d b)).length : Int)) ∧ Q (List.set b (c + (a.A.toNat)) h)))))) (qa1 (a.Op == 8) (((0 ≤ a.A ∧ a.A < ((List.drop c (List.take d b)).length : Int)) ∧ Q (List.set b (c + (a.A.toNat)) i))) (qa1 (a.Op == 9) (((0 ≤ a.C ∧ a.C < ((List.drop c (List.take d b)).length : Int)) ∧ qa1 ((rd (List.drop c (List.take d b)) a.C) != 0) (((0 ≤ a.B ∧ a.B < ((List.drop c (List.take d b)).length : Int)) ∧ ((0 ≤ a.A ∧ a.A < ((List.drop c (List.take d b)).length : Int)) ∧ Q (List.set b (c + (a.A.toNat)) (rd (List.drop c (List.take d b)) a.B))))) (Q b))) (Q b)))))))))
def wp.qaV (a : D.Warp) (c : List D.Ins) (Q : D.Warp → Prop) : Prop :=
 ((0 ≤ (wrap .i64 ((a.Frames.length : Int) - 1)) ∧ (wrap .i64 ((a.Frames.length : Int) - 1)) < (a.Frames.length : Int)) ∧ ((0 ≤ (rd a.Frames (wrap .i64 ((a.Frames.length : Int) - 1))).Pc ∧ (rd a.Frames (wrap .i64 ((a.Frames.length : Int) - 1))).Pc < (c.length : Int)) ∧ (∀ d, d = M.qbM ((rd a.Frames (wrap .i64 ((a.Frames.length : Int) - 1))).Mask) → qdd (σ := Int × (List Int) × Unit) (fun (i : Int × (List Int) × Unit) j => match i with | (b, e, _) => qa1 (decide (b < (d.length : Int))) (((0 ≤ b ∧ b < (d.length : Int)) ∧ (M.qdc (⟨a.Number, a.Frames, e⟩ : D.Warp) (rd d b) ∧ (M.qfd (rd c ((rd a.Frames (wrap .i64 ((a.Frames.length : Int) - 1))).Pc)) (wrap .i64 ((wrap .i64 (a.Number * 8)) + (rd d b))) e ((wrap .i64 ((rd d b) * 4)).toNat) ((wrap .i64 ((wrap .i64 ((rd d b) + 1)) * 4)).toNat) ∧ ∀ g, g = M.qaP (rd c ((rd a.Frames (wrap .i64 ((a.Frames.length : Int) - 1))).Pc)) (wrap .i64 ((wrap .i64 (a.Number * 8)) + (rd d b))) e ((wrap .i64 ((rd d b) * 4)).toNat) ((wrap .i64 ((wrap .i64 ((rd d b) + 1)) * 4)).toNat) → j ((wrap .i64 (b + 1)), g, ()))))) (qa1 ((rd c ((rd a.Frames (wrap .i64 ((a.Frames.length : Int) - 1))).Pc)).Op == 12) (Q (⟨a.Number, (List.set a.Frames ((wrap .i64 ((a.Frames.length : Int) - 1)).toNat) (⟨(c.length : Int), (rd a.Frames (wrap .i64 ((a.Frames.length : Int) - 1))).Stop, (rd a.Frames (wrap .i64 ((a.Frames.length : Int) - 1))).Mask⟩ : D.Frame)), e⟩ : D.Warp)) (qfQ (σ := Bool × Unit) (fun f => qa1 ((rd c ((rd a.Frames (wrap .i64 ((a.Frames.length : Int) - 1))).Pc)).Op == 11) (f (true, ())) (qa1 ((rd c ((rd a.Frames (wrap .i64 ((a.Frames.length : Int) - 1))).Pc)).Op == 10) ((M.qcl (⟨a.Number, a.Frames, e⟩ : D.Warp) ((rd c ((rd a.Frames (wrap .i64 ((a.Frames.length : Int) - 1))).Pc)).A) ∧ ∀ h, h = M.qaz (⟨a.Number, a.Frames, e⟩ : D.Warp) ((rd c ((rd a.Frames (wrap .i64 ((a.Frames.length : Int) - 1))).Pc)).A) → f ((h == (rd a.Frames (wrap .i64 ((a.Frames.length : Int) - 1))).Mask), ()))) (f (false, ())))) (fun (k : Bool × Unit) => match k with | (l, _) => qa1 l (Q (⟨a.Number, (List.set a.Frames ((wrap .i64 ((a.Frames.length : Int) - 1)).toNat) (⟨(rd c ((rd a.Frames (wrap .i64 ((a.Frames.length : Int) - 1))).Pc)).B, (rd a.Frames (wrap .i64 ((a.Frames.length : Int) - 1))).Stop, (rd a.Frames (wrap .i64 ((a.Frames.length : Int) - 1))).Mask⟩ : D.Frame)), e⟩ : D.Warp)) (Q (⟨a.Number, (List.set a.Frames ((wrap .i64 ((a.Frames.length : Int) - 1)).toNat) (⟨(wrap .i64 ((rd a.Frames (wrap .i64 ((a.Frames.length : Int) - 1))).Pc + 1)), (rd a.Frames (wrap .i64 ((a.Frames.length : Int) - 1))).Stop, (rd a.Frames (wrap .i64 ((a.Frames.length : Int) - 1))).Mask⟩ : D.Frame)), e⟩ : D.Warp)))))) (0, a.Regs, ()))))
def wp.qbd (b : D.Warp) (e : Int) (Q : D.Warp → Prop) : Prop :=
 qdd (σ := Int × (List D.Frame) × Unit) (fun (f : Int × (List D.Frame) × Unit) g => match f with | (c, a, _) => qa1 (decide ((a.length : Int) > 0)) (((0 ≤ (wrap .i64 ((a.length : Int) - 1)) ∧ (wrap .i64 ((a.length : Int) - 1)) < (a.length : Int)) ∧ qfQ (σ := Unit) (fun d => qa1 ((rd a (wrap .i64 ((a.length : Int) - 1))).Pc != (rd a (wrap .i64 ((a.length : Int) - 1))).Stop) (qa1 ((rd a (wrap .i64 ((a.length : Int) - 1))).Pc != e) (Q (⟨c, a, b.Regs⟩ : D.Warp)) (d (()))) (d (()))) (fun (h : Unit) => match h with | (_) => ((0 ≤ (wrap .i64 ((a.length : Int) - 1)) ∧ (wrap .i64 ((a.length : Int) - 1)) ≤ (a.length : Int)) ∧ g (c, (List.take ((wrap .i64 ((a.length : Int) - 1)).toNat) a), ()))))) (Q (⟨c, a, b.Regs⟩ : D.Warp))) (b.Number, b.Frames, ())
def wp.qaZ (a : D.Warp) (b : List D.Ins) (Q : (Bool × D.Warp) → Prop) : Prop :=
 qa1 ((a.Frames.length : Int) == 0) (Q (false, (⟨a.Number, a.Frames, a.Regs⟩ : D.Warp))) (((0 ≤ (wrap .i64 ((a.Frames.length : Int) - 1)) ∧ (wrap .i64 ((a.Frames.length : Int) - 1)) < (a.Frames.length : Int)) ∧ ((0 ≤ (rd a.Frames (wrap .i64 ((a.Frames.length : Int) - 1))).Pc ∧ (rd a.Frames (wrap .i64 ((a.Frames.length : Int) - 1))).Pc < (b.length : Int)) ∧ (∀ g, g = M.qbU (rd b ((rd a.Frames (wrap .i64 ((a.Frames.length : Int) - 1))).Pc)) → qa1 (!g) (Q (false, (⟨a.Number, a.Frames, a.Regs⟩ : D.Warp))) ((M.qdn a b ∧ ∀ h, h = M.qaK a b → qa1 h ((M.qdN a b ∧ ∀ c, c = M.qaA a b → qa1 (!c.1) (Q (false, (⟨c.2.Number, c.2.Frames, a.Regs⟩ : D.Warp))) ((M.qdh (⟨c.2.Number, c.2.Frames, a.Regs⟩ : D.Warp) (b.length : Int) ∧ ∀ e, e = M.qbd (⟨c.2.Number, c.2.Frames, a.Regs⟩ : D.Warp) (b.length : Int) → Q (true, (⟨e.Number, e.Frames, a.Regs⟩ : D.Warp)))))) ((M.qdR a b ∧ ∀ d, d = M.qaV a b → (M.qdh d (b.length : Int) ∧ ∀ f, f = M.qbd d (b.length : Int) → Q (true, (⟨f.Number, f.Frames, d.Regs⟩ : D.Warp)))))))))))
end Go.V
namespace Go.V
open IntKind (wrap)
theorem qfo {p : List D.Ins} {k later : Int} (h : M.Node p k) : M.qdP p k later = true ↔ ¬ Rch p later [k] (p.length : Int) := by
 have hn : M.qcO p (p.length : Int) := ⟨by omega, by omega⟩
 have := qdx (wo := later) h.1 (fun x hx => by obtain rfl := List.mem_singleton.1 hx; exact h.2) hn
 unfold M.qdP
 rw [← this]
 cases rd (M.reached p [k] later) (p.length : Int) <;> simp
theorem qja {p : List D.Ins} {all : List Int} : ∀ (l : List Int), (∃ x ∈ l, all.all (M.qdP p x) = true) → M.qgu p all l ∈ l ∧ all.all (M.qdP p (M.qgu p all l)) = true
 | [], h => by obtain ⟨x, hx, _⟩ := h; cases hx
 | y :: l, h => by
  by_cases hy : all.all (M.qdP p y) = true
  ·simp only [M.qgu, hy, if_true]; exact ⟨List.mem_cons_self, trivial⟩
  ·have : ∃ x ∈ l, all.all (M.qdP p x) = true := by
     obtain ⟨x, hx, hg⟩ := h
     rcases List.mem_cons.1 hx with rfl | hx
     ·exact absurd hg hy
     ·exact ⟨x, hx, hg⟩
   have ih := qja l this
   simp only [M.qgu, hy]
   exact ⟨List.mem_cons_of_mem _ ih.1, ih.2⟩
theorem qhu {p : List D.Ins} {y b : Int} {v : Int} (h : Rch p y [b] v) {x : Int} (hx : Rch p y [v] x) : Rch p y [b] x := by
 induction hx with
 | base hs hne => obtain rfl := List.mem_singleton.1 hs; exact h
 | step _ hs hne ih => exact .step ih hs hne
theorem qkT {p : List D.Ins} {b : Int} (hb : M.Node p b) (hbn : b ≠ (p.length : Int)) (he : M.qeW p b = true) : M.qfq p b ∈ M.others (M.qc8 p b) b := by
 have hn : M.qcO p (p.length : Int) := ⟨by omega, by omega⟩
 have hR := (qdx hb.1 (fun x hx => by obtain rfl := List.mem_singleton.1 hx; exact hb.2) hn).1 he
 have hmem : ∀ x, M.qcO p x → x ≠ b → M.qdP p b x = true → x ∈ M.others (M.qc8 p b) b := by
  intro x hx hxb ha
  unfold M.others M.qc8
  rw [if_pos (by simp only [Bool.and_eq_true]; exact ⟨qfp.2 hb, he⟩)]
  refine List.mem_filter.2 ⟨qfY.2 ⟨x.toNat, by unfold M.qcO at hx; omega, by unfold M.qcO at hx; omega, ha⟩, by simpa using hxb⟩
 refine (qja _ ?_).1
 have good : ∀ x ∈ M.others (M.qc8 p b) b, ∀ v, (∀ y ∈ M.others (M.qc8 p b) b, Rch p y [b] v) → x ∈ M.qbq p v → (M.others (M.qc8 p b) b).all (M.qdP p x) = true := by
  intro x hx v hv hvx
  rw [List.all_eq_true]
  intro y hy
  obtain ⟨hxN, _, _, _⟩ := qeu hx
  obtain ⟨hyN, _, _, hya⟩ := qeu hy
  rw [qfo hxN]
  intro hr
  refine (qfo hb).1 hya ?_
  have hxy : x ≠ y := by
   rintro rfl
   have : ∀ z, Rch p x [x] z → False := fun z hz => by
    induction hz with
    | base hs hne => exact hne (List.mem_singleton.1 hs)
    | step _ _ _ ih => exact ih
   exact this _ hr
  exact qhu (.step (hv y hy) hvx hxy) hr
 have hbL : ∀ y ∈ M.others (M.qc8 p b) b, b ≠ y := fun y hy e => by
  have := (List.mem_filter.1 hy).2
  simp [e] at this
 have key : ∀ v, Rch p (-1) [b] v → (∃ x ∈ M.others (M.qc8 p b) b, (M.others (M.qc8 p b) b).all (M.qdP p x) = true) ∨ (v ∉ M.others (M.qc8 p b) b ∧ ∀ y ∈ M.others (M.qc8 p b) b, Rch p y [b] v) := by
  intro v hv
  induction hv with
  | base hs hne =>
   obtain rfl := List.mem_singleton.1 hs
   exact .inr ⟨fun h => hbL _ h rfl, fun y hy => .base (List.mem_singleton.2 rfl) (hbL y hy)⟩
  | @step k s _ hs hne ih =>
   rcases ih with ih | ⟨_, ih⟩
   ·exact .inl ih
   ·by_cases hsL : s ∈ M.others (M.qc8 p b) b
    ·exact .inl ⟨s, hsL, good s hsL k ih hs⟩
    ·exact .inr ⟨hsL, fun y hy => .step (ih y hy) hs (fun e => hsL (e ▸ hy))⟩
 rcases key _ hR with h | ⟨h, _⟩
 ·exact h
 ·refine absurd (hmem _ hn (Ne.symm hbn) ((qfo hb).2 fun hr => ?_)) h
  have : ∀ z, Rch p (p.length : Int) [b] z → z ≠ (p.length : Int) := fun z hz => by
   cases hz with
   | base _ hne => exact hne
   | step _ _ hne => exact hne
  exact this _ hr rfl
theorem qng {p : List D.Ins} {b : Int} (h : M.Branch p b) : M.qcO p (M.qde p b) := by
 obtain ⟨h1, h2, hb, _⟩ := qnq h
 have hn : M.qcO p (p.length : Int) := ⟨by omega, by omega⟩
 unfold M.qde
 split
 ·rename_i e
  simp only [Bool.and_eq_true] at e
  have hx1 := (qdx hb.1 (fun x hx => by obtain rfl := List.mem_singleton.1 hx; exact h1.2) hn).1 e.1
  have hbr := h.2.2.2
  simp only [M.isBr, Bool.and_eq_true, beq_iff_eq, bne_iff_ne] at hbr
  have hnx : b + 1 ∈ M.qbq p b := by
   unfold M.qbq
   have := h.2.2.1
   rw [if_neg (by omega), if_neg (by omega), if_neg (by omega), if_pos hbr.1]
   exact qeX.2 (.inl rfl)
  have he : M.qeW p b = true := by
   refine (qdx hb.1 (fun x hx => by obtain rfl := List.mem_singleton.1 hx; exact hb.2) hn).2 ?_
   have hb0 := h.2.1
   exact qhu (b := b) (y := -1) (.step (.base (List.mem_singleton.2 rfl) (by omega)) hnx (by omega)) hx1
  exact (qeu (qkT hb (by have := h.2.2.1; omega) he)).1.2
 ·exact hn
theorem qjM : ((List.range 256).all fun m => (List.range 256).all fun z => !(m &&& z == z) || (m &&& (2 ^ 64 - 1 - z) == m - z)) = true := by kernel_rfl
theorem qle : ((List.range 256).all fun m => (List.range 8).all fun l => !(M.qaB ((m : Nat) : Int) ((l : Nat) : Int)) || (m &&& 2 ^ l == 2 ^ l)) = true := by kernel_rfl
theorem qjT : ((List.range 8).all fun l => M.qi8 ((l : Nat) : Int) == ((2 ^ l : Nat) : Int)) = true := by kernel_rfl
theorem qk5 {a b : Nat} (ha : a < 256) (hb : b < 256) : qgD .i64 ((a : Nat) : Int) ((b : Nat) : Int) = ((a ||| b : Nat) : Int) := by
 have hlt : a ||| b < 256 := Nat.or_lt_two_pow (n := 8) ha hb
 have e : (BitVec.ofInt (IntKind.bits .i64) ((a : Nat) : Int) ||| BitVec.ofInt (IntKind.bits .i64) ((b : Nat) : Int)).toNat = a ||| b := by
  show (BitVec.ofInt 64 ((a : Nat) : Int) ||| BitVec.ofInt 64 ((b : Nat) : Int)).toNat = a ||| b
  rw [BitVec.ofInt_natCast, BitVec.ofInt_natCast, BitVec.toNat_or, BitVec.toNat_ofNat, BitVec.toNat_ofNat, Nat.mod_eq_of_lt (by omega), Nat.mod_eq_of_lt (by omega)]
 unfold qgD
 rw [e]
 exact w64 (by omega) (by omega)
theorem qjd {a b : Nat} (ha : a < 256) (hb : b < 256) (hs : a &&& b = b) : qdK .i64 ((a : Nat) : Int) ((b : Nat) : Int) = ((a - b : Nat) : Int) := by
 have hc := List.all_eq_true.1 (List.all_eq_true.1 qjM a (List.mem_range.2 ha)) b (List.mem_range.2 hb)
 simp only [hs, BEq.rfl, Bool.not_true, Bool.false_or, beq_iff_eq] at hc
 have e : (BitVec.ofInt (IntKind.bits .i64) ((a : Nat) : Int) &&& ~~~(BitVec.ofInt (IntKind.bits .i64) ((b : Nat) : Int))).toNat = a - b := by
  show (BitVec.ofInt 64 ((a : Nat) : Int) &&& ~~~(BitVec.ofInt 64 ((b : Nat) : Int))).toNat = a - b
  rw [BitVec.ofInt_natCast, BitVec.ofInt_natCast, BitVec.toNat_and, BitVec.toNat_not, BitVec.toNat_ofNat, BitVec.toNat_ofNat, Nat.mod_eq_of_lt (by omega), Nat.mod_eq_of_lt (by omega)]
  exact hc
 unfold qdK
 rw [e]
 exact w64 (by omega) (by omega)
theorem qgw {m : Int} (h : M.qeL m = true) : ∃ k : Nat, m = (k : Int) ∧ k < 256 := by
 simp only [M.qeL, M.isIn, Bool.and_eq_true, decide_eq_true_eq] at h
 exact ⟨m.toNat, by omega, by omega⟩
theorem qiF {x : D.Warp} {reg : Int} {m : Nat} (hm : m < 256) : ∀ (l : List Int), (∀ k ∈ l, k ∈ M.qdX (m : Int)) → ∀ z : Nat, z < 256 → m &&& z = z → ∃ z' : Nat, l.foldl (M.qdA x reg) (z : Int) = (z' : Int) ∧ z' < 256 ∧ m &&& z' = z'
 | [], _, z, hz, hs => ⟨z, rfl, hz, hs⟩
 | k :: l, hl, z, hz, hs => by
  have hk := hl k List.mem_cons_self
  have hrest := fun j hj => hl j (List.mem_cons_of_mem _ hj)
  simp only [List.foldl_cons]
  by_cases e : rd x.Regs (k * 4 + reg) = 0
  ·obtain ⟨h0, h7⟩ := qhc hk
   have hkn : ((k.toNat : Nat) : Int) = k := by omega
   have hh : M.qaB (m : Int) k = true := (List.mem_filter.1 hk).2
   have hc := List.all_eq_true.1 (List.all_eq_true.1 qle m (List.mem_range.2 hm)) k.toNat (List.mem_range.2 (by omega))
   rw [hkn, hh] at hc
   simp only [Bool.not_true, Bool.false_or, beq_iff_eq] at hc
   have hb := List.all_eq_true.1 qjT k.toNat (List.mem_range.2 (by omega))
   rw [hkn] at hb
   have hb := eq_of_beq hb
   have hp : 2 ^ k.toNat < 256 := Nat.lt_of_lt_of_le (Nat.pow_lt_pow_right (by omega) (show k.toNat < 8 by omega)) (Nat.le_refl _)
   have hst : M.qdA x reg (z : Int) k = ((z ||| 2 ^ k.toNat : Nat) : Int) := by
    unfold M.qdA
    rw [if_pos e, hb, qk5 hz hp]
   rw [hst]
   exact qiF hm l hrest _ (Nat.or_lt_two_pow (n := 8) hz hp) (by rw [Nat.and_or_distrib_left, hs, hc])
  ·have hst : M.qdA x reg (z : Int) k = (z : Int) := by unfold M.qdA; rw [if_neg e]
   rw [hst]
   exact qiF hm l hrest z hz hs
theorem qhC {x : D.Warp} {reg : Int} (h : M.qeL (M.qbb x) = true) : ∃ m z : Nat, M.qbb x = (m : Int) ∧ M.qbE x reg = (z : Int) ∧ m < 256 ∧ z < 256 ∧ m &&& z = z := by
 obtain ⟨m, hm, hlt⟩ := qgw h
 obtain ⟨z, hz, hzl, hs⟩ := qiF (x := x) (reg := reg) hlt (M.qdX (m : Int)) (fun _ hk => hk) 0 (by omega) (by simp)
 refine ⟨m, z, hm, ?_, hlt, hzl, hs⟩
 unfold M.qbE
 rw [hm]
 exact hz
theorem qiB {x : D.Warp} {reg : Int} (h : M.qeL (M.qbb x) = true) :
    M.qeL (M.qbE x reg) = true ∧ qdK .i64 (M.qbb x) (M.qbE x reg) = M.qbb x - M.qbE x reg ∧ M.qeL (M.qbb x - M.qbE x reg) = true := by
 obtain ⟨m, z, hm, hz, h1, h2, hs⟩ := qhC (reg := reg) h
 have hle : z ≤ m := by rw [← hs]; exact Nat.and_le_left
 rw [hm, hz, qjd h1 h2 hs]
 refine ⟨?_, by omega, ?_⟩ <;> (simp only [M.qeL, M.isIn, Bool.and_eq_true, decide_eq_true_eq]; omega)
end Go.V
namespace Go.V
open IntKind (wrap)
theorem qkO {α : Type} [Inhabited α] {l : List α} {k m : Nat} (h : k < m) : rd (l.take m) (k : Int) = rd l (k : Int) := by
 unfold rd
 rw [List.getD_eq_getElem?_getD, List.getD_eq_getElem?_getD, List.getElem?_take, if_pos (by simpa using h)]
theorem qli {α : Type} {l : List α} {k m : Nat} (h : k ≤ m) : (l.take m).take k = l.take k := by rw [List.take_take, Nat.min_eq_left h]
theorem wp.qbd.math (x : D.Warp) (n : Int) (h : M.qdh x n) : wp.qbd x n (fun r => r = M.qbd x n) := by
 unfold wp.qbd
 have hL : x.Frames.length ≤ 9223372036854775807 := h
 refine qdl x.Frames.length (fun j => (x.Number, x.Frames.take (x.Frames.length - j), ())) (fun j => M.qlj x.Frames n = M.qhx x.Frames n (x.Frames.length - j)) (by simp) (by simp [M.qlj]) (fun j hj hF next hn => ?_) (fun hF next => ?_)
 ·obtain ⟨m, hm⟩ : ∃ m, x.Frames.length - j = m + 1 := ⟨x.Frames.length - j - 1, by omega⟩
  have hm1 : x.Frames.length - (j + 1) = m := by omega
  rw [hm1] at hn
  rw [hm] at hF
  dsimp only
  rw [hm]
  have hl : (x.Frames.take (m + 1)).length = m + 1 := by rw [List.length_take]; omega
  rw [hl, qdH (by omega), show (((m + 1 : Nat) : Int) - 1) = (m : Int) by omega, qkO (Nat.lt_succ_self m), qli (by omega)]
  refine qb1 (by simp) ⟨by omega, ?_⟩
  show qa1 _ (qa1 _ _ _) _
  have go : ¬ ((rd x.Frames (m : Int)).Pc ≠ (rd x.Frames (m : Int)).Stop ∧ (rd x.Frames (m : Int)).Pc ≠ n) → next (x.Number, x.Frames.take m, ()) := fun hc => hn (by rw [hF]; simp only [M.qhx]; rw [if_neg hc])
  refine qa3 (fun e1 => qa3 (fun e2 => ?_) fun e2 => ?_) fun e1 => ?_
  ·simp only [M.qhx] at hF
   rw [if_pos ⟨by simpa using e1, by simpa using e2⟩] at hF
   show _ = M.qgG x n
   unfold M.qgG
   rw [hF]
  ·have := go (fun hc => hc.2 (by simpa using e2))
   exact ⟨by omega, this⟩
  ·have := go (fun hc => hc.1 (by simpa using e1))
   exact ⟨by omega, this⟩
 ·rw [Nat.sub_self] at hF
  dsimp only
  rw [Nat.sub_self, List.take_zero]
  refine qb8 (by simp) ?_
  show _ = M.qgG x n
  unfold M.qgG
  rw [hF]; rfl
theorem qnA {α : Type} {xs : List α} {lo hi k : Nat} {y : α} (h1 : lo ≤ hi) (h2 : hi ≤ xs.length) (hk : k < hi - lo) : xs.set (lo + k) y = xs.take lo ++ ((xs.take hi).drop lo).set k y ++ xs.drop hi := by
 apply List.ext_getElem?
 intro i
 have hl : (((xs.take hi).drop lo).set k y).length = hi - lo := by simp; omega
 rw [List.getElem?_append, List.length_append, hl, List.length_take, Nat.min_eq_left (by omega), List.getElem?_append, List.length_take, Nat.min_eq_left (by omega)]
 by_cases hi1 : i < lo
 ·rw [if_pos (by omega), if_pos hi1, List.getElem?_set_ne (by omega), List.getElem?_take, if_pos hi1]
 ·by_cases hi2 : i < hi
  ·rw [if_pos (by omega), if_neg hi1]
   by_cases e : lo + k = i
   ·subst e
    rw [List.getElem?_set_self (by omega), show lo + k - lo = k by omega, List.getElem?_set_self (by simp; omega)]
   ·rw [List.getElem?_set_ne e, List.getElem?_set_ne (by omega), List.getElem?_drop, List.getElem?_take, if_pos (by omega)]
    congr 1; omega
  ·rw [if_neg (by omega), List.getElem?_set_ne (by omega), List.getElem?_drop]
   congr 1; omega
theorem qmN {α : Type} {xs : List α} {lo hi : Nat} (h1 : lo ≤ hi) (h2 : hi ≤ xs.length) : xs.take lo ++ (xs.take hi).drop lo ++ xs.drop hi = xs := by
 apply List.ext_getElem?
 intro i
 have hl : ((xs.take hi).drop lo).length = hi - lo := by simp; omega
 rw [List.getElem?_append, List.length_append, hl, List.length_take, Nat.min_eq_left (by omega), List.getElem?_append, List.length_take, Nat.min_eq_left (by omega)]
 by_cases hi1 : i < lo
 ·rw [if_pos (by omega), if_pos hi1, List.getElem?_take, if_pos hi1]
 ·by_cases hi2 : i < hi
  ·rw [if_pos (by omega), if_neg hi1, List.getElem?_drop, List.getElem?_take, if_pos (by omega)]
   congr 1; omega
  ·rw [if_neg (by omega), List.getElem?_drop]
   congr 1; omega
theorem wp.qaP.math (i : D.Ins) (t : Int) (xs : List Int) (lo hi : Nat) (h : M.qfd i t xs lo hi) : wp.qaP i t xs lo hi (fun x => x = M.qaP i t xs lo hi) := by
 obtain ⟨hf, h1, h2⟩ := h
 obtain ⟨hl, hA, hB, hC⟩ := qkj hf
 have hl4 : hi - lo = 4 := by rw [← hl]; simp; omega
 have st : ∀ y, (0 ≤ i.A ∧ i.A ≤ 3) → xs.set (lo + i.A.toNat) y = xs.take lo ++ ((xs.take hi).drop lo).set i.A.toNat y ++ xs.drop hi := fun y ha => qnA h1 h2 (by omega)
 have sf := qmN h1 h2
 generalize hr : (xs.take hi).drop lo = r at *
 unfold wp.qaP
 simp only [hr, forall_eq]
 refine qa3 (fun e => ?_) fun n1 => qa3 (fun e => ?_) fun n2 => qa3 (fun e => ?_) fun n3 => qa3 (fun e => ?_) fun n4 => qa3 (fun e => ?_) fun n5 => qa3 (fun e => ?_) fun n6 => qa3 (fun e => ?_) fun n7 => qa3 (fun e => ?_) fun n8 => qa3 (fun e => ?_) fun n9 => ?_
 ·have hk : i.Op = 1 := by simpa using e
  exact ⟨qe5 hl (hA (by omega)), by rw [st _ (hA (by omega))]; simp [M.qaP, M.apply, hk, hr]⟩
 ·have hk : i.Op = 2 := by simpa using e
  exact ⟨qe5 hl (hB (by omega)), qe5 hl (hA (by omega)), by rw [st _ (hA (by omega))]; simp [M.qaP, M.apply, hk, hr]⟩
 ·have hk : i.Op = 3 := by simpa using e
  exact ⟨qe5 hl (hB (by omega)), qe5 hl (hC (by omega)), qe5 hl (hA (by omega)), by rw [st _ (hA (by omega))]; simp [M.qaP, M.apply, hk, hr, M.qjx, M.qbG]⟩
 ·have hk : i.Op = 4 := by simpa using e
  exact ⟨qe5 hl (hB (by omega)), qe5 hl (hC (by omega)), qe5 hl (hA (by omega)), by rw [st _ (hA (by omega))]; simp [M.qaP, M.apply, hk, hr, M.qjF, M.qc7]⟩
 ·have hk : i.Op = 5 := by simpa using e
  exact ⟨qe5 hl (hB (by omega)), qe5 hl (hC (by omega)), qe5 hl (hA (by omega)), by rw [st _ (hA (by omega))]; simp [M.qaP, M.apply, hk, hr, M.qjj, M.qbY]⟩
 ·have hk : i.Op = 6 := by simpa using e
  exact ⟨qe5 hl (hB (by omega)), qe5 hl (hC (by omega)), qe5 hl (hA (by omega)), by rw [st _ (hA (by omega))]; simp [M.qaP, M.apply, hk, hr]⟩
 ·have hk : i.Op = 7 := by simpa using e
  exact ⟨qe5 hl (hB (by omega)), qe5 hl (hC (by omega)), qe5 hl (hA (by omega)), by rw [st _ (hA (by omega))]; simp [M.qaP, M.apply, hk, hr, M.qcy, M.qbT]⟩
 ·have hk : i.Op = 8 := by simpa using e
  exact ⟨qe5 hl (hA (by omega)), by rw [st _ (hA (by omega))]; simp [M.qaP, M.apply, hk, hr]⟩
 ·have hk : i.Op = 9 := by simpa using e
  refine ⟨qe5 hl (hC (by omega)), qa3 (fun e2 => ⟨qe5 hl (hB (by omega)), qe5 hl (hA (by omega)), ?_⟩) fun e2 => ?_⟩
  ·have h2 : ¬ rd r i.C = 0 := by simpa using e2
   rw [st _ (hA (by omega))]
   simp [M.qaP, M.apply, hk, h2, hr]
  ·have h2 : rd r i.C = 0 := by simpa using e2
   simp only [M.qaP, M.apply, hk, h2, hr]
   simpa using sf.symm
 ·simp at n1 n2 n3 n4 n5 n6 n7 n8 n9
  simp only [M.qaP, M.apply, n1, n2, n3, n4, n5, n6, n7, n8, n9, hr, if_false]
  exact sf.symm
end Go.V
namespace Go.V
open IntKind (wrap)
theorem qdW {r : List Int} {l : Nat} (h : r.length = 32) (hl : l < 8) : (M.qcc r l).length = 4 := by unfold M.qcc; simp; omega
theorem qiE {r x : List Int} {l : Nat} (h : r.length = 32) (hl : l < 8) (hx : x.length = 4) : (M.qf9 r l x).length = 32 := by unfold M.qf9; simp; omega
theorem qgL {r x : List Int} {l : Nat} (h : r.length = 32) (hl : l < 8) (hx : x.length = 4) (i : Nat) : (M.qf9 r l x)[i]? = if l * 4 ≤ i ∧ i < l * 4 + 4 then x[i - l * 4]? else r[i]? := by
 unfold M.qf9
 rw [List.getElem?_append, List.length_append, List.length_take, Nat.min_eq_left (by omega), hx, List.getElem?_append, List.length_take, Nat.min_eq_left (by omega)]
 by_cases h1 : i < l * 4
 ·rw [if_pos (by omega), if_pos h1, if_neg (by omega), List.getElem?_take, if_pos h1]
 ·by_cases h2 : i < l * 4 + 4
  ·rw [if_pos h2, if_neg h1, if_pos (by omega)]
  ·rw [if_neg h2, if_neg (by omega), List.getElem?_drop]
   congr 1; omega
theorem qfV (r : List Int) (l i : Nat) : (M.qcc r l)[i]? = if i < 4 then r[l * 4 + i]? else none := by
 unfold M.qcc
 rw [List.getElem?_drop, List.getElem?_take]
 by_cases h : i < 4
 ·rw [if_pos h, if_pos (by omega)]
 ·rw [if_neg h, if_neg (by omega)]
theorem qh8 {r x : List Int} {l j : Nat} (h : r.length = 32) (hl : l < 8) (hx : x.length = 4) (hne : j ≠ l) : M.qcc (M.qf9 r l x) j = M.qcc r j := by
 apply List.ext_getElem?
 intro i
 rw [qfV, qfV]
 by_cases hi : i < 4
 ·rw [if_pos hi, if_pos hi, qgL h hl hx, if_neg (by omega)]
 ·rw [if_neg hi, if_neg hi]
theorem qmD {r : List Int} {l : Nat} (h : r.length = 32) (hl : l < 8) : M.qf9 r l (M.qcc r l) = r := by
 apply List.ext_getElem?
 intro i
 rw [qgL h hl (qdW h hl)]
 by_cases hi : l * 4 ≤ i ∧ i < l * 4 + 4
 ·rw [if_pos hi, qfV, if_pos (by omega)]
  congr 1; omega
 ·rw [if_neg hi]
theorem qg5 {i : D.Ins} {num m : Int} {r : List Int} (h : r.length = 32) : ∀ k, k ≤ 8 → (M.qek i num m r k).length = 32
 | 0, _ => h
 | k + 1, hk => by
  have ih := qg5 (i := i) (num := num) (m := m) h k (by omega)
  simp only [M.qek]
  split
  ·exact qiE ih (by omega) (by rw [qgo, qdW h (by omega)])
  ·exact ih
theorem qgS {i : D.Ins} {num m : Int} {r : List Int} (h : r.length = 32) : ∀ k, k ≤ 8 → ∀ j, k ≤ j → M.qcc (M.qek i num m r k) j = M.qcc r j
 | 0, _, _, _ => rfl
 | k + 1, hk, j, hj => by
  have ih := qgS (i := i) (num := num) (m := m) h k (by omega) j (by omega)
  simp only [M.qek]
  split
  ·rw [qh8 (qg5 h k (by omega)) (by omega) (by rw [qgo, qdW h (by omega)]) (by omega), ih]
  ·exact ih
def qkG (i : D.Ins) (num : Int) (acc : List Int) (l : Int) : List Int := M.qaP i (num * 8 + l) acc (l * 4).toNat (l * 4 + 4).toNat
theorem qkp (i : D.Ins) (num : Int) (acc : List Int) (k : Nat) : qkG i num acc (k : Int) = M.qf9 acc k (M.apply i (num * 8 + (k : Int)) (M.qcc acc k)) := by
 unfold qkG M.qaP M.qf9 M.qcc
 rw [show ((k : Int) * 4).toNat = k * 4 by omega, show ((k : Int) * 4 + 4).toNat = k * 4 + 4 by omega]
theorem qjC {i : D.Ins} {num m : Int} {r : List Int} (h : r.length = 32) : M.qfm i num m r = (M.qdX m).foldl (qkG i num) r := by
 have key : ∀ k, k ≤ 8 → (List.range k).foldl (fun acc (j : Nat) => if M.qaB m (j : Int) = true then qkG i num acc (j : Int) else acc) r = M.qek i num m r k := by
  intro k
  induction k with
  | zero => intro _; rfl
  | succ k ih =>
   intro hk
   rw [List.range_succ, List.foldl_append, ih (by omega)]
   simp only [List.foldl_cons, List.foldl_nil, M.qek]
   rw [qkp, qgS h k (by omega) k (Nat.le_refl _)]
 unfold M.qfm
 rw [← key 8 (Nat.le_refl _)]
 unfold M.qdX
 rw [List.foldl_filter]
 rfl
theorem ql5 {i : D.Ins} {num : Int} : ∀ (l : List Int) (r : List Int), r.length = 32 → (∀ k ∈ l, 0 ≤ k ∧ k ≤ 7) → (l.foldl (qkG i num) r).length = 32
 | [], r, h, _ => h
 | k :: l, r, h, hl => by
  simp only [List.foldl_cons]
  obtain ⟨h0, h7⟩ := hl k List.mem_cons_self
  refine ql5 l _ ?_ fun j hj => hl j (List.mem_cons_of_mem _ hj)
  rw [show k = ((k.toNat : Nat) : Int) by omega, qkp]
  exact qiE h (by omega) (by rw [qgo, qdW h (by omega)])
theorem qhM {i : D.Ins} {num m : Int} {r : List Int} (h : r.length = 32) : (M.qfm i num m r).length = 32 := qg5 h 8 (Nat.le_refl _)
theorem qia {i : D.Ins} {num m : Int} {r : List Int} (h : r.length = 32) (e : i.Op = 10) : M.qfm i num m r = r := by
 have ha : ∀ t (q : List Int), M.apply i t q = q := fun t q => by simp [M.apply, e]
 have : ∀ k, k ≤ 8 → M.qek i num m r k = r := by
  intro k
  induction k with
  | zero => intro _; rfl
  | succ k ih =>
   intro hk
   simp only [M.qek, ih (by omega), ha, qmD h (show k < 8 by omega), ite_self]
 exact this 8 (Nat.le_refl _)
theorem qlK {r x : List Int} {l : Nat} (h : r.all M.isWord = true) (hx : x.all M.isWord = true) : (M.qf9 r l x).all M.isWord = true := by
 rw [List.all_eq_true] at h hx ⊢
 intro y hy
 unfold M.qf9 at hy
 rcases List.mem_append.1 hy with hy | hy
 ·rcases List.mem_append.1 hy with hy | hy
  ·exact h y (List.mem_of_mem_take hy)
  ·exact hx y hy
 ·exact h y (List.mem_of_mem_drop hy)
theorem qm4 {r : List Int} {l : Nat} (h : r.all M.isWord = true) : (M.qcc r l).all M.isWord = true := by
 rw [List.all_eq_true] at h ⊢
 intro y hy
 exact h y (List.mem_of_mem_take (List.mem_of_mem_drop hy))
theorem qh6 {i : D.Ins} {n num m : Int} {r : List Int} (hok : M.qcM i n = true) (hn : 0 ≤ num ∧ num ≤ 2) (hl : r.length = 32) (h : r.all M.isWord = true) : ∀ k, k ≤ 8 → (M.qek i num m r k).all M.isWord = true
 | 0, _ => h
 | k + 1, hk => by
  have ih := qh6 (m := m) hok hn hl h k (by omega)
  simp only [M.qek]
  split
  ·exact qlK ih (qin hok (by omega) (qdW hl (by omega)) (qm4 h))
  ·exact ih
theorem qmn {fs : List D.Frame} (h : fs ≠ []) (pc : Int) : M.qb3 (M.qcP fs pc) = ⟨pc, (M.qb3 fs).Stop, (M.qb3 fs).Mask⟩ := by
 have hpos : 0 < fs.length := List.length_pos_iff.2 h
 have e : ((fs.length : Int) - 1) = ((fs.length - 1 : Nat) : Int) := by omega
 unfold M.qb3 M.qcP
 rw [List.length_set, e, qcJ (by rw [List.length_set]; omega), List.getElem_set_self]
 unfold M.qb3
 rw [e]
theorem qfs {fs : List D.Frame} (h : fs ≠ []) : M.qb3 fs ∈ fs := by
 have hpos : 0 < fs.length := List.length_pos_iff.2 h
 exact qib (by omega) (by omega)
theorem qhz {fs : List D.Frame} {n pc : Int} (h : fs.all (M.qd1 n) = true) (hx : fs ≠ []) (hp : 0 ≤ pc ∧ pc ≤ n) : (M.qcP fs pc).all (M.qd1 n) = true := by
 rw [List.all_eq_true] at h ⊢
 intro f hf
 rcases List.mem_or_eq_of_mem_set hf with hf | rfl
 ·exact h f hf
 ·have := h _ (qfs hx)
  simp only [M.qd1, M.isIn, Bool.and_eq_true, decide_eq_true_eq] at this ⊢
  exact ⟨hp, this.2⟩
theorem qjW (fs : List D.Frame) (n : Int) : ∀ k, k ≤ fs.length → M.qhx fs n k = [] ∨ ∃ j : Nat, 0 < j ∧ j ≤ k ∧ M.qhx fs n k = fs.take j ∧ (rd fs ((j - 1 : Nat) : Int)).Pc ≠ (rd fs ((j - 1 : Nat) : Int)).Stop ∧ (rd fs ((j - 1 : Nat) : Int)).Pc ≠ n
 | 0, _ => .inl rfl
 | k + 1, hk => by
  simp only [M.qhx]
  split
  ·rename_i e
   exact .inr ⟨k + 1, by omega, Nat.le_refl _, rfl, e⟩
  ·rcases qjW fs n k (by omega) with h | ⟨j, h0, h1, h2⟩
   ·exact .inl h
   ·exact .inr ⟨j, h0, by omega, h2⟩
theorem qjN {fs : List D.Frame} {n : Int} (hall : fs.all (M.qd1 n) = true) (hl : fs.length ≤ 24) (h0 : fs ≠ [] → (rd fs 0).Stop = n ∧ (rd fs 0).Mask = 255) : M.qcW (M.qlj fs n) n = true := by
 unfold M.qlj
 rcases qjW fs n fs.length (Nat.le_refl _) with h | ⟨j, hj0, hj1, h2, h3, h4⟩
 ·rw [h]; rfl
 ·rw [h2]
  have hne : fs ≠ [] := by intro e; rw [e] at hj1; simp at hj1; omega
  have hlen : (fs.take j).length = j := by rw [List.length_take]; omega
  have hall' : (fs.take j).all (M.qd1 n) = true := by
   rw [List.all_eq_true] at hall ⊢
   exact fun f hf => hall f (List.mem_of_mem_take hf)
  have hlast : M.qb3 (fs.take j) = rd fs ((j - 1 : Nat) : Int) := by
   unfold M.qb3
   rw [hlen, show ((j : Int) - 1) = ((j - 1 : Nat) : Int) by omega, qkO (by omega)]
  have hz : rd (fs.take j) 0 = rd fs 0 := by
   have := qkO (l := fs) (k := 0) (m := j) (by omega)
   exact this
  unfold M.qcW
  rw [hall', Bool.true_and, Bool.or_eq_true]
  right
  unfold M.qgE
  rw [hlast, hz, hlen]
  obtain ⟨k1, k2⟩ := h0 hne
  simp only [Bool.and_eq_true, decide_eq_true_eq, bne_iff_ne, beq_iff_eq]
  exact ⟨by omega, h3, h4, k1, k2⟩
theorem qgn {fs : List D.Frame} (h : fs ≠ []) (pc : Int) : (rd (M.qcP fs pc) 0).Stop = (rd fs 0).Stop ∧ (rd (M.qcP fs pc) 0).Mask = (rd fs 0).Mask := by
 have hpos : 0 < fs.length := List.length_pos_iff.2 h
 have z : (0 : Int) = ((0 : Nat) : Int) := rfl
 by_cases h1 : fs.length = 1
 ·have hl := qmn h pc
  have e1 : M.qb3 (M.qcP fs pc) = rd (M.qcP fs pc) 0 := by unfold M.qb3 M.qcP; rw [List.length_set, h1]; rfl
  have e2 : M.qb3 fs = rd fs 0 := by unfold M.qb3; rw [h1]; rfl
  rw [← e1, hl, e2]; exact ⟨rfl, rfl⟩
 ·have e : rd (M.qcP fs pc) 0 = rd fs 0 := by
    unfold M.qcP rd
    rw [List.getD_eq_getElem?_getD, List.getD_eq_getElem?_getD, List.getElem?_set_ne (by simp; omega)]
  rw [e]; exact ⟨rfl, rfl⟩
theorem qf0 {p : List D.Ins} {x : D.Warp} (h : M.Runs p x) : x.Frames.all (M.qd1 p.length) = true ∧ x.Frames.length ≤ 24 ∧ (rd x.Frames 0).Stop = p.length ∧ (rd x.Frames 0).Mask = 255 ∧ M.qeL (M.qb3 x.Frames).Mask = true ∧ x.Regs.all M.isWord = true := by
 obtain ⟨hp, hw, hx⟩ := h
 simp only [M.qeM, M.qcW, Bool.and_eq_true, Bool.or_eq_true] at hw
 obtain ⟨h1, h2, h3, h4, h5⟩ := hw
 have h5 := h5.resolve_left (by simpa using hx)
 have hf := List.all_eq_true.1 h4 _ (qfs hx)
 simp only [M.qgE, M.qd1, Bool.and_eq_true, decide_eq_true_eq, beq_iff_eq] at h5 hf
 exact ⟨h4, h5.1, h5.2.2.2.1, h5.2.2.2.2, hf.2.2.1, h3⟩
theorem qgi {p : List D.Ins} {x : D.Warp} (h : M.Runs p x) (hs : M.qkr p x) : M.Branch p (M.qbw x) := by
 obtain ⟨_, _, _, _, t5, t6, _⟩ := qdg h
 refine ⟨h.1, t5, t6, ?_⟩
 unfold M.isBr
 simp only [Bool.and_eq_true, beq_iff_eq, bne_iff_ne]
 exact hs
theorem qhf {p : List D.Ins} {x : D.Warp} (h : M.splits p x = true) : M.qkr p x ∧ M.qbE x (M.qar p x).A ≠ 0 ∧ M.qbE x (M.qar p x).A ≠ (M.qb3 x.Frames).Mask := by
 simp only [M.splits, Bool.and_eq_true, beq_iff_eq, bne_iff_ne] at h
 exact ⟨h.1, h.2.1, h.2.2⟩
theorem qnp {p : List D.Ins} {x : D.Warp} (h : M.Runs p x) : 0 ≤ M.qf6 p x ∧ M.qf6 p x ≤ (p.length : Int) := by
 obtain ⟨_, _, _, _, t5, t6, t7, _⟩ := qdg h
 unfold M.qf6
 split
 ·omega
 ·split
  ·exact qfJ t7 (.inr (by assumption))
  ·split
   ·rename_i e; exact qfJ t7 (.inl e.1)
   ·omega
theorem qlv {p : List D.Ins} {x : D.Warp} (h : M.Goes p x) : M.Fine p (M.stepW p x) := by
 obtain ⟨hr, hl⟩ := h
 obtain ⟨t1, t2, t3, t4, t5, t6, t7, t8, t9⟩ := qdg hr
 obtain ⟨f1, f2, f3, f4, f5, f6⟩ := qf0 hr
 have hx := hr.2.2
 refine ⟨hr.1, ?_⟩
 have fin : ∀ (fs : List D.Frame) (rg : List Int), rg.length = 32 → rg.all M.isWord = true → fs.all (M.qd1 p.length) = true → fs.length ≤ 24 → (fs ≠ [] → (rd fs 0).Stop = p.length ∧ (rd fs 0).Mask = 255) → M.qeM p (M.qgG ⟨x.Number, fs, rg⟩ p.length) = true := by
  intro fs rg g1 g2 g3 g4 g5
  simp only [M.qeM, M.qgG, Bool.and_eq_true, beq_iff_eq]
  exact ⟨by simp only [M.isIn, Bool.and_eq_true, decide_eq_true_eq]; exact ⟨t8, t9⟩, g1, g2, qjN g3 g4 g5⟩
 have s0 := fun pc => qgn hx pc
 unfold M.stepW
 by_cases hs : M.splits p x = true
 ·rw [if_pos hs]
  obtain ⟨hsp, hz0, hzm⟩ := qhf hs
  have hb := qgi hr hsp
  have hj := qng hb
  have hact : M.qbb x = (M.qb3 x.Frames).Mask := qec hx
  obtain ⟨m1, m2, m3⟩ := qiB (x := x) (reg := (M.qar p x).A) (by rw [hact]; exact f5)
  rw [hact] at m2 m3
  have h22 : x.Frames.length ≤ 22 := by
   simp only [M.qca, hs, Bool.and_eq_true, Bool.not_true, Bool.false_or, decide_eq_true_eq] at hl
   exact hl.2.2
  have hB := qfJ t7 (.inl hsp.1)
  unfold M.separated
  refine fin _ _ t4 f6 ?_ ?_ fun _ => ?_
  ·rw [List.all_append, qhz f1 hx hj, Bool.true_and]
   simp only [List.all_cons, List.all_nil, Bool.and_true, M.qd1, Bool.and_eq_true, M.isIn, decide_eq_true_eq, bne_iff_ne]
   unfold M.qcO at hj
   rw [m2]
   exact ⟨⟨by omega, hj, m3, by omega⟩, hB, hj, m1, hz0⟩
  ·simp only [List.length_append, M.qcP, List.length_set, List.length_cons, List.length_nil]; omega
  ·have e : rd (M.qcP x.Frames (M.qde p (M.qbw x)) ++ [⟨M.qbw x + 1, M.qde p (M.qbw x), qdK .i64 (M.qb3 x.Frames).Mask (M.qbE x (M.qar p x).A)⟩, ⟨(M.qar p x).B, M.qde p (M.qbw x), M.qbE x (M.qar p x).A⟩]) 0 = rd (M.qcP x.Frames (M.qde p (M.qbw x))) 0 := by
     unfold rd
     rw [List.getD_eq_getElem?_getD, List.getD_eq_getElem?_getD, List.getElem?_append_left (by simp [M.qcP]; omega)]
   rw [e, (s0 _).1, (s0 _).2]
   exact ⟨f3, f4⟩
 ·rw [if_neg hs]
  unfold M.advance
  refine fin _ _ (qhM t4) (qh6 t7 ⟨t8, t9⟩ t4 f6 8 (Nat.le_refl _)) (qhz f1 hx (qnp hr)) (by simp only [M.qcP, List.length_set]; exact f2) fun _ => ?_
  rw [(s0 _).1, (s0 _).2]
  exact ⟨f3, f4⟩
end Go.V
namespace Go.V
open IntKind (wrap)
theorem qmE {i : D.Ins} {n : Int} {r : List Int} {k : Nat} (h : M.qcM i n = true) (hr : r.length = 32) (hk : k < 8) : M.Fits i (M.qcc r k) := ⟨qdW hr hk, n, h⟩
theorem wp.qaV.math (x : D.Warp) (p : List D.Ins) (h : M.qdR x p) : wp.qaV x p (fun r => r = M.qaV x p) := by
 obtain ⟨t1, t2, t3, t4, t5, t6, t7, t8, t9⟩ := qdg h
 have hx := h.2.2
 unfold wp.qaV
 rw [qdH (by omega)]
 refine ⟨by omega, ⟨t5, t6⟩, fun ls hls => ?_⟩
 have hls : ls = M.qdX (M.qb3 x.Frames).Mask := hls
 have hmem : ∀ k ∈ ls, 0 ≤ k ∧ k ≤ 7 := fun k hk => qhc (m := (M.qb3 x.Frames).Mask) (hls ▸ hk)
 have hlen : ls.length ≤ 8 := by rw [hls]; exact qjY _
 let G : Nat → List Int := fun k => (ls.take k).foldl (qkG (M.qar p x) x.Number) x.Regs
 have hG : ∀ k, (G k).length = 32 := fun k => ql5 _ _ t4 fun j hj => hmem j (List.mem_of_mem_take hj)
 refine qdl ls.length (fun k => ((k : Int), G k, ())) (fun _ => True) rfl trivial (fun k hk _ next hn => ?_) fun _ next => ?_
 ·have hn := hn trivial
  have hm := hmem _ (qg7 hk)
  have hGk := hG k
  have hnext : G (k + 1) = qkG (M.qar p x) x.Number (G k) (rd ls (k : Int)) := by
   simp only [G]
   rw [List.take_add_one, List.getElem?_eq_getElem hk, Option.toList_some, List.foldl_append, ← qcJ hk]
   rfl
  rw [hnext] at hn
  dsimp only
  generalize rd ls (k : Int) = l at *
  generalize G k = g at *
  have a1 : wrap .i64 (l * 4) = l * 4 := w64 (by omega) (by omega)
  have a2 : wrap .i64 ((wrap .i64 (l + 1)) * 4) = l * 4 + 4 := by rw [w64 (x := l + 1) (by omega) (by omega), w64 (by omega) (by omega)]; omega
  have a3 : wrap .i64 ((wrap .i64 (x.Number * 8)) + l) = x.Number * 8 + l := by rw [w64 (x := x.Number * 8) (by omega) (by omega), w64 (by omega) (by omega)]
  rw [a1, a2, a3, up64 hk (by omega)]
  refine qb1 (by simp; omega) ⟨by omega, ⟨hGk, hm⟩, ⟨?_, by omega, by omega⟩, fun r2 hr2 => ?_⟩
  ·have := qmE (k := l.toNat) t7 hGk (by omega)
   unfold M.qcc at this
   rw [show l.toNat * 4 + 4 = (l * 4 + 4).toNat by omega, show l.toNat * 4 = (l * 4).toNat by omega] at this
   exact this
  ·rw [hr2]; exact hn
 ·have hall : G ls.length = M.qfm (M.qar p x) x.Number (M.qb3 x.Frames).Mask x.Regs := by
    simp only [G]
    rw [List.take_length, qjC t4, hls]
  dsimp only
  rw [hall]
  refine qb8 (by simp) ?_
  have e1 : ((x.Frames.length : Int) - 1).toNat = x.Frames.length - 1 := by omega
  have fin : ∀ pc, pc = M.qf6 p x → (⟨x.Number, x.Frames.set ((x.Frames.length : Int) - 1).toNat ⟨pc, (M.qb3 x.Frames).Stop, (M.qb3 x.Frames).Mask⟩, M.qfm (M.qar p x) x.Number (M.qb3 x.Frames).Mask x.Regs⟩ : D.Warp) = M.qaV x p := by
   rintro _ rfl
   unfold M.qaV M.advance M.qcP
   rw [e1]
  show qa1 ((M.qar p x).Op == 12) _ (qa1 ((M.qar p x).Op == 11) (qa1 true _ _) (qa1 ((M.qar p x).Op == 10) _ (qa1 false _ _)))
  refine qa3 (fun c1 => fin _ ?_) fun c1 => qa3 (fun c2 => qb1 rfl (fin _ ?_)) fun c2 => qa3 (fun c3 => ⟨?_, fun z hz => ?_⟩) fun c3 => qb8 rfl (fin _ ?_)
  ·have c1 : (M.qar p x).Op = 12 := by simpa using c1
   simp [M.qf6, c1]
  ·have c2 : (M.qar p x).Op = 11 := by simpa using c2
   simp only [M.qf6, c2]
   rfl
  ·have c3 : (M.qar p x).Op = 10 := by simpa using c3
   exact ⟨by show x.Frames.length ≤ 9223372036854775807; omega, qhM t4, qgZ t7 c3⟩
  ·have c3 : (M.qar p x).Op = 10 := by simpa using c3
   have hz : z = M.qbE x (M.qar p x).A := by
    rw [hz, qia t4 c3]; rfl
   show qa1 (z == (M.qb3 x.Frames).Mask) _ _
   rw [hz]
   refine qa3 (fun c4 => fin _ ?_) fun c4 => fin _ ?_
   ·have c4 : M.qbE x (M.qar p x).A = (M.qb3 x.Frames).Mask := by simpa using c4
    unfold M.qf6
    rw [if_neg (by omega), if_neg (by omega), if_pos ⟨c3, c4⟩]; rfl
   ·have c4 : ¬ M.qbE x (M.qar p x).A = (M.qb3 x.Frames).Mask := by simpa using c4
    unfold M.qf6
    rw [if_neg (by omega), if_neg (by omega), if_neg (fun hc => c4 hc.2)]
    exact w64 (x := M.qbw x + 1) (by omega) (by omega)
  ·have c1 : ¬ (M.qar p x).Op = 12 := by simpa using c1
   have c2 : ¬ (M.qar p x).Op = 11 := by simpa using c2
   have c3 : ¬ (M.qar p x).Op = 10 := by simpa using c3
   unfold M.qf6
   rw [if_neg c1, if_neg c2, if_neg (fun hc => c3 hc.1)]
   exact w64 (x := M.qbw x + 1) (by omega) (by omega)
theorem qkb {p : List D.Ins} {b : Int} (h : M.Branch p b) : M.has (M.branches p) b = true := by
 unfold M.has M.branches
 rw [if_pos h.1, List.any_eq_true]
 exact ⟨b, qfY.2 ⟨b.toNat, by have := h.2.2.1; have := h.2.1; omega, by have := h.2.1; omega, h.2.2.2⟩, by simp⟩
theorem wp.qaA.math (x : D.Warp) (p : List D.Ins) (h : M.qdN x p) : wp.qaA x p (fun r => r = M.qaA x p) := by
 obtain ⟨hr, hs⟩ := h
 obtain ⟨t1, t2, t3, t4, t5, t6, t7, t8, t9⟩ := qdg hr
 have hb := qgi hr hs
 unfold wp.qaA
 rw [qdH (by omega), w64 (x := (x.Frames.length : Int) + 2) (by omega) (by omega)]
 refine qa3 (fun e => ?_) fun e => ⟨by omega, ⟨t5, t6⟩, ⟨by show x.Frames.length ≤ 9223372036854775807; omega, t4, qgZ t7 hs.1⟩, fun z hz => ⟨qhh hr.1, fun j hj => ⟨⟨t5, t6⟩, ?_⟩⟩⟩
 ·have e : ¬ x.Frames.length ≤ 22 := by have := of_decide_eq_true e; omega
  unfold M.qaA
  rw [if_neg e]
 ·have e : x.Frames.length ≤ 22 := by have := of_decide_eq_false e; omega
  have hj : j = M.qde p (M.qbw x) := by
   rw [hj]
   show M.qjf p (M.qbw x) = _
   unfold M.qjf
   rw [if_pos (qkb hb)]
  have hw : wrap .i64 (M.qbw x + 1) = M.qbw x + 1 := w64 (by omega) (by omega)
  have key : ∀ y, y = M.separated p x → (true, y) = M.qaA x p := by
   rintro _ rfl
   unfold M.qaA
   rw [if_pos e]
  have e1 : ((x.Frames.length : Int) - 1).toNat = x.Frames.length - 1 := by omega
  have fin : (true, (⟨x.Number, (x.Frames.set ((x.Frames.length : Int) - 1).toNat ⟨j, (M.qb3 x.Frames).Stop, (M.qb3 x.Frames).Mask⟩) ++ [⟨wrap .i64 (M.qbw x + 1), j, qdK .i64 (M.qb3 x.Frames).Mask z⟩, ⟨(M.qar p x).B, j, z⟩], x.Regs⟩ : D.Warp)) = M.qaA x p := by
   refine key _ ?_
   rw [hw, hj, hz, e1]; rfl
  have hle : (x.Frames.set ((x.Frames.length : Int) - 1).toNat ⟨j, (M.qb3 x.Frames).Stop, (M.qb3 x.Frames).Mask⟩).length + 2 ≤ 17179869184 := by rw [List.length_set]; omega
  exact ⟨⟨hle, fin⟩, ⟨⟨hle, fin⟩, ⟨hle, fin⟩, trivial⟩, trivial⟩
end Go.V
namespace Go.V
open IntKind (wrap)
theorem wp.qaZ.math (x : D.Warp) (p : List D.Ins) (h : M.qeG x p) : wp.qaZ x p (fun r => r = M.qaZ x p) := by
 obtain ⟨hp, hw⟩ := h
 unfold wp.qaZ
 rw [qhy]
 refine qa3 (fun e => ?_) fun e => ?_
 ·have : M.qca p x = false := by simp [M.qca, e]
  unfold M.qaZ
  rw [if_neg (by rw [this]; simp)]
 have hx : x.Frames ≠ [] := by simpa using e
 have hr : M.Runs p x := ⟨hp, hw, hx⟩
 obtain ⟨t1, t2, t3, t4, t5, t6, t7, t8, t9⟩ := qdg hr
 rw [qdH (by omega)]
 have hl : ∀ b, M.qbu (M.qar p x) = b → M.qca p x = (b && (!M.splits p x || decide (x.Frames.length ≤ 22))) := fun b hb => by
  simp only [M.qca, hb, e, Bool.not_false, Bool.true_and]
 have no : M.qca p x = false → (false, x) = M.qaZ x p := fun hf => by
  unfold M.qaZ
  rw [if_neg (by rw [hf]; simp)]
 have yes : M.qca p x = true → ∀ y, y = M.stepW p x → (true, y) = M.qaZ x p := fun hf y hy => by
  unfold M.qaZ
  rw [if_pos hf, hy]
 refine ⟨by omega, ⟨t5, t6⟩, fun b hb => qa3 (fun c => no ?_) fun c => ⟨hr, fun s hs => qa3 (fun c2 => ⟨⟨hr, ?_⟩, fun q hq => ?_⟩) fun c2 => ⟨hr, fun q hq => ⟨?_, fun d hd => ?_⟩⟩⟩⟩
 ·have c : b = false := by simpa using c
  rw [hl b hb.symm, c]; rfl
 ·exact (qhf (hs.symm.trans c2)).1
 ·have c : b = true := by simpa using c
  have hsp : M.splits p x = true := hs.symm.trans c2
  have hl' := hl b hb.symm
  rw [c, hsp] at hl'
  simp only [Bool.true_and, Bool.not_true, Bool.false_or] at hl'
  rw [hq]
  unfold M.qaA
  by_cases h22 : x.Frames.length ≤ 22
  ·rw [decide_eq_true h22] at hl'
   rw [if_pos h22]
   refine qb8 rfl ⟨?_, fun d hd => yes hl' _ ?_⟩
   ·show (M.separated p x).Frames.length ≤ 9223372036854775807
    simp only [M.separated, M.qcP, List.length_append, List.length_set, List.length_cons, List.length_nil]; omega
   ·rw [hd]
    unfold M.stepW
    rw [if_pos hsp]; rfl
  ·rw [decide_eq_false h22] at hl'
   rw [if_neg h22]
   exact qb1 rfl (no hl')
 ·rw [hq]
  show (M.qcP x.Frames _).length ≤ 9223372036854775807
  simp only [M.qcP, List.length_set]; omega
 ·have c : b = true := by simpa using c
  have hsp : M.splits p x = false := by rw [← show s = M.splits p x from hs, c2]
  have hl' := hl b hb.symm
  rw [c, hsp] at hl'
  refine yes hl' _ ?_
  rw [hd, hq]
  unfold M.stepW
  rw [if_neg (by rw [hsp]; simp)]; rfl
theorem qk1 {p : List D.Ins} (hp : M.qat p = true) {w : Int} (hw : M.isIn w 0 2 = true) : M.Fine p (M.qct p w) := by
 refine ⟨hp, ?_⟩
 have hz : (List.replicate 32 (0 : Int)).all M.isWord = true := by rfl
 unfold M.qeM
 have hN : (M.qct p w).Number = w := rfl
 have hR : (M.qct p w).Regs = List.replicate 32 0 := rfl
 have hF : (M.qct p w).Frames = if p.length > 0 then [⟨0, p.length, 255⟩] else [] := rfl
 rw [hN, hR, hF, hw, hz, List.length_replicate]
 by_cases h0 : p.length > 0
 ·rw [if_pos h0]
  have hn : (p.length : Int) ≠ 0 := by omega
  have h1 : M.qd1 p.length ⟨0, p.length, 255⟩ = true := by
   simp only [M.qd1, M.isIn, M.qeL, Bool.and_eq_true, decide_eq_true_eq, bne_iff_ne]; omega
  have hl : M.qb3 [(⟨0, p.length, 255⟩ : D.Frame)] = ⟨0, p.length, 255⟩ := rfl
  have hr : rd [(⟨0, p.length, 255⟩ : D.Frame)] 0 = ⟨0, p.length, 255⟩ := rfl
  have h2 : M.qgE [(⟨0, p.length, 255⟩ : D.Frame)] p.length = true := by
   unfold M.qgE
   rw [hl, hr]
   simp only [Bool.and_eq_true, decide_eq_true_eq, bne_iff_ne, beq_iff_eq, List.length_cons, List.length_nil]
   exact ⟨by omega, fun h => hn h.symm, fun h => hn h.symm, trivial, trivial⟩
  have : M.qcW [(⟨0, p.length, 255⟩ : D.Frame)] p.length = true := by
   unfold M.qcW
   rw [h2]; simp [h1]
  rw [this]; rfl
 ·rw [if_neg h0]; rfl
end Go.V
namespace Go.V
open IntKind (wrap)
def wp.qcF (c : D.Cur) (d : Int) (Q : (Bool × D.Cur) → Prop) : Prop :=
 (M.qau c d ∧ ∀ a, a = M.qa0 c d → Q ((a.1 == 0), (⟨c.b, a.2.i, a.2.h⟩ : D.Cur)))
def wp.qaJ (e : D.Cur) (r : List D.Ins) (m : Int) (Q : ((List D.Ins) × D.Cur) → Prop) : Prop :=
 (M.qau e 4 ∧ ∀ o, o = M.qa0 e 4 → qdd (σ := (List D.Ins) × Int × Int × Int × Unit) (fun (s : (List D.Ins) × Int × Int × Int × Unit) l => match s with | (a, g, p, q, _) => qa1 (decide (g > 0)) (qa1 (decide ((a.length : Int) < 20)) ((M.qau (⟨e.b, p, q⟩ : D.Cur) 5 ∧ ∀ d, d = M.qa0 (⟨e.b, p, q⟩ : D.Cur) 5 → qa1 (d.1 == 0) (qa1 (m == 0) (l (a, (wrap .i64 (g - 1)), d.2.i, d.2.h, ())) ((M.qau (⟨e.b, d.2.i, d.2.h⟩ : D.Cur) 4 ∧ ∀ j, j = M.qa0 (⟨e.b, d.2.i, d.2.h⟩ : D.Cur) 4 → ((a.length + ([(⟨10, j.1, 0, 0⟩ : D.Ins)] : List D.Ins).length ≤ 17179869184) ∧ (M.qcS (⟨e.b, j.2.i, j.2.h⟩ : D.Cur) (a ++ ([(⟨10, j.1, 0, 0⟩ : D.Ins)] : List D.Ins)) (wrap .i64 (m - 1)) ∧ ∀ c, c = M.qaJ (⟨e.b, j.2.i, j.2.h⟩ : D.Cur) (a ++ ([(⟨10, j.1, 0, 0⟩ : D.Ins)] : List D.Ins)) (wrap .i64 (m - 1)) → (M.qff (⟨e.b, c.2.i, c.2.h⟩ : D.Cur) 2 ∧ ∀ k, k = M.qcF (⟨e.b, c.2.i, c.2.h⟩ : D.Cur) 2 → qa1 k.1 (((0 ≤ (a.length : Int) ∧ (a.length : Int) < (c.1.length : Int)) ∧ l ((List.set c.1 ((a.length : Int).toNat) (⟨(rd c.1 (a.length : Int)).Op, (rd c.1 (a.length : Int)).A, (c.1.length : Int), (rd c.1 (a.length : Int)).C⟩ : D.Ins)), (wrap .i64 (g - 1)), k.2.i, k.2.h, ()))) (((c.1.length + ([(⟨11, 0, 0, 0⟩ : D.Ins)] : List D.Ins).length ≤ 17179869184) ∧ ((0 ≤ (a.length : Int) ∧ (a.length : Int) < ((c.1 ++ ([(⟨11, 0, 0, 0⟩ : D.Ins)] : List D.Ins)).length : Int)) ∧ (M.qcS (⟨e.b, k.2.i, k.2.h⟩ : D.Cur) (List.set (c.1 ++ ([(⟨11, 0, 0, 0⟩ : D.Ins)] : List D.Ins)) ((a.length : Int).toNat) (⟨(rd (c.1 ++ ([(⟨11, 0, 0, 0⟩ : D.Ins)] : List D.Ins)) (a.length : Int)).Op, (rd (c.1 ++ ([(⟨11, 0, 0, 0⟩ : D.Ins)] : List D.Ins)) (a.length : Int)).A, (((c.1 ++ ([(⟨11, 0, 0, 0⟩ : D.Ins)] : List D.Ins))).length : Int), (rd (c.1 ++ ([(⟨11, 0, 0, 0⟩ : D.Ins)] : List D.Ins)) (a.length : Int)).C⟩ : D.Ins)) (wrap .i64 (m - 1)) ∧ ∀ f, f = M.qaJ (⟨e.b, k.2.i, k.2.h⟩ : D.Cur) (List.set (c.1 ++ ([(⟨11, 0, 0, 0⟩ : D.Ins)] : List D.Ins)) ((a.length : Int).toNat) (⟨(rd (c.1 ++ ([(⟨11, 0, 0, 0⟩ : D.Ins)] : List D.Ins)) (a.length : Int)).Op, (rd (c.1 ++ ([(⟨11, 0, 0, 0⟩ : D.Ins)] : List D.Ins)) (a.length : Int)).A, (((c.1 ++ ([(⟨11, 0, 0, 0⟩ : D.Ins)] : List D.Ins))).length : Int), (rd (c.1 ++ ([(⟨11, 0, 0, 0⟩ : D.Ins)] : List D.Ins)) (a.length : Int)).C⟩ : D.Ins)) (wrap .i64 (m - 1)) → ((0 ≤ (c.1.length : Int) ∧ (c.1.length : Int) < (f.1.length : Int)) ∧ l ((List.set f.1 ((c.1.length : Int).toNat) (⟨(rd f.1 (c.1.length : Int)).Op, (rd f.1 (c.1.length : Int)).A, (f.1.length : Int), (rd f.1 (c.1.length : Int)).C⟩ : D.Ins)), (wrap .i64 (g - 1)), f.2.i, f.2.h, ())))))))))))) (qa1 (d.1 == 1) (qa1 (m == 0) (l (a, (wrap .i64 (g - 1)), d.2.i, d.2.h, ())) (qa1 (decide ((a.length : Int) > 14)) (l (a, (wrap .i64 (g - 1)), d.2.i, d.2.h, ())) (((a.length + ([(⟨8, 3, 0, 0⟩ : D.Ins)] : List D.Ins).length ≤ 17179869184) ∧ (((a ++ ([(⟨8, 3, 0, 0⟩ : D.Ins)] : List D.Ins)).length + ([(⟨10, 3, 0, 0⟩ : D.Ins)] : List D.Ins).length ≤ 17179869184) ∧ ((((a ++ ([(⟨8, 3, 0, 0⟩ : D.Ins)] : List D.Ins)) ++ ([(⟨10, 3, 0, 0⟩ : D.Ins)] : List D.Ins)).length + ([(⟨3, 0, 0, 1⟩ : D.Ins), (⟨1, 2, 1, 0⟩ : D.Ins), (⟨4, 3, 3, 2⟩ : D.Ins)] : List D.Ins).length ≤ 17179869184) ∧ (((((a ++ ([(⟨8, 3, 0, 0⟩ : D.Ins)] : List D.Ins)) ++ ([(⟨10, 3, 0, 0⟩ : D.Ins)] : List D.Ins)) ++ ([(⟨3, 0, 0, 1⟩ : D.Ins), (⟨1, 2, 1, 0⟩ : D.Ins), (⟨4, 3, 3, 2⟩ : D.Ins)] : List D.Ins)).length + ([(⟨11, 0, (((a ++ ([(⟨8, 3, 0, 0⟩ : D.Ins)] : List D.Ins))).length : Int), 0⟩ : D.Ins)] : List D.Ins).length ≤ 17179869184) ∧ ((0 ≤ (((a ++ ([(⟨8, 3, 0, 0⟩ : D.Ins)] : List D.Ins))).length : Int) ∧ (((a ++ ([(⟨8, 3, 0, 0⟩ : D.Ins)] : List D.Ins))).length : Int) < (((((a ++ ([(⟨8, 3, 0, 0⟩ : D.Ins)] : List D.Ins)) ++ ([(⟨10, 3, 0, 0⟩ : D.Ins)] : List D.Ins)) ++ ([(⟨3, 0, 0, 1⟩ : D.Ins), (⟨1, 2, 1, 0⟩ : D.Ins), (⟨4, 3, 3, 2⟩ : D.Ins)] : List D.Ins)) ++ ([(⟨11, 0, (((a ++ ([(⟨8, 3, 0, 0⟩ : D.Ins)] : List D.Ins))).length : Int), 0⟩ : D.Ins)] : List D.Ins)).length : Int)) ∧ l ((List.set ((((a ++ ([(⟨8, 3, 0, 0⟩ : D.Ins)] : List D.Ins)) ++ ([(⟨10, 3, 0, 0⟩ : D.Ins)] : List D.Ins)) ++ ([(⟨3, 0, 0, 1⟩ : D.Ins), (⟨1, 2, 1, 0⟩ : D.Ins), (⟨4, 3, 3, 2⟩ : D.Ins)] : List D.Ins)) ++ ([(⟨11, 0, (((a ++ ([(⟨8, 3, 0, 0⟩ : D.Ins)] : List D.Ins))).length : Int), 0⟩ : D.Ins)] : List D.Ins)) ((((a ++ ([(⟨8, 3, 0, 0⟩ : D.Ins)] : List D.Ins))).length : Int).toNat) (⟨(rd ((((a ++ ([(⟨8, 3, 0, 0⟩ : D.Ins)] : List D.Ins)) ++ ([(⟨10, 3, 0, 0⟩ : D.Ins)] : List D.Ins)) ++ ([(⟨3, 0, 0, 1⟩ : D.Ins), (⟨1, 2, 1, 0⟩ : D.Ins), (⟨4, 3, 3, 2⟩ : D.Ins)] : List D.Ins)) ++ ([(⟨11, 0, (((a ++ ([(⟨8, 3, 0, 0⟩ : D.Ins)] : List D.Ins))).length : Int), 0⟩ : D.Ins)] : List D.Ins)) (((a ++ ([(⟨8, 3, 0, 0⟩ : D.Ins)] : List D.Ins))).length : Int)).Op, (rd ((((a ++ ([(⟨8, 3, 0, 0⟩ : D.Ins)] : List D.Ins)) ++ ([(⟨10, 3, 0, 0⟩ : D.Ins)] : List D.Ins)) ++ ([(⟨3, 0, 0, 1⟩ : D.Ins), (⟨1, 2, 1, 0⟩ : D.Ins), (⟨4, 3, 3, 2⟩ : D.Ins)] : List D.Ins)) ++ ([(⟨11, 0, (((a ++ ([(⟨8, 3, 0, 0⟩ : D.Ins)] : List D.Ins))).length : Int), 0⟩ : D.Ins)] : List D.Ins)) (((a ++ ([(⟨8, 3, 0, 0⟩ : D.Ins)] : List D.Ins))).length : Int)).A, ((((((a ++ ([(⟨8, 3, 0, 0⟩ : D.Ins)] : List D.Ins)) ++ ([(⟨10, 3, 0, 0⟩ : D.Ins)] : List D.Ins)) ++ ([(⟨3, 0, 0, 1⟩ : D.Ins), (⟨1, 2, 1, 0⟩ : D.Ins), (⟨4, 3, 3, 2⟩ : D.Ins)] : List D.Ins)) ++ ([(⟨11, 0, (((a ++ ([(⟨8, 3, 0, 0⟩ : D.Ins)] : List D.Ins))).length : Int), 0⟩ : D.Ins)] : List D.Ins))).length : Int), (rd ((((a ++ ([(⟨8, 3, 0, 0⟩ : D.Ins)] : List D.Ins)) ++ ([(⟨10, 3, 0, 0⟩ : D.Ins)] : List D.Ins)) ++ ([(⟨3, 0, 0, 1⟩ : D.Ins), (⟨1, 2, 1, 0⟩ : D.Ins), (⟨4, 3, 3, 2⟩ : D.Ins)] : List D.Ins)) ++ ([(⟨11, 0, (((a ++ ([(⟨8, 3, 0, 0⟩ : D.Ins)] : List D.Ins))).length : Int), 0⟩ : D.Ins)] : List D.Ins)) (((a ++ ([(⟨8, 3, 0, 0⟩ : D.Ins)] : List D.Ins))).length : Int)).C⟩ : D.Ins)), (wrap .i64 (g - 1)), d.2.i, d.2.h, ()))))))))) ((M.qe1 (⟨e.b, d.2.i, d.2.h⟩ : D.Cur) ∧ ∀ n, n = M.qaq (⟨e.b, d.2.i, d.2.h⟩ : D.Cur) → ((a.length + ([n.1] : List D.Ins).length ≤ 17179869184) ∧ l ((a ++ ([n.1] : List D.Ins)), (wrap .i64 (g - 1)), n.2.i, n.2.h, ()))))))) (Q (a, (⟨e.b, p, q⟩ : D.Cur)))) (Q (a, (⟨e.b, p, q⟩ : D.Cur)))) (r, o.1, o.2.i, o.2.h, ()))
end Go.V
