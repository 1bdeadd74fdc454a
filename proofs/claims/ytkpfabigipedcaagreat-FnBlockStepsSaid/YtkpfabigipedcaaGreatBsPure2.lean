import Derived.Test.YtkpfabigipedcaaGreatBsPure
set_option linter.unusedVariables false
namespace Go.V.M
def qmC (x : D.Warp) : Prop := Long x.Frames ∧ Long x.Regs
def qmG (l : List D.Warp) : Prop := Long l ∧ ∀ x ∈ l, qmC x
def qi9 (b : D.Block) : Prop := Long b.Code ∧ qmG b.Warps ∧ Long b.Memory
def qlu (x : D.Warp) : Prop := x.Frames.length ≤ 2097152 ∧ x.Regs.length ≤ 2097152
def qnD (l : List D.Warp) : Prop := l.length ≤ 2097152 ∧ ∀ x ∈ l, qlu x
def qmt (b : D.Block) : Prop := b.Code.length ≤ 2097152 ∧ qnD b.Warps ∧ b.Memory.length ≤ 2097152
def qcL (fs : List D.Frame) : D.Frame := rd fs (((fs.length : Nat) : Int) - 1)
def qdY (n : Int) (f : D.Frame) : Bool := isIn f.Pc 0 n && (isIn f.Stop 0 n && (qfp f.Mask && f.Mask != 0))
def qhL (fs : List D.Frame) (n : Int) : Bool := decide (fs.length ≤ 24) && ((qcL fs).Pc != (qcL fs).Stop && ((qcL fs).Pc != n && ((rd fs 0).Stop == n && (rd fs 0).Mask == 255)))
def qdJ (fs : List D.Frame) (n : Int) : Bool := fs.all (qdY n) && (fs.isEmpty || qhL fs n)
def qbO := qdJ
def qf8 (fs : List D.Frame) (n : Int) : Prop := Long fs
def qbR (r : List Int) : Bool := r.length == 32
def qfo (p : List D.Ins) (x : D.Warp) : Bool := isIn x.Number 0 2 && (x.Regs.length == 32 && (x.Regs.all isWord && qdJ x.Frames p.length))
def qcv := qfo
def qfF (p : List D.Ins) (x : D.Warp) : Prop := qmC x
def qbC (n : Int) : Bool := isIn n 1 3
def qb8 (m : List Int) : Bool := m.length == 32 && m.all isWord
def qfs (m : List Int) : Prop := Long m
def qh9 (n : Nat) : Int := IntKind.wrap .i64 ((IntKind.wrap .i64 (1 * 2 ^ (min ((n : Int).toNat) (IntKind.bits .i64)))) - 2)
def qgw (p : List D.Ins) (k : Nat) (x : D.Warp) : Bool := x.Number == (k : Int) && qfo p x
def qda (p : List D.Ins) : Nat → List D.Warp → Bool
 | _, [] => true
 | k, x :: l => qgw p k x && qda p (k + 1) l
def qdS (b : D.Block) : Bool :=
 qaT b.Code && (isIn b.Warps.length 1 3 && (qb8 b.Memory && (isIn b.Waiting 0 (qh9 b.Warps.length) && (isIn b.Phase 0 100000 && qda b.Code 0 b.Warps))))
def qcn := qdS
def qeK (b : D.Block) : Prop := qi9 b
def qf5 (b : D.Block) (w : Int) : Bool := qdS b && isIn w 0 (IntKind.wrap .i64 (((b.Warps.length : Nat) : Int) - 1))
def qc8 := qf5
def qeh (b : D.Block) (w : Int) : Prop := qi9 b
def waits (b : D.Block) (w : Int) : Bool := (qdt .i64 (Int.fdiv b.Waiting (2 ^ (min (w.toNat) (IntKind.bits .i64)))) 1) == 1
def qb1 := waits
def qdC (b : D.Block) (w : Int) : Prop := 0 ≤ w
def qgQ (b : D.Block) (w : Int) : Bool := qf5 b w && waits b w
def qay := qgQ
def qbF (b : D.Block) (w : Int) : Prop := qi9 b
def Has (b : D.Block) (w : Int) : Prop := qi9 b ∧ qf5 b w = true
def qcB (b : D.Block) (w : Int) : D.Ins := rd b.Code (qcL (rd b.Warps w).Frames).Pc
def qcb := qcB
def qeg (b : D.Block) (w : Int) : Prop := Has b w ∧ (rd b.Warps w).Frames ≠ []
def qjv (b : D.Block) (w : Int) : Int := if qf5 b w && !(rd b.Warps w).Frames.isEmpty then (qcB b w).Op else -1
def qau (b : D.Block) (w : Int) : D.Ins × Bool := if (rd b.Warps w).Frames.isEmpty then (⟨0, 0, 0, 0⟩, false) else (qcB b w, true)
def qdi (b : D.Block) (w : Int) : Prop := Has b w
def qcY := qjv
def qgm (b : D.Block) (w : Int) : Prop := qi9 b
def qag (a b : List D.Ins) : Bool := a == b
def qd8 (a b : List D.Ins) : Prop := Long a
def qac (a b : List D.Frame) : Bool := a == b
def qcH (a b : List D.Frame) : Prop := Long a
def qas (a b : List Int) : Bool := a == b
def qdu (a b : List Int) : Prop := Long a
def allTwo (g : D.Warp → D.Warp → Bool) : List D.Warp → List D.Warp → Bool
 | [], [] => true
 | x :: l, y :: m => g x y && allTwo g l m
 | _, _ => false
def qa3 (a b : List D.Warp) (g : D.Warp → D.Warp → Bool) : Bool := allTwo g a b
def qb4 (a b : List D.Warp) (g : D.Warp → D.Warp → Bool) (D : D.Warp → D.Warp → Prop) : Prop := Long a ∧ ∀ x ∈ a, ∀ y, D x y
def qbw (a b : D.Warp) : Bool := a == b
def qeA (a b : D.Warp) : Prop := qmC a
def qbX (a b : D.Block) : Bool := a == b
def qfd (a b : D.Block) : Prop := qi9 a
end Go.V.M
