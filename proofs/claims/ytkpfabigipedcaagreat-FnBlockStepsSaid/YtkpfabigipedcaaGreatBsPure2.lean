import Derived.Test.YtkpfabigipedcaaGreatBsPure
set_option linter.unusedVariables false
namespace Go.V.M
def qmx (x : D.Warp) : Prop := Long x.Frames ∧ Long x.Regs
def qmg (l : List D.Warp) : Prop := Long l ∧ ∀ x ∈ l, qmx x
def qic (b : D.Block) : Prop := Long b.Code ∧ qmg b.Warps ∧ Long b.Memory
def qll (x : D.Warp) : Prop := x.Frames.length ≤ 2097152 ∧ x.Regs.length ≤ 2097152
def qnN (l : List D.Warp) : Prop := l.length ≤ 2097152 ∧ ∀ x ∈ l, qll x
def qmJ (b : D.Block) : Prop := b.Code.length ≤ 2097152 ∧ qnN b.Warps ∧ b.Memory.length ≤ 2097152
def qcM (fs : List D.Frame) : D.Frame := rd fs (((fs.length : Nat) : Int) - 1)
def qdZ (n : Int) (f : D.Frame) : Bool := isIn f.Pc 0 n && (isIn f.Stop 0 n && (qfo f.Mask && f.Mask != 0))
def qhI (fs : List D.Frame) (n : Int) : Bool := decide (fs.length ≤ 24) && ((qcM fs).Pc != (qcM fs).Stop && ((qcM fs).Pc != n && ((rd fs 0).Stop == n && (rd fs 0).Mask == 255)))
def qdL (fs : List D.Frame) (n : Int) : Bool := fs.all (qdZ n) && (fs.isEmpty || qhI fs n)
def qbP := qdL
def qff (fs : List D.Frame) (n : Int) : Prop := Long fs
def qbR (r : List Int) : Bool := r.length == 32
def qfp (p : List D.Ins) (x : D.Warp) : Bool := isIn x.Number 0 2 && (x.Regs.length == 32 && (x.Regs.all isWord && qdL x.Frames p.length))
def qcs := qfp
def qfw (p : List D.Ins) (x : D.Warp) : Prop := qmx x
def qbC (n : Int) : Bool := isIn n 1 3
def qba (m : List Int) : Bool := m.length == 32 && m.all isWord
def qfr (m : List Int) : Prop := Long m
def qh8 (n : Nat) : Int := IntKind.wrap .i64 ((IntKind.wrap .i64 (1 * 2 ^ (min ((n : Int).toNat) (IntKind.bits .i64)))) - 2)
def qgy (p : List D.Ins) (k : Nat) (x : D.Warp) : Bool := x.Number == (k : Int) && qfp p x
def qdc (p : List D.Ins) : Nat → List D.Warp → Bool
 | _, [] => true
 | k, x :: l => qgy p k x && qdc p (k + 1) l
def qdR (b : D.Block) : Bool :=
 qaT b.Code && (isIn b.Warps.length 1 3 && (qba b.Memory && (isIn b.Waiting 0 (qh8 b.Warps.length) && (isIn b.Phase 0 100000 && qdc b.Code 0 b.Warps))))
def qco := qdR
def qeR (b : D.Block) : Prop := qic b
def qfd (b : D.Block) (w : Int) : Bool := qdR b && isIn w 0 (IntKind.wrap .i64 (((b.Warps.length : Nat) : Int) - 1))
def qc0 := qfd
def qeh (b : D.Block) (w : Int) : Prop := qic b
def waits (b : D.Block) (w : Int) : Bool := (qdv .i64 (Int.fdiv b.Waiting (2 ^ (min (w.toNat) (IntKind.bits .i64)))) 1) == 1
def qb1 := waits
def qdD (b : D.Block) (w : Int) : Prop := 0 ≤ w
def qgM (b : D.Block) (w : Int) : Bool := qfd b w && waits b w
def qay := qgM
def qbF (b : D.Block) (w : Int) : Prop := qic b
def Has (b : D.Block) (w : Int) : Prop := qic b ∧ qfd b w = true
def qcA (b : D.Block) (w : Int) : D.Ins := rd b.Code (qcM (rd b.Warps w).Frames).Pc
def qc8 := qcA
def qef (b : D.Block) (w : Int) : Prop := Has b w ∧ (rd b.Warps w).Frames ≠ []
def qjz (b : D.Block) (w : Int) : Int := if qfd b w && !(rd b.Warps w).Frames.isEmpty then (qcA b w).Op else -1
def qau (b : D.Block) (w : Int) : D.Ins × Bool := if (rd b.Warps w).Frames.isEmpty then (⟨0, 0, 0, 0⟩, false) else (qcA b w, true)
def qdj (b : D.Block) (w : Int) : Prop := Has b w
def qcX := qjz
def qgi (b : D.Block) (w : Int) : Prop := qic b
def qag (a b : List D.Ins) : Bool := a == b
def qd9 (a b : List D.Ins) : Prop := Long a
def qac (a b : List D.Frame) : Bool := a == b
def qcK (a b : List D.Frame) : Prop := Long a
def qar (a b : List Int) : Bool := a == b
def qdr (a b : List Int) : Prop := Long a
def allTwo (g : D.Warp → D.Warp → Bool) : List D.Warp → List D.Warp → Bool
 | [], [] => true
 | x :: l, y :: m => g x y && allTwo g l m
 | _, _ => false
def qa3 (a b : List D.Warp) (g : D.Warp → D.Warp → Bool) : Bool := allTwo g a b
def qb4 (a b : List D.Warp) (g : D.Warp → D.Warp → Bool) (D : D.Warp → D.Warp → Prop) : Prop := Long a ∧ ∀ x ∈ a, ∀ y, D x y
def qbw (a b : D.Warp) : Bool := a == b
def qeC (a b : D.Warp) : Prop := qmx a
def qbY (a b : D.Block) : Bool := a == b
def qfb (a b : D.Block) : Prop := qic a
end Go.V.M
