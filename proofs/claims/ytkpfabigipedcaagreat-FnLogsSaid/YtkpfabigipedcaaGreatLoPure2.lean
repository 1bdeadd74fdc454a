import Derived.Test.YtkpfabigipedcaaGreatLoPure
set_option linter.unusedVariables false
namespace Go.V.M
def qnH (x : D.Warp) : Prop := Long x.Frames ∧ Long x.Regs
def qoc (l : List D.Warp) : Prop := Long l ∧ ∀ x ∈ l, qnH x
def qlm (b : D.Block) : Prop := Long b.Code ∧ qoc b.Warps ∧ Long b.Memory
def qmY (x : D.Warp) : Prop := x.Frames.length ≤ 2097152 ∧ x.Regs.length ≤ 2097152
def qpe (l : List D.Warp) : Prop := l.length ≤ 2097152 ∧ ∀ x ∈ l, qmY x
def qnN (b : D.Block) : Prop := b.Code.length ≤ 2097152 ∧ qpe b.Warps ∧ b.Memory.length ≤ 2097152
def qdb (fs : List D.Frame) : D.Frame := rd fs (((fs.length : Nat) : Int) - 1)
def qem (n : Int) (f : D.Frame) : Bool := isIn f.Pc 0 n && (isIn f.Stop 0 n && (qfS f.Mask && f.Mask != 0))
def qiu (fs : List D.Frame) (n : Int) : Bool := decide (fs.length ≤ 24) && ((qdb fs).Pc != (qdb fs).Stop && ((qdb fs).Pc != n && ((rd fs 0).Stop == n && (rd fs 0).Mask == 255)))
def qef (fs : List D.Frame) (n : Int) : Bool := fs.all (qem n) && (fs.isEmpty || qiu fs n)
def qcb := qef
def qfM (fs : List D.Frame) (n : Int) : Prop := Long fs
def qcj (r : List Int) : Bool := r.length == 32
def qfQ (p : List D.Ins) (x : D.Warp) : Bool := isIn x.Number 0 2 && (x.Regs.length == 32 && (x.Regs.all isWord && qef x.Frames p.length))
def qcK := qfQ
def qg1 (p : List D.Ins) (x : D.Warp) : Prop := qnH x
def qbU (n : Int) : Bool := isIn n 1 3
def qbp (m : List Int) : Bool := m.length == 32 && m.all isWord
def qfX (m : List Int) : Prop := Long m
def qhJ (n : Nat) : Int := IntKind.wrap .i64 ((IntKind.wrap .i64 (1 * 2 ^ (min ((n : Int).toNat) (IntKind.bits .i64)))) - 2)
def qh2 (p : List D.Ins) (k : Nat) (x : D.Warp) : Bool := x.Number == (k : Int) && qfQ p x
def qdx (p : List D.Ins) : Nat → List D.Warp → Bool
 | _, [] => true
 | k, x :: l => qh2 p k x && qdx p (k + 1) l
def qdE (b : D.Block) : Bool :=
 qb6 b.Code && (isIn b.Warps.length 1 3 && (qbp b.Memory && (isIn b.Waiting 0 (qhJ b.Warps.length) && (isIn b.Phase 0 100000 && qdx b.Code 0 b.Warps))))
def qcW := qdE
def qfg (b : D.Block) : Prop := qlm b
def qld (b : D.Block) (w : Int) : Bool := qdE b && isIn w 0 (IntKind.wrap .i64 (((b.Warps.length : Nat) : Int) - 1))
def waits (b : D.Block) (w : Int) : Bool := (qdU .i64 (Int.fdiv b.Waiting (2 ^ (min (w.toNat) (IntKind.bits .i64)))) 1) == 1
def qbH := waits
def qeq (b : D.Block) (w : Int) : Prop := 0 ≤ w
def Has (b : D.Block) (w : Int) : Prop := qlm b ∧ qld b w = true
def qbS (b : D.Block) (w : Int) : D.Ins := rd b.Code (qdb (rd b.Warps w).Frames).Pc
def qcs := qbS
def qeH (b : D.Block) (w : Int) : Prop := Has b w ∧ (rd b.Warps w).Frames ≠ []
def qaC (b : D.Block) (w : Int) : D.Ins × Bool := if (rd b.Warps w).Frames.isEmpty then (⟨0, 0, 0, 0⟩, false) else (qbS b w, true)
def qdG (b : D.Block) (w : Int) : Prop := Has b w
def qal (a b : List D.Ins) : Bool := a == b
def qdt (a b : List D.Ins) : Prop := Long a
def qaf (a b : List D.Frame) : Bool := a == b
def qd7 (a b : List D.Frame) : Prop := Long a
def qax (a b : List Int) : Bool := a == b
def qdT (a b : List Int) : Prop := Long a
def allTwo (g : D.Warp → D.Warp → Bool) : List D.Warp → List D.Warp → Bool
 | [], [] => true
 | x :: l, y :: m => g x y && allTwo g l m
 | _, _ => false
def qa4 (a b : List D.Warp) (g : D.Warp → D.Warp → Bool) : Bool := allTwo g a b
def qbj (a b : List D.Warp) (g : D.Warp → D.Warp → Bool) (D : D.Warp → D.Warp → Prop) : Prop := Long a ∧ ∀ x ∈ a, ∀ y, D x y
def qce (a b : D.Warp) : Bool := a == b
def qga (a b : D.Warp) : Prop := qnH a
def qcm (a b : D.Block) : Bool := a == b
def qfB (a b : D.Block) : Prop := qlm a
end Go.V.M
