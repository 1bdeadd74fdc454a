import Derived.Test.YtkpfabigipedcaaGreatLoPure
set_option linter.unusedVariables false
namespace Go.V.M
def qow (x : D.Warp) : Prop := Long x.Frames ∧ Long x.Regs
def qo7 (l : List D.Warp) : Prop := Long l ∧ ∀ x ∈ l, qow x
def qll (b : D.Block) : Prop := Long b.Code ∧ qo7 b.Warps ∧ Long b.Memory
def qmF (x : D.Warp) : Prop := x.Frames.length ≤ 2097152 ∧ x.Regs.length ≤ 2097152
def qpP (l : List D.Warp) : Prop := l.length ≤ 2097152 ∧ ∀ x ∈ l, qmF x
def qo1 (b : D.Block) : Prop := b.Code.length ≤ 2097152 ∧ qpP b.Warps ∧ b.Memory.length ≤ 2097152
def qdb (fs : List D.Frame) : D.Frame := rd fs (((fs.length : Nat) : Int) - 1)
def qem (n : Int) (f : D.Frame) : Bool := isIn f.Pc 0 n && (isIn f.Stop 0 n && (qfR f.Mask && f.Mask != 0))
def qig (fs : List D.Frame) (n : Int) : Bool := decide (fs.length ≤ 24) && ((qdb fs).Pc != (qdb fs).Stop && ((qdb fs).Pc != n && ((rd fs 0).Stop == n && (rd fs 0).Mask == 255)))
def qee (fs : List D.Frame) (n : Int) : Bool := fs.all (qem n) && (fs.isEmpty || qig fs n)
def qcb := qee
def qfy (fs : List D.Frame) (n : Int) : Prop := Long fs
def qch (r : List Int) : Bool := r.length == 32
def qfS (p : List D.Ins) (x : D.Warp) : Bool := isIn x.Number 0 2 && (x.Regs.length == 32 && (x.Regs.all isWord && qee x.Frames p.length))
def qcK := qfS
def qfY (p : List D.Ins) (x : D.Warp) : Prop := qow x
def qbV (n : Int) : Bool := isIn n 1 3
def qbm (m : List Int) : Bool := m.length == 32 && m.all isWord
def qfW (m : List Int) : Prop := Long m
def qhJ (n : Nat) : Int := IntKind.wrap .i64 ((IntKind.wrap .i64 (1 * 2 ^ (min ((n : Int).toNat) (IntKind.bits .i64)))) - 2)
def qh1 (p : List D.Ins) (k : Nat) (x : D.Warp) : Bool := x.Number == (k : Int) && qfS p x
def qdy (p : List D.Ins) : Nat → List D.Warp → Bool
 | _, [] => true
 | k, x :: l => qh1 p k x && qdy p (k + 1) l
def qdE (b : D.Block) : Bool :=
 qb6 b.Code && (isIn b.Warps.length 1 3 && (qbm b.Memory && (isIn b.Waiting 0 (qhJ b.Warps.length) && (isIn b.Phase 0 100000 && qdy b.Code 0 b.Warps))))
def qcW := qdE
def qfg (b : D.Block) : Prop := qll b
def ql3 (b : D.Block) (w : Int) : Bool := qdE b && isIn w 0 (IntKind.wrap .i64 (((b.Warps.length : Nat) : Int) - 1))
def waits (b : D.Block) (w : Int) : Bool := (qdQ .i64 (Int.fdiv b.Waiting (2 ^ (min (w.toNat) (IntKind.bits .i64)))) 1) == 1
def qbI := waits
def qeq (b : D.Block) (w : Int) : Prop := 0 ≤ w
def Has (b : D.Block) (w : Int) : Prop := qll b ∧ ql3 b w = true
def qbR (b : D.Block) (w : Int) : D.Ins := rd b.Code (qdb (rd b.Warps w).Frames).Pc
def qcs := qbR
def qeH (b : D.Block) (w : Int) : Prop := Has b w ∧ (rd b.Warps w).Frames ≠ []
def qaC (b : D.Block) (w : Int) : D.Ins × Bool := if (rd b.Warps w).Frames.isEmpty then (⟨0, 0, 0, 0⟩, false) else (qbR b w, true)
def qdG (b : D.Block) (w : Int) : Prop := Has b w
def qal (a b : List D.Ins) : Bool := a == b
def qdt (a b : List D.Ins) : Prop := Long a
def qag (a b : List D.Frame) : Bool := a == b
def qd6 (a b : List D.Frame) : Prop := Long a
def qax (a b : List Int) : Bool := a == b
def qdP (a b : List Int) : Prop := Long a
def allTwo (g : D.Warp → D.Warp → Bool) : List D.Warp → List D.Warp → Bool
 | [], [] => true
 | x :: l, y :: m => g x y && allTwo g l m
 | _, _ => false
def qa4 (a b : List D.Warp) (g : D.Warp → D.Warp → Bool) : Bool := allTwo g a b
def qbi (a b : List D.Warp) (g : D.Warp → D.Warp → Bool) (D : D.Warp → D.Warp → Prop) : Prop := Long a ∧ ∀ x ∈ a, ∀ y, D x y
def qce (a b : D.Warp) : Bool := a == b
def qfU (a b : D.Warp) : Prop := qow a
def qck (a b : D.Block) : Bool := a == b
def qfM (a b : D.Block) : Prop := qll a
end Go.V.M
