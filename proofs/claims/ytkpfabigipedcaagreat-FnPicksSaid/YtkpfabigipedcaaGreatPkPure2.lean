import Derived.Test.YtkpfabigipedcaaGreatPkPure
set_option linter.unusedVariables false
namespace Go.V.M
def qnp (x : D.Warp) : Prop := Long x.Frames ∧ Long x.Regs
def qnj (l : List D.Warp) : Prop := Long l ∧ ∀ x ∈ l, qnp x
def qix (b : D.Block) : Prop := Long b.Code ∧ qnj b.Warps ∧ Long b.Memory
def qm7 (x : D.Warp) : Prop := x.Frames.length ≤ 2097152 ∧ x.Regs.length ≤ 2097152
def qo0 (l : List D.Warp) : Prop := l.length ≤ 2097152 ∧ ∀ x ∈ l, qm7 x
def qn3 (b : D.Block) : Prop := b.Code.length ≤ 2097152 ∧ qo0 b.Warps ∧ b.Memory.length ≤ 2097152
def qd0 (fs : List D.Frame) : D.Frame := rd fs (((fs.length : Nat) : Int) - 1)
def qeg (n : Int) (f : D.Frame) : Bool := isIn f.Pc 0 n && (isIn f.Stop 0 n && (qfM f.Mask && f.Mask != 0))
def qia (fs : List D.Frame) (n : Int) : Bool := decide (fs.length ≤ 24) && ((qd0 fs).Pc != (qd0 fs).Stop && ((qd0 fs).Pc != n && ((rd fs 0).Stop == n && (rd fs 0).Mask == 255)))
def qe5 (fs : List D.Frame) (n : Int) : Bool := fs.all (qeg n) && (fs.isEmpty || qia fs n)
def qbU := qe5
def qfv (fs : List D.Frame) (n : Int) : Prop := Long fs
def qc9 (r : List Int) : Bool := r.length == 32
def qfN (p : List D.Ins) (x : D.Warp) : Bool := isIn x.Number 0 2 && (x.Regs.length == 32 && (x.Regs.all isWord && qe5 x.Frames p.length))
def qcH := qfN
def qfQ (p : List D.Ins) (x : D.Warp) : Prop := qnp x
def qbL (n : Int) : Bool := isIn n 1 3
def qbf (m : List Int) : Bool := m.length == 32 && m.all isWord
def qfX (m : List Int) : Prop := Long m
def qhB (n : Nat) : Int := IntKind.wrap .i64 ((IntKind.wrap .i64 (1 * 2 ^ (min ((n : Int).toNat) (IntKind.bits .i64)))) - 2)
def qgT (p : List D.Ins) (k : Nat) (x : D.Warp) : Bool := x.Number == (k : Int) && qfN p x
def qdq (p : List D.Ins) : Nat → List D.Warp → Bool
 | _, [] => true
 | k, x :: l => qgT p k x && qdq p (k + 1) l
def qcT (b : D.Block) : Bool :=
 qaW b.Code && (isIn b.Warps.length 1 3 && (qbf b.Memory && (isIn b.Waiting 0 (qhB b.Warps.length) && (isIn b.Phase 0 100000 && qdq b.Code 0 b.Warps))))
def qbl := qcT
def qdR (b : D.Block) : Prop := qix b
def qhs (b : D.Block) (w : Int) : Bool := qcT b && isIn w 0 (IntKind.wrap .i64 (((b.Warps.length : Nat) : Int) - 1))
def qdl := qhs
def qgo (b : D.Block) (w : Int) : Prop := qix b
def waits (b : D.Block) (w : Int) : Bool := (qdH .i64 (Int.fdiv b.Waiting (2 ^ (min (w.toNat) (IntKind.bits .i64)))) 1) == 1
def qbB := waits
def qej (b : D.Block) (w : Int) : Prop := 0 ≤ w
def ended (b : D.Block) : Bool := b.Warps.all fun x => x.Frames.isEmpty
def qgF (b : D.Block) : Bool := qcT b && ended b
def qaa (l : List D.Warp) (g : D.Warp → Bool) : Int := qe9 g l 0
def qcL (l : List D.Warp) (g : D.Warp → Bool) (D : D.Warp → Prop) : Prop := Long l ∧ ∀ x ∈ l, D x
def qab (l : List D.Warp) (g : D.Warp → Bool) : Bool := l.any g
def qcm (l : List D.Warp) (g : D.Warp → Bool) (D : D.Warp → Prop) : Prop := Long l ∧ ∀ x ∈ l, D x
def qb9 (x : D.Warp) : Bool := !x.Frames.isEmpty
def qeC (x : D.Warp) : Prop := True
def qbb := ended
def qel (b : D.Block) : Prop := Long b.Warps
def qbn := qgF
def qet (b : D.Block) : Prop := qix b
def Has (b : D.Block) (w : Int) : Prop := qix b ∧ qhs b w = true
def qd6 (b : D.Block) (w : Int) : D.Ins := rd b.Code (qd0 (rd b.Warps w).Frames).Pc
def qch := qd6
def qez (b : D.Block) (w : Int) : Prop := Has b w ∧ (rd b.Warps w).Frames ≠ []
def qaB (b : D.Block) (w : Int) : D.Ins × Bool := if (rd b.Warps w).Frames.isEmpty then (⟨0, 0, 0, 0⟩, false) else (qd6 b w, true)
def qe8 (b : D.Block) (w : Int) : Prop := Has b w
def qal (a b : List D.Ins) : Bool := a == b
def qdn (a b : List D.Ins) : Prop := Long a
def qah (a b : List D.Frame) : Bool := a == b
def qcV (a b : List D.Frame) : Prop := Long a
def qav (a b : List Int) : Bool := a == b
def qdI (a b : List Int) : Prop := Long a
def allTwo (g : D.Warp → D.Warp → Bool) : List D.Warp → List D.Warp → Bool
 | [], [] => true
 | x :: l, y :: m => g x y && allTwo g l m
 | _, _ => false
def qa4 (a b : List D.Warp) (g : D.Warp → D.Warp → Bool) : Bool := allTwo g a b
def qb8 (a b : List D.Warp) (g : D.Warp → D.Warp → Bool) (D : D.Warp → D.Warp → Prop) : Prop := Long a ∧ ∀ x ∈ a, ∀ y, D x y
def qc0 (a b : D.Warp) : Bool := a == b
def qfU (a b : D.Warp) : Prop := qnp a
def qce (a b : D.Block) : Bool := a == b
def qfy (a b : D.Block) : Prop := qix a
end Go.V.M
