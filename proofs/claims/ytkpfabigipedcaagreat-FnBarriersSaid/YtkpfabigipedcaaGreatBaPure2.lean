import Derived.Test.YtkpfabigipedcaaGreatBaPure
set_option linter.unusedVariables false
namespace Go.V.M
def qmB (x : D.Warp) : Prop := Long x.Frames ∧ Long x.Regs
def qlY (l : List D.Warp) : Prop := Long l ∧ ∀ x ∈ l, qmB x
def qgV (b : D.Block) : Prop := Long b.Code ∧ qlY b.Warps ∧ Long b.Memory
def qlb (x : D.Warp) : Prop := x.Frames.length ≤ 2097152 ∧ x.Regs.length ≤ 2097152
def qnh (l : List D.Warp) : Prop := l.length ≤ 2097152 ∧ ∀ x ∈ l, qlb x
def qlE (b : D.Block) : Prop := b.Code.length ≤ 2097152 ∧ qnh b.Warps ∧ b.Memory.length ≤ 2097152
def qb3 (fs : List D.Frame) : D.Frame := rd fs (((fs.length : Nat) : Int) - 1)
def qd1 (n : Int) (f : D.Frame) : Bool := isIn f.Pc 0 n && (isIn f.Stop 0 n && (qeL f.Mask && f.Mask != 0))
def qgE (fs : List D.Frame) (n : Int) : Bool := decide (fs.length ≤ 24) && ((qb3 fs).Pc != (qb3 fs).Stop && ((qb3 fs).Pc != n && ((rd fs 0).Stop == n && (rd fs 0).Mask == 255)))
def qcW (fs : List D.Frame) (n : Int) : Bool := fs.all (qd1 n) && (fs.isEmpty || qgE fs n)
def qbD := qcW
def qeH (fs : List D.Frame) (n : Int) : Prop := Long fs
def qbK (r : List Int) : Bool := r.length == 32
def qeM (p : List D.Ins) (x : D.Warp) : Bool := isIn x.Number 0 2 && (x.Regs.length == 32 && (x.Regs.all isWord && qcW x.Frames p.length))
def qc0 := qeM
def qeO (p : List D.Ins) (x : D.Warp) : Prop := qmB x
def qaW (n : Int) : Bool := isIn n 1 3
def qbo (m : List Int) : Bool := m.length == 32 && m.all isWord
def qf1 (m : List Int) : Prop := Long m
def qgd (n : Nat) : Int := IntKind.wrap .i64 ((IntKind.wrap .i64 (1 * 2 ^ (min ((n : Int).toNat) (IntKind.bits .i64)))) - 2)
def qfD (p : List D.Ins) (k : Nat) (x : D.Warp) : Bool := x.Number == (k : Int) && qeM p x
def qcA (p : List D.Ins) : Nat → List D.Warp → Bool
 | _, [] => true
 | k, x :: l => qfD p k x && qcA p (k + 1) l
def qcH (b : D.Block) : Bool :=
 qat b.Code && (isIn b.Warps.length 1 3 && (qbo b.Memory && (isIn b.Waiting 0 (qgd b.Warps.length) && (isIn b.Phase 0 100000 && qcA b.Code 0 b.Warps))))
def qbr := qcH
def qda (b : D.Block) : Prop := qgV b
def qfy (b : D.Block) (w : Int) : Bool := qcH b && isIn w 0 (IntKind.wrap .i64 (((b.Warps.length : Nat) : Int) - 1))
def qcw := qfy
def qfh (b : D.Block) (w : Int) : Prop := qgV b
def waits (b : D.Block) (w : Int) : Bool := (qds .i64 (Int.fdiv b.Waiting (2 ^ (min (w.toNat) (IntKind.bits .i64)))) 1) == 1
def qbi := waits
def qdo (b : D.Block) (w : Int) : Prop := 0 ≤ w
def ended (b : D.Block) : Bool := b.Warps.all fun x => x.Frames.isEmpty
def qfL (b : D.Block) : Bool := qcH b && ended b
def qa4 (l : List D.Warp) (g : D.Warp → Bool) : Int := qd7 g l 0
def qcd (l : List D.Warp) (g : D.Warp → Bool) (D : D.Warp → Prop) : Prop := Long l ∧ ∀ x ∈ l, D x
def qa5 (l : List D.Warp) (g : D.Warp → Bool) : Bool := l.any g
def qbQ (l : List D.Warp) (g : D.Warp → Bool) (D : D.Warp → Prop) : Prop := Long l ∧ ∀ x ∈ l, D x
def qaT (x : D.Warp) : Bool := !x.Frames.isEmpty
def qdM (x : D.Warp) : Prop := True
def qaX := ended
def qdm (b : D.Block) : Prop := Long b.Warps
def qbC := qfL
def qem (b : D.Block) : Prop := qgV b
def Has (b : D.Block) (w : Int) : Prop := qgV b ∧ qfy b w = true
def qcZ (b : D.Block) (w : Int) : D.Ins := rd b.Code (qb3 (rd b.Warps w).Frames).Pc
def qiT (b : D.Block) (w : Int) : Int := if qfy b w && !(rd b.Warps w).Frames.isEmpty then (qcZ b w).Op else -1
def qan (b : D.Block) (w : Int) : D.Ins × Bool := if (rd b.Warps w).Frames.isEmpty then (⟨0, 0, 0, 0⟩, false) else (qcZ b w, true)
def qcI (b : D.Block) (w : Int) : Prop := Has b w
def qcu := qiT
def qfw (b : D.Block) (w : Int) : Prop := qgV b
def qfN (b : D.Block) (w : Int) : Bool := qiT b w == 16
def qcg := qfN
def qeJ (b : D.Block) (w : Int) : Prop := qgV b
def qdj (b : D.Block) (w : Int) : Bool := qfN b w && decide ((((rd b.Warps w).Frames.length : Nat) : Int) > 1)
def qaQ := qdj
def qdB (b : D.Block) (w : Int) : Prop := qgV b
end Go.V.M
