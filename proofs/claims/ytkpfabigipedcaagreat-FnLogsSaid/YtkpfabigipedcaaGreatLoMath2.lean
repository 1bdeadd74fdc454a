import Derived.Test.YtkpfabigipedcaaGreatLoMath1
set_option linter.unusedVariables false
set_option linter.unusedSimpArgs false
set_option maxRecDepth 20000
namespace Go.V
open IntKind (wrap)
def wp.qaT (a : D.Warp) (d : List D.Ins) (Q : (Bool × D.Warp) → Prop) : Prop :=
 qa1 (decide ((wrap .i64 ((a.Frames.length : Int) + 2)) > 24)) (Q (false, (⟨a.Number, a.Frames, a.Regs⟩ : D.Warp))) (((0 ≤ (wrap .i64 ((a.Frames.length : Int) - 1)) ∧ (wrap .i64 ((a.Frames.length : Int) - 1)) < (a.Frames.length : Int)) ∧ ((0 ≤ (rd a.Frames (wrap .i64 ((a.Frames.length : Int) - 1))).Pc ∧ (rd a.Frames (wrap .i64 ((a.Frames.length : Int) - 1))).Pc < (d.length : Int)) ∧ (M.qdg a ((rd d ((rd a.Frames (wrap .i64 ((a.Frames.length : Int) - 1))).Pc)).A) ∧ ∀ c, c = M.qaS a ((rd d ((rd a.Frames (wrap .i64 ((a.Frames.length : Int) - 1))).Pc)).A) → (M.qgX d ((rd a.Frames (wrap .i64 ((a.Frames.length : Int) - 1))).Pc) ∧ ∀ b, b = M.qdn d ((rd a.Frames (wrap .i64 ((a.Frames.length : Int) - 1))).Pc) → ((0 ≤ (rd a.Frames (wrap .i64 ((a.Frames.length : Int) - 1))).Pc ∧ (rd a.Frames (wrap .i64 ((a.Frames.length : Int) - 1))).Pc < (d.length : Int)) ∧ (((((List.set a.Frames ((wrap .i64 ((a.Frames.length : Int) - 1)).toNat) (⟨b, (rd a.Frames (wrap .i64 ((a.Frames.length : Int) - 1))).Stop, (rd a.Frames (wrap .i64 ((a.Frames.length : Int) - 1))).Mask⟩ : D.Frame)).length + ([(⟨(wrap .i64 ((rd a.Frames (wrap .i64 ((a.Frames.length : Int) - 1))).Pc + 1)), b, (qf3 .i64 ((rd a.Frames (wrap .i64 ((a.Frames.length : Int) - 1))).Mask) c)⟩ : D.Frame), (⟨(rd d ((rd a.Frames (wrap .i64 ((a.Frames.length : Int) - 1))).Pc)).B, b, c⟩ : D.Frame)] : List D.Frame).length ≤ 17179869184) ∧ Q (true, (⟨a.Number, ((List.set a.Frames ((wrap .i64 ((a.Frames.length : Int) - 1)).toNat) (⟨b, (rd a.Frames (wrap .i64 ((a.Frames.length : Int) - 1))).Stop, (rd a.Frames (wrap .i64 ((a.Frames.length : Int) - 1))).Mask⟩ : D.Frame)) ++ ([(⟨(wrap .i64 ((rd a.Frames (wrap .i64 ((a.Frames.length : Int) - 1))).Pc + 1)), b, (qf3 .i64 ((rd a.Frames (wrap .i64 ((a.Frames.length : Int) - 1))).Mask) c)⟩ : D.Frame), (⟨(rd d ((rd a.Frames (wrap .i64 ((a.Frames.length : Int) - 1))).Pc)).B, b, c⟩ : D.Frame)] : List D.Frame)), a.Regs⟩ : D.Warp)))) ∧ ((((((List.set a.Frames ((wrap .i64 ((a.Frames.length : Int) - 1)).toNat) (⟨b, (rd a.Frames (wrap .i64 ((a.Frames.length : Int) - 1))).Stop, (rd a.Frames (wrap .i64 ((a.Frames.length : Int) - 1))).Mask⟩ : D.Frame)).length + ([(⟨(wrap .i64 ((rd a.Frames (wrap .i64 ((a.Frames.length : Int) - 1))).Pc + 1)), b, (qf3 .i64 ((rd a.Frames (wrap .i64 ((a.Frames.length : Int) - 1))).Mask) c)⟩ : D.Frame), (⟨(rd d ((rd a.Frames (wrap .i64 ((a.Frames.length : Int) - 1))).Pc)).B, b, c⟩ : D.Frame)] : List D.Frame).length ≤ 17179869184) ∧ Q (true, (⟨a.Number, ((List.set a.Frames ((wrap .i64 ((a.Frames.length : Int) - 1)).toNat) (⟨b, (rd a.Frames (wrap .i64 ((a.Frames.length : Int) - 1))).Stop, (rd a.Frames (wrap .i64 ((a.Frames.length : Int) - 1))).Mask⟩ : D.Frame)) ++ ([(⟨(wrap .i64 ((rd a.Frames (wrap .i64 ((a.Frames.length : Int) - 1))).Pc + 1)), b, (qf3 .i64 ((rd a.Frames (wrap .i64 ((a.Frames.length : Int) - 1))).Mask) c)⟩ : D.Frame), (⟨(rd d ((rd a.Frames (wrap .i64 ((a.Frames.length : Int) - 1))).Pc)).B, b, c⟩ : D.Frame)] : List D.Frame)), a.Regs⟩ : D.Warp)))) ∧ ((((List.set a.Frames ((wrap .i64 ((a.Frames.length : Int) - 1)).toNat) (⟨b, (rd a.Frames (wrap .i64 ((a.Frames.length : Int) - 1))).Stop, (rd a.Frames (wrap .i64 ((a.Frames.length : Int) - 1))).Mask⟩ : D.Frame)).length + ([(⟨(wrap .i64 ((rd a.Frames (wrap .i64 ((a.Frames.length : Int) - 1))).Pc + 1)), b, (qf3 .i64 ((rd a.Frames (wrap .i64 ((a.Frames.length : Int) - 1))).Mask) c)⟩ : D.Frame), (⟨(rd d ((rd a.Frames (wrap .i64 ((a.Frames.length : Int) - 1))).Pc)).B, b, c⟩ : D.Frame)] : List D.Frame).length ≤ 17179869184) ∧ Q (true, (⟨a.Number, ((List.set a.Frames ((wrap .i64 ((a.Frames.length : Int) - 1)).toNat) (⟨b, (rd a.Frames (wrap .i64 ((a.Frames.length : Int) - 1))).Stop, (rd a.Frames (wrap .i64 ((a.Frames.length : Int) - 1))).Mask⟩ : D.Frame)) ++ ([(⟨(wrap .i64 ((rd a.Frames (wrap .i64 ((a.Frames.length : Int) - 1))).Pc + 1)), b, (qf3 .i64 ((rd a.Frames (wrap .i64 ((a.Frames.length : Int) - 1))).Mask) c)⟩ : D.Frame), (⟨(rd d ((rd a.Frames (wrap .i64 ((a.Frames.length : Int) - 1))).Pc)).B, b, c⟩ : D.Frame)] : List D.Frame)), a.Regs⟩ : D.Warp)))) ∧ True)) ∧ True)))))))
def wp.qbc (a : D.Ins) (i : Int) (b : List Int) (c d : Nat) (Q : ((List Int)) → Prop) : Prop :=
 qa1 (a.Op == 1) (((0 ≤ a.A ∧ a.A < ((List.drop c (List.take d b)).length : Int)) ∧ Q (List.set b (c + (a.A.toNat)) a.B))) (qa1 (a.Op == 2) (((0 ≤ a.B ∧ a.B < ((List.drop c (List.take d b)).length : Int)) ∧ ((0 ≤ a.A ∧ a.A < ((List.drop c (List.take d b)).length : Int)) ∧ Q (List.set b (c + (a.A.toNat)) (rd (List.drop c (List.take d b)) a.B))))) (qa1 (a.Op == 3) (((0 ≤ a.B ∧ a.B < ((List.drop c (List.take d b)).length : Int)) ∧ ((0 ≤ a.C ∧ a.C < ((List.drop c (List.take d b)).length : Int)) ∧ (∀ e, e = M.qc0 (rd (List.drop c (List.take d b)) a.B) (rd (List.drop c (List.take d b)) a.C) → ((0 ≤ a.A ∧ a.A < ((List.drop c (List.take d b)).length : Int)) ∧ Q (List.set b (c + (a.A.toNat)) e)))))) (qa1 (a.Op == 4) (((0 ≤ a.B ∧ a.B < ((List.drop c (List.take d b)).length : Int)) ∧ ((0 ≤ a.C ∧ a.C < ((List.drop c (List.take d b)).length : Int)) ∧ (∀ f, f = M.qcv (rd (List.drop c (List.take d b)) a.B) (rd (List.drop c (List.take d b)) a.C) → ((0 ≤ a.A ∧ a.A < ((List.drop c (List.take d b)).length : Int)) ∧ Q (List.set b (c + (a.A.toNat)) f)))))) (qa1 (a.Op == 5) (((0 ≤ a.B ∧ a.B < ((List.drop c (List.take d b)).length : Int)) ∧ ((0 ≤ a.C ∧ a.C < ((List.drop c (List.take d b)).length : Int)) ∧ (∀ g, g = M.qct (rd (List.drop c (List.take d b)) a.B) (rd (List.drop c (List.take d b)) a.C) → ((0 ≤ a.A ∧ a.A < ((List.drop c (List.take d b)).length : Int)) ∧ Q (List.set b (c + (a.A.toNat)) g)))))) (qa1 (a.Op == 6) (((0 ≤ a.B ∧ a.B < ((List.drop c (List.take d b)).length : Int)) ∧ ((0 ≤ a.C ∧ a.C < ((List.drop c (List.take d b)).length : Int)) ∧ ((0 ≤ a.A ∧ a.A < ((List.drop c (List.take d b)).length : Int)) ∧ Q (List.set b (c + (a.A.toNat)) (qgY .i64 (rd (List.drop c (List.take d b)) a.B) (rd (List.drop c (List.take d b)) a.C))))))) (qa1 (a.Op == 7) (((0 ≤ a.B ∧ a.B < ((List.drop c (List.take d b)).length : Int)) ∧ ((0 ≤ a.C ∧ a.C < ((List.drop c (List.take d b)).length : Int)) ∧ (∀ h, h = M.qcm (rd (List.drop c (List.take d b)) a.B) (rd (List.drop c (List.take d b)) a.C) → ((0 ≤ a.A ∧ a.A < ((List.drop c (List.take d b)).length : Int)) ∧ Q (List.set b (c + (a.A.toNat)) h)))))) (qa1 (a.Op == 8) (((0 ≤ a.A ∧ a.A < ((List.drop c (List.take d b)).length : Int)) ∧ Q (List.set b (c + (a.A.toNat)) i))) (qa1 (a.Op == 9) (((0 ≤ a.C ∧ a.C < ((List.drop c (List.take d b)).length : Int)) ∧ qa1 ((rd (List.drop c (List.take d b)) a.C) != 0) (((0 ≤ a.B ∧ a.B < ((List.drop c (List.take d b)).length : Int)) ∧ ((0 ≤ a.A ∧ a.A < ((List.drop c (List.take d b)).length : Int)) ∧ Q (List.set b (c + (a.A.toNat)) (rd (List.drop c (List.take d b)) a.B))))) (Q b))) (Q b)))))))))
def wp.qbk (a : D.Warp) (c : List D.Ins) (Q : D.Warp → Prop) : Prop :=
 ((0 ≤ (wrap .i64 ((a.Frames.length : Int) - 1)) ∧ (wrap .i64 ((a.Frames.length : Int) - 1)) < (a.Frames.length : Int)) ∧ ((0 ≤ (rd a.Frames (wrap .i64 ((a.Frames.length : Int) - 1))).Pc ∧ (rd a.Frames (wrap .i64 ((a.Frames.length : Int) - 1))).Pc < (c.length : Int)) ∧ (∀ d, d = M.qc8 ((rd a.Frames (wrap .i64 ((a.Frames.length : Int) - 1))).Mask) → qcX (σ := Int × (List Int) × Unit) (fun (i : Int × (List Int) × Unit) j => match i with | (b, e, _) => qa1 (decide (b < (d.length : Int))) (((0 ≤ b ∧ b < (d.length : Int)) ∧ (M.qdS (⟨a.Number, a.Frames, e⟩ : D.Warp) (rd d b) ∧ (M.qgp (rd c ((rd a.Frames (wrap .i64 ((a.Frames.length : Int) - 1))).Pc)) (wrap .i64 ((wrap .i64 (a.Number * 8)) + (rd d b))) e ((wrap .i64 ((rd d b) * 4)).toNat) ((wrap .i64 ((wrap .i64 ((rd d b) + 1)) * 4)).toNat) ∧ ∀ g, g = M.qbc (rd c ((rd a.Frames (wrap .i64 ((a.Frames.length : Int) - 1))).Pc)) (wrap .i64 ((wrap .i64 (a.Number * 8)) + (rd d b))) e ((wrap .i64 ((rd d b) * 4)).toNat) ((wrap .i64 ((wrap .i64 ((rd d b) + 1)) * 4)).toNat) → j ((wrap .i64 (b + 1)), g, ()))))) (qa1 ((rd c ((rd a.Frames (wrap .i64 ((a.Frames.length : Int) - 1))).Pc)).Op == 12) (Q (⟨a.Number, (List.set a.Frames ((wrap .i64 ((a.Frames.length : Int) - 1)).toNat) (⟨(c.length : Int), (rd a.Frames (wrap .i64 ((a.Frames.length : Int) - 1))).Stop, (rd a.Frames (wrap .i64 ((a.Frames.length : Int) - 1))).Mask⟩ : D.Frame)), e⟩ : D.Warp)) (qf9 (σ := Bool × Unit) (fun f => qa1 ((rd c ((rd a.Frames (wrap .i64 ((a.Frames.length : Int) - 1))).Pc)).Op == 11) (f (true, ())) (qa1 ((rd c ((rd a.Frames (wrap .i64 ((a.Frames.length : Int) - 1))).Pc)).Op == 10) ((M.qdg (⟨a.Number, a.Frames, e⟩ : D.Warp) ((rd c ((rd a.Frames (wrap .i64 ((a.Frames.length : Int) - 1))).Pc)).A) ∧ ∀ h, h = M.qaS (⟨a.Number, a.Frames, e⟩ : D.Warp) ((rd c ((rd a.Frames (wrap .i64 ((a.Frames.length : Int) - 1))).Pc)).A) → f ((h == (rd a.Frames (wrap .i64 ((a.Frames.length : Int) - 1))).Mask), ()))) (f (false, ())))) (fun (k : Bool × Unit) => match k with | (l, _) => qa1 l (Q (⟨a.Number, (List.set a.Frames ((wrap .i64 ((a.Frames.length : Int) - 1)).toNat) (⟨(rd c ((rd a.Frames (wrap .i64 ((a.Frames.length : Int) - 1))).Pc)).B, (rd a.Frames (wrap .i64 ((a.Frames.length : Int) - 1))).Stop, (rd a.Frames (wrap .i64 ((a.Frames.length : Int) - 1))).Mask⟩ : D.Frame)), e⟩ : D.Warp)) (Q (⟨a.Number, (List.set a.Frames ((wrap .i64 ((a.Frames.length : Int) - 1)).toNat) (⟨(wrap .i64 ((rd a.Frames (wrap .i64 ((a.Frames.length : Int) - 1))).Pc + 1)), (rd a.Frames (wrap .i64 ((a.Frames.length : Int) - 1))).Stop, (rd a.Frames (wrap .i64 ((a.Frames.length : Int) - 1))).Mask⟩ : D.Frame)), e⟩ : D.Warp)))))) (0, a.Regs, ()))))
def wp.qbB (b : D.Warp) (e : Int) (Q : D.Warp → Prop) : Prop :=
 qcX (σ := Int × (List D.Frame) × Unit) (fun (f : Int × (List D.Frame) × Unit) g => match f with | (c, a, _) => qa1 (decide ((a.length : Int) > 0)) (((0 ≤ (wrap .i64 ((a.length : Int) - 1)) ∧ (wrap .i64 ((a.length : Int) - 1)) < (a.length : Int)) ∧ qf9 (σ := Unit) (fun d => qa1 ((rd a (wrap .i64 ((a.length : Int) - 1))).Pc != (rd a (wrap .i64 ((a.length : Int) - 1))).Stop) (qa1 ((rd a (wrap .i64 ((a.length : Int) - 1))).Pc != e) (Q (⟨c, a, b.Regs⟩ : D.Warp)) (d (()))) (d (()))) (fun (h : Unit) => match h with | (_) => ((0 ≤ (wrap .i64 ((a.length : Int) - 1)) ∧ (wrap .i64 ((a.length : Int) - 1)) ≤ (a.length : Int)) ∧ g (c, (List.take ((wrap .i64 ((a.length : Int) - 1)).toNat) a), ()))))) (Q (⟨c, a, b.Regs⟩ : D.Warp))) (b.Number, b.Frames, ())
def wp.qbo (a : D.Warp) (b : List D.Ins) (Q : (Bool × D.Warp) → Prop) : Prop :=
 qa1 ((a.Frames.length : Int) == 0) (Q (false, (⟨a.Number, a.Frames, a.Regs⟩ : D.Warp))) (((0 ≤ (wrap .i64 ((a.Frames.length : Int) - 1)) ∧ (wrap .i64 ((a.Frames.length : Int) - 1)) < (a.Frames.length : Int)) ∧ ((0 ≤ (rd a.Frames (wrap .i64 ((a.Frames.length : Int) - 1))).Pc ∧ (rd a.Frames (wrap .i64 ((a.Frames.length : Int) - 1))).Pc < (b.length : Int)) ∧ (∀ g, g = M.qcF (rd b ((rd a.Frames (wrap .i64 ((a.Frames.length : Int) - 1))).Pc)) → qa1 (!g) (Q (false, (⟨a.Number, a.Frames, a.Regs⟩ : D.Warp))) ((M.qep a b ∧ ∀ h, h = M.qb4 a b → qa1 h ((M.qeJ a b ∧ ∀ c, c = M.qaT a b → qa1 (!c.1) (Q (false, (⟨c.2.Number, c.2.Frames, a.Regs⟩ : D.Warp))) ((M.qel (⟨c.2.Number, c.2.Frames, a.Regs⟩ : D.Warp) (b.length : Int) ∧ ∀ e, e = M.qbB (⟨c.2.Number, c.2.Frames, a.Regs⟩ : D.Warp) (b.length : Int) → Q (true, (⟨e.Number, e.Frames, a.Regs⟩ : D.Warp)))))) ((M.qeQ a b ∧ ∀ d, d = M.qbk a b → (M.qel d (b.length : Int) ∧ ∀ f, f = M.qbB d (b.length : Int) → Q (true, (⟨f.Number, f.Frames, d.Regs⟩ : D.Warp)))))))))))
end Go.V
namespace Go.V
open IntKind (wrap)
def wp.qaM (g : List D.Ins) (e : D.Warp) (Q : D.Warp → Prop) : Prop :=
 (M.qeI e ∧ ∀ c, c = M.qcd e → qcX (σ := Int × Int × (List D.Frame) × Unit) (fun (h : Int × Int × (List D.Frame) × Unit) f => match h with | (a, d, b, _) => qa1 (decide (a ≥ 0)) (((0 ≤ a ∧ a < (b.length : Int)) ∧ qa1 ((rd b a).Pc != (rd b a).Stop) (qa1 ((rd b a).Pc != (g.length : Int)) (Q (⟨d, b, c.Regs⟩ : D.Warp)) (((0 ≤ a ∧ a ≤ (b.length : Int)) ∧ f ((wrap .i64 (a - 1)), d, (List.take (a.toNat) b), ())))) (((0 ≤ a ∧ a ≤ (b.length : Int)) ∧ f ((wrap .i64 (a - 1)), d, (List.take (a.toNat) b), ()))))) (Q (⟨d, b, c.Regs⟩ : D.Warp))) ((wrap .i64 ((c.Frames.length : Int) - 1)), c.Number, c.Frames, ()))
def wp.qd5 (d : List D.Ins) (a : D.Warp) (Q : (List Int) → Prop) : Prop :=
 ((([] : List Int).length + a.Regs.length ≤ 17179869184) ∧ ((0 ≤ (wrap .i64 ((a.Frames.length : Int) - 1)) ∧ (wrap .i64 ((a.Frames.length : Int) - 1)) < (a.Frames.length : Int)) ∧ qcX (σ := Int × (List Int) × Unit) (fun (j : Int × (List Int) × Unit) h => match j with | (b, e, _) => qa1 (decide (b < 8)) ((∀ i, i = M.qbO ((rd a.Frames (wrap .i64 ((a.Frames.length : Int) - 1))).Mask) b → qa1 i (((0 ≤ (rd a.Frames (wrap .i64 ((a.Frames.length : Int) - 1))).Pc ∧ (rd a.Frames (wrap .i64 ((a.Frames.length : Int) - 1))).Pc < (d.length : Int)) ∧ ((0 ≤ (wrap .i64 ((wrap .i64 (b + 1)) * 4)) ∧ (wrap .i64 ((wrap .i64 (b + 1)) * 4)) ≤ (a.Regs.length : Int) ∧ 0 ≤ (wrap .i64 (b * 4)) ∧ (wrap .i64 (b * 4)) ≤ (wrap .i64 ((wrap .i64 (b + 1)) * 4))) ∧ (M.qg3 (rd d ((rd a.Frames (wrap .i64 ((a.Frames.length : Int) - 1))).Pc)) (wrap .i64 ((wrap .i64 (a.Number * 8)) + b)) (List.drop ((wrap .i64 (b * 4)).toNat) (List.take ((wrap .i64 ((wrap .i64 (b + 1)) * 4)).toNat) a.Regs)) ∧ ∀ f, f = M.qb7 (rd d ((rd a.Frames (wrap .i64 ((a.Frames.length : Int) - 1))).Pc)) (wrap .i64 ((wrap .i64 (a.Number * 8)) + b)) (List.drop ((wrap .i64 (b * 4)).toNat) (List.take ((wrap .i64 ((wrap .i64 (b + 1)) * 4)).toNat) a.Regs)) → qcX (σ := Int × (List Int) × Unit) (fun (k : Int × (List Int) × Unit) l => match k with | (c, g, _) => qa1 (decide (c < 4)) (((0 ≤ c ∧ c < (f.length : Int)) ∧ ((0 ≤ (wrap .i64 ((wrap .i64 (b * 4)) + c)) ∧ (wrap .i64 ((wrap .i64 (b * 4)) + c)) < (g.length : Int)) ∧ l ((wrap .i64 (c + 1)), (List.set g ((wrap .i64 ((wrap .i64 (b * 4)) + c)).toNat) (rd f c)), ())))) (h ((wrap .i64 (b + 1)), g, ()))) (0, e, ()))))) (h ((wrap .i64 (b + 1)), e, ())))) (Q e)) (0, (([] : List Int) ++ a.Regs), ())))
def wp.qdr (c : List D.Ins) (a : D.Warp) (Q : D.Warp → Prop) : Prop :=
 (M.qeI a ∧ ∀ b, b = M.qcd a → ((0 ≤ (wrap .i64 ((a.Frames.length : Int) - 1)) ∧ (wrap .i64 ((a.Frames.length : Int) - 1)) < (a.Frames.length : Int)) ∧ ((0 ≤ (rd a.Frames (wrap .i64 ((a.Frames.length : Int) - 1))).Pc ∧ (rd a.Frames (wrap .i64 ((a.Frames.length : Int) - 1))).Pc < (c.length : Int)) ∧ (M.qeN c a ∧ ∀ l, l = M.qbl c a → qa1 l ((M.qe7 a ((rd c ((rd a.Frames (wrap .i64 ((a.Frames.length : Int) - 1))).Pc)).A) ∧ ∀ f, f = M.qaU a ((rd c ((rd a.Frames (wrap .i64 ((a.Frames.length : Int) - 1))).Pc)).A) → (M.qgx c ((rd a.Frames (wrap .i64 ((a.Frames.length : Int) - 1))).Pc) ∧ ∀ d, d = M.qcD c ((rd a.Frames (wrap .i64 ((a.Frames.length : Int) - 1))).Pc) → ((0 ≤ (wrap .i64 ((a.Frames.length : Int) - 1)) ∧ (wrap .i64 ((a.Frames.length : Int) - 1)) < (b.Frames.length : Int)) ∧ (((List.set b.Frames ((wrap .i64 ((a.Frames.length : Int) - 1)).toNat) (⟨d, (rd b.Frames (wrap .i64 ((a.Frames.length : Int) - 1))).Stop, (rd b.Frames (wrap .i64 ((a.Frames.length : Int) - 1))).Mask⟩ : D.Frame)).length + ([(⟨(wrap .i64 ((rd a.Frames (wrap .i64 ((a.Frames.length : Int) - 1))).Pc + 1)), d, (wrap .i64 ((rd a.Frames (wrap .i64 ((a.Frames.length : Int) - 1))).Mask - f))⟩ : D.Frame), (⟨(rd c ((rd a.Frames (wrap .i64 ((a.Frames.length : Int) - 1))).Pc)).B, d, f⟩ : D.Frame)] : List D.Frame).length ≤ 17179869184) ∧ (M.qcZ c (⟨b.Number, ((List.set b.Frames ((wrap .i64 ((a.Frames.length : Int) - 1)).toNat) (⟨d, (rd b.Frames (wrap .i64 ((a.Frames.length : Int) - 1))).Stop, (rd b.Frames (wrap .i64 ((a.Frames.length : Int) - 1))).Mask⟩ : D.Frame)) ++ ([(⟨(wrap .i64 ((rd a.Frames (wrap .i64 ((a.Frames.length : Int) - 1))).Pc + 1)), d, (wrap .i64 ((rd a.Frames (wrap .i64 ((a.Frames.length : Int) - 1))).Mask - f))⟩ : D.Frame), (⟨(rd c ((rd a.Frames (wrap .i64 ((a.Frames.length : Int) - 1))).Pc)).B, d, f⟩ : D.Frame)] : List D.Frame)), b.Regs⟩ : D.Warp) ∧ ∀ g, g = M.qaM c (⟨b.Number, ((List.set b.Frames ((wrap .i64 ((a.Frames.length : Int) - 1)).toNat) (⟨d, (rd b.Frames (wrap .i64 ((a.Frames.length : Int) - 1))).Stop, (rd b.Frames (wrap .i64 ((a.Frames.length : Int) - 1))).Mask⟩ : D.Frame)) ++ ([(⟨(wrap .i64 ((rd a.Frames (wrap .i64 ((a.Frames.length : Int) - 1))).Pc + 1)), d, (wrap .i64 ((rd a.Frames (wrap .i64 ((a.Frames.length : Int) - 1))).Mask - f))⟩ : D.Frame), (⟨(rd c ((rd a.Frames (wrap .i64 ((a.Frames.length : Int) - 1))).Pc)).B, d, f⟩ : D.Frame)] : List D.Frame)), b.Regs⟩ : D.Warp) → Q (⟨g.Number, g.Frames, g.Regs⟩ : D.Warp))))))) ((M.qfZ c a ∧ ∀ e, e = M.qd5 c a → qa1 ((rd c ((rd a.Frames (wrap .i64 ((a.Frames.length : Int) - 1))).Pc)).Op == 12) (((0 ≤ (wrap .i64 ((a.Frames.length : Int) - 1)) ∧ (wrap .i64 ((a.Frames.length : Int) - 1)) < (b.Frames.length : Int)) ∧ (M.qcZ c (⟨b.Number, (List.set b.Frames ((wrap .i64 ((a.Frames.length : Int) - 1)).toNat) (⟨(c.length : Int), (rd b.Frames (wrap .i64 ((a.Frames.length : Int) - 1))).Stop, (rd b.Frames (wrap .i64 ((a.Frames.length : Int) - 1))).Mask⟩ : D.Frame)), e⟩ : D.Warp) ∧ ∀ h, h = M.qaM c (⟨b.Number, (List.set b.Frames ((wrap .i64 ((a.Frames.length : Int) - 1)).toNat) (⟨(c.length : Int), (rd b.Frames (wrap .i64 ((a.Frames.length : Int) - 1))).Stop, (rd b.Frames (wrap .i64 ((a.Frames.length : Int) - 1))).Mask⟩ : D.Frame)), e⟩ : D.Warp) → Q (⟨h.Number, h.Frames, h.Regs⟩ : D.Warp)))) (qa1 ((rd c ((rd a.Frames (wrap .i64 ((a.Frames.length : Int) - 1))).Pc)).Op == 11) (((0 ≤ (wrap .i64 ((a.Frames.length : Int) - 1)) ∧ (wrap .i64 ((a.Frames.length : Int) - 1)) < (b.Frames.length : Int)) ∧ (M.qcZ c (⟨b.Number, (List.set b.Frames ((wrap .i64 ((a.Frames.length : Int) - 1)).toNat) (⟨(rd c ((rd a.Frames (wrap .i64 ((a.Frames.length : Int) - 1))).Pc)).B, (rd b.Frames (wrap .i64 ((a.Frames.length : Int) - 1))).Stop, (rd b.Frames (wrap .i64 ((a.Frames.length : Int) - 1))).Mask⟩ : D.Frame)), e⟩ : D.Warp) ∧ ∀ i, i = M.qaM c (⟨b.Number, (List.set b.Frames ((wrap .i64 ((a.Frames.length : Int) - 1)).toNat) (⟨(rd c ((rd a.Frames (wrap .i64 ((a.Frames.length : Int) - 1))).Pc)).B, (rd b.Frames (wrap .i64 ((a.Frames.length : Int) - 1))).Stop, (rd b.Frames (wrap .i64 ((a.Frames.length : Int) - 1))).Mask⟩ : D.Frame)), e⟩ : D.Warp) → Q (⟨i.Number, i.Frames, i.Regs⟩ : D.Warp)))) (((0 ≤ (wrap .i64 ((a.Frames.length : Int) - 1)) ∧ (wrap .i64 ((a.Frames.length : Int) - 1)) < (b.Frames.length : Int)) ∧ qf9 (σ := Bool × Unit) (fun m => qa1 ((rd c ((rd a.Frames (wrap .i64 ((a.Frames.length : Int) - 1))).Pc)).Op == 10) ((M.qe7 a ((rd c ((rd a.Frames (wrap .i64 ((a.Frames.length : Int) - 1))).Pc)).A) ∧ ∀ n, n = M.qaU a ((rd c ((rd a.Frames (wrap .i64 ((a.Frames.length : Int) - 1))).Pc)).A) → m ((n == (rd a.Frames (wrap .i64 ((a.Frames.length : Int) - 1))).Mask), ()))) (m (false, ()))) (fun (o : Bool × Unit) => match o with | (p, _) => qa1 p (((0 ≤ (wrap .i64 ((a.Frames.length : Int) - 1)) ∧ (wrap .i64 ((a.Frames.length : Int) - 1)) < ((List.set b.Frames ((wrap .i64 ((a.Frames.length : Int) - 1)).toNat) (⟨(wrap .i64 ((rd a.Frames (wrap .i64 ((a.Frames.length : Int) - 1))).Pc + 1)), (rd b.Frames (wrap .i64 ((a.Frames.length : Int) - 1))).Stop, (rd b.Frames (wrap .i64 ((a.Frames.length : Int) - 1))).Mask⟩ : D.Frame)).length : Int)) ∧ (M.qcZ c (⟨b.Number, (List.set b.Frames ((wrap .i64 ((a.Frames.length : Int) - 1)).toNat) (⟨(rd c ((rd a.Frames (wrap .i64 ((a.Frames.length : Int) - 1))).Pc)).B, (rd b.Frames (wrap .i64 ((a.Frames.length : Int) - 1))).Stop, (rd b.Frames (wrap .i64 ((a.Frames.length : Int) - 1))).Mask⟩ : D.Frame)), e⟩ : D.Warp) ∧ ∀ j, j = M.qaM c (⟨b.Number, (List.set b.Frames ((wrap .i64 ((a.Frames.length : Int) - 1)).toNat) (⟨(rd c ((rd a.Frames (wrap .i64 ((a.Frames.length : Int) - 1))).Pc)).B, (rd b.Frames (wrap .i64 ((a.Frames.length : Int) - 1))).Stop, (rd b.Frames (wrap .i64 ((a.Frames.length : Int) - 1))).Mask⟩ : D.Frame)), e⟩ : D.Warp) → Q (⟨j.Number, j.Frames, j.Regs⟩ : D.Warp)))) ((M.qcZ c (⟨b.Number, (List.set b.Frames ((wrap .i64 ((a.Frames.length : Int) - 1)).toNat) (⟨(wrap .i64 ((rd a.Frames (wrap .i64 ((a.Frames.length : Int) - 1))).Pc + 1)), (rd b.Frames (wrap .i64 ((a.Frames.length : Int) - 1))).Stop, (rd b.Frames (wrap .i64 ((a.Frames.length : Int) - 1))).Mask⟩ : D.Frame)), e⟩ : D.Warp) ∧ ∀ k, k = M.qaM c (⟨b.Number, (List.set b.Frames ((wrap .i64 ((a.Frames.length : Int) - 1)).toNat) (⟨(wrap .i64 ((rd a.Frames (wrap .i64 ((a.Frames.length : Int) - 1))).Pc + 1)), (rd b.Frames (wrap .i64 ((a.Frames.length : Int) - 1))).Stop, (rd b.Frames (wrap .i64 ((a.Frames.length : Int) - 1))).Mask⟩ : D.Frame)), e⟩ : D.Warp) → Q (⟨k.Number, k.Frames, k.Regs⟩ : D.Warp)))))))))))))
end Go.V
namespace Go.V
open IntKind (wrap)
theorem qiK {p : List D.Ins} {k later : Int} (h : M.Node p k) : M.qdF p k later = true ↔ ¬ Rch p later [k] (p.length : Int) := by
 have hn : M.qe9 p (p.length : Int) := ⟨by omega, by omega⟩
 have := qeV (wo := later) h.1 (fun x hx => by obtain rfl := List.mem_singleton.1 hx; exact h.2) hn
 unfold M.qdF
 rw [← this]
 cases rd (M.reached p [k] later) (p.length : Int) <;> simp
theorem qkq {p : List D.Ins} {all : List Int} : ∀ (l : List Int), (∃ x ∈ l, all.all (M.qdF p x) = true) → M.qhg p all l ∈ l ∧ all.all (M.qdF p (M.qhg p all l)) = true
 | [], h => by obtain ⟨x, hx, _⟩ := h; cases hx
 | y :: l, h => by
  by_cases hy : all.all (M.qdF p y) = true
  ·simp only [M.qhg, hy, if_true]; exact ⟨List.mem_cons_self, trivial⟩
  ·have : ∃ x ∈ l, all.all (M.qdF p x) = true := by
     obtain ⟨x, hx, hg⟩ := h
     rcases List.mem_cons.1 hx with rfl | hx
     ·exact absurd hg hy
     ·exact ⟨x, hx, hg⟩
   have ih := qkq l this
   simp only [M.qhg, hy]
   exact ⟨List.mem_cons_of_mem _ ih.1, ih.2⟩
theorem qon {p : List D.Ins} {y b : Int} {v : Int} (h : Rch p y [b] v) {x : Int} (hx : Rch p y [v] x) : Rch p y [b] x := by
 induction hx with
 | base hs hne => obtain rfl := List.mem_singleton.1 hs; exact h
 | step _ hs hne ih => exact .step ih hs hne
theorem qoL {p : List D.Ins} {b : Int} (hb : M.Node p b) (hbn : b ≠ (p.length : Int)) (he : M.qfw p b = true) : M.qhU p b ∈ M.others (M.qcA p b) b := by
 have hn : M.qe9 p (p.length : Int) := ⟨by omega, by omega⟩
 have hR := (qeV hb.1 (fun x hx => by obtain rfl := List.mem_singleton.1 hx; exact hb.2) hn).1 he
 have hmem : ∀ x, M.qe9 p x → x ≠ b → M.qdF p b x = true → x ∈ M.others (M.qcA p b) b := by
  intro x hx hxb ha
  unfold M.others M.qcA
  rw [if_pos (by simp only [Bool.and_eq_true]; exact ⟨qeW.2 hb, he⟩)]
  refine List.mem_filter.2 ⟨qjD.2 ⟨x.toNat, by unfold M.qe9 at hx; omega, by unfold M.qe9 at hx; omega, ha⟩, by simpa using hxb⟩
 refine (qkq _ ?_).1
 have good : ∀ x ∈ M.others (M.qcA p b) b, ∀ v, (∀ y ∈ M.others (M.qcA p b) b, Rch p y [b] v) → x ∈ M.qeu p v → (M.others (M.qcA p b) b).all (M.qdF p x) = true := by
  intro x hx v hv hvx
  rw [List.all_eq_true]
  intro y hy
  obtain ⟨hxN, _, _, _⟩ := qgj hx
  obtain ⟨hyN, _, _, hya⟩ := qgj hy
  rw [qiK hxN]
  intro hr
  refine (qiK hb).1 hya ?_
  have hxy : x ≠ y := by
   rintro rfl
   have : ∀ z, Rch p x [x] z → False := fun z hz => by
    induction hz with
    | base hs hne => exact hne (List.mem_singleton.1 hs)
    | step _ _ _ ih => exact ih
   exact this _ hr
  exact qon (.step (hv y hy) hvx hxy) hr
 have hbL : ∀ y ∈ M.others (M.qcA p b) b, b ≠ y := fun y hy e => by
  have := (List.mem_filter.1 hy).2
  simp [e] at this
 have key : ∀ v, Rch p (-1) [b] v → (∃ x ∈ M.others (M.qcA p b) b, (M.others (M.qcA p b) b).all (M.qdF p x) = true) ∨ (v ∉ M.others (M.qcA p b) b ∧ ∀ y ∈ M.others (M.qcA p b) b, Rch p y [b] v) := by
  intro v hv
  induction hv with
  | base hs hne =>
   obtain rfl := List.mem_singleton.1 hs
   exact .inr ⟨fun h => hbL _ h rfl, fun y hy => .base (List.mem_singleton.2 rfl) (hbL y hy)⟩
  | @step k s _ hs hne ih =>
   rcases ih with ih | ⟨_, ih⟩
   ·exact .inl ih
   ·by_cases hsL : s ∈ M.others (M.qcA p b) b
    ·exact .inl ⟨s, hsL, good s hsL k ih hs⟩
    ·exact .inr ⟨hsL, fun y hy => .step (ih y hy) hs (fun e => hsL (e ▸ hy))⟩
 rcases key _ hR with h | ⟨h, _⟩
 ·exact h
 ·refine absurd (hmem _ hn (Ne.symm hbn) ((qiK hb).2 fun hr => ?_)) h
  have : ∀ z, Rch p (p.length : Int) [b] z → z ≠ (p.length : Int) := fun z hz => by
   cases hz with
   | base _ hne => exact hne
   | step _ _ hne => exact hne
  exact this _ hr rfl
theorem qps {p : List D.Ins} {b : Int} (h : M.Branch p b) : M.qe9 p (M.qh8 p b) := by
 obtain ⟨h1, h2, hb, _⟩ := qpR h
 have hn : M.qe9 p (p.length : Int) := ⟨by omega, by omega⟩
 unfold M.qh8
 split
 ·rename_i e
  simp only [Bool.and_eq_true] at e
  have hx1 := (qeV hb.1 (fun x hx => by obtain rfl := List.mem_singleton.1 hx; exact h1.2) hn).1 e.1
  have hbr := h.2.2.2
  simp only [M.isBr, Bool.and_eq_true, beq_iff_eq, bne_iff_ne] at hbr
  have hnx : b + 1 ∈ M.qeu p b := by
   unfold M.qeu
   have := h.2.2.1
   rw [if_neg (by omega), if_neg (by omega), if_neg (by omega), if_pos hbr.1]
   exact qiP.2 (.inl rfl)
  have he : M.qfw p b = true := by
   refine (qeV hb.1 (fun x hx => by obtain rfl := List.mem_singleton.1 hx; exact hb.2) hn).2 ?_
   have hb0 := h.2.1
   exact qon (b := b) (y := -1) (.step (.base (List.mem_singleton.2 rfl) (by omega)) hnx (by omega)) hx1
  exact (qgj (qoL hb (by have := h.2.2.1; omega) he)).1.2
 ·exact hn
theorem qot : ((List.range 256).all fun m => (List.range 256).all fun z => !(m &&& z == z) || (m &&& (2 ^ 64 - 1 - z) == m - z)) = true := by kernel_rfl
theorem qnj : ((List.range 256).all fun m => (List.range 8).all fun l => !(M.qdu ((m : Nat) : Int) ((l : Nat) : Int)) || (m &&& 2 ^ l == 2 ^ l)) = true := by kernel_rfl
theorem qnT : ((List.range 8).all fun l => M.qjq ((l : Nat) : Int) == ((2 ^ l : Nat) : Int)) = true := by kernel_rfl
theorem qoi {a b : Nat} (ha : a < 256) (hb : b < 256) : qh0 .i64 ((a : Nat) : Int) ((b : Nat) : Int) = ((a ||| b : Nat) : Int) := by
 have hlt : a ||| b < 256 := Nat.or_lt_two_pow (n := 8) ha hb
 have e : (BitVec.ofInt (IntKind.bits .i64) ((a : Nat) : Int) ||| BitVec.ofInt (IntKind.bits .i64) ((b : Nat) : Int)).toNat = a ||| b := by
  show (BitVec.ofInt 64 ((a : Nat) : Int) ||| BitVec.ofInt 64 ((b : Nat) : Int)).toNat = a ||| b
  rw [BitVec.ofInt_natCast, BitVec.ofInt_natCast, BitVec.toNat_or, BitVec.toNat_ofNat, BitVec.toNat_ofNat, Nat.mod_eq_of_lt (by omega), Nat.mod_eq_of_lt (by omega)]
 unfold qh0
 rw [e]
 exact w64 (by omega) (by omega)
theorem qnd {a b : Nat} (ha : a < 256) (hb : b < 256) (hs : a &&& b = b) : qf3 .i64 ((a : Nat) : Int) ((b : Nat) : Int) = ((a - b : Nat) : Int) := by
 have hc := List.all_eq_true.1 (List.all_eq_true.1 qot a (List.mem_range.2 ha)) b (List.mem_range.2 hb)
 simp only [hs, BEq.rfl, Bool.not_true, Bool.false_or, beq_iff_eq] at hc
 have e : (BitVec.ofInt (IntKind.bits .i64) ((a : Nat) : Int) &&& ~~~(BitVec.ofInt (IntKind.bits .i64) ((b : Nat) : Int))).toNat = a - b := by
  show (BitVec.ofInt 64 ((a : Nat) : Int) &&& ~~~(BitVec.ofInt 64 ((b : Nat) : Int))).toNat = a - b
  rw [BitVec.ofInt_natCast, BitVec.ofInt_natCast, BitVec.toNat_and, BitVec.toNat_not, BitVec.toNat_ofNat, BitVec.toNat_ofNat, Nat.mod_eq_of_lt (by omega), Nat.mod_eq_of_lt (by omega)]
  exact hc
 unfold qf3
 rw [e]
 exact w64 (by omega) (by omega)
theorem qn9 {m : Int} (h : M.qfR m = true) : ∃ k : Nat, m = (k : Int) ∧ k < 256 := by
 simp only [M.qfR, M.isIn, Bool.and_eq_true, decide_eq_true_eq] at h
 exact ⟨m.toNat, by omega, by omega⟩
theorem qjE {x : D.Warp} {reg : Int} {m : Nat} (hm : m < 256) : ∀ (l : List Int), (∀ k ∈ l, k ∈ M.qeA (m : Int)) → ∀ z : Nat, z < 256 → m &&& z = z → ∃ z' : Nat, l.foldl (M.qeC x reg) (z : Int) = (z' : Int) ∧ z' < 256 ∧ m &&& z' = z'
 | [], _, z, hz, hs => ⟨z, rfl, hz, hs⟩
 | k :: l, hl, z, hz, hs => by
  have hk := hl k List.mem_cons_self
  have hrest := fun j hj => hl j (List.mem_cons_of_mem _ hj)
  simp only [List.foldl_cons]
  by_cases e : rd x.Regs (k * 4 + reg) = 0
  ·obtain ⟨h0, h7⟩ := qhR hk
   have hkn : ((k.toNat : Nat) : Int) = k := by omega
   have hh : M.qdu (m : Int) k = true := (List.mem_filter.1 hk).2
   have hc := List.all_eq_true.1 (List.all_eq_true.1 qnj m (List.mem_range.2 hm)) k.toNat (List.mem_range.2 (by omega))
   rw [hkn, hh] at hc
   simp only [Bool.not_true, Bool.false_or, beq_iff_eq] at hc
   have hb := List.all_eq_true.1 qnT k.toNat (List.mem_range.2 (by omega))
   rw [hkn] at hb
   have hb := eq_of_beq hb
   have hp : 2 ^ k.toNat < 256 := Nat.lt_of_lt_of_le (Nat.pow_lt_pow_right (by omega) (show k.toNat < 8 by omega)) (Nat.le_refl _)
   have hst : M.qeC x reg (z : Int) k = ((z ||| 2 ^ k.toNat : Nat) : Int) := by
    unfold M.qeC
    rw [if_pos e, hb, qoi hz hp]
   rw [hst]
   exact qjE hm l hrest _ (Nat.or_lt_two_pow (n := 8) hz hp) (by rw [Nat.and_or_distrib_left, hs, hc])
  ·have hst : M.qeC x reg (z : Int) k = (z : Int) := by unfold M.qeC; rw [if_neg e]
   rw [hst]
   exact qjE hm l hrest z hz hs
theorem qlj {x : D.Warp} {reg : Int} (h : M.qfR (M.qb2 x) = true) : ∃ m z : Nat, M.qb2 x = (m : Int) ∧ M.qcB x reg = (z : Int) ∧ m < 256 ∧ z < 256 ∧ m &&& z = z := by
 obtain ⟨m, hm, hlt⟩ := qn9 h
 obtain ⟨z, hz, hzl, hs⟩ := qjE (x := x) (reg := reg) hlt (M.qeA (m : Int)) (fun _ hk => hk) 0 (by omega) (by simp)
 refine ⟨m, z, hm, ?_, hlt, hzl, hs⟩
 unfold M.qcB
 rw [hm]
 exact hz
theorem qlN {x : D.Warp} {reg : Int} (h : M.qfR (M.qb2 x) = true) :
    M.qfR (M.qcB x reg) = true ∧ qf3 .i64 (M.qb2 x) (M.qcB x reg) = M.qb2 x - M.qcB x reg ∧ M.qfR (M.qb2 x - M.qcB x reg) = true := by
 obtain ⟨m, z, hm, hz, h1, h2, hs⟩ := qlj (reg := reg) h
 have hle : z ≤ m := by rw [← hs]; exact Nat.and_le_left
 rw [hm, hz, qnd h1 h2 hs]
 refine ⟨?_, by omega, ?_⟩ <;> (simp only [M.qfR, M.isIn, Bool.and_eq_true, decide_eq_true_eq]; omega)
end Go.V
namespace Go.V
open IntKind (wrap)
theorem qkZ {α : Type} [Inhabited α] {l : List α} {k m : Nat} (h : k < m) : rd (l.take m) (k : Int) = rd l (k : Int) := by
 unfold rd
 rw [List.getD_eq_getElem?_getD, List.getD_eq_getElem?_getD, List.getElem?_take, if_pos (by simpa using h)]
theorem qks {α : Type} {l : List α} {k m : Nat} (h : k ≤ m) : (l.take m).take k = l.take k := by rw [List.take_take, Nat.min_eq_left h]
theorem wp.qbB.math (x : D.Warp) (n : Int) (h : M.qel x n) : wp.qbB x n (fun r => r = M.qbB x n) := by
 unfold wp.qbB
 have hL : x.Frames.length ≤ 9223372036854775807 := h
 refine qcS x.Frames.length (fun j => (x.Number, x.Frames.take (x.Frames.length - j), ())) (fun j => M.qme x.Frames n = M.qju x.Frames n (x.Frames.length - j)) (by simp) (by simp [M.qme]) (fun j hj hF next hn => ?_) (fun hF next => ?_)
 ·obtain ⟨m, hm⟩ : ∃ m, x.Frames.length - j = m + 1 := ⟨x.Frames.length - j - 1, by omega⟩
  have hm1 : x.Frames.length - (j + 1) = m := by omega
  rw [hm1] at hn
  rw [hm] at hF
  dsimp only
  rw [hm]
  have hl : (x.Frames.take (m + 1)).length = m + 1 := by rw [List.length_take]; omega
  rw [hl, qdx (by omega), show (((m + 1 : Nat) : Int) - 1) = (m : Int) by omega, qkZ (Nat.lt_succ_self m), qks (by omega)]
  refine qaH (by simp) ⟨by omega, ?_⟩
  show qa1 _ (qa1 _ _ _) _
  have go : ¬ ((rd x.Frames (m : Int)).Pc ≠ (rd x.Frames (m : Int)).Stop ∧ (rd x.Frames (m : Int)).Pc ≠ n) → next (x.Number, x.Frames.take m, ()) := fun hc => hn (by rw [hF]; simp only [M.qju]; rw [if_neg hc])
  refine qa2 (fun e1 => qa2 (fun e2 => ?_) fun e2 => ?_) fun e1 => ?_
  ·simp only [M.qju] at hF
   rw [if_pos ⟨by simpa using e1, by simpa using e2⟩] at hF
   show _ = M.qgE x n
   unfold M.qgE
   rw [hF]
  ·have := go (fun hc => hc.2 (by simpa using e2))
   exact ⟨by omega, this⟩
  ·have := go (fun hc => hc.1 (by simpa using e1))
   exact ⟨by omega, this⟩
 ·rw [Nat.sub_self] at hF
  dsimp only
  rw [Nat.sub_self, List.take_zero]
  refine qaA (by simp) ?_
  show _ = M.qgE x n
  unfold M.qgE
  rw [hF]; rfl
theorem wp.qaM.math (p : List D.Ins) (x : D.Warp) (h : M.qcZ p x) : wp.qaM p x (fun r => r = M.qaM p x) := by
 unfold wp.qaM
 have hL : x.Frames.length ≤ 17179869184 := h.1
 refine ⟨h, fun r hr => ?_⟩
 have hr : r = x := hr
 subst hr
 rw [qdx (by omega)]
 refine qcS r.Frames.length (fun j => ((r.Frames.length : Int) - 1 - (j : Int), r.Number, r.Frames.take (r.Frames.length - j), ())) (fun j => M.qme r.Frames p.length = M.qju r.Frames p.length (r.Frames.length - j)) (by simp) (by simp [M.qme]) (fun j hj hF next hn => ?_) (fun hF next => ?_)
 ·obtain ⟨m, hm⟩ : ∃ m, r.Frames.length - j = m + 1 := ⟨r.Frames.length - j - 1, by omega⟩
  have hm1 : r.Frames.length - (j + 1) = m := by omega
  rw [hm1] at hn
  rw [hm] at hF
  dsimp only
  rw [hm, show ((r.Frames.length : Int) - 1 - (j : Int)) = (m : Int) by omega]
  rw [show ((r.Frames.length : Int) - 1 - ((j + 1 : Nat) : Int)) = wrap .i64 ((m : Int) - 1) by rw [w64 (by omega) (by omega)]; omega] at hn
  have hl : (r.Frames.take (m + 1)).length = m + 1 := by rw [List.length_take]; omega
  rw [hl, qkZ (Nat.lt_succ_self m), Int.toNat_natCast, qks (by omega)]
  have go : ¬ ((rd r.Frames (m : Int)).Pc ≠ (rd r.Frames (m : Int)).Stop ∧ (rd r.Frames (m : Int)).Pc ≠ (p.length : Int)) → next (wrap .i64 ((m : Int) - 1), r.Number, r.Frames.take m, ()) := fun hc => hn (by rw [hF]; simp only [M.qju]; rw [if_neg hc])
  refine qaH (by simp) ⟨by omega, ?_⟩
  refine qa2 (fun e1 => qa2 (fun e2 => ?_) fun e2 => ?_) fun e1 => ?_
  ·simp only [M.qju] at hF
   rw [if_pos ⟨by simpa using e1, by simpa using e2⟩] at hF
   show _ = M.qgE r p.length
   unfold M.qgE
   rw [hF]
  ·exact ⟨by omega, go (fun hc => hc.2 (by simpa using e2))⟩
  ·exact ⟨by omega, go (fun hc => hc.1 (by simpa using e1))⟩
 ·rw [Nat.sub_self] at hF
  dsimp only
  rw [Nat.sub_self, List.take_zero]
  refine qaA (by simp; omega) ?_
  show _ = M.qgE r p.length
  unfold M.qgE
  rw [hF]; rfl
theorem qpK {α : Type} {xs : List α} {lo hi k : Nat} {y : α} (h1 : lo ≤ hi) (h2 : hi ≤ xs.length) (hk : k < hi - lo) : xs.set (lo + k) y = xs.take lo ++ ((xs.take hi).drop lo).set k y ++ xs.drop hi := by
 apply List.ext_getElem?
 intro i
 have hl : (((xs.take hi).drop lo).set k y).length = hi - lo := by simp; omega
 rw [List.getElem?_append, List.length_append, hl, List.length_take, Nat.min_eq_left (by omega), List.getElem?_append, List.length_take, Nat.min_eq_left (by omega)]
 by_cases hi1 : i < lo
 ·rw [if_pos (by omega), if_pos hi1, List.getElem?_set_ne (by omega), List.getElem?_take, if_pos hi1]
 ·by_cases hi2 : i < hi
  ·rw [if_pos (by omega), if_neg hi1]
   by_cases e : lo + k = i
   ·subst e
    rw [List.getElem?_set_self (by omega), show lo + k - lo = k by omega, List.getElem?_set_self (by simp; omega)]
   ·rw [List.getElem?_set_ne e, List.getElem?_set_ne (by omega), List.getElem?_drop, List.getElem?_take, if_pos (by omega)]
    congr 1; omega
  ·rw [if_neg (by omega), List.getElem?_set_ne (by omega), List.getElem?_drop]
   congr 1; omega
theorem qoM {α : Type} {xs : List α} {lo hi : Nat} (h1 : lo ≤ hi) (h2 : hi ≤ xs.length) : xs.take lo ++ (xs.take hi).drop lo ++ xs.drop hi = xs := by
 apply List.ext_getElem?
 intro i
 have hl : ((xs.take hi).drop lo).length = hi - lo := by simp; omega
 rw [List.getElem?_append, List.length_append, hl, List.length_take, Nat.min_eq_left (by omega), List.getElem?_append, List.length_take, Nat.min_eq_left (by omega)]
 by_cases hi1 : i < lo
 ·rw [if_pos (by omega), if_pos hi1, List.getElem?_take, if_pos hi1]
 ·by_cases hi2 : i < hi
  ·rw [if_pos (by omega), if_neg hi1, List.getElem?_drop, List.getElem?_take, if_pos (by omega)]
   congr 1; omega
  ·rw [if_neg (by omega), List.getElem?_drop]
   congr 1; omega
theorem wp.qbc.math (i : D.Ins) (t : Int) (xs : List Int) (lo hi : Nat) (h : M.qgp i t xs lo hi) : wp.qbc i t xs lo hi (fun x => x = M.qbc i t xs lo hi) := by
 obtain ⟨hf, h1, h2⟩ := h
 obtain ⟨hl, hA, hB, hC⟩ := qka hf
 have hl4 : hi - lo = 4 := by rw [← hl]; simp; omega
 have st : ∀ y, (0 ≤ i.A ∧ i.A ≤ 3) → xs.set (lo + i.A.toNat) y = xs.take lo ++ ((xs.take hi).drop lo).set i.A.toNat y ++ xs.drop hi := fun y ha => qpK h1 h2 (by omega)
 have sf := qoM h1 h2
 generalize hr : (xs.take hi).drop lo = r at *
 unfold wp.qbc
 simp only [hr, forall_eq]
 refine qa2 (fun e => ?_) fun n1 => qa2 (fun e => ?_) fun n2 => qa2 (fun e => ?_) fun n3 => qa2 (fun e => ?_) fun n4 => qa2 (fun e => ?_) fun n5 => qa2 (fun e => ?_) fun n6 => qa2 (fun e => ?_) fun n7 => qa2 (fun e => ?_) fun n8 => qa2 (fun e => ?_) fun n9 => ?_
 ·have hk : i.Op = 1 := by simpa using e
  exact ⟨qdf hl (hA (by omega)), by rw [st _ (hA (by omega))]; simp [M.qbc, M.apply, hk, hr]⟩
 ·have hk : i.Op = 2 := by simpa using e
  exact ⟨qdf hl (hB (by omega)), qdf hl (hA (by omega)), by rw [st _ (hA (by omega))]; simp [M.qbc, M.apply, hk, hr]⟩
 ·have hk : i.Op = 3 := by simpa using e
  exact ⟨qdf hl (hB (by omega)), qdf hl (hC (by omega)), qdf hl (hA (by omega)), by rw [st _ (hA (by omega))]; simp [M.qbc, M.apply, hk, hr, M.qbA, M.qc0]⟩
 ·have hk : i.Op = 4 := by simpa using e
  exact ⟨qdf hl (hB (by omega)), qdf hl (hC (by omega)), qdf hl (hA (by omega)), by rw [st _ (hA (by omega))]; simp [M.qbc, M.apply, hk, hr, M.qbW, M.qcv]⟩
 ·have hk : i.Op = 5 := by simpa using e
  exact ⟨qdf hl (hB (by omega)), qdf hl (hC (by omega)), qdf hl (hA (by omega)), by rw [st _ (hA (by omega))]; simp [M.qbc, M.apply, hk, hr, M.qc9, M.qct]⟩
 ·have hk : i.Op = 6 := by simpa using e
  exact ⟨qdf hl (hB (by omega)), qdf hl (hC (by omega)), qdf hl (hA (by omega)), by rw [st _ (hA (by omega))]; simp [M.qbc, M.apply, hk, hr]⟩
 ·have hk : i.Op = 7 := by simpa using e
  exact ⟨qdf hl (hB (by omega)), qdf hl (hC (by omega)), qdf hl (hA (by omega)), by rw [st _ (hA (by omega))]; simp [M.qbc, M.apply, hk, hr, M.qbp, M.qcm]⟩
 ·have hk : i.Op = 8 := by simpa using e
  exact ⟨qdf hl (hA (by omega)), by rw [st _ (hA (by omega))]; simp [M.qbc, M.apply, hk, hr]⟩
 ·have hk : i.Op = 9 := by simpa using e
  refine ⟨qdf hl (hC (by omega)), qa2 (fun e2 => ⟨qdf hl (hB (by omega)), qdf hl (hA (by omega)), ?_⟩) fun e2 => ?_⟩
  ·have h2 : ¬ rd r i.C = 0 := by simpa using e2
   rw [st _ (hA (by omega))]
   simp [M.qbc, M.apply, hk, h2, hr]
  ·have h2 : rd r i.C = 0 := by simpa using e2
   simp only [M.qbc, M.apply, hk, h2, hr]
   simpa using sf.symm
 ·simp at n1 n2 n3 n4 n5 n6 n7 n8 n9
  simp only [M.qbc, M.apply, n1, n2, n3, n4, n5, n6, n7, n8, n9, hr, if_false]
  exact sf.symm
end Go.V
namespace Go.V
open IntKind (wrap)
theorem qfl {r : List Int} {l : Nat} (h : r.length = 32) (hl : l < 8) : (M.qeU r l).length = 4 := by unfold M.qeU; simp; omega
theorem qjB {r x : List Int} {l : Nat} (h : r.length = 32) (hl : l < 8) (hx : x.length = 4) : (M.qfD r l x).length = 32 := by unfold M.qfD; simp; omega
theorem qjQ {r x : List Int} {l : Nat} (h : r.length = 32) (hl : l < 8) (hx : x.length = 4) (i : Nat) : (M.qfD r l x)[i]? = if l * 4 ≤ i ∧ i < l * 4 + 4 then x[i - l * 4]? else r[i]? := by
 unfold M.qfD
 rw [List.getElem?_append, List.length_append, List.length_take, Nat.min_eq_left (by omega), hx, List.getElem?_append, List.length_take, Nat.min_eq_left (by omega)]
 by_cases h1 : i < l * 4
 ·rw [if_pos (by omega), if_pos h1, if_neg (by omega), List.getElem?_take, if_pos h1]
 ·by_cases h2 : i < l * 4 + 4
  ·rw [if_pos h2, if_neg h1, if_pos (by omega)]
  ·rw [if_neg h2, if_neg (by omega), List.getElem?_drop]
   congr 1; omega
theorem qic (r : List Int) (l i : Nat) : (M.qeU r l)[i]? = if i < 4 then r[l * 4 + i]? else none := by
 unfold M.qeU
 rw [List.getElem?_drop, List.getElem?_take]
 by_cases h : i < 4
 ·rw [if_pos h, if_pos (by omega)]
 ·rw [if_neg h, if_neg (by omega)]
theorem qkS {r x : List Int} {l j : Nat} (h : r.length = 32) (hl : l < 8) (hx : x.length = 4) (hne : j ≠ l) : M.qeU (M.qfD r l x) j = M.qeU r j := by
 apply List.ext_getElem?
 intro i
 rw [qic, qic]
 by_cases hi : i < 4
 ·rw [if_pos hi, if_pos hi, qjQ h hl hx, if_neg (by omega)]
 ·rw [if_neg hi, if_neg hi]
theorem qoE {r : List Int} {l : Nat} (h : r.length = 32) (hl : l < 8) : M.qfD r l (M.qeU r l) = r := by
 apply List.ext_getElem?
 intro i
 rw [qjQ h hl (qfl h hl)]
 by_cases hi : l * 4 ≤ i ∧ i < l * 4 + 4
 ·rw [if_pos hi, qic, if_pos (by omega)]
  congr 1; omega
 ·rw [if_neg hi]
theorem qhp {i : D.Ins} {num m : Int} {r : List Int} (h : r.length = 32) : ∀ k, k ≤ 8 → (M.qfx i num m r k).length = 32
 | 0, _ => h
 | k + 1, hk => by
  have ih := qhp (i := i) (num := num) (m := m) h k (by omega)
  simp only [M.qfx]
  split
  ·exact qjB ih (by omega) (by rw [qin, qfl h (by omega)])
  ·exact ih
theorem qjV {i : D.Ins} {num m : Int} {r : List Int} (h : r.length = 32) : ∀ k, k ≤ 8 → ∀ j, k ≤ j → M.qeU (M.qfx i num m r k) j = M.qeU r j
 | 0, _, _, _ => rfl
 | k + 1, hk, j, hj => by
  have ih := qjV (i := i) (num := num) (m := m) h k (by omega) j (by omega)
  simp only [M.qfx]
  split
  ·rw [qkS (qhp h k (by omega)) (by omega) (by rw [qin, qfl h (by omega)]) (by omega), ih]
  ·exact ih
def qmc (i : D.Ins) (num : Int) (acc : List Int) (l : Int) : List Int := M.qbc i (num * 8 + l) acc (l * 4).toNat (l * 4 + 4).toNat
theorem qlD (i : D.Ins) (num : Int) (acc : List Int) (k : Nat) : qmc i num acc (k : Int) = M.qfD acc k (M.apply i (num * 8 + (k : Int)) (M.qeU acc k)) := by
 unfold qmc M.qbc M.qfD M.qeU
 rw [show ((k : Int) * 4).toNat = k * 4 by omega, show ((k : Int) * 4 + 4).toNat = k * 4 + 4 by omega]
theorem qkY {i : D.Ins} {num m : Int} {r : List Int} (h : r.length = 32) : M.qgF i num m r = (M.qeA m).foldl (qmc i num) r := by
 have key : ∀ k, k ≤ 8 → (List.range k).foldl (fun acc (j : Nat) => if M.qdu m (j : Int) = true then qmc i num acc (j : Int) else acc) r = M.qfx i num m r k := by
  intro k
  induction k with
  | zero => intro _; rfl
  | succ k ih =>
   intro hk
   rw [List.range_succ, List.foldl_append, ih (by omega)]
   simp only [List.foldl_cons, List.foldl_nil, M.qfx]
   rw [qlD, qjV h k (by omega) k (Nat.le_refl _)]
 unfold M.qgF
 rw [← key 8 (Nat.le_refl _)]
 unfold M.qeA
 rw [List.foldl_filter]
 rfl
theorem qmS {i : D.Ins} {num : Int} : ∀ (l : List Int) (r : List Int), r.length = 32 → (∀ k ∈ l, 0 ≤ k ∧ k ≤ 7) → (l.foldl (qmc i num) r).length = 32
 | [], r, h, _ => h
 | k :: l, r, h, hl => by
  simp only [List.foldl_cons]
  obtain ⟨h0, h7⟩ := hl k List.mem_cons_self
  refine qmS l _ ?_ fun j hj => hl j (List.mem_cons_of_mem _ hj)
  rw [show k = ((k.toNat : Nat) : Int) by omega, qlD]
  exact qjB h (by omega) (by rw [qin, qfl h (by omega)])
theorem qhw {i : D.Ins} {num m : Int} {r : List Int} (h : r.length = 32) : (M.qgF i num m r).length = 32 := qhp h 8 (Nat.le_refl _)
theorem qjN {i : D.Ins} {num m : Int} {r : List Int} (h : r.length = 32) (e : i.Op = 10) : M.qgF i num m r = r := by
 have ha : ∀ t (q : List Int), M.apply i t q = q := fun t q => by simp [M.apply, e]
 have : ∀ k, k ≤ 8 → M.qfx i num m r k = r := by
  intro k
  induction k with
  | zero => intro _; rfl
  | succ k ih =>
   intro hk
   simp only [M.qfx, ih (by omega), ha, qoE h (show k < 8 by omega), ite_self]
 exact this 8 (Nat.le_refl _)
theorem qnC {r x : List Int} {l : Nat} (h : r.all M.isWord = true) (hx : x.all M.isWord = true) : (M.qfD r l x).all M.isWord = true := by
 rw [List.all_eq_true] at h hx ⊢
 intro y hy
 unfold M.qfD at hy
 rcases List.mem_append.1 hy with hy | hy
 ·rcases List.mem_append.1 hy with hy | hy
  ·exact h y (List.mem_of_mem_take hy)
  ·exact hx y hy
 ·exact h y (List.mem_of_mem_drop hy)
theorem qnN {r : List Int} {l : Nat} (h : r.all M.isWord = true) : (M.qeU r l).all M.isWord = true := by
 rw [List.all_eq_true] at h ⊢
 intro y hy
 exact h y (List.mem_of_mem_take (List.mem_of_mem_drop hy))
theorem qih {i : D.Ins} {n num m : Int} {r : List Int} (hok : M.qdD i n = true) (hn : 0 ≤ num ∧ num ≤ 2) (hl : r.length = 32) (h : r.all M.isWord = true) : ∀ k, k ≤ 8 → (M.qfx i num m r k).all M.isWord = true
 | 0, _ => h
 | k + 1, hk => by
  have ih := qih (m := m) hok hn hl h k (by omega)
  simp only [M.qfx]
  split
  ·exact qnC ih (qmh hok (by omega) (qfl hl (by omega)) (qnN h))
  ·exact ih
theorem qnZ {fs : List D.Frame} (h : fs ≠ []) (pc : Int) : M.qdb (M.qen fs pc) = ⟨pc, (M.qdb fs).Stop, (M.qdb fs).Mask⟩ := by
 have hpos : 0 < fs.length := List.length_pos_iff.2 h
 have e : ((fs.length : Int) - 1) = ((fs.length - 1 : Nat) : Int) := by omega
 unfold M.qdb M.qen
 rw [List.length_set, e, qcV (by rw [List.length_set]; omega), List.getElem_set_self]
 unfold M.qdb
 rw [e]
theorem qlK {fs : List D.Frame} (h : fs ≠ []) : M.qdb fs ∈ fs := by
 have hpos : 0 < fs.length := List.length_pos_iff.2 h
 exact qke (by omega) (by omega)
theorem qiX {fs : List D.Frame} {n pc : Int} (h : fs.all (M.qem n) = true) (hx : fs ≠ []) (hp : 0 ≤ pc ∧ pc ≤ n) : (M.qen fs pc).all (M.qem n) = true := by
 rw [List.all_eq_true] at h ⊢
 intro f hf
 rcases List.mem_or_eq_of_mem_set hf with hf | rfl
 ·exact h f hf
 ·have := h _ (qlK hx)
  simp only [M.qem, M.isIn, Bool.and_eq_true, decide_eq_true_eq] at this ⊢
  exact ⟨hp, this.2⟩
theorem qlQ (fs : List D.Frame) (n : Int) : ∀ k, k ≤ fs.length → M.qju fs n k = [] ∨ ∃ j : Nat, 0 < j ∧ j ≤ k ∧ M.qju fs n k = fs.take j ∧ (rd fs ((j - 1 : Nat) : Int)).Pc ≠ (rd fs ((j - 1 : Nat) : Int)).Stop ∧ (rd fs ((j - 1 : Nat) : Int)).Pc ≠ n
 | 0, _ => .inl rfl
 | k + 1, hk => by
  simp only [M.qju]
  split
  ·rename_i e
   exact .inr ⟨k + 1, by omega, Nat.le_refl _, rfl, e⟩
  ·rcases qlQ fs n k (by omega) with h | ⟨j, h0, h1, h2⟩
   ·exact .inl h
   ·exact .inr ⟨j, h0, by omega, h2⟩
theorem qlr {fs : List D.Frame} {n : Int} (hall : fs.all (M.qem n) = true) (hl : fs.length ≤ 24) (h0 : fs ≠ [] → (rd fs 0).Stop = n ∧ (rd fs 0).Mask = 255) : M.qee (M.qme fs n) n = true := by
 unfold M.qme
 rcases qlQ fs n fs.length (Nat.le_refl _) with h | ⟨j, hj0, hj1, h2, h3, h4⟩
 ·rw [h]; rfl
 ·rw [h2]
  have hne : fs ≠ [] := by intro e; rw [e] at hj1; simp at hj1; omega
  have hlen : (fs.take j).length = j := by rw [List.length_take]; omega
  have hall' : (fs.take j).all (M.qem n) = true := by
   rw [List.all_eq_true] at hall ⊢
   exact fun f hf => hall f (List.mem_of_mem_take hf)
  have hlast : M.qdb (fs.take j) = rd fs ((j - 1 : Nat) : Int) := by
   unfold M.qdb
   rw [hlen, show ((j : Int) - 1) = ((j - 1 : Nat) : Int) by omega, qkZ (by omega)]
  have hz : rd (fs.take j) 0 = rd fs 0 := by
   have := qkZ (l := fs) (k := 0) (m := j) (by omega)
   exact this
  unfold M.qee
  rw [hall', Bool.true_and, Bool.or_eq_true]
  right
  unfold M.qig
  rw [hlast, hz, hlen]
  obtain ⟨k1, k2⟩ := h0 hne
  simp only [Bool.and_eq_true, decide_eq_true_eq, bne_iff_ne, beq_iff_eq]
  exact ⟨by omega, h3, h4, k1, k2⟩
theorem qhI {fs : List D.Frame} (h : fs ≠ []) (pc : Int) : (rd (M.qen fs pc) 0).Stop = (rd fs 0).Stop ∧ (rd (M.qen fs pc) 0).Mask = (rd fs 0).Mask := by
 have hpos : 0 < fs.length := List.length_pos_iff.2 h
 have z : (0 : Int) = ((0 : Nat) : Int) := rfl
 by_cases h1 : fs.length = 1
 ·have hl := qnZ h pc
  have e1 : M.qdb (M.qen fs pc) = rd (M.qen fs pc) 0 := by unfold M.qdb M.qen; rw [List.length_set, h1]; rfl
  have e2 : M.qdb fs = rd fs 0 := by unfold M.qdb; rw [h1]; rfl
  rw [← e1, hl, e2]; exact ⟨rfl, rfl⟩
 ·have e : rd (M.qen fs pc) 0 = rd fs 0 := by
    unfold M.qen rd
    rw [List.getD_eq_getElem?_getD, List.getD_eq_getElem?_getD, List.getElem?_set_ne (by simp; omega)]
  rw [e]; exact ⟨rfl, rfl⟩
theorem qhn {p : List D.Ins} {x : D.Warp} (h : M.Runs p x) : x.Frames.all (M.qem p.length) = true ∧ x.Frames.length ≤ 24 ∧ (rd x.Frames 0).Stop = p.length ∧ (rd x.Frames 0).Mask = 255 ∧ M.qfR (M.qdb x.Frames).Mask = true ∧ x.Regs.all M.isWord = true := by
 obtain ⟨hp, hw, hx⟩ := h
 simp only [M.qfS, M.qee, Bool.and_eq_true, Bool.or_eq_true] at hw
 obtain ⟨h1, h2, h3, h4, h5⟩ := hw
 have h5 := h5.resolve_left (by simpa using hx)
 have hf := List.all_eq_true.1 h4 _ (qlK hx)
 simp only [M.qig, M.qem, Bool.and_eq_true, decide_eq_true_eq, beq_iff_eq] at h5 hf
 exact ⟨h4, h5.1, h5.2.2.2.1, h5.2.2.2.2, hf.2.2.1, h3⟩
theorem qhB {p : List D.Ins} {x : D.Warp} (h : M.Runs p x) (hs : M.qmf p x) : M.Branch p (M.qdL x) := by
 obtain ⟨_, _, _, _, t5, t6, _⟩ := qdT h
 refine ⟨h.1, t5, t6, ?_⟩
 unfold M.isBr
 simp only [Bool.and_eq_true, beq_iff_eq, bne_iff_ne]
 exact hs
theorem qiS {p : List D.Ins} {x : D.Warp} (h : M.splits p x = true) : M.qmf p x ∧ M.qcB x (M.qaO p x).A ≠ 0 ∧ M.qcB x (M.qaO p x).A ≠ (M.qdb x.Frames).Mask := by
 simp only [M.splits, Bool.and_eq_true, beq_iff_eq, bne_iff_ne] at h
 exact ⟨h.1, h.2.1, h.2.2⟩
theorem qpg {p : List D.Ins} {x : D.Warp} (h : M.Runs p x) : 0 ≤ M.qgz p x ∧ M.qgz p x ≤ (p.length : Int) := by
 obtain ⟨_, _, _, _, t5, t6, t7, _⟩ := qdT h
 unfold M.qgz
 split
 ·omega
 ·split
  ·exact qhe t7 (.inr (by assumption))
  ·split
   ·rename_i e; exact qhe t7 (.inl e.1)
   ·omega
theorem qne {p : List D.Ins} {x : D.Warp} (h : M.Goes p x) : M.Fine p (M.stepW p x) := by
 obtain ⟨hr, hl⟩ := h
 obtain ⟨t1, t2, t3, t4, t5, t6, t7, t8, t9⟩ := qdT hr
 obtain ⟨f1, f2, f3, f4, f5, f6⟩ := qhn hr
 have hx := hr.2.2
 refine ⟨hr.1, ?_⟩
 have fin : ∀ (fs : List D.Frame) (rg : List Int), rg.length = 32 → rg.all M.isWord = true → fs.all (M.qem p.length) = true → fs.length ≤ 24 → (fs ≠ [] → (rd fs 0).Stop = p.length ∧ (rd fs 0).Mask = 255) → M.qfS p (M.qgE ⟨x.Number, fs, rg⟩ p.length) = true := by
  intro fs rg g1 g2 g3 g4 g5
  simp only [M.qfS, M.qgE, Bool.and_eq_true, beq_iff_eq]
  exact ⟨by simp only [M.isIn, Bool.and_eq_true, decide_eq_true_eq]; exact ⟨t8, t9⟩, g1, g2, qlr g3 g4 g5⟩
 have s0 := fun pc => qhI hx pc
 unfold M.stepW
 by_cases hs : M.splits p x = true
 ·rw [if_pos hs]
  obtain ⟨hsp, hz0, hzm⟩ := qiS hs
  have hb := qhB hr hsp
  have hj := qps hb
  have hact : M.qb2 x = (M.qdb x.Frames).Mask := qh7 hx
  obtain ⟨m1, m2, m3⟩ := qlN (x := x) (reg := (M.qaO p x).A) (by rw [hact]; exact f5)
  rw [hact] at m2 m3
  have h22 : x.Frames.length ≤ 22 := by
   simp only [M.qaP, hs, Bool.and_eq_true, Bool.not_true, Bool.false_or, decide_eq_true_eq] at hl
   exact hl.2.2
  have hB := qhe t7 (.inl hsp.1)
  unfold M.separated
  refine fin _ _ t4 f6 ?_ ?_ fun _ => ?_
  ·rw [List.all_append, qiX f1 hx hj, Bool.true_and]
   simp only [List.all_cons, List.all_nil, Bool.and_true, M.qem, Bool.and_eq_true, M.isIn, decide_eq_true_eq, bne_iff_ne]
   unfold M.qe9 at hj
   rw [m2]
   exact ⟨⟨by omega, hj, m3, by omega⟩, hB, hj, m1, hz0⟩
  ·simp only [List.length_append, M.qen, List.length_set, List.length_cons, List.length_nil]; omega
  ·have e : rd (M.qen x.Frames (M.qh8 p (M.qdL x)) ++ [⟨M.qdL x + 1, M.qh8 p (M.qdL x), qf3 .i64 (M.qdb x.Frames).Mask (M.qcB x (M.qaO p x).A)⟩, ⟨(M.qaO p x).B, M.qh8 p (M.qdL x), M.qcB x (M.qaO p x).A⟩]) 0 = rd (M.qen x.Frames (M.qh8 p (M.qdL x))) 0 := by
     unfold rd
     rw [List.getD_eq_getElem?_getD, List.getD_eq_getElem?_getD, List.getElem?_append_left (by simp [M.qen]; omega)]
   rw [e, (s0 _).1, (s0 _).2]
   exact ⟨f3, f4⟩
 ·rw [if_neg hs]
  unfold M.advance
  refine fin _ _ (qhw t4) (qih t7 ⟨t8, t9⟩ t4 f6 8 (Nat.le_refl _)) (qiX f1 hx (qpg hr)) (by simp only [M.qen, List.length_set]; exact f2) fun _ => ?_
  rw [(s0 _).1, (s0 _).2]
  exact ⟨f3, f4⟩
end Go.V
namespace Go.V
open IntKind (wrap)
theorem qmA {i : D.Ins} {n : Int} {r : List Int} {k : Nat} (h : M.qdD i n = true) (hr : r.length = 32) (hk : k < 8) : M.Fits i (M.qeU r k) := ⟨qfl hr hk, n, h⟩
theorem wp.qbk.math (x : D.Warp) (p : List D.Ins) (h : M.qeQ x p) : wp.qbk x p (fun r => r = M.qbk x p) := by
 obtain ⟨t1, t2, t3, t4, t5, t6, t7, t8, t9⟩ := qdT h
 have hx := h.2.2
 unfold wp.qbk
 rw [qdx (by omega)]
 refine ⟨by omega, ⟨t5, t6⟩, fun ls hls => ?_⟩
 have hls : ls = M.qeA (M.qdb x.Frames).Mask := hls
 have hmem : ∀ k ∈ ls, 0 ≤ k ∧ k ≤ 7 := fun k hk => qhR (m := (M.qdb x.Frames).Mask) (hls ▸ hk)
 have hlen : ls.length ≤ 8 := by rw [hls]; exact qis _
 let G : Nat → List Int := fun k => (ls.take k).foldl (qmc (M.qaO p x) x.Number) x.Regs
 have hG : ∀ k, (G k).length = 32 := fun k => qmS _ _ t4 fun j hj => hmem j (List.mem_of_mem_take hj)
 refine qcS ls.length (fun k => ((k : Int), G k, ())) (fun _ => True) rfl trivial (fun k hk _ next hn => ?_) fun _ next => ?_
 ·have hn := hn trivial
  have hm := hmem _ (qgk hk)
  have hGk := hG k
  have hnext : G (k + 1) = qmc (M.qaO p x) x.Number (G k) (rd ls (k : Int)) := by
   simp only [G]
   rw [List.take_add_one, List.getElem?_eq_getElem hk, Option.toList_some, List.foldl_append, ← qcV hk]
   rfl
  rw [hnext] at hn
  dsimp only
  generalize rd ls (k : Int) = l at *
  generalize G k = g at *
  have a1 : wrap .i64 (l * 4) = l * 4 := w64 (by omega) (by omega)
  have a2 : wrap .i64 ((wrap .i64 (l + 1)) * 4) = l * 4 + 4 := by rw [w64 (x := l + 1) (by omega) (by omega), w64 (by omega) (by omega)]; omega
  have a3 : wrap .i64 ((wrap .i64 (x.Number * 8)) + l) = x.Number * 8 + l := by rw [w64 (x := x.Number * 8) (by omega) (by omega), w64 (by omega) (by omega)]
  rw [a1, a2, a3, up64 hk (by omega)]
  refine qaH (by simp; omega) ⟨by omega, ⟨hGk, hm⟩, ⟨?_, by omega, by omega⟩, fun r2 hr2 => ?_⟩
  ·have := qmA (k := l.toNat) t7 hGk (by omega)
   unfold M.qeU at this
   rw [show l.toNat * 4 + 4 = (l * 4 + 4).toNat by omega, show l.toNat * 4 = (l * 4).toNat by omega] at this
   exact this
  ·rw [hr2]; exact hn
 ·have hall : G ls.length = M.qgF (M.qaO p x) x.Number (M.qdb x.Frames).Mask x.Regs := by
    simp only [G]
    rw [List.take_length, qkY t4, hls]
  dsimp only
  rw [hall]
  refine qaA (by simp) ?_
  have e1 : ((x.Frames.length : Int) - 1).toNat = x.Frames.length - 1 := by omega
  have fin : ∀ pc, pc = M.qgz p x → (⟨x.Number, x.Frames.set ((x.Frames.length : Int) - 1).toNat ⟨pc, (M.qdb x.Frames).Stop, (M.qdb x.Frames).Mask⟩, M.qgF (M.qaO p x) x.Number (M.qdb x.Frames).Mask x.Regs⟩ : D.Warp) = M.qbk x p := by
   rintro _ rfl
   unfold M.qbk M.advance M.qen
   rw [e1]
  show qa1 ((M.qaO p x).Op == 12) _ (qa1 ((M.qaO p x).Op == 11) (qa1 true _ _) (qa1 ((M.qaO p x).Op == 10) _ (qa1 false _ _)))
  refine qa2 (fun c1 => fin _ ?_) fun c1 => qa2 (fun c2 => qaH rfl (fin _ ?_)) fun c2 => qa2 (fun c3 => ⟨?_, fun z hz => ?_⟩) fun c3 => qaA rfl (fin _ ?_)
  ·have c1 : (M.qaO p x).Op = 12 := by simpa using c1
   simp [M.qgz, c1]
  ·have c2 : (M.qaO p x).Op = 11 := by simpa using c2
   simp only [M.qgz, c2]
   rfl
  ·have c3 : (M.qaO p x).Op = 10 := by simpa using c3
   exact ⟨by show x.Frames.length ≤ 9223372036854775807; omega, qhw t4, qhQ t7 c3⟩
  ·have c3 : (M.qaO p x).Op = 10 := by simpa using c3
   have hz : z = M.qcB x (M.qaO p x).A := by
    rw [hz, qjN t4 c3]; rfl
   show qa1 (z == (M.qdb x.Frames).Mask) _ _
   rw [hz]
   refine qa2 (fun c4 => fin _ ?_) fun c4 => fin _ ?_
   ·have c4 : M.qcB x (M.qaO p x).A = (M.qdb x.Frames).Mask := by simpa using c4
    unfold M.qgz
    rw [if_neg (by omega), if_neg (by omega), if_pos ⟨c3, c4⟩]; rfl
   ·have c4 : ¬ M.qcB x (M.qaO p x).A = (M.qdb x.Frames).Mask := by simpa using c4
    unfold M.qgz
    rw [if_neg (by omega), if_neg (by omega), if_neg (fun hc => c4 hc.2)]
    exact w64 (x := M.qdL x + 1) (by omega) (by omega)
  ·have c1 : ¬ (M.qaO p x).Op = 12 := by simpa using c1
   have c2 : ¬ (M.qaO p x).Op = 11 := by simpa using c2
   have c3 : ¬ (M.qaO p x).Op = 10 := by simpa using c3
   unfold M.qgz
   rw [if_neg c1, if_neg c2, if_neg (fun hc => c3 hc.1)]
   exact w64 (x := M.qdL x + 1) (by omega) (by omega)
theorem qlz {p : List D.Ins} {b : Int} (h : M.Branch p b) : M.has (M.branches p) b = true := by
 unfold M.has M.branches
 rw [if_pos h.1, List.any_eq_true]
 exact ⟨b, qjD.2 ⟨b.toNat, by have := h.2.2.1; have := h.2.1; omega, by have := h.2.1; omega, h.2.2.2⟩, by simp⟩
theorem wp.qaT.math (x : D.Warp) (p : List D.Ins) (h : M.qeJ x p) : wp.qaT x p (fun r => r = M.qaT x p) := by
 obtain ⟨hr, hs⟩ := h
 obtain ⟨t1, t2, t3, t4, t5, t6, t7, t8, t9⟩ := qdT hr
 have hb := qhB hr hs
 unfold wp.qaT
 rw [qdx (by omega), w64 (x := (x.Frames.length : Int) + 2) (by omega) (by omega)]
 refine qa2 (fun e => ?_) fun e => ⟨by omega, ⟨t5, t6⟩, ⟨by show x.Frames.length ≤ 9223372036854775807; omega, t4, qhQ t7 hs.1⟩, fun z hz => ⟨qgH hr.1, fun j hj => ⟨⟨t5, t6⟩, ?_⟩⟩⟩
 ·have e : ¬ x.Frames.length ≤ 22 := by have := of_decide_eq_true e; omega
  unfold M.qaT
  rw [if_neg e]
 ·have e : x.Frames.length ≤ 22 := by have := of_decide_eq_false e; omega
  have hj : j = M.qh8 p (M.qdL x) := by
   rw [hj]
   show M.qlx p (M.qdL x) = _
   unfold M.qlx
   rw [if_pos (qlz hb)]
  have hw : wrap .i64 (M.qdL x + 1) = M.qdL x + 1 := w64 (by omega) (by omega)
  have key : ∀ y, y = M.separated p x → (true, y) = M.qaT x p := by
   rintro _ rfl
   unfold M.qaT
   rw [if_pos e]
  have e1 : ((x.Frames.length : Int) - 1).toNat = x.Frames.length - 1 := by omega
  have fin : (true, (⟨x.Number, (x.Frames.set ((x.Frames.length : Int) - 1).toNat ⟨j, (M.qdb x.Frames).Stop, (M.qdb x.Frames).Mask⟩) ++ [⟨wrap .i64 (M.qdL x + 1), j, qf3 .i64 (M.qdb x.Frames).Mask z⟩, ⟨(M.qaO p x).B, j, z⟩], x.Regs⟩ : D.Warp)) = M.qaT x p := by
   refine key _ ?_
   rw [hw, hj, hz, e1]; rfl
  have hle : (x.Frames.set ((x.Frames.length : Int) - 1).toNat ⟨j, (M.qdb x.Frames).Stop, (M.qdb x.Frames).Mask⟩).length + 2 ≤ 17179869184 := by rw [List.length_set]; omega
  exact ⟨⟨hle, fin⟩, ⟨⟨hle, fin⟩, ⟨hle, fin⟩, trivial⟩, trivial⟩
end Go.V
namespace Go.V
open IntKind (wrap)
def qgR (r x : List Int) (l j : Nat) : List Int := r.take (l * 4) ++ x.take j ++ r.drop (l * 4 + j)
theorem qjX {r x : List Int} {l j : Nat} (h : r.length = 32) (hl : l < 8) (hx : x.length = 4) (hj : j ≤ 4) : (qgR r x l j).length = 32 := by unfold qgR; simp; omega
theorem qjj {r x : List Int} {l j : Nat} (h : r.length = 32) (hl : l < 8) (hx : x.length = 4) (hj : j ≤ 4) (i : Nat) : (qgR r x l j)[i]? = if l * 4 ≤ i ∧ i < l * 4 + j then x[i - l * 4]? else r[i]? := by
 unfold qgR
 rw [List.getElem?_append, List.length_append, List.length_take, List.length_take, hx, Nat.min_eq_left (by omega), Nat.min_eq_left hj, List.getElem?_append, List.length_take, Nat.min_eq_left (by omega)]
 by_cases h1 : i < l * 4
 ·rw [if_pos (by omega), if_pos h1, if_neg (by omega), List.getElem?_take, if_pos h1]
 ·by_cases h2 : i < l * 4 + j
  ·rw [if_pos h2, if_neg h1, if_pos (by omega), List.getElem?_take, if_pos (by omega)]
  ·rw [if_neg h2, if_neg (by omega), List.getElem?_drop]
   congr 1; omega
theorem qlY (r x : List Int) (l : Nat) : qgR r x l 0 = r := by unfold qgR; simp
theorem qlZ {r x : List Int} {l : Nat} (hx : x.length = 4) : qgR r x l 4 = M.qfD r l x := by unfold qgR M.qfD; rw [List.take_of_length_le (l := x) (by omega)]
theorem qm6 {r x : List Int} {l j : Nat} (h : r.length = 32) (hl : l < 8) (hx : x.length = 4) (hj : j < 4) : (qgR r x l j).set (l * 4 + j) (rd x (j : Int)) = qgR r x l (j + 1) := by
 apply List.ext_getElem?
 intro i
 rw [qjj h hl hx (by omega)]
 by_cases e : l * 4 + j = i
 ·subst e
  rw [List.getElem?_set_self (by rw [qjX h hl hx (by omega)]; omega), if_pos (by omega), show l * 4 + j - l * 4 = j by omega, qcV (by omega), List.getElem?_eq_getElem (by omega)]
 ·rw [List.getElem?_set_ne e, qjj h hl hx (by omega)]
  by_cases h1 : l * 4 ≤ i ∧ i < l * 4 + j
  ·rw [if_pos h1, if_pos (by omega)]
  ·rw [if_neg h1, if_neg (by omega)]
theorem wp.qd5.math (p : List D.Ins) (x : D.Warp) (h : M.qfZ p x) : wp.qd5 p x (fun r => r = M.qd5 p x) := by
 obtain ⟨t1, t2, t3, t4, t5, t6, t7, t8, t9⟩ := qdT h
 unfold wp.qd5
 rw [qdx (by omega), List.nil_append]
 refine ⟨by simp; omega, by omega, ?_⟩
 let G : Nat → List Int := M.qfx (M.qaO p x) x.Number (M.qdb x.Frames).Mask x.Regs
 have hG : ∀ k, k ≤ 8 → (G k).length = 32 := fun k hk => qhp t4 k hk
 refine qcS 8 (fun k => ((k : Int), G k, ())) (fun _ => True) rfl trivial (fun k hk _ next hn => ?_) fun _ next => qaA (by simp) rfl
 have hn := hn trivial
 have hGk := hG k (by omega)
 have hnext : G (k + 1) = if M.qdu (M.qdb x.Frames).Mask (k : Int) then M.qfD (G k) k (M.apply (M.qaO p x) (x.Number * 8 + (k : Int)) (M.qeU x.Regs k)) else G k := rfl
 rw [hnext] at hn
 dsimp only
 generalize G k = g at *
 refine qaH (by simp; omega) fun b hb => ?_
 have hb : b = M.qdu (M.qdb x.Frames).Mask (k : Int) := hb
 have a1 : wrap .i64 ((k : Int) * 4) = (k : Int) * 4 := w64 (by omega) (by omega)
 have a2 : wrap .i64 ((wrap .i64 ((k : Int) + 1)) * 4) = (k : Int) * 4 + 4 := by rw [w64 (x := (k : Int) + 1) (by omega) (by omega), w64 (by omega) (by omega)]; omega
 have a3 : wrap .i64 ((wrap .i64 (x.Number * 8)) + (k : Int)) = x.Number * 8 + (k : Int) := by rw [w64 (x := x.Number * 8) (by omega) (by omega), w64 (by omega) (by omega)]
 refine qa2 (fun e => ?_) fun e => ?_
 ·rw [if_pos (hb.symm.trans e)] at hn
  rw [a1, a2, a3, t4, show ((k : Int) * 4 + 4).toNat = k * 4 + 4 by omega, show ((k : Int) * 4).toNat = k * 4 by omega]
  refine ⟨⟨t5, t6⟩, ⟨by omega, by omega, by omega, by omega⟩, qmA t7 t4 hk, fun y hy => ?_⟩
  have hy : y = M.apply (M.qaO p x) (x.Number * 8 + (k : Int)) (M.qeU x.Regs k) := hy
  have hyl : y.length = 4 := by rw [hy, qin, qfl t4 hk]
  rw [← hy] at hn
  refine qcS 4 (fun j => ((j : Int), qgR g y k j, ())) (fun _ => True) (by rw [qlY]; rfl) trivial (fun j hj _ next2 hn2 => ?_) fun _ next2 => ?_
  ·have hn2 := hn2 trivial
   rw [← qm6 hGk hk hyl hj] at hn2
   dsimp only
   have a4 : wrap .i64 ((k : Int) * 4 + (j : Int)) = (k : Int) * 4 + (j : Int) := w64 (by omega) (by omega)
   rw [a4, hyl, qjX hGk hk hyl (by omega), show ((k : Int) * 4 + (j : Int)).toNat = k * 4 + j by omega, up64 (n := 4) hj (by omega)]
   exact qaH (by simp; omega) ⟨by omega, by omega, hn2⟩
  ·dsimp only
   rw [qlZ hyl, up64 (n := 8) hk (by omega)]
   exact qaA (by simp) hn
 ·rw [if_neg (by rw [← hb, e]; simp)] at hn
  rw [up64 (n := 8) hk (by omega)]
  exact hn
theorem wp.qdr.math (p : List D.Ins) (x : D.Warp) (h : M.qgu p x) : wp.qdr p x (fun r => r = M.qdr p x) := by
 obtain ⟨hr, hl⟩ := h
 obtain ⟨t1, t2, t3, t4, t5, t6, t7, t8, t9⟩ := qdT hr
 obtain ⟨f1, f2, f3, f4, f5, f6⟩ := qhn hr
 have hx := hr.2.2
 unfold wp.qdr
 rw [qdx (by omega)]
 refine ⟨⟨by omega, by omega⟩, fun y hy => ?_⟩
 have hy : y = x := hy
 subst hy
 have e1 : ((y.Frames.length : Int) - 1).toNat = y.Frames.length - 1 := by omega
 refine ⟨by omega, ⟨t5, t6⟩, hr, fun s hs => ?_⟩
 have hs : s = M.splits p y := hs
 have hw : wrap .i64 (M.qdL y + 1) = M.qdL y + 1 := w64 (by omega) (by omega)
 refine qa2 (fun e => ⟨by show y.Frames.length ≤ 9223372036854775807; omega, fun z hz => ?_⟩) fun e => ⟨hr, fun rg hrg => ?_⟩
 ·have hsp := hs.symm.trans e
  obtain ⟨hsp', hz0, hzm⟩ := qiS hsp
  have hb := qhB hr hsp'
  have hz : z = M.qcB y (M.qaO p y).A := by
   have hz : z = M.qaU y (M.qaO p y).A := hz
   rw [hz]
   unfold M.qaU
   rw [if_pos (by rw [qhQ t7 hsp'.1, t4]; rfl)]
  have hact : M.qb2 y = (M.qdb y.Frames).Mask := qh7 hx
  obtain ⟨m1, m2, m3⟩ := qlN (x := y) (reg := (M.qaO p y).A) (by rw [hact]; exact f5)
  rw [hact] at m2 m3
  have hm : wrap .i64 ((M.qdb y.Frames).Mask - z) = qf3 .i64 (M.qdb y.Frames).Mask (M.qcB y (M.qaO p y).A) := by
   rw [m2, hz]
   simp only [M.qfR, M.isIn, Bool.and_eq_true, decide_eq_true_eq] at m3
   exact w64 (by omega) (by omega)
  refine ⟨hb, fun j hj => ⟨by omega, ⟨by simp; omega, ⟨by refine ⟨?_, ?_⟩ <;> simp <;> omega, fun d hd => ?_⟩⟩⟩⟩
  have hj : j = M.qh8 p (M.qdL y) := hj
  have hd : d = M.qgE (M.separated p y) p.length := by
   rw [hd]
   show M.qgE _ _ = M.qgE _ _
   congr 1
   unfold M.separated M.qen
   rw [← hm, ← hj, ← hz, e1, ← hw]; rfl
  show d = M.stepW p y
  unfold M.stepW
  rw [if_pos hsp]; exact hd
 ·have hns : ¬ M.splits p y = true := by rw [← hs, e]; simp
  have hrg : rg = M.qgF (M.qaO p y) y.Number (M.qdb y.Frames).Mask y.Regs := hrg
  have hfit : ∀ pc, M.WFit ⟨y.Number, y.Frames.set ((y.Frames.length : Int) - 1).toNat ⟨pc, (M.qdb y.Frames).Stop, (M.qdb y.Frames).Mask⟩, rg⟩ := fun pc => by
   refine ⟨?_, ?_⟩
   ·show (y.Frames.set _ _).length ≤ _
    rw [List.length_set]; omega
   ·show rg.length ≤ _
    rw [hrg, qhw t4]; omega
  have fin : ∀ pc, pc = M.qgz p y → ∀ d, d = M.qaM p ⟨y.Number, y.Frames.set ((y.Frames.length : Int) - 1).toNat ⟨pc, (M.qdb y.Frames).Stop, (M.qdb y.Frames).Mask⟩, rg⟩ → d = M.stepW p y := by
   rintro _ rfl d hd
   rw [hd, hrg]
   show M.qgE _ _ = _
   unfold M.stepW
   rw [if_neg hns, e1]; rfl
  show qa1 ((M.qaO p y).Op == 12) _ (qa1 ((M.qaO p y).Op == 11) _ (_ ∧ qa1 ((M.qaO p y).Op == 10) _ (qa1 false _ _)))
  refine qa2 (fun c1 => ⟨by omega, hfit _, fun d hd => fin _ ?_ d hd⟩) fun c1 => qa2 (fun c2 => ⟨by omega, hfit _, fun d hd => fin _ ?_ d hd⟩) fun c2 => ⟨by omega, qa2 (fun c3 => ⟨by show y.Frames.length ≤ 9223372036854775807; omega, fun z hz => ?_⟩) fun c3 => qaA rfl ⟨hfit _, fun d hd => fin _ ?_ d hd⟩⟩
  ·have c1 : (M.qaO p y).Op = 12 := by simpa using c1
   simp [M.qgz, c1]
  ·have c2 : (M.qaO p y).Op = 11 := by simpa using c2
   simp only [M.qgz, c2]
   rfl
  ·have c3 : (M.qaO p y).Op = 10 := by simpa using c3
   have hz : z = M.qcB y (M.qaO p y).A := by
    have hz : z = M.qaU y (M.qaO p y).A := hz
    rw [hz]
    unfold M.qaU
    rw [if_pos (by rw [qhQ t7 c3, t4]; rfl)]
   show qa1 (z == (M.qdb y.Frames).Mask) _ _
   rw [hz]
   refine qa2 (fun c4 => ⟨by rw [List.length_set]; omega, hfit _, fun d hd => fin _ ?_ d hd⟩) fun c4 => ⟨hfit _, fun d hd => fin _ ?_ d hd⟩
   ·have c4 : M.qcB y (M.qaO p y).A = (M.qdb y.Frames).Mask := by simpa using c4
    unfold M.qgz
    rw [if_neg (by omega), if_neg (by omega), if_pos ⟨c3, c4⟩]; rfl
   ·have c4 : ¬ M.qcB y (M.qaO p y).A = (M.qdb y.Frames).Mask := by simpa using c4
    unfold M.qgz
    rw [if_neg (by omega), if_neg (by omega), if_neg (fun hc => c4 hc.2)]
    exact hw
  ·have c1 : ¬ (M.qaO p y).Op = 12 := by simpa using c1
   have c2 : ¬ (M.qaO p y).Op = 11 := by simpa using c2
   have c3 : ¬ (M.qaO p y).Op = 10 := by simpa using c3
   unfold M.qgz
   rw [if_neg c1, if_neg c2, if_neg (fun hc => c3 hc.1)]
   exact hw
end Go.V
namespace Go.V
open IntKind (wrap)
theorem wp.qbo.math (x : D.Warp) (p : List D.Ins) (h : M.qfN x p) : wp.qbo x p (fun r => r = M.qbo x p) := by
 obtain ⟨hp, hw⟩ := h
 unfold wp.qbo
 rw [qhb]
 refine qa2 (fun e => ?_) fun e => ?_
 ·have : M.qaP p x = false := by simp [M.qaP, e]
  unfold M.qbo
  rw [if_neg (by rw [this]; simp)]
 have hx : x.Frames ≠ [] := by simpa using e
 have hr : M.Runs p x := ⟨hp, hw, hx⟩
 obtain ⟨t1, t2, t3, t4, t5, t6, t7, t8, t9⟩ := qdT hr
 rw [qdx (by omega)]
 have hl : ∀ b, M.qcy (M.qaO p x) = b → M.qaP p x = (b && (!M.splits p x || decide (x.Frames.length ≤ 22))) := fun b hb => by
  simp only [M.qaP, hb, e, Bool.not_false, Bool.true_and]
 have no : M.qaP p x = false → (false, x) = M.qbo x p := fun hf => by
  unfold M.qbo
  rw [if_neg (by rw [hf]; simp)]
 have yes : M.qaP p x = true → ∀ y, y = M.stepW p x → (true, y) = M.qbo x p := fun hf y hy => by
  unfold M.qbo
  rw [if_pos hf, hy]
 refine ⟨by omega, ⟨t5, t6⟩, fun b hb => qa2 (fun c => no ?_) fun c => ⟨hr, fun s hs => qa2 (fun c2 => ⟨⟨hr, ?_⟩, fun q hq => ?_⟩) fun c2 => ⟨hr, fun q hq => ⟨?_, fun d hd => ?_⟩⟩⟩⟩
 ·have c : b = false := by simpa using c
  rw [hl b hb.symm, c]; rfl
 ·exact (qiS (hs.symm.trans c2)).1
 ·have c : b = true := by simpa using c
  have hsp : M.splits p x = true := hs.symm.trans c2
  have hl' := hl b hb.symm
  rw [c, hsp] at hl'
  simp only [Bool.true_and, Bool.not_true, Bool.false_or] at hl'
  rw [hq]
  unfold M.qaT
  by_cases h22 : x.Frames.length ≤ 22
  ·rw [decide_eq_true h22] at hl'
   rw [if_pos h22]
   refine qaA rfl ⟨?_, fun d hd => yes hl' _ ?_⟩
   ·show (M.separated p x).Frames.length ≤ 9223372036854775807
    simp only [M.separated, M.qen, List.length_append, List.length_set, List.length_cons, List.length_nil]; omega
   ·rw [hd]
    unfold M.stepW
    rw [if_pos hsp]; rfl
  ·rw [decide_eq_false h22] at hl'
   rw [if_neg h22]
   exact qaH rfl (no hl')
 ·rw [hq]
  show (M.qen x.Frames _).length ≤ 9223372036854775807
  simp only [M.qen, List.length_set]; omega
 ·have c : b = true := by simpa using c
  have hsp : M.splits p x = false := by rw [← show s = M.splits p x from hs, c2]
  have hl' := hl b hb.symm
  rw [c, hsp] at hl'
  refine yes hl' _ ?_
  rw [hd, hq]
  unfold M.stepW
  rw [if_neg (by rw [hsp]; simp)]; rfl
theorem qlu {p : List D.Ins} (hp : M.qb6 p = true) {w : Int} (hw : M.isIn w 0 2 = true) : M.Fine p (M.qdJ p w) := by
 refine ⟨hp, ?_⟩
 have hz : (List.replicate 32 (0 : Int)).all M.isWord = true := by rfl
 unfold M.qfS
 have hN : (M.qdJ p w).Number = w := rfl
 have hR : (M.qdJ p w).Regs = List.replicate 32 0 := rfl
 have hF : (M.qdJ p w).Frames = if p.length > 0 then [⟨0, p.length, 255⟩] else [] := rfl
 rw [hN, hR, hF, hw, hz, List.length_replicate]
 by_cases h0 : p.length > 0
 ·rw [if_pos h0]
  have hn : (p.length : Int) ≠ 0 := by omega
  have h1 : M.qem p.length ⟨0, p.length, 255⟩ = true := by
   simp only [M.qem, M.isIn, M.qfR, Bool.and_eq_true, decide_eq_true_eq, bne_iff_ne]; omega
  have hl : M.qdb [(⟨0, p.length, 255⟩ : D.Frame)] = ⟨0, p.length, 255⟩ := rfl
  have hr : rd [(⟨0, p.length, 255⟩ : D.Frame)] 0 = ⟨0, p.length, 255⟩ := rfl
  have h2 : M.qig [(⟨0, p.length, 255⟩ : D.Frame)] p.length = true := by
   unfold M.qig
   rw [hl, hr]
   simp only [Bool.and_eq_true, decide_eq_true_eq, bne_iff_ne, beq_iff_eq, List.length_cons, List.length_nil]
   exact ⟨by omega, fun h => hn h.symm, fun h => hn h.symm, trivial, trivial⟩
  have : M.qee [(⟨0, p.length, 255⟩ : D.Frame)] p.length = true := by
   unfold M.qee
   rw [h2]; simp [h1]
  rw [this]; rfl
 ·rw [if_neg h0]; rfl
end Go.V
namespace Go.V
open IntKind (wrap)
def wp.qd1 (c : D.Cur) (d : Int) (Q : (Bool × D.Cur) → Prop) : Prop :=
 (M.qav c d ∧ ∀ a, a = M.qa0 c d → Q ((a.1 == 0), (⟨c.b, a.2.i, a.2.h⟩ : D.Cur)))
def wp.qb3 (e : D.Cur) (r : List D.Ins) (m : Int) (Q : ((List D.Ins) × D.Cur) → Prop) : Prop :=
 (M.qav e 4 ∧ ∀ o, o = M.qa0 e 4 → qcX (σ := (List D.Ins) × Int × Int × Int × Unit) (fun (s : (List D.Ins) × Int × Int × Int × Unit) l => match s with | (a, g, p, q, _) => qa1 (decide (g > 0)) (qa1 (decide ((a.length : Int) < 20)) ((M.qav (⟨e.b, p, q⟩ : D.Cur) 5 ∧ ∀ d, d = M.qa0 (⟨e.b, p, q⟩ : D.Cur) 5 → qa1 (d.1 == 0) (qa1 (m == 0) (l (a, (wrap .i64 (g - 1)), d.2.i, d.2.h, ())) ((M.qav (⟨e.b, d.2.i, d.2.h⟩ : D.Cur) 4 ∧ ∀ j, j = M.qa0 (⟨e.b, d.2.i, d.2.h⟩ : D.Cur) 4 → ((a.length + ([(⟨10, j.1, 0, 0⟩ : D.Ins)] : List D.Ins).length ≤ 17179869184) ∧ (M.qdZ (⟨e.b, j.2.i, j.2.h⟩ : D.Cur) (a ++ ([(⟨10, j.1, 0, 0⟩ : D.Ins)] : List D.Ins)) (wrap .i64 (m - 1)) ∧ ∀ c, c = M.qb3 (⟨e.b, j.2.i, j.2.h⟩ : D.Cur) (a ++ ([(⟨10, j.1, 0, 0⟩ : D.Ins)] : List D.Ins)) (wrap .i64 (m - 1)) → (M.qfj (⟨e.b, c.2.i, c.2.h⟩ : D.Cur) 2 ∧ ∀ k, k = M.qd1 (⟨e.b, c.2.i, c.2.h⟩ : D.Cur) 2 → qa1 k.1 (((0 ≤ (a.length : Int) ∧ (a.length : Int) < (c.1.length : Int)) ∧ l ((List.set c.1 ((a.length : Int).toNat) (⟨(rd c.1 (a.length : Int)).Op, (rd c.1 (a.length : Int)).A, (c.1.length : Int), (rd c.1 (a.length : Int)).C⟩ : D.Ins)), (wrap .i64 (g - 1)), k.2.i, k.2.h, ()))) (((c.1.length + ([(⟨11, 0, 0, 0⟩ : D.Ins)] : List D.Ins).length ≤ 17179869184) ∧ ((0 ≤ (a.length : Int) ∧ (a.length : Int) < ((c.1 ++ ([(⟨11, 0, 0, 0⟩ : D.Ins)] : List D.Ins)).length : Int)) ∧ (M.qdZ (⟨e.b, k.2.i, k.2.h⟩ : D.Cur) (List.set (c.1 ++ ([(⟨11, 0, 0, 0⟩ : D.Ins)] : List D.Ins)) ((a.length : Int).toNat) (⟨(rd (c.1 ++ ([(⟨11, 0, 0, 0⟩ : D.Ins)] : List D.Ins)) (a.length : Int)).Op, (rd (c.1 ++ ([(⟨11, 0, 0, 0⟩ : D.Ins)] : List D.Ins)) (a.length : Int)).A, (((c.1 ++ ([(⟨11, 0, 0, 0⟩ : D.Ins)] : List D.Ins))).length : Int), (rd (c.1 ++ ([(⟨11, 0, 0, 0⟩ : D.Ins)] : List D.Ins)) (a.length : Int)).C⟩ : D.Ins)) (wrap .i64 (m - 1)) ∧ ∀ f, f = M.qb3 (⟨e.b, k.2.i, k.2.h⟩ : D.Cur) (List.set (c.1 ++ ([(⟨11, 0, 0, 0⟩ : D.Ins)] : List D.Ins)) ((a.length : Int).toNat) (⟨(rd (c.1 ++ ([(⟨11, 0, 0, 0⟩ : D.Ins)] : List D.Ins)) (a.length : Int)).Op, (rd (c.1 ++ ([(⟨11, 0, 0, 0⟩ : D.Ins)] : List D.Ins)) (a.length : Int)).A, (((c.1 ++ ([(⟨11, 0, 0, 0⟩ : D.Ins)] : List D.Ins))).length : Int), (rd (c.1 ++ ([(⟨11, 0, 0, 0⟩ : D.Ins)] : List D.Ins)) (a.length : Int)).C⟩ : D.Ins)) (wrap .i64 (m - 1)) → ((0 ≤ (c.1.length : Int) ∧ (c.1.length : Int) < (f.1.length : Int)) ∧ l ((List.set f.1 ((c.1.length : Int).toNat) (⟨(rd f.1 (c.1.length : Int)).Op, (rd f.1 (c.1.length : Int)).A, (f.1.length : Int), (rd f.1 (c.1.length : Int)).C⟩ : D.Ins)), (wrap .i64 (g - 1)), f.2.i, f.2.h, ())))))))))))) (qa1 (d.1 == 1) (qa1 (m == 0) (l (a, (wrap .i64 (g - 1)), d.2.i, d.2.h, ())) (qa1 (decide ((a.length : Int) > 14)) (l (a, (wrap .i64 (g - 1)), d.2.i, d.2.h, ())) (((a.length + ([(⟨8, 3, 0, 0⟩ : D.Ins)] : List D.Ins).length ≤ 17179869184) ∧ (((a ++ ([(⟨8, 3, 0, 0⟩ : D.Ins)] : List D.Ins)).length + ([(⟨10, 3, 0, 0⟩ : D.Ins)] : List D.Ins).length ≤ 17179869184) ∧ ((((a ++ ([(⟨8, 3, 0, 0⟩ : D.Ins)] : List D.Ins)) ++ ([(⟨10, 3, 0, 0⟩ : D.Ins)] : List D.Ins)).length + ([(⟨3, 0, 0, 1⟩ : D.Ins), (⟨1, 2, 1, 0⟩ : D.Ins), (⟨4, 3, 3, 2⟩ : D.Ins)] : List D.Ins).length ≤ 17179869184) ∧ (((((a ++ ([(⟨8, 3, 0, 0⟩ : D.Ins)] : List D.Ins)) ++ ([(⟨10, 3, 0, 0⟩ : D.Ins)] : List D.Ins)) ++ ([(⟨3, 0, 0, 1⟩ : D.Ins), (⟨1, 2, 1, 0⟩ : D.Ins), (⟨4, 3, 3, 2⟩ : D.Ins)] : List D.Ins)).length + ([(⟨11, 0, (((a ++ ([(⟨8, 3, 0, 0⟩ : D.Ins)] : List D.Ins))).length : Int), 0⟩ : D.Ins)] : List D.Ins).length ≤ 17179869184) ∧ ((0 ≤ (((a ++ ([(⟨8, 3, 0, 0⟩ : D.Ins)] : List D.Ins))).length : Int) ∧ (((a ++ ([(⟨8, 3, 0, 0⟩ : D.Ins)] : List D.Ins))).length : Int) < (((((a ++ ([(⟨8, 3, 0, 0⟩ : D.Ins)] : List D.Ins)) ++ ([(⟨10, 3, 0, 0⟩ : D.Ins)] : List D.Ins)) ++ ([(⟨3, 0, 0, 1⟩ : D.Ins), (⟨1, 2, 1, 0⟩ : D.Ins), (⟨4, 3, 3, 2⟩ : D.Ins)] : List D.Ins)) ++ ([(⟨11, 0, (((a ++ ([(⟨8, 3, 0, 0⟩ : D.Ins)] : List D.Ins))).length : Int), 0⟩ : D.Ins)] : List D.Ins)).length : Int)) ∧ l ((List.set ((((a ++ ([(⟨8, 3, 0, 0⟩ : D.Ins)] : List D.Ins)) ++ ([(⟨10, 3, 0, 0⟩ : D.Ins)] : List D.Ins)) ++ ([(⟨3, 0, 0, 1⟩ : D.Ins), (⟨1, 2, 1, 0⟩ : D.Ins), (⟨4, 3, 3, 2⟩ : D.Ins)] : List D.Ins)) ++ ([(⟨11, 0, (((a ++ ([(⟨8, 3, 0, 0⟩ : D.Ins)] : List D.Ins))).length : Int), 0⟩ : D.Ins)] : List D.Ins)) ((((a ++ ([(⟨8, 3, 0, 0⟩ : D.Ins)] : List D.Ins))).length : Int).toNat) (⟨(rd ((((a ++ ([(⟨8, 3, 0, 0⟩ : D.Ins)] : List D.Ins)) ++ ([(⟨10, 3, 0, 0⟩ : D.Ins)] : List D.Ins)) ++ ([(⟨3, 0, 0, 1⟩ : D.Ins), (⟨1, 2, 1, 0⟩ : D.Ins), (⟨4, 3, 3, 2⟩ : D.Ins)] : List D.Ins)) ++ ([(⟨11, 0, (((a ++ ([(⟨8, 3, 0, 0⟩ : D.Ins)] : List D.Ins))).length : Int), 0⟩ : D.Ins)] : List D.Ins)) (((a ++ ([(⟨8, 3, 0, 0⟩ : D.Ins)] : List D.Ins))).length : Int)).Op, (rd ((((a ++ ([(⟨8, 3, 0, 0⟩ : D.Ins)] : List D.Ins)) ++ ([(⟨10, 3, 0, 0⟩ : D.Ins)] : List D.Ins)) ++ ([(⟨3, 0, 0, 1⟩ : D.Ins), (⟨1, 2, 1, 0⟩ : D.Ins), (⟨4, 3, 3, 2⟩ : D.Ins)] : List D.Ins)) ++ ([(⟨11, 0, (((a ++ ([(⟨8, 3, 0, 0⟩ : D.Ins)] : List D.Ins))).length : Int), 0⟩ : D.Ins)] : List D.Ins)) (((a ++ ([(⟨8, 3, 0, 0⟩ : D.Ins)] : List D.Ins))).length : Int)).A, ((((((a ++ ([(⟨8, 3, 0, 0⟩ : D.Ins)] : List D.Ins)) ++ ([(⟨10, 3, 0, 0⟩ : D.Ins)] : List D.Ins)) ++ ([(⟨3, 0, 0, 1⟩ : D.Ins), (⟨1, 2, 1, 0⟩ : D.Ins), (⟨4, 3, 3, 2⟩ : D.Ins)] : List D.Ins)) ++ ([(⟨11, 0, (((a ++ ([(⟨8, 3, 0, 0⟩ : D.Ins)] : List D.Ins))).length : Int), 0⟩ : D.Ins)] : List D.Ins))).length : Int), (rd ((((a ++ ([(⟨8, 3, 0, 0⟩ : D.Ins)] : List D.Ins)) ++ ([(⟨10, 3, 0, 0⟩ : D.Ins)] : List D.Ins)) ++ ([(⟨3, 0, 0, 1⟩ : D.Ins), (⟨1, 2, 1, 0⟩ : D.Ins), (⟨4, 3, 3, 2⟩ : D.Ins)] : List D.Ins)) ++ ([(⟨11, 0, (((a ++ ([(⟨8, 3, 0, 0⟩ : D.Ins)] : List D.Ins))).length : Int), 0⟩ : D.Ins)] : List D.Ins)) (((a ++ ([(⟨8, 3, 0, 0⟩ : D.Ins)] : List D.Ins))).length : Int)).C⟩ : D.Ins)), (wrap .i64 (g - 1)), d.2.i, d.2.h, ()))))))))) ((M.qeX (⟨e.b, d.2.i, d.2.h⟩ : D.Cur) ∧ ∀ n, n = M.qaG (⟨e.b, d.2.i, d.2.h⟩ : D.Cur) → ((a.length + ([n.1] : List D.Ins).length ≤ 17179869184) ∧ l ((a ++ ([n.1] : List D.Ins)), (wrap .i64 (g - 1)), n.2.i, n.2.h, ()))))))) (Q (a, (⟨e.b, p, q⟩ : D.Cur)))) (Q (a, (⟨e.b, p, q⟩ : D.Cur)))) (r, o.1, o.2.i, o.2.h, ()))
end Go.V
namespace Go.V
open IntKind (wrap)
def qj8 (i : D.Ins) : Bool := M.isIn i.Op 1 9 && M.qdD i 32
inductive Seg : Nat → List D.Ins → Prop
 | nil (b : Nat) : Seg b []
 | cat {b : Nat} {s t : List D.Ins} : Seg b s → Seg (b + s.length) t → Seg b (s ++ t)
 | one {b : Nat} {i : D.Ins} : qj8 i = true → Seg b [i]
 | thn {b : Nat} {r : Int} {s : List D.Ins} : 0 ≤ r → r ≤ 3 → Seg (b + 1) s → Seg b (⟨10, r, ((b + 1 + s.length : Nat) : Int), 0⟩ :: s)
 | els {b : Nat} {r : Int} {s t : List D.Ins} : 0 ≤ r → r ≤ 3 → Seg (b + 1) s → Seg (b + 2 + s.length) t → Seg b (⟨10, r, ((b + 2 + s.length : Nat) : Int), 0⟩ :: (s ++ ⟨11, 0, ((b + 2 + s.length + t.length : Nat) : Int), 0⟩ :: t))
 | loop {b : Nat} : b ≤ 14 → Seg b [⟨8, 3, 0, 0⟩, ⟨10, 3, ((b + 6 : Nat) : Int), 0⟩, ⟨3, 0, 0, 1⟩, ⟨1, 2, 1, 0⟩, ⟨4, 3, 3, 2⟩, ⟨11, 0, ((b + 1 : Nat) : Int), 0⟩]
theorem qnM {i : D.Ins} (h : qj8 i = true) {n : Int} (hn : 0 ≤ n ∧ n ≤ 32) : M.qdD i n = true ∧ M.qcy i = true := by
 unfold qj8 at h
 rw [Bool.and_eq_true] at h
 obtain ⟨h1, h2⟩ := h
 have h1' := h1
 simp only [M.isIn, Bool.and_eq_true, decide_eq_true_eq] at h1'
 refine ⟨?_, by simp only [M.qcy, M.isIn, Bool.and_eq_true, decide_eq_true_eq]; omega⟩
 have e : M.isIn n 0 32 = true := by simp only [M.isIn, Bool.and_eq_true, decide_eq_true_eq]; omega
 have e32 : M.isIn 32 0 32 = true := by decide
 unfold M.qdD at h2 ⊢
 rw [e, Bool.true_and]
 rw [e32, Bool.true_and] at h2
 rw [if_neg (by omega : ¬ i.Op = 10), if_neg (by omega : ¬ i.Op = 11)] at h2 ⊢
 exact h2
theorem qq4 {b : Nat} {s : List D.Ins} (h : Seg b s) : ∀ n : Nat, b + s.length ≤ n → n ≤ 32 → ∀ i ∈ s, M.qdD i (n : Int) = true ∧ M.qcy i = true := by
 have br : ∀ (n : Nat) (r : Int) (t : Nat), 0 ≤ r → r ≤ 3 → t ≤ n → n ≤ 32 → M.qdD ⟨10, r, ((t : Nat) : Int), 0⟩ (n : Int) = true ∧ M.qcy ⟨10, r, ((t : Nat) : Int), 0⟩ = true := fun n r t h0 h1 h2 h3 => by
  refine ⟨?_, rfl⟩
  simp only [M.qdD, M.qgB, M.isIn, Bool.and_eq_true, decide_eq_true_eq]
  simp
  omega
 have jm : ∀ (n t : Nat), t ≤ n → n ≤ 32 → M.qdD ⟨11, 0, ((t : Nat) : Int), 0⟩ (n : Int) = true ∧ M.qcy ⟨11, 0, ((t : Nat) : Int), 0⟩ = true := fun n t h2 h3 => by
  refine ⟨?_, rfl⟩
  simp only [M.qdD, M.qgB, M.isIn, Bool.and_eq_true, decide_eq_true_eq]
  simp
  omega
 have pl : ∀ (n : Nat) (i : D.Ins), qj8 i = true → n ≤ 32 → M.qdD i (n : Int) = true ∧ M.qcy i = true := fun n i hi hn => qnM hi ⟨by omega, by omega⟩
 induction h with
 | nil b => intro n _ _ i hi; simp at hi
 | cat _ _ ih1 ih2 =>
  intro n hn h32 i hi
  rw [List.length_append] at hn
  rcases List.mem_append.1 hi with hi | hi
  ·exact ih1 n (by omega) h32 i hi
  ·exact ih2 n (by omega) h32 i hi
 | one hp => intro n hn h32 i hi; rw [List.mem_singleton] at hi; subst hi; exact pl n _ hp h32
 | thn h0 h3 _ ih =>
  intro n hn h32 i hi
  rw [List.length_cons] at hn
  rcases List.mem_cons.1 hi with hi | hi
  ·subst hi; exact br n _ _ h0 h3 (by omega) h32
  ·exact ih n (by omega) h32 i hi
 | els h0 h3 _ _ ih1 ih2 =>
  intro n hn h32 i hi
  rw [List.length_cons, List.length_append, List.length_cons] at hn
  rcases List.mem_cons.1 hi with hi | hi
  ·subst hi; exact br n _ _ h0 h3 (by omega) h32
  rcases List.mem_append.1 hi with hi | hi
  ·exact ih1 n (by omega) h32 i hi
  rcases List.mem_cons.1 hi with hi | hi
  ·subst hi; exact jm n _ (by omega) h32
  ·exact ih2 n (by omega) h32 i hi
 | loop hb =>
  intro n hn h32 i hi
  simp only [List.length_cons, List.length_nil] at hn
  simp only [List.mem_cons, List.not_mem_nil, or_false] at hi
  rcases hi with hi | hi | hi | hi | hi | hi <;> subst hi
  ·exact pl n _ rfl h32
  ·exact br n _ _ (by omega) (by omega) (by omega) h32
  ·exact pl n _ rfl h32
  ·exact pl n _ rfl h32
  ·exact pl n _ rfl h32
  ·exact jm n _ (by omega) h32
theorem qj5 (c : D.Cur) : qj8 (M.qaG c).1 = true := by
 unfold qj8
 rw [(qnk c (n := 32) ⟨by omega, by omega⟩).1, Bool.and_true]
 have h := qdk c (n := 9) (by omega)
 have e : wrap .i64 (1 + (M.qa0 c 9).1) = 1 + (M.qa0 c 9).1 := w64 (by omega) (by omega)
 have : (M.qaG c).1.Op = 1 + (M.qa0 c 9).1 := by
  unfold M.qaG
  simp only
  rw [e]
  split
  ·rfl
  split
  ·rfl
  split <;> rfl
 rw [this]
 simp only [M.isIn, Bool.and_eq_true, decide_eq_true_eq]
 omega
theorem qmI (c : D.Cur) (n : Int) : (M.once c n).2.b = c.b := qco c n
theorem qkP {c : D.Cur} (h : M.qdN c) (n : Int) : M.qdN (M.once c n).2 := qbx h n
theorem qpW {p s : List D.Ins} {x y : D.Ins} : (p ++ x :: s).set p.length y = p ++ y :: s := by
 rw [List.set_append_right _ _ (Nat.le_refl _), Nat.sub_self]; rfl
theorem qle {p s : List D.Ins} {x : D.Ins} {k : Nat} (hk : p.length = k) (v : Int) : M.setB (p ++ x :: s) k v = p ++ ⟨x.Op, x.A, v, x.C⟩ :: s := by
 subst hk
 unfold M.setB
 rw [qpZ rfl, qpW]
def qlc (L : Nat) (rec : D.Cur → List D.Ins → List D.Ins × D.Cur) : Prop :=
 ∀ (c : D.Cur) (p : List D.Ins), M.qdN c → M.qdN (rec c p).2 ∧ (rec c p).2.b = c.b ∧ ∃ s, (rec c p).1 = p ++ s ∧ Seg p.length s ∧ p.length + s.length ≤ max p.length L
theorem ql6 (p : List D.Ins) : M.qiy p = p ++ [⟨8, 3, 0, 0⟩, ⟨10, 3, ((p.length + 6 : Nat) : Int), 0⟩, ⟨3, 0, 0, 1⟩, ⟨1, 2, 1, 0⟩, ⟨4, 3, 3, 2⟩, ⟨11, 0, ((p.length + 1 : Nat) : Int), 0⟩] := by
 have e : M.qjh p = (p ++ [⟨8, 3, 0, 0⟩]) ++ (⟨10, 3, 0, 0⟩ : D.Ins) :: [⟨3, 0, 0, 1⟩, ⟨1, 2, 1, 0⟩, ⟨4, 3, 3, 2⟩, ⟨11, 0, ((p.length + 1 : Nat) : Int), 0⟩] := by
  unfold M.qjh M.qil; simp
 have l1 : (M.qil p).length = (p ++ [(⟨8, 3, 0, 0⟩ : D.Ins)]).length := rfl
 have l2 : (M.qjh p).length = p.length + 6 := by rw [e]; simp
 unfold M.qiy
 rw [l2, e, qle l1.symm]
 simp
theorem qns {L : Nat} {rec : D.Cur → List D.Ins → List D.Ins × D.Cur} (hr : qlc L rec) (hL : 20 ≤ L) {c : D.Cur} (hc : M.qdN c) {p : List D.Ins} (hp : p.length < 20) :
    M.qdN (M.ifIn rec c p).2 ∧ (M.ifIn rec c p).2.b = c.b ∧ ∃ s, (M.ifIn rec c p).1 = p ++ s ∧ Seg p.length s ∧ p.length + s.length ≤ L + 1 := by
 have hreg := qdk c (n := 4) (by omega)
 have c1 := qbx hc 4
 have b1 := qco c 4
 obtain ⟨c2, b2, s1, e1, g1, n1⟩ := hr (M.qa0 c 4).2 (p ++ [⟨10, (M.qa0 c 4).1, 0, 0⟩]) c1
 have hb1 : M.qde rec c p = rec (M.qa0 c 4).2 (p ++ [⟨10, (M.qa0 c 4).1, 0, 0⟩]) := rfl
 rw [← hb1] at c2 b2 e1
 rw [List.length_append, List.length_singleton] at g1 n1
 have e1' : (M.qde rec c p).1 = p ++ ⟨10, (M.qa0 c 4).1, 0, 0⟩ :: s1 := by rw [e1]; simp
 have l1 : (M.qde rec c p).1.length = p.length + 1 + s1.length := by rw [e1']; simp; omega
 have c3 := qkP c2 2
 have b3 := qmI (M.qde rec c p).2 2
 unfold M.ifIn
 split
 ·refine ⟨c3, by rw [b3, b2, b1], _, ?_, Seg.thn (r := (M.qa0 c 4).1) (by omega) (by omega) g1, ?_⟩
  ·show M.setB _ _ _ = _
   rw [l1, e1', qle rfl]
  ·rw [List.length_cons]; omega
 ·have e2 : M.setB ((M.qde rec c p).1 ++ [⟨11, 0, 0, 0⟩]) p.length (((M.qde rec c p).1 ++ [(⟨11, 0, 0, 0⟩ : D.Ins)]).length : Int) = p ++ ⟨10, (M.qa0 c 4).1, ((p.length + 2 + s1.length : Nat) : Int), 0⟩ :: (s1 ++ [⟨11, 0, 0, 0⟩]) := by
    rw [List.length_append, List.length_singleton, l1, e1', List.append_assoc, List.cons_append, qle rfl]
    congr 4
    omega
  obtain ⟨c4, b4, s2, e3, g2, n2⟩ := hr (M.once (M.qde rec c p).2 2).2 (p ++ ⟨10, (M.qa0 c 4).1, ((p.length + 2 + s1.length : Nat) : Int), 0⟩ :: (s1 ++ [⟨11, 0, 0, 0⟩])) c3
  have hb2 : M.qhG rec (M.once (M.qde rec c p).2 2).2 p (M.qde rec c p).1 = rec (M.once (M.qde rec c p).2 2).2 (p ++ ⟨10, (M.qa0 c 4).1, ((p.length + 2 + s1.length : Nat) : Int), 0⟩ :: (s1 ++ [⟨11, 0, 0, 0⟩])) := by
   unfold M.qhG; rw [e2]
  rw [← hb2] at c4 b4 e3
  have lq : (p ++ ⟨10, (M.qa0 c 4).1, ((p.length + 2 + s1.length : Nat) : Int), 0⟩ :: (s1 ++ [(⟨11, 0, 0, 0⟩ : D.Ins)])).length = p.length + 2 + s1.length := by simp; omega
  rw [lq] at g2 n2
  have e3' : (M.qhG rec (M.once (M.qde rec c p).2 2).2 p (M.qde rec c p).1).1 = (p ++ ⟨10, (M.qa0 c 4).1, ((p.length + 2 + s1.length : Nat) : Int), 0⟩ :: s1) ++ ⟨11, 0, 0, 0⟩ :: s2 := by rw [e3]; simp
  have l3 : (M.qhG rec (M.once (M.qde rec c p).2 2).2 p (M.qde rec c p).1).1.length = p.length + 2 + s1.length + s2.length := by rw [e3']; simp; omega
  refine ⟨c4, by rw [b4, b3, b2, b1], _, ?_, Seg.els (r := (M.qa0 c 4).1) (by omega) (by omega) g1 g2, ?_⟩
  ·show M.setB _ _ _ = _
   rw [l3, l1, e3', qle (by simp; omega)]
   simp
  ·rw [List.length_cons, List.length_append, List.length_cons]; omega
theorem qlE {L : Nat} {rec : D.Cur → List D.Ins → List D.Ins × D.Cur} (hr : qlc L rec) (hL : 20 ≤ L) (deep : Bool) {c : D.Cur} (hc : M.qdN c) {p : List D.Ins} (hp : p.length < 20) :
    M.qdN (M.qeR rec deep c p).2 ∧ (M.qeR rec deep c p).2.b = c.b ∧ ∃ s, (M.qeR rec deep c p).1 = p ++ s ∧ Seg p.length s ∧ p.length + s.length ≤ if deep then L + 1 else 20 := by
 have c1 := qbx hc 5
 have b1 := qco c 5
 obtain ⟨B, hB, hB1, hB2⟩ : ∃ B, (if deep then L + 1 else 20) = B ∧ 20 ≤ B ∧ (deep = true → B = L + 1) := ⟨_, rfl, by split <;> omega, fun h => if_pos h⟩
 rw [hB]
 have same : M.qdN (M.qa0 c 5).2 ∧ (M.qa0 c 5).2.b = c.b ∧ ∃ s, p = p ++ s ∧ Seg p.length s ∧ p.length + s.length ≤ B :=
  ⟨c1, b1, [], by simp, Seg.nil _, by simp only [List.length_nil]; omega⟩
 unfold M.qeR
 split
 ·split
  ·rename_i hd
   obtain ⟨g1, g2, s, g3, g4, g5⟩ := qns hr hL c1 hp
   exact ⟨g1, by rw [g2, b1], s, g3, g4, by rw [hB2 hd]; exact g5⟩
  ·exact same
 split
 ·split
  ·rename_i hd
   refine ⟨c1, b1, _, ql6 p, Seg.loop (by omega), ?_⟩
   have := hB2 hd.1
   simp only [List.length_cons, List.length_nil]
   omega
  ·exact same
 ·refine ⟨qmX c1, by rw [qnV, b1], _, rfl, Seg.one (qj5 _), ?_⟩
  simp only [List.length_cons, List.length_nil]
  omega
theorem qi2 {L : Nat} {rec : D.Cur → List D.Ins → List D.Ins × D.Cur} (hr : qlc L rec) (hL : 20 ≤ L) (deep : Bool) : ∀ n, qlc (if deep then L + 1 else 20) (M.qjb rec deep n)
 | 0, c, p, hc => ⟨hc, rfl, [], by simp [M.qjb], Seg.nil _, by simp only [List.length_nil]; omega⟩
 | n + 1, c, p, hc => by
  rw [M.qjb]
  split
  ·rename_i hp
   obtain ⟨g1, g2, s, g3, g4, g5⟩ := qlE hr hL deep hc (p := p) (by omega)
   obtain ⟨k1, k2, t, k3, k4, k5⟩ := qi2 hr hL deep n (M.qeR rec deep c p).2 (M.qeR rec deep c p).1 g1
   rw [g3, List.length_append] at k4 k5
   refine ⟨k1, by rw [k2, g2], s ++ t, by rw [k3, g3, List.append_assoc], Seg.cat g4 k4, ?_⟩
   rw [List.length_append]
   have : p.length ≤ if deep = true then L + 1 else 20 := by split <;> omega
   omega
  ·exact ⟨hc, rfl, [], by simp, Seg.nil _, by simp only [List.length_nil]; omega⟩
theorem qn6 {L K : Nat} {rec : D.Cur → List D.Ins → List D.Ins × D.Cur} (h : qlc L rec) (hk : L ≤ K) : qlc K rec := fun c p hc => by
 obtain ⟨g1, g2, s, g3, g4, g5⟩ := h c p hc
 exact ⟨g1, g2, s, g3, g4, by omega⟩
theorem qmO : qlc 20 (fun c p => (p, c)) := fun c p hc => ⟨hc, rfl, [], by simp, Seg.nil _, by simp only [List.length_nil]; omega⟩
theorem qha : ∀ d, qlc (20 + d) (M.body d)
 | 0, c, p, hc => by
  obtain ⟨g1, g2, r⟩ := qi2 qmO (Nat.le_refl _) false (M.qa0 c 4).1.toNat (M.qa0 c 4).2 p (qbx hc 4)
  exact ⟨g1, g2.trans (qco c 4), r⟩
 | d + 1, c, p, hc => by
  obtain ⟨g1, g2, r⟩ := qi2 (qha d) (by omega) true (M.qa0 c 4).1.toNat (M.qa0 c 4).2 p (qbx hc 4)
  exact ⟨g1, g2.trans (qco c 4), r⟩
end Go.V
namespace Go.V
open IntKind (wrap)
theorem qnr {p : List D.Ins} {x : D.Warp} (h : M.Fine p x) : x.Frames.length ≤ 24 ∧ x.Regs.length = 32 := by
 have hw := h.2
 simp only [M.qfS, M.qee, Bool.and_eq_true, Bool.or_eq_true, beq_iff_eq] at hw
 obtain ⟨h1, h2, h3, h4, h5⟩ := hw
 refine ⟨?_, h2⟩
 rcases h5 with h5 | h5
 ·have : x.Frames = [] := by simpa using h5
  rw [this]; simp
 ·simp only [M.qig, Bool.and_eq_true, decide_eq_true_eq] at h5
  exact h5.1
end Go.V
namespace Go.V
open IntKind (wrap)
theorem wp.qd1.math (c : D.Cur) (n : Int) (h : M.qfj c n) : wp.qd1 c n (fun r => r = M.qd1 c n) := by
 refine ⟨h, fun r hr => ?_⟩
 rw [hr, qcx (qco c n)]; rfl
theorem qb3.dec {c : D.Cur} {p : List D.Ins} {x : Int} (h : M.qdZ c p x) (e : (x == 0) = false) : (wrap .i64 (x - 1)).toNat < x.toNat := by
 obtain ⟨_, _, h3, h4⟩ := h
 have e : x ≠ 0 := by simpa using e
 rw [w64 (by omega) (by omega)]; omega
def itB (rec : D.Cur → List D.Ins → List D.Ins × D.Cur) (deep : Bool) : Nat → D.Cur → List D.Ins → List D.Ins × D.Cur
 | 0, c, p => (p, c)
 | k + 1, c, p => M.qeR rec deep (itB rec deep k c p).2 (itB rec deep k c p).1
def qhf : Nat → D.Cur → List D.Ins → List D.Ins × D.Cur
 | 0 => fun c p => (p, c)
 | d + 1 => M.body d
def qf4 : Nat → Bool
 | 0 => false
 | _ + 1 => true
theorem qpH (d : Nat) (c : D.Cur) (p : List D.Ins) : M.body d c p = M.qjb (qhf d) (qf4 d) (M.qa0 c 4).1.toNat (M.qa0 c 4).2 p := by cases d <;> rfl
theorem qmn : ∀ d, qlc (20 + d) (qhf d)
 | 0 => qmO
 | d + 1 => qn6 (qha d) (by omega)
theorem wp.qb3.math (c : D.Cur) (p : List D.Ins) (x : Int) (h : M.qdZ c p x) : wp.qb3 c p x (fun r => r = M.qb3 c p x) := by
 obtain ⟨h1, h2, h3, h4⟩ := h
 obtain ⟨d, rfl⟩ := Int.eq_ofNat_of_zero_le h3
 unfold wp.qb3
 refine ⟨h1, fun r0 g0 => ?_⟩
 subst g0
 have hb := qdk c (n := 4) (by omega)
 have hc0 := qbx h1 4
 have hb0 := qco c 4
 have eM : M.qb3 c p (d : Int) = M.qjb (qhf d) (qf4 d) (M.qa0 c 4).1.toNat (M.qa0 c 4).2 p := by
  unfold M.qb3
  rw [Int.toNat_natCast, qpH]
 rw [eM]
 obtain ⟨n, hn⟩ := Int.eq_ofNat_of_zero_le hb.1
 generalize (M.qa0 c 4).2 = c0 at *
 rw [hn] at hb ⊢
 rw [Int.toNat_natCast]
 refine qcS n (fun k => ((itB (qhf d) (qf4 d) k c0 p).1, ((n : Int) - (k : Int)), (itB (qhf d) (qf4 d) k c0 p).2.i, (itB (qhf d) (qf4 d) k c0 p).2.h, ()))
  (fun k => M.qdN (itB (qhf d) (qf4 d) k c0 p).2 ∧ (itB (qhf d) (qf4 d) k c0 p).2.b = c.b ∧ (k ≤ n → M.qjb (qhf d) (qf4 d) n c0 p = M.qjb (qhf d) (qf4 d) (n - k) (itB (qhf d) (qf4 d) k c0 p).2 (itB (qhf d) (qf4 d) k c0 p).1))
  (by simp [itB]) ⟨hc0, hb0, fun _ => rfl⟩ (fun k hk hF next hnx => ?_) fun hF next => ?_
 ·obtain ⟨f1, f2, f3⟩ := hF
  have f3 := f3 (by omega)
  have it : itB (qhf d) (qf4 d) (k + 1) c0 p = M.qeR (qhf d) (qf4 d) (itB (qhf d) (qf4 d) k c0 p).2 (itB (qhf d) (qf4 d) k c0 p).1 := rfl
  rw [it] at hnx
  generalize itB (qhf d) (qf4 d) k c0 p = y at *
  obtain ⟨q, e⟩ := y
  dsimp only at *
  refine qaH (by simp; omega) (qa2 (fun g => ?_) fun g => ?_)
  ·have g : (q.length : Int) < 20 := by simpa using g
   obtain ⟨k1, k2, s, k3, k4, k5⟩ := qlE (qmn d) (by omega) (qf4 d) f1 (p := q) (by omega)
   have ew : wrap .i64 ((n : Int) - (k : Int) - 1) = (n : Int) - ((k + 1 : Nat) : Int) := by rw [w64 (by omega) (by omega)]; omega
   have fin : ∀ P c', M.qeR (qhf d) (qf4 d) e q = (P, c') → next (P, wrap .i64 ((n : Int) - (k : Int) - 1), c'.i, c'.h, ()) := fun P c' hE => by
    rw [ew]
    have := hnx ⟨k1, k2.trans f2, fun _ => ?_⟩
    ·rw [hE] at this; exact this
    ·rw [f3, show n - k = (n - (k + 1)) + 1 by omega, M.qjb, if_pos g]
   rw [qcx f2]
   refine ⟨f1, fun r5 g5 => ?_⟩
   subst g5
   have c5 := qbx f1 5
   have b5 : (M.qa0 e 5).2.b = c.b := (qco e 5).trans f2
   rw [qcx b5]
   have hb5 := qdk e (n := 5) (by omega)
   refine qa2 (fun e0 => ?_) fun e0 => qa2 (fun e1 => ?_) fun e1 => ?_
   ·have e0 : (M.qa0 e 5).1 = 0 := by simpa using e0
    cases d with
    | zero =>
     refine qaH rfl (fin _ _ ?_)
     unfold M.qeR
     rw [if_pos e0]; rfl
    | succ d =>
     refine qaA (by simp; omega) ?_
     have hM : M.qeR (qhf (d + 1)) (qf4 (d + 1)) e q = M.ifIn (M.body d) (M.qa0 e 5).2 q := by
      unfold M.qeR
      rw [if_pos e0]; rfl
     rw [hM] at fin
     generalize (M.qa0 e 5).2 = e5 at *
     refine ⟨c5, fun r6 g6 => ?_⟩
     subst g6
     have c6 := qbx c5 4
     have b6 : (M.qa0 e5 4).2.b = c.b := (qco e5 4).trans b5
     have ed : wrap .i64 (((d + 1 : Nat) : Int) - 1) = (d : Int) := by rw [w64 (by omega) (by omega)]; omega
     have hbody : ∀ c p, M.qb3 c p (d : Int) = M.body d c p := fun c p => by unfold M.qb3; rw [Int.toNat_natCast]
     simp only [qcx b6, ed, hbody]
     obtain ⟨i1, i2, s1, i3, i4, i5⟩ := qha d (M.qa0 e5 4).2 (q ++ [⟨10, (M.qa0 e5 4).1, 0, 0⟩]) c6
     rw [List.length_append, List.length_singleton] at i5
     refine ⟨by simp; omega, ⟨c6, by simp; omega, by omega, by omega⟩, fun r7 g7 => ?_⟩
     have hbr : M.qde (M.body d) e5 q = M.body d (M.qa0 e5 4).2 (q ++ [⟨10, (M.qa0 e5 4).1, 0, 0⟩]) := rfl
     rw [← g7] at hbr i1 i2 i3
     have hE : M.ifIn (M.body d) e5 q = if (M.once r7.2 2).1 then (M.setB r7.1 q.length (r7.1.length : Int), (M.once r7.2 2).2)
         else (M.setB (M.qhG (M.body d) (M.once r7.2 2).2 q r7.1).1 r7.1.length ((M.qhG (M.body d) (M.once r7.2 2).2 q r7.1).1.length : Int), (M.qhG (M.body d) (M.once r7.2 2).2 q r7.1).2) := by
      unfold M.ifIn; rw [hbr]
     rw [hE] at fin
     have b7 : r7.2.b = c.b := i2.trans b6
     have l7 : r7.1.length = q.length + 1 + s1.length := by rw [i3]; simp; omega
     rw [qcx b7]
     refine ⟨i1, fun r8 g8 => ?_⟩
     have g8 : r8 = M.once r7.2 2 := g8
     rw [← g8] at fin
     have c8 : M.qdN r8.2 := by rw [g8]; exact qkP i1 2
     have b8 : r8.2.b = c.b := by rw [g8]; exact (qmI _ _).trans b7
     refine qa2 (fun t => ⟨by omega, ?_⟩) fun t => ⟨by simp; omega, by simp; omega, ?_⟩
     ·refine fin _ _ ?_
      rw [if_pos t, Int.toNat_natCast]; rfl
     ·rw [if_neg (by rw [t]; simp)] at fin
      simp only [qcx b8]
      have hel : M.qhG (M.body d) r8.2 q r7.1 = M.body d r8.2 (List.set (r7.1 ++ [(⟨11, 0, 0, 0⟩ : D.Ins)]) ((q.length : Int).toNat) (⟨(rd (r7.1 ++ [(⟨11, 0, 0, 0⟩ : D.Ins)]) (q.length : Int)).Op, (rd (r7.1 ++ [(⟨11, 0, 0, 0⟩ : D.Ins)]) (q.length : Int)).A, ((r7.1 ++ [(⟨11, 0, 0, 0⟩ : D.Ins)]).length : Int), (rd (r7.1 ++ [(⟨11, 0, 0, 0⟩ : D.Ins)]) (q.length : Int)).C⟩ : D.Ins)) := by
       rw [Int.toNat_natCast]; rfl
      obtain ⟨j1, j2, s2, j3, j4, j5⟩ := qha d r8.2 (List.set (r7.1 ++ [(⟨11, 0, 0, 0⟩ : D.Ins)]) ((q.length : Int).toNat) (⟨(rd (r7.1 ++ [(⟨11, 0, 0, 0⟩ : D.Ins)]) (q.length : Int)).Op, (rd (r7.1 ++ [(⟨11, 0, 0, 0⟩ : D.Ins)]) (q.length : Int)).A, ((r7.1 ++ [(⟨11, 0, 0, 0⟩ : D.Ins)]).length : Int), (rd (r7.1 ++ [(⟨11, 0, 0, 0⟩ : D.Ins)]) (q.length : Int)).C⟩ : D.Ins)) c8
      refine ⟨⟨c8, by simp; omega, by omega, by omega⟩, fun r9 g9 => ?_⟩
      rw [← hel] at g9 j3
      rw [← g9] at fin j3
      refine ⟨?_, ?_⟩
      ·have : r9.1.length = r7.1.length + 1 + s2.length := by rw [j3, List.length_append, List.length_set, List.length_append]; rfl
       omega
      ·refine fin _ _ ?_
       rw [Int.toNat_natCast]; rfl
   ·have e0 : ¬ (M.qa0 e 5).1 = 0 := by simpa using e0
    have e1 : (M.qa0 e 5).1 = 1 := by simpa using e1
    have hM : M.qeR (qhf d) (qf4 d) e q = if qf4 d ∧ ¬ (q.length : Int) > 14 then (M.qiy q, (M.qa0 e 5).2) else (q, (M.qa0 e 5).2) := by
     unfold M.qeR
     rw [if_neg e0, if_pos e1]
    rw [hM] at fin
    cases d with
    | zero =>
     refine qaH rfl (fin _ _ ?_)
     rw [if_neg (by simp [qf4])]
    | succ d =>
     refine qaA (by simp; omega) (qa2 (fun g14 => fin _ _ ?_) fun g14 => ?_)
     ·have g14 : (q.length : Int) > 14 := by simpa using g14
      rw [if_neg (by simp only [not_and, Int.not_lt]; omega)]
     ·have g14 : ¬ (q.length : Int) > 14 := by simpa using g14
      refine ⟨by simp; omega, by simp; omega, by simp; omega, by simp; omega, by simp; omega, fin _ _ ?_⟩
      rw [if_pos ⟨rfl, g14⟩, Int.toNat_natCast]; rfl
   ·have e0 : ¬ (M.qa0 e 5).1 = 0 := by simpa using e0
    have e1 : ¬ (M.qa0 e 5).1 = 1 := by simpa using e1
    refine ⟨c5, fun r6 g6 => ⟨by simp; omega, fin _ _ ?_⟩⟩
    unfold M.qeR
    rw [if_neg e0, if_neg e1, g6]
  ·have g : ¬ (q.length : Int) < 20 := by simpa using g
   rw [f3, show n - k = (n - (k + 1)) + 1 by omega, M.qjb, if_neg g, qcx f2]
 ·obtain ⟨f1, f2, f3⟩ := hF
  refine qaA (by simp) ?_
  rw [f3 (Nat.le_refl _), Nat.sub_self, qcx f2]; rfl
end Go.V
namespace Go.V
open IntKind (wrap)
def memI (i : D.Ins) : Bool := M.isIn i.Op 13 16 && M.qdD i 32
inductive MSeg : Nat → List D.Ins → Prop
 | nil (b : Nat) : MSeg b []
 | cat {b : Nat} {s t : List D.Ins} : MSeg b s → MSeg (b + s.length) t → MSeg b (s ++ t)
 | seg {b : Nat} {s : List D.Ins} : Seg b s → MSeg b s
 | mem {b : Nat} {i : D.Ins} : memI i = true → MSeg b [i]
theorem qpu {i : D.Ins} (h : memI i = true) {n : Int} (hn : 0 ≤ n ∧ n ≤ 32) : M.qdD i n = true := by
 unfold memI at h
 rw [Bool.and_eq_true] at h
 obtain ⟨h1, h2⟩ := h
 simp only [M.isIn, Bool.and_eq_true, decide_eq_true_eq] at h1
 have e : M.isIn n 0 32 = true := by simp only [M.isIn, Bool.and_eq_true, decide_eq_true_eq]; omega
 have e32 : M.isIn 32 0 32 = true := by decide
 unfold M.qdD at h2 ⊢
 rw [e, Bool.true_and]
 rw [e32, Bool.true_and] at h2
 rw [if_neg (by omega : ¬ i.Op = 10), if_neg (by omega : ¬ i.Op = 11)] at h2 ⊢
 exact h2
theorem qpk {b : Nat} {s : List D.Ins} (h : MSeg b s) : ∀ n : Nat, b + s.length ≤ n → n ≤ 32 → ∀ i ∈ s, M.qdD i (n : Int) = true := by
 induction h with
 | nil b => intro n _ _ i hi; simp at hi
 | cat _ _ ih1 ih2 =>
  intro n hn h32 i hi
  rw [List.length_append] at hn
  rcases List.mem_append.1 hi with hi | hi
  ·exact ih1 n (by omega) h32 i hi
  ·exact ih2 n (by omega) h32 i hi
 | seg hs => intro n hn h32 i hi; exact (qq4 hs n hn h32 i hi).1
 | mem hm => intro n hn h32 i hi; rw [List.mem_singleton] at hi; subst hi; exact qpu hm ⟨by omega, by omega⟩
theorem qn3 (c : D.Cur) {l : List Int} (h : l ≠ []) : (M.qau c l).1 ∈ l := by
 have hpos : (0 : Int) < (l.length : Int) := by have := List.length_pos_iff.2 h; omega
 have := qdk c hpos
 exact qke this.1 this.2
theorem qpe (c : D.Cur) : memI (M.qbQ c).1 = true := by
 have h1 := qn3 c (l := [13, 14, 15]) (by simp)
 have h2 := qdk (M.qau c [13, 14, 15]).2 (n := 4) (by omega)
 have h3 := qdk (M.qa0 (M.qau c [13, 14, 15]).2 4).2 (n := 4) (by omega)
 unfold M.qbQ
 simp only [List.mem_cons, List.not_mem_nil, or_false] at h1
 simp only [memI, M.qdD, M.qgB, M.isIn, Bool.and_eq_true, decide_eq_true_eq]
 rcases h1 with h1 | h1 | h1 <;> (rw [h1]; simp; omega)
theorem qlJ {a x : Int} (ha : 0 ≤ a ∧ a ≤ 3) (hx : 0 ≤ x ∧ x ≤ 65535) : qj8 ⟨1, a, x, 0⟩ = true := by
 simp only [qj8, M.qdD, M.qgB, M.isWord, M.isIn, Bool.and_eq_true, decide_eq_true_eq]
 simp
 omega
theorem qoj {op a x : Int} (ho : op = 13 ∨ op = 14 ∨ op = 15) (ha : 0 ≤ a ∧ a ≤ 3) (hx : 0 ≤ x ∧ x ≤ 3) : memI ⟨op, a, x, 0⟩ = true := by
 simp only [memI, M.qdD, M.qgB, M.isIn, Bool.and_eq_true, decide_eq_true_eq]
 rcases ho with rfl | rfl | rfl <;> (simp; omega)
theorem qiA {c : D.Cur} (hc : M.qdN c) {p : List D.Ins} (hp : p.length ≤ 28) : M.qdN (M.qgq c p).2 ∧ (M.qgq c p).2.b = c.b ∧ ∃ s, (M.qgq c p).1 = p ++ s ∧ MSeg p.length s ∧ p.length + s.length ≤ 32 := by
 have c1 := qbx hc 7
 have b1 := qco c 7
 unfold M.qgq
 generalize (M.qa0 c 7).2 = d at *
 split
 ·exact ⟨c1, b1, _, rfl, .mem rfl, by simp; omega⟩
 split
 ·have hr := qdk d (n := 4) (by omega)
  exact ⟨qbx c1 4, (qco d 4).trans b1, _, rfl, .cat (.seg (.one rfl)) (.mem (qoj (by omega) (by omega) (by omega))) (s := [⟨8, 0, 0, 0⟩]), by simp [M.qjT]; omega⟩
 split
 ·have h1 := qn3 d (l := [1, 8, 31]) (by simp)
  simp only [List.mem_cons, List.not_mem_nil, or_false] at h1
  refine ⟨qlh c1 _, (qlG d _).trans b1, _, rfl, ?_, by simp [M.ql0]; omega⟩
  refine .cat (s := [⟨1, 1, (M.qau d [1, 8, 31]).1, 0⟩]) (.seg (.one (qlJ (by omega) (by omega)))) ?_
  refine .cat (s := [⟨8, 0, 0, 0⟩]) (.seg (.one rfl)) (.cat (s := [⟨3, 0, 0, 1⟩]) (.seg (.one rfl)) (.mem rfl))
 split
 ·have h1 := qdk d (n := 8) (by omega)
  have h2 := qdk (M.qa0 d 8).2 (n := 4) (by omega)
  refine ⟨qbx (qbx c1 8) 4, (qco _ 4).trans ((qco d 8).trans b1), _, rfl, ?_, by simp [M.qkK]; omega⟩
  exact .cat (s := [⟨1, 1, 24 + (M.qa0 d 8).1, 0⟩]) (.seg (.one (qlJ (by omega) (by omega)))) (.mem (qoj (by omega) (by omega) (by omega)))
 split
 ·split
  ·obtain ⟨g1, g2, s, g3, g4, g5⟩ := qha 1 d p c1
   exact ⟨g1, g2.trans b1, s, g3, .seg g4, by omega⟩
  ·exact ⟨c1, b1, [], by simp, .nil _, by simp; omega⟩
 split
 ·refine ⟨qbx (qbx (qlh c1 _) 4) 4, (qco _ 4).trans ((qco _ 4).trans ((qlG d _).trans b1)), _, rfl, .mem (qpe d), by simp; omega⟩
 ·exact ⟨qmX c1, (qnV d).trans b1, _, rfl, .seg (.one (qj5 d)), by simp; omega⟩
theorem qjU : ∀ (n : Nat) (c : D.Cur) (p : List D.Ins), M.qdN c → p.length ≤ 32 → M.qdN (M.qi1 n c p).2 ∧ (M.qi1 n c p).2.b = c.b ∧ ∃ s, (M.qi1 n c p).1 = p ++ s ∧ MSeg p.length s ∧ p.length + s.length ≤ 32
 | 0, c, p, hc, hp => ⟨hc, rfl, [], by simp [M.qi1], .nil _, by simpa using hp⟩
 | n + 1, c, p, hc, hp => by
  rw [M.qi1]
  split
  ·rename_i h
   obtain ⟨g1, g2, s, g3, g4, g5⟩ := qiA hc (p := p) (by omega)
   obtain ⟨k1, k2, t, k3, k4, k5⟩ := qjU n (M.qgq c p).2 (M.qgq c p).1 g1 (by rw [g3, List.length_append]; exact g5)
   rw [g3, List.length_append] at k4 k5
   exact ⟨k1, k2.trans g2, s ++ t, by rw [k3, g3, List.append_assoc], .cat g4 k4, by rw [List.length_append]; omega⟩
  ·exact ⟨hc, rfl, [], by simp, .nil _, by simpa using hp⟩
theorem qjn {c : D.Cur} (h : M.qdN c) : M.qdN (M.qa8 c).2 ∧ (M.qa8 c).2.b = c.b ∧ MSeg 0 (M.qa8 c).1 ∧ (M.qa8 c).1.length ≤ 32 ∧ 1 ≤ (M.qa8 c).1.length := by
 obtain ⟨g1, g2, s, g3, g4, g5⟩ := qjU (1 + (M.qa0 c 5).1).toNat (M.qa0 c 5).2 [⟨8, 0, 0, 0⟩] (qbx h 5) (by simp)
 refine ⟨g1, g2.trans (qco c 5), ?_, ?_, ?_⟩
 ·show MSeg 0 (M.qi1 _ _ _).1
  rw [g3]
  exact .cat (.seg (.one rfl)) g4
 ·show (M.qi1 _ _ _).1.length ≤ 32
  rw [g3, List.length_append]; exact g5
 ·show 1 ≤ (M.qi1 _ _ _).1.length
  rw [g3, List.length_append]; simp
theorem qlm {c : D.Cur} (h : M.qdN c) : M.qb6 (M.qa8 c).1 = true := by
 obtain ⟨_, _, g3, g4, _⟩ := qjn h
 unfold M.qb6
 rw [Bool.and_eq_true, List.all_eq_true, decide_eq_true_eq]
 exact ⟨g4, qpk g3 _ (by omega) g4⟩
end Go.V
namespace Go.V
open IntKind (wrap)
theorem qoY {b : List Int} (h : M.Long b) {k n : Int} (h0 : 0 ≤ k) (hk : k < 12) (hn : 0 < n) : 0 ≤ Int.tmod (rd (M.qbq b) k) n ∧ Int.tmod (rd (M.qbq b) k) n < n := by
 have hpl : (M.qbq b).length = 12 := qhT 12 _
 have := qk7 12 (M.qb9 b) _ (qke (xs := M.qbq b) (i := k) h0 (by omega))
 exact qmv this.1 hn
end Go.V
namespace Go.V
open IntKind (wrap)
def wp.qbQ (a : D.Cur) (Q : (D.Ins × D.Cur) → Prop) : Prop :=
 (M.qef a ([13, 14, 15] : List Int) ∧ ∀ c, c = M.qau a ([13, 14, 15] : List Int) → (M.qav (⟨a.b, c.2.i, c.2.h⟩ : D.Cur) 4 ∧ ∀ d, d = M.qa0 (⟨a.b, c.2.i, c.2.h⟩ : D.Cur) 4 → (M.qav (⟨a.b, d.2.i, d.2.h⟩ : D.Cur) 4 ∧ ∀ e, e = M.qa0 (⟨a.b, d.2.i, d.2.h⟩ : D.Cur) 4 → Q ((⟨c.1, d.1, e.1, 0⟩ : D.Ins), (⟨a.b, e.2.i, e.2.h⟩ : D.Cur)))))
def wp.qa8 (c : D.Cur) (Q : ((List D.Ins) × D.Cur) → Prop) : Prop :=
 (M.qav c 5 ∧ ∀ o, o = M.qa0 c 5 → qcX (σ := (List D.Ins) × Int × Int × Int × Unit) (fun (s : (List D.Ins) × Int × Int × Int × Unit) f => match s with | (d, e, p, q, _) => qa1 (decide (e > 0)) (qa1 (decide ((wrap .i64 ((d.length : Int) + 4)) ≤ 32)) ((M.qav (⟨c.b, p, q⟩ : D.Cur) 7 ∧ ∀ a, a = M.qa0 (⟨c.b, p, q⟩ : D.Cur) 7 → qa1 (a.1 == 0) (((d.length + ([(⟨16, 0, 0, 0⟩ : D.Ins)] : List D.Ins).length ≤ 17179869184) ∧ f ((d ++ ([(⟨16, 0, 0, 0⟩ : D.Ins)] : List D.Ins)), (wrap .i64 (e - 1)), a.2.i, a.2.h, ()))) (qa1 (a.1 == 1) ((M.qav (⟨c.b, a.2.i, a.2.h⟩ : D.Cur) 4 ∧ ∀ j, j = M.qa0 (⟨c.b, a.2.i, a.2.h⟩ : D.Cur) 4 → ((d.length + ([(⟨8, 0, 0, 0⟩ : D.Ins), (⟨14, 0, j.1, 0⟩ : D.Ins)] : List D.Ins).length ≤ 17179869184) ∧ f ((d ++ ([(⟨8, 0, 0, 0⟩ : D.Ins), (⟨14, 0, j.1, 0⟩ : D.Ins)] : List D.Ins)), (wrap .i64 (e - 1)), j.2.i, j.2.h, ())))) (qa1 (a.1 == 2) ((M.qef (⟨c.b, a.2.i, a.2.h⟩ : D.Cur) ([1, 8, 31] : List Int) ∧ ∀ k, k = M.qau (⟨c.b, a.2.i, a.2.h⟩ : D.Cur) ([1, 8, 31] : List Int) → ((d.length + ([(⟨1, 1, k.1, 0⟩ : D.Ins), (⟨8, 0, 0, 0⟩ : D.Ins), (⟨3, 0, 0, 1⟩ : D.Ins), (⟨13, 2, 0, 0⟩ : D.Ins)] : List D.Ins).length ≤ 17179869184) ∧ f ((d ++ ([(⟨1, 1, k.1, 0⟩ : D.Ins), (⟨8, 0, 0, 0⟩ : D.Ins), (⟨3, 0, 0, 1⟩ : D.Ins), (⟨13, 2, 0, 0⟩ : D.Ins)] : List D.Ins)), (wrap .i64 (e - 1)), k.2.i, k.2.h, ())))) (qa1 (a.1 == 3) ((M.qav (⟨c.b, a.2.i, a.2.h⟩ : D.Cur) 8 ∧ ∀ g, g = M.qa0 (⟨c.b, a.2.i, a.2.h⟩ : D.Cur) 8 → (M.qav (⟨c.b, g.2.i, g.2.h⟩ : D.Cur) 4 ∧ ∀ l, l = M.qa0 (⟨c.b, g.2.i, g.2.h⟩ : D.Cur) 4 → ((d.length + ([(⟨1, 1, (wrap .i64 (24 + g.1)), 0⟩ : D.Ins), (⟨15, 1, l.1, 0⟩ : D.Ins)] : List D.Ins).length ≤ 17179869184) ∧ f ((d ++ ([(⟨1, 1, (wrap .i64 (24 + g.1)), 0⟩ : D.Ins), (⟨15, 1, l.1, 0⟩ : D.Ins)] : List D.Ins)), (wrap .i64 (e - 1)), l.2.i, l.2.h, ()))))) (qa1 (a.1 == 4) (qa1 (decide ((d.length : Int) < 12)) ((M.qdZ (⟨c.b, a.2.i, a.2.h⟩ : D.Cur) d 1 ∧ ∀ r, r = M.qb3 (⟨c.b, a.2.i, a.2.h⟩ : D.Cur) d 1 → f (r.1, (wrap .i64 (e - 1)), r.2.i, r.2.h, ()))) (f (d, (wrap .i64 (e - 1)), a.2.i, a.2.h, ()))) (qa1 (a.1 == 5) ((M.qfA (⟨c.b, a.2.i, a.2.h⟩ : D.Cur) ∧ ∀ m, m = M.qbQ (⟨c.b, a.2.i, a.2.h⟩ : D.Cur) → ((d.length + ([m.1] : List D.Ins).length ≤ 17179869184) ∧ f ((d ++ ([m.1] : List D.Ins)), (wrap .i64 (e - 1)), m.2.i, m.2.h, ())))) ((M.qeX (⟨c.b, a.2.i, a.2.h⟩ : D.Cur) ∧ ∀ n, n = M.qaG (⟨c.b, a.2.i, a.2.h⟩ : D.Cur) → ((d.length + ([n.1] : List D.Ins).length ≤ 17179869184) ∧ f ((d ++ ([n.1] : List D.Ins)), (wrap .i64 (e - 1)), n.2.i, n.2.h, ()))))))))))) (Q (d, (⟨c.b, p, q⟩ : D.Cur)))) (Q (d, (⟨c.b, p, q⟩ : D.Cur)))) (([(⟨8, 0, 0, 0⟩ : D.Ins)] : List D.Ins), (wrap .i64 (1 + o.1)), o.2.i, o.2.h, ()))
end Go.V
namespace Go.V
open IntKind (wrap)
theorem wp.qbQ.math (c : D.Cur) (h : M.qfA c) : wp.qbQ c (fun r => r = M.qbQ c) := by
 have h : M.qdN c := h
 refine ⟨⟨h, by simp, by simp⟩, fun r hr => ?_⟩
 subst hr
 have c1 := qlh h [13, 14, 15]
 have b1 := qlG c [13, 14, 15]
 rw [qcx b1]
 refine ⟨c1, fun r hr => ?_⟩
 subst hr
 have b2 := (qco (M.qau c [13, 14, 15]).2 4).trans b1
 rw [qcx b2]
 refine ⟨qbx c1 4, fun r hr => ?_⟩
 subst hr
 rw [qcx ((qco _ 4).trans b2)]; rfl
def itP : Nat → D.Cur → List D.Ins → List D.Ins × D.Cur
 | 0, c, p => (p, c)
 | k + 1, c, p => M.qgq (itP k c p).2 (itP k c p).1
theorem wp.qa8.math (c : D.Cur) (h : M.qfq c) : wp.qa8 c (fun r => r = M.qa8 c) := by
 have h : M.qdN c := h
 unfold wp.qa8
 refine ⟨h, fun r0 g0 => ?_⟩
 subst g0
 have hb := qdk c (n := 5) (by omega)
 have hc0 := qbx h 5
 have hb0 := qco c 5
 rw [w64 (x := 1 + (M.qa0 c 5).1) (by omega) (by omega)]
 show qcX _ _
 have eM : M.qa8 c = M.qi1 (1 + (M.qa0 c 5).1).toNat (M.qa0 c 5).2 [⟨8, 0, 0, 0⟩] := rfl
 rw [eM]
 obtain ⟨n, hn⟩ := Int.eq_ofNat_of_zero_le (show 0 ≤ 1 + (M.qa0 c 5).1 by omega)
 have hnb : n ≤ 5 := by omega
 generalize (M.qa0 c 5).2 = c0 at *
 rw [hn, Int.toNat_natCast]
 refine qcS n (fun k => ((itP k c0 [⟨8, 0, 0, 0⟩]).1, ((n : Int) - (k : Int)), (itP k c0 [⟨8, 0, 0, 0⟩]).2.i, (itP k c0 [⟨8, 0, 0, 0⟩]).2.h, ()))
  (fun k => M.qdN (itP k c0 [⟨8, 0, 0, 0⟩]).2 ∧ (itP k c0 [⟨8, 0, 0, 0⟩]).2.b = c.b ∧ (itP k c0 [⟨8, 0, 0, 0⟩]).1.length ≤ 32 ∧ (k ≤ n → M.qi1 n c0 [⟨8, 0, 0, 0⟩] = M.qi1 (n - k) (itP k c0 [⟨8, 0, 0, 0⟩]).2 (itP k c0 [⟨8, 0, 0, 0⟩]).1))
  (by simp [itP]) ⟨hc0, hb0, by simp [itP], fun _ => rfl⟩ (fun k hk hF next hnx => ?_) fun hF next => ?_
 ·obtain ⟨f1, f2, fl, f3⟩ := hF
  have f3 := f3 (by omega)
  have it : itP (k + 1) c0 [⟨8, 0, 0, 0⟩] = M.qgq (itP k c0 [⟨8, 0, 0, 0⟩]).2 (itP k c0 [⟨8, 0, 0, 0⟩]).1 := rfl
  rw [it] at hnx
  generalize itP k c0 [⟨8, 0, 0, 0⟩] = y at *
  obtain ⟨q, e⟩ := y
  dsimp only at *
  rw [w64 (x := (q.length : Int) + 4) (by omega) (by omega)]
  refine qaH (by simp; omega) (qa2 (fun g => ?_) fun g => ?_)
  ·have g : (q.length : Int) + 4 ≤ 32 := by simpa using g
   obtain ⟨k1, k2, s, k3, k4, k5⟩ := qiA f1 (p := q) (by omega)
   have ew : wrap .i64 ((n : Int) - (k : Int) - 1) = (n : Int) - ((k + 1 : Nat) : Int) := by rw [w64 (by omega) (by omega)]; omega
   have fin : ∀ P c', M.qgq e q = (P, c') → next (P, wrap .i64 ((n : Int) - (k : Int) - 1), c'.i, c'.h, ()) := fun P c' hE => by
    rw [ew]
    have := hnx ⟨k1, k2.trans f2, by rw [k3, List.length_append]; exact k5, fun _ => ?_⟩
    ·rw [hE] at this; exact this
    ·rw [f3, show n - k = (n - (k + 1)) + 1 by omega, M.qi1, if_pos g]
   rw [qcx f2]
   refine ⟨f1, fun r5 g5 => ?_⟩
   subst g5
   have c5 := qbx f1 7
   have b5 : (M.qa0 e 7).2.b = c.b := (qco e 7).trans f2
   simp only [qcx b5]
   have hb5 := qdk e (n := 7) (by omega)
   have fin2 := fin
   unfold M.qgq at fin2
   generalize (M.qa0 e 7).1 = d at *
   generalize (M.qa0 e 7).2 = e5 at *
   refine qa2 (fun d0 => ?_) fun d0 => qa2 (fun d1 => ?_) fun d1 => qa2 (fun d2 => ?_) fun d2 => qa2 (fun d3 => ?_) fun d3 => qa2 (fun d4 => ?_) fun d4 => qa2 (fun d5 => ?_) fun d5 => ?_
   ·have d0 : d = 0 := by simpa using d0
    exact ⟨by simp; omega, fin2 _ _ (by rw [if_pos d0])⟩
   ·have d0 : ¬ d = 0 := by simpa using d0
    have d1 : d = 1 := by simpa using d1
    refine ⟨c5, fun r hr => ?_⟩
    subst hr
    exact ⟨by simp; omega, fin2 _ _ (by rw [if_neg d0, if_pos d1]; rfl)⟩
   ·have d0 : ¬ d = 0 := by simpa using d0
    have d1 : ¬ d = 1 := by simpa using d1
    have d2 : d = 2 := by simpa using d2
    refine ⟨⟨c5, by simp, by simp⟩, fun r hr => ?_⟩
    subst hr
    exact ⟨by simp; omega, fin2 _ _ (by rw [if_neg d0, if_neg d1, if_pos d2]; rfl)⟩
   ·have d0 : ¬ d = 0 := by simpa using d0
    have d1 : ¬ d = 1 := by simpa using d1
    have d2 : ¬ d = 2 := by simpa using d2
    have d3 : d = 3 := by simpa using d3
    refine ⟨c5, fun r hr => ?_⟩
    subst hr
    have h8 := qdk e5 (n := 8) (by omega)
    rw [qcx ((qco e5 8).trans b5), w64 (x := 24 + (M.qa0 e5 8).1) (by omega) (by omega)]
    refine ⟨qbx c5 8, fun r hr => ?_⟩
    subst hr
    exact ⟨by simp; omega, fin2 _ _ (by rw [if_neg d0, if_neg d1, if_neg d2, if_pos d3]; rfl)⟩
   ·have d0 : ¬ d = 0 := by simpa using d0
    have d1 : ¬ d = 1 := by simpa using d1
    have d2 : ¬ d = 2 := by simpa using d2
    have d3 : ¬ d = 3 := by simpa using d3
    have d4 : d = 4 := by simpa using d4
    rw [if_neg d0, if_neg d1, if_neg d2, if_neg d3, if_pos d4] at fin2
    refine qa2 (fun l12 => ⟨⟨c5, by simp at l12; omega, by omega, by omega⟩, fun r hr => ?_⟩) fun l12 => ?_
    ·have l12 : (q.length : Int) < 12 := by simpa using l12
     rw [if_pos l12] at fin2
     exact fin2 _ _ (by rw [hr]; rfl)
    ·have l12 : ¬ (q.length : Int) < 12 := by simpa using l12
     rw [if_neg l12] at fin2
     exact fin2 _ _ rfl
   ·have d0 : ¬ d = 0 := by simpa using d0
    have d1 : ¬ d = 1 := by simpa using d1
    have d2 : ¬ d = 2 := by simpa using d2
    have d3 : ¬ d = 3 := by simpa using d3
    have d4 : ¬ d = 4 := by simpa using d4
    have d5 : d = 5 := by simpa using d5
    refine ⟨c5, fun r hr => ?_⟩
    subst hr
    exact ⟨by simp; omega, fin2 _ _ (by rw [if_neg d0, if_neg d1, if_neg d2, if_neg d3, if_neg d4, if_pos d5])⟩
   ·have d0 : ¬ d = 0 := by simpa using d0
    have d1 : ¬ d = 1 := by simpa using d1
    have d2 : ¬ d = 2 := by simpa using d2
    have d3 : ¬ d = 3 := by simpa using d3
    have d4 : ¬ d = 4 := by simpa using d4
    have d5 : ¬ d = 5 := by simpa using d5
    refine ⟨c5, fun r hr => ?_⟩
    subst hr
    exact ⟨by simp; omega, fin2 _ _ (by rw [if_neg d0, if_neg d1, if_neg d2, if_neg d3, if_neg d4, if_neg d5])⟩
  ·have g : ¬ (q.length : Int) + 4 ≤ 32 := by simpa using g
   rw [f3, show n - k = (n - (k + 1)) + 1 by omega, M.qi1, if_neg g, qcx f2]
 ·obtain ⟨f1, f2, fl, f3⟩ := hF
  refine qaA (by simp) ?_
  rw [f3 (Nat.le_refl _), Nat.sub_self, qcx f2]; rfl
theorem qmi {p : List D.Ins} (hp : M.qb6 p = true) {c : Int} (hc : 1 ≤ c ∧ c ≤ 3) : M.qdE (M.qeB p c) = true ∧ ((M.qeB p c).Warps.length : Int) = c := by
 have hlen : ((M.qeB p c).Warps.length : Int) = c := by simp [M.qeB]; omega
 have hz : M.qbm (List.replicate 32 0) = true := by rfl
 have hat : ∀ k : Nat, k ≤ 2 → M.qh1 p k (M.qdJ p (k : Int)) = true := fun k hk => by
  unfold M.qh1
  rw [(qlu hp (w := (k : Int)) (by simp only [M.isIn, Bool.and_eq_true, decide_eq_true_eq]; omega)).2]
  simp [M.qdJ]
 have h0 := hat 0 (by omega)
 have h1 := hat 1 (by omega)
 have h2 := hat 2 (by omega)
 refine ⟨?_, hlen⟩
 have : c = 1 ∨ c = 2 ∨ c = 3 := by omega
 unfold M.qdE
 have e1 : (M.qeB p c).Code = p := rfl
 have e2 : (M.qeB p c).Memory = List.replicate 32 0 := rfl
 have e3 : (M.qeB p c).Waiting = 0 := rfl
 have e4 : (M.qeB p c).Phase = 0 := rfl
 rw [e1, e2, e3, e4, hp, hz]
 rcases this with rfl | rfl | rfl
 ·have e5 : (M.qeB p 1).Warps = [M.qdJ p ((0 : Nat) : Int)] := rfl
  rw [e5]
  have : M.qdy p 0 [M.qdJ p ((0 : Nat) : Int)] = true := by simp only [M.qdy, h0]; rfl
  rw [this]; rfl
 ·have e5 : (M.qeB p 2).Warps = [M.qdJ p ((0 : Nat) : Int), M.qdJ p ((1 : Nat) : Int)] := rfl
  rw [e5]
  have : M.qdy p 0 [M.qdJ p ((0 : Nat) : Int), M.qdJ p ((1 : Nat) : Int)] = true := by simp only [M.qdy, h0, h1, Nat.zero_add]; rfl
  rw [this]; rfl
 ·have e5 : (M.qeB p 3).Warps = [M.qdJ p ((0 : Nat) : Int), M.qdJ p ((1 : Nat) : Int), M.qdJ p ((2 : Nat) : Int)] := rfl
  rw [e5]
  have : M.qdy p 0 [M.qdJ p ((0 : Nat) : Int), M.qdJ p ((1 : Nat) : Int), M.qdJ p ((2 : Nat) : Int)] = true := by simp only [M.qdy, h0, h1, h2, Nat.zero_add]; rfl
  rw [this]; rfl
end Go.V
namespace Go.V
open IntKind (wrap)
def qj0 (i : D.Ins) : Prop := 0 ≤ i.A ∧ i.A ≤ 3 ∧ 0 ≤ i.B ∧ i.B ≤ 3
structure qkf (s : List Int × List Int) : Prop where
 l1 : s.1.length = 32
 w1 : s.1.all M.isWord = true
 l2 : s.2.length = 32
 w2 : s.2.all M.isWord = true
theorem qm3 {α : Type} {p : α → Bool} {l : List α} {k : Nat} {y : α} (h : l.all p = true) (hy : p y = true) : (l.set k y).all p = true := by
 rw [List.all_eq_true] at *
 intro x hx
 rcases List.mem_or_eq_of_mem_set hx with h1 | h1
 ·exact h _ h1
 ·rw [h1]; exact hy
theorem qhF {p : Int → Bool} {l : List Int} (h : l.all p = true) {z : Int} (h0 : 0 ≤ z) (h1 : z < (l.length : Int)) : p (rd l z) = true := List.all_eq_true.1 h _ (qke h0 h1)
theorem qpo {x : Int} (h : M.isWord x = true) : 0 ≤ x ∧ x ≤ 65535 := by
 simpa only [M.isWord, M.isIn, Bool.and_eq_true, decide_eq_true_eq] using h
theorem qiO {x : Int} (h : M.isWord x = true) : 0 ≤ Int.tmod x 32 ∧ Int.tmod x 32 < 32 := qiB (qpo h).1 (by omega)
theorem qkx {i : D.Ins} {s : List Int × List Int} {k : Int} (hi : qj0 i) (hs : qkf s) (h0 : 0 ≤ k) (hk : k ≤ 7) : qkf (M.qfp i s k) := by
 obtain ⟨a0, a1, b0, b1⟩ := hi
 obtain ⟨l1, w1, l2, w2⟩ := hs
 have wA := qhF w1 (z := k * 4 + i.A) (by omega) (by omega)
 have wB := qhF w1 (z := k * 4 + i.B) (by omega) (by omega)
 have pB := qiO wB
 unfold M.qfp
 split
 ·exact ⟨by simpa using l1, qm3 w1 (qhF w2 pB.1 (by omega)), l2, w2⟩
 ·split
  ·exact ⟨l1, w1, by simpa using l2, qm3 w2 wB⟩
  ·split
   ·exact ⟨l1, w1, by simpa using l2, qm3 w2 (qlM _ _)⟩
   ·exact ⟨l1, w1, l2, w2⟩
theorem qjg {i : D.Ins} {m : Int} {s : List Int × List Int} (hi : qj0 i) (hs : qkf s) : ∀ k : Nat, k ≤ 8 → qkf (M.ql7 i m s k)
 | 0, _ => hs
 | k + 1, hk => by
  unfold M.ql7
  split
  ·exact qkx hi (qjg hi hs k (by omega)) (by omega) (by omega)
  ·exact qjg hi hs k (by omega)
theorem qnO {i : D.Ins} {m : Int} {s : List Int × List Int} : M.ql7 i m s 8 = (M.qeA m).foldl (M.qfp i) s := by
 have key : ∀ k : Nat, (List.range k).foldl (fun acc (j : Nat) => if M.qdu m (j : Int) = true then M.qfp i acc (j : Int) else acc) s = M.ql7 i m s k := by
  intro k
  induction k with
  | zero => rfl
  | succ k ih =>
   rw [List.range_succ, List.foldl_append, ih]
   simp only [List.foldl_cons, List.foldl_nil, M.ql7]
 rw [← key 8]
 unfold M.qeA
 rw [List.foldl_filter]
 rfl
theorem qov {i : D.Ins} (hi : qj0 i) : ∀ (l : List Int) (s : List Int × List Int), qkf s → (∀ k ∈ l, 0 ≤ k ∧ k ≤ 7) → qkf (l.foldl (M.qfp i) s)
 | [], s, h, _ => h
 | k :: l, s, h, hl => by
  simp only [List.foldl_cons]
  obtain ⟨h0, h7⟩ := hl k List.mem_cons_self
  exact qov hi l _ (qkx hi h h0 h7) fun j hj => hl j (List.mem_cons_of_mem _ hj)
theorem qpd {i : D.Ins} {n : Int} (h : M.qdD i n = true) (hl : M.qcy i = false) : qj0 i ∧ (i.Op = 13 ∨ i.Op = 14 ∨ i.Op = 15 ∨ i.Op = 16) := by
 have hl' : ¬ (0 ≤ i.Op ∧ i.Op ≤ 12) := by
  intro hc
  rw [show M.qcy i = true by simp only [M.qcy, M.isIn, Bool.and_eq_true, decide_eq_true_eq]; exact hc] at hl
  cases hl
 unfold M.qdD at h
 rw [Bool.and_eq_true] at h
 have h := h.2
 unfold qj0
 split at h
 ·rename_i e
  simp only [Bool.and_eq_true, beq_iff_eq] at h
  refine ⟨by omega, by omega⟩
 ·split at h
  ·omega
  ·split at h
   ·rename_i e
    simp only [M.qgB, M.isIn, Bool.and_eq_true, beq_iff_eq, decide_eq_true_eq] at h
    refine ⟨by omega, by omega⟩
   ·split at h
    ·omega
    ·split at h
     ·omega
     ·split at h
      ·omega
      ·simp only [M.isIn, Bool.and_eq_true, decide_eq_true_eq] at h
       omega
theorem qiC {b : D.Block} (h : M.qdE b = true) : b.Memory.length = 32 ∧ b.Memory.all M.isWord = true := by
 simp only [M.qdE, M.qbm, Bool.and_eq_true, beq_iff_eq] at h
 exact h.2.2.1
theorem qjc {b : D.Block} {w : Int} (h : M.Live b w) : qkf ((rd b.Warps w).Regs, b.Memory) := by
 have hr := qgf h.1 h.2
 exact ⟨(qdT hr).2.2.2.1, (qhn hr).2.2.2.2.2, (qiC (qeg h.1).2.2.2.2.2).1, (qiC (qeg h.1).2.2.2.2.2).2⟩
theorem qjf {b : D.Block} {w : Int} (h : M.Live b w) (hl : M.qcy (M.qbR b w) = false) : qj0 (M.qbR b w) ∧ ((M.qbR b w).Op = 13 ∨ (M.qbR b w).Op = 14 ∨ (M.qbR b w).Op = 15 ∨ (M.qbR b w).Op = 16) :=
 qpd (qdT (qgf h.1 h.2)).2.2.2.2.2.2.1 hl
theorem qmz (x : Int) : qdQ .i64 x 1 = x % 2 := by
 unfold qdQ
 have e1 : (BitVec.ofInt (IntKind.bits .i64) x &&& BitVec.ofInt (IntKind.bits .i64) 1).toNat = (x % 2).toNat := by
  show (BitVec.ofInt 64 x &&& BitVec.ofInt 64 1).toNat = _
  rw [BitVec.toNat_and, BitVec.toNat_ofInt, show (BitVec.ofInt 64 1).toNat = 2 ^ 1 - 1 from rfl, Nat.and_two_pow_sub_one_eq_mod]
  rw [show ((2 ^ 64 : Nat) : Int) = 18446744073709551616 from rfl]
  omega
 rw [e1, w64 (by omega) (by omega)]
 omega
theorem qnf (b : D.Block) (k : Int) : (qdQ .i64 (Int.fdiv b.Waiting (2 ^ (min (k.toNat) (IntKind.bits .i64)))) 1 == 0) = !M.waits b k := by
 unfold M.waits
 rw [qmz, Bool.eq_iff_iff]
 simp only [beq_iff_eq, Bool.not_eq_true', beq_eq_false_iff_ne, ne_eq]
 omega
theorem qoJ : ((List.range 8).all fun a => (List.range 4).all fun n => (List.range 3).all fun k => !(decide (1 ≤ n) && (decide (k < n) && decide (a < 2 ^ n))) || (decide (0 ≤ qh0 .i64 ((a : Nat) : Int) (M.qjq ((k : Nat) : Int))) && decide (qh0 .i64 ((a : Nat) : Int) (M.qjq ((k : Nat) : Int)) < 2 ^ n))) = true := by kernel_rfl
theorem qnc : ((List.range 4).all fun n => (List.range 3).all fun k => !decide (k < n) || (Int.fdiv (((2 ^ n - 1 : Nat)) : Int) (2 ^ (min (((k : Nat) : Int).toNat) (IntKind.bits .i64))) % 2 == 1)) = true := by kernel_rfl
theorem qlb : ((List.range 4).all fun n => n == 0 || (M.qhJ n == (2 : Int) ^ n - 2)) = true := by kernel_rfl
theorem qiU {n : Nat} (h1 : 1 ≤ n) (h3 : n ≤ 3) : M.qhJ n = (2 : Int) ^ n - 2 := by
 have := List.all_eq_true.1 qlb n (List.mem_range.2 (by omega))
 simp only [Bool.or_eq_true, beq_iff_eq] at this
 exact this.resolve_left (by omega)
theorem qqb {a : Int} {n k : Nat} (h1 : 1 ≤ n) (h3 : n ≤ 3) (hk : k < n) (h0 : 0 ≤ a) (ha : a ≤ M.qhJ n) : 0 ≤ qh0 .i64 a (M.qjq (k : Int)) ∧ qh0 .i64 a (M.qjq (k : Int)) < (2 : Int) ^ n := by
 rw [qiU h1 h3] at ha
 have hp : (2 : Int) ^ n ≤ 8 := by rcases (by omega : n = 1 ∨ n = 2 ∨ n = 3) with rfl | rfl | rfl <;> decide
 obtain ⟨m, rfl⟩ := Int.eq_ofNat_of_zero_le h0
 have hm : m < 2 ^ n := by have : ((m : Nat) : Int) < ((2 ^ n : Nat) : Int) := by push_cast; omega
                           omega
 have := List.all_eq_true.1 (List.all_eq_true.1 (List.all_eq_true.1 qoJ m (List.mem_range.2 (by omega))) n (List.mem_range.2 (by omega))) k (List.mem_range.2 (by omega))
 simp only [Bool.or_eq_true, Bool.not_eq_true', Bool.and_eq_true, Bool.and_eq_false_iff, decide_eq_true_eq, decide_eq_false_iff_not] at this
 refine this.resolve_left fun hc => ?_
 rcases hc with hc | hc | hc
 ·exact hc h1
 ·exact hc hk
 ·exact hc hm
theorem qn8 {b : D.Block} {n k : Nat} (h3 : n ≤ 3) (hk : k < n) (h : b.Waiting = (2 : Int) ^ n - 1) : M.waits b (k : Int) = true := by
 unfold M.waits
 rw [qmz, beq_iff_eq, h]
 have := List.all_eq_true.1 (List.all_eq_true.1 qnc n (List.mem_range.2 (by omega))) k (List.mem_range.2 (by omega))
 simp only [Bool.or_eq_true, Bool.not_eq_true', decide_eq_false_iff_not, beq_iff_eq] at this
 have := this.resolve_left (by omega)
 have e : (((2 ^ n - 1 : Nat)) : Int) = (2 : Int) ^ n - 1 := by rcases (by omega : n = 0 ∨ n = 1 ∨ n = 2 ∨ n = 3) with rfl | rfl | rfl | rfl <;> rfl
 rw [← e]
 exact this
theorem qhC {b : D.Block} {k : Nat} (h : M.qft b k = false) : ∀ n, k ≤ n → M.qft b n = false
 | 0, hn => by rw [Nat.le_zero.1 hn] at h; exact h
 | n + 1, hn => by
  by_cases e : k = n + 1
  ·rw [← e]; exact h
  ·unfold M.qft
   rw [qhC h n (by omega), Bool.false_and]
theorem qj6 {b : D.Block} (h3 : b.Warps.length ≤ 3) (h : b.Waiting = (2 : Int) ^ b.Warps.length - 1) : ∀ k, k ≤ b.Warps.length → M.qft b k = true
 | 0, _ => rfl
 | k + 1, hk => by
  unfold M.qft
  rw [qj6 h3 h k (by omega), qn8 h3 (by omega) h, Bool.or_true, Bool.true_and]
theorem qho {b : D.Block} (h : M.qdE b = true) : M.qb6 b.Code = true ∧ 1 ≤ b.Warps.length ∧ b.Warps.length ≤ 3 ∧ 0 ≤ b.Waiting ∧ b.Waiting ≤ M.qhJ b.Warps.length ∧ 0 ≤ b.Phase ∧ b.Phase ≤ 100000 ∧ M.qdy b.Code 0 b.Warps = true := by
 simp only [M.qdE, Bool.and_eq_true, M.isIn, decide_eq_true_eq] at h
 obtain ⟨h1, h2, h3, h4, h5, h6⟩ := h
 exact ⟨h1, by omega, by omega, h4.1, h4.2, h5.1, h5.2, h6⟩
theorem qqa {b : D.Block} (h1 : M.qb6 b.Code = true) (h2 : 1 ≤ b.Warps.length ∧ b.Warps.length ≤ 3) (h3 : b.Memory.length = 32 ∧ b.Memory.all M.isWord = true) (h4 : 0 ≤ b.Waiting ∧ b.Waiting ≤ M.qhJ b.Warps.length) (h5 : 0 ≤ b.Phase ∧ b.Phase ≤ 100000)
    (h6 : M.qdy b.Code 0 b.Warps = true) : M.qdE b = true := by
 simp only [M.qdE, M.qbm, Bool.and_eq_true, M.isIn, decide_eq_true_eq, beq_iff_eq]
 exact ⟨h1, ⟨by omega, by omega⟩, h3, h4, h5, h6⟩
theorem qjC {p : List D.Ins} : ∀ {l : List D.Warp} {k : Nat}, M.qdy p k l = true → ∀ x ∈ l, M.qfS p x = true
 | [], _, _, _, hx => by cases hx
 | y :: l, k, h, x, hx => by
  simp only [M.qdy, M.qh1, Bool.and_eq_true] at h
  rcases List.mem_cons.1 hx with rfl | hx
  ·exact h.1.2
  ·exact qjC h.2 x hx
theorem qjG {p : List D.Ins} {y : D.Warp} : ∀ {l : List D.Warp} {k n : Nat}, M.qdy p k l = true → M.qh1 p (k + n) y = true → M.qdy p k (l.set n y) = true
 | [], _, _, h, _ => by simp [M.qdy]
 | x :: l, k, 0, h, hy => by
  simp only [M.qdy, Bool.and_eq_true] at h
  simp only [List.set_cons_zero, M.qdy, Bool.and_eq_true]
  exact ⟨hy, h.2⟩
 | x :: l, k, n + 1, h, hy => by
  simp only [M.qdy, Bool.and_eq_true] at h
  simp only [List.set_cons_succ, M.qdy, Bool.and_eq_true]
  exact ⟨h.1, qjG h.2 (by rw [show k + 1 + n = k + (n + 1) by omega]; exact hy)⟩
theorem qje {b : D.Block} (h : M.qdE b = true) : M.qo1 b := by
 obtain ⟨h1, h2, h3, _, _, _, _, h8⟩ := qho h
 refine ⟨by have := qkr h1; omega, ⟨by omega, fun x hx => ?_⟩, by have := (qiC h).1; omega⟩
 have := qnr (x := x) ⟨h1, qjC h8 x hx⟩
 unfold M.qmF; omega
theorem qnD {p : List D.Ins} {x : D.Warp} {rg : List Int} (h : M.Runs p x) (hl : rg.length = 32) (hw : rg.all M.isWord = true) : M.Runs p ⟨x.Number, x.Frames, rg⟩ := by
 obtain ⟨h1, h2, h3⟩ := h
 refine ⟨h1, ?_, h3⟩
 simp only [M.qfS, Bool.and_eq_true, beq_iff_eq] at h2 ⊢
 exact ⟨h2.1, hl, hw, h2.2.2.2⟩
theorem qnP {p : List D.Ins} {x : D.Warp} (h : M.Runs p x) : M.Fine p (M.qhz p x) := by
 obtain ⟨t1, t2, t3, t4, t5, t6, t7, t8, t9⟩ := qdT h
 obtain ⟨f1, f2, f3, f4, f5, f6⟩ := qhn h
 have hx := h.2.2
 refine ⟨h.1, ?_⟩
 simp only [M.qhz, M.qfS, M.qgE, Bool.and_eq_true, beq_iff_eq]
 refine ⟨by simp only [M.isIn, Bool.and_eq_true, decide_eq_true_eq]; exact ⟨t8, t9⟩, t4, f6, qlr (qiX f1 hx ⟨by omega, by omega⟩) (by simp only [M.qen, List.length_set]; exact f2) fun _ => ?_⟩
 rw [(qhI hx _).1, (qhI hx _).2]
 exact ⟨f3, f4⟩
theorem qgb {b : D.Block} {w : Int} (h : M.qiw b w) : M.Live b w ∧ M.waits b w = false ∧ (M.qcy (M.qbR b w) = true → M.Goes b.Code (rd b.Warps w)) := by
 obtain ⟨hh, hg⟩ := h
 simp only [M.qhj, Bool.and_eq_true, Bool.not_eq_true'] at hg
 obtain ⟨g1, g2, g3⟩ := hg
 have hx : (rd b.Warps w).Frames ≠ [] := by simpa using g1
 refine ⟨⟨hh, hx⟩, g2, fun hl => ⟨qgf hh hx, ?_⟩⟩
 have hl : M.qcy (M.qaO b.Code (rd b.Warps w)) = true := hl
 rw [if_pos hl] at g3
 simp only [M.qaP, g1, hl, g3, Bool.not_false, Bool.and_self]
theorem qlT (p : List D.Ins) (x : D.Warp) : (M.stepW p x).Number = x.Number := by
 unfold M.stepW M.qgE
 split <;> rfl
theorem qib {b : D.Block} {w : Int} {i : D.Ins} (h0 : 0 ≤ w) (h1 : w < (b.Warps.length : Int)) : rd (M.qcQ b w i).Warps w = ⟨(rd b.Warps w).Number, (rd b.Warps w).Frames, (M.qjm i (rd b.Warps w) b.Memory).1⟩ := by
 unfold M.qcQ
 exact qol h0 (by simpa using h1)
theorem qjl {b : D.Block} {w : Int} (h : M.Live b w) (hl : M.qcy (M.qbR b w) = false) : qkf (M.qjm (M.qbR b w) (rd b.Warps w) b.Memory) := qjg (qjf h hl).1 (qjc h) 8 (Nat.le_refl _)
def actW (b : D.Block) (w : Int) : D.Warp := if M.qcy (M.qbR b w) then M.stepW b.Code (rd b.Warps w) else M.qhz b.Code (rd (M.qcQ b w (M.qbR b w)).Warps w)
theorem qhS (b : D.Block) (w : Int) : (M.actB b w).Warps = b.Warps.set w.toNat (actW b w) := by
 unfold M.actB actW
 split <;> rfl
theorem qpj {b : D.Block} {w : Int} (h : M.qiw b w) : M.Fine b.Code (actW b w) ∧ (actW b w).Number = w := by
 obtain ⟨hv, _, hg⟩ := qgb h
 obtain ⟨h0, h1, hp, hw, hn, hok⟩ := qeg hv.1
 unfold actW
 split
 ·rename_i e; exact ⟨qne (hg e), by rw [qlT, hn]⟩
 ·rename_i e
  have e := Bool.eq_false_iff.2 e
  rw [qib h0 h1]
  have hm := qjl hv e
  exact ⟨qnP (qnD (qgf hv.1 hv.2) hm.l1 hm.w1), hn⟩
theorem qmD (b : D.Block) (w : Int) : (⟨b.Code, (M.actB b w).Warps, (M.actB b w).Memory, (M.actB b w).Waiting, (M.actB b w).Phase⟩ : D.Block) = M.actB b w := by
 unfold M.actB
 split <;> rfl
theorem qjv (b : D.Block) (w : Int) : (M.actB b w).Code = b.Code := by unfold M.actB; split <;> rfl
theorem qhW (b : D.Block) (w : Int) : (M.actB b w).Phase = b.Phase := by unfold M.actB; split <;> rfl
theorem qjd (b : D.Block) (w : Int) : (M.actB b w).Warps.length = b.Warps.length := by rw [qhS, List.length_set]
theorem qoR {b : D.Block} {w : Int} (h : M.qiw b w) : (M.actB b w).Memory.length = 32 ∧ (M.actB b w).Memory.all M.isWord = true := by
 obtain ⟨hv, _, hg⟩ := qgb h
 unfold M.actB
 split
 ·have := qiC (qeg hv.1).2.2.2.2.2; exact this
 ·rename_i e
  have hm := qjl hv (Bool.eq_false_iff.2 e)
  exact ⟨hm.l2, hm.w2⟩
theorem qo2 {b : D.Block} {w : Int} (h : M.qiw b w) : 0 ≤ (M.actB b w).Waiting ∧ (M.actB b w).Waiting < (2 : Int) ^ b.Warps.length := by
 obtain ⟨hv, _, hg⟩ := qgb h
 obtain ⟨h0, h1, hp, hw, hn, hok⟩ := qeg hv.1
 obtain ⟨p1, p2, p3, p4, p5, p6, p7, p8⟩ := qho hok
 have hb : b.Waiting < (2 : Int) ^ b.Warps.length := by rw [qiU p2 p3] at p5; omega
 obtain ⟨k, rfl⟩ := Int.eq_ofNat_of_zero_le h0
 unfold M.actB
 split
 ·exact ⟨p4, hb⟩
 ·show 0 ≤ (if (M.qbR b (k : Int)).Op = 16 then qh0 .i64 b.Waiting (M.qjq (k : Int)) else b.Waiting) ∧ (if (M.qbR b (k : Int)).Op = 16 then qh0 .i64 b.Waiting (M.qjq (k : Int)) else b.Waiting) < _
  split
  ·exact qqb p2 p3 (by omega) p4 p5
  ·exact ⟨p4, hb⟩
theorem qli {b : D.Block} {w : Int} (h : M.qiw b w) : M.qdy b.Code 0 (M.actB b w).Warps = true := by
 obtain ⟨hv, _, hg⟩ := qgb h
 obtain ⟨h0, h1, hp, hw, hn, hok⟩ := qeg hv.1
 obtain ⟨q1, q2⟩ := qpj h
 rw [qhS]
 refine qjG (qho hok).2.2.2.2.2.2.2 ?_
 simp only [M.qh1, Bool.and_eq_true, beq_iff_eq]
 exact ⟨by rw [q2]; omega, q1.2⟩
theorem qhV (b : D.Block) (w : Int) : (M.qeG b w).Code = b.Code := by unfold M.qeG M.qhX; split <;> exact qjv b w
theorem qi5 (b : D.Block) (w : Int) : (M.qeG b w).Warps = b.Warps.set w.toNat (actW b w) := by unfold M.qeG M.qhX; split <;> exact qhS b w
theorem qnW (b : D.Block) (w : Int) : (M.qeG b w).Memory = (M.actB b w).Memory := by unfold M.qeG M.qhX; split <;> rfl
theorem qgT (b : D.Block) (w : Int) : (M.qeG b w).Phase = b.Phase ∨ (M.qeG b w).Phase = b.Phase + 1 := by
 unfold M.qeG M.qhX
 split
 ·right; show (M.actB b w).Phase + 1 = _; rw [qhW]
 ·left; exact qhW b w
theorem qoC {b : D.Block} {w : Int} (h : M.qiw b w) (hp : (M.qeG b w).Phase ≤ 100000) : M.qdE (M.qeG b w) = true := by
 obtain ⟨hv, _, hg⟩ := qgb h
 obtain ⟨h0, h1, hpr, hw, hn, hok⟩ := qeg hv.1
 obtain ⟨p1, p2, p3, p4, p5, p6, p7, p8⟩ := qho hok
 have hlen : (M.qeG b w).Warps.length = b.Warps.length := by rw [qi5, List.length_set]
 refine qqa (by rw [qhV]; exact p1) (by rw [hlen]; exact ⟨p2, p3⟩) (by rw [qnW]; exact qoR h) ?_ ⟨by rcases qgT b w with e | e <;> omega, hp⟩ (by rw [qhV, qi5, ← qhS]; exact qli h)
 rw [hlen, qiU p2 p3]
 have hpos : (2 : Int) ≤ (2 : Int) ^ b.Warps.length := by rcases (by omega : b.Warps.length = 1 ∨ b.Warps.length = 2 ∨ b.Warps.length = 3) with e | e | e <;> rw [e] <;> decide
 obtain ⟨w0, w1⟩ := qo2 h
 unfold M.qeG M.qhX
 split
 ·exact ⟨Int.le_refl _, by show (0 : Int) ≤ _; omega⟩
 ·rename_i e
  refine ⟨w0, ?_⟩
  by_cases ef : (M.actB b w).Waiting = (2 : Int) ^ b.Warps.length - 1
  ·exfalso
   apply e
   unfold M.qbt
   rw [qj6 (by rw [qjd]; exact p3) (by rw [qjd]; exact ef) _ (Nat.le_refl _), Bool.true_and, bne_iff_ne]
   omega
  ·omega
end Go.V
namespace Go.V
open IntKind (wrap)
def wp.qcc (d : D.Block) (e : Int) (Q : (D.Block × (List D.Warp) × (List Int)) → Prop) : Prop :=
 (M.qeH d e ∧ ∀ b, b = M.qcs d e → ((0 ≤ e ∧ e < (d.Warps.length : Int)) ∧ (M.qea (rd d.Warps e) ∧ ∀ h, h = M.qbM (rd d.Warps e) → ((0 ≤ e ∧ e < (d.Warps.length : Int)) ∧ qcX (σ := Int × (List Int) × (List Int) × Unit) (fun (k : Int × (List Int) × (List Int) × Unit) g => match k with | (a, f, c, _) => qa1 (decide (a < 8)) ((∀ i, i = M.qbO h a → qa1 (!i) (g ((wrap .i64 (a + 1)), f, c, ())) (((0 ≤ (wrap .i64 ((wrap .i64 (a * 4)) + b.A)) ∧ (wrap .i64 ((wrap .i64 (a * 4)) + b.A)) < (c.length : Int)) ∧ ((0 ≤ (wrap .i64 ((wrap .i64 (a * 4)) + b.B)) ∧ (wrap .i64 ((wrap .i64 (a * 4)) + b.B)) < (c.length : Int)) ∧ qa1 (b.Op == 13) (((0 ≤ (Int.tmod (rd c (wrap .i64 ((wrap .i64 (a * 4)) + b.B))) 32) ∧ (Int.tmod (rd c (wrap .i64 ((wrap .i64 (a * 4)) + b.B))) 32) < (f.length : Int)) ∧ ((0 ≤ (wrap .i64 ((wrap .i64 (a * 4)) + b.A)) ∧ (wrap .i64 ((wrap .i64 (a * 4)) + b.A)) < (c.length : Int)) ∧ g ((wrap .i64 (a + 1)), f, (List.set c ((wrap .i64 ((wrap .i64 (a * 4)) + b.A)).toNat) (rd f (Int.tmod (rd c (wrap .i64 ((wrap .i64 (a * 4)) + b.B))) 32))), ())))) (qa1 (b.Op == 14) (((0 ≤ (Int.tmod (rd c (wrap .i64 ((wrap .i64 (a * 4)) + b.A))) 32) ∧ (Int.tmod (rd c (wrap .i64 ((wrap .i64 (a * 4)) + b.A))) 32) < (f.length : Int)) ∧ g ((wrap .i64 (a + 1)), (List.set f ((Int.tmod (rd c (wrap .i64 ((wrap .i64 (a * 4)) + b.A))) 32).toNat) (rd c (wrap .i64 ((wrap .i64 (a * 4)) + b.B)))), c, ()))) (qa1 (b.Op == 15) (((0 ≤ (Int.tmod (rd c (wrap .i64 ((wrap .i64 (a * 4)) + b.A))) 32) ∧ (Int.tmod (rd c (wrap .i64 ((wrap .i64 (a * 4)) + b.A))) 32) < (f.length : Int)) ∧ (∀ j, j = M.qbA (rd f (Int.tmod (rd c (wrap .i64 ((wrap .i64 (a * 4)) + b.A))) 32)) (rd c (wrap .i64 ((wrap .i64 (a * 4)) + b.B))) → ((0 ≤ (Int.tmod (rd c (wrap .i64 ((wrap .i64 (a * 4)) + b.A))) 32) ∧ (Int.tmod (rd c (wrap .i64 ((wrap .i64 (a * 4)) + b.A))) 32) < (f.length : Int)) ∧ g ((wrap .i64 (a + 1)), (List.set f ((Int.tmod (rd c (wrap .i64 ((wrap .i64 (a * 4)) + b.A))) 32).toNat) j), c, ()))))) (g ((wrap .i64 (a + 1)), f, c, ()))))))))) (Q ((⟨d.Code, (List.set d.Warps (e.toNat) (⟨(rd d.Warps e).Number, (rd d.Warps e).Frames, c⟩ : D.Warp)), f, d.Waiting, d.Phase⟩ : D.Block), (List.set d.Warps (e.toNat) (⟨(rd d.Warps e).Number, (rd d.Warps e).Frames, c⟩ : D.Warp)), f))) (0, d.Memory, (rd d.Warps e).Regs, ())))))
def wp.qbt (b : D.Block) (Q : Bool → Prop) : Prop :=
 qcX (σ := Int × Unit) (fun (d : Int × Unit) c => match d with | (a, _) => qa1 (decide (a < (b.Warps.length : Int))) (((0 ≤ a ∧ a < (b.Warps.length : Int)) ∧ qa1 (decide (((rd b.Warps a).Frames.length : Int) > 0)) (((0 ≤ a) ∧ qa1 ((qdQ .i64 (Int.fdiv b.Waiting (2 ^ (min (a.toNat) (IntKind.bits .i64)))) 1) == 0) (Q false) (c ((wrap .i64 (a + 1)), ())))) (c ((wrap .i64 (a + 1)), ())))) (Q (b.Waiting != 0))) (0, ())
def wp.qdA (d : D.Block) (a : Int) (Q : D.Block → Prop) : Prop :=
 (M.qgm d ∧ ∀ c, c = M.qdq d → (M.qeH d a ∧ ∀ j, j = M.qcs d a → qf9 (σ := Int × Int × (List D.Warp) × (List Int) × Unit) (fun l => (∀ m, m = M.qcG j → qa1 m (((0 ≤ a ∧ a < (c.Warps.length : Int)) ∧ ((0 ≤ a ∧ a < (d.Warps.length : Int)) ∧ (M.qgu d.Code (rd d.Warps a) ∧ ∀ e, e = M.qdr d.Code (rd d.Warps a) → ((0 ≤ a ∧ a < (c.Warps.length : Int)) ∧ l (c.Waiting, c.Phase, (List.set c.Warps (a.toNat) (⟨e.Number, e.Frames, e.Regs⟩ : D.Warp)), c.Memory, ())))))) ((M.qfE c a ∧ ∀ b, b = M.qcc c a → qf9 (σ := Int × Int × Unit) (fun n => qa1 (j.Op == 16) (((0 ≤ a) ∧ n ((qh0 .i64 b.1.Waiting (wrap .i64 (1 * 2 ^ (min (a.toNat) (IntKind.bits .i64))))), b.1.Phase, ()))) (n (b.1.Waiting, b.1.Phase, ()))) (fun (p : Int × Int × Unit) => match p with | (q, r, _) => ((0 ≤ a ∧ a < (b.2.1.length : Int)) ∧ ((0 ≤ a ∧ a < (b.2.1.length : Int)) ∧ ((0 ≤ a ∧ a < (b.2.1.length : Int)) ∧ ((0 ≤ (wrap .i64 (((rd b.2.1 a).Frames.length : Int) - 1)) ∧ (wrap .i64 (((rd b.2.1 a).Frames.length : Int) - 1)) < (((rd b.2.1 a).Frames).length : Int)) ∧ ((0 ≤ (wrap .i64 (((rd b.2.1 a).Frames.length : Int) - 1)) ∧ (wrap .i64 (((rd b.2.1 a).Frames.length : Int) - 1)) < (((rd b.2.1 a).Frames).length : Int)) ∧ ((0 ≤ a ∧ a < (b.2.1.length : Int)) ∧ (M.qcZ d.Code (⟨(rd b.2.1 a).Number, (List.set ((rd b.2.1 a).Frames) ((wrap .i64 (((rd b.2.1 a).Frames.length : Int) - 1)).toNat) (⟨(wrap .i64 ((rd ((rd b.2.1 a).Frames) (wrap .i64 (((rd b.2.1 a).Frames.length : Int) - 1))).Pc + 1)), (rd ((rd b.2.1 a).Frames) (wrap .i64 (((rd b.2.1 a).Frames.length : Int) - 1))).Stop, (rd ((rd b.2.1 a).Frames) (wrap .i64 (((rd b.2.1 a).Frames.length : Int) - 1))).Mask⟩ : D.Frame)), (rd b.2.1 a).Regs⟩ : D.Warp) ∧ ∀ f, f = M.qaM d.Code (⟨(rd b.2.1 a).Number, (List.set ((rd b.2.1 a).Frames) ((wrap .i64 (((rd b.2.1 a).Frames.length : Int) - 1)).toNat) (⟨(wrap .i64 ((rd ((rd b.2.1 a).Frames) (wrap .i64 (((rd b.2.1 a).Frames.length : Int) - 1))).Pc + 1)), (rd ((rd b.2.1 a).Frames) (wrap .i64 (((rd b.2.1 a).Frames.length : Int) - 1))).Stop, (rd ((rd b.2.1 a).Frames) (wrap .i64 (((rd b.2.1 a).Frames.length : Int) - 1))).Mask⟩ : D.Frame)), (rd b.2.1 a).Regs⟩ : D.Warp) → ((0 ≤ a ∧ a < (b.2.1.length : Int)) ∧ l (q, r, (List.set b.2.1 (a.toNat) (⟨f.Number, f.Frames, f.Regs⟩ : D.Warp)), b.2.2, ())))))))))))))) (fun (s : Int × Int × (List D.Warp) × (List Int) × Unit) => match s with | (k, g, h, i, _) => (M.qgZ (⟨c.Code, h, i, k, g⟩ : D.Block) ∧ ∀ o, o = M.qbt (⟨c.Code, h, i, k, g⟩ : D.Block) → qa1 o (Q (⟨c.Code, h, i, 0, (wrap .i64 (g + 1))⟩ : D.Block)) (Q (⟨c.Code, h, i, k, g⟩ : D.Block))))))
end Go.V
namespace Go.V
open IntKind (wrap)
theorem wp.qcc.math (b : D.Block) (w : Int) (h : M.qfE b w) : wp.qcc b w (fun r => r = M.qcc b w) := by
 obtain ⟨hv, hl⟩ := h
 obtain ⟨h0, h1, hp, hw, hn, hok⟩ := qeg hv.1
 obtain ⟨hi, hop⟩ := qjf hv hl
 have hlong : M.qea (rd b.Warps w) := by
  have := (qdT (qgf hv.1 hv.2)).2.2.1
  show _ ≤ _; omega
 refine ⟨⟨hv.1, hv.2⟩, fun r25 hr25 => ⟨⟨h0, h1⟩, hlong, fun r36 hr36 => ⟨⟨h0, h1⟩, ?_⟩⟩⟩
 have hr25 : r25 = M.qbR b w := hr25
 have hr36 : r36 = M.qb2 (rd b.Warps w) := hr36
 subst hr25 hr36
 have hs0 := qjc hv
 let G : Nat → List Int × List Int := M.ql7 (M.qbR b w) (M.qb2 (rd b.Warps w)) ((rd b.Warps w).Regs, b.Memory)
 have hG : ∀ k, k ≤ 8 → qkf (G k) := fun k hk => qjg hi hs0 k hk
 refine qcS 8 (fun k => ((k : Int), (G k).2, (G k).1, ())) (fun _ => True) rfl trivial (fun k hk _ next hn => ?_) fun _ next => qaA (by simp) rfl
 have hn := hn trivial
 have hGk := hG k (by omega)
 have hnext : G (k + 1) = if M.qdu (M.qb2 (rd b.Warps w)) (k : Int) then M.qfp (M.qbR b w) (G k) (k : Int) else G k := rfl
 rw [hnext] at hn
 dsimp only
 generalize G k = g at *
 generalize M.qbR b w = i at *
 generalize M.qb2 (rd b.Warps w) = m at *
 obtain ⟨l1, w1, l2, w2⟩ := hGk
 obtain ⟨a0, a1, b0, b1⟩ := hi
 have eA : wrap .i64 ((wrap .i64 ((k : Int) * 4)) + i.A) = (k : Int) * 4 + i.A := by rw [w64 (x := (k : Int) * 4) (by omega) (by omega), w64 (by omega) (by omega)]
 have eB : wrap .i64 ((wrap .i64 ((k : Int) * 4)) + i.B) = (k : Int) * 4 + i.B := by rw [w64 (x := (k : Int) * 4) (by omega) (by omega), w64 (by omega) (by omega)]
 rw [eA, eB, up64 (n := 8) hk (by omega), l1, l2]
 have wA := qiO (qhF w1 (z := (k : Int) * 4 + i.A) (by omega) (by omega))
 have wB := qiO (qhF w1 (z := (k : Int) * 4 + i.B) (by omega) (by omega))
 refine qaH (by simp; omega) fun r hr => qa2 (fun e => ?_) fun e => ?_
 ·have : M.qdu m (k : Int) = false := by have hr : r = M.qdu m (k : Int) := hr; rw [← hr]; simpa using e
  rw [if_neg (by rw [this]; simp)] at hn
  exact hn
 ·have : M.qdu m (k : Int) = true := by have hr : r = M.qdu m (k : Int) := hr; rw [← hr]; simpa using e
  rw [if_pos this] at hn
  unfold M.qfp at hn
  refine ⟨⟨by omega, by omega⟩, ⟨by omega, by omega⟩, qa2 (fun e1 => ?_) fun e1 => qa2 (fun e2 => ?_) fun e2 => qa2 (fun e3 => ?_) fun e3 => ?_⟩
  ·rw [if_pos (by simpa using e1)] at hn
   exact ⟨⟨wB.1, by omega⟩, ⟨by omega, by omega⟩, hn⟩
  ·rw [if_neg (by simpa using e1), if_pos (by simpa using e2)] at hn
   exact ⟨⟨wA.1, by omega⟩, hn⟩
  ·rw [if_neg (by simpa using e1), if_neg (by simpa using e2), if_pos (by simpa using e3)] at hn
   refine ⟨⟨wA.1, by omega⟩, fun r2 hr2 => ⟨⟨wA.1, by omega⟩, ?_⟩⟩
   have hr2 : r2 = M.addW (rd g.2 (Int.tmod (rd g.1 ((k : Int) * 4 + i.A)) 32)) (rd g.1 ((k : Int) * 4 + i.B)) := hr2
   rw [hr2]; exact hn
  ·rw [if_neg (by simpa using e1), if_neg (by simpa using e2), if_neg (by simpa using e3)] at hn
   exact hn
theorem wp.qbt.math (b : D.Block) (h : M.qgZ b) : wp.qbt b (fun r => r = M.qbt b) := by
 have hL : b.Warps.length ≤ 9223372036854775807 := h
 refine qcS b.Warps.length (fun k => ((k : Int), ())) (fun k => M.qft b k = true) rfl rfl (fun k hk hF next hn => ?_) fun hF next => ?_
 ·have hs : M.qft b (k + 1) = (M.qft b k && ((rd b.Warps (k : Int)).Frames.isEmpty || M.waits b (k : Int))) := rfl
  rw [hF, Bool.true_and] at hs
  dsimp only
  rw [up64 hk hL, qnf]
  refine qaH (by simp; omega) ⟨⟨by omega, by omega⟩, qa2 (fun e => ⟨by omega, qa2 (fun e2 => ?_) fun e2 => ?_⟩) fun e => ?_⟩
  ·have : M.qft b (k + 1) = false := by
     rw [hs, show M.waits b (k : Int) = false by simpa using e2, Bool.or_false]
     simp only [decide_eq_true_eq] at e
     cases hx : (rd b.Warps (k : Int)).Frames with
     | nil => rw [hx] at e; simp at e
     | cons _ _ => rfl
   show false = M.qbt b
   unfold M.qbt
   rw [qhC this _ (by omega), Bool.false_and]
  ·refine hn ?_
   rw [hs, show M.waits b (k : Int) = true by simpa using e2, Bool.or_true]
  ·refine hn ?_
   have : (rd b.Warps (k : Int)).Frames = [] := by
    simp only [decide_eq_false_iff_not] at e
    exact List.length_eq_zero_iff.1 (by omega)
   rw [hs, this]; rfl
 ·refine qaA (by simp) ?_
  show (b.Waiting != 0) = M.qbt b
  unfold M.qbt
  rw [hF, Bool.true_and]
theorem qnU {fs : List D.Frame} (h : fs ≠ []) (hl : fs.length ≤ 24) (h0 : 0 ≤ (M.qdb fs).Pc) (h1 : (M.qdb fs).Pc ≤ 32) :
    (List.set fs ((wrap .i64 ((fs.length : Int) - 1)).toNat) (⟨(wrap .i64 ((rd fs (wrap .i64 ((fs.length : Int) - 1))).Pc + 1)), (rd fs (wrap .i64 ((fs.length : Int) - 1))).Stop, (rd fs (wrap .i64 ((fs.length : Int) - 1))).Mask⟩ : D.Frame)) = M.qen fs ((M.qdb fs).Pc + 1) := by
 have hpos : 0 < fs.length := List.length_pos_iff.2 h
 rw [qdx (by omega), show ((fs.length : Int) - 1).toNat = fs.length - 1 by omega]
 unfold M.qen
 have e : rd fs ((fs.length : Int) - 1) = M.qdb fs := rfl
 rw [e, w64 (by omega) (by omega)]
theorem wp.qdA.math (b : D.Block) (w : Int) (h : M.qgr b w) : wp.qdA b w (fun r => r = M.qdA b w) := by
 obtain ⟨hv, _, hg⟩ := qgb h
 obtain ⟨h0, h1, hp, hw, hn, hok⟩ := qeg hv.1
 have hfit : M.BFit b := qlk (qje hok)
 obtain ⟨t1, t2, t3, t4, t5, t6, t7, t8, t9⟩ := qdT (qgf hv.1 hv.2)
 obtain ⟨p1, p2, p3, p4, p5, p6, p7, p8⟩ := qho hok
 refine ⟨hfit, fun r25 hr25 => ?_⟩
 have hr25 : r25 = b := hr25
 subst hr25
 refine ⟨⟨hv.1, hv.2⟩, fun r41 hr41 => ?_⟩
 have hr41 : r41 = M.qbR r25 w := hr41
 subst hr41
 refine qgd ((M.actB r25 w).Waiting, (M.actB r25 w).Phase, (M.actB r25 w).Warps, (M.actB r25 w).Memory, ()) ?_ fun J hJ => ?_
 ·dsimp only
  rw [qmD]
  refine ⟨by show _ ≤ _; rw [qjd]; omega, fun r hr => ?_⟩
  have hr : r = M.qbt (M.actB r25 w) := hr
  refine qa2 (fun e => ?_) fun e => ?_
  ·show _ = M.qeG r25 w
   unfold M.qeG M.qhX
   rw [if_pos (hr.symm.trans e), qjv, qhW, w64 (by omega) (by omega)]
  ·show _ = M.qeG r25 w
   unfold M.qeG M.qhX
   rw [if_neg (by rw [← hr, e]; simp)]
 ·refine fun r60 hr60 => qa2 (fun e => ?_) fun e => ?_
  all_goals have hr60 : r60 = M.qcy (M.qbR r25 w) := hr60
  ·have hl := hr60.symm.trans e
   refine ⟨⟨h0, h1⟩, ⟨h0, h1⟩, hg hl, fun r84 hr84 => ⟨⟨h0, h1⟩, ?_⟩⟩
   have hr84 : r84 = M.stepW r25.Code (rd r25.Warps w) := hr84
   rw [show M.actB r25 w = M.qmq r25 w (M.stepW r25.Code (rd r25.Warps w)) from if_pos hl] at hJ
   rw [hr84]
   exact hJ
  ·have hl := hr60.symm.trans e
   have hB : M.actB r25 w = ⟨r25.Code, r25.Warps.set w.toNat (M.qhz r25.Code (rd (M.qcQ r25 w (M.qbR r25 w)).Warps w)), (M.qcQ r25 w (M.qbR r25 w)).Memory, if (M.qbR r25 w).Op = 16 then qh0 .i64 r25.Waiting (M.qjq w) else r25.Waiting, r25.Phase⟩ := if_neg (by rw [hl]; simp)
   refine ⟨⟨hv, hl⟩, fun r97 hr97 => ?_⟩
   have hr97 : r97 = M.qcc r25 w := hr97
   subst hr97
   refine qgd ((M.actB r25 w).Waiting, (M.actB r25 w).Phase, ()) ?_ fun J2 hJ2 => ?_
   ·dsimp only
    have hX := qib (i := M.qbR r25 w) h0 h1
    have hlen : (M.qcQ r25 w (M.qbR r25 w)).Warps.length = r25.Warps.length := by simp [M.qcQ]
    have hset : ∀ y : D.Warp, List.set (M.qcQ r25 w (M.qbR r25 w)).Warps w.toNat y = r25.Warps.set w.toNat y := fun y => by simp [M.qcQ]
    have hF : (rd (M.qcQ r25 w (M.qbR r25 w)).Warps w).Frames = (rd r25.Warps w).Frames := by rw [hX]
    have i0 : (0 ≤ w ∧ w < ((M.qcc r25 w).2.1.length : Int)) := ⟨h0, by show w < ((M.qcQ r25 w (M.qbR r25 w)).Warps.length : Int); rw [hlen]; exact h1⟩
    have e2 : (M.qcc r25 w).2.1 = (M.qcQ r25 w (M.qbR r25 w)).Warps := rfl
    rw [e2] at *
    rw [hF, qnU hv.2 t3 t5 (by show M.qdL (rd r25.Warps w) ≤ 32; omega)]
    have j0 : (0 ≤ (wrap .i64 (((rd r25.Warps w).Frames.length : Int) - 1)) ∧ (wrap .i64 (((rd r25.Warps w).Frames.length : Int) - 1)) < (((rd r25.Warps w).Frames).length : Int)) := by
     rw [qdx (by omega)]; omega
    refine ⟨i0, i0, i0, j0, j0, i0, ?_, fun r hr => ⟨i0, ?_⟩⟩
    ·show _ ≤ _ ∧ _ ≤ _
     rw [hX]
     simp only [M.qen, List.length_set, (qjl hv hl).l1]
     omega
    ·have hr : r = M.qhz r25.Code (rd (M.qcQ r25 w (M.qbR r25 w)).Warps w) := by
       rw [hr]
       show M.qgE _ _ = M.qgE _ _
       rw [hF]
       unfold M.qdL
       rw [hF]
     rw [hset, hr]
     rw [hB] at hJ ⊢
     exact hJ
   ·rw [hB] at hJ2
    refine qa2 (fun e2 => ⟨h0, ?_⟩) fun e2 => ?_
    ·dsimp only at hJ2
     rw [if_pos (by simpa using e2)] at hJ2
     exact hJ2
    ·dsimp only at hJ2
     rw [if_neg (by simpa using e2)] at hJ2
     exact hJ2
end Go.V
namespace Go.V
open IntKind (wrap)
def wp.qbU (g : D.Block) (c : Int) (d : D.Ins) (Q : D.Block → Prop) : Prop :=
 ((0 ≤ c ∧ c < (g.Warps.length : Int)) ∧ (M.qcU (rd g.Warps c) ∧ ∀ i, i = M.qbg (rd g.Warps c) → (∀ b, b = M.qc8 i → qcX (σ := Int × (List D.Warp) × (List Int) × Unit) (fun (k : Int × (List D.Warp) × (List Int) × Unit) h => match k with | (a, e, f, _) => qa1 (decide (a < (b.length : Int))) (((0 ≤ a ∧ a < (b.length : Int)) ∧ ((0 ≤ c ∧ c < (e.length : Int)) ∧ (M.qdS (rd e c) (rd b a) ∧ qa1 (d.Op == 13) (((0 ≤ d.B ∧ d.B < ((List.drop ((wrap .i64 ((rd b a) * 4)).toNat) (List.take ((wrap .i64 ((wrap .i64 ((rd b a) + 1)) * 4)).toNat) ((rd e c).Regs))).length : Int)) ∧ ((0 ≤ (Int.tmod (rd (List.drop ((wrap .i64 ((rd b a) * 4)).toNat) (List.take ((wrap .i64 ((wrap .i64 ((rd b a) + 1)) * 4)).toNat) ((rd e c).Regs))) d.B) 32) ∧ (Int.tmod (rd (List.drop ((wrap .i64 ((rd b a) * 4)).toNat) (List.take ((wrap .i64 ((wrap .i64 ((rd b a) + 1)) * 4)).toNat) ((rd e c).Regs))) d.B) 32) < (f.length : Int)) ∧ ((0 ≤ d.A ∧ d.A < ((List.drop ((wrap .i64 ((rd b a) * 4)).toNat) (List.take ((wrap .i64 ((wrap .i64 ((rd b a) + 1)) * 4)).toNat) ((rd e c).Regs))).length : Int)) ∧ h ((wrap .i64 (a + 1)), (List.set e (c.toNat) (⟨(rd e c).Number, (rd e c).Frames, (List.set ((rd e c).Regs) (((wrap .i64 ((rd b a) * 4)).toNat) + (d.A.toNat)) (rd f (Int.tmod (rd (List.drop ((wrap .i64 ((rd b a) * 4)).toNat) (List.take ((wrap .i64 ((wrap .i64 ((rd b a) + 1)) * 4)).toNat) ((rd e c).Regs))) d.B) 32)))⟩ : D.Warp)), f, ()))))) (qa1 (d.Op == 14) (((0 ≤ d.A ∧ d.A < ((List.drop ((wrap .i64 ((rd b a) * 4)).toNat) (List.take ((wrap .i64 ((wrap .i64 ((rd b a) + 1)) * 4)).toNat) ((rd e c).Regs))).length : Int)) ∧ ((0 ≤ d.B ∧ d.B < ((List.drop ((wrap .i64 ((rd b a) * 4)).toNat) (List.take ((wrap .i64 ((wrap .i64 ((rd b a) + 1)) * 4)).toNat) ((rd e c).Regs))).length : Int)) ∧ ((0 ≤ (Int.tmod (rd (List.drop ((wrap .i64 ((rd b a) * 4)).toNat) (List.take ((wrap .i64 ((wrap .i64 ((rd b a) + 1)) * 4)).toNat) ((rd e c).Regs))) d.A) 32) ∧ (Int.tmod (rd (List.drop ((wrap .i64 ((rd b a) * 4)).toNat) (List.take ((wrap .i64 ((wrap .i64 ((rd b a) + 1)) * 4)).toNat) ((rd e c).Regs))) d.A) 32) < (f.length : Int)) ∧ h ((wrap .i64 (a + 1)), e, (List.set f ((Int.tmod (rd (List.drop ((wrap .i64 ((rd b a) * 4)).toNat) (List.take ((wrap .i64 ((wrap .i64 ((rd b a) + 1)) * 4)).toNat) ((rd e c).Regs))) d.A) 32).toNat) (rd (List.drop ((wrap .i64 ((rd b a) * 4)).toNat) (List.take ((wrap .i64 ((wrap .i64 ((rd b a) + 1)) * 4)).toNat) ((rd e c).Regs))) d.B)), ()))))) (qa1 (d.Op == 15) (((0 ≤ d.A ∧ d.A < ((List.drop ((wrap .i64 ((rd b a) * 4)).toNat) (List.take ((wrap .i64 ((wrap .i64 ((rd b a) + 1)) * 4)).toNat) ((rd e c).Regs))).length : Int)) ∧ ((0 ≤ (Int.tmod (rd (List.drop ((wrap .i64 ((rd b a) * 4)).toNat) (List.take ((wrap .i64 ((wrap .i64 ((rd b a) + 1)) * 4)).toNat) ((rd e c).Regs))) d.A) 32) ∧ (Int.tmod (rd (List.drop ((wrap .i64 ((rd b a) * 4)).toNat) (List.take ((wrap .i64 ((wrap .i64 ((rd b a) + 1)) * 4)).toNat) ((rd e c).Regs))) d.A) 32) < (f.length : Int)) ∧ ((0 ≤ d.B ∧ d.B < ((List.drop ((wrap .i64 ((rd b a) * 4)).toNat) (List.take ((wrap .i64 ((wrap .i64 ((rd b a) + 1)) * 4)).toNat) ((rd e c).Regs))).length : Int)) ∧ (∀ j, j = M.qc0 (rd f (Int.tmod (rd (List.drop ((wrap .i64 ((rd b a) * 4)).toNat) (List.take ((wrap .i64 ((wrap .i64 ((rd b a) + 1)) * 4)).toNat) ((rd e c).Regs))) d.A) 32)) (rd (List.drop ((wrap .i64 ((rd b a) * 4)).toNat) (List.take ((wrap .i64 ((wrap .i64 ((rd b a) + 1)) * 4)).toNat) ((rd e c).Regs))) d.B) → ((0 ≤ (Int.tmod (rd (List.drop ((wrap .i64 ((rd b a) * 4)).toNat) (List.take ((wrap .i64 ((wrap .i64 ((rd b a) + 1)) * 4)).toNat) ((rd e c).Regs))) d.A) 32) ∧ (Int.tmod (rd (List.drop ((wrap .i64 ((rd b a) * 4)).toNat) (List.take ((wrap .i64 ((wrap .i64 ((rd b a) + 1)) * 4)).toNat) ((rd e c).Regs))) d.A) 32) < (f.length : Int)) ∧ h ((wrap .i64 (a + 1)), e, (List.set f ((Int.tmod (rd (List.drop ((wrap .i64 ((rd b a) * 4)).toNat) (List.take ((wrap .i64 ((wrap .i64 ((rd b a) + 1)) * 4)).toNat) ((rd e c).Regs))) d.A) 32).toNat) j), ()))))))) (h ((wrap .i64 (a + 1)), e, f, ())))))))) (Q (⟨g.Code, e, f, g.Waiting, g.Phase⟩ : D.Block))) (0, g.Warps, g.Memory, ()))))
def wp.qbj (c : D.Block) (a : Int) (Q : (Bool × D.Block) → Prop) : Prop :=
 (M.qdG c a ∧ ∀ g, g = M.qaC c a → qf9 (σ := (List D.Warp) × Int × Int × (List Int) × Unit) (fun m => (∀ n, n = M.qcF g.1 → qa1 n (((0 ≤ a ∧ a < (c.Warps.length : Int)) ∧ ((0 ≤ a ∧ a < (c.Warps.length : Int)) ∧ (M.qfN (rd c.Warps a) c.Code ∧ ∀ k, k = M.qbo (rd c.Warps a) c.Code → m ((List.set c.Warps (a.toNat) (⟨k.2.Number, k.2.Frames, k.2.Regs⟩ : D.Warp)), c.Waiting, c.Phase, c.Memory, ()))))) (qf9 (σ := (List D.Warp) × Int × Int × (List Int) × Unit) (fun o => qa1 (g.1.Op == 16) (((0 ≤ a) ∧ o (c.Warps, (qh0 .i64 c.Waiting (wrap .i64 (1 * 2 ^ (min (a.toNat) (IntKind.bits .i64))))), c.Phase, c.Memory, ()))) ((M.qeS c a g.1 ∧ ∀ h, h = M.qbU c a g.1 → o (h.Warps, h.Waiting, h.Phase, h.Memory, ())))) (fun (r : (List D.Warp) × Int × Int × (List Int) × Unit) => match r with | (b, s, t, u, _) => ((0 ≤ a ∧ a < (b.length : Int)) ∧ ((0 ≤ (wrap .i64 (((rd b a).Frames.length : Int) - 1)) ∧ (wrap .i64 (((rd b a).Frames.length : Int) - 1)) < (((rd b a).Frames).length : Int)) ∧ ((0 ≤ (wrap .i64 (((rd b a).Frames.length : Int) - 1)) ∧ (wrap .i64 (((rd b a).Frames.length : Int) - 1)) < (((rd b a).Frames).length : Int)) ∧ ((0 ≤ a ∧ a < (b.length : Int)) ∧ (M.qel (⟨(rd b a).Number, (List.set ((rd b a).Frames) ((wrap .i64 (((rd b a).Frames.length : Int) - 1)).toNat) (⟨(wrap .i64 ((rd ((rd b a).Frames) (wrap .i64 (((rd b a).Frames.length : Int) - 1))).Pc + 1)), (rd ((rd b a).Frames) (wrap .i64 (((rd b a).Frames.length : Int) - 1))).Stop, (rd ((rd b a).Frames) (wrap .i64 (((rd b a).Frames.length : Int) - 1))).Mask⟩ : D.Frame)), (rd b a).Regs⟩ : D.Warp) (c.Code.length : Int) ∧ ∀ l, l = M.qbB (⟨(rd b a).Number, (List.set ((rd b a).Frames) ((wrap .i64 (((rd b a).Frames.length : Int) - 1)).toNat) (⟨(wrap .i64 ((rd ((rd b a).Frames) (wrap .i64 (((rd b a).Frames.length : Int) - 1))).Pc + 1)), (rd ((rd b a).Frames) (wrap .i64 (((rd b a).Frames.length : Int) - 1))).Stop, (rd ((rd b a).Frames) (wrap .i64 (((rd b a).Frames.length : Int) - 1))).Mask⟩ : D.Frame)), (rd b a).Regs⟩ : D.Warp) (c.Code.length : Int) → m ((List.set b (a.toNat) (⟨l.Number, l.Frames, (rd b a).Regs⟩ : D.Warp)), s, t, u, ())))))))))) (fun (v : (List D.Warp) × Int × Int × (List Int) × Unit) => match v with | (d, i, f, j, _) => qa1 (i == 0) (Q (true, (⟨c.Code, d, j, i, f⟩ : D.Block))) (qcX (σ := Int × Unit) (fun (w : Int × Unit) p => match w with | (e, _) => qa1 (decide (e < (d.length : Int))) (((0 ≤ e ∧ e < (d.length : Int)) ∧ (M.qeq (⟨c.Code, d, j, i, f⟩ : D.Block) e ∧ ∀ q, q = M.qbI (⟨c.Code, d, j, i, f⟩ : D.Block) e → qa1 (!q) (qa1 (decide (((rd d e).Frames.length : Int) > 0)) (Q (true, (⟨c.Code, d, j, i, f⟩ : D.Block))) (p ((wrap .i64 (e + 1)), ()))) (p ((wrap .i64 (e + 1)), ()))))) (Q ((decide ((wrap .i64 (f + 1)) ≤ 100000)), (⟨c.Code, d, j, 0, (wrap .i64 (f + 1))⟩ : D.Block)))) (0, ()))))
end Go.V
namespace Go.V
open IntKind (wrap)
theorem qlS {ws : List D.Warp} {w : Int} : ws.set w.toNat ⟨(rd ws w).Number, (rd ws w).Frames, (rd ws w).Regs⟩ = ws := qp4 ws w
theorem wp.qbU.math (b : D.Block) (w : Int) (i : D.Ins) (h : M.qeS b w i) : wp.qbU b w i (fun r => r = M.qbU b w i) := by
 obtain ⟨hv, rfl, hl⟩ := h
 obtain ⟨h0, h1, hp, hw, hn, hok⟩ := qeg hv.1
 obtain ⟨hi, hop⟩ := qjf hv hl
 have hlong : M.qcU (rd b.Warps w) := by
  have := (qdT (qgf hv.1 hv.2)).2.2.1
  show _ ≤ _; omega
 refine ⟨⟨h0, h1⟩, hlong, fun r25 hr25 r30 hr30 => ?_⟩
 have hr25 : r25 = M.qb2 (rd b.Warps w) := hr25
 have hr30 : r30 = M.qeA r25 := hr30
 have hmem : ∀ k ∈ r30, 0 ≤ k ∧ k ≤ 7 := fun k hk => qhR (m := r25) (hr30 ▸ hk)
 have hlen : r30.length ≤ 8 := by rw [hr30]; exact List.length_filter_le _ _
 have hs0 := qjc hv
 have hfin : M.qjm (M.qbR b w) (rd b.Warps w) b.Memory = r30.foldl (M.qfp (M.qbR b w)) ((rd b.Warps w).Regs, b.Memory) := by rw [hr30, hr25]; exact qnO
 let G : Nat → List Int × List Int := fun k => (r30.take k).foldl (M.qfp (M.qbR b w)) ((rd b.Warps w).Regs, b.Memory)
 have hG : ∀ k, qkf (G k) := fun k => qov hi _ _ hs0 fun j hj => hmem j (List.mem_of_mem_take hj)
 refine qcS r30.length (fun k => ((k : Int), b.Warps.set w.toNat ⟨(rd b.Warps w).Number, (rd b.Warps w).Frames, (G k).1⟩, (G k).2, ())) (fun _ => True) (by rw [show (G 0) = ((rd b.Warps w).Regs, b.Memory) from rfl, qlS]; rfl) trivial (fun k hk _ next hn => ?_) fun _ next => ?_
 ·have hn := hn trivial
  have hGk := hG k
  have hnext : G (k + 1) = M.qfp (M.qbR b w) (G k) (rd r30 (k : Int)) := by
   show (r30.take (k + 1)).foldl _ _ = _
   rw [List.take_add_one, List.getElem?_eq_getElem hk, Option.toList_some, List.foldl_append, ← qcV hk]
   rfl
  rw [hnext] at hn
  have hm := hmem _ (qgk hk)
  dsimp only
  generalize G k = g at *
  generalize M.qbR b w = i at *
  generalize rd r30 (k : Int) = l at *
  obtain ⟨l1, w1, l2, w2⟩ := hGk
  obtain ⟨a0, a1, b0, b1⟩ := hi
  have eX : rd (b.Warps.set w.toNat (⟨(rd b.Warps w).Number, (rd b.Warps w).Frames, g.1⟩ : D.Warp)) w = ⟨(rd b.Warps w).Number, (rd b.Warps w).Frames, g.1⟩ := qol h0 (by simpa using h1)
  have c1 : wrap .i64 (l * 4) = l * 4 := w64 (by omega) (by omega)
  have c2 : wrap .i64 ((wrap .i64 (l + 1)) * 4) = l * 4 + 4 := by rw [w64 (x := l + 1) (by omega) (by omega), w64 (by omega) (by omega)]; omega
  have hA : rd ((g.1.take (l * 4 + 4).toNat).drop (l * 4).toNat) i.A = rd g.1 (l * 4 + i.A) := by
   rw [qnK a0 (by omega) (by omega)]; congr 1; omega
  have hB : rd ((g.1.take (l * 4 + 4).toNat).drop (l * 4).toNat) i.B = rd g.1 (l * 4 + i.B) := by
   rw [qnK b0 (by omega) (by omega)]; congr 1; omega
  have hcl : ((g.1.take (l * 4 + 4).toNat).drop (l * 4).toNat).length = 4 := by simp; omega
  have wA := qiO (qhF w1 (z := l * 4 + i.A) (by omega) (by omega))
  have wB := qiO (qhF w1 (z := l * 4 + i.B) (by omega) (by omega))
  rw [eX]
  dsimp only
  rw [c1, c2, hA, hB, hcl, l2, up64 hk (by omega), List.length_set, show (l * 4).toNat + i.A.toNat = (l * 4 + i.A).toNat by omega, List.set_set]
  unfold M.qfp at hn
  refine qaH (by simp; omega) ⟨⟨by omega, by omega⟩, ⟨h0, h1⟩, ⟨l1, hm⟩, qa2 (fun e1 => ?_) fun e1 => qa2 (fun e2 => ?_) fun e2 => qa2 (fun e3 => ?_) fun e3 => ?_⟩
  ·rw [if_pos (by simpa using e1)] at hn
   exact ⟨⟨by omega, by omega⟩, ⟨wB.1, by omega⟩, ⟨by omega, by omega⟩, hn⟩
  ·rw [if_neg (by simpa using e1), if_pos (by simpa using e2)] at hn
   exact ⟨⟨by omega, by omega⟩, ⟨by omega, by omega⟩, ⟨wA.1, by omega⟩, hn⟩
  ·rw [if_neg (by simpa using e1), if_neg (by simpa using e2), if_pos (by simpa using e3)] at hn
   refine ⟨⟨by omega, by omega⟩, ⟨wA.1, by omega⟩, ⟨by omega, by omega⟩, fun r2 hr2 => ⟨⟨wA.1, by omega⟩, ?_⟩⟩
   have hr2 : r2 = M.addW (rd g.2 (Int.tmod (rd g.1 (l * 4 + i.A)) 32)) (rd g.1 (l * 4 + i.B)) := hr2
   rw [hr2]; exact hn
  ·rw [if_neg (by simpa using e1), if_neg (by simpa using e2), if_neg (by simpa using e3)] at hn
   exact hn
 ·refine qaA (by simp) ?_
  show _ = M.qcQ b w (M.qbR b w)
  unfold M.qcQ
  rw [hfin, show G r30.length = r30.foldl (M.qfp (M.qbR b w)) ((rd b.Warps w).Regs, b.Memory) by show (r30.take r30.length).foldl _ _ = _; rw [List.take_length]]
theorem wp.qbj.math (b : D.Block) (w : Int) (h : M.qeE b w) : wp.qbj b w (fun r => r = M.qbj b w) := by
 obtain ⟨hv, _, hg⟩ := qgb h
 obtain ⟨h0, h1, hp, hw, hn, hok⟩ := qeg hv.1
 obtain ⟨t1, t2, t3, t4, t5, t6, t7, t8, t9⟩ := qdT (qgf hv.1 hv.2)
 obtain ⟨p1, p2, p3, p4, p5, p6, p7, p8⟩ := qho hok
 refine ⟨hv.1, fun r21 hr21 => ?_⟩
 have hem : (rd b.Warps w).Frames.isEmpty = false := by simpa using hv.2
 have hr21 : r21 = (M.qbR b w, true) := by
  rw [hr21]
  unfold M.qaC
  rw [if_neg (by rw [hem]; simp)]
 subst hr21
 dsimp only
 refine qgd ((M.actB b w).Warps, (M.actB b w).Waiting, (M.actB b w).Phase, (M.actB b w).Memory, ()) ?_ fun J hJ => ?_
 ·dsimp only
  rw [qmD]
  have hph : (M.actB b w).Phase = b.Phase := qhW b w
  have hcode := qjv b w
  have open_ : M.qbt (M.actB b w) = false → (true, M.actB b w) = M.qbj b w := fun e => by
   unfold M.qbj M.qeG M.qhX
   rw [e, if_neg (by simp), hph]
   simp only [Prod.mk.injEq, and_true]
   exact (decide_eq_true p7).symm
  refine qa2 (fun e => ?_) fun e => ?_
  ·refine open_ ?_
   unfold M.qbt
   have : (M.actB b w).Waiting = 0 := by simpa using e
   rw [this, Bool.and_eq_false_iff]; right; rfl
  ·have hL : (M.actB b w).Warps.length ≤ 9223372036854775807 := by rw [qjd]; omega
   refine qcS (M.actB b w).Warps.length (fun k => ((k : Int), ())) (fun k => M.qft (M.actB b w) k = true) rfl rfl (fun k hk hF next hnx => ?_) fun hF next => ?_
   ·have hs : M.qft (M.actB b w) (k + 1) = (M.qft (M.actB b w) k && ((rd (M.actB b w).Warps (k : Int)).Frames.isEmpty || M.waits (M.actB b w) (k : Int))) := rfl
    rw [hF, Bool.true_and] at hs
    dsimp only
    rw [up64 hk hL]
    refine qaH (by simp; omega) ⟨⟨by omega, by omega⟩, by show (0 : Int) ≤ _; omega, fun r hr => ?_⟩
    have hr : r = M.waits (M.actB b w) (k : Int) := hr
    refine qa2 (fun e2 => qa2 (fun e3 => ?_) fun e3 => ?_) fun e2 => ?_
    ·refine open_ ?_
     have : M.qft (M.actB b w) (k + 1) = false := by
      rw [hs, show M.waits (M.actB b w) (k : Int) = false by rw [← hr]; simpa using e2, Bool.or_false]
      simp only [decide_eq_true_eq] at e3
      cases hx : (rd (M.actB b w).Warps (k : Int)).Frames with
      | nil => rw [hx] at e3; simp at e3
      | cons _ _ => rfl
     unfold M.qbt
     rw [qhC this _ (by omega), Bool.false_and]
    ·refine hnx ?_
     have : (rd (M.actB b w).Warps (k : Int)).Frames = [] := by
      simp only [decide_eq_false_iff_not] at e3
      exact List.length_eq_zero_iff.1 (by omega)
     rw [hs, this]; rfl
    ·refine hnx ?_
     rw [hs, show M.waits (M.actB b w) (k : Int) = true by rw [← hr]; simpa using e2, Bool.or_true]
   ·refine qaA (by simp) ?_
    have : M.qbt (M.actB b w) = true := by
     unfold M.qbt
     rw [hF, Bool.true_and]
     simpa using e
    show _ = M.qbj b w
    unfold M.qbj M.qeG M.qhX
    rw [if_pos this, hcode, hph, w64 (by omega) (by omega)]
 ·refine fun r41 hr41 => qa2 (fun e => ?_) fun e => ?_
  all_goals have hr41 : r41 = M.qcy (M.qbR b w) := hr41
  ·have hl := hr41.symm.trans e
   have hgo := hg hl
   refine ⟨⟨h0, h1⟩, ⟨h0, h1⟩, ⟨hp, hw⟩, fun r51 hr51 => ?_⟩
   have hr51 : r51 = (true, M.stepW b.Code (rd b.Warps w)) := by
    rw [hr51]
    unfold M.qbo
    rw [if_pos hgo.2]
   subst hr51
   rw [show M.actB b w = M.qmq b w (M.stepW b.Code (rd b.Warps w)) from if_pos hl] at hJ
   exact hJ
  ·have hl := hr41.symm.trans e
   have hB : M.actB b w = ⟨b.Code, b.Warps.set w.toNat (M.qhz b.Code (rd (M.qcQ b w (M.qbR b w)).Warps w)), (M.qcQ b w (M.qbR b w)).Memory, if (M.qbR b w).Op = 16 then qh0 .i64 b.Waiting (M.qjq w) else b.Waiting, b.Phase⟩ := if_neg (by rw [hl]; simp)
   have hX := qib (i := M.qbR b w) h0 h1
   have hset : ∀ y : D.Warp, List.set (M.qcQ b w (M.qbR b w)).Warps w.toNat y = b.Warps.set w.toNat y := fun y => by simp [M.qcQ]
   have hF : (rd (M.qcQ b w (M.qbR b w)).Warps w).Frames = (rd b.Warps w).Frames := by rw [hX]
   have hlen : (M.qcQ b w (M.qbR b w)).Warps.length = b.Warps.length := by simp [M.qcQ]
   refine qgd ((M.qcQ b w (M.qbR b w)).Warps, (M.actB b w).Waiting, b.Phase, (M.qcQ b w (M.qbR b w)).Memory, ()) ?_ fun J2 hJ2 => ?_
   ·dsimp only
    have i0 : (0 ≤ w ∧ w < ((M.qcQ b w (M.qbR b w)).Warps.length : Int)) := ⟨h0, by rw [hlen]; exact h1⟩
    rw [hF, qnU hv.2 t3 t5 (by show M.qdL (rd b.Warps w) ≤ 32; omega)]
    have j0 : (0 ≤ (wrap .i64 (((rd b.Warps w).Frames.length : Int) - 1)) ∧ (wrap .i64 (((rd b.Warps w).Frames.length : Int) - 1)) < (((rd b.Warps w).Frames).length : Int)) := by
     rw [qdx (by omega)]; omega
    refine ⟨i0, j0, j0, i0, by show _ ≤ _; simp only [M.qen, List.length_set]; omega, fun r hr => ?_⟩
    have hr : r = M.qhz b.Code (rd (M.qcQ b w (M.qbR b w)).Warps w) := by
     rw [hr]
     show M.qgE _ _ = M.qgE _ _
     unfold M.qdL
     rw [hF]
    have hrr : (rd (M.qcQ b w (M.qbR b w)).Warps w).Regs = r.Regs := by rw [hr]; rfl
    rw [hset, hrr]
    show J (b.Warps.set w.toNat r, _)
    rw [hr]
    rw [hB] at hJ ⊢
    exact hJ
   ·refine qa2 (fun e2 => ⟨h0, ?_⟩) fun e2 => ⟨⟨hv, rfl, hl⟩, fun r hr => ?_⟩
    ·have e2 : (M.qbR b w).Op = 16 := by simpa using e2
     have hacc : M.qjm (M.qbR b w) (rd b.Warps w) b.Memory = ((rd b.Warps w).Regs, b.Memory) := by
      rw [M.qjm, qnO]
      have st : ∀ (s : List Int × List Int) (k : Int), M.qfp (M.qbR b w) s k = s := fun s k => by
       unfold M.qfp
       rw [if_neg (by omega), if_neg (by omega), if_neg (by omega)]
      generalize M.qeA (M.qb2 (rd b.Warps w)) = l
      induction l with
      | nil => rfl
      | cons k l ih => rw [List.foldl_cons, st, ih]
     have hac : M.qcQ b w (M.qbR b w) = b := by
      unfold M.qcQ
      rw [hacc, qlS]
     rw [hB] at hJ2
     dsimp only at hJ2
     rw [if_pos e2, hac] at hJ2
     exact hJ2
    ·have hr : r = M.qcQ b w (M.qbR b w) := hr
     subst hr
     rw [hB] at hJ2
     dsimp only at hJ2
     rw [if_neg (by simpa using e2)] at hJ2
     exact hJ2
end Go.V
namespace Go.V
open IntKind (wrap)
theorem qj3 {b : D.Block} (h : M.Good b) {f : Int} (hf : 0 ≤ f) : ∀ (r : Nat) (k : Int), 0 ≤ k → ¬ M.qh2 b b.Warps.length f r k < 0 → M.qiw b (M.qh2 b b.Warps.length f r k)
 | 0, k, _, hn => (hn (by show (-1 : Int) < 0; omega)).elim
 | r + 1, k, hk, hn => by
  have hc := qgI h
  have ht := qiB (x := f + k) (n := b.Warps.length) (by omega) (by omega)
  unfold M.qh2 at hn ⊢
  by_cases e : M.qhj b (Int.tmod (f + k) b.Warps.length) = true
  ·rw [if_pos e]; exact ⟨qn2 h ht.1 ht.2, e⟩
  ·rw [if_neg e] at hn ⊢
   exact qj3 h hf r (k + 1) (by omega) hn
theorem qoW {b : D.Block} (h : M.Good b) {q : Int} (hq : 0 ≤ q) (hn : ¬ M.pick b q < 0) : M.qiw b (M.pick b q) := by
 have hc := qgI h
 exact qj3 h (qiB (x := q) (n := b.Warps.length) hq (by omega)).1 _ _ (Int.le_refl _) hn
theorem qpf {f : Nat → Int} {x : D.Block} {k : Nat} (h : M.stops f x k = false) : 0 ≤ f k ∧ x.Phase ≠ 100000 ∧ ¬ M.pick x (f k) < 0 := by
 simp only [M.stops, Bool.or_eq_false_iff, decide_eq_false_iff_not, beq_eq_false_iff_ne] at h
 exact ⟨by omega, h.2.1, h.2.2⟩
theorem good_step {f : Nat → Int} {x : D.Block} {k : Nat} (h : M.Good x) (hs : M.stops f x k = false) : M.qiw x (M.pick x (f k)) ∧ M.Good (M.qeG x (M.pick x (f k))) := by
 obtain ⟨h0, h1, h2⟩ := qpf hs
 have hc := qoW h h0 h2
 have hp := (qho h.2).2.2.2.2.2.2.1
 have hok := qoC hc (by rcases qgT x (M.pick x (f k)) with e | e <;> omega)
 exact ⟨hc, qkE (qje hok), hok⟩
theorem qjp {f : Nat → Int} : ∀ (m : Nat) (x : D.Block) (k : Nat), M.Good x → M.Good (M.goTo f m x k).1
 | 0, x, k, h => h
 | m + 1, x, k, h => by
  unfold M.goTo
  by_cases e : M.stops f x k = true
  ·rw [if_pos e]; exact h
  ·rw [if_neg e]; exact qjp m _ _ (good_step h (Bool.eq_false_iff.2 e)).2
theorem qhy {f : Nat → Int} : ∀ (m : Nat) (x : D.Block) (k : Nat), (M.goTo f m x k).1.Code = x.Code
 | 0, x, k => rfl
 | m + 1, x, k => by
  unfold M.goTo
  split
  ·rfl
  ·rw [qhy m, qhV]
theorem qlP (f : Nat → Int) (b : D.Block) : ∀ k, (M.goAt f b k).Code = b.Code
 | 0 => rfl
 | k + 1 => by unfold M.goAt; rw [qhV, qlP f b k]
structure GoI (f : Nat → Int) (b : D.Block) (n k : Nat) : Prop where
 good : M.Good (M.goAt f b k)
 code : (M.goAt f b k).Code = b.Code
 run : M.goTo f n b 0 = M.goTo f (n - k) (M.goAt f b k) k
theorem qkR {f : Nat → Int} {b : D.Block} (h : M.Good b) (n : Nat) : GoI f b n 0 := ⟨h, rfl, rfl⟩
theorem qpb {f : Nat → Int} {b : D.Block} {n k : Nat} (h : GoI f b n k) (hk : k < n) (hs : M.stops f (M.goAt f b k) k = false) : GoI f b n (k + 1) := by
 refine ⟨(good_step h.good hs).2, qlP f b (k + 1), ?_⟩
 rw [h.run, show n - k = (n - (k + 1)) + 1 by omega, M.goTo, if_neg (by rw [hs]; simp)]
 rfl
theorem qn1 {f : Nat → Int} {b : D.Block} {n k : Nat} (h : GoI f b n k) (hk : k < n) (hs : M.stops f (M.goAt f b k) k = true) : M.goTo f n b 0 = (M.goAt f b k, (k : Int)) := by
 rw [h.run, show n - k = (n - (k + 1)) + 1 by omega, M.goTo, if_pos hs]
theorem qmp {f : Nat → Int} {b : D.Block} {n : Nat} (h : GoI f b n n) : M.goTo f n b 0 = (M.goAt f b n, (n : Int)) := by
 rw [h.run, Nat.sub_self]; rfl
theorem qhK {c : List D.Ins} {x : D.Block} (h : x.Code = c) : (⟨c, x.Warps, x.Memory, x.Waiting, x.Phase⟩ : D.Block) = x := by rw [← h]
end Go.V
namespace Go.V
open IntKind (wrap)
theorem round {f : Nat → Int} {b : D.Block} {n k : Nat} (hF : GoI f b n k) (hk : k < n) {R : D.Block → Int → Prop} {N : D.Block → Prop} (hR : R (M.goTo f n b 0).1 (M.goTo f n b 0).2) (hN : GoI f b n (k + 1) → N (M.goAt f b (k + 1))) :
    (M.stops f (M.goAt f b k) k = true → R (M.goAt f b k) (k : Int)) ∧ (M.stops f (M.goAt f b k) k = false → M.qiw (M.goAt f b k) (M.pick (M.goAt f b k) (f k)) ∧ N (M.qeG (M.goAt f b k) (M.pick (M.goAt f b k) (f k)))) := by
 refine ⟨fun e => ?_, fun e => ⟨(good_step hF.good e).1, hN (qpb hF hk e)⟩⟩
 rw [qn1 hF hk e] at hR
 exact hR
end Go.V
namespace Go.V
open IntKind (wrap)
def wp.qcM (b : Int) (Q : Bool → Prop) : Prop :=
 (∀ a, a = M.qar b 0 100 → Q a)
def wp.qaK (a : Int) (b : Int) (Q : (Int × Bool) → Prop) : Prop :=
 Q ((wrap .i64 (a * b)), (decide (a < 9000)))
def wp.qbG (a : Int) (Q : Unit → Prop) : Prop :=
 Q ()
def wp.qaE (a : D.Block) (j : Int) (Q : (Int × D.Block) → Prop) : Prop :=
 qcX (σ := Int × (List D.Warp) × Int × Int × (List Int) × Unit) (fun (k : Int × (List D.Warp) × Int × Int × (List Int) × Unit) l => match k with | (f, c, d, b, e, _) => (∀ g, g = M.qaK f j → qa1 (!g.2) (Q (f, (⟨a.Code, c, e, d, b⟩ : D.Block))) (qa1 (decide (g.1 < 0)) (Q (f, (⟨a.Code, c, e, d, b⟩ : D.Block))) (qa1 (b == 100000) (Q (f, (⟨a.Code, c, e, d, b⟩ : D.Block))) ((M.qe4 (⟨a.Code, c, e, d, b⟩ : D.Block) g.1 ∧ ∀ h, h = M.qbe (⟨a.Code, c, e, d, b⟩ : D.Block) g.1 → qa1 (decide (h < 0)) (Q (f, (⟨a.Code, c, e, d, b⟩ : D.Block))) ((∀ m, m = M.qbG h → (M.qeE (⟨a.Code, c, e, d, b⟩ : D.Block) h ∧ ∀ i, i = M.qbj (⟨a.Code, c, e, d, b⟩ : D.Block) h → l ((wrap .i64 (f + 1)), i.2.Warps, i.2.Waiting, i.2.Phase, i.2.Memory, ())))))))))) (0, a.Warps, a.Waiting, a.Phase, a.Memory, ())
def wp.qaZ (b : D.Block) (c : Int) (Q : (Int × D.Block) → Prop) : Prop :=
 (M.qdv b c ∧ ∀ a, a = M.qaE b c → Q (a.1, (⟨b.Code, a.2.Warps, a.2.Memory, a.2.Waiting, a.2.Phase⟩ : D.Block)))
def wp.qcg (c : D.Block) (d : Int) (Q : (D.Block × Int) → Prop) : Prop :=
 (M.qeM c ∧ ∀ a, a = M.qca c → (M.qfg c ∧ ∀ e, e = M.qcW c → qa1 (!e) (Q ((⟨a.Code, a.Warps, a.Memory, a.Waiting, a.Phase⟩ : D.Block), (-1))) ((∀ f, f = M.qcM d → qa1 (!f) (Q ((⟨a.Code, a.Warps, a.Memory, a.Waiting, a.Phase⟩ : D.Block), (-1))) ((M.qeF a d ∧ ∀ b, b = M.qaZ a d → Q ((⟨a.Code, b.2.Warps, b.2.Memory, b.2.Waiting, b.2.Phase⟩ : D.Block), b.1)))))))
end Go.V
namespace Go.V
open IntKind (wrap)
theorem wp.qcM.math (s : Int) : wp.qcM s (fun r => r = M.qcM s) := fun r hr => hr
theorem wp.qaK.math (k s : Int) : wp.qaK k s (fun r => r = M.qaK k s) := rfl
theorem wp.qbG.math (k : Int) : wp.qbG k (fun r => r = M.qbG k) := rfl
theorem qk1 {k : Nat} {s : Int} (hk : k ≤ 9000) (h0 : 0 ≤ s) (h1 : s ≤ 100) : 0 ≤ (k : Int) * s ∧ (k : Int) * s ≤ 900000 := by
 have a := Int.mul_nonneg (Int.natCast_nonneg k) h0
 have b := Int.mul_le_mul (show (k : Int) ≤ 9000 by omega) h1 h0 (by omega)
 omega
theorem qnl (b : D.Block) (s : Int) (h : M.qdv b s) : wp.qaE b s (fun r => r = M.qaE b s) := by
 obtain ⟨hg, hs0, hs1⟩ := h
 have hR : ((M.goTo (M.qas s) 9000 b 0).2, (M.goTo (M.qas s) 9000 b 0).1) = M.qaE b s := rfl
 refine qcS 9000 (fun k => ((k : Int), (M.goAt (M.qas s) b k).Warps, (M.goAt (M.qas s) b k).Waiting, (M.goAt (M.qas s) b k).Phase, (M.goAt (M.qas s) b k).Memory, ())) (fun k => GoI (M.qas s) b 9000 k) rfl (qkR hg _) (fun k hk hF next hn => ?_) fun hF next => ?_
 ·obtain ⟨hs, hgo⟩ := round hF hk (R := fun x j => (j, x) = M.qaE b s) (N := fun x => next (((k + 1 : Nat) : Int), x.Warps, x.Waiting, x.Phase, x.Memory, ())) hR hn
  have hgd := hF.good
  have hcd := hF.code
  have hb := qk1 (k := k) (by omega) hs0 hs1
  dsimp only
  rw [qhK hcd, up64 (n := 9000) hk (by omega)]
  have hst : M.stops (M.qas s) (M.goAt (M.qas s) b k) k = (decide ((k : Int) * s < 0) || ((M.goAt (M.qas s) b k).Phase == 100000 || decide (M.pick (M.goAt (M.qas s) b k) ((k : Int) * s) < 0))) := rfl
  have hfk : M.qas s k = (k : Int) * s := rfl
  rw [hfk] at hgo
  generalize M.goAt (M.qas s) b k = x at *
  refine fun r66 hr66 => ?_
  have hr66 : r66 = ((k : Int) * s, true) := by
   rw [hr66]; unfold M.qaK; rw [w64 (by omega) (by omega), decide_eq_true (by omega)]
  subst hr66
  refine qaA rfl (qa2 (fun e1 => ?_) fun e1 => qa2 (fun e2 => ?_) fun e2 => ⟨⟨hgd, by omega, by show (k : Int) * s ≤ _; omega⟩, fun r71 hr71 => ?_⟩)
  ·exact hs (by rw [hst, e1]; rfl)
  ·exact hs (by rw [hst, e2, Bool.true_or, Bool.or_true])
  ·have hr71 : r71 = M.pick x ((k : Int) * s) := hr71
   subst hr71
   refine qa2 (fun e3 => ?_) fun e3 => fun r76 _ => ?_
   ·exact hs (by rw [hst, e3, Bool.or_true, Bool.or_true])
   ·obtain ⟨q1, q2⟩ := hgo (by rw [hst, e1, e2, e3]; rfl)
    refine ⟨q1, fun r81 hr81 => ?_⟩
    have hr81 : r81.2 = M.qeG x (M.pick x ((k : Int) * s)) := by rw [hr81]; rfl
    rw [hr81]
    exact q2
 ·dsimp only
  rw [qhK hF.code]
  refine fun r66 hr66 => ?_
  have hr66 : r66.2 = false := by
   rw [hr66]; unfold M.qaK; rfl
  rw [hr66]
  refine qaH rfl ?_
  rw [← hR, qmp hF]
theorem wp.qaE.math (b : D.Block) (s : Int) (h : M.qdv b s) : wp.qaE b s (fun r => r = M.qaE b s) := qnl b s h
theorem wp.qaZ.math (b : D.Block) (s : Int) (h : M.qeF b s) : wp.qaZ b s (fun r => r = M.qaZ b s) := by
 refine ⟨h, fun r hr => ?_⟩
 have hc : r.2.Code = b.Code := by rw [hr]; exact qhy _ _ _
 rw [qhK hc, hr]; rfl
theorem wp.qcg.math (b : D.Block) (s : Int) (h : M.qf6 b s) : wp.qcg b s (fun r => r = M.qcg b s) := by
 have hb := qmR h
 refine ⟨h, fun r25 hr25 => ?_⟩
 have hr25 : r25 = b := hr25
 subst hr25
 refine ⟨hb, fun r41 hr41 => qa2 (fun e => ?_) fun e => fun r48 hr48 => qa2 (fun e2 => ?_) fun e2 => ?_⟩
 all_goals have hr41 : r41 = M.qdE r25 := hr41
 ·show (r25, -1) = M.qew r25 s
  unfold M.qew
  rw [← hr41, show r41 = false by simpa using e]; rfl
 all_goals have hr48 : r48 = M.isIn s 0 100 := hr48
 ·show (r25, -1) = M.qew r25 s
  unfold M.qew
  rw [← hr48, show r48 = false by simpa using e2, Bool.and_false]; rfl
 have hok : M.qdE r25 = true := by rw [← hr41]; simpa using e
 have his : M.isIn s 0 100 = true := by rw [← hr48]; simpa using e2
 have hss : 0 ≤ s ∧ s ≤ 100 := by simpa only [M.isIn, Bool.and_eq_true, decide_eq_true_eq] using his
 refine ⟨⟨⟨hb, hok⟩, hss⟩, fun r52 hr52 => ?_⟩
 have hr52 : r52 = ((M.finish r25 s).2, (M.finish r25 s).1) := hr52
 subst hr52
 show _ = M.qew r25 s
 unfold M.qew
 rw [hok, his]
 have hc : (M.finish r25 s).1.Code = r25.Code := qhy _ _ _
 dsimp only
 rw [qhK hc]
 exact (if_pos rfl).symm
end Go.V
namespace Go.V
open IntKind (wrap)
def wp.qdo (g : D.Block) (j : Int) (k : Int) (Q : D.Block → Prop) : Prop :=
 qcX (σ := Int × (List D.Ins) × (List D.Warp) × (List Int) × Int × Int × Unit) (fun (l : Int × (List D.Ins) × (List D.Warp) × (List Int) × Int × Int × Unit) m => match l with | (h, b, c, d, e, a, _) => qa1 (decide (h < k)) ((M.qgw (⟨b, c, d, e, a⟩ : D.Block) (wrap .i64 (h * j)) ∧ ∀ i, i = M.qdC (⟨b, c, d, e, a⟩ : D.Block) (wrap .i64 (h * j)) → qa1 (decide (i < 0)) (Q (⟨b, c, d, e, a⟩ : D.Block)) (qa1 (a == 100000) (Q (⟨b, c, d, e, a⟩ : D.Block)) ((M.qgr (⟨b, c, d, e, a⟩ : D.Block) i ∧ ∀ f, f = M.qdA (⟨b, c, d, e, a⟩ : D.Block) i → m ((wrap .i64 (h + 1)), f.Code, f.Warps, f.Memory, f.Waiting, f.Phase, ())))))) (Q (⟨b, c, d, e, a⟩ : D.Block))) (0, g.Code, g.Warps, g.Memory, g.Waiting, g.Phase, ())
def wp.qcJ (a : D.Cur) (Q : (D.Block × D.Cur) → Prop) : Prop :=
 (M.qfq a ∧ ∀ e, e = M.qa8 a → (M.qav (⟨a.b, e.2.i, e.2.h⟩ : D.Cur) 3 ∧ ∀ f, f = M.qa0 (⟨a.b, e.2.i, e.2.h⟩ : D.Cur) 3 → (M.qg9 e.1 (wrap .i64 (1 + f.1)) ∧ ∀ c, c = M.qbw e.1 (wrap .i64 (1 + f.1)) → qf9 (σ := Int × Int × (List Int) × Int × Int × Unit) (fun m => (M.qfj (⟨a.b, f.2.i, f.2.h⟩ : D.Cur) 3 ∧ ∀ d, d = M.qd1 (⟨a.b, f.2.i, f.2.h⟩ : D.Cur) 3 → qa1 d.1 ((M.qg5 (⟨a.b, d.2.i, d.2.h⟩ : D.Cur) 32 ∧ ∀ l, l = M.qbu (⟨a.b, d.2.i, d.2.h⟩ : D.Cur) 32 → m (l.2.i, l.2.h, l.1, c.1.Waiting, c.1.Phase, ()))) (m (d.2.i, d.2.h, c.1.Memory, c.1.Waiting, c.1.Phase, ())))) (fun (s : Int × Int × (List Int) × Int × Int × Unit) => match s with | (n, o, p, q, r, _) => (M.qav (⟨a.b, n, o⟩ : D.Cur) 4 ∧ ∀ g, g = M.qa0 (⟨a.b, n, o⟩ : D.Cur) 4 → (M.qav (⟨a.b, g.2.i, g.2.h⟩ : D.Cur) 40 ∧ ∀ k, k = M.qa0 (⟨a.b, g.2.i, g.2.h⟩ : D.Cur) 40 → (M.qgQ (⟨c.1.Code, c.1.Warps, p, q, r⟩ : D.Block) g.1 k.1 ∧ ∀ j, j = M.qdo (⟨c.1.Code, c.1.Warps, p, q, r⟩ : D.Block) g.1 k.1 → Q ((⟨j.Code, j.Warps, j.Memory, j.Waiting, j.Phase⟩ : D.Block), (⟨a.b, k.2.i, k.2.h⟩ : D.Cur)))))))))
def wp.qcC (c : List Int) (Q : D.Block → Prop) : Prop :=
 (M.qfC c ∧ ∀ b, b = M.qb9 c → (M.qg7 (⟨c, b.i, b.h⟩ : D.Cur) ∧ ∀ a, a = M.qcJ (⟨c, b.i, b.h⟩ : D.Cur) → Q (⟨a.1.Code, a.1.Warps, a.1.Memory, a.1.Waiting, a.1.Phase⟩ : D.Block)))
end Go.V
namespace Go.V
open IntKind (wrap)
theorem wp.qdo.math (b : D.Block) (s n : Int) (h : M.qgQ b s n) : wp.qdo b s n (fun r => r = M.qdo b s n) := by
 obtain ⟨hg, hs0, hs1, hn0, hn1⟩ := h
 obtain ⟨N, rfl⟩ := Int.eq_ofNat_of_zero_le hn0
 have hN : N ≤ 9000 := by omega
 have hR : (M.goTo (M.qas s) N b 0).1 = M.qdo b s (N : Int) := rfl
 refine qcS N (fun k => ((k : Int), (M.goAt (M.qas s) b k).Code, (M.goAt (M.qas s) b k).Warps, (M.goAt (M.qas s) b k).Memory, (M.goAt (M.qas s) b k).Waiting, (M.goAt (M.qas s) b k).Phase, ())) (fun k => GoI (M.qas s) b N k) rfl (qkR hg _) (fun k hk hF next hn => ?_) fun hF next => ?_
 ·obtain ⟨hs, hgo⟩ := round hF hk (R := fun x j => x = M.qdo b s (N : Int)) (N := fun x => next (((k + 1 : Nat) : Int), x.Code, x.Warps, x.Memory, x.Waiting, x.Phase, ())) hR hn
  have hgd := hF.good
  have hbd := qk1 (k := k) (by omega) hs0 hs1
  dsimp only
  rw [up64 hk (by omega), w64 (x := (k : Int) * s) (by omega) (by omega)]
  have hst : M.stops (M.qas s) (M.goAt (M.qas s) b k) k = (decide ((k : Int) * s < 0) || ((M.goAt (M.qas s) b k).Phase == 100000 || decide (M.pick (M.goAt (M.qas s) b k) ((k : Int) * s) < 0))) := rfl
  have hfk : M.qas s k = (k : Int) * s := rfl
  rw [hfk] at hgo
  have e1 : decide ((k : Int) * s < 0) = false := decide_eq_false (by omega)
  generalize M.goAt (M.qas s) b k = x at *
  refine qaH (by simp; omega) ⟨⟨hgd, hbd.1, by show (k : Int) * s ≤ _; omega⟩, fun r hr => qa2 (fun e3 => ?_) fun e3 => qa2 (fun e4 => ?_) fun e4 => ?_⟩
  all_goals
   have hr : r = M.pick x ((k : Int) * s) := hr
   subst hr
  ·exact hs (by rw [hst, e3, Bool.or_true, Bool.or_true])
  ·exact hs (by rw [hst, e4, Bool.true_or, Bool.or_true])
  ·obtain ⟨q1, q2⟩ := hgo (by rw [hst, e1, e3, e4]; rfl)
   refine ⟨q1, fun r134 hr134 => ?_⟩
   have hr134 : r134 = M.qeG x (M.pick x ((k : Int) * s)) := hr134
   rw [hr134]
   exact q2
 ·dsimp only
  refine qaA (by simp) ?_
  rw [← hR, qmp hF]
theorem qpY {b : D.Block} {m : List Int} (h : M.qdE b = true) (hm : M.qbm m = true) : M.qdE ⟨b.Code, b.Warps, m, b.Waiting, b.Phase⟩ = true := by
 unfold M.qdE at h ⊢
 simp only [Bool.and_eq_true] at h ⊢
 exact ⟨h.1, h.2.1, hm, h.2.2.2⟩
theorem qnI {b : D.Block} (h : M.qdE b = true) : M.Good b := ⟨qkE (qje h), h⟩
theorem qnA {p : List D.Ins} (hp : M.qb6 p = true) {c : Int} (hc : 1 ≤ c ∧ c ≤ 3) : M.qfk p c = (M.qeB p c, true) := by
 unfold M.qfk
 rw [if_pos (by rw [hp]; simp only [M.isIn, Bool.true_and, Bool.and_eq_true, decide_eq_true_eq]; exact hc)]
theorem qny {c : D.Cur} (h : M.qdN c) (n : Int) : M.qdN (M.qbu c n).2 := ql8 _ h
theorem qnR (c : D.Cur) : M.qbm (M.qbu c 32).1 = true := by
 unfold M.qbm
 rw [Bool.and_eq_true, beq_iff_eq]
 exact ⟨qjL 32 c, qkv 32 c⟩
theorem qmH {c : D.Cur} (h : M.qdN c) : M.Good (M.qbN c).1 ∧ M.qdN (M.qbN c).2 ∧ (M.qbN c).2.b = c.b := by
 obtain ⟨p1, p2, _, p4, _⟩ := qjn h
 have hp := qlm h
 have hb := qdk (M.qa8 c).2 (n := 3) (by omega)
 have c1 := qbx p1 3
 have b1 := (qco (M.qa8 c).2 3).trans p2
 have c2 := qkP c1 3
 have b2 := (qmI (M.qa0 (M.qa8 c).2 3).2 3).trans b1
 have hN := qnA hp (c := 1 + (M.qa0 (M.qa8 c).2 3).1) (by omega)
 have hk := qmi hp (c := 1 + (M.qa0 (M.qa8 c).2 3).1) (by omega)
 unfold M.qbN
 dsimp only
 rw [hN]
 generalize M.once (M.qa0 (M.qa8 c).2 3).2 3 = o at *
 generalize M.qeB (M.qa8 c).1 (1 + (M.qa0 (M.qa8 c).2 3).1) = nb at *
 split
 ·dsimp only
  exact ⟨qnI (qpY hk.1 (qnR _)), qny c2 32, (qoA _ 32).trans b2⟩
 ·exact ⟨qnI hk.1, c2, b2⟩
theorem wp.qcJ.math (c : D.Cur) (h : M.qg7 c) : wp.qcJ c (fun r => r = M.qcJ c) := by
 have h : M.qdN c := h
 obtain ⟨p1, p2, _, p4, _⟩ := qjn h
 have hp := qlm h
 obtain ⟨s1, s2, s3⟩ := qmH h
 refine ⟨h, fun r hr => ?_⟩
 subst hr
 rw [qcx p2]
 refine ⟨p1, fun r hr => ?_⟩
 subst hr
 have hb := qdk (M.qa8 c).2 (n := 3) (by omega)
 have c1 := qbx p1 3
 have b1 := (qco (M.qa8 c).2 3).trans p2
 rw [w64 (x := 1 + (M.qa0 (M.qa8 c).2 3).1) (by omega) (by omega)]
 refine ⟨by show (M.qa8 c).1.length ≤ _; omega, fun r hr => ?_⟩
 subst hr
 refine qgd ((M.qbN c).2.i, (M.qbN c).2.h, (M.qbN c).1.Memory, (M.qbN c).1.Waiting, (M.qbN c).1.Phase, ()) ?_ fun J hJ => ?_
 ·have eb : (⟨(M.qbw (M.qa8 c).1 (1 + (M.qa0 (M.qa8 c).2 3).1)).1.Code, (M.qbw (M.qa8 c).1 (1 + (M.qa0 (M.qa8 c).2 3).1)).1.Warps, (M.qbN c).1.Memory, (M.qbN c).1.Waiting, (M.qbN c).1.Phase⟩ : D.Block) = (M.qbN c).1 := by
    unfold M.qbN M.qbw
    dsimp only
    split <;> rfl
  dsimp only
  rw [eb, qcx s3]
  refine ⟨s2, fun r hr => ?_⟩
  subst hr
  have b4 := (qco (M.qbN c).2 4).trans s3
  rw [qcx b4]
  refine ⟨qbx s2 4, fun r hr => ?_⟩
  subst hr
  have b5 := (qco (M.qa0 (M.qbN c).2 4).2 40).trans b4
  have i4 := qdk (M.qbN c).2 (n := 4) (by omega)
  have i5 := qdk (M.qa0 (M.qbN c).2 4).2 (n := 40) (by omega)
  rw [qcx b5]
  refine ⟨⟨s1, by omega, by omega, by omega, by omega⟩, fun r hr => ?_⟩
  subst hr; rfl
 ·rw [qcx b1]
  refine ⟨c1, fun r hr => ?_⟩
  subst hr
  have c2 := qkP c1 3
  have b2 := (qmI (M.qa0 (M.qa8 c).2 3).2 3).trans b1
  refine qa2 (fun e => ?_) fun e => ?_
  ·have e : (M.once (M.qa0 (M.qa8 c).2 3).2 3).1 = true := e
   have eS : M.qbN c = (⟨(M.qfk (M.qa8 c).1 (1 + (M.qa0 (M.qa8 c).2 3).1)).1.Code, (M.qfk (M.qa8 c).1 (1 + (M.qa0 (M.qa8 c).2 3).1)).1.Warps, (M.qbu (M.once (M.qa0 (M.qa8 c).2 3).2 3).2 32).1, (M.qfk (M.qa8 c).1 (1 + (M.qa0 (M.qa8 c).2 3).1)).1.Waiting, (M.qfk (M.qa8 c).1 (1 + (M.qa0 (M.qa8 c).2 3).1)).1.Phase⟩, (M.qbu (M.once (M.qa0 (M.qa8 c).2 3).2 3).2 32).2) := by
    unfold M.qbN
    dsimp only
    rw [if_pos e]
   rw [eS] at hJ
   show _ ∧ _
   rw [qcx (d := (M.qd1 (M.qa0 (M.qa8 c).2 3).2 3).2) b2]
   refine ⟨⟨c2, by omega, by omega⟩, fun r hr => ?_⟩
   subst hr
   exact hJ
  ·have e : (M.once (M.qa0 (M.qa8 c).2 3).2 3).1 = false := e
   have eS : M.qbN c = ((M.qfk (M.qa8 c).1 (1 + (M.qa0 (M.qa8 c).2 3).1)).1, (M.once (M.qa0 (M.qa8 c).2 3).2 3).2) := by
    unfold M.qbN
    dsimp only
    rw [if_neg (by rw [e]; simp)]
   rw [eS] at hJ
   exact hJ
theorem ql9 {c : D.Cur} (h : M.qdN c) : M.Good (M.qcJ c).1 := qjp _ _ _ (qmH h).1
theorem qo9 {b : List Int} (h : M.Long b) : M.Good (M.qcC b) := ql9 (qoe h)
theorem wp.qcC.math (b : List Int) (h : M.qfI b) : wp.qcC b (fun r => r = M.qcC b) := by
 have hn := qoe h
 refine ⟨h, fun r hr => ?_⟩
 have e : (⟨b, r.i, r.h⟩ : D.Cur) = M.qb9 b := by subst hr; rfl
 rw [e]
 refine ⟨hn, fun r2 hr2 => ?_⟩
 subst hr2; rfl
end Go.V
namespace Go.V
open IntKind (wrap)
def wp.qam (a : List D.Access) (Q : (List D.Access) → Prop) : Prop :=
 (∀ b : Bool, (b = true → a = []) → qa1 b (Q ([] : List D.Access)) (((([] : List D.Access).length + a.length ≤ 17179869184) ∧ Q (([] : List D.Access) ++ a))))
def wp.qbH (c : List D.Access) (b : List D.Access) (Q : (List D.Access) → Prop) : Prop :=
 qcX (σ := Int × (List (List Int × Bool)) × Unit) (fun (j : Int × (List (List Int × Bool)) × Unit) k => match j with | (d, g, _) => qa1 (decide (d < (c.length : Int))) (((0 ≤ d ∧ d < (c.length : Int)) ∧ k ((wrap .i64 (d + 1)), (mput g [(rd c d).Phase, (rd c d).Warp, (rd c d).Address, (rd c d).Kind] true), ()))) ((M.qcR c ∧ ∀ h, h = M.qam c → qcX (σ := (List D.Access) × Int × (List (List Int × Bool)) × Unit) (fun (l : (List D.Access) × Int × (List (List Int × Bool)) × Unit) i => match l with | (e, a, f, _) => qa1 (decide (a < (b.length : Int))) (((0 ≤ a ∧ a < (b.length : Int)) ∧ qa1 (!((mget f [(rd b a).Phase, (rd b a).Warp, (rd b a).Address, (rd b a).Kind]).getD false)) (((e.length + ([(rd b a)] : List D.Access).length ≤ 17179869184) ∧ i ((e ++ ([(rd b a)] : List D.Access)), (wrap .i64 (a + 1)), (mput f [(rd b a).Phase, (rd b a).Warp, (rd b a).Address, (rd b a).Kind] true), ()))) (i (e, (wrap .i64 (a + 1)), f, ())))) (Q e)) (h, 0, g, ())))) (0, ([] : List (List Int × Bool)), ())
end Go.V
namespace Go.V
open IntKind (wrap)
def akey (a : D.Access) : List Int := [a.Phase, a.Warp, a.Address, a.Kind]
theorem qoX {a b : D.Access} : akey a = akey b ↔ a = b := by
 cases a; cases b; simp [akey]
theorem qnJ (x y : D.Access) : ((x.Phase == y.Phase) && (x.Warp == y.Warp) && (x.Address == y.Address) && (x.Kind == y.Kind)) = (x == y) := by
 rw [Bool.eq_iff_iff]
 cases x; cases y
 simp [and_assoc]
def HasI (m : List (List Int × Bool)) (out : List D.Access) : Prop := ∀ a, (mget m (akey a)).getD false = out.contains a
theorem qmL {m : List (List Int × Bool)} {out : List D.Access} (h : HasI m out) (a : D.Access) : HasI (mput m (akey a) true) (out ++ [a]) := by
 intro b
 rw [qmP]
 have := h b
 by_cases e : b = a
 ·subst e; simp
 ·have e2 : ¬ akey b = akey a := fun hh => e (qoX.1 hh)
  rw [if_neg e2, this]
  simp [e]
def qm0 (l : List D.Access) : List (List Int × Bool) := l.foldl (fun m a => mput m (akey a) true) []
theorem qjW (l : List D.Access) (a : D.Access) : qm0 (l ++ [a]) = mput (qm0 l) (akey a) true := by simp [qm0]
theorem qjS {α : Type} [Inhabited α] {l : List α} {k : Nat} (h : k < l.length) : l.take (k + 1) = l.take k ++ [rd l (k : Int)] := by
 rw [qcV h]; simp
theorem qmT (l : List D.Access) : ∀ k, k ≤ l.length → HasI (qm0 (l.take k)) (l.take k)
 | 0, _ => fun a => by simp [qm0, mget]
 | k + 1, h => by
  rw [qjS (by omega), qjW]
  exact qmL (qmT l k (by omega)) _
def qoT (s : List D.Access × List (List Int × Bool)) (a : D.Access) : List D.Access × List (List Int × Bool) := if s.1.contains a then s else (s.1 ++ [a], mput s.2 (akey a) true)
def qki (log list : List D.Access) : List D.Access × List (List Int × Bool) := list.foldl qoT (log, qm0 log)
theorem qn0 {log list : List D.Access} {k : Nat} (h : k < list.length) : qki log (list.take (k + 1)) = qoT (qki log (list.take k)) (rd list (k : Int)) := by
 rw [qjS h]; simp [qki]
theorem qlV {log list : List D.Access} {k : Nat} (h : k < list.length) : M.qfQ log (list.take (k + 1)) = M.qhh (M.qfQ log (list.take k)) (rd list (k : Int)) := by
 rw [qjS h]; simp [M.qfQ]
theorem qni (out : List D.Access) (a : D.Access) : (M.qhh out a).length ≤ out.length + 1 := by
 unfold M.qhh
 split <;> simp
theorem qiW {log list : List D.Access} : ∀ k, k ≤ list.length → (M.qfQ log (list.take k)).length ≤ log.length + k
 | 0, _ => by simp [M.qfQ]
 | k + 1, h => by
  rw [qlV (by omega)]
  have := qiW (log := log) (list := list) k (by omega)
  have := qni (M.qfQ log (list.take k)) (rd list (k : Int))
  omega
theorem qjk {log list : List D.Access} : ∀ k, k ≤ list.length → (qki log (list.take k)).1 = M.qfQ log (list.take k) ∧ HasI (qki log (list.take k)).2 (qki log (list.take k)).1
 | 0, _ => by
  have := qmT log log.length (Nat.le_refl _)
  rw [List.take_length] at this
  exact ⟨rfl, this⟩
 | k + 1, h => by
  obtain ⟨h1, h2⟩ := qjk (log := log) (list := list) k (by omega)
  rw [qn0 (by omega), qlV (by omega), ← h1]
  unfold qoT M.qhh
  split
  ·exact ⟨rfl, h2⟩
  ·exact ⟨rfl, qmL h2 _⟩
theorem wp.qam.math (l : List D.Access) (h : M.qcR l) : wp.qam l (fun r => r = M.qam l) := by
 intro b hb
 refine qa2 (fun e => ?_) fun e => ⟨by simp only [List.length_nil, Nat.zero_add]; exact h, ?_⟩
 ·rw [hb e]; rfl
 ·simp [M.qam]
theorem wp.qbH.math (log list : List D.Access) (h : M.qer log list) : wp.qbH log list (fun r => r = M.qbH log list) := by
 have h : log.length + list.length ≤ 17179869184 := h
 refine qcS log.length (fun k => ((k : Int), qm0 (log.take k), ())) (fun _ => True) rfl trivial (fun k hk _ next hn => ?_) fun _ next => ?_
 ·have hn := hn trivial
  rw [qjS hk, qjW] at hn
  dsimp only
  rw [up64 hk (by omega)]
  exact qaH (by simp; omega) ⟨⟨by omega, by omega⟩, hn⟩
 ·refine qaA (by simp) ⟨by show log.length ≤ _; omega, fun r hr => ?_⟩
  have hr : r = log := hr
  subst hr
  rw [List.take_length]
  refine qcS list.length (fun k => ((qki r (list.take k)).1, (k : Int), (qki r (list.take k)).2, ())) (fun _ => True) rfl trivial (fun k hk _ next hn => ?_) fun _ next => ?_
  ·have hn := hn trivial
   rw [qn0 hk] at hn
   obtain ⟨h1, h2⟩ := qjk (log := r) (list := list) k (by omega)
   have hl := qiW (log := r) (list := list) k (by omega)
   rw [← h1] at hl
   generalize qki r (list.take k) = s at *
   dsimp only
   have hg : (mget s.2 [(rd list (k : Int)).Phase, (rd list (k : Int)).Warp, (rd list (k : Int)).Address, (rd list (k : Int)).Kind]).getD false = s.1.contains (rd list (k : Int)) := h2 (rd list (k : Int))
   unfold qoT at hn
   rw [up64 hk (by omega), hg]
   refine qaH (by simp; omega) ⟨⟨by omega, by omega⟩, qa2 (fun e => ⟨by simp; omega, ?_⟩) fun e => ?_⟩
   ·rw [if_neg (by simpa using e)] at hn; exact hn
   ·rw [if_pos (by simpa using e)] at hn; exact hn
  ·refine qaA (by simp) ?_
   rw [List.take_length, (show (qki r list).1 = M.qfQ r list from by have := (qjk (log := r) (list := list) list.length (Nat.le_refl _)).1; rwa [List.take_length] at this)]
   rfl
end Go.V
namespace Go.V
open IntKind (wrap)
def wp.cmp_Compare_int (a : Int) (b : Int) (Q : Int → Prop) : Prop :=
 (∀ d, d = M.cmp_isNaN_int a → (∀ c, c = M.cmp_isNaN_int b → qa1 d (qa1 c (Q 0) (Q (-1))) (qa1 c (Q 1) (qa1 (decide (a < b)) (Q (-1)) (qa1 (decide (a > b)) (Q 1) (Q 0))))))
def wp.qaF (a : D.Access) (b : D.Access) (Q : Int → Prop) : Prop :=
 (M.qfu a.Address b.Address ∧ ∀ c, c = M.cmp_Compare_int a.Address b.Address → Q c)
def wp.qa9 (m : List D.Access) (e : Int) (n : Int) (f : D.Access → D.Access → Int) (g : D.Access → D.Access → Prop) (Q : ((List D.Access)) → Prop) : Prop :=
 qcX (σ := Int × (List D.Access) × Unit) (fun (o : Int × (List D.Access) × Unit) d => match o with | (c, h, _) => qa1 (decide (c < n)) (qcX (σ := Int × (List D.Access) × Unit) (fun (p : Int × (List D.Access) × Unit) i => match p with | (a, b, _) => qf9 (σ := Unit) (fun j => qa1 (decide (a > e)) (((0 ≤ a ∧ a < (b.length : Int)) ∧ ((0 ≤ (wrap .i64 (a - 1)) ∧ (wrap .i64 (a - 1)) < (b.length : Int)) ∧ (((g (rd b a) (rd b (wrap .i64 (a - 1))) ∧ ∀ k, k = f (rd b a) (rd b (wrap .i64 (a - 1))) → qa1 (decide (k < 0)) (j (())) (d ((wrap .i64 (c + 1)), b, ())))) ∧ ((g (rd b a) (rd b (wrap .i64 (a - 1))) ∧ ∀ l, l = f (rd b a) (rd b (wrap .i64 (a - 1))) → qa1 (decide (l < 0)) (j (())) (d ((wrap .i64 (c + 1)), b, ())))) ∧ True)))) (((d ((wrap .i64 (c + 1)), b, ())) ∧ (d ((wrap .i64 (c + 1)), b, ())) ∧ True))) (fun (q : Unit) => match q with | (_) => ((0 ≤ (wrap .i64 (a - 1)) ∧ (wrap .i64 (a - 1)) < (b.length : Int)) ∧ ((0 ≤ a ∧ a < (b.length : Int)) ∧ ((((0 ≤ a ∧ a < (b.length : Int)) ∧ ((0 ≤ (wrap .i64 (a - 1)) ∧ (wrap .i64 (a - 1)) < ((List.set b (a.toNat) (⟨(rd b (wrap .i64 (a - 1))).Phase, (rd b (wrap .i64 (a - 1))).Warp, (rd b (wrap .i64 (a - 1))).Address, (rd b (wrap .i64 (a - 1))).Kind⟩ : D.Access)).length : Int)) ∧ i ((wrap .i64 (a - 1)), (List.set (List.set b (a.toNat) (⟨(rd b (wrap .i64 (a - 1))).Phase, (rd b (wrap .i64 (a - 1))).Warp, (rd b (wrap .i64 (a - 1))).Address, (rd b (wrap .i64 (a - 1))).Kind⟩ : D.Access)) ((wrap .i64 (a - 1)).toNat) (⟨(rd b a).Phase, (rd b a).Warp, (rd b a).Address, (rd b a).Kind⟩ : D.Access)), ())))) ∧ (((0 ≤ a ∧ a < (b.length : Int)) ∧ ((0 ≤ (wrap .i64 (a - 1)) ∧ (wrap .i64 (a - 1)) < ((List.set b (a.toNat) (⟨(rd b (wrap .i64 (a - 1))).Phase, (rd b (wrap .i64 (a - 1))).Warp, (rd b (wrap .i64 (a - 1))).Address, (rd b (wrap .i64 (a - 1))).Kind⟩ : D.Access)).length : Int)) ∧ i ((wrap .i64 (a - 1)), (List.set (List.set b (a.toNat) (⟨(rd b (wrap .i64 (a - 1))).Phase, (rd b (wrap .i64 (a - 1))).Warp, (rd b (wrap .i64 (a - 1))).Address, (rd b (wrap .i64 (a - 1))).Kind⟩ : D.Access)) ((wrap .i64 (a - 1)).toNat) (⟨(rd b a).Phase, (rd b a).Warp, (rd b a).Address, (rd b a).Kind⟩ : D.Access)), ())))) ∧ True))))) (c, h, ())) (Q h)) ((wrap .i64 (e + 1)), m, ())
def wp.qaj (c : List D.Access) (f : Int) (g : Int) (h : Int) (d : D.Access → D.Access → Int) (i : D.Access → D.Access → Prop) (Q : ((List D.Access)) → Prop) : Prop :=
 qcX (σ := Int × Int × Int × Bool × Bool × Unit) (fun (j : Int × Int × Int × Bool × Bool × Unit) l => match j with | (a, b, k, m, n, _) => qa1 (decide ((wrap .i64 (b - a)) ≤ 12)) ((M.qcu c a b d i ∧ ∀ e, e = M.qa9 c a b d → Q e)) (qa1 (k == 0) (False) (False))) (f, g, h, true, true, ())
def wp.qa7 (a : List D.Access) (c : D.Access → D.Access → Int) (e : D.Access → D.Access → Prop) (Q : ((List D.Access)) → Prop) : Prop :=
 (M.qf0 (IntKind.wrap .u64 (a.length : Int)) ∧ ∀ b, b = M.qcP (IntKind.wrap .u64 (a.length : Int)) → (M.qdc a 0 (a.length : Int) b c e ∧ ∀ d, d = M.qaj a 0 (a.length : Int) b c → Q d))
end Go.V
