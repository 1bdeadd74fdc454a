import Derived.Test.YtkpfabigipedcaaGreatBsMath1
set_option linter.unusedVariables false
set_option linter.unusedSimpArgs false
set_option maxRecDepth 20000
namespace Go.V
open IntKind (wrap)
def wp.qaI (s0 : D.Warp) (xs1 : List D.Ins) (Q : (Bool × D.Warp) → Prop) : Prop :=
 bcase (decide ((wrap .i64 ((s0.Frames.length : Int) + 2)) > 24)) (Q (false, (⟨s0.Number, s0.Frames, s0.Regs⟩ : D.Warp))) (((0 ≤ (wrap .i64 ((s0.Frames.length : Int) - 1)) ∧ (wrap .i64 ((s0.Frames.length : Int) - 1)) < (s0.Frames.length : Int)) ∧ ((0 ≤ (rd s0.Frames (wrap .i64 ((s0.Frames.length : Int) - 1))).Pc ∧ (rd s0.Frames (wrap .i64 ((s0.Frames.length : Int) - 1))).Pc < (xs1.length : Int)) ∧ (M.qcQ s0 ((rd xs1 ((rd s0.Frames (wrap .i64 ((s0.Frames.length : Int) - 1))).Pc)).A) ∧ ∀ r36, r36 = M.qaJ s0 ((rd xs1 ((rd s0.Frames (wrap .i64 ((s0.Frames.length : Int) - 1))).Pc)).A) → (M.qgr xs1 ((rd s0.Frames (wrap .i64 ((s0.Frames.length : Int) - 1))).Pc) ∧ ∀ r41, r41 = M.qcX xs1 ((rd s0.Frames (wrap .i64 ((s0.Frames.length : Int) - 1))).Pc) → ((0 ≤ (rd s0.Frames (wrap .i64 ((s0.Frames.length : Int) - 1))).Pc ∧ (rd s0.Frames (wrap .i64 ((s0.Frames.length : Int) - 1))).Pc < (xs1.length : Int)) ∧ (((((List.set s0.Frames ((wrap .i64 ((s0.Frames.length : Int) - 1)).toNat) (⟨r41, (rd s0.Frames (wrap .i64 ((s0.Frames.length : Int) - 1))).Stop, (rd s0.Frames (wrap .i64 ((s0.Frames.length : Int) - 1))).Mask⟩ : D.Frame)).length + ([(⟨(wrap .i64 ((rd s0.Frames (wrap .i64 ((s0.Frames.length : Int) - 1))).Pc + 1)), r41, (qeE .i64 ((rd s0.Frames (wrap .i64 ((s0.Frames.length : Int) - 1))).Mask) r36)⟩ : D.Frame), (⟨(rd xs1 ((rd s0.Frames (wrap .i64 ((s0.Frames.length : Int) - 1))).Pc)).B, r41, r36⟩ : D.Frame)] : List D.Frame).length ≤ 17179869184) ∧ Q (true, (⟨s0.Number, ((List.set s0.Frames ((wrap .i64 ((s0.Frames.length : Int) - 1)).toNat) (⟨r41, (rd s0.Frames (wrap .i64 ((s0.Frames.length : Int) - 1))).Stop, (rd s0.Frames (wrap .i64 ((s0.Frames.length : Int) - 1))).Mask⟩ : D.Frame)) ++ ([(⟨(wrap .i64 ((rd s0.Frames (wrap .i64 ((s0.Frames.length : Int) - 1))).Pc + 1)), r41, (qeE .i64 ((rd s0.Frames (wrap .i64 ((s0.Frames.length : Int) - 1))).Mask) r36)⟩ : D.Frame), (⟨(rd xs1 ((rd s0.Frames (wrap .i64 ((s0.Frames.length : Int) - 1))).Pc)).B, r41, r36⟩ : D.Frame)] : List D.Frame)), s0.Regs⟩ : D.Warp)))) ∧ ((((((List.set s0.Frames ((wrap .i64 ((s0.Frames.length : Int) - 1)).toNat) (⟨r41, (rd s0.Frames (wrap .i64 ((s0.Frames.length : Int) - 1))).Stop, (rd s0.Frames (wrap .i64 ((s0.Frames.length : Int) - 1))).Mask⟩ : D.Frame)).length + ([(⟨(wrap .i64 ((rd s0.Frames (wrap .i64 ((s0.Frames.length : Int) - 1))).Pc + 1)), r41, (qeE .i64 ((rd s0.Frames (wrap .i64 ((s0.Frames.length : Int) - 1))).Mask) r36)⟩ : D.Frame), (⟨(rd xs1 ((rd s0.Frames (wrap .i64 ((s0.Frames.length : Int) - 1))).Pc)).B, r41, r36⟩ : D.Frame)] : List D.Frame).length ≤ 17179869184) ∧ Q (true, (⟨s0.Number, ((List.set s0.Frames ((wrap .i64 ((s0.Frames.length : Int) - 1)).toNat) (⟨r41, (rd s0.Frames (wrap .i64 ((s0.Frames.length : Int) - 1))).Stop, (rd s0.Frames (wrap .i64 ((s0.Frames.length : Int) - 1))).Mask⟩ : D.Frame)) ++ ([(⟨(wrap .i64 ((rd s0.Frames (wrap .i64 ((s0.Frames.length : Int) - 1))).Pc + 1)), r41, (qeE .i64 ((rd s0.Frames (wrap .i64 ((s0.Frames.length : Int) - 1))).Mask) r36)⟩ : D.Frame), (⟨(rd xs1 ((rd s0.Frames (wrap .i64 ((s0.Frames.length : Int) - 1))).Pc)).B, r41, r36⟩ : D.Frame)] : List D.Frame)), s0.Regs⟩ : D.Warp)))) ∧ ((((List.set s0.Frames ((wrap .i64 ((s0.Frames.length : Int) - 1)).toNat) (⟨r41, (rd s0.Frames (wrap .i64 ((s0.Frames.length : Int) - 1))).Stop, (rd s0.Frames (wrap .i64 ((s0.Frames.length : Int) - 1))).Mask⟩ : D.Frame)).length + ([(⟨(wrap .i64 ((rd s0.Frames (wrap .i64 ((s0.Frames.length : Int) - 1))).Pc + 1)), r41, (qeE .i64 ((rd s0.Frames (wrap .i64 ((s0.Frames.length : Int) - 1))).Mask) r36)⟩ : D.Frame), (⟨(rd xs1 ((rd s0.Frames (wrap .i64 ((s0.Frames.length : Int) - 1))).Pc)).B, r41, r36⟩ : D.Frame)] : List D.Frame).length ≤ 17179869184) ∧ Q (true, (⟨s0.Number, ((List.set s0.Frames ((wrap .i64 ((s0.Frames.length : Int) - 1)).toNat) (⟨r41, (rd s0.Frames (wrap .i64 ((s0.Frames.length : Int) - 1))).Stop, (rd s0.Frames (wrap .i64 ((s0.Frames.length : Int) - 1))).Mask⟩ : D.Frame)) ++ ([(⟨(wrap .i64 ((rd s0.Frames (wrap .i64 ((s0.Frames.length : Int) - 1))).Pc + 1)), r41, (qeE .i64 ((rd s0.Frames (wrap .i64 ((s0.Frames.length : Int) - 1))).Mask) r36)⟩ : D.Frame), (⟨(rd xs1 ((rd s0.Frames (wrap .i64 ((s0.Frames.length : Int) - 1))).Pc)).B, r41, r36⟩ : D.Frame)] : List D.Frame)), s0.Regs⟩ : D.Warp)))) ∧ True)) ∧ True)))))))
def wp.qaZ (s0 : D.Ins) (x1 : Int) (xs2 : List Int) (lo2 hi2 : Nat) (Q : ((List Int)) → Prop) : Prop :=
 bcase (s0.Op == 1) (((0 ≤ s0.A ∧ s0.A < ((List.drop lo2 (List.take hi2 xs2)).length : Int)) ∧ Q (List.set xs2 (lo2 + (s0.A.toNat)) s0.B))) (bcase (s0.Op == 2) (((0 ≤ s0.B ∧ s0.B < ((List.drop lo2 (List.take hi2 xs2)).length : Int)) ∧ ((0 ≤ s0.A ∧ s0.A < ((List.drop lo2 (List.take hi2 xs2)).length : Int)) ∧ Q (List.set xs2 (lo2 + (s0.A.toNat)) (rd (List.drop lo2 (List.take hi2 xs2)) s0.B))))) (bcase (s0.Op == 3) (((0 ≤ s0.B ∧ s0.B < ((List.drop lo2 (List.take hi2 xs2)).length : Int)) ∧ ((0 ≤ s0.C ∧ s0.C < ((List.drop lo2 (List.take hi2 xs2)).length : Int)) ∧ (∀ r82, r82 = M.qbE (rd (List.drop lo2 (List.take hi2 xs2)) s0.B) (rd (List.drop lo2 (List.take hi2 xs2)) s0.C) → ((0 ≤ s0.A ∧ s0.A < ((List.drop lo2 (List.take hi2 xs2)).length : Int)) ∧ Q (List.set xs2 (lo2 + (s0.A.toNat)) r82)))))) (bcase (s0.Op == 4) (((0 ≤ s0.B ∧ s0.B < ((List.drop lo2 (List.take hi2 xs2)).length : Int)) ∧ ((0 ≤ s0.C ∧ s0.C < ((List.drop lo2 (List.take hi2 xs2)).length : Int)) ∧ (∀ r129, r129 = M.qcc (rd (List.drop lo2 (List.take hi2 xs2)) s0.B) (rd (List.drop lo2 (List.take hi2 xs2)) s0.C) → ((0 ≤ s0.A ∧ s0.A < ((List.drop lo2 (List.take hi2 xs2)).length : Int)) ∧ Q (List.set xs2 (lo2 + (s0.A.toNat)) r129)))))) (bcase (s0.Op == 5) (((0 ≤ s0.B ∧ s0.B < ((List.drop lo2 (List.take hi2 xs2)).length : Int)) ∧ ((0 ≤ s0.C ∧ s0.C < ((List.drop lo2 (List.take hi2 xs2)).length : Int)) ∧ (∀ r176, r176 = M.qcd (rd (List.drop lo2 (List.take hi2 xs2)) s0.B) (rd (List.drop lo2 (List.take hi2 xs2)) s0.C) → ((0 ≤ s0.A ∧ s0.A < ((List.drop lo2 (List.take hi2 xs2)).length : Int)) ∧ Q (List.set xs2 (lo2 + (s0.A.toNat)) r176)))))) (bcase (s0.Op == 6) (((0 ≤ s0.B ∧ s0.B < ((List.drop lo2 (List.take hi2 xs2)).length : Int)) ∧ ((0 ≤ s0.C ∧ s0.C < ((List.drop lo2 (List.take hi2 xs2)).length : Int)) ∧ ((0 ≤ s0.A ∧ s0.A < ((List.drop lo2 (List.take hi2 xs2)).length : Int)) ∧ Q (List.set xs2 (lo2 + (s0.A.toNat)) (qgh .i64 (rd (List.drop lo2 (List.take hi2 xs2)) s0.B) (rd (List.drop lo2 (List.take hi2 xs2)) s0.C))))))) (bcase (s0.Op == 7) (((0 ≤ s0.B ∧ s0.B < ((List.drop lo2 (List.take hi2 xs2)).length : Int)) ∧ ((0 ≤ s0.C ∧ s0.C < ((List.drop lo2 (List.take hi2 xs2)).length : Int)) ∧ (∀ r245, r245 = M.qbW (rd (List.drop lo2 (List.take hi2 xs2)) s0.B) (rd (List.drop lo2 (List.take hi2 xs2)) s0.C) → ((0 ≤ s0.A ∧ s0.A < ((List.drop lo2 (List.take hi2 xs2)).length : Int)) ∧ Q (List.set xs2 (lo2 + (s0.A.toNat)) r245)))))) (bcase (s0.Op == 8) (((0 ≤ s0.A ∧ s0.A < ((List.drop lo2 (List.take hi2 xs2)).length : Int)) ∧ Q (List.set xs2 (lo2 + (s0.A.toNat)) x1))) (bcase (s0.Op == 9) (((0 ≤ s0.C ∧ s0.C < ((List.drop lo2 (List.take hi2 xs2)).length : Int)) ∧ bcase ((rd (List.drop lo2 (List.take hi2 xs2)) s0.C) != 0) (((0 ≤ s0.B ∧ s0.B < ((List.drop lo2 (List.take hi2 xs2)).length : Int)) ∧ ((0 ≤ s0.A ∧ s0.A < ((List.drop lo2 (List.take hi2 xs2)).length : Int)) ∧ Q (List.set xs2 (lo2 + (s0.A.toNat)) (rd (List.drop lo2 (List.take hi2 xs2)) s0.B))))) (Q xs2))) (Q xs2)))))))))
def wp.qb5 (s0 : D.Warp) (xs1 : List D.Ins) (Q : D.Warp → Prop) : Prop :=
 ((0 ≤ (wrap .i64 ((s0.Frames.length : Int) - 1)) ∧ (wrap .i64 ((s0.Frames.length : Int) - 1)) < (s0.Frames.length : Int)) ∧ ((0 ≤ (rd s0.Frames (wrap .i64 ((s0.Frames.length : Int) - 1))).Pc ∧ (rd s0.Frames (wrap .i64 ((s0.Frames.length : Int) - 1))).Pc < (xs1.length : Int)) ∧ (∀ r38, r38 = M.qc7 ((rd s0.Frames (wrap .i64 ((s0.Frames.length : Int) - 1))).Mask) → qd4 (σ := Int × (List Int) × Unit) (fun (p138 : Int × (List Int) × Unit) next81 => match p138 with | (i75, xs76, _) => bcase (decide (i75 < (r38.length : Int))) (((0 ≤ i75 ∧ i75 < (r38.length : Int)) ∧ (M.qdV (⟨s0.Number, s0.Frames, xs76⟩ : D.Warp) (rd r38 i75) ∧ (M.qg4 (rd xs1 ((rd s0.Frames (wrap .i64 ((s0.Frames.length : Int) - 1))).Pc)) (wrap .i64 ((wrap .i64 (s0.Number * 8)) + (rd r38 i75))) xs76 ((wrap .i64 ((rd r38 i75) * 4)).toNat) ((wrap .i64 ((wrap .i64 ((rd r38 i75) + 1)) * 4)).toNat) ∧ ∀ r101, r101 = M.qaZ (rd xs1 ((rd s0.Frames (wrap .i64 ((s0.Frames.length : Int) - 1))).Pc)) (wrap .i64 ((wrap .i64 (s0.Number * 8)) + (rd r38 i75))) xs76 ((wrap .i64 ((rd r38 i75) * 4)).toNat) ((wrap .i64 ((wrap .i64 ((rd r38 i75) + 1)) * 4)).toNat) → next81 ((wrap .i64 (i75 + 1)), r101, ()))))) (bcase ((rd xs1 ((rd s0.Frames (wrap .i64 ((s0.Frames.length : Int) - 1))).Pc)).Op == 12) (Q (⟨s0.Number, (List.set s0.Frames ((wrap .i64 ((s0.Frames.length : Int) - 1)).toNat) (⟨(xs1.length : Int), (rd s0.Frames (wrap .i64 ((s0.Frames.length : Int) - 1))).Stop, (rd s0.Frames (wrap .i64 ((s0.Frames.length : Int) - 1))).Mask⟩ : D.Frame)), xs76⟩ : D.Warp)) (qf3 (σ := Bool × Unit) (fun J114 => bcase ((rd xs1 ((rd s0.Frames (wrap .i64 ((s0.Frames.length : Int) - 1))).Pc)).Op == 11) (J114 (true, ())) (bcase ((rd xs1 ((rd s0.Frames (wrap .i64 ((s0.Frames.length : Int) - 1))).Pc)).Op == 10) ((M.qcQ (⟨s0.Number, s0.Frames, xs76⟩ : D.Warp) ((rd xs1 ((rd s0.Frames (wrap .i64 ((s0.Frames.length : Int) - 1))).Pc)).A) ∧ ∀ r119, r119 = M.qaJ (⟨s0.Number, s0.Frames, xs76⟩ : D.Warp) ((rd xs1 ((rd s0.Frames (wrap .i64 ((s0.Frames.length : Int) - 1))).Pc)).A) → J114 ((r119 == (rd s0.Frames (wrap .i64 ((s0.Frames.length : Int) - 1))).Mask), ()))) (J114 (false, ())))) (fun (p134 : Bool × Unit) => match p134 with | (b113, _) => bcase b113 (Q (⟨s0.Number, (List.set s0.Frames ((wrap .i64 ((s0.Frames.length : Int) - 1)).toNat) (⟨(rd xs1 ((rd s0.Frames (wrap .i64 ((s0.Frames.length : Int) - 1))).Pc)).B, (rd s0.Frames (wrap .i64 ((s0.Frames.length : Int) - 1))).Stop, (rd s0.Frames (wrap .i64 ((s0.Frames.length : Int) - 1))).Mask⟩ : D.Frame)), xs76⟩ : D.Warp)) (Q (⟨s0.Number, (List.set s0.Frames ((wrap .i64 ((s0.Frames.length : Int) - 1)).toNat) (⟨(wrap .i64 ((rd s0.Frames (wrap .i64 ((s0.Frames.length : Int) - 1))).Pc + 1)), (rd s0.Frames (wrap .i64 ((s0.Frames.length : Int) - 1))).Stop, (rd s0.Frames (wrap .i64 ((s0.Frames.length : Int) - 1))).Mask⟩ : D.Frame)), xs76⟩ : D.Warp)))))) (0, s0.Regs, ()))))
def wp.qbl (s0 : D.Warp) (x1 : Int) (Q : D.Warp → Prop) : Prop :=
 qd4 (σ := Int × (List D.Frame) × Unit) (fun (p107 : Int × (List D.Frame) × Unit) next79 => match p107 with | (i72, xs73, _) => bcase (decide ((xs73.length : Int) > 0)) (((0 ≤ (wrap .i64 ((xs73.length : Int) - 1)) ∧ (wrap .i64 ((xs73.length : Int) - 1)) < (xs73.length : Int)) ∧ qf3 (σ := Unit) (fun J91 => bcase ((rd xs73 (wrap .i64 ((xs73.length : Int) - 1))).Pc != (rd xs73 (wrap .i64 ((xs73.length : Int) - 1))).Stop) (bcase ((rd xs73 (wrap .i64 ((xs73.length : Int) - 1))).Pc != x1) (Q (⟨i72, xs73, s0.Regs⟩ : D.Warp)) (J91 (()))) (J91 (()))) (fun (p104 : Unit) => match p104 with | (_) => ((0 ≤ (wrap .i64 ((xs73.length : Int) - 1)) ∧ (wrap .i64 ((xs73.length : Int) - 1)) ≤ (xs73.length : Int)) ∧ next79 (i72, (List.take ((wrap .i64 ((xs73.length : Int) - 1)).toNat) xs73), ()))))) (Q (⟨i72, xs73, s0.Regs⟩ : D.Warp))) (s0.Number, s0.Frames, ())
def wp.qba (s0 : D.Warp) (xs1 : List D.Ins) (Q : (Bool × D.Warp) → Prop) : Prop :=
 bcase ((s0.Frames.length : Int) == 0) (Q (false, (⟨s0.Number, s0.Frames, s0.Regs⟩ : D.Warp))) (((0 ≤ (wrap .i64 ((s0.Frames.length : Int) - 1)) ∧ (wrap .i64 ((s0.Frames.length : Int) - 1)) < (s0.Frames.length : Int)) ∧ ((0 ≤ (rd s0.Frames (wrap .i64 ((s0.Frames.length : Int) - 1))).Pc ∧ (rd s0.Frames (wrap .i64 ((s0.Frames.length : Int) - 1))).Pc < (xs1.length : Int)) ∧ (∀ r32, r32 = M.qcm (rd xs1 ((rd s0.Frames (wrap .i64 ((s0.Frames.length : Int) - 1))).Pc)) → bcase (!r32) (Q (false, (⟨s0.Number, s0.Frames, s0.Regs⟩ : D.Warp))) ((M.qe1 s0 xs1 ∧ ∀ r37, r37 = M.qaR s0 xs1 → bcase r37 ((M.qej s0 xs1 ∧ ∀ r42, r42 = M.qaI s0 xs1 → bcase (!r42.1) (Q (false, (⟨r42.2.Number, r42.2.Frames, s0.Regs⟩ : D.Warp))) ((M.qdU (⟨r42.2.Number, r42.2.Frames, s0.Regs⟩ : D.Warp) (xs1.length : Int) ∧ ∀ r50, r50 = M.qbl (⟨r42.2.Number, r42.2.Frames, s0.Regs⟩ : D.Warp) (xs1.length : Int) → Q (true, (⟨r50.Number, r50.Frames, s0.Regs⟩ : D.Warp)))))) ((M.qeq s0 xs1 ∧ ∀ r59, r59 = M.qb5 s0 xs1 → (M.qdU r59 (xs1.length : Int) ∧ ∀ r68, r68 = M.qbl r59 (xs1.length : Int) → Q (true, (⟨r68.Number, r68.Frames, r59.Regs⟩ : D.Warp)))))))))))
end Go.V
namespace Go.V
open IntKind (wrap)
def wp.qaD (xs0 : List D.Ins) (s1 : D.Warp) (Q : D.Warp → Prop) : Prop :=
 (M.qef s1 ∧ ∀ r25, r25 = M.qbQ s1 → qd4 (σ := Int × Int × (List D.Frame) × Unit) (fun (p121 : Int × Int × (List D.Frame) × Unit) next89 => match p121 with | (i81, i82, xs83, _) => bcase (decide (i81 ≥ 0)) (((0 ≤ i81 ∧ i81 < (xs83.length : Int)) ∧ bcase ((rd xs83 i81).Pc != (rd xs83 i81).Stop) (bcase ((rd xs83 i81).Pc != (xs0.length : Int)) (Q (⟨i82, xs83, r25.Regs⟩ : D.Warp)) (((0 ≤ i81 ∧ i81 ≤ (xs83.length : Int)) ∧ next89 ((wrap .i64 (i81 - 1)), i82, (List.take (i81.toNat) xs83), ())))) (((0 ≤ i81 ∧ i81 ≤ (xs83.length : Int)) ∧ next89 ((wrap .i64 (i81 - 1)), i82, (List.take (i81.toNat) xs83), ()))))) (Q (⟨i82, xs83, r25.Regs⟩ : D.Warp))) ((wrap .i64 ((r25.Frames.length : Int) - 1)), r25.Number, r25.Frames, ()))
def wp.qcI (xs0 : List D.Ins) (s1 : D.Warp) (Q : (List Int) → Prop) : Prop :=
 ((([] : List Int).length + s1.Regs.length ≤ 17179869184) ∧ ((0 ≤ (wrap .i64 ((s1.Frames.length : Int) - 1)) ∧ (wrap .i64 ((s1.Frames.length : Int) - 1)) < (s1.Frames.length : Int)) ∧ qd4 (σ := Int × (List Int) × Unit) (fun (p197 : Int × (List Int) × Unit) next117 => match p197 with | (i111, xs112, _) => bcase (decide (i111 < 8)) ((∀ r119, r119 = M.qby ((rd s1.Frames (wrap .i64 ((s1.Frames.length : Int) - 1))).Mask) i111 → bcase r119 (((0 ≤ (rd s1.Frames (wrap .i64 ((s1.Frames.length : Int) - 1))).Pc ∧ (rd s1.Frames (wrap .i64 ((s1.Frames.length : Int) - 1))).Pc < (xs0.length : Int)) ∧ ((0 ≤ (wrap .i64 ((wrap .i64 (i111 + 1)) * 4)) ∧ (wrap .i64 ((wrap .i64 (i111 + 1)) * 4)) ≤ (s1.Regs.length : Int) ∧ 0 ≤ (wrap .i64 (i111 * 4)) ∧ (wrap .i64 (i111 * 4)) ≤ (wrap .i64 ((wrap .i64 (i111 + 1)) * 4))) ∧ (M.qfD (rd xs0 ((rd s1.Frames (wrap .i64 ((s1.Frames.length : Int) - 1))).Pc)) (wrap .i64 ((wrap .i64 (s1.Number * 8)) + i111)) (List.drop ((wrap .i64 (i111 * 4)).toNat) (List.take ((wrap .i64 ((wrap .i64 (i111 + 1)) * 4)).toNat) s1.Regs)) ∧ ∀ r134, r134 = M.qaV (rd xs0 ((rd s1.Frames (wrap .i64 ((s1.Frames.length : Int) - 1))).Pc)) (wrap .i64 ((wrap .i64 (s1.Number * 8)) + i111)) (List.drop ((wrap .i64 (i111 * 4)).toNat) (List.take ((wrap .i64 ((wrap .i64 (i111 + 1)) * 4)).toNat) s1.Regs)) → qd4 (σ := Int × (List Int) × Unit) (fun (p188 : Int × (List Int) × Unit) next166 => match p188 with | (i160, xs161, _) => bcase (decide (i160 < 4)) (((0 ≤ i160 ∧ i160 < (r134.length : Int)) ∧ ((0 ≤ (wrap .i64 ((wrap .i64 (i111 * 4)) + i160)) ∧ (wrap .i64 ((wrap .i64 (i111 * 4)) + i160)) < (xs161.length : Int)) ∧ next166 ((wrap .i64 (i160 + 1)), (List.set xs161 ((wrap .i64 ((wrap .i64 (i111 * 4)) + i160)).toNat) (rd r134 i160)), ())))) (next117 ((wrap .i64 (i111 + 1)), xs161, ()))) (0, xs112, ()))))) (next117 ((wrap .i64 (i111 + 1)), xs112, ())))) (Q xs112)) (0, (([] : List Int) ++ s1.Regs), ())))
def wp.qd5 (xs0 : List D.Ins) (s1 : D.Warp) (Q : D.Warp → Prop) : Prop :=
 (M.qef s1 ∧ ∀ r25, r25 = M.qbQ s1 → ((0 ≤ (wrap .i64 ((s1.Frames.length : Int) - 1)) ∧ (wrap .i64 ((s1.Frames.length : Int) - 1)) < (s1.Frames.length : Int)) ∧ ((0 ≤ (rd s1.Frames (wrap .i64 ((s1.Frames.length : Int) - 1))).Pc ∧ (rd s1.Frames (wrap .i64 ((s1.Frames.length : Int) - 1))).Pc < (xs0.length : Int)) ∧ (M.qel xs0 s1 ∧ ∀ r56, r56 = M.qb9 xs0 s1 → bcase r56 ((M.qdI s1 ((rd xs0 ((rd s1.Frames (wrap .i64 ((s1.Frames.length : Int) - 1))).Pc)).A) ∧ ∀ r61, r61 = M.qaK s1 ((rd xs0 ((rd s1.Frames (wrap .i64 ((s1.Frames.length : Int) - 1))).Pc)).A) → (M.qfU xs0 ((rd s1.Frames (wrap .i64 ((s1.Frames.length : Int) - 1))).Pc) ∧ ∀ r66, r66 = M.qcl xs0 ((rd s1.Frames (wrap .i64 ((s1.Frames.length : Int) - 1))).Pc) → ((0 ≤ (wrap .i64 ((s1.Frames.length : Int) - 1)) ∧ (wrap .i64 ((s1.Frames.length : Int) - 1)) < (r25.Frames.length : Int)) ∧ (((List.set r25.Frames ((wrap .i64 ((s1.Frames.length : Int) - 1)).toNat) (⟨r66, (rd r25.Frames (wrap .i64 ((s1.Frames.length : Int) - 1))).Stop, (rd r25.Frames (wrap .i64 ((s1.Frames.length : Int) - 1))).Mask⟩ : D.Frame)).length + ([(⟨(wrap .i64 ((rd s1.Frames (wrap .i64 ((s1.Frames.length : Int) - 1))).Pc + 1)), r66, (wrap .i64 ((rd s1.Frames (wrap .i64 ((s1.Frames.length : Int) - 1))).Mask - r61))⟩ : D.Frame), (⟨(rd xs0 ((rd s1.Frames (wrap .i64 ((s1.Frames.length : Int) - 1))).Pc)).B, r66, r61⟩ : D.Frame)] : List D.Frame).length ≤ 17179869184) ∧ (M.qcA xs0 (⟨r25.Number, ((List.set r25.Frames ((wrap .i64 ((s1.Frames.length : Int) - 1)).toNat) (⟨r66, (rd r25.Frames (wrap .i64 ((s1.Frames.length : Int) - 1))).Stop, (rd r25.Frames (wrap .i64 ((s1.Frames.length : Int) - 1))).Mask⟩ : D.Frame)) ++ ([(⟨(wrap .i64 ((rd s1.Frames (wrap .i64 ((s1.Frames.length : Int) - 1))).Pc + 1)), r66, (wrap .i64 ((rd s1.Frames (wrap .i64 ((s1.Frames.length : Int) - 1))).Mask - r61))⟩ : D.Frame), (⟨(rd xs0 ((rd s1.Frames (wrap .i64 ((s1.Frames.length : Int) - 1))).Pc)).B, r66, r61⟩ : D.Frame)] : List D.Frame)), r25.Regs⟩ : D.Warp) ∧ ∀ r89, r89 = M.qaD xs0 (⟨r25.Number, ((List.set r25.Frames ((wrap .i64 ((s1.Frames.length : Int) - 1)).toNat) (⟨r66, (rd r25.Frames (wrap .i64 ((s1.Frames.length : Int) - 1))).Stop, (rd r25.Frames (wrap .i64 ((s1.Frames.length : Int) - 1))).Mask⟩ : D.Frame)) ++ ([(⟨(wrap .i64 ((rd s1.Frames (wrap .i64 ((s1.Frames.length : Int) - 1))).Pc + 1)), r66, (wrap .i64 ((rd s1.Frames (wrap .i64 ((s1.Frames.length : Int) - 1))).Mask - r61))⟩ : D.Frame), (⟨(rd xs0 ((rd s1.Frames (wrap .i64 ((s1.Frames.length : Int) - 1))).Pc)).B, r66, r61⟩ : D.Frame)] : List D.Frame)), r25.Regs⟩ : D.Warp) → Q (⟨r89.Number, r89.Frames, r89.Regs⟩ : D.Warp))))))) ((M.qfy xs0 s1 ∧ ∀ r100, r100 = M.qcI xs0 s1 → bcase ((rd xs0 ((rd s1.Frames (wrap .i64 ((s1.Frames.length : Int) - 1))).Pc)).Op == 12) (((0 ≤ (wrap .i64 ((s1.Frames.length : Int) - 1)) ∧ (wrap .i64 ((s1.Frames.length : Int) - 1)) < (r25.Frames.length : Int)) ∧ (M.qcA xs0 (⟨r25.Number, (List.set r25.Frames ((wrap .i64 ((s1.Frames.length : Int) - 1)).toNat) (⟨(xs0.length : Int), (rd r25.Frames (wrap .i64 ((s1.Frames.length : Int) - 1))).Stop, (rd r25.Frames (wrap .i64 ((s1.Frames.length : Int) - 1))).Mask⟩ : D.Frame)), r100⟩ : D.Warp) ∧ ∀ r117, r117 = M.qaD xs0 (⟨r25.Number, (List.set r25.Frames ((wrap .i64 ((s1.Frames.length : Int) - 1)).toNat) (⟨(xs0.length : Int), (rd r25.Frames (wrap .i64 ((s1.Frames.length : Int) - 1))).Stop, (rd r25.Frames (wrap .i64 ((s1.Frames.length : Int) - 1))).Mask⟩ : D.Frame)), r100⟩ : D.Warp) → Q (⟨r117.Number, r117.Frames, r117.Regs⟩ : D.Warp)))) (bcase ((rd xs0 ((rd s1.Frames (wrap .i64 ((s1.Frames.length : Int) - 1))).Pc)).Op == 11) (((0 ≤ (wrap .i64 ((s1.Frames.length : Int) - 1)) ∧ (wrap .i64 ((s1.Frames.length : Int) - 1)) < (r25.Frames.length : Int)) ∧ (M.qcA xs0 (⟨r25.Number, (List.set r25.Frames ((wrap .i64 ((s1.Frames.length : Int) - 1)).toNat) (⟨(rd xs0 ((rd s1.Frames (wrap .i64 ((s1.Frames.length : Int) - 1))).Pc)).B, (rd r25.Frames (wrap .i64 ((s1.Frames.length : Int) - 1))).Stop, (rd r25.Frames (wrap .i64 ((s1.Frames.length : Int) - 1))).Mask⟩ : D.Frame)), r100⟩ : D.Warp) ∧ ∀ r136, r136 = M.qaD xs0 (⟨r25.Number, (List.set r25.Frames ((wrap .i64 ((s1.Frames.length : Int) - 1)).toNat) (⟨(rd xs0 ((rd s1.Frames (wrap .i64 ((s1.Frames.length : Int) - 1))).Pc)).B, (rd r25.Frames (wrap .i64 ((s1.Frames.length : Int) - 1))).Stop, (rd r25.Frames (wrap .i64 ((s1.Frames.length : Int) - 1))).Mask⟩ : D.Frame)), r100⟩ : D.Warp) → Q (⟨r136.Number, r136.Frames, r136.Regs⟩ : D.Warp)))) (((0 ≤ (wrap .i64 ((s1.Frames.length : Int) - 1)) ∧ (wrap .i64 ((s1.Frames.length : Int) - 1)) < (r25.Frames.length : Int)) ∧ qf3 (σ := Bool × Unit) (fun J156 => bcase ((rd xs0 ((rd s1.Frames (wrap .i64 ((s1.Frames.length : Int) - 1))).Pc)).Op == 10) ((M.qdI s1 ((rd xs0 ((rd s1.Frames (wrap .i64 ((s1.Frames.length : Int) - 1))).Pc)).A) ∧ ∀ r160, r160 = M.qaK s1 ((rd xs0 ((rd s1.Frames (wrap .i64 ((s1.Frames.length : Int) - 1))).Pc)).A) → J156 ((r160 == (rd s1.Frames (wrap .i64 ((s1.Frames.length : Int) - 1))).Mask), ()))) (J156 (false, ()))) (fun (p198 : Bool × Unit) => match p198 with | (b155, _) => bcase b155 (((0 ≤ (wrap .i64 ((s1.Frames.length : Int) - 1)) ∧ (wrap .i64 ((s1.Frames.length : Int) - 1)) < ((List.set r25.Frames ((wrap .i64 ((s1.Frames.length : Int) - 1)).toNat) (⟨(wrap .i64 ((rd s1.Frames (wrap .i64 ((s1.Frames.length : Int) - 1))).Pc + 1)), (rd r25.Frames (wrap .i64 ((s1.Frames.length : Int) - 1))).Stop, (rd r25.Frames (wrap .i64 ((s1.Frames.length : Int) - 1))).Mask⟩ : D.Frame)).length : Int)) ∧ (M.qcA xs0 (⟨r25.Number, (List.set r25.Frames ((wrap .i64 ((s1.Frames.length : Int) - 1)).toNat) (⟨(rd xs0 ((rd s1.Frames (wrap .i64 ((s1.Frames.length : Int) - 1))).Pc)).B, (rd r25.Frames (wrap .i64 ((s1.Frames.length : Int) - 1))).Stop, (rd r25.Frames (wrap .i64 ((s1.Frames.length : Int) - 1))).Mask⟩ : D.Frame)), r100⟩ : D.Warp) ∧ ∀ r175, r175 = M.qaD xs0 (⟨r25.Number, (List.set r25.Frames ((wrap .i64 ((s1.Frames.length : Int) - 1)).toNat) (⟨(rd xs0 ((rd s1.Frames (wrap .i64 ((s1.Frames.length : Int) - 1))).Pc)).B, (rd r25.Frames (wrap .i64 ((s1.Frames.length : Int) - 1))).Stop, (rd r25.Frames (wrap .i64 ((s1.Frames.length : Int) - 1))).Mask⟩ : D.Frame)), r100⟩ : D.Warp) → Q (⟨r175.Number, r175.Frames, r175.Regs⟩ : D.Warp)))) ((M.qcA xs0 (⟨r25.Number, (List.set r25.Frames ((wrap .i64 ((s1.Frames.length : Int) - 1)).toNat) (⟨(wrap .i64 ((rd s1.Frames (wrap .i64 ((s1.Frames.length : Int) - 1))).Pc + 1)), (rd r25.Frames (wrap .i64 ((s1.Frames.length : Int) - 1))).Stop, (rd r25.Frames (wrap .i64 ((s1.Frames.length : Int) - 1))).Mask⟩ : D.Frame)), r100⟩ : D.Warp) ∧ ∀ r186, r186 = M.qaD xs0 (⟨r25.Number, (List.set r25.Frames ((wrap .i64 ((s1.Frames.length : Int) - 1)).toNat) (⟨(wrap .i64 ((rd s1.Frames (wrap .i64 ((s1.Frames.length : Int) - 1))).Pc + 1)), (rd r25.Frames (wrap .i64 ((s1.Frames.length : Int) - 1))).Stop, (rd r25.Frames (wrap .i64 ((s1.Frames.length : Int) - 1))).Mask⟩ : D.Frame)), r100⟩ : D.Warp) → Q (⟨r186.Number, r186.Frames, r186.Regs⟩ : D.Warp)))))))))))))
end Go.V
namespace Go.V
open IntKind (wrap)
theorem qih {p : List D.Ins} {k later : Int} (h : M.Node p k) : M.qdj p k later = true ↔ ¬ Rch p later [k] (p.length : Int) := by
 have hn : M.qdN p (p.length : Int) := ⟨by omega, by omega⟩
 have := qeu (wo := later) h.1 (fun x hx => by obtain rfl := List.mem_singleton.1 hx; exact h.2) hn
 unfold M.qdj
 rw [← this]
 cases rd (M.reached p [k] later) (p.length : Int) <;> simp
theorem qjL {p : List D.Ins} {all : List Int} : ∀ (l : List Int), (∃ x ∈ l, all.all (M.qdj p x) = true) → M.qgL p all l ∈ l ∧ all.all (M.qdj p (M.qgL p all l)) = true
 | [], h => by obtain ⟨x, hx, _⟩ := h; cases hx
 | y :: l, h => by
  by_cases hy : all.all (M.qdj p y) = true
  ·simp only [M.qgL, hy, if_true]; exact ⟨List.mem_cons_self, trivial⟩
  ·have : ∃ x ∈ l, all.all (M.qdj p x) = true := by
     obtain ⟨x, hx, hg⟩ := h
     rcases List.mem_cons.1 hx with rfl | hx
     ·exact absurd hg hy
     ·exact ⟨x, hx, hg⟩
   have ih := qjL l this
   simp only [M.qgL, hy]
   exact ⟨List.mem_cons_of_mem _ ih.1, ih.2⟩
theorem qmK {p : List D.Ins} {y b : Int} {v : Int} (h : Rch p y [b] v) {x : Int} (hx : Rch p y [v] x) : Rch p y [b] x := by
 induction hx with
 | base hs hne => obtain rfl := List.mem_singleton.1 hs; exact h
 | step _ hs hne ih => exact .step ih hs hne
theorem qne {p : List D.Ins} {b : Int} (hb : M.Node p b) (hbn : b ≠ (p.length : Int)) (he : M.qeV p b = true) : M.qhl p b ∈ M.others (M.qci p b) b := by
 have hn : M.qdN p (p.length : Int) := ⟨by omega, by omega⟩
 have hR := (qeu hb.1 (fun x hx => by obtain rfl := List.mem_singleton.1 hx; exact hb.2) hn).1 he
 have hmem : ∀ x, M.qdN p x → x ≠ b → M.qdj p b x = true → x ∈ M.others (M.qci p b) b := by
  intro x hx hxb ha
  unfold M.others M.qci
  rw [if_pos (by simp only [Bool.and_eq_true]; exact ⟨qeB.2 hb, he⟩)]
  refine List.mem_filter.2 ⟨qjc.2 ⟨x.toNat, by unfold M.qdN at hx; omega, by unfold M.qdN at hx; omega, ha⟩, by simpa using hxb⟩
 refine (qjL _ ?_).1
 have good : ∀ x ∈ M.others (M.qci p b) b, ∀ v, (∀ y ∈ M.others (M.qci p b) b, Rch p y [b] v) → x ∈ M.qe6 p v → (M.others (M.qci p b) b).all (M.qdj p x) = true := by
  intro x hx v hv hvx
  rw [List.all_eq_true]
  intro y hy
  obtain ⟨hxN, _, _, _⟩ := qfO hx
  obtain ⟨hyN, _, _, hya⟩ := qfO hy
  rw [qih hxN]
  intro hr
  refine (qih hb).1 hya ?_
  have hxy : x ≠ y := by
   rintro rfl
   have : ∀ z, Rch p x [x] z → False := fun z hz => by
    induction hz with
    | base hs hne => exact hne (List.mem_singleton.1 hs)
    | step _ _ _ ih => exact ih
   exact this _ hr
  exact qmK (.step (hv y hy) hvx hxy) hr
 have hbL : ∀ y ∈ M.others (M.qci p b) b, b ≠ y := fun y hy e => by
  have := (List.mem_filter.1 hy).2
  simp [e] at this
 have key : ∀ v, Rch p (-1) [b] v → (∃ x ∈ M.others (M.qci p b) b, (M.others (M.qci p b) b).all (M.qdj p x) = true) ∨ (v ∉ M.others (M.qci p b) b ∧ ∀ y ∈ M.others (M.qci p b) b, Rch p y [b] v) := by
  intro v hv
  induction hv with
  | base hs hne =>
   obtain rfl := List.mem_singleton.1 hs
   exact .inr ⟨fun h => hbL _ h rfl, fun y hy => .base (List.mem_singleton.2 rfl) (hbL y hy)⟩
  | @step k s _ hs hne ih =>
   rcases ih with ih | ⟨_, ih⟩
   ·exact .inl ih
   ·by_cases hsL : s ∈ M.others (M.qci p b) b
    ·exact .inl ⟨s, hsL, good s hsL k ih hs⟩
    ·exact .inr ⟨hsL, fun y hy => .step (ih y hy) hs (fun e => hsL (e ▸ hy))⟩
 rcases key _ hR with h | ⟨h, _⟩
 ·exact h
 ·refine absurd (hmem _ hn (Ne.symm hbn) ((qih hb).2 fun hr => ?_)) h
  have : ∀ z, Rch p (p.length : Int) [b] z → z ≠ (p.length : Int) := fun z hz => by
   cases hz with
   | base _ hne => exact hne
   | step _ _ hne => exact hne
  exact this _ hr rfl
theorem qnJ {p : List D.Ins} {b : Int} (h : M.Branch p b) : M.qdN p (M.qgF p b) := by
 obtain ⟨h1, h2, hb, _⟩ := qnN h
 have hn : M.qdN p (p.length : Int) := ⟨by omega, by omega⟩
 unfold M.qgF
 split
 ·rename_i e
  simp only [Bool.and_eq_true] at e
  have hx1 := (qeu hb.1 (fun x hx => by obtain rfl := List.mem_singleton.1 hx; exact h1.2) hn).1 e.1
  have hbr := h.2.2.2
  simp only [M.isBr, Bool.and_eq_true, beq_iff_eq, bne_iff_ne] at hbr
  have hnx : b + 1 ∈ M.qe6 p b := by
   unfold M.qe6
   have := h.2.2.1
   rw [if_neg (by omega), if_neg (by omega), if_neg (by omega), if_pos hbr.1]
   exact qif.2 (.inl rfl)
  have he : M.qeV p b = true := by
   refine (qeu hb.1 (fun x hx => by obtain rfl := List.mem_singleton.1 hx; exact hb.2) hn).2 ?_
   have hb0 := h.2.1
   exact qmK (b := b) (y := -1) (.step (.base (List.mem_singleton.2 rfl) (by omega)) hnx (by omega)) hx1
  exact (qfO (qne hb (by have := h.2.2.1; omega) he)).1.2
 ·exact hn
theorem qmj : ((List.range 256).all fun m => (List.range 256).all fun z => !(m &&& z == z) || (m &&& (2 ^ 64 - 1 - z) == m - z)) = true := by kernel_rfl
theorem qlT : ((List.range 256).all fun m => (List.range 8).all fun l => !(M.qd9 ((m : Nat) : Int) ((l : Nat) : Int)) || (m &&& 2 ^ l == 2 ^ l)) = true := by kernel_rfl
theorem qms : ((List.range 8).all fun l => M.qiR ((l : Nat) : Int) == ((2 ^ l : Nat) : Int)) = true := by kernel_rfl
theorem qmb {a b : Nat} (ha : a < 256) (hb : b < 256) : qgs .i64 ((a : Nat) : Int) ((b : Nat) : Int) = ((a ||| b : Nat) : Int) := by
 have hlt : a ||| b < 256 := Nat.or_lt_two_pow (n := 8) ha hb
 have e : (BitVec.ofInt (IntKind.bits .i64) ((a : Nat) : Int) ||| BitVec.ofInt (IntKind.bits .i64) ((b : Nat) : Int)).toNat = a ||| b := by
  show (BitVec.ofInt 64 ((a : Nat) : Int) ||| BitVec.ofInt 64 ((b : Nat) : Int)).toNat = a ||| b
  rw [BitVec.ofInt_natCast, BitVec.ofInt_natCast, BitVec.toNat_or, BitVec.toNat_ofNat, BitVec.toNat_ofNat, Nat.mod_eq_of_lt (by omega), Nat.mod_eq_of_lt (by omega)]
 unfold qgs
 rw [e]
 exact w64 (by omega) (by omega)
theorem qm1 {a b : Nat} (ha : a < 256) (hb : b < 256) (hs : a &&& b = b) : qeE .i64 ((a : Nat) : Int) ((b : Nat) : Int) = ((a - b : Nat) : Int) := by
 have hc := List.all_eq_true.1 (List.all_eq_true.1 qmj a (List.mem_range.2 ha)) b (List.mem_range.2 hb)
 simp only [hs, BEq.rfl, Bool.not_true, Bool.false_or, beq_iff_eq] at hc
 have e : (BitVec.ofInt (IntKind.bits .i64) ((a : Nat) : Int) &&& ~~~(BitVec.ofInt (IntKind.bits .i64) ((b : Nat) : Int))).toNat = a - b := by
  show (BitVec.ofInt 64 ((a : Nat) : Int) &&& ~~~(BitVec.ofInt 64 ((b : Nat) : Int))).toNat = a - b
  rw [BitVec.ofInt_natCast, BitVec.ofInt_natCast, BitVec.toNat_and, BitVec.toNat_not, BitVec.toNat_ofNat, BitVec.toNat_ofNat, Nat.mod_eq_of_lt (by omega), Nat.mod_eq_of_lt (by omega)]
  exact hc
 unfold qeE
 rw [e]
 exact w64 (by omega) (by omega)
theorem qm4 {m : Int} (h : M.qfp m = true) : ∃ k : Nat, m = (k : Int) ∧ k < 256 := by
 simp only [M.qfp, M.isIn, Bool.and_eq_true, decide_eq_true_eq] at h
 exact ⟨m.toNat, by omega, by omega⟩
theorem qiV {x : D.Warp} {reg : Int} {m : Nat} (hm : m < 256) : ∀ (l : List Int), (∀ k ∈ l, k ∈ M.qeX (m : Int)) → ∀ z : Nat, z < 256 → m &&& z = z → ∃ z' : Nat, l.foldl (M.qec x reg) (z : Int) = (z' : Int) ∧ z' < 256 ∧ m &&& z' = z'
 | [], _, z, hz, hs => ⟨z, rfl, hz, hs⟩
 | k :: l, hl, z, hz, hs => by
  have hk := hl k List.mem_cons_self
  have hrest := fun j hj => hl j (List.mem_cons_of_mem _ hj)
  simp only [List.foldl_cons]
  by_cases e : rd x.Regs (k * 4 + reg) = 0
  ·obtain ⟨h0, h7⟩ := qit hk
   have hkn : ((k.toNat : Nat) : Int) = k := by omega
   have hh : M.qd9 (m : Int) k = true := (List.mem_filter.1 hk).2
   have hc := List.all_eq_true.1 (List.all_eq_true.1 qlT m (List.mem_range.2 hm)) k.toNat (List.mem_range.2 (by omega))
   rw [hkn, hh] at hc
   simp only [Bool.not_true, Bool.false_or, beq_iff_eq] at hc
   have hb := List.all_eq_true.1 qms k.toNat (List.mem_range.2 (by omega))
   rw [hkn] at hb
   have hb := eq_of_beq hb
   have hp : 2 ^ k.toNat < 256 := Nat.lt_of_lt_of_le (Nat.pow_lt_pow_right (by omega) (show k.toNat < 8 by omega)) (Nat.le_refl _)
   have hst : M.qec x reg (z : Int) k = ((z ||| 2 ^ k.toNat : Nat) : Int) := by
    unfold M.qec
    rw [if_pos e, hb, qmb hz hp]
   rw [hst]
   exact qiV hm l hrest _ (Nat.or_lt_two_pow (n := 8) hz hp) (by rw [Nat.and_or_distrib_left, hs, hc])
  ·have hst : M.qec x reg (z : Int) k = (z : Int) := by unfold M.qec; rw [if_neg e]
   rw [hst]
   exact qiV hm l hrest z hz hs
theorem qkK {x : D.Warp} {reg : Int} (h : M.qfp (M.qb3 x) = true) : ∃ m z : Nat, M.qb3 x = (m : Int) ∧ M.qch x reg = (z : Int) ∧ m < 256 ∧ z < 256 ∧ m &&& z = z := by
 obtain ⟨m, hm, hlt⟩ := qm4 h
 obtain ⟨z, hz, hzl, hs⟩ := qiV (x := x) (reg := reg) hlt (M.qeX (m : Int)) (fun _ hk => hk) 0 (by omega) (by simp)
 refine ⟨m, z, hm, ?_, hlt, hzl, hs⟩
 unfold M.qch
 rw [hm]
 exact hz
theorem qkO {x : D.Warp} {reg : Int} (h : M.qfp (M.qb3 x) = true) :
    M.qfp (M.qch x reg) = true ∧ qeE .i64 (M.qb3 x) (M.qch x reg) = M.qb3 x - M.qch x reg ∧ M.qfp (M.qb3 x - M.qch x reg) = true := by
 obtain ⟨m, z, hm, hz, h1, h2, hs⟩ := qkK (reg := reg) h
 have hle : z ≤ m := by rw [← hs]; exact Nat.and_le_left
 rw [hm, hz, qm1 h1 h2 hs]
 refine ⟨?_, by omega, ?_⟩ <;> (simp only [M.qfp, M.isIn, Bool.and_eq_true, decide_eq_true_eq]; omega)
end Go.V
namespace Go.V
open IntKind (wrap)
theorem qka {α : Type} [Inhabited α] {l : List α} {k m : Nat} (h : k < m) : rd (l.take m) (k : Int) = rd l (k : Int) := by
 unfold rd
 rw [List.getD_eq_getElem?_getD, List.getD_eq_getElem?_getD, List.getElem?_take, if_pos (by simpa using h)]
theorem qjz {α : Type} {l : List α} {k m : Nat} (h : k ≤ m) : (l.take m).take k = l.take k := by rw [List.take_take, Nat.min_eq_left h]
theorem wp.qbl.math (x : D.Warp) (n : Int) (h : M.qdU x n) : wp.qbl x n (fun r => r = M.qbl x n) := by
 unfold wp.qbl
 have hL : x.Frames.length ≤ 9223372036854775807 := h
 refine qd2 x.Frames.length (fun j => (x.Number, x.Frames.take (x.Frames.length - j), ())) (fun j => M.qkX x.Frames n = M.qiC x.Frames n (x.Frames.length - j)) (by simp) (by simp [M.qkX]) (fun j hj hF next hn => ?_) (fun hF next => ?_)
 ·obtain ⟨m, hm⟩ : ∃ m, x.Frames.length - j = m + 1 := ⟨x.Frames.length - j - 1, by omega⟩
  have hm1 : x.Frames.length - (j + 1) = m := by omega
  rw [hm1] at hn
  rw [hm] at hF
  dsimp only
  rw [hm]
  have hl : (x.Frames.take (m + 1)).length = m + 1 := by rw [List.length_take]; omega
  rw [hl, qdc (by omega), show (((m + 1 : Nat) : Int) - 1) = (m : Int) by omega, qka (Nat.lt_succ_self m), qjz (by omega)]
  refine qaA (by simp) ⟨by omega, ?_⟩
  show bcase _ (bcase _ _ _) _
  have go : ¬ ((rd x.Frames (m : Int)).Pc ≠ (rd x.Frames (m : Int)).Stop ∧ (rd x.Frames (m : Int)).Pc ≠ n) → next (x.Number, x.Frames.take m, ()) := fun hc => hn (by rw [hF]; simp only [M.qiC]; rw [if_neg hc])
  refine qa2 (fun e1 => qa2 (fun e2 => ?_) fun e2 => ?_) fun e1 => ?_
  ·simp only [M.qiC] at hF
   rw [if_pos ⟨by simpa using e1, by simpa using e2⟩] at hF
   show _ = M.qga x n
   unfold M.qga
   rw [hF]
  ·have := go (fun hc => hc.2 (by simpa using e2))
   exact ⟨by omega, this⟩
  ·have := go (fun hc => hc.1 (by simpa using e1))
   exact ⟨by omega, this⟩
 ·rw [Nat.sub_self] at hF
  dsimp only
  rw [Nat.sub_self, List.take_zero]
  refine qax (by simp) ?_
  show _ = M.qga x n
  unfold M.qga
  rw [hF]; rfl
theorem wp.qaD.math (p : List D.Ins) (x : D.Warp) (h : M.qcA p x) : wp.qaD p x (fun r => r = M.qaD p x) := by
 unfold wp.qaD
 have hL : x.Frames.length ≤ 17179869184 := h.1
 refine ⟨h, fun r hr => ?_⟩
 have hr : r = x := hr
 subst hr
 rw [qdc (by omega)]
 refine qd2 r.Frames.length (fun j => ((r.Frames.length : Int) - 1 - (j : Int), r.Number, r.Frames.take (r.Frames.length - j), ())) (fun j => M.qkX r.Frames p.length = M.qiC r.Frames p.length (r.Frames.length - j)) (by simp) (by simp [M.qkX]) (fun j hj hF next hn => ?_) (fun hF next => ?_)
 ·obtain ⟨m, hm⟩ : ∃ m, r.Frames.length - j = m + 1 := ⟨r.Frames.length - j - 1, by omega⟩
  have hm1 : r.Frames.length - (j + 1) = m := by omega
  rw [hm1] at hn
  rw [hm] at hF
  dsimp only
  rw [hm, show ((r.Frames.length : Int) - 1 - (j : Int)) = (m : Int) by omega]
  rw [show ((r.Frames.length : Int) - 1 - ((j + 1 : Nat) : Int)) = wrap .i64 ((m : Int) - 1) by rw [w64 (by omega) (by omega)]; omega] at hn
  have hl : (r.Frames.take (m + 1)).length = m + 1 := by rw [List.length_take]; omega
  rw [hl, qka (Nat.lt_succ_self m), Int.toNat_natCast, qjz (by omega)]
  have go : ¬ ((rd r.Frames (m : Int)).Pc ≠ (rd r.Frames (m : Int)).Stop ∧ (rd r.Frames (m : Int)).Pc ≠ (p.length : Int)) → next (wrap .i64 ((m : Int) - 1), r.Number, r.Frames.take m, ()) := fun hc => hn (by rw [hF]; simp only [M.qiC]; rw [if_neg hc])
  refine qaA (by simp) ⟨by omega, ?_⟩
  refine qa2 (fun e1 => qa2 (fun e2 => ?_) fun e2 => ?_) fun e1 => ?_
  ·simp only [M.qiC] at hF
   rw [if_pos ⟨by simpa using e1, by simpa using e2⟩] at hF
   show _ = M.qga r p.length
   unfold M.qga
   rw [hF]
  ·exact ⟨by omega, go (fun hc => hc.2 (by simpa using e2))⟩
  ·exact ⟨by omega, go (fun hc => hc.1 (by simpa using e1))⟩
 ·rw [Nat.sub_self] at hF
  dsimp only
  rw [Nat.sub_self, List.take_zero]
  refine qax (by simp; omega) ?_
  show _ = M.qga r p.length
  unfold M.qga
  rw [hF]; rfl
theorem qnR {α : Type} {xs : List α} {lo hi k : Nat} {y : α} (h1 : lo ≤ hi) (h2 : hi ≤ xs.length) (hk : k < hi - lo) : xs.set (lo + k) y = xs.take lo ++ ((xs.take hi).drop lo).set k y ++ xs.drop hi := by
 apply List.ext_getElem?
 intro i
 have hl : (((xs.take hi).drop lo).set k y).length = hi - lo := by simp; omega
 rw [List.getElem?_append, List.length_append, hl, List.length_take, Nat.min_eq_left (by omega), List.getElem?_append, List.length_take, Nat.min_eq_left (by omega)]
 by_cases hi1 : i < lo
 ·rw [if_pos (by omega), if_pos hi1, List.getElem?_set_ne (by omega), List.getElem?_take, if_pos hi1]
 ·by_cases hi2 : i < hi
  ·rw [if_pos (by omega), if_neg hi1]
   by_cases e : lo + k = i
   ·subst e
    rw [List.getElem?_set_self (by omega), show lo + k - lo = k by omega, List.getElem?_set_self (by simp; omega)]
   ·rw [List.getElem?_set_ne e, List.getElem?_set_ne (by omega), List.getElem?_drop, List.getElem?_take, if_pos (by omega)]
    congr 1; omega
  ·rw [if_neg (by omega), List.getElem?_set_ne (by omega), List.getElem?_drop]
   congr 1; omega
theorem qn0 {α : Type} {xs : List α} {lo hi : Nat} (h1 : lo ≤ hi) (h2 : hi ≤ xs.length) : xs.take lo ++ (xs.take hi).drop lo ++ xs.drop hi = xs := by
 apply List.ext_getElem?
 intro i
 have hl : ((xs.take hi).drop lo).length = hi - lo := by simp; omega
 rw [List.getElem?_append, List.length_append, hl, List.length_take, Nat.min_eq_left (by omega), List.getElem?_append, List.length_take, Nat.min_eq_left (by omega)]
 by_cases hi1 : i < lo
 ·rw [if_pos (by omega), if_pos hi1, List.getElem?_take, if_pos hi1]
 ·by_cases hi2 : i < hi
  ·rw [if_pos (by omega), if_neg hi1, List.getElem?_drop, List.getElem?_take, if_pos (by omega)]
   congr 1; omega
  ·rw [if_neg (by omega), List.getElem?_drop]
   congr 1; omega
theorem wp.qaZ.math (i : D.Ins) (t : Int) (xs : List Int) (lo hi : Nat) (h : M.qg4 i t xs lo hi) : wp.qaZ i t xs lo hi (fun x => x = M.qaZ i t xs lo hi) := by
 obtain ⟨hf, h1, h2⟩ := h
 obtain ⟨hl, hA, hB, hC⟩ := qja hf
 have hl4 : hi - lo = 4 := by rw [← hl]; simp; omega
 have st : ∀ y, (0 ≤ i.A ∧ i.A ≤ 3) → xs.set (lo + i.A.toNat) y = xs.take lo ++ ((xs.take hi).drop lo).set i.A.toNat y ++ xs.drop hi := fun y ha => qnR h1 h2 (by omega)
 have sf := qn0 h1 h2
 generalize hr : (xs.take hi).drop lo = r at *
 unfold wp.qaZ
 simp only [hr, forall_eq]
 refine qa2 (fun e => ?_) fun n1 => qa2 (fun e => ?_) fun n2 => qa2 (fun e => ?_) fun n3 => qa2 (fun e => ?_) fun n4 => qa2 (fun e => ?_) fun n5 => qa2 (fun e => ?_) fun n6 => qa2 (fun e => ?_) fun n7 => qa2 (fun e => ?_) fun n8 => qa2 (fun e => ?_) fun n9 => ?_
 ·have hk : i.Op = 1 := by simpa using e
  exact ⟨qcO hl (hA (by omega)), by rw [st _ (hA (by omega))]; simp [M.qaZ, M.apply, hk, hr]⟩
 ·have hk : i.Op = 2 := by simpa using e
  exact ⟨qcO hl (hB (by omega)), qcO hl (hA (by omega)), by rw [st _ (hA (by omega))]; simp [M.qaZ, M.apply, hk, hr]⟩
 ·have hk : i.Op = 3 := by simpa using e
  exact ⟨qcO hl (hB (by omega)), qcO hl (hC (by omega)), qcO hl (hA (by omega)), by rw [st _ (hA (by omega))]; simp [M.qaZ, M.apply, hk, hr, M.qbi, M.qbE]⟩
 ·have hk : i.Op = 4 := by simpa using e
  exact ⟨qcO hl (hB (by omega)), qcO hl (hC (by omega)), qcO hl (hA (by omega)), by rw [st _ (hA (by omega))]; simp [M.qaZ, M.apply, hk, hr, M.qbL, M.qcc]⟩
 ·have hk : i.Op = 5 := by simpa using e
  exact ⟨qcO hl (hB (by omega)), qcO hl (hC (by omega)), qcO hl (hA (by omega)), by rw [st _ (hA (by omega))]; simp [M.qaZ, M.apply, hk, hr, M.qbH, M.qcd]⟩
 ·have hk : i.Op = 6 := by simpa using e
  exact ⟨qcO hl (hB (by omega)), qcO hl (hC (by omega)), qcO hl (hA (by omega)), by rw [st _ (hA (by omega))]; simp [M.qaZ, M.apply, hk, hr]⟩
 ·have hk : i.Op = 7 := by simpa using e
  exact ⟨qcO hl (hB (by omega)), qcO hl (hC (by omega)), qcO hl (hA (by omega)), by rw [st _ (hA (by omega))]; simp [M.qaZ, M.apply, hk, hr, M.qb6, M.qbW]⟩
 ·have hk : i.Op = 8 := by simpa using e
  exact ⟨qcO hl (hA (by omega)), by rw [st _ (hA (by omega))]; simp [M.qaZ, M.apply, hk, hr]⟩
 ·have hk : i.Op = 9 := by simpa using e
  refine ⟨qcO hl (hC (by omega)), qa2 (fun e2 => ⟨qcO hl (hB (by omega)), qcO hl (hA (by omega)), ?_⟩) fun e2 => ?_⟩
  ·have h2 : ¬ rd r i.C = 0 := by simpa using e2
   rw [st _ (hA (by omega))]
   simp [M.qaZ, M.apply, hk, h2, hr]
  ·have h2 : rd r i.C = 0 := by simpa using e2
   simp only [M.qaZ, M.apply, hk, h2, hr]
   simpa using sf.symm
 ·simp at n1 n2 n3 n4 n5 n6 n7 n8 n9
  simp only [M.qaZ, M.apply, n1, n2, n3, n4, n5, n6, n7, n8, n9, hr, if_false]
  exact sf.symm
end Go.V
namespace Go.V
open IntKind (wrap)
theorem qeW {r : List Int} {l : Nat} (h : r.length = 32) (hl : l < 8) : (M.qen r l).length = 4 := by unfold M.qen; simp; omega
theorem qjf {r x : List Int} {l : Nat} (h : r.length = 32) (hl : l < 8) (hx : x.length = 4) : (M.qfa r l x).length = 32 := by unfold M.qfa; simp; omega
theorem qiU {r x : List Int} {l : Nat} (h : r.length = 32) (hl : l < 8) (hx : x.length = 4) (i : Nat) : (M.qfa r l x)[i]? = if l * 4 ≤ i ∧ i < l * 4 + 4 then x[i - l * 4]? else r[i]? := by
 unfold M.qfa
 rw [List.getElem?_append, List.length_append, List.length_take, Nat.min_eq_left (by omega), hx, List.getElem?_append, List.length_take, Nat.min_eq_left (by omega)]
 by_cases h1 : i < l * 4
 ·rw [if_pos (by omega), if_pos h1, if_neg (by omega), List.getElem?_take, if_pos h1]
 ·by_cases h2 : i < l * 4 + 4
  ·rw [if_pos h2, if_neg h1, if_pos (by omega)]
  ·rw [if_neg h2, if_neg (by omega), List.getElem?_drop]
   congr 1; omega
theorem qhq (r : List Int) (l i : Nat) : (M.qen r l)[i]? = if i < 4 then r[l * 4 + i]? else none := by
 unfold M.qen
 rw [List.getElem?_drop, List.getElem?_take]
 by_cases h : i < 4
 ·rw [if_pos h, if_pos (by omega)]
 ·rw [if_neg h, if_neg (by omega)]
theorem qkb {r x : List Int} {l j : Nat} (h : r.length = 32) (hl : l < 8) (hx : x.length = 4) (hne : j ≠ l) : M.qen (M.qfa r l x) j = M.qen r j := by
 apply List.ext_getElem?
 intro i
 rw [qhq, qhq]
 by_cases hi : i < 4
 ·rw [if_pos hi, if_pos hi, qiU h hl hx, if_neg (by omega)]
 ·rw [if_neg hi, if_neg hi]
theorem qnc {r : List Int} {l : Nat} (h : r.length = 32) (hl : l < 8) : M.qfa r l (M.qen r l) = r := by
 apply List.ext_getElem?
 intro i
 rw [qiU h hl (qeW h hl)]
 by_cases hi : l * 4 ≤ i ∧ i < l * 4 + 4
 ·rw [if_pos hi, qhq, if_pos (by omega)]
  congr 1; omega
 ·rw [if_neg hi]
theorem qgZ {i : D.Ins} {num m : Int} {r : List Int} (h : r.length = 32) : ∀ k, k ≤ 8 → (M.qfl i num m r k).length = 32
 | 0, _ => h
 | k + 1, hk => by
  have ih := qgZ (i := i) (num := num) (m := m) h k (by omega)
  simp only [M.qfl]
  split
  ·exact qjf ih (by omega) (by rw [qhO, qeW h (by omega)])
  ·exact ih
theorem qiJ {i : D.Ins} {num m : Int} {r : List Int} (h : r.length = 32) : ∀ k, k ≤ 8 → ∀ j, k ≤ j → M.qen (M.qfl i num m r k) j = M.qen r j
 | 0, _, _, _ => rfl
 | k + 1, hk, j, hj => by
  have ih := qiJ (i := i) (num := num) (m := m) h k (by omega) j (by omega)
  simp only [M.qfl]
  split
  ·rw [qkb (qgZ h k (by omega)) (by omega) (by rw [qhO, qeW h (by omega)]) (by omega), ih]
  ·exact ih
def ql2 (i : D.Ins) (num : Int) (acc : List Int) (l : Int) : List Int := M.qaZ i (num * 8 + l) acc (l * 4).toNat (l * 4 + 4).toNat
theorem qkz (i : D.Ins) (num : Int) (acc : List Int) (k : Nat) : ql2 i num acc (k : Int) = M.qfa acc k (M.apply i (num * 8 + (k : Int)) (M.qen acc k)) := by
 unfold ql2 M.qaZ M.qfa M.qen
 rw [show ((k : Int) * 4).toNat = k * 4 by omega, show ((k : Int) * 4 + 4).toNat = k * 4 + 4 by omega]
theorem qk7 {i : D.Ins} {num m : Int} {r : List Int} (h : r.length = 32) : M.qg9 i num m r = (M.qeX m).foldl (ql2 i num) r := by
 have key : ∀ k, k ≤ 8 → (List.range k).foldl (fun acc (j : Nat) => if M.qd9 m (j : Int) = true then ql2 i num acc (j : Int) else acc) r = M.qfl i num m r k := by
  intro k
  induction k with
  | zero => intro _; rfl
  | succ k ih =>
   intro hk
   rw [List.range_succ, List.foldl_append, ih (by omega)]
   simp only [List.foldl_cons, List.foldl_nil, M.qfl]
   rw [qkz, qiJ h k (by omega) k (Nat.le_refl _)]
 unfold M.qg9
 rw [← key 8 (Nat.le_refl _)]
 unfold M.qeX
 rw [List.foldl_filter]
 rfl
theorem qlF {i : D.Ins} {num : Int} : ∀ (l : List Int) (r : List Int), r.length = 32 → (∀ k ∈ l, 0 ≤ k ∧ k ≤ 7) → (l.foldl (ql2 i num) r).length = 32
 | [], r, h, _ => h
 | k :: l, r, h, hl => by
  simp only [List.foldl_cons]
  obtain ⟨h0, h7⟩ := hl k List.mem_cons_self
  refine qlF l _ ?_ fun j hj => hl j (List.mem_cons_of_mem _ hj)
  rw [show k = ((k.toNat : Nat) : Int) by omega, qkz]
  exact qjf h (by omega) (by rw [qhO, qeW h (by omega)])
theorem qhb {i : D.Ins} {num m : Int} {r : List Int} (h : r.length = 32) : (M.qg9 i num m r).length = 32 := qgZ h 8 (Nat.le_refl _)
theorem qiD {i : D.Ins} {num m : Int} {r : List Int} (h : r.length = 32) (e : i.Op = 10) : M.qg9 i num m r = r := by
 have ha : ∀ t (q : List Int), M.apply i t q = q := fun t q => by simp [M.apply, e]
 have : ∀ k, k ≤ 8 → M.qfl i num m r k = r := by
  intro k
  induction k with
  | zero => intro _; rfl
  | succ k ih =>
   intro hk
   simp only [M.qfl, ih (by omega), ha, qnc h (show k < 8 by omega), ite_self]
 exact this 8 (Nat.le_refl _)
theorem qmd {r x : List Int} {l : Nat} (h : r.all M.isWord = true) (hx : x.all M.isWord = true) : (M.qfa r l x).all M.isWord = true := by
 rw [List.all_eq_true] at h hx ⊢
 intro y hy
 unfold M.qfa at hy
 rcases List.mem_append.1 hy with hy | hy
 ·rcases List.mem_append.1 hy with hy | hy
  ·exact h y (List.mem_of_mem_take hy)
  ·exact hx y hy
 ·exact h y (List.mem_of_mem_drop hy)
theorem qmk {r : List Int} {l : Nat} (h : r.all M.isWord = true) : (M.qen r l).all M.isWord = true := by
 rw [List.all_eq_true] at h ⊢
 intro y hy
 exact h y (List.mem_of_mem_take (List.mem_of_mem_drop hy))
theorem qhN {i : D.Ins} {n num m : Int} {r : List Int} (hok : M.qdh i n = true) (hn : 0 ≤ num ∧ num ≤ 2) (hl : r.length = 32) (h : r.all M.isWord = true) : ∀ k, k ≤ 8 → (M.qfl i num m r k).all M.isWord = true
 | 0, _ => h
 | k + 1, hk => by
  have ih := qhN (m := m) hok hn hl h k (by omega)
  simp only [M.qfl]
  split
  ·exact qmd ih (qlg hok (by omega) (qeW hl (by omega)) (qmk h))
  ·exact ih
theorem qmf {fs : List D.Frame} (h : fs ≠ []) (pc : Int) : M.qcL (M.qe0 fs pc) = ⟨pc, (M.qcL fs).Stop, (M.qcL fs).Mask⟩ := by
 have hpos : 0 < fs.length := List.length_pos_iff.2 h
 have e : ((fs.length : Int) - 1) = ((fs.length - 1 : Nat) : Int) := by omega
 unfold M.qcL M.qe0
 rw [List.length_set, e, qdO (by rw [List.length_set]; omega), List.getElem_set_self]
 unfold M.qcL
 rw [e]
theorem qkA {fs : List D.Frame} (h : fs ≠ []) : M.qcL fs ∈ fs := by
 have hpos : 0 < fs.length := List.length_pos_iff.2 h
 exact qjr (by omega) (by omega)
theorem qie {fs : List D.Frame} {n pc : Int} (h : fs.all (M.qdY n) = true) (hx : fs ≠ []) (hp : 0 ≤ pc ∧ pc ≤ n) : (M.qe0 fs pc).all (M.qdY n) = true := by
 rw [List.all_eq_true] at h ⊢
 intro f hf
 rcases List.mem_or_eq_of_mem_set hf with hf | rfl
 ·exact h f hf
 ·have := h _ (qkA hx)
  simp only [M.qdY, M.isIn, Bool.and_eq_true, decide_eq_true_eq] at this ⊢
  exact ⟨hp, this.2⟩
theorem qkl (fs : List D.Frame) (n : Int) : ∀ k, k ≤ fs.length → M.qiC fs n k = [] ∨ ∃ j : Nat, 0 < j ∧ j ≤ k ∧ M.qiC fs n k = fs.take j ∧ (rd fs ((j - 1 : Nat) : Int)).Pc ≠ (rd fs ((j - 1 : Nat) : Int)).Stop ∧ (rd fs ((j - 1 : Nat) : Int)).Pc ≠ n
 | 0, _ => .inl rfl
 | k + 1, hk => by
  simp only [M.qiC]
  split
  ·rename_i e
   exact .inr ⟨k + 1, by omega, Nat.le_refl _, rfl, e⟩
  ·rcases qkl fs n k (by omega) with h | ⟨j, h0, h1, h2⟩
   ·exact .inl h
   ·exact .inr ⟨j, h0, by omega, h2⟩
theorem qkM {fs : List D.Frame} {n : Int} (hall : fs.all (M.qdY n) = true) (hl : fs.length ≤ 24) (h0 : fs ≠ [] → (rd fs 0).Stop = n ∧ (rd fs 0).Mask = 255) : M.qdJ (M.qkX fs n) n = true := by
 unfold M.qkX
 rcases qkl fs n fs.length (Nat.le_refl _) with h | ⟨j, hj0, hj1, h2, h3, h4⟩
 ·rw [h]; rfl
 ·rw [h2]
  have hne : fs ≠ [] := by intro e; rw [e] at hj1; simp at hj1; omega
  have hlen : (fs.take j).length = j := by rw [List.length_take]; omega
  have hall' : (fs.take j).all (M.qdY n) = true := by
   rw [List.all_eq_true] at hall ⊢
   exact fun f hf => hall f (List.mem_of_mem_take hf)
  have hlast : M.qcL (fs.take j) = rd fs ((j - 1 : Nat) : Int) := by
   unfold M.qcL
   rw [hlen, show ((j : Int) - 1) = ((j - 1 : Nat) : Int) by omega, qka (by omega)]
  have hz : rd (fs.take j) 0 = rd fs 0 := by
   have := qka (l := fs) (k := 0) (m := j) (by omega)
   exact this
  unfold M.qdJ
  rw [hall', Bool.true_and, Bool.or_eq_true]
  right
  unfold M.qhL
  rw [hlast, hz, hlen]
  obtain ⟨k1, k2⟩ := h0 hne
  simp only [Bool.and_eq_true, decide_eq_true_eq, bne_iff_ne, beq_iff_eq]
  exact ⟨by omega, h3, h4, k1, k2⟩
theorem qhi {fs : List D.Frame} (h : fs ≠ []) (pc : Int) : (rd (M.qe0 fs pc) 0).Stop = (rd fs 0).Stop ∧ (rd (M.qe0 fs pc) 0).Mask = (rd fs 0).Mask := by
 have hpos : 0 < fs.length := List.length_pos_iff.2 h
 have z : (0 : Int) = ((0 : Nat) : Int) := rfl
 by_cases h1 : fs.length = 1
 ·have hl := qmf h pc
  have e1 : M.qcL (M.qe0 fs pc) = rd (M.qe0 fs pc) 0 := by unfold M.qcL M.qe0; rw [List.length_set, h1]; rfl
  have e2 : M.qcL fs = rd fs 0 := by unfold M.qcL; rw [h1]; rfl
  rw [← e1, hl, e2]; exact ⟨rfl, rfl⟩
 ·have e : rd (M.qe0 fs pc) 0 = rd fs 0 := by
    unfold M.qe0 rd
    rw [List.getD_eq_getElem?_getD, List.getD_eq_getElem?_getD, List.getElem?_set_ne (by simp; omega)]
  rw [e]; exact ⟨rfl, rfl⟩
theorem qh0 {p : List D.Ins} {x : D.Warp} (h : M.Runs p x) : x.Frames.all (M.qdY p.length) = true ∧ x.Frames.length ≤ 24 ∧ (rd x.Frames 0).Stop = p.length ∧ (rd x.Frames 0).Mask = 255 ∧ M.qfp (M.qcL x.Frames).Mask = true ∧ x.Regs.all M.isWord = true := by
 obtain ⟨hp, hw, hx⟩ := h
 simp only [M.qfo, M.qdJ, Bool.and_eq_true, Bool.or_eq_true] at hw
 obtain ⟨h1, h2, h3, h4, h5⟩ := hw
 have h5 := h5.resolve_left (by simpa using hx)
 have hf := List.all_eq_true.1 h4 _ (qkA hx)
 simp only [M.qhL, M.qdY, Bool.and_eq_true, decide_eq_true_eq, beq_iff_eq] at h5 hf
 exact ⟨h4, h5.1, h5.2.2.2.1, h5.2.2.2.2, hf.2.2.1, h3⟩
theorem qhc {p : List D.Ins} {x : D.Warp} (h : M.Runs p x) (hs : M.qla p x) : M.Branch p (M.qdq x) := by
 obtain ⟨_, _, _, _, t5, t6, _⟩ := qdF h
 refine ⟨h.1, t5, t6, ?_⟩
 unfold M.isBr
 simp only [Bool.and_eq_true, beq_iff_eq, bne_iff_ne]
 exact hs
theorem qi4 {p : List D.Ins} {x : D.Warp} (h : M.splits p x = true) : M.qla p x ∧ M.qch x (M.qaF p x).A ≠ 0 ∧ M.qch x (M.qaF p x).A ≠ (M.qcL x.Frames).Mask := by
 simp only [M.splits, Bool.and_eq_true, beq_iff_eq, bne_iff_ne] at h
 exact ⟨h.1, h.2.1, h.2.2⟩
theorem qnS {p : List D.Ins} {x : D.Warp} (h : M.Runs p x) : 0 ≤ M.qg5 p x ∧ M.qg5 p x ≤ (p.length : Int) := by
 obtain ⟨_, _, _, _, t5, t6, t7, _⟩ := qdF h
 unfold M.qg5
 split
 ·omega
 ·split
  ·exact qgH t7 (.inr (by assumption))
  ·split
   ·rename_i e; exact qgH t7 (.inl e.1)
   ·omega
theorem qlJ {p : List D.Ins} {x : D.Warp} (h : M.Goes p x) : M.Fine p (M.stepW p x) := by
 obtain ⟨hr, hl⟩ := h
 obtain ⟨t1, t2, t3, t4, t5, t6, t7, t8, t9⟩ := qdF hr
 obtain ⟨f1, f2, f3, f4, f5, f6⟩ := qh0 hr
 have hx := hr.2.2
 refine ⟨hr.1, ?_⟩
 have fin : ∀ (fs : List D.Frame) (rg : List Int), rg.length = 32 → rg.all M.isWord = true → fs.all (M.qdY p.length) = true → fs.length ≤ 24 → (fs ≠ [] → (rd fs 0).Stop = p.length ∧ (rd fs 0).Mask = 255) → M.qfo p (M.qga ⟨x.Number, fs, rg⟩ p.length) = true := by
  intro fs rg g1 g2 g3 g4 g5
  simp only [M.qfo, M.qga, Bool.and_eq_true, beq_iff_eq]
  exact ⟨by simp only [M.isIn, Bool.and_eq_true, decide_eq_true_eq]; exact ⟨t8, t9⟩, g1, g2, qkM g3 g4 g5⟩
 have s0 := fun pc => qhi hx pc
 unfold M.stepW
 by_cases hs : M.splits p x = true
 ·rw [if_pos hs]
  obtain ⟨hsp, hz0, hzm⟩ := qi4 hs
  have hb := qhc hr hsp
  have hj := qnJ hb
  have hact : M.qb3 x = (M.qcL x.Frames).Mask := qgC hx
  obtain ⟨m1, m2, m3⟩ := qkO (x := x) (reg := (M.qaF p x).A) (by rw [hact]; exact f5)
  rw [hact] at m2 m3
  have h22 : x.Frames.length ≤ 22 := by
   simp only [M.qaG, hs, Bool.and_eq_true, Bool.not_true, Bool.false_or, decide_eq_true_eq] at hl
   exact hl.2.2
  have hB := qgH t7 (.inl hsp.1)
  unfold M.separated
  refine fin _ _ t4 f6 ?_ ?_ fun _ => ?_
  ·rw [List.all_append, qie f1 hx hj, Bool.true_and]
   simp only [List.all_cons, List.all_nil, Bool.and_true, M.qdY, Bool.and_eq_true, M.isIn, decide_eq_true_eq, bne_iff_ne]
   unfold M.qdN at hj
   rw [m2]
   exact ⟨⟨by omega, hj, m3, by omega⟩, hB, hj, m1, hz0⟩
  ·simp only [List.length_append, M.qe0, List.length_set, List.length_cons, List.length_nil]; omega
  ·have e : rd (M.qe0 x.Frames (M.qgF p (M.qdq x)) ++ [⟨M.qdq x + 1, M.qgF p (M.qdq x), qeE .i64 (M.qcL x.Frames).Mask (M.qch x (M.qaF p x).A)⟩, ⟨(M.qaF p x).B, M.qgF p (M.qdq x), M.qch x (M.qaF p x).A⟩]) 0 = rd (M.qe0 x.Frames (M.qgF p (M.qdq x))) 0 := by
     unfold rd
     rw [List.getD_eq_getElem?_getD, List.getD_eq_getElem?_getD, List.getElem?_append_left (by simp [M.qe0]; omega)]
   rw [e, (s0 _).1, (s0 _).2]
   exact ⟨f3, f4⟩
 ·rw [if_neg hs]
  unfold M.advance
  refine fin _ _ (qhb t4) (qhN t7 ⟨t8, t9⟩ t4 f6 8 (Nat.le_refl _)) (qie f1 hx (qnS hr)) (by simp only [M.qe0, List.length_set]; exact f2) fun _ => ?_
  rw [(s0 _).1, (s0 _).2]
  exact ⟨f3, f4⟩
end Go.V
namespace Go.V
open IntKind (wrap)
theorem qlD {i : D.Ins} {n : Int} {r : List Int} {k : Nat} (h : M.qdh i n = true) (hr : r.length = 32) (hk : k < 8) : M.Fits i (M.qen r k) := ⟨qeW hr hk, n, h⟩
theorem wp.qb5.math (x : D.Warp) (p : List D.Ins) (h : M.qeq x p) : wp.qb5 x p (fun r => r = M.qb5 x p) := by
 obtain ⟨t1, t2, t3, t4, t5, t6, t7, t8, t9⟩ := qdF h
 have hx := h.2.2
 unfold wp.qb5
 rw [qdc (by omega)]
 refine ⟨by omega, ⟨t5, t6⟩, fun ls hls => ?_⟩
 have hls : ls = M.qeX (M.qcL x.Frames).Mask := hls
 have hmem : ∀ k ∈ ls, 0 ≤ k ∧ k ≤ 7 := fun k hk => qit (m := (M.qcL x.Frames).Mask) (hls ▸ hk)
 have hlen : ls.length ≤ 8 := by rw [hls]; exact qkr _
 let G : Nat → List Int := fun k => (ls.take k).foldl (ql2 (M.qaF p x) x.Number) x.Regs
 have hG : ∀ k, (G k).length = 32 := fun k => qlF _ _ t4 fun j hj => hmem j (List.mem_of_mem_take hj)
 refine qd2 ls.length (fun k => ((k : Int), G k, ())) (fun _ => True) rfl trivial (fun k hk _ next hn => ?_) fun _ next => ?_
 ·have hn := hn trivial
  have hm := hmem _ (qgy hk)
  have hGk := hG k
  have hnext : G (k + 1) = ql2 (M.qaF p x) x.Number (G k) (rd ls (k : Int)) := by
   simp only [G]
   rw [List.take_add_one, List.getElem?_eq_getElem hk, Option.toList_some, List.foldl_append, ← qdO hk]
   rfl
  rw [hnext] at hn
  dsimp only
  generalize rd ls (k : Int) = l at *
  generalize G k = g at *
  have a1 : wrap .i64 (l * 4) = l * 4 := w64 (by omega) (by omega)
  have a2 : wrap .i64 ((wrap .i64 (l + 1)) * 4) = l * 4 + 4 := by rw [w64 (x := l + 1) (by omega) (by omega), w64 (by omega) (by omega)]; omega
  have a3 : wrap .i64 ((wrap .i64 (x.Number * 8)) + l) = x.Number * 8 + l := by rw [w64 (x := x.Number * 8) (by omega) (by omega), w64 (by omega) (by omega)]
  rw [a1, a2, a3, up64 hk (by omega)]
  refine qaA (by simp; omega) ⟨by omega, ⟨hGk, hm⟩, ⟨?_, by omega, by omega⟩, fun r2 hr2 => ?_⟩
  ·have := qlD (k := l.toNat) t7 hGk (by omega)
   unfold M.qen at this
   rw [show l.toNat * 4 + 4 = (l * 4 + 4).toNat by omega, show l.toNat * 4 = (l * 4).toNat by omega] at this
   exact this
  ·rw [hr2]; exact hn
 ·have hall : G ls.length = M.qg9 (M.qaF p x) x.Number (M.qcL x.Frames).Mask x.Regs := by
    simp only [G]
    rw [List.take_length, qk7 t4, hls]
  dsimp only
  rw [hall]
  refine qax (by simp) ?_
  have e1 : ((x.Frames.length : Int) - 1).toNat = x.Frames.length - 1 := by omega
  have fin : ∀ pc, pc = M.qg5 p x → (⟨x.Number, x.Frames.set ((x.Frames.length : Int) - 1).toNat ⟨pc, (M.qcL x.Frames).Stop, (M.qcL x.Frames).Mask⟩, M.qg9 (M.qaF p x) x.Number (M.qcL x.Frames).Mask x.Regs⟩ : D.Warp) = M.qb5 x p := by
   rintro _ rfl
   unfold M.qb5 M.advance M.qe0
   rw [e1]
  show bcase ((M.qaF p x).Op == 12) _ (bcase ((M.qaF p x).Op == 11) (bcase true _ _) (bcase ((M.qaF p x).Op == 10) _ (bcase false _ _)))
  refine qa2 (fun c1 => fin _ ?_) fun c1 => qa2 (fun c2 => qaA rfl (fin _ ?_)) fun c2 => qa2 (fun c3 => ⟨?_, fun z hz => ?_⟩) fun c3 => qax rfl (fin _ ?_)
  ·have c1 : (M.qaF p x).Op = 12 := by simpa using c1
   simp [M.qg5, c1]
  ·have c2 : (M.qaF p x).Op = 11 := by simpa using c2
   simp only [M.qg5, c2]
   rfl
  ·have c3 : (M.qaF p x).Op = 10 := by simpa using c3
   exact ⟨by show x.Frames.length ≤ 9223372036854775807; omega, qhb t4, qhm t7 c3⟩
  ·have c3 : (M.qaF p x).Op = 10 := by simpa using c3
   have hz : z = M.qch x (M.qaF p x).A := by
    rw [hz, qiD t4 c3]; rfl
   show bcase (z == (M.qcL x.Frames).Mask) _ _
   rw [hz]
   refine qa2 (fun c4 => fin _ ?_) fun c4 => fin _ ?_
   ·have c4 : M.qch x (M.qaF p x).A = (M.qcL x.Frames).Mask := by simpa using c4
    unfold M.qg5
    rw [if_neg (by omega), if_neg (by omega), if_pos ⟨c3, c4⟩]; rfl
   ·have c4 : ¬ M.qch x (M.qaF p x).A = (M.qcL x.Frames).Mask := by simpa using c4
    unfold M.qg5
    rw [if_neg (by omega), if_neg (by omega), if_neg (fun hc => c4 hc.2)]
    exact w64 (x := M.qdq x + 1) (by omega) (by omega)
  ·have c1 : ¬ (M.qaF p x).Op = 12 := by simpa using c1
   have c2 : ¬ (M.qaF p x).Op = 11 := by simpa using c2
   have c3 : ¬ (M.qaF p x).Op = 10 := by simpa using c3
   unfold M.qg5
   rw [if_neg c1, if_neg c2, if_neg (fun hc => c3 hc.1)]
   exact w64 (x := M.qdq x + 1) (by omega) (by omega)
theorem qkC {p : List D.Ins} {b : Int} (h : M.Branch p b) : M.has (M.branches p) b = true := by
 unfold M.has M.branches
 rw [if_pos h.1, List.any_eq_true]
 exact ⟨b, qjc.2 ⟨b.toNat, by have := h.2.2.1; have := h.2.1; omega, by have := h.2.1; omega, h.2.2.2⟩, by simp⟩
theorem wp.qaI.math (x : D.Warp) (p : List D.Ins) (h : M.qej x p) : wp.qaI x p (fun r => r = M.qaI x p) := by
 obtain ⟨hr, hs⟩ := h
 obtain ⟨t1, t2, t3, t4, t5, t6, t7, t8, t9⟩ := qdF hr
 have hb := qhc hr hs
 unfold wp.qaI
 rw [qdc (by omega), w64 (x := (x.Frames.length : Int) + 2) (by omega) (by omega)]
 refine qa2 (fun e => ?_) fun e => ⟨by omega, ⟨t5, t6⟩, ⟨by show x.Frames.length ≤ 9223372036854775807; omega, t4, qhm t7 hs.1⟩, fun z hz => ⟨qgd hr.1, fun j hj => ⟨⟨t5, t6⟩, ?_⟩⟩⟩
 ·have e : ¬ x.Frames.length ≤ 22 := by have := of_decide_eq_true e; omega
  unfold M.qaI
  rw [if_neg e]
 ·have e : x.Frames.length ≤ 22 := by have := of_decide_eq_false e; omega
  have hj : j = M.qgF p (M.qdq x) := by
   rw [hj]
   show M.qkE p (M.qdq x) = _
   unfold M.qkE
   rw [if_pos (qkC hb)]
  have hw : wrap .i64 (M.qdq x + 1) = M.qdq x + 1 := w64 (by omega) (by omega)
  have key : ∀ y, y = M.separated p x → (true, y) = M.qaI x p := by
   rintro _ rfl
   unfold M.qaI
   rw [if_pos e]
  have e1 : ((x.Frames.length : Int) - 1).toNat = x.Frames.length - 1 := by omega
  have fin : (true, (⟨x.Number, (x.Frames.set ((x.Frames.length : Int) - 1).toNat ⟨j, (M.qcL x.Frames).Stop, (M.qcL x.Frames).Mask⟩) ++ [⟨wrap .i64 (M.qdq x + 1), j, qeE .i64 (M.qcL x.Frames).Mask z⟩, ⟨(M.qaF p x).B, j, z⟩], x.Regs⟩ : D.Warp)) = M.qaI x p := by
   refine key _ ?_
   rw [hw, hj, hz, e1]; rfl
  have hle : (x.Frames.set ((x.Frames.length : Int) - 1).toNat ⟨j, (M.qcL x.Frames).Stop, (M.qcL x.Frames).Mask⟩).length + 2 ≤ 17179869184 := by rw [List.length_set]; omega
  exact ⟨⟨hle, fin⟩, ⟨⟨hle, fin⟩, ⟨hle, fin⟩, trivial⟩, trivial⟩
end Go.V
namespace Go.V
open IntKind (wrap)
def qgk (r x : List Int) (l j : Nat) : List Int := r.take (l * 4) ++ x.take j ++ r.drop (l * 4 + j)
theorem qiH {r x : List Int} {l j : Nat} (h : r.length = 32) (hl : l < 8) (hx : x.length = 4) (hj : j ≤ 4) : (qgk r x l j).length = 32 := by unfold qgk; simp; omega
theorem qiW {r x : List Int} {l j : Nat} (h : r.length = 32) (hl : l < 8) (hx : x.length = 4) (hj : j ≤ 4) (i : Nat) : (qgk r x l j)[i]? = if l * 4 ≤ i ∧ i < l * 4 + j then x[i - l * 4]? else r[i]? := by
 unfold qgk
 rw [List.getElem?_append, List.length_append, List.length_take, List.length_take, hx, Nat.min_eq_left (by omega), Nat.min_eq_left hj, List.getElem?_append, List.length_take, Nat.min_eq_left (by omega)]
 by_cases h1 : i < l * 4
 ·rw [if_pos (by omega), if_pos h1, if_neg (by omega), List.getElem?_take, if_pos h1]
 ·by_cases h2 : i < l * 4 + j
  ·rw [if_pos h2, if_neg h1, if_pos (by omega), List.getElem?_take, if_pos (by omega)]
  ·rw [if_neg h2, if_neg (by omega), List.getElem?_drop]
   congr 1; omega
theorem qks (r x : List Int) (l : Nat) : qgk r x l 0 = r := by unfold qgk; simp
theorem qlh {r x : List Int} {l : Nat} (hx : x.length = 4) : qgk r x l 4 = M.qfa r l x := by unfold qgk M.qfa; rw [List.take_of_length_le (l := x) (by omega)]
theorem qli {r x : List Int} {l j : Nat} (h : r.length = 32) (hl : l < 8) (hx : x.length = 4) (hj : j < 4) : (qgk r x l j).set (l * 4 + j) (rd x (j : Int)) = qgk r x l (j + 1) := by
 apply List.ext_getElem?
 intro i
 rw [qiW h hl hx (by omega)]
 by_cases e : l * 4 + j = i
 ·subst e
  rw [List.getElem?_set_self (by rw [qiH h hl hx (by omega)]; omega), if_pos (by omega), show l * 4 + j - l * 4 = j by omega, qdO (by omega), List.getElem?_eq_getElem (by omega)]
 ·rw [List.getElem?_set_ne e, qiW h hl hx (by omega)]
  by_cases h1 : l * 4 ≤ i ∧ i < l * 4 + j
  ·rw [if_pos h1, if_pos (by omega)]
  ·rw [if_neg h1, if_neg (by omega)]
theorem wp.qcI.math (p : List D.Ins) (x : D.Warp) (h : M.qfy p x) : wp.qcI p x (fun r => r = M.qcI p x) := by
 obtain ⟨t1, t2, t3, t4, t5, t6, t7, t8, t9⟩ := qdF h
 unfold wp.qcI
 rw [qdc (by omega), List.nil_append]
 refine ⟨by simp; omega, by omega, ?_⟩
 let G : Nat → List Int := M.qfl (M.qaF p x) x.Number (M.qcL x.Frames).Mask x.Regs
 have hG : ∀ k, k ≤ 8 → (G k).length = 32 := fun k hk => qgZ t4 k hk
 refine qd2 8 (fun k => ((k : Int), G k, ())) (fun _ => True) rfl trivial (fun k hk _ next hn => ?_) fun _ next => qax (by simp) rfl
 have hn := hn trivial
 have hGk := hG k (by omega)
 have hnext : G (k + 1) = if M.qd9 (M.qcL x.Frames).Mask (k : Int) then M.qfa (G k) k (M.apply (M.qaF p x) (x.Number * 8 + (k : Int)) (M.qen x.Regs k)) else G k := rfl
 rw [hnext] at hn
 dsimp only
 generalize G k = g at *
 refine qaA (by simp; omega) fun b hb => ?_
 have hb : b = M.qd9 (M.qcL x.Frames).Mask (k : Int) := hb
 have a1 : wrap .i64 ((k : Int) * 4) = (k : Int) * 4 := w64 (by omega) (by omega)
 have a2 : wrap .i64 ((wrap .i64 ((k : Int) + 1)) * 4) = (k : Int) * 4 + 4 := by rw [w64 (x := (k : Int) + 1) (by omega) (by omega), w64 (by omega) (by omega)]; omega
 have a3 : wrap .i64 ((wrap .i64 (x.Number * 8)) + (k : Int)) = x.Number * 8 + (k : Int) := by rw [w64 (x := x.Number * 8) (by omega) (by omega), w64 (by omega) (by omega)]
 refine qa2 (fun e => ?_) fun e => ?_
 ·rw [if_pos (hb.symm.trans e)] at hn
  rw [a1, a2, a3, t4, show ((k : Int) * 4 + 4).toNat = k * 4 + 4 by omega, show ((k : Int) * 4).toNat = k * 4 by omega]
  refine ⟨⟨t5, t6⟩, ⟨by omega, by omega, by omega, by omega⟩, qlD t7 t4 hk, fun y hy => ?_⟩
  have hy : y = M.apply (M.qaF p x) (x.Number * 8 + (k : Int)) (M.qen x.Regs k) := hy
  have hyl : y.length = 4 := by rw [hy, qhO, qeW t4 hk]
  rw [← hy] at hn
  refine qd2 4 (fun j => ((j : Int), qgk g y k j, ())) (fun _ => True) (by rw [qks]; rfl) trivial (fun j hj _ next2 hn2 => ?_) fun _ next2 => ?_
  ·have hn2 := hn2 trivial
   rw [← qli hGk hk hyl hj] at hn2
   dsimp only
   have a4 : wrap .i64 ((k : Int) * 4 + (j : Int)) = (k : Int) * 4 + (j : Int) := w64 (by omega) (by omega)
   rw [a4, hyl, qiH hGk hk hyl (by omega), show ((k : Int) * 4 + (j : Int)).toNat = k * 4 + j by omega, up64 (n := 4) hj (by omega)]
   exact qaA (by simp; omega) ⟨by omega, by omega, hn2⟩
  ·dsimp only
   rw [qlh hyl, up64 (n := 8) hk (by omega)]
   exact qax (by simp) hn
 ·rw [if_neg (by rw [← hb, e]; simp)] at hn
  rw [up64 (n := 8) hk (by omega)]
  exact hn
theorem wp.qd5.math (p : List D.Ins) (x : D.Warp) (h : M.qg3 p x) : wp.qd5 p x (fun r => r = M.qd5 p x) := by
 obtain ⟨hr, hl⟩ := h
 obtain ⟨t1, t2, t3, t4, t5, t6, t7, t8, t9⟩ := qdF hr
 obtain ⟨f1, f2, f3, f4, f5, f6⟩ := qh0 hr
 have hx := hr.2.2
 unfold wp.qd5
 rw [qdc (by omega)]
 refine ⟨⟨by omega, by omega⟩, fun y hy => ?_⟩
 have hy : y = x := hy
 subst hy
 have e1 : ((y.Frames.length : Int) - 1).toNat = y.Frames.length - 1 := by omega
 refine ⟨by omega, ⟨t5, t6⟩, hr, fun s hs => ?_⟩
 have hs : s = M.splits p y := hs
 have hw : wrap .i64 (M.qdq y + 1) = M.qdq y + 1 := w64 (by omega) (by omega)
 refine qa2 (fun e => ⟨by show y.Frames.length ≤ 9223372036854775807; omega, fun z hz => ?_⟩) fun e => ⟨hr, fun rg hrg => ?_⟩
 ·have hsp := hs.symm.trans e
  obtain ⟨hsp', hz0, hzm⟩ := qi4 hsp
  have hb := qhc hr hsp'
  have hz : z = M.qch y (M.qaF p y).A := by
   have hz : z = M.qaK y (M.qaF p y).A := hz
   rw [hz]
   unfold M.qaK
   rw [if_pos (by rw [qhm t7 hsp'.1, t4]; rfl)]
  have hact : M.qb3 y = (M.qcL y.Frames).Mask := qgC hx
  obtain ⟨m1, m2, m3⟩ := qkO (x := y) (reg := (M.qaF p y).A) (by rw [hact]; exact f5)
  rw [hact] at m2 m3
  have hm : wrap .i64 ((M.qcL y.Frames).Mask - z) = qeE .i64 (M.qcL y.Frames).Mask (M.qch y (M.qaF p y).A) := by
   rw [m2, hz]
   simp only [M.qfp, M.isIn, Bool.and_eq_true, decide_eq_true_eq] at m3
   exact w64 (by omega) (by omega)
  refine ⟨hb, fun j hj => ⟨by omega, ⟨by simp; omega, ⟨by refine ⟨?_, ?_⟩ <;> simp <;> omega, fun d hd => ?_⟩⟩⟩⟩
  have hj : j = M.qgF p (M.qdq y) := hj
  have hd : d = M.qga (M.separated p y) p.length := by
   rw [hd]
   show M.qga _ _ = M.qga _ _
   congr 1
   unfold M.separated M.qe0
   rw [← hm, ← hj, ← hz, e1, ← hw]; rfl
  show d = M.stepW p y
  unfold M.stepW
  rw [if_pos hsp]; exact hd
 ·have hns : ¬ M.splits p y = true := by rw [← hs, e]; simp
  have hrg : rg = M.qg9 (M.qaF p y) y.Number (M.qcL y.Frames).Mask y.Regs := hrg
  have hfit : ∀ pc, M.WFit ⟨y.Number, y.Frames.set ((y.Frames.length : Int) - 1).toNat ⟨pc, (M.qcL y.Frames).Stop, (M.qcL y.Frames).Mask⟩, rg⟩ := fun pc => by
   refine ⟨?_, ?_⟩
   ·show (y.Frames.set _ _).length ≤ _
    rw [List.length_set]; omega
   ·show rg.length ≤ _
    rw [hrg, qhb t4]; omega
  have fin : ∀ pc, pc = M.qg5 p y → ∀ d, d = M.qaD p ⟨y.Number, y.Frames.set ((y.Frames.length : Int) - 1).toNat ⟨pc, (M.qcL y.Frames).Stop, (M.qcL y.Frames).Mask⟩, rg⟩ → d = M.stepW p y := by
   rintro _ rfl d hd
   rw [hd, hrg]
   show M.qga _ _ = _
   unfold M.stepW
   rw [if_neg hns, e1]; rfl
  show bcase ((M.qaF p y).Op == 12) _ (bcase ((M.qaF p y).Op == 11) _ (_ ∧ bcase ((M.qaF p y).Op == 10) _ (bcase false _ _)))
  refine qa2 (fun c1 => ⟨by omega, hfit _, fun d hd => fin _ ?_ d hd⟩) fun c1 => qa2 (fun c2 => ⟨by omega, hfit _, fun d hd => fin _ ?_ d hd⟩) fun c2 => ⟨by omega, qa2 (fun c3 => ⟨by show y.Frames.length ≤ 9223372036854775807; omega, fun z hz => ?_⟩) fun c3 => qax rfl ⟨hfit _, fun d hd => fin _ ?_ d hd⟩⟩
  ·have c1 : (M.qaF p y).Op = 12 := by simpa using c1
   simp [M.qg5, c1]
  ·have c2 : (M.qaF p y).Op = 11 := by simpa using c2
   simp only [M.qg5, c2]
   rfl
  ·have c3 : (M.qaF p y).Op = 10 := by simpa using c3
   have hz : z = M.qch y (M.qaF p y).A := by
    have hz : z = M.qaK y (M.qaF p y).A := hz
    rw [hz]
    unfold M.qaK
    rw [if_pos (by rw [qhm t7 c3, t4]; rfl)]
   show bcase (z == (M.qcL y.Frames).Mask) _ _
   rw [hz]
   refine qa2 (fun c4 => ⟨by rw [List.length_set]; omega, hfit _, fun d hd => fin _ ?_ d hd⟩) fun c4 => ⟨hfit _, fun d hd => fin _ ?_ d hd⟩
   ·have c4 : M.qch y (M.qaF p y).A = (M.qcL y.Frames).Mask := by simpa using c4
    unfold M.qg5
    rw [if_neg (by omega), if_neg (by omega), if_pos ⟨c3, c4⟩]; rfl
   ·have c4 : ¬ M.qch y (M.qaF p y).A = (M.qcL y.Frames).Mask := by simpa using c4
    unfold M.qg5
    rw [if_neg (by omega), if_neg (by omega), if_neg (fun hc => c4 hc.2)]
    exact hw
  ·have c1 : ¬ (M.qaF p y).Op = 12 := by simpa using c1
   have c2 : ¬ (M.qaF p y).Op = 11 := by simpa using c2
   have c3 : ¬ (M.qaF p y).Op = 10 := by simpa using c3
   unfold M.qg5
   rw [if_neg c1, if_neg c2, if_neg (fun hc => c3 hc.1)]
   exact hw
end Go.V
namespace Go.V
open IntKind (wrap)
theorem wp.qba.math (x : D.Warp) (p : List D.Ins) (h : M.qfe x p) : wp.qba x p (fun r => r = M.qba x p) := by
 obtain ⟨hp, hw⟩ := h
 unfold wp.qba
 rw [qgK]
 refine qa2 (fun e => ?_) fun e => ?_
 ·have : M.qaG p x = false := by simp [M.qaG, e]
  unfold M.qba
  rw [if_neg (by rw [this]; simp)]
 have hx : x.Frames ≠ [] := by simpa using e
 have hr : M.Runs p x := ⟨hp, hw, hx⟩
 obtain ⟨t1, t2, t3, t4, t5, t6, t7, t8, t9⟩ := qdF hr
 rw [qdc (by omega)]
 have hl : ∀ b, M.qcw (M.qaF p x) = b → M.qaG p x = (b && (!M.splits p x || decide (x.Frames.length ≤ 22))) := fun b hb => by
  simp only [M.qaG, hb, e, Bool.not_false, Bool.true_and]
 have no : M.qaG p x = false → (false, x) = M.qba x p := fun hf => by
  unfold M.qba
  rw [if_neg (by rw [hf]; simp)]
 have yes : M.qaG p x = true → ∀ y, y = M.stepW p x → (true, y) = M.qba x p := fun hf y hy => by
  unfold M.qba
  rw [if_pos hf, hy]
 refine ⟨by omega, ⟨t5, t6⟩, fun b hb => qa2 (fun c => no ?_) fun c => ⟨hr, fun s hs => qa2 (fun c2 => ⟨⟨hr, ?_⟩, fun q hq => ?_⟩) fun c2 => ⟨hr, fun q hq => ⟨?_, fun d hd => ?_⟩⟩⟩⟩
 ·have c : b = false := by simpa using c
  rw [hl b hb.symm, c]; rfl
 ·exact (qi4 (hs.symm.trans c2)).1
 ·have c : b = true := by simpa using c
  have hsp : M.splits p x = true := hs.symm.trans c2
  have hl' := hl b hb.symm
  rw [c, hsp] at hl'
  simp only [Bool.true_and, Bool.not_true, Bool.false_or] at hl'
  rw [hq]
  unfold M.qaI
  by_cases h22 : x.Frames.length ≤ 22
  ·rw [decide_eq_true h22] at hl'
   rw [if_pos h22]
   refine qax rfl ⟨?_, fun d hd => yes hl' _ ?_⟩
   ·show (M.separated p x).Frames.length ≤ 9223372036854775807
    simp only [M.separated, M.qe0, List.length_append, List.length_set, List.length_cons, List.length_nil]; omega
   ·rw [hd]
    unfold M.stepW
    rw [if_pos hsp]; rfl
  ·rw [decide_eq_false h22] at hl'
   rw [if_neg h22]
   exact qaA rfl (no hl')
 ·rw [hq]
  show (M.qe0 x.Frames _).length ≤ 9223372036854775807
  simp only [M.qe0, List.length_set]; omega
 ·have c : b = true := by simpa using c
  have hsp : M.splits p x = false := by rw [← show s = M.splits p x from hs, c2]
  have hl' := hl b hb.symm
  rw [c, hsp] at hl'
  refine yes hl' _ ?_
  rw [hd, hq]
  unfold M.stepW
  rw [if_neg (by rw [hsp]; simp)]; rfl
theorem qkj {p : List D.Ins} (hp : M.qaT p = true) {w : Int} (hw : M.isIn w 0 2 = true) : M.Fine p (M.qdl p w) := by
 refine ⟨hp, ?_⟩
 have hz : (List.replicate 32 (0 : Int)).all M.isWord = true := by rfl
 unfold M.qfo
 have hN : (M.qdl p w).Number = w := rfl
 have hR : (M.qdl p w).Regs = List.replicate 32 0 := rfl
 have hF : (M.qdl p w).Frames = if p.length > 0 then [⟨0, p.length, 255⟩] else [] := rfl
 rw [hN, hR, hF, hw, hz, List.length_replicate]
 by_cases h0 : p.length > 0
 ·rw [if_pos h0]
  have hn : (p.length : Int) ≠ 0 := by omega
  have h1 : M.qdY p.length ⟨0, p.length, 255⟩ = true := by
   simp only [M.qdY, M.isIn, M.qfp, Bool.and_eq_true, decide_eq_true_eq, bne_iff_ne]; omega
  have hl : M.qcL [(⟨0, p.length, 255⟩ : D.Frame)] = ⟨0, p.length, 255⟩ := rfl
  have hr : rd [(⟨0, p.length, 255⟩ : D.Frame)] 0 = ⟨0, p.length, 255⟩ := rfl
  have h2 : M.qhL [(⟨0, p.length, 255⟩ : D.Frame)] p.length = true := by
   unfold M.qhL
   rw [hl, hr]
   simp only [Bool.and_eq_true, decide_eq_true_eq, bne_iff_ne, beq_iff_eq, List.length_cons, List.length_nil]
   exact ⟨by omega, fun h => hn h.symm, fun h => hn h.symm, trivial, trivial⟩
  have : M.qdJ [(⟨0, p.length, 255⟩ : D.Frame)] p.length = true := by
   unfold M.qdJ
   rw [h2]; simp [h1]
  rw [this]; rfl
 ·rw [if_neg h0]; rfl
end Go.V
namespace Go.V
open IntKind (wrap)
def wp.qcz (s0 : D.Cur) (x1 : Int) (Q : (Bool × D.Cur) → Prop) : Prop :=
 (M.qaq s0 x1 ∧ ∀ r21, r21 = M.qa0 s0 x1 → Q ((r21.1 == 0), (⟨s0.b, r21.2.i, r21.2.h⟩ : D.Cur)))
def wp.qaQ (s0 : D.Cur) (xs1 : List D.Ins) (x2 : Int) (Q : ((List D.Ins) × D.Cur) → Prop) : Prop :=
 (M.qaq s0 4 ∧ ∀ r21, r21 = M.qa0 s0 4 → qd4 (σ := (List D.Ins) × Int × Int × Int × Unit) (fun (p210 : (List D.Ins) × Int × Int × Int × Unit) next51 => match p210 with | (xs42, i45, i46, i47, _) => bcase (decide (i45 > 0)) (bcase (decide ((xs42.length : Int) < 20)) ((M.qaq (⟨s0.b, i46, i47⟩ : D.Cur) 5 ∧ ∀ r53, r53 = M.qa0 (⟨s0.b, i46, i47⟩ : D.Cur) 5 → bcase (r53.1 == 0) (bcase (x2 == 0) (next51 (xs42, (wrap .i64 (i45 - 1)), r53.2.i, r53.2.h, ())) ((M.qaq (⟨s0.b, r53.2.i, r53.2.h⟩ : D.Cur) 4 ∧ ∀ r62, r62 = M.qa0 (⟨s0.b, r53.2.i, r53.2.h⟩ : D.Cur) 4 → ((xs42.length + ([(⟨10, r62.1, 0, 0⟩ : D.Ins)] : List D.Ins).length ≤ 17179869184) ∧ (M.qdA (⟨s0.b, r62.2.i, r62.2.h⟩ : D.Cur) (xs42 ++ ([(⟨10, r62.1, 0, 0⟩ : D.Ins)] : List D.Ins)) (wrap .i64 (x2 - 1)) ∧ ∀ r76, r76 = M.qaQ (⟨s0.b, r62.2.i, r62.2.h⟩ : D.Cur) (xs42 ++ ([(⟨10, r62.1, 0, 0⟩ : D.Ins)] : List D.Ins)) (wrap .i64 (x2 - 1)) → (M.qeM (⟨s0.b, r76.2.i, r76.2.h⟩ : D.Cur) 2 ∧ ∀ r84, r84 = M.qcz (⟨s0.b, r76.2.i, r76.2.h⟩ : D.Cur) 2 → bcase r84.1 (((0 ≤ (xs42.length : Int) ∧ (xs42.length : Int) < (r76.1.length : Int)) ∧ next51 ((List.set r76.1 ((xs42.length : Int).toNat) (⟨(rd r76.1 (xs42.length : Int)).Op, (rd r76.1 (xs42.length : Int)).A, (r76.1.length : Int), (rd r76.1 (xs42.length : Int)).C⟩ : D.Ins)), (wrap .i64 (i45 - 1)), r84.2.i, r84.2.h, ()))) (((r76.1.length + ([(⟨11, 0, 0, 0⟩ : D.Ins)] : List D.Ins).length ≤ 17179869184) ∧ ((0 ≤ (xs42.length : Int) ∧ (xs42.length : Int) < ((r76.1 ++ ([(⟨11, 0, 0, 0⟩ : D.Ins)] : List D.Ins)).length : Int)) ∧ (M.qdA (⟨s0.b, r84.2.i, r84.2.h⟩ : D.Cur) (List.set (r76.1 ++ ([(⟨11, 0, 0, 0⟩ : D.Ins)] : List D.Ins)) ((xs42.length : Int).toNat) (⟨(rd (r76.1 ++ ([(⟨11, 0, 0, 0⟩ : D.Ins)] : List D.Ins)) (xs42.length : Int)).Op, (rd (r76.1 ++ ([(⟨11, 0, 0, 0⟩ : D.Ins)] : List D.Ins)) (xs42.length : Int)).A, (((r76.1 ++ ([(⟨11, 0, 0, 0⟩ : D.Ins)] : List D.Ins))).length : Int), (rd (r76.1 ++ ([(⟨11, 0, 0, 0⟩ : D.Ins)] : List D.Ins)) (xs42.length : Int)).C⟩ : D.Ins)) (wrap .i64 (x2 - 1)) ∧ ∀ r117, r117 = M.qaQ (⟨s0.b, r84.2.i, r84.2.h⟩ : D.Cur) (List.set (r76.1 ++ ([(⟨11, 0, 0, 0⟩ : D.Ins)] : List D.Ins)) ((xs42.length : Int).toNat) (⟨(rd (r76.1 ++ ([(⟨11, 0, 0, 0⟩ : D.Ins)] : List D.Ins)) (xs42.length : Int)).Op, (rd (r76.1 ++ ([(⟨11, 0, 0, 0⟩ : D.Ins)] : List D.Ins)) (xs42.length : Int)).A, (((r76.1 ++ ([(⟨11, 0, 0, 0⟩ : D.Ins)] : List D.Ins))).length : Int), (rd (r76.1 ++ ([(⟨11, 0, 0, 0⟩ : D.Ins)] : List D.Ins)) (xs42.length : Int)).C⟩ : D.Ins)) (wrap .i64 (x2 - 1)) → ((0 ≤ (r76.1.length : Int) ∧ (r76.1.length : Int) < (r117.1.length : Int)) ∧ next51 ((List.set r117.1 ((r76.1.length : Int).toNat) (⟨(rd r117.1 (r76.1.length : Int)).Op, (rd r117.1 (r76.1.length : Int)).A, (r117.1.length : Int), (rd r117.1 (r76.1.length : Int)).C⟩ : D.Ins)), (wrap .i64 (i45 - 1)), r117.2.i, r117.2.h, ())))))))))))) (bcase (r53.1 == 1) (bcase (x2 == 0) (next51 (xs42, (wrap .i64 (i45 - 1)), r53.2.i, r53.2.h, ())) (bcase (decide ((xs42.length : Int) > 14)) (next51 (xs42, (wrap .i64 (i45 - 1)), r53.2.i, r53.2.h, ())) (((xs42.length + ([(⟨8, 3, 0, 0⟩ : D.Ins)] : List D.Ins).length ≤ 17179869184) ∧ (((xs42 ++ ([(⟨8, 3, 0, 0⟩ : D.Ins)] : List D.Ins)).length + ([(⟨10, 3, 0, 0⟩ : D.Ins)] : List D.Ins).length ≤ 17179869184) ∧ ((((xs42 ++ ([(⟨8, 3, 0, 0⟩ : D.Ins)] : List D.Ins)) ++ ([(⟨10, 3, 0, 0⟩ : D.Ins)] : List D.Ins)).length + ([(⟨3, 0, 0, 1⟩ : D.Ins), (⟨1, 2, 1, 0⟩ : D.Ins), (⟨4, 3, 3, 2⟩ : D.Ins)] : List D.Ins).length ≤ 17179869184) ∧ (((((xs42 ++ ([(⟨8, 3, 0, 0⟩ : D.Ins)] : List D.Ins)) ++ ([(⟨10, 3, 0, 0⟩ : D.Ins)] : List D.Ins)) ++ ([(⟨3, 0, 0, 1⟩ : D.Ins), (⟨1, 2, 1, 0⟩ : D.Ins), (⟨4, 3, 3, 2⟩ : D.Ins)] : List D.Ins)).length + ([(⟨11, 0, (((xs42 ++ ([(⟨8, 3, 0, 0⟩ : D.Ins)] : List D.Ins))).length : Int), 0⟩ : D.Ins)] : List D.Ins).length ≤ 17179869184) ∧ ((0 ≤ (((xs42 ++ ([(⟨8, 3, 0, 0⟩ : D.Ins)] : List D.Ins))).length : Int) ∧ (((xs42 ++ ([(⟨8, 3, 0, 0⟩ : D.Ins)] : List D.Ins))).length : Int) < (((((xs42 ++ ([(⟨8, 3, 0, 0⟩ : D.Ins)] : List D.Ins)) ++ ([(⟨10, 3, 0, 0⟩ : D.Ins)] : List D.Ins)) ++ ([(⟨3, 0, 0, 1⟩ : D.Ins), (⟨1, 2, 1, 0⟩ : D.Ins), (⟨4, 3, 3, 2⟩ : D.Ins)] : List D.Ins)) ++ ([(⟨11, 0, (((xs42 ++ ([(⟨8, 3, 0, 0⟩ : D.Ins)] : List D.Ins))).length : Int), 0⟩ : D.Ins)] : List D.Ins)).length : Int)) ∧ next51 ((List.set ((((xs42 ++ ([(⟨8, 3, 0, 0⟩ : D.Ins)] : List D.Ins)) ++ ([(⟨10, 3, 0, 0⟩ : D.Ins)] : List D.Ins)) ++ ([(⟨3, 0, 0, 1⟩ : D.Ins), (⟨1, 2, 1, 0⟩ : D.Ins), (⟨4, 3, 3, 2⟩ : D.Ins)] : List D.Ins)) ++ ([(⟨11, 0, (((xs42 ++ ([(⟨8, 3, 0, 0⟩ : D.Ins)] : List D.Ins))).length : Int), 0⟩ : D.Ins)] : List D.Ins)) ((((xs42 ++ ([(⟨8, 3, 0, 0⟩ : D.Ins)] : List D.Ins))).length : Int).toNat) (⟨(rd ((((xs42 ++ ([(⟨8, 3, 0, 0⟩ : D.Ins)] : List D.Ins)) ++ ([(⟨10, 3, 0, 0⟩ : D.Ins)] : List D.Ins)) ++ ([(⟨3, 0, 0, 1⟩ : D.Ins), (⟨1, 2, 1, 0⟩ : D.Ins), (⟨4, 3, 3, 2⟩ : D.Ins)] : List D.Ins)) ++ ([(⟨11, 0, (((xs42 ++ ([(⟨8, 3, 0, 0⟩ : D.Ins)] : List D.Ins))).length : Int), 0⟩ : D.Ins)] : List D.Ins)) (((xs42 ++ ([(⟨8, 3, 0, 0⟩ : D.Ins)] : List D.Ins))).length : Int)).Op, (rd ((((xs42 ++ ([(⟨8, 3, 0, 0⟩ : D.Ins)] : List D.Ins)) ++ ([(⟨10, 3, 0, 0⟩ : D.Ins)] : List D.Ins)) ++ ([(⟨3, 0, 0, 1⟩ : D.Ins), (⟨1, 2, 1, 0⟩ : D.Ins), (⟨4, 3, 3, 2⟩ : D.Ins)] : List D.Ins)) ++ ([(⟨11, 0, (((xs42 ++ ([(⟨8, 3, 0, 0⟩ : D.Ins)] : List D.Ins))).length : Int), 0⟩ : D.Ins)] : List D.Ins)) (((xs42 ++ ([(⟨8, 3, 0, 0⟩ : D.Ins)] : List D.Ins))).length : Int)).A, ((((((xs42 ++ ([(⟨8, 3, 0, 0⟩ : D.Ins)] : List D.Ins)) ++ ([(⟨10, 3, 0, 0⟩ : D.Ins)] : List D.Ins)) ++ ([(⟨3, 0, 0, 1⟩ : D.Ins), (⟨1, 2, 1, 0⟩ : D.Ins), (⟨4, 3, 3, 2⟩ : D.Ins)] : List D.Ins)) ++ ([(⟨11, 0, (((xs42 ++ ([(⟨8, 3, 0, 0⟩ : D.Ins)] : List D.Ins))).length : Int), 0⟩ : D.Ins)] : List D.Ins))).length : Int), (rd ((((xs42 ++ ([(⟨8, 3, 0, 0⟩ : D.Ins)] : List D.Ins)) ++ ([(⟨10, 3, 0, 0⟩ : D.Ins)] : List D.Ins)) ++ ([(⟨3, 0, 0, 1⟩ : D.Ins), (⟨1, 2, 1, 0⟩ : D.Ins), (⟨4, 3, 3, 2⟩ : D.Ins)] : List D.Ins)) ++ ([(⟨11, 0, (((xs42 ++ ([(⟨8, 3, 0, 0⟩ : D.Ins)] : List D.Ins))).length : Int), 0⟩ : D.Ins)] : List D.Ins)) (((xs42 ++ ([(⟨8, 3, 0, 0⟩ : D.Ins)] : List D.Ins))).length : Int)).C⟩ : D.Ins)), (wrap .i64 (i45 - 1)), r53.2.i, r53.2.h, ()))))))))) ((M.qex (⟨s0.b, r53.2.i, r53.2.h⟩ : D.Cur) ∧ ∀ r189, r189 = M.qaw (⟨s0.b, r53.2.i, r53.2.h⟩ : D.Cur) → ((xs42.length + ([r189.1] : List D.Ins).length ≤ 17179869184) ∧ next51 ((xs42 ++ ([r189.1] : List D.Ins)), (wrap .i64 (i45 - 1)), r189.2.i, r189.2.h, ()))))))) (Q (xs42, (⟨s0.b, i46, i47⟩ : D.Cur)))) (Q (xs42, (⟨s0.b, i46, i47⟩ : D.Cur)))) (xs1, r21.1, r21.2.i, r21.2.h, ()))
end Go.V
namespace Go.V
open IntKind (wrap)
def qii (i : D.Ins) : Bool := M.isIn i.Op 1 9 && M.qdh i 32
inductive Seg : Nat → List D.Ins → Prop
 | nil (b : Nat) : Seg b []
 | cat {b : Nat} {s t : List D.Ins} : Seg b s → Seg (b + s.length) t → Seg b (s ++ t)
 | one {b : Nat} {i : D.Ins} : qii i = true → Seg b [i]
 | thn {b : Nat} {r : Int} {s : List D.Ins} : 0 ≤ r → r ≤ 3 → Seg (b + 1) s → Seg b (⟨10, r, ((b + 1 + s.length : Nat) : Int), 0⟩ :: s)
 | els {b : Nat} {r : Int} {s t : List D.Ins} : 0 ≤ r → r ≤ 3 → Seg (b + 1) s → Seg (b + 2 + s.length) t → Seg b (⟨10, r, ((b + 2 + s.length : Nat) : Int), 0⟩ :: (s ++ ⟨11, 0, ((b + 2 + s.length + t.length : Nat) : Int), 0⟩ :: t))
 | loop {b : Nat} : b ≤ 14 → Seg b [⟨8, 3, 0, 0⟩, ⟨10, 3, ((b + 6 : Nat) : Int), 0⟩, ⟨3, 0, 0, 1⟩, ⟨1, 2, 1, 0⟩, ⟨4, 3, 3, 2⟩, ⟨11, 0, ((b + 1 : Nat) : Int), 0⟩]
theorem qmA {i : D.Ins} (h : qii i = true) {n : Int} (hn : 0 ≤ n ∧ n ≤ 32) : M.qdh i n = true ∧ M.qcw i = true := by
 unfold qii at h
 rw [Bool.and_eq_true] at h
 obtain ⟨h1, h2⟩ := h
 have h1' := h1
 simp only [M.isIn, Bool.and_eq_true, decide_eq_true_eq] at h1'
 refine ⟨?_, by simp only [M.qcw, M.isIn, Bool.and_eq_true, decide_eq_true_eq]; omega⟩
 have e : M.isIn n 0 32 = true := by simp only [M.isIn, Bool.and_eq_true, decide_eq_true_eq]; omega
 have e32 : M.isIn 32 0 32 = true := by decide
 unfold M.qdh at h2 ⊢
 rw [e, Bool.true_and]
 rw [e32, Bool.true_and] at h2
 rw [if_neg (by omega : ¬ i.Op = 10), if_neg (by omega : ¬ i.Op = 11)] at h2 ⊢
 exact h2
theorem qo6 {b : Nat} {s : List D.Ins} (h : Seg b s) : ∀ n : Nat, b + s.length ≤ n → n ≤ 32 → ∀ i ∈ s, M.qdh i (n : Int) = true ∧ M.qcw i = true := by
 have br : ∀ (n : Nat) (r : Int) (t : Nat), 0 ≤ r → r ≤ 3 → t ≤ n → n ≤ 32 → M.qdh ⟨10, r, ((t : Nat) : Int), 0⟩ (n : Int) = true ∧ M.qcw ⟨10, r, ((t : Nat) : Int), 0⟩ = true := fun n r t h0 h1 h2 h3 => by
  refine ⟨?_, rfl⟩
  simp only [M.qdh, M.qg7, M.isIn, Bool.and_eq_true, decide_eq_true_eq]
  simp
  omega
 have jm : ∀ (n t : Nat), t ≤ n → n ≤ 32 → M.qdh ⟨11, 0, ((t : Nat) : Int), 0⟩ (n : Int) = true ∧ M.qcw ⟨11, 0, ((t : Nat) : Int), 0⟩ = true := fun n t h2 h3 => by
  refine ⟨?_, rfl⟩
  simp only [M.qdh, M.qg7, M.isIn, Bool.and_eq_true, decide_eq_true_eq]
  simp
  omega
 have pl : ∀ (n : Nat) (i : D.Ins), qii i = true → n ≤ 32 → M.qdh i (n : Int) = true ∧ M.qcw i = true := fun n i hi hn => qmA hi ⟨by omega, by omega⟩
 induction h with
 | nil b => intro n _ _ i hi; simp at hi
 | cat _ _ ih1 ih2 =>
  intro n hn h32 i hi
  rw [List.length_append] at hn
  rcases List.mem_append.1 hi with hi | hi
  ·exact ih1 n (by omega) h32 i hi
  ·exact ih2 n (by omega) h32 i hi
 | one hp => intro n hn h32 i hi; rw [List.mem_singleton] at hi; subst hi; exact pl n _ hp h32
 | thn h0 h3 _ ih =>
  intro n hn h32 i hi
  rw [List.length_cons] at hn
  rcases List.mem_cons.1 hi with hi | hi
  ·subst hi; exact br n _ _ h0 h3 (by omega) h32
  ·exact ih n (by omega) h32 i hi
 | els h0 h3 _ _ ih1 ih2 =>
  intro n hn h32 i hi
  rw [List.length_cons, List.length_append, List.length_cons] at hn
  rcases List.mem_cons.1 hi with hi | hi
  ·subst hi; exact br n _ _ h0 h3 (by omega) h32
  rcases List.mem_append.1 hi with hi | hi
  ·exact ih1 n (by omega) h32 i hi
  rcases List.mem_cons.1 hi with hi | hi
  ·subst hi; exact jm n _ (by omega) h32
  ·exact ih2 n (by omega) h32 i hi
 | loop hb =>
  intro n hn h32 i hi
  simp only [List.length_cons, List.length_nil] at hn
  simp only [List.mem_cons, List.not_mem_nil, or_false] at hi
  rcases hi with hi | hi | hi | hi | hi | hi <;> subst hi
  ·exact pl n _ rfl h32
  ·exact br n _ _ (by omega) (by omega) (by omega) h32
  ·exact pl n _ rfl h32
  ·exact pl n _ rfl h32
  ·exact pl n _ rfl h32
  ·exact jm n _ (by omega) h32
theorem qip (c : D.Cur) : qii (M.qaw c).1 = true := by
 unfold qii
 rw [(qlK c (n := 32) ⟨by omega, by omega⟩).1, Bool.and_true]
 have h := qcG c (n := 9) (by omega)
 have e : wrap .i64 (1 + (M.qa0 c 9).1) = 1 + (M.qa0 c 9).1 := w64 (by omega) (by omega)
 have : (M.qaw c).1.Op = 1 + (M.qa0 c 9).1 := by
  unfold M.qaw
  simp only
  rw [e]
  split
  ·rfl
  split
  ·rfl
  split <;> rfl
 rw [this]
 simp only [M.isIn, Bool.and_eq_true, decide_eq_true_eq]
 omega
theorem qlq (c : D.Cur) (n : Int) : (M.once c n).2.b = c.b := qbZ c n
theorem qjO {c : D.Cur} (h : M.qdn c) (n : Int) : M.qdn (M.once c n).2 := qbh h n
theorem qnX {p s : List D.Ins} {x y : D.Ins} : (p ++ x :: s).set p.length y = p ++ y :: s := by
 rw [List.set_append_right _ _ (Nat.le_refl _), Nat.sub_self]; rfl
theorem qjU {p s : List D.Ins} {x : D.Ins} {k : Nat} (hk : p.length = k) (v : Int) : M.setB (p ++ x :: s) k v = p ++ ⟨x.Op, x.A, v, x.C⟩ :: s := by
 subst hk
 unfold M.setB
 rw [qo5 rfl, qnX]
def Grows (L : Nat) (rec : D.Cur → List D.Ins → List D.Ins × D.Cur) : Prop :=
 ∀ (c : D.Cur) (p : List D.Ins), M.qdn c → M.qdn (rec c p).2 ∧ (rec c p).2.b = c.b ∧ ∃ s, (rec c p).1 = p ++ s ∧ Seg p.length s ∧ p.length + s.length ≤ max p.length L
theorem qk1 (p : List D.Ins) : M.qhM p = p ++ [⟨8, 3, 0, 0⟩, ⟨10, 3, ((p.length + 6 : Nat) : Int), 0⟩, ⟨3, 0, 0, 1⟩, ⟨1, 2, 1, 0⟩, ⟨4, 3, 3, 2⟩, ⟨11, 0, ((p.length + 1 : Nat) : Int), 0⟩] := by
 have e : M.qj5 p = (p ++ [⟨8, 3, 0, 0⟩]) ++ (⟨10, 3, 0, 0⟩ : D.Ins) :: [⟨3, 0, 0, 1⟩, ⟨1, 2, 1, 0⟩, ⟨4, 3, 3, 2⟩, ⟨11, 0, ((p.length + 1 : Nat) : Int), 0⟩] := by
  unfold M.qj5 M.qhV; simp
 have l1 : (M.qhV p).length = (p ++ [(⟨8, 3, 0, 0⟩ : D.Ins)]).length := rfl
 have l2 : (M.qj5 p).length = p.length + 6 := by rw [e]; simp
 unfold M.qhM
 rw [l2, e, qjU l1.symm]
 simp
theorem qm0 {L : Nat} {rec : D.Cur → List D.Ins → List D.Ins × D.Cur} (hr : Grows L rec) (hL : 20 ≤ L) {c : D.Cur} (hc : M.qdn c) {p : List D.Ins} (hp : p.length < 20) :
    M.qdn (M.ifIn rec c p).2 ∧ (M.ifIn rec c p).2.b = c.b ∧ ∃ s, (M.ifIn rec c p).1 = p ++ s ∧ Seg p.length s ∧ p.length + s.length ≤ L + 1 := by
 have hreg := qcG c (n := 4) (by omega)
 have c1 := qbh hc 4
 have b1 := qbZ c 4
 obtain ⟨c2, b2, s1, e1, g1, n1⟩ := hr (M.qa0 c 4).2 (p ++ [⟨10, (M.qa0 c 4).1, 0, 0⟩]) c1
 have hb1 : M.qcP rec c p = rec (M.qa0 c 4).2 (p ++ [⟨10, (M.qa0 c 4).1, 0, 0⟩]) := rfl
 rw [← hb1] at c2 b2 e1
 rw [List.length_append, List.length_singleton] at g1 n1
 have e1' : (M.qcP rec c p).1 = p ++ ⟨10, (M.qa0 c 4).1, 0, 0⟩ :: s1 := by rw [e1]; simp
 have l1 : (M.qcP rec c p).1.length = p.length + 1 + s1.length := by rw [e1']; simp; omega
 have c3 := qjO c2 2
 have b3 := qlq (M.qcP rec c p).2 2
 unfold M.ifIn
 split
 ·refine ⟨c3, by rw [b3, b2, b1], _, ?_, Seg.thn (r := (M.qa0 c 4).1) (by omega) (by omega) g1, ?_⟩
  ·show M.setB _ _ _ = _
   rw [l1, e1', qjU rfl]
  ·rw [List.length_cons]; omega
 ·have e2 : M.setB ((M.qcP rec c p).1 ++ [⟨11, 0, 0, 0⟩]) p.length (((M.qcP rec c p).1 ++ [(⟨11, 0, 0, 0⟩ : D.Ins)]).length : Int) = p ++ ⟨10, (M.qa0 c 4).1, ((p.length + 2 + s1.length : Nat) : Int), 0⟩ :: (s1 ++ [⟨11, 0, 0, 0⟩]) := by
    rw [List.length_append, List.length_singleton, l1, e1', List.append_assoc, List.cons_append, qjU rfl]
    congr 4
    omega
  obtain ⟨c4, b4, s2, e3, g2, n2⟩ := hr (M.once (M.qcP rec c p).2 2).2 (p ++ ⟨10, (M.qa0 c 4).1, ((p.length + 2 + s1.length : Nat) : Int), 0⟩ :: (s1 ++ [⟨11, 0, 0, 0⟩])) c3
  have hb2 : M.qh7 rec (M.once (M.qcP rec c p).2 2).2 p (M.qcP rec c p).1 = rec (M.once (M.qcP rec c p).2 2).2 (p ++ ⟨10, (M.qa0 c 4).1, ((p.length + 2 + s1.length : Nat) : Int), 0⟩ :: (s1 ++ [⟨11, 0, 0, 0⟩])) := by
   unfold M.qh7; rw [e2]
  rw [← hb2] at c4 b4 e3
  have lq : (p ++ ⟨10, (M.qa0 c 4).1, ((p.length + 2 + s1.length : Nat) : Int), 0⟩ :: (s1 ++ [(⟨11, 0, 0, 0⟩ : D.Ins)])).length = p.length + 2 + s1.length := by simp; omega
  rw [lq] at g2 n2
  have e3' : (M.qh7 rec (M.once (M.qcP rec c p).2 2).2 p (M.qcP rec c p).1).1 = (p ++ ⟨10, (M.qa0 c 4).1, ((p.length + 2 + s1.length : Nat) : Int), 0⟩ :: s1) ++ ⟨11, 0, 0, 0⟩ :: s2 := by rw [e3]; simp
  have l3 : (M.qh7 rec (M.once (M.qcP rec c p).2 2).2 p (M.qcP rec c p).1).1.length = p.length + 2 + s1.length + s2.length := by rw [e3']; simp; omega
  refine ⟨c4, by rw [b4, b3, b2, b1], _, ?_, Seg.els (r := (M.qa0 c 4).1) (by omega) (by omega) g1 g2, ?_⟩
  ·show M.setB _ _ _ = _
   rw [l3, l1, e3', qjU (by simp; omega)]
   simp
  ·rw [List.length_cons, List.length_append, List.length_cons]; omega
theorem qkI {L : Nat} {rec : D.Cur → List D.Ins → List D.Ins × D.Cur} (hr : Grows L rec) (hL : 20 ≤ L) (deep : Bool) {c : D.Cur} (hc : M.qdn c) {p : List D.Ins} (hp : p.length < 20) :
    M.qdn (M.qer rec deep c p).2 ∧ (M.qer rec deep c p).2.b = c.b ∧ ∃ s, (M.qer rec deep c p).1 = p ++ s ∧ Seg p.length s ∧ p.length + s.length ≤ if deep then L + 1 else 20 := by
 have c1 := qbh hc 5
 have b1 := qbZ c 5
 obtain ⟨B, hB, hB1, hB2⟩ : ∃ B, (if deep then L + 1 else 20) = B ∧ 20 ≤ B ∧ (deep = true → B = L + 1) := ⟨_, rfl, by split <;> omega, fun h => if_pos h⟩
 rw [hB]
 have same : M.qdn (M.qa0 c 5).2 ∧ (M.qa0 c 5).2.b = c.b ∧ ∃ s, p = p ++ s ∧ Seg p.length s ∧ p.length + s.length ≤ B :=
  ⟨c1, b1, [], by simp, Seg.nil _, by simp only [List.length_nil]; omega⟩
 unfold M.qer
 split
 ·split
  ·rename_i hd
   obtain ⟨g1, g2, s, g3, g4, g5⟩ := qm0 hr hL c1 hp
   exact ⟨g1, by rw [g2, b1], s, g3, g4, by rw [hB2 hd]; exact g5⟩
  ·exact same
 split
 ·split
  ·rename_i hd
   refine ⟨c1, b1, _, qk1 p, Seg.loop (by omega), ?_⟩
   have := hB2 hd.1
   simp only [List.length_cons, List.length_nil]
   omega
  ·exact same
 ·refine ⟨qlm c1, by rw [qmN, b1], _, rfl, Seg.one (qip _), ?_⟩
  simp only [List.length_cons, List.length_nil]
  omega
theorem qhs {L : Nat} {rec : D.Cur → List D.Ins → List D.Ins × D.Cur} (hr : Grows L rec) (hL : 20 ≤ L) (deep : Bool) : ∀ n, Grows (if deep then L + 1 else 20) (M.qis rec deep n)
 | 0, c, p, hc => ⟨hc, rfl, [], by simp [M.qis], Seg.nil _, by simp only [List.length_nil]; omega⟩
 | n + 1, c, p, hc => by
  rw [M.qis]
  split
  ·rename_i hp
   obtain ⟨g1, g2, s, g3, g4, g5⟩ := qkI hr hL deep hc (p := p) (by omega)
   obtain ⟨k1, k2, t, k3, k4, k5⟩ := qhs hr hL deep n (M.qer rec deep c p).2 (M.qer rec deep c p).1 g1
   rw [g3, List.length_append] at k4 k5
   refine ⟨k1, by rw [k2, g2], s ++ t, by rw [k3, g3, List.append_assoc], Seg.cat g4 k4, ?_⟩
   rw [List.length_append]
   have : p.length ≤ if deep = true then L + 1 else 20 := by split <;> omega
   omega
  ·exact ⟨hc, rfl, [], by simp, Seg.nil _, by simp only [List.length_nil]; omega⟩
theorem qm5 {L K : Nat} {rec : D.Cur → List D.Ins → List D.Ins × D.Cur} (h : Grows L rec) (hk : L ≤ K) : Grows K rec := fun c p hc => by
 obtain ⟨g1, g2, s, g3, g4, g5⟩ := h c p hc
 exact ⟨g1, g2, s, g3, g4, by omega⟩
theorem qlp : Grows 20 (fun c p => (p, c)) := fun c p hc => ⟨hc, rfl, [], by simp, Seg.nil _, by simp only [List.length_nil]; omega⟩
theorem qgP : ∀ d, Grows (20 + d) (M.body d)
 | 0, c, p, hc => by
  obtain ⟨g1, g2, r⟩ := qhs qlp (Nat.le_refl _) false (M.qa0 c 4).1.toNat (M.qa0 c 4).2 p (qbh hc 4)
  exact ⟨g1, g2.trans (qbZ c 4), r⟩
 | d + 1, c, p, hc => by
  obtain ⟨g1, g2, r⟩ := qhs (qgP d) (by omega) true (M.qa0 c 4).1.toNat (M.qa0 c 4).2 p (qbh hc 4)
  exact ⟨g1, g2.trans (qbZ c 4), r⟩
end Go.V
namespace Go.V
open IntKind (wrap)
theorem qlY {p : List D.Ins} {x : D.Warp} (h : M.Fine p x) : x.Frames.length ≤ 24 ∧ x.Regs.length = 32 := by
 have hw := h.2
 simp only [M.qfo, M.qdJ, Bool.and_eq_true, Bool.or_eq_true, beq_iff_eq] at hw
 obtain ⟨h1, h2, h3, h4, h5⟩ := hw
 refine ⟨?_, h2⟩
 rcases h5 with h5 | h5
 ·have : x.Frames = [] := by simpa using h5
  rw [this]; simp
 ·simp only [M.qhL, Bool.and_eq_true, decide_eq_true_eq] at h5
  exact h5.1
end Go.V
namespace Go.V
open IntKind (wrap)
theorem wp.qcz.math (c : D.Cur) (n : Int) (h : M.qeM c n) : wp.qcz c n (fun r => r = M.qcz c n) := by
 refine ⟨h, fun r hr => ?_⟩
 rw [hr, qcf (qbZ c n)]; rfl
theorem qaQ.dec {c : D.Cur} {p : List D.Ins} {x : Int} (h : M.qdA c p x) (e : (x == 0) = false) : (wrap .i64 (x - 1)).toNat < x.toNat := by
 obtain ⟨_, _, h3, h4⟩ := h
 have e : x ≠ 0 := by simpa using e
 rw [w64 (by omega) (by omega)]; omega
def itB (rec : D.Cur → List D.Ins → List D.Ins × D.Cur) (deep : Bool) : Nat → D.Cur → List D.Ins → List D.Ins × D.Cur
 | 0, c, p => (p, c)
 | k + 1, c, p => M.qer rec deep (itB rec deep k c p).2 (itB rec deep k c p).1
def qgI : Nat → D.Cur → List D.Ins → List D.Ins × D.Cur
 | 0 => fun c p => (p, c)
 | d + 1 => M.body d
def qeD : Nat → Bool
 | 0 => false
 | _ + 1 => true
theorem qnA (d : Nat) (c : D.Cur) (p : List D.Ins) : M.body d c p = M.qis (qgI d) (qeD d) (M.qa0 c 4).1.toNat (M.qa0 c 4).2 p := by cases d <;> rfl
theorem ql1 : ∀ d, Grows (20 + d) (qgI d)
 | 0 => qlp
 | d + 1 => qm5 (qgP d) (by omega)
theorem wp.qaQ.math (c : D.Cur) (p : List D.Ins) (x : Int) (h : M.qdA c p x) : wp.qaQ c p x (fun r => r = M.qaQ c p x) := by
 obtain ⟨h1, h2, h3, h4⟩ := h
 obtain ⟨d, rfl⟩ := Int.eq_ofNat_of_zero_le h3
 unfold wp.qaQ
 refine ⟨h1, fun r0 g0 => ?_⟩
 subst g0
 have hb := qcG c (n := 4) (by omega)
 have hc0 := qbh h1 4
 have hb0 := qbZ c 4
 have eM : M.qaQ c p (d : Int) = M.qis (qgI d) (qeD d) (M.qa0 c 4).1.toNat (M.qa0 c 4).2 p := by
  unfold M.qaQ
  rw [Int.toNat_natCast, qnA]
 rw [eM]
 obtain ⟨n, hn⟩ := Int.eq_ofNat_of_zero_le hb.1
 generalize (M.qa0 c 4).2 = c0 at *
 rw [hn] at hb ⊢
 rw [Int.toNat_natCast]
 refine qd2 n (fun k => ((itB (qgI d) (qeD d) k c0 p).1, ((n : Int) - (k : Int)), (itB (qgI d) (qeD d) k c0 p).2.i, (itB (qgI d) (qeD d) k c0 p).2.h, ()))
  (fun k => M.qdn (itB (qgI d) (qeD d) k c0 p).2 ∧ (itB (qgI d) (qeD d) k c0 p).2.b = c.b ∧ (k ≤ n → M.qis (qgI d) (qeD d) n c0 p = M.qis (qgI d) (qeD d) (n - k) (itB (qgI d) (qeD d) k c0 p).2 (itB (qgI d) (qeD d) k c0 p).1))
  (by simp [itB]) ⟨hc0, hb0, fun _ => rfl⟩ (fun k hk hF next hnx => ?_) fun hF next => ?_
 ·obtain ⟨f1, f2, f3⟩ := hF
  have f3 := f3 (by omega)
  have it : itB (qgI d) (qeD d) (k + 1) c0 p = M.qer (qgI d) (qeD d) (itB (qgI d) (qeD d) k c0 p).2 (itB (qgI d) (qeD d) k c0 p).1 := rfl
  rw [it] at hnx
  generalize itB (qgI d) (qeD d) k c0 p = y at *
  obtain ⟨q, e⟩ := y
  dsimp only at *
  refine qaA (by simp; omega) (qa2 (fun g => ?_) fun g => ?_)
  ·have g : (q.length : Int) < 20 := by simpa using g
   obtain ⟨k1, k2, s, k3, k4, k5⟩ := qkI (ql1 d) (by omega) (qeD d) f1 (p := q) (by omega)
   have ew : wrap .i64 ((n : Int) - (k : Int) - 1) = (n : Int) - ((k + 1 : Nat) : Int) := by rw [w64 (by omega) (by omega)]; omega
   have fin : ∀ P c', M.qer (qgI d) (qeD d) e q = (P, c') → next (P, wrap .i64 ((n : Int) - (k : Int) - 1), c'.i, c'.h, ()) := fun P c' hE => by
    rw [ew]
    have := hnx ⟨k1, k2.trans f2, fun _ => ?_⟩
    ·rw [hE] at this; exact this
    ·rw [f3, show n - k = (n - (k + 1)) + 1 by omega, M.qis, if_pos g]
   rw [qcf f2]
   refine ⟨f1, fun r5 g5 => ?_⟩
   subst g5
   have c5 := qbh f1 5
   have b5 : (M.qa0 e 5).2.b = c.b := (qbZ e 5).trans f2
   rw [qcf b5]
   have hb5 := qcG e (n := 5) (by omega)
   refine qa2 (fun e0 => ?_) fun e0 => qa2 (fun e1 => ?_) fun e1 => ?_
   ·have e0 : (M.qa0 e 5).1 = 0 := by simpa using e0
    cases d with
    | zero =>
     refine qaA rfl (fin _ _ ?_)
     unfold M.qer
     rw [if_pos e0]; rfl
    | succ d =>
     refine qax (by simp; omega) ?_
     have hM : M.qer (qgI (d + 1)) (qeD (d + 1)) e q = M.ifIn (M.body d) (M.qa0 e 5).2 q := by
      unfold M.qer
      rw [if_pos e0]; rfl
     rw [hM] at fin
     generalize (M.qa0 e 5).2 = e5 at *
     refine ⟨c5, fun r6 g6 => ?_⟩
     subst g6
     have c6 := qbh c5 4
     have b6 : (M.qa0 e5 4).2.b = c.b := (qbZ e5 4).trans b5
     have ed : wrap .i64 (((d + 1 : Nat) : Int) - 1) = (d : Int) := by rw [w64 (by omega) (by omega)]; omega
     have hbody : ∀ c p, M.qaQ c p (d : Int) = M.body d c p := fun c p => by unfold M.qaQ; rw [Int.toNat_natCast]
     simp only [qcf b6, ed, hbody]
     obtain ⟨i1, i2, s1, i3, i4, i5⟩ := qgP d (M.qa0 e5 4).2 (q ++ [⟨10, (M.qa0 e5 4).1, 0, 0⟩]) c6
     rw [List.length_append, List.length_singleton] at i5
     refine ⟨by simp; omega, ⟨c6, by simp; omega, by omega, by omega⟩, fun r7 g7 => ?_⟩
     have hbr : M.qcP (M.body d) e5 q = M.body d (M.qa0 e5 4).2 (q ++ [⟨10, (M.qa0 e5 4).1, 0, 0⟩]) := rfl
     rw [← g7] at hbr i1 i2 i3
     have hE : M.ifIn (M.body d) e5 q = if (M.once r7.2 2).1 then (M.setB r7.1 q.length (r7.1.length : Int), (M.once r7.2 2).2)
         else (M.setB (M.qh7 (M.body d) (M.once r7.2 2).2 q r7.1).1 r7.1.length ((M.qh7 (M.body d) (M.once r7.2 2).2 q r7.1).1.length : Int), (M.qh7 (M.body d) (M.once r7.2 2).2 q r7.1).2) := by
      unfold M.ifIn; rw [hbr]
     rw [hE] at fin
     have b7 : r7.2.b = c.b := i2.trans b6
     have l7 : r7.1.length = q.length + 1 + s1.length := by rw [i3]; simp; omega
     rw [qcf b7]
     refine ⟨i1, fun r8 g8 => ?_⟩
     have g8 : r8 = M.once r7.2 2 := g8
     rw [← g8] at fin
     have c8 : M.qdn r8.2 := by rw [g8]; exact qjO i1 2
     have b8 : r8.2.b = c.b := by rw [g8]; exact (qlq _ _).trans b7
     refine qa2 (fun t => ⟨by omega, ?_⟩) fun t => ⟨by simp; omega, by simp; omega, ?_⟩
     ·refine fin _ _ ?_
      rw [if_pos t, Int.toNat_natCast]; rfl
     ·rw [if_neg (by rw [t]; simp)] at fin
      simp only [qcf b8]
      have hel : M.qh7 (M.body d) r8.2 q r7.1 = M.body d r8.2 (List.set (r7.1 ++ [(⟨11, 0, 0, 0⟩ : D.Ins)]) ((q.length : Int).toNat) (⟨(rd (r7.1 ++ [(⟨11, 0, 0, 0⟩ : D.Ins)]) (q.length : Int)).Op, (rd (r7.1 ++ [(⟨11, 0, 0, 0⟩ : D.Ins)]) (q.length : Int)).A, ((r7.1 ++ [(⟨11, 0, 0, 0⟩ : D.Ins)]).length : Int), (rd (r7.1 ++ [(⟨11, 0, 0, 0⟩ : D.Ins)]) (q.length : Int)).C⟩ : D.Ins)) := by
       rw [Int.toNat_natCast]; rfl
      obtain ⟨j1, j2, s2, j3, j4, j5⟩ := qgP d r8.2 (List.set (r7.1 ++ [(⟨11, 0, 0, 0⟩ : D.Ins)]) ((q.length : Int).toNat) (⟨(rd (r7.1 ++ [(⟨11, 0, 0, 0⟩ : D.Ins)]) (q.length : Int)).Op, (rd (r7.1 ++ [(⟨11, 0, 0, 0⟩ : D.Ins)]) (q.length : Int)).A, ((r7.1 ++ [(⟨11, 0, 0, 0⟩ : D.Ins)]).length : Int), (rd (r7.1 ++ [(⟨11, 0, 0, 0⟩ : D.Ins)]) (q.length : Int)).C⟩ : D.Ins)) c8
      refine ⟨⟨c8, by simp; omega, by omega, by omega⟩, fun r9 g9 => ?_⟩
      rw [← hel] at g9 j3
      rw [← g9] at fin j3
      refine ⟨?_, ?_⟩
      ·have : r9.1.length = r7.1.length + 1 + s2.length := by rw [j3, List.length_append, List.length_set, List.length_append]; rfl
       omega
      ·refine fin _ _ ?_
       rw [Int.toNat_natCast]; rfl
   ·have e0 : ¬ (M.qa0 e 5).1 = 0 := by simpa using e0
    have e1 : (M.qa0 e 5).1 = 1 := by simpa using e1
    have hM : M.qer (qgI d) (qeD d) e q = if qeD d ∧ ¬ (q.length : Int) > 14 then (M.qhM q, (M.qa0 e 5).2) else (q, (M.qa0 e 5).2) := by
     unfold M.qer
     rw [if_neg e0, if_pos e1]
    rw [hM] at fin
    cases d with
    | zero =>
     refine qaA rfl (fin _ _ ?_)
     rw [if_neg (by simp [qeD])]
    | succ d =>
     refine qax (by simp; omega) (qa2 (fun g14 => fin _ _ ?_) fun g14 => ?_)
     ·have g14 : (q.length : Int) > 14 := by simpa using g14
      rw [if_neg (by simp only [not_and, Int.not_lt]; omega)]
     ·have g14 : ¬ (q.length : Int) > 14 := by simpa using g14
      refine ⟨by simp; omega, by simp; omega, by simp; omega, by simp; omega, by simp; omega, fin _ _ ?_⟩
      rw [if_pos ⟨rfl, g14⟩, Int.toNat_natCast]; rfl
   ·have e0 : ¬ (M.qa0 e 5).1 = 0 := by simpa using e0
    have e1 : ¬ (M.qa0 e 5).1 = 1 := by simpa using e1
    refine ⟨c5, fun r6 g6 => ⟨by simp; omega, fin _ _ ?_⟩⟩
    unfold M.qer
    rw [if_neg e0, if_neg e1, g6]
  ·have g : ¬ (q.length : Int) < 20 := by simpa using g
   rw [f3, show n - k = (n - (k + 1)) + 1 by omega, M.qis, if_neg g, qcf f2]
 ·obtain ⟨f1, f2, f3⟩ := hF
  refine qax (by simp) ?_
  rw [f3 (Nat.le_refl _), Nat.sub_self, qcf f2]; rfl
end Go.V
namespace Go.V
open IntKind (wrap)
def memI (i : D.Ins) : Bool := M.isIn i.Op 13 16 && M.qdh i 32
inductive MSeg : Nat → List D.Ins → Prop
 | nil (b : Nat) : MSeg b []
 | cat {b : Nat} {s t : List D.Ins} : MSeg b s → MSeg (b + s.length) t → MSeg b (s ++ t)
 | seg {b : Nat} {s : List D.Ins} : Seg b s → MSeg b s
 | mem {b : Nat} {i : D.Ins} : memI i = true → MSeg b [i]
theorem qnO {i : D.Ins} (h : memI i = true) {n : Int} (hn : 0 ≤ n ∧ n ≤ 32) : M.qdh i n = true := by
 unfold memI at h
 rw [Bool.and_eq_true] at h
 obtain ⟨h1, h2⟩ := h
 simp only [M.isIn, Bool.and_eq_true, decide_eq_true_eq] at h1
 have e : M.isIn n 0 32 = true := by simp only [M.isIn, Bool.and_eq_true, decide_eq_true_eq]; omega
 have e32 : M.isIn 32 0 32 = true := by decide
 unfold M.qdh at h2 ⊢
 rw [e, Bool.true_and]
 rw [e32, Bool.true_and] at h2
 rw [if_neg (by omega : ¬ i.Op = 10), if_neg (by omega : ¬ i.Op = 11)] at h2 ⊢
 exact h2
theorem qnq {b : Nat} {s : List D.Ins} (h : MSeg b s) : ∀ n : Nat, b + s.length ≤ n → n ≤ 32 → ∀ i ∈ s, M.qdh i (n : Int) = true := by
 induction h with
 | nil b => intro n _ _ i hi; simp at hi
 | cat _ _ ih1 ih2 =>
  intro n hn h32 i hi
  rw [List.length_append] at hn
  rcases List.mem_append.1 hi with hi | hi
  ·exact ih1 n (by omega) h32 i hi
  ·exact ih2 n (by omega) h32 i hi
 | seg hs => intro n hn h32 i hi; exact (qo6 hs n hn h32 i hi).1
 | mem hm => intro n hn h32 i hi; rw [List.mem_singleton] at hi; subst hi; exact qnO hm ⟨by omega, by omega⟩
theorem qlk (c : D.Cur) {l : List Int} (h : l ≠ []) : (M.qap c l).1 ∈ l := by
 have hpos : (0 : Int) < (l.length : Int) := by have := List.length_pos_iff.2 h; omega
 have := qcG c hpos
 exact qjr this.1 this.2
theorem qnU (c : D.Cur) : memI (M.qbA c).1 = true := by
 have h1 := qlk c (l := [13, 14, 15]) (by simp)
 have h2 := qcG (M.qap c [13, 14, 15]).2 (n := 4) (by omega)
 have h3 := qcG (M.qa0 (M.qap c [13, 14, 15]).2 4).2 (n := 4) (by omega)
 unfold M.qbA
 simp only [List.mem_cons, List.not_mem_nil, or_false] at h1
 simp only [memI, M.qdh, M.qg7, M.isIn, Bool.and_eq_true, decide_eq_true_eq]
 rcases h1 with h1 | h1 | h1 <;> (rw [h1]; simp; omega)
theorem qkk {a x : Int} (ha : 0 ≤ a ∧ a ≤ 3) (hx : 0 ≤ x ∧ x ≤ 65535) : qii ⟨1, a, x, 0⟩ = true := by
 simp only [qii, M.qdh, M.qg7, M.isWord, M.isIn, Bool.and_eq_true, decide_eq_true_eq]
 simp
 omega
theorem qmL {op a x : Int} (ho : op = 13 ∨ op = 14 ∨ op = 15) (ha : 0 ≤ a ∧ a ≤ 3) (hx : 0 ≤ x ∧ x ≤ 3) : memI ⟨op, a, x, 0⟩ = true := by
 simp only [memI, M.qdh, M.qg7, M.isIn, Bool.and_eq_true, decide_eq_true_eq]
 rcases ho with rfl | rfl | rfl <;> (simp; omega)
theorem qhH {c : D.Cur} (hc : M.qdn c) {p : List D.Ins} (hp : p.length ≤ 28) : M.qdn (M.qfX c p).2 ∧ (M.qfX c p).2.b = c.b ∧ ∃ s, (M.qfX c p).1 = p ++ s ∧ MSeg p.length s ∧ p.length + s.length ≤ 32 := by
 have c1 := qbh hc 7
 have b1 := qbZ c 7
 unfold M.qfX
 generalize (M.qa0 c 7).2 = d at *
 split
 ·exact ⟨c1, b1, _, rfl, .mem rfl, by simp; omega⟩
 split
 ·have hr := qcG d (n := 4) (by omega)
  exact ⟨qbh c1 4, (qbZ d 4).trans b1, _, rfl, .cat (.seg (.one rfl)) (.mem (qmL (by omega) (by omega) (by omega))) (s := [⟨8, 0, 0, 0⟩]), by simp [M.qj2]; omega⟩
 split
 ·have h1 := qlk d (l := [1, 8, 31]) (by simp)
  simp only [List.mem_cons, List.not_mem_nil, or_false] at h1
  refine ⟨qjZ c1 _, (qkp d _).trans b1, _, rfl, ?_, by simp [M.qjR]; omega⟩
  refine .cat (s := [⟨1, 1, (M.qap d [1, 8, 31]).1, 0⟩]) (.seg (.one (qkk (by omega) (by omega)))) ?_
  refine .cat (s := [⟨8, 0, 0, 0⟩]) (.seg (.one rfl)) (.cat (s := [⟨3, 0, 0, 1⟩]) (.seg (.one rfl)) (.mem rfl))
 split
 ·have h1 := qcG d (n := 8) (by omega)
  have h2 := qcG (M.qa0 d 8).2 (n := 4) (by omega)
  refine ⟨qbh (qbh c1 8) 4, (qbZ _ 4).trans ((qbZ d 8).trans b1), _, rfl, ?_, by simp [M.qkh]; omega⟩
  exact .cat (s := [⟨1, 1, 24 + (M.qa0 d 8).1, 0⟩]) (.seg (.one (qkk (by omega) (by omega)))) (.mem (qmL (by omega) (by omega) (by omega)))
 split
 ·split
  ·obtain ⟨g1, g2, s, g3, g4, g5⟩ := qgP 1 d p c1
   exact ⟨g1, g2.trans b1, s, g3, .seg g4, by omega⟩
  ·exact ⟨c1, b1, [], by simp, .nil _, by simp; omega⟩
 split
 ·refine ⟨qbh (qbh (qjZ c1 _) 4) 4, (qbZ _ 4).trans ((qbZ _ 4).trans ((qkp d _).trans b1)), _, rfl, .mem (qnU d), by simp; omega⟩
 ·exact ⟨qlm c1, (qmN d).trans b1, _, rfl, .seg (.one (qip d)), by simp; omega⟩
theorem qjb : ∀ (n : Nat) (c : D.Cur) (p : List D.Ins), M.qdn c → p.length ≤ 32 → M.qdn (M.qhD n c p).2 ∧ (M.qhD n c p).2.b = c.b ∧ ∃ s, (M.qhD n c p).1 = p ++ s ∧ MSeg p.length s ∧ p.length + s.length ≤ 32
 | 0, c, p, hc, hp => ⟨hc, rfl, [], by simp [M.qhD], .nil _, by simpa using hp⟩
 | n + 1, c, p, hc, hp => by
  rw [M.qhD]
  split
  ·rename_i h
   obtain ⟨g1, g2, s, g3, g4, g5⟩ := qhH hc (p := p) (by omega)
   obtain ⟨k1, k2, t, k3, k4, k5⟩ := qjb n (M.qfX c p).2 (M.qfX c p).1 g1 (by rw [g3, List.length_append]; exact g5)
   rw [g3, List.length_append] at k4 k5
   exact ⟨k1, k2.trans g2, s ++ t, by rw [k3, g3, List.append_assoc], .cat g4 k4, by rw [List.length_append]; omega⟩
  ·exact ⟨hc, rfl, [], by simp, .nil _, by simpa using hp⟩
theorem qix {c : D.Cur} (h : M.qdn c) : M.qdn (M.qa7 c).2 ∧ (M.qa7 c).2.b = c.b ∧ MSeg 0 (M.qa7 c).1 ∧ (M.qa7 c).1.length ≤ 32 ∧ 1 ≤ (M.qa7 c).1.length := by
 obtain ⟨g1, g2, s, g3, g4, g5⟩ := qjb (1 + (M.qa0 c 5).1).toNat (M.qa0 c 5).2 [⟨8, 0, 0, 0⟩] (qbh h 5) (by simp)
 refine ⟨g1, g2.trans (qbZ c 5), ?_, ?_, ?_⟩
 ·show MSeg 0 (M.qhD _ _ _).1
  rw [g3]
  exact .cat (.seg (.one rfl)) g4
 ·show (M.qhD _ _ _).1.length ≤ 32
  rw [g3, List.length_append]; exact g5
 ·show 1 ≤ (M.qhD _ _ _).1.length
  rw [g3, List.length_append]; simp
theorem qiN {c : D.Cur} (h : M.qdn c) : M.qaT (M.qa7 c).1 = true := by
 obtain ⟨_, _, g3, g4, _⟩ := qix h
 unfold M.qaT
 rw [Bool.and_eq_true, List.all_eq_true, decide_eq_true_eq]
 exact ⟨g4, qnq g3 _ (by omega) g4⟩
end Go.V
namespace Go.V
open IntKind (wrap)
theorem qmR {b : List Int} (h : M.Long b) {k n : Int} (h0 : 0 ≤ k) (hk : k < 12) (hn : 0 < n) : 0 ≤ Int.tmod (rd (M.qbb b) k) n ∧ Int.tmod (rd (M.qbb b) k) n < n := by
 have hpl : (M.qbb b).length = 12 := qhk 12 _
 have := qiP 12 (M.qaB b) _ (qjr (xs := M.qbb b) (i := k) h0 (by omega))
 exact qle this.1 hn
end Go.V
namespace Go.V
open IntKind (wrap)
def wp.qbA (s0 : D.Cur) (Q : (D.Ins × D.Cur) → Prop) : Prop :=
 (M.qdQ s0 ([13, 14, 15] : List Int) ∧ ∀ r26, r26 = M.qap s0 ([13, 14, 15] : List Int) → (M.qaq (⟨s0.b, r26.2.i, r26.2.h⟩ : D.Cur) 4 ∧ ∀ r32, r32 = M.qa0 (⟨s0.b, r26.2.i, r26.2.h⟩ : D.Cur) 4 → (M.qaq (⟨s0.b, r32.2.i, r32.2.h⟩ : D.Cur) 4 ∧ ∀ r38, r38 = M.qa0 (⟨s0.b, r32.2.i, r32.2.h⟩ : D.Cur) 4 → Q ((⟨r26.1, r32.1, r38.1, 0⟩ : D.Ins), (⟨s0.b, r38.2.i, r38.2.h⟩ : D.Cur)))))
def wp.qa7 (s0 : D.Cur) (Q : ((List D.Ins) × D.Cur) → Prop) : Prop :=
 (M.qaq s0 5 ∧ ∀ r24, r24 = M.qa0 s0 5 → qd4 (σ := (List D.Ins) × Int × Int × Int × Unit) (fun (p198 : (List D.Ins) × Int × Int × Int × Unit) next62 => match p198 with | (xs53, i56, i57, i58, _) => bcase (decide (i56 > 0)) (bcase (decide ((wrap .i64 ((xs53.length : Int) + 4)) ≤ 32)) ((M.qaq (⟨s0.b, i57, i58⟩ : D.Cur) 7 ∧ ∀ r64, r64 = M.qa0 (⟨s0.b, i57, i58⟩ : D.Cur) 7 → bcase (r64.1 == 0) (((xs53.length + ([(⟨16, 0, 0, 0⟩ : D.Ins)] : List D.Ins).length ≤ 17179869184) ∧ next62 ((xs53 ++ ([(⟨16, 0, 0, 0⟩ : D.Ins)] : List D.Ins)), (wrap .i64 (i56 - 1)), r64.2.i, r64.2.h, ()))) (bcase (r64.1 == 1) ((M.qaq (⟨s0.b, r64.2.i, r64.2.h⟩ : D.Cur) 4 ∧ ∀ r81, r81 = M.qa0 (⟨s0.b, r64.2.i, r64.2.h⟩ : D.Cur) 4 → ((xs53.length + ([(⟨8, 0, 0, 0⟩ : D.Ins), (⟨14, 0, r81.1, 0⟩ : D.Ins)] : List D.Ins).length ≤ 17179869184) ∧ next62 ((xs53 ++ ([(⟨8, 0, 0, 0⟩ : D.Ins), (⟨14, 0, r81.1, 0⟩ : D.Ins)] : List D.Ins)), (wrap .i64 (i56 - 1)), r81.2.i, r81.2.h, ())))) (bcase (r64.1 == 2) ((M.qdQ (⟨s0.b, r64.2.i, r64.2.h⟩ : D.Cur) ([1, 8, 31] : List Int) ∧ ∀ r101, r101 = M.qap (⟨s0.b, r64.2.i, r64.2.h⟩ : D.Cur) ([1, 8, 31] : List Int) → ((xs53.length + ([(⟨1, 1, r101.1, 0⟩ : D.Ins), (⟨8, 0, 0, 0⟩ : D.Ins), (⟨3, 0, 0, 1⟩ : D.Ins), (⟨13, 2, 0, 0⟩ : D.Ins)] : List D.Ins).length ≤ 17179869184) ∧ next62 ((xs53 ++ ([(⟨1, 1, r101.1, 0⟩ : D.Ins), (⟨8, 0, 0, 0⟩ : D.Ins), (⟨3, 0, 0, 1⟩ : D.Ins), (⟨13, 2, 0, 0⟩ : D.Ins)] : List D.Ins)), (wrap .i64 (i56 - 1)), r101.2.i, r101.2.h, ())))) (bcase (r64.1 == 3) ((M.qaq (⟨s0.b, r64.2.i, r64.2.h⟩ : D.Cur) 8 ∧ ∀ r118, r118 = M.qa0 (⟨s0.b, r64.2.i, r64.2.h⟩ : D.Cur) 8 → (M.qaq (⟨s0.b, r118.2.i, r118.2.h⟩ : D.Cur) 4 ∧ ∀ r124, r124 = M.qa0 (⟨s0.b, r118.2.i, r118.2.h⟩ : D.Cur) 4 → ((xs53.length + ([(⟨1, 1, (wrap .i64 (24 + r118.1)), 0⟩ : D.Ins), (⟨15, 1, r124.1, 0⟩ : D.Ins)] : List D.Ins).length ≤ 17179869184) ∧ next62 ((xs53 ++ ([(⟨1, 1, (wrap .i64 (24 + r118.1)), 0⟩ : D.Ins), (⟨15, 1, r124.1, 0⟩ : D.Ins)] : List D.Ins)), (wrap .i64 (i56 - 1)), r124.2.i, r124.2.h, ()))))) (bcase (r64.1 == 4) (bcase (decide ((xs53.length : Int) < 12)) ((M.qdA (⟨s0.b, r64.2.i, r64.2.h⟩ : D.Cur) xs53 1 ∧ ∀ r141, r141 = M.qaQ (⟨s0.b, r64.2.i, r64.2.h⟩ : D.Cur) xs53 1 → next62 (r141.1, (wrap .i64 (i56 - 1)), r141.2.i, r141.2.h, ()))) (next62 (xs53, (wrap .i64 (i56 - 1)), r64.2.i, r64.2.h, ()))) (bcase (r64.1 == 5) ((M.qf9 (⟨s0.b, r64.2.i, r64.2.h⟩ : D.Cur) ∧ ∀ r156, r156 = M.qbA (⟨s0.b, r64.2.i, r64.2.h⟩ : D.Cur) → ((xs53.length + ([r156.1] : List D.Ins).length ≤ 17179869184) ∧ next62 ((xs53 ++ ([r156.1] : List D.Ins)), (wrap .i64 (i56 - 1)), r156.2.i, r156.2.h, ())))) ((M.qex (⟨s0.b, r64.2.i, r64.2.h⟩ : D.Cur) ∧ ∀ r173, r173 = M.qaw (⟨s0.b, r64.2.i, r64.2.h⟩ : D.Cur) → ((xs53.length + ([r173.1] : List D.Ins).length ≤ 17179869184) ∧ next62 ((xs53 ++ ([r173.1] : List D.Ins)), (wrap .i64 (i56 - 1)), r173.2.i, r173.2.h, ()))))))))))) (Q (xs53, (⟨s0.b, i57, i58⟩ : D.Cur)))) (Q (xs53, (⟨s0.b, i57, i58⟩ : D.Cur)))) (([(⟨8, 0, 0, 0⟩ : D.Ins)] : List D.Ins), (wrap .i64 (1 + r24.1)), r24.2.i, r24.2.h, ()))
end Go.V
namespace Go.V
open IntKind (wrap)
theorem wp.qbA.math (c : D.Cur) (h : M.qf9 c) : wp.qbA c (fun r => r = M.qbA c) := by
 have h : M.qdn c := h
 refine ⟨⟨h, by simp, by simp⟩, fun r hr => ?_⟩
 subst hr
 have c1 := qjZ h [13, 14, 15]
 have b1 := qkp c [13, 14, 15]
 rw [qcf b1]
 refine ⟨c1, fun r hr => ?_⟩
 subst hr
 have b2 := (qbZ (M.qap c [13, 14, 15]).2 4).trans b1
 rw [qcf b2]
 refine ⟨qbh c1 4, fun r hr => ?_⟩
 subst hr
 rw [qcf ((qbZ _ 4).trans b2)]; rfl
def itP : Nat → D.Cur → List D.Ins → List D.Ins × D.Cur
 | 0, c, p => (p, c)
 | k + 1, c, p => M.qfX (itP k c p).2 (itP k c p).1
theorem wp.qa7.math (c : D.Cur) (h : M.qf2 c) : wp.qa7 c (fun r => r = M.qa7 c) := by
 have h : M.qdn c := h
 unfold wp.qa7
 refine ⟨h, fun r0 g0 => ?_⟩
 subst g0
 have hb := qcG c (n := 5) (by omega)
 have hc0 := qbh h 5
 have hb0 := qbZ c 5
 rw [w64 (x := 1 + (M.qa0 c 5).1) (by omega) (by omega)]
 show qd4 _ _
 have eM : M.qa7 c = M.qhD (1 + (M.qa0 c 5).1).toNat (M.qa0 c 5).2 [⟨8, 0, 0, 0⟩] := rfl
 rw [eM]
 obtain ⟨n, hn⟩ := Int.eq_ofNat_of_zero_le (show 0 ≤ 1 + (M.qa0 c 5).1 by omega)
 have hnb : n ≤ 5 := by omega
 generalize (M.qa0 c 5).2 = c0 at *
 rw [hn, Int.toNat_natCast]
 refine qd2 n (fun k => ((itP k c0 [⟨8, 0, 0, 0⟩]).1, ((n : Int) - (k : Int)), (itP k c0 [⟨8, 0, 0, 0⟩]).2.i, (itP k c0 [⟨8, 0, 0, 0⟩]).2.h, ()))
  (fun k => M.qdn (itP k c0 [⟨8, 0, 0, 0⟩]).2 ∧ (itP k c0 [⟨8, 0, 0, 0⟩]).2.b = c.b ∧ (itP k c0 [⟨8, 0, 0, 0⟩]).1.length ≤ 32 ∧ (k ≤ n → M.qhD n c0 [⟨8, 0, 0, 0⟩] = M.qhD (n - k) (itP k c0 [⟨8, 0, 0, 0⟩]).2 (itP k c0 [⟨8, 0, 0, 0⟩]).1))
  (by simp [itP]) ⟨hc0, hb0, by simp [itP], fun _ => rfl⟩ (fun k hk hF next hnx => ?_) fun hF next => ?_
 ·obtain ⟨f1, f2, fl, f3⟩ := hF
  have f3 := f3 (by omega)
  have it : itP (k + 1) c0 [⟨8, 0, 0, 0⟩] = M.qfX (itP k c0 [⟨8, 0, 0, 0⟩]).2 (itP k c0 [⟨8, 0, 0, 0⟩]).1 := rfl
  rw [it] at hnx
  generalize itP k c0 [⟨8, 0, 0, 0⟩] = y at *
  obtain ⟨q, e⟩ := y
  dsimp only at *
  rw [w64 (x := (q.length : Int) + 4) (by omega) (by omega)]
  refine qaA (by simp; omega) (qa2 (fun g => ?_) fun g => ?_)
  ·have g : (q.length : Int) + 4 ≤ 32 := by simpa using g
   obtain ⟨k1, k2, s, k3, k4, k5⟩ := qhH f1 (p := q) (by omega)
   have ew : wrap .i64 ((n : Int) - (k : Int) - 1) = (n : Int) - ((k + 1 : Nat) : Int) := by rw [w64 (by omega) (by omega)]; omega
   have fin : ∀ P c', M.qfX e q = (P, c') → next (P, wrap .i64 ((n : Int) - (k : Int) - 1), c'.i, c'.h, ()) := fun P c' hE => by
    rw [ew]
    have := hnx ⟨k1, k2.trans f2, by rw [k3, List.length_append]; exact k5, fun _ => ?_⟩
    ·rw [hE] at this; exact this
    ·rw [f3, show n - k = (n - (k + 1)) + 1 by omega, M.qhD, if_pos g]
   rw [qcf f2]
   refine ⟨f1, fun r5 g5 => ?_⟩
   subst g5
   have c5 := qbh f1 7
   have b5 : (M.qa0 e 7).2.b = c.b := (qbZ e 7).trans f2
   simp only [qcf b5]
   have hb5 := qcG e (n := 7) (by omega)
   have fin2 := fin
   unfold M.qfX at fin2
   generalize (M.qa0 e 7).1 = d at *
   generalize (M.qa0 e 7).2 = e5 at *
   refine qa2 (fun d0 => ?_) fun d0 => qa2 (fun d1 => ?_) fun d1 => qa2 (fun d2 => ?_) fun d2 => qa2 (fun d3 => ?_) fun d3 => qa2 (fun d4 => ?_) fun d4 => qa2 (fun d5 => ?_) fun d5 => ?_
   ·have d0 : d = 0 := by simpa using d0
    exact ⟨by simp; omega, fin2 _ _ (by rw [if_pos d0])⟩
   ·have d0 : ¬ d = 0 := by simpa using d0
    have d1 : d = 1 := by simpa using d1
    refine ⟨c5, fun r hr => ?_⟩
    subst hr
    exact ⟨by simp; omega, fin2 _ _ (by rw [if_neg d0, if_pos d1]; rfl)⟩
   ·have d0 : ¬ d = 0 := by simpa using d0
    have d1 : ¬ d = 1 := by simpa using d1
    have d2 : d = 2 := by simpa using d2
    refine ⟨⟨c5, by simp, by simp⟩, fun r hr => ?_⟩
    subst hr
    exact ⟨by simp; omega, fin2 _ _ (by rw [if_neg d0, if_neg d1, if_pos d2]; rfl)⟩
   ·have d0 : ¬ d = 0 := by simpa using d0
    have d1 : ¬ d = 1 := by simpa using d1
    have d2 : ¬ d = 2 := by simpa using d2
    have d3 : d = 3 := by simpa using d3
    refine ⟨c5, fun r hr => ?_⟩
    subst hr
    have h8 := qcG e5 (n := 8) (by omega)
    rw [qcf ((qbZ e5 8).trans b5), w64 (x := 24 + (M.qa0 e5 8).1) (by omega) (by omega)]
    refine ⟨qbh c5 8, fun r hr => ?_⟩
    subst hr
    exact ⟨by simp; omega, fin2 _ _ (by rw [if_neg d0, if_neg d1, if_neg d2, if_pos d3]; rfl)⟩
   ·have d0 : ¬ d = 0 := by simpa using d0
    have d1 : ¬ d = 1 := by simpa using d1
    have d2 : ¬ d = 2 := by simpa using d2
    have d3 : ¬ d = 3 := by simpa using d3
    have d4 : d = 4 := by simpa using d4
    rw [if_neg d0, if_neg d1, if_neg d2, if_neg d3, if_pos d4] at fin2
    refine qa2 (fun l12 => ⟨⟨c5, by simp at l12; omega, by omega, by omega⟩, fun r hr => ?_⟩) fun l12 => ?_
    ·have l12 : (q.length : Int) < 12 := by simpa using l12
     rw [if_pos l12] at fin2
     exact fin2 _ _ (by rw [hr]; rfl)
    ·have l12 : ¬ (q.length : Int) < 12 := by simpa using l12
     rw [if_neg l12] at fin2
     exact fin2 _ _ rfl
   ·have d0 : ¬ d = 0 := by simpa using d0
    have d1 : ¬ d = 1 := by simpa using d1
    have d2 : ¬ d = 2 := by simpa using d2
    have d3 : ¬ d = 3 := by simpa using d3
    have d4 : ¬ d = 4 := by simpa using d4
    have d5 : d = 5 := by simpa using d5
    refine ⟨c5, fun r hr => ?_⟩
    subst hr
    exact ⟨by simp; omega, fin2 _ _ (by rw [if_neg d0, if_neg d1, if_neg d2, if_neg d3, if_neg d4, if_pos d5])⟩
   ·have d0 : ¬ d = 0 := by simpa using d0
    have d1 : ¬ d = 1 := by simpa using d1
    have d2 : ¬ d = 2 := by simpa using d2
    have d3 : ¬ d = 3 := by simpa using d3
    have d4 : ¬ d = 4 := by simpa using d4
    have d5 : ¬ d = 5 := by simpa using d5
    refine ⟨c5, fun r hr => ?_⟩
    subst hr
    exact ⟨by simp; omega, fin2 _ _ (by rw [if_neg d0, if_neg d1, if_neg d2, if_neg d3, if_neg d4, if_neg d5])⟩
  ·have g : ¬ (q.length : Int) + 4 ≤ 32 := by simpa using g
   rw [f3, show n - k = (n - (k + 1)) + 1 by omega, M.qhD, if_neg g, qcf f2]
 ·obtain ⟨f1, f2, fl, f3⟩ := hF
  refine qax (by simp) ?_
  rw [f3 (Nat.le_refl _), Nat.sub_self, qcf f2]; rfl
theorem qlj {p : List D.Ins} (hp : M.qaT p = true) {c : Int} (hc : 1 ≤ c ∧ c ≤ 3) : M.qdS (M.qee p c) = true ∧ ((M.qee p c).Warps.length : Int) = c := by
 have hlen : ((M.qee p c).Warps.length : Int) = c := by simp [M.qee]; omega
 have hz : M.qb8 (List.replicate 32 0) = true := by rfl
 have hat : ∀ k : Nat, k ≤ 2 → M.qgw p k (M.qdl p (k : Int)) = true := fun k hk => by
  unfold M.qgw
  rw [(qkj hp (w := (k : Int)) (by simp only [M.isIn, Bool.and_eq_true, decide_eq_true_eq]; omega)).2]
  simp [M.qdl]
 have h0 := hat 0 (by omega)
 have h1 := hat 1 (by omega)
 have h2 := hat 2 (by omega)
 refine ⟨?_, hlen⟩
 have : c = 1 ∨ c = 2 ∨ c = 3 := by omega
 unfold M.qdS
 have e1 : (M.qee p c).Code = p := rfl
 have e2 : (M.qee p c).Memory = List.replicate 32 0 := rfl
 have e3 : (M.qee p c).Waiting = 0 := rfl
 have e4 : (M.qee p c).Phase = 0 := rfl
 rw [e1, e2, e3, e4, hp, hz]
 rcases this with rfl | rfl | rfl
 ·have e5 : (M.qee p 1).Warps = [M.qdl p ((0 : Nat) : Int)] := rfl
  rw [e5]
  have : M.qda p 0 [M.qdl p ((0 : Nat) : Int)] = true := by simp only [M.qda, h0]; rfl
  rw [this]; rfl
 ·have e5 : (M.qee p 2).Warps = [M.qdl p ((0 : Nat) : Int), M.qdl p ((1 : Nat) : Int)] := rfl
  rw [e5]
  have : M.qda p 0 [M.qdl p ((0 : Nat) : Int), M.qdl p ((1 : Nat) : Int)] = true := by simp only [M.qda, h0, h1, Nat.zero_add]; rfl
  rw [this]; rfl
 ·have e5 : (M.qee p 3).Warps = [M.qdl p ((0 : Nat) : Int), M.qdl p ((1 : Nat) : Int), M.qdl p ((2 : Nat) : Int)] := rfl
  rw [e5]
  have : M.qda p 0 [M.qdl p ((0 : Nat) : Int), M.qdl p ((1 : Nat) : Int), M.qdl p ((2 : Nat) : Int)] = true := by simp only [M.qda, h0, h1, h2, Nat.zero_add]; rfl
  rw [this]; rfl
end Go.V
namespace Go.V
open IntKind (wrap)
def qjG (i : D.Ins) : Prop := 0 ≤ i.A ∧ i.A ≤ 3 ∧ 0 ≤ i.B ∧ i.B ≤ 3
structure qjm (s : List Int × List Int) : Prop where
 l1 : s.1.length = 32
 w1 : s.1.all M.isWord = true
 l2 : s.2.length = 32
 w2 : s.2.all M.isWord = true
theorem qkU {α : Type} {p : α → Bool} {l : List α} {k : Nat} {y : α} (h : l.all p = true) (hy : p y = true) : (l.set k y).all p = true := by
 rw [List.all_eq_true] at *
 intro x hx
 rcases List.mem_or_eq_of_mem_set hx with h1 | h1
 ·exact h _ h1
 ·rw [h1]; exact hy
theorem qhC {p : Int → Bool} {l : List Int} (h : l.all p = true) {z : Int} (h0 : 0 ≤ z) (h1 : z < (l.length : Int)) : p (rd l z) = true := List.all_eq_true.1 h _ (qjr h0 h1)
theorem qnL {x : Int} (h : M.isWord x = true) : 0 ≤ x ∧ x ≤ 65535 := by
 simpa only [M.isWord, M.isIn, Bool.and_eq_true, decide_eq_true_eq] using h
theorem qiY {x : Int} (h : M.isWord x = true) : 0 ≤ Int.tmod x 32 ∧ Int.tmod x 32 < 32 := qhW (qnL h).1 (by omega)
theorem qjH {i : D.Ins} {s : List Int × List Int} {k : Int} (hi : qjG i) (hs : qjm s) (h0 : 0 ≤ k) (hk : k ≤ 7) : qjm (M.qeG i s k) := by
 obtain ⟨a0, a1, b0, b1⟩ := hi
 obtain ⟨l1, w1, l2, w2⟩ := hs
 have wA := qhC w1 (z := k * 4 + i.A) (by omega) (by omega)
 have wB := qhC w1 (z := k * 4 + i.B) (by omega) (by omega)
 have pB := qiY wB
 unfold M.qeG
 split
 ·exact ⟨by simpa using l1, qkU w1 (qhC w2 pB.1 (by omega)), l2, w2⟩
 ·split
  ·exact ⟨l1, w1, by simpa using l2, qkU w2 wB⟩
  ·split
   ·exact ⟨l1, w1, by simpa using l2, qkU w2 (qkJ _ _)⟩
   ·exact ⟨l1, w1, l2, w2⟩
theorem qiw {i : D.Ins} {m : Int} {s : List Int × List Int} (hi : qjG i) (hs : qjm s) : ∀ k : Nat, k ≤ 8 → qjm (M.qjg i m s k)
 | 0, _ => hs
 | k + 1, hk => by
  unfold M.qjg
  split
  ·exact qjH hi (qiw hi hs k (by omega)) (by omega) (by omega)
  ·exact qiw hi hs k (by omega)
theorem qmH {i : D.Ins} {m : Int} {s : List Int × List Int} : M.qjg i m s 8 = (M.qeX m).foldl (M.qeG i) s := by
 have key : ∀ k : Nat, (List.range k).foldl (fun acc (j : Nat) => if M.qd9 m (j : Int) = true then M.qeG i acc (j : Int) else acc) s = M.qjg i m s k := by
  intro k
  induction k with
  | zero => rfl
  | succ k ih =>
   rw [List.range_succ, List.foldl_append, ih]
   simp only [List.foldl_cons, List.foldl_nil, M.qjg]
 rw [← key 8]
 unfold M.qeX
 rw [List.foldl_filter]
 rfl
theorem qmv {i : D.Ins} (hi : qjG i) : ∀ (l : List Int) (s : List Int × List Int), qjm s → (∀ k ∈ l, 0 ≤ k ∧ k ≤ 7) → qjm (l.foldl (M.qeG i) s)
 | [], s, h, _ => h
 | k :: l, s, h, hl => by
  simp only [List.foldl_cons]
  obtain ⟨h0, h7⟩ := hl k List.mem_cons_self
  exact qmv hi l _ (qjH hi h h0 h7) fun j hj => hl j (List.mem_cons_of_mem _ hj)
theorem qnT {i : D.Ins} {n : Int} (h : M.qdh i n = true) (hl : M.qcw i = false) : qjG i ∧ (i.Op = 13 ∨ i.Op = 14 ∨ i.Op = 15 ∨ i.Op = 16) := by
 have hl' : ¬ (0 ≤ i.Op ∧ i.Op ≤ 12) := by
  intro hc
  rw [show M.qcw i = true by simp only [M.qcw, M.isIn, Bool.and_eq_true, decide_eq_true_eq]; exact hc] at hl
  cases hl
 unfold M.qdh at h
 rw [Bool.and_eq_true] at h
 have h := h.2
 unfold qjG
 split at h
 ·rename_i e
  simp only [Bool.and_eq_true, beq_iff_eq] at h
  refine ⟨by omega, by omega⟩
 ·split at h
  ·omega
  ·split at h
   ·rename_i e
    simp only [M.qg7, M.isIn, Bool.and_eq_true, beq_iff_eq, decide_eq_true_eq] at h
    refine ⟨by omega, by omega⟩
   ·split at h
    ·omega
    ·split at h
     ·omega
     ·split at h
      ·omega
      ·simp only [M.isIn, Bool.and_eq_true, decide_eq_true_eq] at h
       omega
theorem qhS {b : D.Block} (h : M.qdS b = true) : b.Memory.length = 32 ∧ b.Memory.all M.isWord = true := by
 simp only [M.qdS, M.qb8, Bool.and_eq_true, beq_iff_eq] at h
 exact h.2.2.1
theorem qk2 {b : D.Block} {w : Int} (h : M.Live b w) : qjm ((rd b.Warps w).Regs, b.Memory) := by
 have hr := qg8 h.1 h.2
 exact ⟨(qdF hr).2.2.2.1, (qh0 hr).2.2.2.2.2, (qhS (qe2 h.1).2.2.2.2.2).1, (qhS (qe2 h.1).2.2.2.2.2).2⟩
theorem qk3 {b : D.Block} {w : Int} (h : M.Live b w) (hl : M.qcw (M.qcB b w) = false) : qjG (M.qcB b w) ∧ ((M.qcB b w).Op = 13 ∨ (M.qcB b w).Op = 14 ∨ (M.qcB b w).Op = 15 ∨ (M.qcB b w).Op = 16) :=
 qnT (qdF (qg8 h.1 h.2)).2.2.2.2.2.2.1 hl
theorem qkf (x : Int) : qdt .i64 x 1 = x % 2 := by
 unfold qdt
 have e1 : (BitVec.ofInt (IntKind.bits .i64) x &&& BitVec.ofInt (IntKind.bits .i64) 1).toNat = (x % 2).toNat := by
  show (BitVec.ofInt 64 x &&& BitVec.ofInt 64 1).toNat = _
  rw [BitVec.toNat_and, BitVec.toNat_ofInt, show (BitVec.ofInt 64 1).toNat = 2 ^ 1 - 1 from rfl, Nat.and_two_pow_sub_one_eq_mod]
  rw [show ((2 ^ 64 : Nat) : Int) = 18446744073709551616 from rfl]
  omega
 rw [e1, w64 (by omega) (by omega)]
 omega
theorem qlX (b : D.Block) (k : Int) : (qdt .i64 (Int.fdiv b.Waiting (2 ^ (min (k.toNat) (IntKind.bits .i64)))) 1 == 0) = !M.waits b k := by
 unfold M.waits
 rw [qkf, Bool.eq_iff_iff]
 simp only [beq_iff_eq, Bool.not_eq_true', beq_eq_false_iff_ne, ne_eq]
 omega
theorem qmZ : ((List.range 8).all fun a => (List.range 4).all fun n => (List.range 3).all fun k => !(decide (1 ≤ n) && (decide (k < n) && decide (a < 2 ^ n))) || (decide (0 ≤ qgs .i64 ((a : Nat) : Int) (M.qiR ((k : Nat) : Int))) && decide (qgs .i64 ((a : Nat) : Int) (M.qiR ((k : Nat) : Int)) < 2 ^ n))) = true := by kernel_rfl
theorem qlI : ((List.range 4).all fun n => (List.range 3).all fun k => !decide (k < n) || (Int.fdiv (((2 ^ n - 1 : Nat)) : Int) (2 ^ (min (((k : Nat) : Int).toNat) (IntKind.bits .i64))) % 2 == 1)) = true := by kernel_rfl
theorem qk5 : ((List.range 4).all fun n => n == 0 || (M.qh9 n == (2 : Int) ^ n - 2)) = true := by kernel_rfl
theorem qi0 {n : Nat} (h1 : 1 ≤ n) (h3 : n ≤ 3) : M.qh9 n = (2 : Int) ^ n - 2 := by
 have := List.all_eq_true.1 qk5 n (List.mem_range.2 (by omega))
 simp only [Bool.or_eq_true, beq_iff_eq] at this
 exact this.resolve_left (by omega)
theorem qoa {a : Int} {n k : Nat} (h1 : 1 ≤ n) (h3 : n ≤ 3) (hk : k < n) (h0 : 0 ≤ a) (ha : a ≤ M.qh9 n) : 0 ≤ qgs .i64 a (M.qiR (k : Int)) ∧ qgs .i64 a (M.qiR (k : Int)) < (2 : Int) ^ n := by
 rw [qi0 h1 h3] at ha
 have hp : (2 : Int) ^ n ≤ 8 := by rcases (by omega : n = 1 ∨ n = 2 ∨ n = 3) with rfl | rfl | rfl <;> decide
 obtain ⟨m, rfl⟩ := Int.eq_ofNat_of_zero_le h0
 have hm : m < 2 ^ n := by have : ((m : Nat) : Int) < ((2 ^ n : Nat) : Int) := by push_cast; omega
                           omega
 have := List.all_eq_true.1 (List.all_eq_true.1 (List.all_eq_true.1 qmZ m (List.mem_range.2 (by omega))) n (List.mem_range.2 (by omega))) k (List.mem_range.2 (by omega))
 simp only [Bool.or_eq_true, Bool.not_eq_true', Bool.and_eq_true, Bool.and_eq_false_iff, decide_eq_true_eq, decide_eq_false_iff_not] at this
 refine this.resolve_left fun hc => ?_
 rcases hc with hc | hc | hc
 ·exact hc h1
 ·exact hc hk
 ·exact hc hm
theorem qlS {b : D.Block} {n k : Nat} (h3 : n ≤ 3) (hk : k < n) (h : b.Waiting = (2 : Int) ^ n - 1) : M.waits b (k : Int) = true := by
 unfold M.waits
 rw [qkf, beq_iff_eq, h]
 have := List.all_eq_true.1 (List.all_eq_true.1 qlI n (List.mem_range.2 (by omega))) k (List.mem_range.2 (by omega))
 simp only [Bool.or_eq_true, Bool.not_eq_true', decide_eq_false_iff_not, beq_iff_eq] at this
 have := this.resolve_left (by omega)
 have e : (((2 ^ n - 1 : Nat)) : Int) = (2 : Int) ^ n - 1 := by rcases (by omega : n = 0 ∨ n = 1 ∨ n = 2 ∨ n = 3) with rfl | rfl | rfl | rfl <;> rfl
 rw [← e]
 exact this
theorem qhd {b : D.Block} {k : Nat} (h : M.qf1 b k = false) : ∀ n, k ≤ n → M.qf1 b n = false
 | 0, hn => by rw [Nat.le_zero.1 hn] at h; exact h
 | n + 1, hn => by
  by_cases e : k = n + 1
  ·rw [← e]; exact h
  ·unfold M.qf1
   rw [qhd h n (by omega), Bool.false_and]
theorem qij {b : D.Block} (h3 : b.Warps.length ≤ 3) (h : b.Waiting = (2 : Int) ^ b.Warps.length - 1) : ∀ k, k ≤ b.Warps.length → M.qf1 b k = true
 | 0, _ => rfl
 | k + 1, hk => by
  unfold M.qf1
  rw [qij h3 h k (by omega), qlS h3 (by omega) h, Bool.or_true, Bool.true_and]
theorem qgU {b : D.Block} (h : M.qdS b = true) : M.qaT b.Code = true ∧ 1 ≤ b.Warps.length ∧ b.Warps.length ≤ 3 ∧ 0 ≤ b.Waiting ∧ b.Waiting ≤ M.qh9 b.Warps.length ∧ 0 ≤ b.Phase ∧ b.Phase ≤ 100000 ∧ M.qda b.Code 0 b.Warps = true := by
 simp only [M.qdS, Bool.and_eq_true, M.isIn, decide_eq_true_eq] at h
 obtain ⟨h1, h2, h3, h4, h5, h6⟩ := h
 exact ⟨h1, by omega, by omega, h4.1, h4.2, h5.1, h5.2, h6⟩
theorem qo7 {b : D.Block} (h1 : M.qaT b.Code = true) (h2 : 1 ≤ b.Warps.length ∧ b.Warps.length ≤ 3) (h3 : b.Memory.length = 32 ∧ b.Memory.all M.isWord = true) (h4 : 0 ≤ b.Waiting ∧ b.Waiting ≤ M.qh9 b.Warps.length) (h5 : 0 ≤ b.Phase ∧ b.Phase ≤ 100000)
    (h6 : M.qda b.Code 0 b.Warps = true) : M.qdS b = true := by
 simp only [M.qdS, M.qb8, Bool.and_eq_true, M.isIn, decide_eq_true_eq, beq_iff_eq]
 exact ⟨h1, ⟨by omega, by omega⟩, h3, h4, h5, h6⟩
theorem qji {p : List D.Ins} : ∀ {l : List D.Warp} {k : Nat}, M.qda p k l = true → ∀ x ∈ l, M.qfo p x = true
 | [], _, _, _, hx => by cases hx
 | y :: l, k, h, x, hx => by
  simp only [M.qda, M.qgw, Bool.and_eq_true] at h
  rcases List.mem_cons.1 hx with rfl | hx
  ·exact h.1.2
  ·exact qji h.2 x hx
theorem qj0 {p : List D.Ins} {y : D.Warp} : ∀ {l : List D.Warp} {k n : Nat}, M.qda p k l = true → M.qgw p (k + n) y = true → M.qda p k (l.set n y) = true
 | [], _, _, h, _ => by simp [M.qda]
 | x :: l, k, 0, h, hy => by
  simp only [M.qda, Bool.and_eq_true] at h
  simp only [List.set_cons_zero, M.qda, Bool.and_eq_true]
  exact ⟨hy, h.2⟩
 | x :: l, k, n + 1, h, hy => by
  simp only [M.qda, Bool.and_eq_true] at h
  simp only [List.set_cons_succ, M.qda, Bool.and_eq_true]
  exact ⟨h.1, qj0 h.2 (by rw [show k + 1 + n = k + (n + 1) by omega]; exact hy)⟩
theorem qiv {b : D.Block} (h : M.qdS b = true) : M.qmt b := by
 obtain ⟨h1, h2, h3, _, _, _, _, h8⟩ := qgU h
 refine ⟨by have := qjw h1; omega, ⟨by omega, fun x hx => ?_⟩, by have := (qhS h).1; omega⟩
 have := qlY (x := x) ⟨h1, qji h8 x hx⟩
 unfold M.qlu; omega
theorem qmP {p : List D.Ins} {x : D.Warp} {rg : List Int} (h : M.Runs p x) (hl : rg.length = 32) (hw : rg.all M.isWord = true) : M.Runs p ⟨x.Number, x.Frames, rg⟩ := by
 obtain ⟨h1, h2, h3⟩ := h
 refine ⟨h1, ?_, h3⟩
 simp only [M.qfo, Bool.and_eq_true, beq_iff_eq] at h2 ⊢
 exact ⟨h2.1, hl, hw, h2.2.2.2⟩
theorem qmB {p : List D.Ins} {x : D.Warp} (h : M.Runs p x) : M.Fine p (M.qhh p x) := by
 obtain ⟨t1, t2, t3, t4, t5, t6, t7, t8, t9⟩ := qdF h
 obtain ⟨f1, f2, f3, f4, f5, f6⟩ := qh0 h
 have hx := h.2.2
 refine ⟨h.1, ?_⟩
 simp only [M.qhh, M.qfo, M.qga, Bool.and_eq_true, beq_iff_eq]
 refine ⟨by simp only [M.isIn, Bool.and_eq_true, decide_eq_true_eq]; exact ⟨t8, t9⟩, t4, f6, qkM (qie f1 hx ⟨by omega, by omega⟩) (by simp only [M.qe0, List.length_set]; exact f2) fun _ => ?_⟩
 rw [(qhi hx _).1, (qhi hx _).2]
 exact ⟨f3, f4⟩
theorem qgc {b : D.Block} {w : Int} (h : M.qhv b w) : M.Live b w ∧ M.waits b w = false ∧ (M.qcw (M.qcB b w) = true → M.Goes b.Code (rd b.Warps w)) := by
 obtain ⟨hh, hg⟩ := h
 simp only [M.qgO, Bool.and_eq_true, Bool.not_eq_true'] at hg
 obtain ⟨g1, g2, g3⟩ := hg
 have hx : (rd b.Warps w).Frames ≠ [] := by simpa using g1
 refine ⟨⟨hh, hx⟩, g2, fun hl => ⟨qg8 hh hx, ?_⟩⟩
 have hl : M.qcw (M.qaF b.Code (rd b.Warps w)) = true := hl
 rw [if_pos hl] at g3
 simp only [M.qaG, g1, hl, g3, Bool.not_false, Bool.and_self]
theorem qkR (p : List D.Ins) (x : D.Warp) : (M.stepW p x).Number = x.Number := by
 unfold M.stepW M.qga
 split <;> rfl
theorem qhz {b : D.Block} {w : Int} {i : D.Ins} (h0 : 0 ≤ w) (h1 : w < (b.Warps.length : Int)) : rd (M.qcx b w i).Warps w = ⟨(rd b.Warps w).Number, (rd b.Warps w).Frames, (M.qiG i (rd b.Warps w) b.Memory).1⟩ := by
 unfold M.qcx
 exact qm7 h0 (by simpa using h1)
theorem qjh {b : D.Block} {w : Int} (h : M.Live b w) (hl : M.qcw (M.qcB b w) = false) : qjm (M.qiG (M.qcB b w) (rd b.Warps w) b.Memory) := qiw (qk3 h hl).1 (qk2 h) 8 (Nat.le_refl _)
def actW (b : D.Block) (w : Int) : D.Warp := if M.qcw (M.qcB b w) then M.stepW b.Code (rd b.Warps w) else M.qhh b.Code (rd (M.qcx b w (M.qcB b w)).Warps w)
theorem qho (b : D.Block) (w : Int) : (M.actB b w).Warps = b.Warps.set w.toNat (actW b w) := by
 unfold M.actB actW
 split <;> rfl
theorem qnp {b : D.Block} {w : Int} (h : M.qhv b w) : M.Fine b.Code (actW b w) ∧ (actW b w).Number = w := by
 obtain ⟨hv, _, hg⟩ := qgc h
 obtain ⟨h0, h1, hp, hw, hn, hok⟩ := qe2 hv.1
 unfold actW
 split
 ·rename_i e; exact ⟨qlJ (hg e), by rw [qkR, hn]⟩
 ·rename_i e
  have e := Bool.eq_false_iff.2 e
  rw [qhz h0 h1]
  have hm := qjh hv e
  exact ⟨qmB (qmP (qg8 hv.1 hv.2) hm.l1 hm.w1), hn⟩
theorem qlw (b : D.Block) (w : Int) : (⟨b.Code, (M.actB b w).Warps, (M.actB b w).Memory, (M.actB b w).Waiting, (M.actB b w).Phase⟩ : D.Block) = M.actB b w := by
 unfold M.actB
 split <;> rfl
theorem qiF (b : D.Block) (w : Int) : (M.actB b w).Code = b.Code := by unfold M.actB; split <;> rfl
theorem qgM (b : D.Block) (w : Int) : (M.actB b w).Phase = b.Phase := by unfold M.actB; split <;> rfl
theorem qiu (b : D.Block) (w : Int) : (M.actB b w).Warps.length = b.Warps.length := by rw [qho, List.length_set]
theorem qmW {b : D.Block} {w : Int} (h : M.qhv b w) : (M.actB b w).Memory.length = 32 ∧ (M.actB b w).Memory.all M.isWord = true := by
 obtain ⟨hv, _, hg⟩ := qgc h
 unfold M.actB
 split
 ·have := qhS (qe2 hv.1).2.2.2.2.2; exact this
 ·rename_i e
  have hm := qjh hv (Bool.eq_false_iff.2 e)
  exact ⟨hm.l2, hm.w2⟩
theorem qmu {b : D.Block} {w : Int} (h : M.qhv b w) : 0 ≤ (M.actB b w).Waiting ∧ (M.actB b w).Waiting < (2 : Int) ^ b.Warps.length := by
 obtain ⟨hv, _, hg⟩ := qgc h
 obtain ⟨h0, h1, hp, hw, hn, hok⟩ := qe2 hv.1
 obtain ⟨p1, p2, p3, p4, p5, p6, p7, p8⟩ := qgU hok
 have hb : b.Waiting < (2 : Int) ^ b.Warps.length := by rw [qi0 p2 p3] at p5; omega
 obtain ⟨k, rfl⟩ := Int.eq_ofNat_of_zero_le h0
 unfold M.actB
 split
 ·exact ⟨p4, hb⟩
 ·show 0 ≤ (if (M.qcB b (k : Int)).Op = 16 then qgs .i64 b.Waiting (M.qiR (k : Int)) else b.Waiting) ∧ (if (M.qcB b (k : Int)).Op = 16 then qgs .i64 b.Waiting (M.qiR (k : Int)) else b.Waiting) < _
  split
  ·exact qoa p2 p3 (by omega) p4 p5
  ·exact ⟨p4, hb⟩
theorem qkN {b : D.Block} {w : Int} (h : M.qhv b w) : M.qda b.Code 0 (M.actB b w).Warps = true := by
 obtain ⟨hv, _, hg⟩ := qgc h
 obtain ⟨h0, h1, hp, hw, hn, hok⟩ := qe2 hv.1
 obtain ⟨q1, q2⟩ := qnp h
 rw [qho]
 refine qj0 (qgU hok).2.2.2.2.2.2.2 ?_
 simp only [M.qgw, Bool.and_eq_true, beq_iff_eq]
 exact ⟨by rw [q2]; omega, q1.2⟩
theorem qhn (b : D.Block) (w : Int) : (M.qdo b w).Code = b.Code := by unfold M.qdo M.qhj; split <;> exact qiF b w
theorem qgX (b : D.Block) (w : Int) : (M.qdo b w).Warps = b.Warps.set w.toNat (actW b w) := by unfold M.qdo M.qhj; split <;> exact qho b w
theorem qkL (b : D.Block) (w : Int) : (M.qdo b w).Memory = (M.actB b w).Memory := by unfold M.qdo M.qhj; split <;> rfl
theorem qgp (b : D.Block) (w : Int) : (M.qdo b w).Phase = b.Phase ∨ (M.qdo b w).Phase = b.Phase + 1 := by
 unfold M.qdo M.qhj
 split
 ·right; show (M.actB b w).Phase + 1 = _; rw [qgM]
 ·left; exact qgM b w
theorem qly {b : D.Block} {w : Int} (h : M.qhv b w) (hp : (M.qdo b w).Phase ≤ 100000) : M.qdS (M.qdo b w) = true := by
 obtain ⟨hv, _, hg⟩ := qgc h
 obtain ⟨h0, h1, hpr, hw, hn, hok⟩ := qe2 hv.1
 obtain ⟨p1, p2, p3, p4, p5, p6, p7, p8⟩ := qgU hok
 have hlen : (M.qdo b w).Warps.length = b.Warps.length := by rw [qgX, List.length_set]
 refine qo7 (by rw [qhn]; exact p1) (by rw [hlen]; exact ⟨p2, p3⟩) (by rw [qkL]; exact qmW h) ?_ ⟨by rcases qgp b w with e | e <;> omega, hp⟩ (by rw [qhn, qgX, ← qho]; exact qkN h)
 rw [hlen, qi0 p2 p3]
 have hpos : (2 : Int) ≤ (2 : Int) ^ b.Warps.length := by rcases (by omega : b.Warps.length = 1 ∨ b.Warps.length = 2 ∨ b.Warps.length = 3) with e | e | e <;> rw [e] <;> decide
 obtain ⟨w0, w1⟩ := qmu h
 unfold M.qdo M.qhj
 split
 ·exact ⟨Int.le_refl _, by show (0 : Int) ≤ _; omega⟩
 ·rename_i e
  refine ⟨w0, ?_⟩
  by_cases ef : (M.actB b w).Waiting = (2 : Int) ^ b.Warps.length - 1
  ·exfalso
   apply e
   unfold M.qbj
   rw [qij (by rw [qiu]; exact p3) (by rw [qiu]; exact ef) _ (Nat.le_refl _), Bool.true_and, bne_iff_ne]
   omega
  ·omega
end Go.V
namespace Go.V
open IntKind (wrap)
def wp.qbN (s0 : D.Block) (x1 : Int) (Q : (D.Block × (List D.Warp) × (List Int)) → Prop) : Prop :=
 (M.qeg s0 x1 ∧ ∀ r25, r25 = M.qcb s0 x1 → ((0 ≤ x1 ∧ x1 < (s0.Warps.length : Int)) ∧ (M.qdP (rd s0.Warps x1) ∧ ∀ r36, r36 = M.qbt (rd s0.Warps x1) → ((0 ≤ x1 ∧ x1 < (s0.Warps.length : Int)) ∧ qd4 (σ := Int × (List Int) × (List Int) × Unit) (fun (p244 : Int × (List Int) × (List Int) × Unit) next143 => match p244 with | (i135, xs136, xs138, _) => bcase (decide (i135 < 8)) ((∀ r145, r145 = M.qby r36 i135 → bcase (!r145) (next143 ((wrap .i64 (i135 + 1)), xs136, xs138, ())) (((0 ≤ (wrap .i64 ((wrap .i64 (i135 * 4)) + r25.A)) ∧ (wrap .i64 ((wrap .i64 (i135 * 4)) + r25.A)) < (xs138.length : Int)) ∧ ((0 ≤ (wrap .i64 ((wrap .i64 (i135 * 4)) + r25.B)) ∧ (wrap .i64 ((wrap .i64 (i135 * 4)) + r25.B)) < (xs138.length : Int)) ∧ bcase (r25.Op == 13) (((0 ≤ (Int.tmod (rd xs138 (wrap .i64 ((wrap .i64 (i135 * 4)) + r25.B))) 32) ∧ (Int.tmod (rd xs138 (wrap .i64 ((wrap .i64 (i135 * 4)) + r25.B))) 32) < (xs136.length : Int)) ∧ ((0 ≤ (wrap .i64 ((wrap .i64 (i135 * 4)) + r25.A)) ∧ (wrap .i64 ((wrap .i64 (i135 * 4)) + r25.A)) < (xs138.length : Int)) ∧ next143 ((wrap .i64 (i135 + 1)), xs136, (List.set xs138 ((wrap .i64 ((wrap .i64 (i135 * 4)) + r25.A)).toNat) (rd xs136 (Int.tmod (rd xs138 (wrap .i64 ((wrap .i64 (i135 * 4)) + r25.B))) 32))), ())))) (bcase (r25.Op == 14) (((0 ≤ (Int.tmod (rd xs138 (wrap .i64 ((wrap .i64 (i135 * 4)) + r25.A))) 32) ∧ (Int.tmod (rd xs138 (wrap .i64 ((wrap .i64 (i135 * 4)) + r25.A))) 32) < (xs136.length : Int)) ∧ next143 ((wrap .i64 (i135 + 1)), (List.set xs136 ((Int.tmod (rd xs138 (wrap .i64 ((wrap .i64 (i135 * 4)) + r25.A))) 32).toNat) (rd xs138 (wrap .i64 ((wrap .i64 (i135 * 4)) + r25.B)))), xs138, ()))) (bcase (r25.Op == 15) (((0 ≤ (Int.tmod (rd xs138 (wrap .i64 ((wrap .i64 (i135 * 4)) + r25.A))) 32) ∧ (Int.tmod (rd xs138 (wrap .i64 ((wrap .i64 (i135 * 4)) + r25.A))) 32) < (xs136.length : Int)) ∧ (∀ r218, r218 = M.qbi (rd xs136 (Int.tmod (rd xs138 (wrap .i64 ((wrap .i64 (i135 * 4)) + r25.A))) 32)) (rd xs138 (wrap .i64 ((wrap .i64 (i135 * 4)) + r25.B))) → ((0 ≤ (Int.tmod (rd xs138 (wrap .i64 ((wrap .i64 (i135 * 4)) + r25.A))) 32) ∧ (Int.tmod (rd xs138 (wrap .i64 ((wrap .i64 (i135 * 4)) + r25.A))) 32) < (xs136.length : Int)) ∧ next143 ((wrap .i64 (i135 + 1)), (List.set xs136 ((Int.tmod (rd xs138 (wrap .i64 ((wrap .i64 (i135 * 4)) + r25.A))) 32).toNat) r218), xs138, ()))))) (next143 ((wrap .i64 (i135 + 1)), xs136, xs138, ()))))))))) (Q ((⟨s0.Code, (List.set s0.Warps (x1.toNat) (⟨(rd s0.Warps x1).Number, (rd s0.Warps x1).Frames, xs138⟩ : D.Warp)), xs136, s0.Waiting, s0.Phase⟩ : D.Block), (List.set s0.Warps (x1.toNat) (⟨(rd s0.Warps x1).Number, (rd s0.Warps x1).Frames, xs138⟩ : D.Warp)), xs136))) (0, s0.Memory, (rd s0.Warps x1).Regs, ())))))
def wp.qbj (s0 : D.Block) (Q : Bool → Prop) : Prop :=
 qd4 (σ := Int × Unit) (fun (p55 : Int × Unit) next27 => match p55 with | (i23, _) => bcase (decide (i23 < (s0.Warps.length : Int))) (((0 ≤ i23 ∧ i23 < (s0.Warps.length : Int)) ∧ bcase (decide (((rd s0.Warps i23).Frames.length : Int) > 0)) (((0 ≤ i23) ∧ bcase ((qdt .i64 (Int.fdiv s0.Waiting (2 ^ (min (i23.toNat) (IntKind.bits .i64)))) 1) == 0) (Q false) (next27 ((wrap .i64 (i23 + 1)), ())))) (next27 ((wrap .i64 (i23 + 1)), ())))) (Q (s0.Waiting != 0))) (0, ())
def wp.qdd (s0 : D.Block) (x1 : Int) (Q : D.Block → Prop) : Prop :=
 (M.qfY s0 ∧ ∀ r25, r25 = M.qd3 s0 → (M.qeg s0 x1 ∧ ∀ r41, r41 = M.qcb s0 x1 → qf3 (σ := Int × Int × (List D.Warp) × (List Int) × Unit) (fun J57 => (∀ r60, r60 = M.qcj r41 → bcase r60 (((0 ≤ x1 ∧ x1 < (r25.Warps.length : Int)) ∧ ((0 ≤ x1 ∧ x1 < (s0.Warps.length : Int)) ∧ (M.qg3 s0.Code (rd s0.Warps x1) ∧ ∀ r84, r84 = M.qd5 s0.Code (rd s0.Warps x1) → ((0 ≤ x1 ∧ x1 < (r25.Warps.length : Int)) ∧ J57 (r25.Waiting, r25.Phase, (List.set r25.Warps (x1.toNat) (⟨r84.Number, r84.Frames, r84.Regs⟩ : D.Warp)), r25.Memory, ())))))) ((M.qfk r25 x1 ∧ ∀ r97, r97 = M.qbN r25 x1 → qf3 (σ := Int × Int × Unit) (fun J108 => bcase (r41.Op == 16) (((0 ≤ x1) ∧ J108 ((qgs .i64 r97.1.Waiting (wrap .i64 (1 * 2 ^ (min (x1.toNat) (IntKind.bits .i64))))), r97.1.Phase, ()))) (J108 (r97.1.Waiting, r97.1.Phase, ()))) (fun (p151 : Int × Int × Unit) => match p151 with | (i106, i107, _) => ((0 ≤ x1 ∧ x1 < (r97.2.1.length : Int)) ∧ ((0 ≤ x1 ∧ x1 < (r97.2.1.length : Int)) ∧ ((0 ≤ x1 ∧ x1 < (r97.2.1.length : Int)) ∧ ((0 ≤ (wrap .i64 (((rd r97.2.1 x1).Frames.length : Int) - 1)) ∧ (wrap .i64 (((rd r97.2.1 x1).Frames.length : Int) - 1)) < (((rd r97.2.1 x1).Frames).length : Int)) ∧ ((0 ≤ (wrap .i64 (((rd r97.2.1 x1).Frames.length : Int) - 1)) ∧ (wrap .i64 (((rd r97.2.1 x1).Frames.length : Int) - 1)) < (((rd r97.2.1 x1).Frames).length : Int)) ∧ ((0 ≤ x1 ∧ x1 < (r97.2.1.length : Int)) ∧ (M.qcA s0.Code (⟨(rd r97.2.1 x1).Number, (List.set ((rd r97.2.1 x1).Frames) ((wrap .i64 (((rd r97.2.1 x1).Frames.length : Int) - 1)).toNat) (⟨(wrap .i64 ((rd ((rd r97.2.1 x1).Frames) (wrap .i64 (((rd r97.2.1 x1).Frames.length : Int) - 1))).Pc + 1)), (rd ((rd r97.2.1 x1).Frames) (wrap .i64 (((rd r97.2.1 x1).Frames.length : Int) - 1))).Stop, (rd ((rd r97.2.1 x1).Frames) (wrap .i64 (((rd r97.2.1 x1).Frames.length : Int) - 1))).Mask⟩ : D.Frame)), (rd r97.2.1 x1).Regs⟩ : D.Warp) ∧ ∀ r138, r138 = M.qaD s0.Code (⟨(rd r97.2.1 x1).Number, (List.set ((rd r97.2.1 x1).Frames) ((wrap .i64 (((rd r97.2.1 x1).Frames.length : Int) - 1)).toNat) (⟨(wrap .i64 ((rd ((rd r97.2.1 x1).Frames) (wrap .i64 (((rd r97.2.1 x1).Frames.length : Int) - 1))).Pc + 1)), (rd ((rd r97.2.1 x1).Frames) (wrap .i64 (((rd r97.2.1 x1).Frames.length : Int) - 1))).Stop, (rd ((rd r97.2.1 x1).Frames) (wrap .i64 (((rd r97.2.1 x1).Frames.length : Int) - 1))).Mask⟩ : D.Frame)), (rd r97.2.1 x1).Regs⟩ : D.Warp) → ((0 ≤ x1 ∧ x1 < (r97.2.1.length : Int)) ∧ J57 (i106, i107, (List.set r97.2.1 (x1.toNat) (⟨r138.Number, r138.Frames, r138.Regs⟩ : D.Warp)), r97.2.2, ())))))))))))))) (fun (p168 : Int × Int × (List D.Warp) × (List Int) × Unit) => match p168 with | (i50, i51, xs52, xs55, _) => (M.qgi (⟨r25.Code, xs52, xs55, i50, i51⟩ : D.Block) ∧ ∀ r154, r154 = M.qbj (⟨r25.Code, xs52, xs55, i50, i51⟩ : D.Block) → bcase r154 (Q (⟨r25.Code, xs52, xs55, 0, (wrap .i64 (i51 + 1))⟩ : D.Block)) (Q (⟨r25.Code, xs52, xs55, i50, i51⟩ : D.Block))))))
end Go.V
namespace Go.V
open IntKind (wrap)
theorem wp.qbN.math (b : D.Block) (w : Int) (h : M.qfk b w) : wp.qbN b w (fun r => r = M.qbN b w) := by
 obtain ⟨hv, hl⟩ := h
 obtain ⟨h0, h1, hp, hw, hn, hok⟩ := qe2 hv.1
 obtain ⟨hi, hop⟩ := qk3 hv hl
 have hlong : M.qdP (rd b.Warps w) := by
  have := (qdF (qg8 hv.1 hv.2)).2.2.1
  show _ ≤ _; omega
 refine ⟨⟨hv.1, hv.2⟩, fun r25 hr25 => ⟨⟨h0, h1⟩, hlong, fun r36 hr36 => ⟨⟨h0, h1⟩, ?_⟩⟩⟩
 have hr25 : r25 = M.qcB b w := hr25
 have hr36 : r36 = M.qb3 (rd b.Warps w) := hr36
 subst hr25 hr36
 have hs0 := qk2 hv
 let G : Nat → List Int × List Int := M.qjg (M.qcB b w) (M.qb3 (rd b.Warps w)) ((rd b.Warps w).Regs, b.Memory)
 have hG : ∀ k, k ≤ 8 → qjm (G k) := fun k hk => qiw hi hs0 k hk
 refine qd2 8 (fun k => ((k : Int), (G k).2, (G k).1, ())) (fun _ => True) rfl trivial (fun k hk _ next hn => ?_) fun _ next => qax (by simp) rfl
 have hn := hn trivial
 have hGk := hG k (by omega)
 have hnext : G (k + 1) = if M.qd9 (M.qb3 (rd b.Warps w)) (k : Int) then M.qeG (M.qcB b w) (G k) (k : Int) else G k := rfl
 rw [hnext] at hn
 dsimp only
 generalize G k = g at *
 generalize M.qcB b w = i at *
 generalize M.qb3 (rd b.Warps w) = m at *
 obtain ⟨l1, w1, l2, w2⟩ := hGk
 obtain ⟨a0, a1, b0, b1⟩ := hi
 have eA : wrap .i64 ((wrap .i64 ((k : Int) * 4)) + i.A) = (k : Int) * 4 + i.A := by rw [w64 (x := (k : Int) * 4) (by omega) (by omega), w64 (by omega) (by omega)]
 have eB : wrap .i64 ((wrap .i64 ((k : Int) * 4)) + i.B) = (k : Int) * 4 + i.B := by rw [w64 (x := (k : Int) * 4) (by omega) (by omega), w64 (by omega) (by omega)]
 rw [eA, eB, up64 (n := 8) hk (by omega), l1, l2]
 have wA := qiY (qhC w1 (z := (k : Int) * 4 + i.A) (by omega) (by omega))
 have wB := qiY (qhC w1 (z := (k : Int) * 4 + i.B) (by omega) (by omega))
 refine qaA (by simp; omega) fun r hr => qa2 (fun e => ?_) fun e => ?_
 ·have : M.qd9 m (k : Int) = false := by have hr : r = M.qd9 m (k : Int) := hr; rw [← hr]; simpa using e
  rw [if_neg (by rw [this]; simp)] at hn
  exact hn
 ·have : M.qd9 m (k : Int) = true := by have hr : r = M.qd9 m (k : Int) := hr; rw [← hr]; simpa using e
  rw [if_pos this] at hn
  unfold M.qeG at hn
  refine ⟨⟨by omega, by omega⟩, ⟨by omega, by omega⟩, qa2 (fun e1 => ?_) fun e1 => qa2 (fun e2 => ?_) fun e2 => qa2 (fun e3 => ?_) fun e3 => ?_⟩
  ·rw [if_pos (by simpa using e1)] at hn
   exact ⟨⟨wB.1, by omega⟩, ⟨by omega, by omega⟩, hn⟩
  ·rw [if_neg (by simpa using e1), if_pos (by simpa using e2)] at hn
   exact ⟨⟨wA.1, by omega⟩, hn⟩
  ·rw [if_neg (by simpa using e1), if_neg (by simpa using e2), if_pos (by simpa using e3)] at hn
   refine ⟨⟨wA.1, by omega⟩, fun r2 hr2 => ⟨⟨wA.1, by omega⟩, ?_⟩⟩
   have hr2 : r2 = M.addW (rd g.2 (Int.tmod (rd g.1 ((k : Int) * 4 + i.A)) 32)) (rd g.1 ((k : Int) * 4 + i.B)) := hr2
   rw [hr2]; exact hn
  ·rw [if_neg (by simpa using e1), if_neg (by simpa using e2), if_neg (by simpa using e3)] at hn
   exact hn
theorem wp.qbj.math (b : D.Block) (h : M.qgi b) : wp.qbj b (fun r => r = M.qbj b) := by
 have hL : b.Warps.length ≤ 9223372036854775807 := h
 refine qd2 b.Warps.length (fun k => ((k : Int), ())) (fun k => M.qf1 b k = true) rfl rfl (fun k hk hF next hn => ?_) fun hF next => ?_
 ·have hs : M.qf1 b (k + 1) = (M.qf1 b k && ((rd b.Warps (k : Int)).Frames.isEmpty || M.waits b (k : Int))) := rfl
  rw [hF, Bool.true_and] at hs
  dsimp only
  rw [up64 hk hL, qlX]
  refine qaA (by simp; omega) ⟨⟨by omega, by omega⟩, qa2 (fun e => ⟨by omega, qa2 (fun e2 => ?_) fun e2 => ?_⟩) fun e => ?_⟩
  ·have : M.qf1 b (k + 1) = false := by
     rw [hs, show M.waits b (k : Int) = false by simpa using e2, Bool.or_false]
     simp only [decide_eq_true_eq] at e
     cases hx : (rd b.Warps (k : Int)).Frames with
     | nil => rw [hx] at e; simp at e
     | cons _ _ => rfl
   show false = M.qbj b
   unfold M.qbj
   rw [qhd this _ (by omega), Bool.false_and]
  ·refine hn ?_
   rw [hs, show M.waits b (k : Int) = true by simpa using e2, Bool.or_true]
  ·refine hn ?_
   have : (rd b.Warps (k : Int)).Frames = [] := by
    simp only [decide_eq_false_iff_not] at e
    exact List.length_eq_zero_iff.1 (by omega)
   rw [hs, this]; rfl
 ·refine qax (by simp) ?_
  show (b.Waiting != 0) = M.qbj b
  unfold M.qbj
  rw [hF, Bool.true_and]
theorem qmQ {fs : List D.Frame} (h : fs ≠ []) (hl : fs.length ≤ 24) (h0 : 0 ≤ (M.qcL fs).Pc) (h1 : (M.qcL fs).Pc ≤ 32) :
    (List.set fs ((wrap .i64 ((fs.length : Int) - 1)).toNat) (⟨(wrap .i64 ((rd fs (wrap .i64 ((fs.length : Int) - 1))).Pc + 1)), (rd fs (wrap .i64 ((fs.length : Int) - 1))).Stop, (rd fs (wrap .i64 ((fs.length : Int) - 1))).Mask⟩ : D.Frame)) = M.qe0 fs ((M.qcL fs).Pc + 1) := by
 have hpos : 0 < fs.length := List.length_pos_iff.2 h
 rw [qdc (by omega), show ((fs.length : Int) - 1).toNat = fs.length - 1 by omega]
 unfold M.qe0
 have e : rd fs ((fs.length : Int) - 1) = M.qcL fs := rfl
 rw [e, w64 (by omega) (by omega)]
theorem wp.qdd.math (b : D.Block) (w : Int) (h : M.qg0 b w) : wp.qdd b w (fun r => r = M.qdd b w) := by
 obtain ⟨hv, _, hg⟩ := qgc h
 obtain ⟨h0, h1, hp, hw, hn, hok⟩ := qe2 hv.1
 have hfit : M.BFit b := qkS (qiv hok)
 obtain ⟨t1, t2, t3, t4, t5, t6, t7, t8, t9⟩ := qdF (qg8 hv.1 hv.2)
 obtain ⟨p1, p2, p3, p4, p5, p6, p7, p8⟩ := qgU hok
 refine ⟨hfit, fun r25 hr25 => ?_⟩
 have hr25 : r25 = b := hr25
 subst hr25
 refine ⟨⟨hv.1, hv.2⟩, fun r41 hr41 => ?_⟩
 have hr41 : r41 = M.qcB r25 w := hr41
 subst hr41
 refine qgu ((M.actB r25 w).Waiting, (M.actB r25 w).Phase, (M.actB r25 w).Warps, (M.actB r25 w).Memory, ()) ?_ fun J hJ => ?_
 ·dsimp only
  rw [qlw]
  refine ⟨by show _ ≤ _; rw [qiu]; omega, fun r hr => ?_⟩
  have hr : r = M.qbj (M.actB r25 w) := hr
  refine qa2 (fun e => ?_) fun e => ?_
  ·show _ = M.qdo r25 w
   unfold M.qdo M.qhj
   rw [if_pos (hr.symm.trans e), qiF, qgM, w64 (by omega) (by omega)]
  ·show _ = M.qdo r25 w
   unfold M.qdo M.qhj
   rw [if_neg (by rw [← hr, e]; simp)]
 ·refine fun r60 hr60 => qa2 (fun e => ?_) fun e => ?_
  all_goals have hr60 : r60 = M.qcw (M.qcB r25 w) := hr60
  ·have hl := hr60.symm.trans e
   refine ⟨⟨h0, h1⟩, ⟨h0, h1⟩, hg hl, fun r84 hr84 => ⟨⟨h0, h1⟩, ?_⟩⟩
   have hr84 : r84 = M.stepW r25.Code (rd r25.Warps w) := hr84
   rw [show M.actB r25 w = M.ql8 r25 w (M.stepW r25.Code (rd r25.Warps w)) from if_pos hl] at hJ
   rw [hr84]
   exact hJ
  ·have hl := hr60.symm.trans e
   have hB : M.actB r25 w = ⟨r25.Code, r25.Warps.set w.toNat (M.qhh r25.Code (rd (M.qcx r25 w (M.qcB r25 w)).Warps w)), (M.qcx r25 w (M.qcB r25 w)).Memory, if (M.qcB r25 w).Op = 16 then qgs .i64 r25.Waiting (M.qiR w) else r25.Waiting, r25.Phase⟩ := if_neg (by rw [hl]; simp)
   refine ⟨⟨hv, hl⟩, fun r97 hr97 => ?_⟩
   have hr97 : r97 = M.qbN r25 w := hr97
   subst hr97
   refine qgu ((M.actB r25 w).Waiting, (M.actB r25 w).Phase, ()) ?_ fun J2 hJ2 => ?_
   ·dsimp only
    have hX := qhz (i := M.qcB r25 w) h0 h1
    have hlen : (M.qcx r25 w (M.qcB r25 w)).Warps.length = r25.Warps.length := by simp [M.qcx]
    have hset : ∀ y : D.Warp, List.set (M.qcx r25 w (M.qcB r25 w)).Warps w.toNat y = r25.Warps.set w.toNat y := fun y => by simp [M.qcx]
    have hF : (rd (M.qcx r25 w (M.qcB r25 w)).Warps w).Frames = (rd r25.Warps w).Frames := by rw [hX]
    have i0 : (0 ≤ w ∧ w < ((M.qbN r25 w).2.1.length : Int)) := ⟨h0, by show w < ((M.qcx r25 w (M.qcB r25 w)).Warps.length : Int); rw [hlen]; exact h1⟩
    have e2 : (M.qbN r25 w).2.1 = (M.qcx r25 w (M.qcB r25 w)).Warps := rfl
    rw [e2] at *
    rw [hF, qmQ hv.2 t3 t5 (by show M.qdq (rd r25.Warps w) ≤ 32; omega)]
    have j0 : (0 ≤ (wrap .i64 (((rd r25.Warps w).Frames.length : Int) - 1)) ∧ (wrap .i64 (((rd r25.Warps w).Frames.length : Int) - 1)) < (((rd r25.Warps w).Frames).length : Int)) := by
     rw [qdc (by omega)]; omega
    refine ⟨i0, i0, i0, j0, j0, i0, ?_, fun r hr => ⟨i0, ?_⟩⟩
    ·show _ ≤ _ ∧ _ ≤ _
     rw [hX]
     simp only [M.qe0, List.length_set, (qjh hv hl).l1]
     omega
    ·have hr : r = M.qhh r25.Code (rd (M.qcx r25 w (M.qcB r25 w)).Warps w) := by
       rw [hr]
       show M.qga _ _ = M.qga _ _
       rw [hF]
       unfold M.qdq
       rw [hF]
     rw [hset, hr]
     rw [hB] at hJ ⊢
     exact hJ
   ·rw [hB] at hJ2
    refine qa2 (fun e2 => ⟨h0, ?_⟩) fun e2 => ?_
    ·dsimp only at hJ2
     rw [if_pos (by simpa using e2)] at hJ2
     exact hJ2
    ·dsimp only at hJ2
     rw [if_neg (by simpa using e2)] at hJ2
     exact hJ2
theorem qnE {b : D.Block} {w : Int} (hb : M.qi9 b) (h : M.qfV b w = true) : M.qhv b w := by
 simp only [M.qfV, Bool.and_eq_true] at h
 exact ⟨⟨hb, h.1⟩, h.2⟩
end Go.V
namespace Go.V
open IntKind (wrap)
def wp.qbD (s0 : D.Block) (x1 : Int) (s2 : D.Ins) (Q : D.Block → Prop) : Prop :=
 ((0 ≤ x1 ∧ x1 < (s0.Warps.length : Int)) ∧ (M.qd0 (rd s0.Warps x1) ∧ ∀ r25, r25 = M.qbc (rd s0.Warps x1) → (∀ r30, r30 = M.qc7 r25 → qd4 (σ := Int × (List D.Warp) × (List Int) × Unit) (fun (p271 : Int × (List D.Warp) × (List Int) × Unit) next150 => match p271 with | (i141, xs142, xs145, _) => bcase (decide (i141 < (r30.length : Int))) (((0 ≤ i141 ∧ i141 < (r30.length : Int)) ∧ ((0 ≤ x1 ∧ x1 < (xs142.length : Int)) ∧ (M.qdV (rd xs142 x1) (rd r30 i141) ∧ bcase (s2.Op == 13) (((0 ≤ s2.B ∧ s2.B < ((List.drop ((wrap .i64 ((rd r30 i141) * 4)).toNat) (List.take ((wrap .i64 ((wrap .i64 ((rd r30 i141) + 1)) * 4)).toNat) ((rd xs142 x1).Regs))).length : Int)) ∧ ((0 ≤ (Int.tmod (rd (List.drop ((wrap .i64 ((rd r30 i141) * 4)).toNat) (List.take ((wrap .i64 ((wrap .i64 ((rd r30 i141) + 1)) * 4)).toNat) ((rd xs142 x1).Regs))) s2.B) 32) ∧ (Int.tmod (rd (List.drop ((wrap .i64 ((rd r30 i141) * 4)).toNat) (List.take ((wrap .i64 ((wrap .i64 ((rd r30 i141) + 1)) * 4)).toNat) ((rd xs142 x1).Regs))) s2.B) 32) < (xs145.length : Int)) ∧ ((0 ≤ s2.A ∧ s2.A < ((List.drop ((wrap .i64 ((rd r30 i141) * 4)).toNat) (List.take ((wrap .i64 ((wrap .i64 ((rd r30 i141) + 1)) * 4)).toNat) ((rd xs142 x1).Regs))).length : Int)) ∧ next150 ((wrap .i64 (i141 + 1)), (List.set xs142 (x1.toNat) (⟨(rd xs142 x1).Number, (rd xs142 x1).Frames, (List.set ((rd xs142 x1).Regs) (((wrap .i64 ((rd r30 i141) * 4)).toNat) + (s2.A.toNat)) (rd xs145 (Int.tmod (rd (List.drop ((wrap .i64 ((rd r30 i141) * 4)).toNat) (List.take ((wrap .i64 ((wrap .i64 ((rd r30 i141) + 1)) * 4)).toNat) ((rd xs142 x1).Regs))) s2.B) 32)))⟩ : D.Warp)), xs145, ()))))) (bcase (s2.Op == 14) (((0 ≤ s2.A ∧ s2.A < ((List.drop ((wrap .i64 ((rd r30 i141) * 4)).toNat) (List.take ((wrap .i64 ((wrap .i64 ((rd r30 i141) + 1)) * 4)).toNat) ((rd xs142 x1).Regs))).length : Int)) ∧ ((0 ≤ s2.B ∧ s2.B < ((List.drop ((wrap .i64 ((rd r30 i141) * 4)).toNat) (List.take ((wrap .i64 ((wrap .i64 ((rd r30 i141) + 1)) * 4)).toNat) ((rd xs142 x1).Regs))).length : Int)) ∧ ((0 ≤ (Int.tmod (rd (List.drop ((wrap .i64 ((rd r30 i141) * 4)).toNat) (List.take ((wrap .i64 ((wrap .i64 ((rd r30 i141) + 1)) * 4)).toNat) ((rd xs142 x1).Regs))) s2.A) 32) ∧ (Int.tmod (rd (List.drop ((wrap .i64 ((rd r30 i141) * 4)).toNat) (List.take ((wrap .i64 ((wrap .i64 ((rd r30 i141) + 1)) * 4)).toNat) ((rd xs142 x1).Regs))) s2.A) 32) < (xs145.length : Int)) ∧ next150 ((wrap .i64 (i141 + 1)), xs142, (List.set xs145 ((Int.tmod (rd (List.drop ((wrap .i64 ((rd r30 i141) * 4)).toNat) (List.take ((wrap .i64 ((wrap .i64 ((rd r30 i141) + 1)) * 4)).toNat) ((rd xs142 x1).Regs))) s2.A) 32).toNat) (rd (List.drop ((wrap .i64 ((rd r30 i141) * 4)).toNat) (List.take ((wrap .i64 ((wrap .i64 ((rd r30 i141) + 1)) * 4)).toNat) ((rd xs142 x1).Regs))) s2.B)), ()))))) (bcase (s2.Op == 15) (((0 ≤ s2.A ∧ s2.A < ((List.drop ((wrap .i64 ((rd r30 i141) * 4)).toNat) (List.take ((wrap .i64 ((wrap .i64 ((rd r30 i141) + 1)) * 4)).toNat) ((rd xs142 x1).Regs))).length : Int)) ∧ ((0 ≤ (Int.tmod (rd (List.drop ((wrap .i64 ((rd r30 i141) * 4)).toNat) (List.take ((wrap .i64 ((wrap .i64 ((rd r30 i141) + 1)) * 4)).toNat) ((rd xs142 x1).Regs))) s2.A) 32) ∧ (Int.tmod (rd (List.drop ((wrap .i64 ((rd r30 i141) * 4)).toNat) (List.take ((wrap .i64 ((wrap .i64 ((rd r30 i141) + 1)) * 4)).toNat) ((rd xs142 x1).Regs))) s2.A) 32) < (xs145.length : Int)) ∧ ((0 ≤ s2.B ∧ s2.B < ((List.drop ((wrap .i64 ((rd r30 i141) * 4)).toNat) (List.take ((wrap .i64 ((wrap .i64 ((rd r30 i141) + 1)) * 4)).toNat) ((rd xs142 x1).Regs))).length : Int)) ∧ (∀ r248, r248 = M.qbE (rd xs145 (Int.tmod (rd (List.drop ((wrap .i64 ((rd r30 i141) * 4)).toNat) (List.take ((wrap .i64 ((wrap .i64 ((rd r30 i141) + 1)) * 4)).toNat) ((rd xs142 x1).Regs))) s2.A) 32)) (rd (List.drop ((wrap .i64 ((rd r30 i141) * 4)).toNat) (List.take ((wrap .i64 ((wrap .i64 ((rd r30 i141) + 1)) * 4)).toNat) ((rd xs142 x1).Regs))) s2.B) → ((0 ≤ (Int.tmod (rd (List.drop ((wrap .i64 ((rd r30 i141) * 4)).toNat) (List.take ((wrap .i64 ((wrap .i64 ((rd r30 i141) + 1)) * 4)).toNat) ((rd xs142 x1).Regs))) s2.A) 32) ∧ (Int.tmod (rd (List.drop ((wrap .i64 ((rd r30 i141) * 4)).toNat) (List.take ((wrap .i64 ((wrap .i64 ((rd r30 i141) + 1)) * 4)).toNat) ((rd xs142 x1).Regs))) s2.A) 32) < (xs145.length : Int)) ∧ next150 ((wrap .i64 (i141 + 1)), xs142, (List.set xs145 ((Int.tmod (rd (List.drop ((wrap .i64 ((rd r30 i141) * 4)).toNat) (List.take ((wrap .i64 ((wrap .i64 ((rd r30 i141) + 1)) * 4)).toNat) ((rd xs142 x1).Regs))) s2.A) 32).toNat) r248), ()))))))) (next150 ((wrap .i64 (i141 + 1)), xs142, xs145, ())))))))) (Q (⟨s0.Code, xs142, xs145, s0.Waiting, s0.Phase⟩ : D.Block))) (0, s0.Warps, s0.Memory, ()))))
def wp.qbe (s0 : D.Block) (x1 : Int) (Q : (Bool × D.Block) → Prop) : Prop :=
 (M.qdi s0 x1 ∧ ∀ r21, r21 = M.qau s0 x1 → qf3 (σ := (List D.Warp) × Int × Int × (List Int) × Unit) (fun J38 => (∀ r41, r41 = M.qcm r21.1 → bcase r41 (((0 ≤ x1 ∧ x1 < (s0.Warps.length : Int)) ∧ ((0 ≤ x1 ∧ x1 < (s0.Warps.length : Int)) ∧ (M.qfe (rd s0.Warps x1) s0.Code ∧ ∀ r51, r51 = M.qba (rd s0.Warps x1) s0.Code → J38 ((List.set s0.Warps (x1.toNat) (⟨r51.2.Number, r51.2.Frames, r51.2.Regs⟩ : D.Warp)), s0.Waiting, s0.Phase, s0.Memory, ()))))) (qf3 (σ := (List D.Warp) × Int × Int × (List Int) × Unit) (fun J68 => bcase (r21.1.Op == 16) (((0 ≤ x1) ∧ J68 (s0.Warps, (qgs .i64 s0.Waiting (wrap .i64 (1 * 2 ^ (min (x1.toNat) (IntKind.bits .i64))))), s0.Phase, s0.Memory, ()))) ((M.qep s0 x1 r21.1 ∧ ∀ r74, r74 = M.qbD s0 x1 r21.1 → J68 (r74.Warps, r74.Waiting, r74.Phase, r74.Memory, ())))) (fun (p111 : (List D.Warp) × Int × Int × (List Int) × Unit) => match p111 with | (xs61, i64, i65, xs66, _) => ((0 ≤ x1 ∧ x1 < (xs61.length : Int)) ∧ ((0 ≤ (wrap .i64 (((rd xs61 x1).Frames.length : Int) - 1)) ∧ (wrap .i64 (((rd xs61 x1).Frames.length : Int) - 1)) < (((rd xs61 x1).Frames).length : Int)) ∧ ((0 ≤ (wrap .i64 (((rd xs61 x1).Frames.length : Int) - 1)) ∧ (wrap .i64 (((rd xs61 x1).Frames.length : Int) - 1)) < (((rd xs61 x1).Frames).length : Int)) ∧ ((0 ≤ x1 ∧ x1 < (xs61.length : Int)) ∧ (M.qdU (⟨(rd xs61 x1).Number, (List.set ((rd xs61 x1).Frames) ((wrap .i64 (((rd xs61 x1).Frames.length : Int) - 1)).toNat) (⟨(wrap .i64 ((rd ((rd xs61 x1).Frames) (wrap .i64 (((rd xs61 x1).Frames.length : Int) - 1))).Pc + 1)), (rd ((rd xs61 x1).Frames) (wrap .i64 (((rd xs61 x1).Frames.length : Int) - 1))).Stop, (rd ((rd xs61 x1).Frames) (wrap .i64 (((rd xs61 x1).Frames.length : Int) - 1))).Mask⟩ : D.Frame)), (rd xs61 x1).Regs⟩ : D.Warp) (s0.Code.length : Int) ∧ ∀ r103, r103 = M.qbl (⟨(rd xs61 x1).Number, (List.set ((rd xs61 x1).Frames) ((wrap .i64 (((rd xs61 x1).Frames.length : Int) - 1)).toNat) (⟨(wrap .i64 ((rd ((rd xs61 x1).Frames) (wrap .i64 (((rd xs61 x1).Frames.length : Int) - 1))).Pc + 1)), (rd ((rd xs61 x1).Frames) (wrap .i64 (((rd xs61 x1).Frames.length : Int) - 1))).Stop, (rd ((rd xs61 x1).Frames) (wrap .i64 (((rd xs61 x1).Frames.length : Int) - 1))).Mask⟩ : D.Frame)), (rd xs61 x1).Regs⟩ : D.Warp) (s0.Code.length : Int) → J38 ((List.set xs61 (x1.toNat) (⟨r103.Number, r103.Frames, (rd xs61 x1).Regs⟩ : D.Warp)), i64, i65, xs66, ())))))))))) (fun (p149 : (List D.Warp) × Int × Int × (List Int) × Unit) => match p149 with | (xs31, i34, i35, xs36, _) => bcase (i34 == 0) (Q (true, (⟨s0.Code, xs31, xs36, i34, i35⟩ : D.Block))) (qd4 (σ := Int × Unit) (fun (p144 : Int × Unit) next118 => match p144 with | (i114, _) => bcase (decide (i114 < (xs31.length : Int))) (((0 ≤ i114 ∧ i114 < (xs31.length : Int)) ∧ (M.qdC (⟨s0.Code, xs31, xs36, i34, i35⟩ : D.Block) i114 ∧ ∀ r126, r126 = M.qb1 (⟨s0.Code, xs31, xs36, i34, i35⟩ : D.Block) i114 → bcase (!r126) (bcase (decide (((rd xs31 i114).Frames.length : Int) > 0)) (Q (true, (⟨s0.Code, xs31, xs36, i34, i35⟩ : D.Block))) (next118 ((wrap .i64 (i114 + 1)), ()))) (next118 ((wrap .i64 (i114 + 1)), ()))))) (Q ((decide ((wrap .i64 (i35 + 1)) ≤ 100000)), (⟨s0.Code, xs31, xs36, 0, (wrap .i64 (i35 + 1))⟩ : D.Block)))) (0, ()))))
def wp.qcD (s0 : D.Block) (x1 : Int) (Q : (D.Block × Bool) → Prop) : Prop :=
 (M.qdW s0 ∧ ∀ r25, r25 = M.qbm s0 → (M.qeL s0 x1 ∧ ∀ r41, r41 = M.qck s0 x1 → bcase (!r41) ((M.qdW s0 ∧ ∀ r46, r46 = M.qbm s0 → Q ((⟨r46.Code, r46.Warps, r46.Memory, r46.Waiting, r46.Phase⟩ : D.Block), false))) ((M.qeZ r25 x1 ∧ ∀ r60, r60 = M.qbe r25 x1 → bcase (!r60.1) ((M.qdW s0 ∧ ∀ r70, r70 = M.qbm s0 → Q ((⟨r70.Code, r70.Warps, r70.Memory, r70.Waiting, r70.Phase⟩ : D.Block), false))) (Q ((⟨r25.Code, r60.2.Warps, r60.2.Memory, r60.2.Waiting, r60.2.Phase⟩ : D.Block), true))))))
end Go.V
namespace Go.V
open IntKind (wrap)
theorem qki {ws : List D.Warp} {w : Int} : ws.set w.toNat ⟨(rd ws w).Number, (rd ws w).Frames, (rd ws w).Regs⟩ = ws := qnj ws w
theorem wp.qbD.math (b : D.Block) (w : Int) (i : D.Ins) (h : M.qep b w i) : wp.qbD b w i (fun r => r = M.qbD b w i) := by
 obtain ⟨hv, rfl, hl⟩ := h
 obtain ⟨h0, h1, hp, hw, hn, hok⟩ := qe2 hv.1
 obtain ⟨hi, hop⟩ := qk3 hv hl
 have hlong : M.qd0 (rd b.Warps w) := by
  have := (qdF (qg8 hv.1 hv.2)).2.2.1
  show _ ≤ _; omega
 refine ⟨⟨h0, h1⟩, hlong, fun r25 hr25 r30 hr30 => ?_⟩
 have hr25 : r25 = M.qb3 (rd b.Warps w) := hr25
 have hr30 : r30 = M.qeX r25 := hr30
 have hmem : ∀ k ∈ r30, 0 ≤ k ∧ k ≤ 7 := fun k hk => qit (m := r25) (hr30 ▸ hk)
 have hlen : r30.length ≤ 8 := by rw [hr30]; exact List.length_filter_le _ _
 have hs0 := qk2 hv
 have hfin : M.qiG (M.qcB b w) (rd b.Warps w) b.Memory = r30.foldl (M.qeG (M.qcB b w)) ((rd b.Warps w).Regs, b.Memory) := by rw [hr30, hr25]; exact qmH
 let G : Nat → List Int × List Int := fun k => (r30.take k).foldl (M.qeG (M.qcB b w)) ((rd b.Warps w).Regs, b.Memory)
 have hG : ∀ k, qjm (G k) := fun k => qmv hi _ _ hs0 fun j hj => hmem j (List.mem_of_mem_take hj)
 refine qd2 r30.length (fun k => ((k : Int), b.Warps.set w.toNat ⟨(rd b.Warps w).Number, (rd b.Warps w).Frames, (G k).1⟩, (G k).2, ())) (fun _ => True) (by rw [show (G 0) = ((rd b.Warps w).Regs, b.Memory) from rfl, qki]; rfl) trivial (fun k hk _ next hn => ?_) fun _ next => ?_
 ·have hn := hn trivial
  have hGk := hG k
  have hnext : G (k + 1) = M.qeG (M.qcB b w) (G k) (rd r30 (k : Int)) := by
   show (r30.take (k + 1)).foldl _ _ = _
   rw [List.take_add_one, List.getElem?_eq_getElem hk, Option.toList_some, List.foldl_append, ← qdO hk]
   rfl
  rw [hnext] at hn
  have hm := hmem _ (qgy hk)
  dsimp only
  generalize G k = g at *
  generalize M.qcB b w = i at *
  generalize rd r30 (k : Int) = l at *
  obtain ⟨l1, w1, l2, w2⟩ := hGk
  obtain ⟨a0, a1, b0, b1⟩ := hi
  have eX : rd (b.Warps.set w.toNat (⟨(rd b.Warps w).Number, (rd b.Warps w).Frames, g.1⟩ : D.Warp)) w = ⟨(rd b.Warps w).Number, (rd b.Warps w).Frames, g.1⟩ := qm7 h0 (by simpa using h1)
  have c1 : wrap .i64 (l * 4) = l * 4 := w64 (by omega) (by omega)
  have c2 : wrap .i64 ((wrap .i64 (l + 1)) * 4) = l * 4 + 4 := by rw [w64 (x := l + 1) (by omega) (by omega), w64 (by omega) (by omega)]; omega
  have hA : rd ((g.1.take (l * 4 + 4).toNat).drop (l * 4).toNat) i.A = rd g.1 (l * 4 + i.A) := by
   rw [qmr a0 (by omega) (by omega)]; congr 1; omega
  have hB : rd ((g.1.take (l * 4 + 4).toNat).drop (l * 4).toNat) i.B = rd g.1 (l * 4 + i.B) := by
   rw [qmr b0 (by omega) (by omega)]; congr 1; omega
  have hcl : ((g.1.take (l * 4 + 4).toNat).drop (l * 4).toNat).length = 4 := by simp; omega
  have wA := qiY (qhC w1 (z := l * 4 + i.A) (by omega) (by omega))
  have wB := qiY (qhC w1 (z := l * 4 + i.B) (by omega) (by omega))
  rw [eX]
  dsimp only
  rw [c1, c2, hA, hB, hcl, l2, up64 hk (by omega), List.length_set, show (l * 4).toNat + i.A.toNat = (l * 4 + i.A).toNat by omega, List.set_set]
  unfold M.qeG at hn
  refine qaA (by simp; omega) ⟨⟨by omega, by omega⟩, ⟨h0, h1⟩, ⟨l1, hm⟩, qa2 (fun e1 => ?_) fun e1 => qa2 (fun e2 => ?_) fun e2 => qa2 (fun e3 => ?_) fun e3 => ?_⟩
  ·rw [if_pos (by simpa using e1)] at hn
   exact ⟨⟨by omega, by omega⟩, ⟨wB.1, by omega⟩, ⟨by omega, by omega⟩, hn⟩
  ·rw [if_neg (by simpa using e1), if_pos (by simpa using e2)] at hn
   exact ⟨⟨by omega, by omega⟩, ⟨by omega, by omega⟩, ⟨wA.1, by omega⟩, hn⟩
  ·rw [if_neg (by simpa using e1), if_neg (by simpa using e2), if_pos (by simpa using e3)] at hn
   refine ⟨⟨by omega, by omega⟩, ⟨wA.1, by omega⟩, ⟨by omega, by omega⟩, fun r2 hr2 => ⟨⟨wA.1, by omega⟩, ?_⟩⟩
   have hr2 : r2 = M.addW (rd g.2 (Int.tmod (rd g.1 (l * 4 + i.A)) 32)) (rd g.1 (l * 4 + i.B)) := hr2
   rw [hr2]; exact hn
  ·rw [if_neg (by simpa using e1), if_neg (by simpa using e2), if_neg (by simpa using e3)] at hn
   exact hn
 ·refine qax (by simp) ?_
  show _ = M.qcx b w (M.qcB b w)
  unfold M.qcx
  rw [hfin, show G r30.length = r30.foldl (M.qeG (M.qcB b w)) ((rd b.Warps w).Regs, b.Memory) by show (r30.take r30.length).foldl _ _ = _; rw [List.take_length]]
theorem wp.qbe.math (b : D.Block) (w : Int) (h : M.qeZ b w) : wp.qbe b w (fun r => r = M.qbe b w) := by
 obtain ⟨hv, _, hg⟩ := qgc h
 obtain ⟨h0, h1, hp, hw, hn, hok⟩ := qe2 hv.1
 obtain ⟨t1, t2, t3, t4, t5, t6, t7, t8, t9⟩ := qdF (qg8 hv.1 hv.2)
 obtain ⟨p1, p2, p3, p4, p5, p6, p7, p8⟩ := qgU hok
 refine ⟨hv.1, fun r21 hr21 => ?_⟩
 have hem : (rd b.Warps w).Frames.isEmpty = false := by simpa using hv.2
 have hr21 : r21 = (M.qcB b w, true) := by
  rw [hr21]
  unfold M.qau
  rw [if_neg (by rw [hem]; simp)]
 subst hr21
 dsimp only
 refine qgu ((M.actB b w).Warps, (M.actB b w).Waiting, (M.actB b w).Phase, (M.actB b w).Memory, ()) ?_ fun J hJ => ?_
 ·dsimp only
  rw [qlw]
  have hph : (M.actB b w).Phase = b.Phase := qgM b w
  have hcode := qiF b w
  have open_ : M.qbj (M.actB b w) = false → (true, M.actB b w) = M.qbe b w := fun e => by
   unfold M.qbe M.qdo M.qhj
   rw [e, if_neg (by simp), hph]
   simp only [Prod.mk.injEq, and_true]
   exact (decide_eq_true p7).symm
  refine qa2 (fun e => ?_) fun e => ?_
  ·refine open_ ?_
   unfold M.qbj
   have : (M.actB b w).Waiting = 0 := by simpa using e
   rw [this, Bool.and_eq_false_iff]; right; rfl
  ·have hL : (M.actB b w).Warps.length ≤ 9223372036854775807 := by rw [qiu]; omega
   refine qd2 (M.actB b w).Warps.length (fun k => ((k : Int), ())) (fun k => M.qf1 (M.actB b w) k = true) rfl rfl (fun k hk hF next hnx => ?_) fun hF next => ?_
   ·have hs : M.qf1 (M.actB b w) (k + 1) = (M.qf1 (M.actB b w) k && ((rd (M.actB b w).Warps (k : Int)).Frames.isEmpty || M.waits (M.actB b w) (k : Int))) := rfl
    rw [hF, Bool.true_and] at hs
    dsimp only
    rw [up64 hk hL]
    refine qaA (by simp; omega) ⟨⟨by omega, by omega⟩, by show (0 : Int) ≤ _; omega, fun r hr => ?_⟩
    have hr : r = M.waits (M.actB b w) (k : Int) := hr
    refine qa2 (fun e2 => qa2 (fun e3 => ?_) fun e3 => ?_) fun e2 => ?_
    ·refine open_ ?_
     have : M.qf1 (M.actB b w) (k + 1) = false := by
      rw [hs, show M.waits (M.actB b w) (k : Int) = false by rw [← hr]; simpa using e2, Bool.or_false]
      simp only [decide_eq_true_eq] at e3
      cases hx : (rd (M.actB b w).Warps (k : Int)).Frames with
      | nil => rw [hx] at e3; simp at e3
      | cons _ _ => rfl
     unfold M.qbj
     rw [qhd this _ (by omega), Bool.false_and]
    ·refine hnx ?_
     have : (rd (M.actB b w).Warps (k : Int)).Frames = [] := by
      simp only [decide_eq_false_iff_not] at e3
      exact List.length_eq_zero_iff.1 (by omega)
     rw [hs, this]; rfl
    ·refine hnx ?_
     rw [hs, show M.waits (M.actB b w) (k : Int) = true by rw [← hr]; simpa using e2, Bool.or_true]
   ·refine qax (by simp) ?_
    have : M.qbj (M.actB b w) = true := by
     unfold M.qbj
     rw [hF, Bool.true_and]
     simpa using e
    show _ = M.qbe b w
    unfold M.qbe M.qdo M.qhj
    rw [if_pos this, hcode, hph, w64 (by omega) (by omega)]
 ·refine fun r41 hr41 => qa2 (fun e => ?_) fun e => ?_
  all_goals have hr41 : r41 = M.qcw (M.qcB b w) := hr41
  ·have hl := hr41.symm.trans e
   have hgo := hg hl
   refine ⟨⟨h0, h1⟩, ⟨h0, h1⟩, ⟨hp, hw⟩, fun r51 hr51 => ?_⟩
   have hr51 : r51 = (true, M.stepW b.Code (rd b.Warps w)) := by
    rw [hr51]
    unfold M.qba
    rw [if_pos hgo.2]
   subst hr51
   rw [show M.actB b w = M.ql8 b w (M.stepW b.Code (rd b.Warps w)) from if_pos hl] at hJ
   exact hJ
  ·have hl := hr41.symm.trans e
   have hB : M.actB b w = ⟨b.Code, b.Warps.set w.toNat (M.qhh b.Code (rd (M.qcx b w (M.qcB b w)).Warps w)), (M.qcx b w (M.qcB b w)).Memory, if (M.qcB b w).Op = 16 then qgs .i64 b.Waiting (M.qiR w) else b.Waiting, b.Phase⟩ := if_neg (by rw [hl]; simp)
   have hX := qhz (i := M.qcB b w) h0 h1
   have hset : ∀ y : D.Warp, List.set (M.qcx b w (M.qcB b w)).Warps w.toNat y = b.Warps.set w.toNat y := fun y => by simp [M.qcx]
   have hF : (rd (M.qcx b w (M.qcB b w)).Warps w).Frames = (rd b.Warps w).Frames := by rw [hX]
   have hlen : (M.qcx b w (M.qcB b w)).Warps.length = b.Warps.length := by simp [M.qcx]
   refine qgu ((M.qcx b w (M.qcB b w)).Warps, (M.actB b w).Waiting, b.Phase, (M.qcx b w (M.qcB b w)).Memory, ()) ?_ fun J2 hJ2 => ?_
   ·dsimp only
    have i0 : (0 ≤ w ∧ w < ((M.qcx b w (M.qcB b w)).Warps.length : Int)) := ⟨h0, by rw [hlen]; exact h1⟩
    rw [hF, qmQ hv.2 t3 t5 (by show M.qdq (rd b.Warps w) ≤ 32; omega)]
    have j0 : (0 ≤ (wrap .i64 (((rd b.Warps w).Frames.length : Int) - 1)) ∧ (wrap .i64 (((rd b.Warps w).Frames.length : Int) - 1)) < (((rd b.Warps w).Frames).length : Int)) := by
     rw [qdc (by omega)]; omega
    refine ⟨i0, j0, j0, i0, by show _ ≤ _; simp only [M.qe0, List.length_set]; omega, fun r hr => ?_⟩
    have hr : r = M.qhh b.Code (rd (M.qcx b w (M.qcB b w)).Warps w) := by
     rw [hr]
     show M.qga _ _ = M.qga _ _
     unfold M.qdq
     rw [hF]
    have hrr : (rd (M.qcx b w (M.qcB b w)).Warps w).Regs = r.Regs := by rw [hr]; rfl
    rw [hset, hrr]
    show J (b.Warps.set w.toNat r, _)
    rw [hr]
    rw [hB] at hJ ⊢
    exact hJ
   ·refine qa2 (fun e2 => ⟨h0, ?_⟩) fun e2 => ⟨⟨hv, rfl, hl⟩, fun r hr => ?_⟩
    ·have e2 : (M.qcB b w).Op = 16 := by simpa using e2
     have hacc : M.qiG (M.qcB b w) (rd b.Warps w) b.Memory = ((rd b.Warps w).Regs, b.Memory) := by
      rw [M.qiG, qmH]
      have st : ∀ (s : List Int × List Int) (k : Int), M.qeG (M.qcB b w) s k = s := fun s k => by
       unfold M.qeG
       rw [if_neg (by omega), if_neg (by omega), if_neg (by omega)]
      generalize M.qeX (M.qb3 (rd b.Warps w)) = l
      induction l with
      | nil => rfl
      | cons k l ih => rw [List.foldl_cons, st, ih]
     have hac : M.qcx b w (M.qcB b w) = b := by
      unfold M.qcx
      rw [hacc, qki]
     rw [hB] at hJ2
     dsimp only at hJ2
     rw [if_pos e2, hac] at hJ2
     exact hJ2
    ·have hr : r = M.qcx b w (M.qcB b w) := hr
     subst hr
     rw [hB] at hJ2
     dsimp only at hJ2
     rw [if_neg (by simpa using e2)] at hJ2
     exact hJ2
theorem wp.qcD.math (b : D.Block) (w : Int) (h : M.qfb b w) : wp.qcD b w (fun r => r = M.qcD b w) := by
 have hb := qn4 h
 refine ⟨h, fun r25 hr25 => ?_⟩
 have hr25 : r25 = b := hr25
 subst hr25
 refine ⟨hb, fun r41 hr41 => qa2 (fun e => ⟨h, fun r hr => ?_⟩) fun e => ?_⟩
 all_goals have hr41 : r41 = M.qfV r25 w := hr41
 ·have hr : r = r25 := hr
  have hc : M.qfV r25 w = false := by rw [← hr41]; simpa using e
  show _ = M.qfP r25 w
  unfold M.qfP
  rw [if_neg (by rw [hc]; simp), hr]
 ·have hc : M.qfV r25 w = true := by rw [← hr41]; simpa using e
  refine ⟨qnE hb hc, fun r60 hr60 => ?_⟩
  have hr60 : r60 = (decide ((M.qdo r25 w).Phase ≤ 100000), M.qdo r25 w) := hr60
  subst hr60
  refine qa2 (fun e2 => ⟨h, fun r hr => ?_⟩) fun e2 => ?_
  all_goals
   show _ = M.qfP r25 w
   unfold M.qfP
   rw [if_pos hc]
  ·have hr : r = r25 := hr
   rw [if_pos (by simp at e2; omega), hr]
  ·rw [if_neg (by simp at e2; omega), ← qhn r25 w]
end Go.V
namespace Go.V
open IntKind (wrap)
theorem qin {b : D.Block} (h : M.Good b) {f : Int} (hf : 0 ≤ f) : ∀ (r : Nat) (k : Int), 0 ≤ k → ¬ M.qgz b b.Warps.length f r k < 0 → M.qhv b (M.qgz b b.Warps.length f r k)
 | 0, k, _, hn => (hn (by show (-1 : Int) < 0; omega)).elim
 | r + 1, k, hk, hn => by
  have hc := qge h
  have ht := qhW (x := f + k) (n := b.Warps.length) (by omega) (by omega)
  unfold M.qgz at hn ⊢
  by_cases e : M.qgO b (Int.tmod (f + k) b.Warps.length) = true
  ·rw [if_pos e]; exact ⟨qjV h ht.1 ht.2, e⟩
  ·rw [if_neg e] at hn ⊢
   exact qin h hf r (k + 1) (by omega) hn
theorem qmT {b : D.Block} (h : M.Good b) {q : Int} (hq : 0 ≤ q) (hn : ¬ M.pick b q < 0) : M.qhv b (M.pick b q) := by
 have hc := qge h
 exact qin h (qhW (x := q) (n := b.Warps.length) hq (by omega)).1 _ _ (Int.le_refl _) hn
theorem qno {f : Nat → Int} {x : D.Block} {k : Nat} (h : M.stops f x k = false) : 0 ≤ f k ∧ x.Phase ≠ 100000 ∧ ¬ M.pick x (f k) < 0 := by
 simp only [M.stops, Bool.or_eq_false_iff, decide_eq_false_iff_not, beq_eq_false_iff_ne] at h
 exact ⟨by omega, h.2.1, h.2.2⟩
theorem good_step {f : Nat → Int} {x : D.Block} {k : Nat} (h : M.Good x) (hs : M.stops f x k = false) : M.qhv x (M.pick x (f k)) ∧ M.Good (M.qdo x (M.pick x (f k))) := by
 obtain ⟨h0, h1, h2⟩ := qno hs
 have hc := qmT h h0 h2
 have hp := (qgU h.2).2.2.2.2.2.2.1
 have hok := qly hc (by rcases qgp x (M.pick x (f k)) with e | e <;> omega)
 exact ⟨hc, qjs (qiv hok), hok⟩
theorem qkG {f : Nat → Int} : ∀ (m : Nat) (x : D.Block) (k : Nat), M.Good x → M.Good (M.goTo f m x k).1
 | 0, x, k, h => h
 | m + 1, x, k, h => by
  unfold M.goTo
  by_cases e : M.stops f x k = true
  ·rw [if_pos e]; exact h
  ·rw [if_neg e]; exact qkG m _ _ (good_step h (Bool.eq_false_iff.2 e)).2
theorem qkB (f : Nat → Int) (b : D.Block) : ∀ k, (M.goAt f b k).Code = b.Code
 | 0 => rfl
 | k + 1 => by unfold M.goAt; rw [qhn, qkB f b k]
structure GoI (f : Nat → Int) (b : D.Block) (n k : Nat) : Prop where
 good : M.Good (M.goAt f b k)
 code : (M.goAt f b k).Code = b.Code
 run : M.goTo f n b 0 = M.goTo f (n - k) (M.goAt f b k) k
theorem qnb {f : Nat → Int} {b : D.Block} (h : M.Good b) (n : Nat) : GoI f b n 0 := ⟨h, rfl, rfl⟩
theorem qnZ {f : Nat → Int} {b : D.Block} {n k : Nat} (h : GoI f b n k) (hk : k < n) (hs : M.stops f (M.goAt f b k) k = false) : GoI f b n (k + 1) := by
 refine ⟨(good_step h.good hs).2, qkB f b (k + 1), ?_⟩
 rw [h.run, show n - k = (n - (k + 1)) + 1 by omega, M.goTo, if_neg (by rw [hs]; simp)]
 rfl
theorem qn9 {f : Nat → Int} {b : D.Block} {n k : Nat} (h : GoI f b n k) (hk : k < n) (hs : M.stops f (M.goAt f b k) k = true) : M.goTo f n b 0 = (M.goAt f b k, (k : Int)) := by
 rw [h.run, show n - k = (n - (k + 1)) + 1 by omega, M.goTo, if_pos hs]
theorem qnB {f : Nat → Int} {b : D.Block} {n : Nat} (h : GoI f b n n) : M.goTo f n b 0 = (M.goAt f b n, (n : Int)) := by
 rw [h.run, Nat.sub_self]; rfl
end Go.V
namespace Go.V
open IntKind (wrap)
theorem round {f : Nat → Int} {b : D.Block} {n k : Nat} (hF : GoI f b n k) (hk : k < n) {R : D.Block → Int → Prop} {N : D.Block → Prop} (hR : R (M.goTo f n b 0).1 (M.goTo f n b 0).2) (hN : GoI f b n (k + 1) → N (M.goAt f b (k + 1))) :
    (M.stops f (M.goAt f b k) k = true → R (M.goAt f b k) (k : Int)) ∧ (M.stops f (M.goAt f b k) k = false → M.qhv (M.goAt f b k) (M.pick (M.goAt f b k) (f k)) ∧ N (M.qdo (M.goAt f b k) (M.pick (M.goAt f b k) (f k)))) := by
 refine ⟨fun e => ?_, fun e => ⟨(good_step hF.good e).1, hN (qnZ hF hk e)⟩⟩
 rw [qn9 hF hk e] at hR
 exact hR
end Go.V
namespace Go.V
open IntKind (wrap)
theorem qmc {k : Nat} {s : Int} (hk : k ≤ 9000) (h0 : 0 ≤ s) (h1 : s ≤ 100) : 0 ≤ (k : Int) * s ∧ (k : Int) * s ≤ 900000 := by
 have a := Int.mul_nonneg (Int.natCast_nonneg k) h0
 have b := Int.mul_le_mul (show (k : Int) ≤ 9000 by omega) h1 h0 (by omega)
 omega
end Go.V
namespace Go.V
open IntKind (wrap)
def wp.qcV (s0 : D.Block) (x1 : Int) (x2 : Int) (Q : D.Block → Prop) : Prop :=
 qd4 (σ := Int × (List D.Ins) × (List D.Warp) × (List Int) × Int × Int × Unit) (fun (p134 : Int × (List D.Ins) × (List D.Warp) × (List Int) × Int × Int × Unit) next101 => match p134 with | (i85, xs86, xs90, xs93, i96, i97, _) => bcase (decide (i85 < x2)) ((M.qfZ (⟨xs86, xs90, xs93, i96, i97⟩ : D.Block) (wrap .i64 (i85 * x1)) ∧ ∀ r103, r103 = M.qdf (⟨xs86, xs90, xs93, i96, i97⟩ : D.Block) (wrap .i64 (i85 * x1)) → bcase (decide (r103 < 0)) (Q (⟨xs86, xs90, xs93, i96, i97⟩ : D.Block)) (bcase (i97 == 100000) (Q (⟨xs86, xs90, xs93, i96, i97⟩ : D.Block)) ((M.qg0 (⟨xs86, xs90, xs93, i96, i97⟩ : D.Block) r103 ∧ ∀ r112, r112 = M.qdd (⟨xs86, xs90, xs93, i96, i97⟩ : D.Block) r103 → next101 ((wrap .i64 (i85 + 1)), r112.Code, r112.Warps, r112.Memory, r112.Waiting, r112.Phase, ())))))) (Q (⟨xs86, xs90, xs93, i96, i97⟩ : D.Block))) (0, s0.Code, s0.Warps, s0.Memory, s0.Waiting, s0.Phase, ())
def wp.qct (s0 : D.Cur) (Q : (D.Block × D.Cur) → Prop) : Prop :=
 (M.qf2 s0 ∧ ∀ r23, r23 = M.qa7 s0 → (M.qaq (⟨s0.b, r23.2.i, r23.2.h⟩ : D.Cur) 3 ∧ ∀ r31, r31 = M.qa0 (⟨s0.b, r23.2.i, r23.2.h⟩ : D.Cur) 3 → (M.qfA r23.1 (wrap .i64 (1 + r31.1)) ∧ ∀ r37, r37 = M.qbg r23.1 (wrap .i64 (1 + r31.1)) → qf3 (σ := Int × Int × (List Int) × Int × Int × Unit) (fun J83 => (M.qeM (⟨s0.b, r31.2.i, r31.2.h⟩ : D.Cur) 3 ∧ ∀ r86, r86 = M.qcz (⟨s0.b, r31.2.i, r31.2.h⟩ : D.Cur) 3 → bcase r86.1 ((M.qfu (⟨s0.b, r86.2.i, r86.2.h⟩ : D.Cur) 32 ∧ ∀ r92, r92 = M.qbf (⟨s0.b, r86.2.i, r86.2.h⟩ : D.Cur) 32 → J83 (r92.2.i, r92.2.h, r92.1, r37.1.Waiting, r37.1.Phase, ()))) (J83 (r86.2.i, r86.2.h, r37.1.Memory, r37.1.Waiting, r37.1.Phase, ())))) (fun (p136 : Int × Int × (List Int) × Int × Int × Unit) => match p136 with | (i76, i77, xs78, i81, i82, _) => (M.qaq (⟨s0.b, i76, i77⟩ : D.Cur) 4 ∧ ∀ r110, r110 = M.qa0 (⟨s0.b, i76, i77⟩ : D.Cur) 4 → (M.qaq (⟨s0.b, r110.2.i, r110.2.h⟩ : D.Cur) 40 ∧ ∀ r116, r116 = M.qa0 (⟨s0.b, r110.2.i, r110.2.h⟩ : D.Cur) 40 → (M.qgj (⟨r37.1.Code, r37.1.Warps, xs78, i81, i82⟩ : D.Block) r110.1 r116.1 ∧ ∀ r122, r122 = M.qcV (⟨r37.1.Code, r37.1.Warps, xs78, i81, i82⟩ : D.Block) r110.1 r116.1 → Q ((⟨r122.Code, r122.Warps, r122.Memory, r122.Waiting, r122.Phase⟩ : D.Block), (⟨s0.b, r116.2.i, r116.2.h⟩ : D.Cur)))))))))
def wp.qbP (xs0 : List Int) (Q : D.Block → Prop) : Prop :=
 (M.qfg xs0 ∧ ∀ r23, r23 = M.qaB xs0 → (M.qfB (⟨xs0, r23.i, r23.h⟩ : D.Cur) ∧ ∀ r29, r29 = M.qct (⟨xs0, r23.i, r23.h⟩ : D.Cur) → Q (⟨r29.1.Code, r29.1.Warps, r29.1.Memory, r29.1.Waiting, r29.1.Phase⟩ : D.Block)))
end Go.V
namespace Go.V
open IntKind (wrap)
theorem wp.qcV.math (b : D.Block) (s n : Int) (h : M.qgj b s n) : wp.qcV b s n (fun r => r = M.qcV b s n) := by
 obtain ⟨hg, hs0, hs1, hn0, hn1⟩ := h
 obtain ⟨N, rfl⟩ := Int.eq_ofNat_of_zero_le hn0
 have hN : N ≤ 9000 := by omega
 have hR : (M.goTo (M.qe3 s) N b 0).1 = M.qcV b s (N : Int) := rfl
 refine qd2 N (fun k => ((k : Int), (M.goAt (M.qe3 s) b k).Code, (M.goAt (M.qe3 s) b k).Warps, (M.goAt (M.qe3 s) b k).Memory, (M.goAt (M.qe3 s) b k).Waiting, (M.goAt (M.qe3 s) b k).Phase, ())) (fun k => GoI (M.qe3 s) b N k) rfl (qnb hg _) (fun k hk hF next hn => ?_) fun hF next => ?_
 ·obtain ⟨hs, hgo⟩ := round hF hk (R := fun x j => x = M.qcV b s (N : Int)) (N := fun x => next (((k + 1 : Nat) : Int), x.Code, x.Warps, x.Memory, x.Waiting, x.Phase, ())) hR hn
  have hgd := hF.good
  have hbd := qmc (k := k) (by omega) hs0 hs1
  dsimp only
  rw [up64 hk (by omega), w64 (x := (k : Int) * s) (by omega) (by omega)]
  have hst : M.stops (M.qe3 s) (M.goAt (M.qe3 s) b k) k = (decide ((k : Int) * s < 0) || ((M.goAt (M.qe3 s) b k).Phase == 100000 || decide (M.pick (M.goAt (M.qe3 s) b k) ((k : Int) * s) < 0))) := rfl
  have hfk : M.qe3 s k = (k : Int) * s := rfl
  rw [hfk] at hgo
  have e1 : decide ((k : Int) * s < 0) = false := decide_eq_false (by omega)
  generalize M.goAt (M.qe3 s) b k = x at *
  refine qaA (by simp; omega) ⟨⟨hgd, hbd.1, by show (k : Int) * s ≤ _; omega⟩, fun r hr => qa2 (fun e3 => ?_) fun e3 => qa2 (fun e4 => ?_) fun e4 => ?_⟩
  all_goals
   have hr : r = M.pick x ((k : Int) * s) := hr
   subst hr
  ·exact hs (by rw [hst, e3, Bool.or_true, Bool.or_true])
  ·exact hs (by rw [hst, e4, Bool.true_or, Bool.or_true])
  ·obtain ⟨q1, q2⟩ := hgo (by rw [hst, e1, e3, e4]; rfl)
   refine ⟨q1, fun r134 hr134 => ?_⟩
   have hr134 : r134 = M.qdo x (M.pick x ((k : Int) * s)) := hr134
   rw [hr134]
   exact q2
 ·dsimp only
  refine qax (by simp) ?_
  rw [← hR, qnB hF]
theorem qo4 {b : D.Block} {m : List Int} (h : M.qdS b = true) (hm : M.qb8 m = true) : M.qdS ⟨b.Code, b.Warps, m, b.Waiting, b.Phase⟩ = true := by
 unfold M.qdS at h ⊢
 simp only [Bool.and_eq_true] at h ⊢
 exact ⟨h.1, h.2.1, hm, h.2.2.2⟩
theorem qkT {b : D.Block} (h : M.qdS b = true) : M.Good b := ⟨qjs (qiv h), h⟩
theorem qlB {p : List D.Ins} (hp : M.qaT p = true) {c : Int} (hc : 1 ≤ c ∧ c ≤ 3) : M.qeP p c = (M.qee p c, true) := by
 unfold M.qeP
 rw [if_pos (by rw [hp]; simp only [M.isIn, Bool.true_and, Bool.and_eq_true, decide_eq_true_eq]; exact hc)]
theorem qm8 {c : D.Cur} (h : M.qdn c) (n : Int) : M.qdn (M.qbf c n).2 := qke _ h
theorem qmp (c : D.Cur) : M.qb8 (M.qbf c 32).1 = true := by
 unfold M.qb8
 rw [Bool.and_eq_true, beq_iff_eq]
 exact ⟨qiE 32 c, qjD 32 c⟩
theorem qlG {c : D.Cur} (h : M.qdn c) : M.Good (M.qaU c).1 ∧ M.qdn (M.qaU c).2 ∧ (M.qaU c).2.b = c.b := by
 obtain ⟨p1, p2, _, p4, _⟩ := qix h
 have hp := qiN h
 have hb := qcG (M.qa7 c).2 (n := 3) (by omega)
 have c1 := qbh p1 3
 have b1 := (qbZ (M.qa7 c).2 3).trans p2
 have c2 := qjO c1 3
 have b2 := (qlq (M.qa0 (M.qa7 c).2 3).2 3).trans b1
 have hN := qlB hp (c := 1 + (M.qa0 (M.qa7 c).2 3).1) (by omega)
 have hk := qlj hp (c := 1 + (M.qa0 (M.qa7 c).2 3).1) (by omega)
 unfold M.qaU
 dsimp only
 rw [hN]
 generalize M.once (M.qa0 (M.qa7 c).2 3).2 3 = o at *
 generalize M.qee (M.qa7 c).1 (1 + (M.qa0 (M.qa7 c).2 3).1) = nb at *
 split
 ·dsimp only
  exact ⟨qkT (qo4 hk.1 (qmp _)), qm8 c2 32, (qn6 _ 32).trans b2⟩
 ·exact ⟨qkT hk.1, c2, b2⟩
theorem wp.qct.math (c : D.Cur) (h : M.qfB c) : wp.qct c (fun r => r = M.qct c) := by
 have h : M.qdn c := h
 obtain ⟨p1, p2, _, p4, _⟩ := qix h
 have hp := qiN h
 obtain ⟨s1, s2, s3⟩ := qlG h
 refine ⟨h, fun r hr => ?_⟩
 subst hr
 rw [qcf p2]
 refine ⟨p1, fun r hr => ?_⟩
 subst hr
 have hb := qcG (M.qa7 c).2 (n := 3) (by omega)
 have c1 := qbh p1 3
 have b1 := (qbZ (M.qa7 c).2 3).trans p2
 rw [w64 (x := 1 + (M.qa0 (M.qa7 c).2 3).1) (by omega) (by omega)]
 refine ⟨by show (M.qa7 c).1.length ≤ _; omega, fun r hr => ?_⟩
 subst hr
 refine qgu ((M.qaU c).2.i, (M.qaU c).2.h, (M.qaU c).1.Memory, (M.qaU c).1.Waiting, (M.qaU c).1.Phase, ()) ?_ fun J hJ => ?_
 ·have eb : (⟨(M.qbg (M.qa7 c).1 (1 + (M.qa0 (M.qa7 c).2 3).1)).1.Code, (M.qbg (M.qa7 c).1 (1 + (M.qa0 (M.qa7 c).2 3).1)).1.Warps, (M.qaU c).1.Memory, (M.qaU c).1.Waiting, (M.qaU c).1.Phase⟩ : D.Block) = (M.qaU c).1 := by
    unfold M.qaU M.qbg
    dsimp only
    split <;> rfl
  dsimp only
  rw [eb, qcf s3]
  refine ⟨s2, fun r hr => ?_⟩
  subst hr
  have b4 := (qbZ (M.qaU c).2 4).trans s3
  rw [qcf b4]
  refine ⟨qbh s2 4, fun r hr => ?_⟩
  subst hr
  have b5 := (qbZ (M.qa0 (M.qaU c).2 4).2 40).trans b4
  have i4 := qcG (M.qaU c).2 (n := 4) (by omega)
  have i5 := qcG (M.qa0 (M.qaU c).2 4).2 (n := 40) (by omega)
  rw [qcf b5]
  refine ⟨⟨s1, by omega, by omega, by omega, by omega⟩, fun r hr => ?_⟩
  subst hr; rfl
 ·rw [qcf b1]
  refine ⟨c1, fun r hr => ?_⟩
  subst hr
  have c2 := qjO c1 3
  have b2 := (qlq (M.qa0 (M.qa7 c).2 3).2 3).trans b1
  refine qa2 (fun e => ?_) fun e => ?_
  ·have e : (M.once (M.qa0 (M.qa7 c).2 3).2 3).1 = true := e
   have eS : M.qaU c = (⟨(M.qeP (M.qa7 c).1 (1 + (M.qa0 (M.qa7 c).2 3).1)).1.Code, (M.qeP (M.qa7 c).1 (1 + (M.qa0 (M.qa7 c).2 3).1)).1.Warps, (M.qbf (M.once (M.qa0 (M.qa7 c).2 3).2 3).2 32).1, (M.qeP (M.qa7 c).1 (1 + (M.qa0 (M.qa7 c).2 3).1)).1.Waiting, (M.qeP (M.qa7 c).1 (1 + (M.qa0 (M.qa7 c).2 3).1)).1.Phase⟩, (M.qbf (M.once (M.qa0 (M.qa7 c).2 3).2 3).2 32).2) := by
    unfold M.qaU
    dsimp only
    rw [if_pos e]
   rw [eS] at hJ
   show _ ∧ _
   rw [qcf (d := (M.qcz (M.qa0 (M.qa7 c).2 3).2 3).2) b2]
   refine ⟨⟨c2, by omega, by omega⟩, fun r hr => ?_⟩
   subst hr
   exact hJ
  ·have e : (M.once (M.qa0 (M.qa7 c).2 3).2 3).1 = false := e
   have eS : M.qaU c = ((M.qeP (M.qa7 c).1 (1 + (M.qa0 (M.qa7 c).2 3).1)).1, (M.once (M.qa0 (M.qa7 c).2 3).2 3).2) := by
    unfold M.qaU
    dsimp only
    rw [if_neg (by rw [e]; simp)]
   rw [eS] at hJ
   exact hJ
theorem qjT {c : D.Cur} (h : M.qdn c) : M.Good (M.qct c).1 := qkG _ _ _ (qlG h).1
theorem qm9 {b : List Int} (h : M.Long b) : M.Good (M.qbP b) := qjT (qll h)
theorem wp.qbP.math (b : List Int) (h : M.qfc b) : wp.qbP b (fun r => r = M.qbP b) := by
 have hn := qll h
 refine ⟨h, fun r hr => ?_⟩
 have e : (⟨b, r.i, r.h⟩ : D.Cur) = M.qaB b := by subst hr; rfl
 rw [e]
 refine ⟨hn, fun r2 hr2 => ?_⟩
 subst hr2; rfl
end Go.V
namespace Go.V
open IntKind (wrap)
def wp.qaP (xs0 : List Int) (Q : Bool → Prop) : Prop :=
 (∀ r21, r21 = M.qeQ xs0 → bcase r21 (Q true) ((M.qfc xs0 ∧ ∀ r26, r26 = M.qbP xs0 → (M.qeS xs0 ∧ ∀ r42, r42 = M.qbb xs0 → ((0 ≤ (0 : Int) ∧ (0 : Int) < (r42.length : Int)) ∧ ((((r26.Warps.length : Int) : Int) ≠ 0) ∧ (M.qgm r26 (Int.tmod (rd r42 0) (r26.Warps.length : Int)) ∧ ∀ r56, r56 = M.qcY r26 (Int.tmod (rd r42 0) (r26.Warps.length : Int)) → (M.qfb r26 (Int.tmod (rd r42 0) (r26.Warps.length : Int)) ∧ ∀ r61, r61 = M.qcD r26 (Int.tmod (rd r42 0) (r26.Warps.length : Int)) → (M.qeL r26 (Int.tmod (rd r42 0) (r26.Warps.length : Int)) ∧ ∀ r77, r77 = M.qck r26 (Int.tmod (rd r42 0) (r26.Warps.length : Int)) → bcase (!(r61.2 == r77)) (Q false) (bcase ((r61.1.Warps.length : Int) != (r26.Warps.length : Int)) (Q false) (bcase (!r61.2) ((M.qfd r61.1 r26 ∧ ∀ r82, r82 = M.qbX r61.1 r26 → Q r82)) (qd4 (σ := Int × Unit) (fun (p189 : Int × Unit) next91 => match p189 with | (i87, _) => bcase (decide (i87 < (r26.Warps.length : Int))) (bcase (i87 != (Int.tmod (rd r42 0) (r26.Warps.length : Int))) (((0 ≤ i87 ∧ i87 < (r61.1.Warps.length : Int)) ∧ ((0 ≤ i87 ∧ i87 < (r26.Warps.length : Int)) ∧ (M.qeA (rd r61.1.Warps i87) (rd r26.Warps i87) ∧ ∀ r118, r118 = M.qbw (rd r61.1.Warps i87) (rd r26.Warps i87) → bcase (!r118) (Q false) (next91 ((wrap .i64 (i87 + 1)), ())))))) (next91 ((wrap .i64 (i87 + 1)), ()))) ((M.qeK r61.1 ∧ ∀ r131, r131 = M.qcn r61.1 → bcase r131 (bcase (decide (r61.1.Phase ≥ r26.Phase)) (bcase (r56 == 14) (bcase (r61.1.Phase == r26.Phase) (bcase (r56 == 16) (Q true) ((M.qbF r61.1 (Int.tmod (rd r42 0) (r26.Warps.length : Int)) ∧ ∀ r136, r136 = M.qay r61.1 (Int.tmod (rd r42 0) (r26.Warps.length : Int)) → Q (!r136)))) (bcase (r61.1.Waiting == 0) (bcase (r56 == 16) (Q true) ((M.qbF r61.1 (Int.tmod (rd r42 0) (r26.Warps.length : Int)) ∧ ∀ r142, r142 = M.qay r61.1 (Int.tmod (rd r42 0) (r26.Warps.length : Int)) → Q (!r142)))) (Q false))) (bcase (r56 == 15) (bcase (r61.1.Phase == r26.Phase) (bcase (r56 == 16) (Q true) ((M.qbF r61.1 (Int.tmod (rd r42 0) (r26.Warps.length : Int)) ∧ ∀ r150, r150 = M.qay r61.1 (Int.tmod (rd r42 0) (r26.Warps.length : Int)) → Q (!r150)))) (bcase (r61.1.Waiting == 0) (bcase (r56 == 16) (Q true) ((M.qbF r61.1 (Int.tmod (rd r42 0) (r26.Warps.length : Int)) ∧ ∀ r156, r156 = M.qay r61.1 (Int.tmod (rd r42 0) (r26.Warps.length : Int)) → Q (!r156)))) (Q false))) ((M.qfx r61.1.Memory r26.Memory ∧ ∀ r164, r164 = M.qbx r61.1.Memory r26.Memory → bcase r164 (bcase (r61.1.Phase == r26.Phase) (bcase (r56 == 16) (Q true) ((M.qbF r61.1 (Int.tmod (rd r42 0) (r26.Warps.length : Int)) ∧ ∀ r169, r169 = M.qay r61.1 (Int.tmod (rd r42 0) (r26.Warps.length : Int)) → Q (!r169)))) (bcase (r61.1.Waiting == 0) (bcase (r56 == 16) (Q true) ((M.qbF r61.1 (Int.tmod (rd r42 0) (r26.Warps.length : Int)) ∧ ∀ r175, r175 = M.qay r61.1 (Int.tmod (rd r42 0) (r26.Warps.length : Int)) → Q (!r175)))) (Q false))) (Q false))))) (Q false)) (Q false)))) (0, ())))))))))))))
end Go.V
namespace Go.V
open IntKind (wrap)
theorem qjK {f : Nat → Int} : ∀ (m : Nat) (x : D.Block) (k : Nat), (M.goTo f m x k).1.Phase ≤ x.Phase + (m : Int)
 | 0, x, k => by show x.Phase ≤ _; omega
 | m + 1, x, k => by
  unfold M.goTo
  split
  ·show x.Phase ≤ _; omega
  ·have h1 := qjK (f := f) m (M.qdo x (M.pick x (f k))) (k + 1)
   rcases qgp x (M.pick x (f k)) with e | e <;> omega
theorem qlb {c : D.Cur} (h : M.qdn c) : (M.qaU c).1.Phase = 0 := by
 have hp := qiN h
 have hb := qcG (M.qa7 c).2 (n := 3) (by omega)
 have hN := qlB hp (c := 1 + (M.qa0 (M.qa7 c).2 3).1) (by omega)
 unfold M.qaU
 dsimp only
 rw [hN]
 split <;> rfl
theorem qlP {b : List Int} (h : M.Long b) : (M.qbP b).Phase ≤ 40 := by
 have hc := qll h
 have h0 := qlb hc
 have h40 := qcG (M.qa0 (M.qaU (M.qaB b)).2 4).2 (n := 40) (by omega)
 have := qjK (f := M.qe3 (M.qa0 (M.qaU (M.qaB b)).2 4).1) (M.qa0 (M.qa0 (M.qaU (M.qaB b)).2 4).2 40).1.toNat (M.qaU (M.qaB b)).1 0
 rw [h0] at this
 have e : (M.qbP b).Phase = (M.goTo (M.qe3 (M.qa0 (M.qaU (M.qaB b)).2 4).1) (M.qa0 (M.qa0 (M.qaU (M.qaB b)).2 4).2 40).1.toNat (M.qaU (M.qaB b)).1 0).1.Phase := rfl
 rw [e]
 omega
theorem qk0 {i : D.Ins} {m : Int} {s : List Int × List Int} (h1 : i.Op ≠ 14) (h2 : i.Op ≠ 15) : ∀ k, (M.qjg i m s k).2 = s.2
 | 0 => rfl
 | k + 1 => by
  unfold M.qjg
  split
  ·unfold M.qeG
   rw [if_neg h1, if_neg h2]
   split <;> exact qk0 h1 h2 k
  ·exact qk0 h1 h2 k
theorem qmX {b : D.Block} {w : Int} (h1 : (M.qcB b w).Op ≠ 14) (h2 : (M.qcB b w).Op ≠ 15) : (M.qdo b w).Memory = b.Memory := by
 rw [qkL]
 unfold M.actB
 split
 ·rfl
 ·exact qk0 h1 h2 8
theorem qjt (b : D.Block) (w : Int) : ((M.qdo b w).Phase = b.Phase ∧ (M.qdo b w).Waiting = (M.actB b w).Waiting) ∨ (M.qdo b w).Waiting = 0 := by
 unfold M.qdo M.qhj
 split
 ·exact .inr rfl
 ·exact .inl ⟨qgM b w, rfl⟩
theorem qn3 {b : D.Block} {w : Int} (h : b.Waiting = 0) : M.waits b w = false := by
 unfold M.waits
 rw [h, qkf, Int.zero_fdiv]; rfl
theorem qlU {b : D.Block} {w : Int} (h : M.qhv b w) (h16 : (M.qcB b w).Op ≠ 16) : M.waits (M.qdo b w) w = false := by
 rcases qjt b w with h1 | h1
 ·have hw : (M.actB b w).Waiting = b.Waiting := by
    unfold M.actB
    split
    ·rfl
    ·first | rfl | (dsimp only; rw [if_neg h16])
  have := (qgc h).2.1
  unfold M.waits at this ⊢
  rw [h1.2, hw]; exact this
 ·exact qn3 h1
theorem wp.qaP.math (b : List Int) (h : M.qeo b) : wp.qaP b (fun r => r = M.qaP b) := by
 intro r0 _
 have hpl : (M.qbb b).length = 12 := qhk 12 _
 refine qa2 (fun _ => rfl) fun _ => ⟨h, fun x gx => ⟨h, fun pl gpl => ?_⟩⟩
 have hph : x.Phase ≤ 40 := by rw [gx]; exact qlP h
 have hg : M.Good x := by rw [gx]; exact qm9 h
 have hc := qge hg
 have hw := qmR h (k := 0) (n := (x.Warps.length : Int)) (by omega) (by omega) (by omega)
 rw [← gpl] at hw hpl
 clear gx gpl
 have hl := hg.1
 have hfit : M.BFit x := qkS (qiv hg.2)
 refine ⟨⟨by omega, by omega⟩, by omega, hl, fun o go => ⟨hfit, fun y gy => ⟨hl, fun c gc => ?_⟩⟩⟩
 generalize Int.tmod (rd pl 0) (x.Warps.length : Int) = w at *
 have go : o = M.qjv x w := go
 have gy : y = M.qfP x w := gy
 have gc : c = M.qfV x w := gc
 have hHas := qjV hg hw.1 hw.2
 by_cases ec : M.qfV x w = true
 ·have hgo : M.qhv x w := ⟨hHas, by unfold M.qfV at ec; rw [hHas.2, Bool.true_and] at ec; exact ec⟩
  have hph2 : (M.qdo x w).Phase ≤ 100000 := by rcases qgp x w with e | e <;> omega
  have gy : y = (M.qdo x w, true) := by
   rw [gy]; unfold M.qfP
   rw [if_pos ec, if_neg (by omega)]
  have hok := qly hgo hph2
  have hg2 := qkT hok
  have hlen : (M.qdo x w).Warps.length = x.Warps.length := by rw [qgX, List.length_set]
  have hlive := (qgc hgo).1
  have go : o = (M.qcB x w).Op := by
   rw [go]; unfold M.qjv
   rw [hHas.2, if_pos (by simpa using hlive.2)]
  subst gy
  refine qax (by rw [gc, ec]; rfl) (qax (by rw [hlen]; simp) (qax rfl ?_))
  have hY : ∀ Q : Prop → Prop, True := fun _ => trivial
  have hI : M.qgQ (M.qdo x w) w = true → o = 16 := fun e => by
   refine Classical.byContradiction fun hne => ?_
   unfold M.qgQ at e
   rw [qlU hgo (by rw [← go]; exact hne), Bool.and_false] at e
   cases e
  have tail : bcase ((M.qdo x w).Phase == x.Phase) (bcase (o == 16) ((true : Bool) = M.qaP b) ((M.qbF (M.qdo x w) w ∧ ∀ r, r = M.qay (M.qdo x w) w → (!r) = M.qaP b)))
      (bcase ((M.qdo x w).Waiting == 0) (bcase (o == 16) ((true : Bool) = M.qaP b) ((M.qbF (M.qdo x w) w ∧ ∀ r, r = M.qay (M.qdo x w) w → (!r) = M.qaP b))) ((false : Bool) = M.qaP b)) := by
   have y1 : bcase (o == 16) ((true : Bool) = M.qaP b) ((M.qbF (M.qdo x w) w ∧ ∀ r, r = M.qay (M.qdo x w) w → (!r) = M.qaP b)) := by
    refine qa2 (fun _ => rfl) fun e => ⟨hg2.1, fun r hr => ?_⟩
    have e : ¬ o = 16 := by simpa using e
    have hr : r = M.qgQ (M.qdo x w) w := hr
    rw [hr, Bool.eq_false_iff.2 fun hh => e (hI hh)]; rfl
   refine qa2 (fun _ => y1) fun e => qaA ?_ y1
   rcases qjt x w with h1 | h1
   ·rw [h1.1, beq_self_eq_true] at e; cases e
   ·rw [h1]; rfl
  refine qd2 x.Warps.length (fun k => ((k : Int), ())) (fun _ => True) rfl trivial (fun k hk _ next hn => ?_) fun _ next => ?_
  ·have hn := hn trivial
   dsimp only
   rw [up64 hk (by omega)]
   refine qaA (by simp; omega) (qa2 (fun e => ⟨⟨by omega, by rw [hlen]; omega⟩, ⟨by omega, by omega⟩, ?_, fun r hr => qax ?_ hn⟩) fun e => hn)
   ·exact hg2.1.2.1.2 _ (qjr (by omega) (by rw [hlen]; omega))
   ·have e : ¬ (k : Int) = w := by simpa using e
    have hr : r = (rd (M.qdo x w).Warps (k : Int) == rd x.Warps (k : Int)) := hr
    have : rd (M.qdo x w).Warps (k : Int) = rd x.Warps (k : Int) := by
     rw [qgX, qdO (by simpa using hk), qdO hk, List.getElem_set_ne (by omega)]
    rw [hr, this]; simp
  ·refine qax (by simp) ⟨hg2.1, fun r hr => qaA (hr.trans hok) (qaA ?_ (qa2 (fun _ => tail) fun e1 => qa2 (fun _ => tail) fun e2 => ⟨hg2.1.2.2, fun r hr => qaA ?_ tail⟩))⟩
   ·rcases qgp x w with e | e <;> · rw [e]; simp; try omega
   ·have e1 : ¬ o = 14 := by simpa using e1
    have e2 : ¬ o = 15 := by simpa using e2
    rw [hr]
    show M.qbx _ _ = true
    rw [qmX (by rw [← go]; exact e1) (by rw [← go]; exact e2)]
    simp [M.qbx]
 ·have ec := Bool.eq_false_iff.2 ec
  have gy : y = (x, false) := by
   rw [gy]; unfold M.qfP
   rw [if_neg (by rw [ec]; simp)]
  subst gy
  refine qax (by rw [gc, ec]; rfl) (qax (by simp) (qaA rfl ⟨hl, fun r hr => ?_⟩))
  have hr : r = (x == x) := hr
  show r = true
  rw [hr]; simp
end Go.V
