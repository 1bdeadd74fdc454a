import Derived.Test.YtkpfabigipedcaaGreatPkMath1
set_option linter.unusedVariables false
set_option linter.unusedSimpArgs false
set_option maxRecDepth 20000
namespace Go.V
open IntKind (wrap)
def wp.qaM (s0 : D.Warp) (xs1 : List D.Ins) (Q : (Bool × D.Warp) → Prop) : Prop :=
 qa1 (decide ((wrap .i64 ((s0.Frames.length : Int) + 2)) > 24)) (Q (false, (⟨s0.Number, s0.Frames, s0.Regs⟩ : D.Warp))) (((0 ≤ (wrap .i64 ((s0.Frames.length : Int) - 1)) ∧ (wrap .i64 ((s0.Frames.length : Int) - 1)) < (s0.Frames.length : Int)) ∧ ((0 ≤ (rd s0.Frames (wrap .i64 ((s0.Frames.length : Int) - 1))).Pc ∧ (rd s0.Frames (wrap .i64 ((s0.Frames.length : Int) - 1))).Pc < (xs1.length : Int)) ∧ (M.qd8 s0 ((rd xs1 ((rd s0.Frames (wrap .i64 ((s0.Frames.length : Int) - 1))).Pc)).A) ∧ ∀ r36, r36 = M.qaN s0 ((rd xs1 ((rd s0.Frames (wrap .i64 ((s0.Frames.length : Int) - 1))).Pc)).A) → (M.qgL xs1 ((rd s0.Frames (wrap .i64 ((s0.Frames.length : Int) - 1))).Pc) ∧ ∀ r41, r41 = M.qde xs1 ((rd s0.Frames (wrap .i64 ((s0.Frames.length : Int) - 1))).Pc) → ((0 ≤ (rd s0.Frames (wrap .i64 ((s0.Frames.length : Int) - 1))).Pc ∧ (rd s0.Frames (wrap .i64 ((s0.Frames.length : Int) - 1))).Pc < (xs1.length : Int)) ∧ (((((List.set s0.Frames ((wrap .i64 ((s0.Frames.length : Int) - 1)).toNat) (⟨r41, (rd s0.Frames (wrap .i64 ((s0.Frames.length : Int) - 1))).Stop, (rd s0.Frames (wrap .i64 ((s0.Frames.length : Int) - 1))).Mask⟩ : D.Frame)).length + ([(⟨(wrap .i64 ((rd s0.Frames (wrap .i64 ((s0.Frames.length : Int) - 1))).Pc + 1)), r41, (qeY .i64 ((rd s0.Frames (wrap .i64 ((s0.Frames.length : Int) - 1))).Mask) r36)⟩ : D.Frame), (⟨(rd xs1 ((rd s0.Frames (wrap .i64 ((s0.Frames.length : Int) - 1))).Pc)).B, r41, r36⟩ : D.Frame)] : List D.Frame).length ≤ 17179869184) ∧ Q (true, (⟨s0.Number, ((List.set s0.Frames ((wrap .i64 ((s0.Frames.length : Int) - 1)).toNat) (⟨r41, (rd s0.Frames (wrap .i64 ((s0.Frames.length : Int) - 1))).Stop, (rd s0.Frames (wrap .i64 ((s0.Frames.length : Int) - 1))).Mask⟩ : D.Frame)) ++ ([(⟨(wrap .i64 ((rd s0.Frames (wrap .i64 ((s0.Frames.length : Int) - 1))).Pc + 1)), r41, (qeY .i64 ((rd s0.Frames (wrap .i64 ((s0.Frames.length : Int) - 1))).Mask) r36)⟩ : D.Frame), (⟨(rd xs1 ((rd s0.Frames (wrap .i64 ((s0.Frames.length : Int) - 1))).Pc)).B, r41, r36⟩ : D.Frame)] : List D.Frame)), s0.Regs⟩ : D.Warp)))) ∧ ((((((List.set s0.Frames ((wrap .i64 ((s0.Frames.length : Int) - 1)).toNat) (⟨r41, (rd s0.Frames (wrap .i64 ((s0.Frames.length : Int) - 1))).Stop, (rd s0.Frames (wrap .i64 ((s0.Frames.length : Int) - 1))).Mask⟩ : D.Frame)).length + ([(⟨(wrap .i64 ((rd s0.Frames (wrap .i64 ((s0.Frames.length : Int) - 1))).Pc + 1)), r41, (qeY .i64 ((rd s0.Frames (wrap .i64 ((s0.Frames.length : Int) - 1))).Mask) r36)⟩ : D.Frame), (⟨(rd xs1 ((rd s0.Frames (wrap .i64 ((s0.Frames.length : Int) - 1))).Pc)).B, r41, r36⟩ : D.Frame)] : List D.Frame).length ≤ 17179869184) ∧ Q (true, (⟨s0.Number, ((List.set s0.Frames ((wrap .i64 ((s0.Frames.length : Int) - 1)).toNat) (⟨r41, (rd s0.Frames (wrap .i64 ((s0.Frames.length : Int) - 1))).Stop, (rd s0.Frames (wrap .i64 ((s0.Frames.length : Int) - 1))).Mask⟩ : D.Frame)) ++ ([(⟨(wrap .i64 ((rd s0.Frames (wrap .i64 ((s0.Frames.length : Int) - 1))).Pc + 1)), r41, (qeY .i64 ((rd s0.Frames (wrap .i64 ((s0.Frames.length : Int) - 1))).Mask) r36)⟩ : D.Frame), (⟨(rd xs1 ((rd s0.Frames (wrap .i64 ((s0.Frames.length : Int) - 1))).Pc)).B, r41, r36⟩ : D.Frame)] : List D.Frame)), s0.Regs⟩ : D.Warp)))) ∧ ((((List.set s0.Frames ((wrap .i64 ((s0.Frames.length : Int) - 1)).toNat) (⟨r41, (rd s0.Frames (wrap .i64 ((s0.Frames.length : Int) - 1))).Stop, (rd s0.Frames (wrap .i64 ((s0.Frames.length : Int) - 1))).Mask⟩ : D.Frame)).length + ([(⟨(wrap .i64 ((rd s0.Frames (wrap .i64 ((s0.Frames.length : Int) - 1))).Pc + 1)), r41, (qeY .i64 ((rd s0.Frames (wrap .i64 ((s0.Frames.length : Int) - 1))).Mask) r36)⟩ : D.Frame), (⟨(rd xs1 ((rd s0.Frames (wrap .i64 ((s0.Frames.length : Int) - 1))).Pc)).B, r41, r36⟩ : D.Frame)] : List D.Frame).length ≤ 17179869184) ∧ Q (true, (⟨s0.Number, ((List.set s0.Frames ((wrap .i64 ((s0.Frames.length : Int) - 1)).toNat) (⟨r41, (rd s0.Frames (wrap .i64 ((s0.Frames.length : Int) - 1))).Stop, (rd s0.Frames (wrap .i64 ((s0.Frames.length : Int) - 1))).Mask⟩ : D.Frame)) ++ ([(⟨(wrap .i64 ((rd s0.Frames (wrap .i64 ((s0.Frames.length : Int) - 1))).Pc + 1)), r41, (qeY .i64 ((rd s0.Frames (wrap .i64 ((s0.Frames.length : Int) - 1))).Mask) r36)⟩ : D.Frame), (⟨(rd xs1 ((rd s0.Frames (wrap .i64 ((s0.Frames.length : Int) - 1))).Pc)).B, r41, r36⟩ : D.Frame)] : List D.Frame)), s0.Regs⟩ : D.Warp)))) ∧ True)) ∧ True)))))))
def wp.qb3 (s0 : D.Ins) (x1 : Int) (xs2 : List Int) (lo2 hi2 : Nat) (Q : ((List Int)) → Prop) : Prop :=
 qa1 (s0.Op == 1) (((0 ≤ s0.A ∧ s0.A < ((List.drop lo2 (List.take hi2 xs2)).length : Int)) ∧ Q (List.set xs2 (lo2 + (s0.A.toNat)) s0.B))) (qa1 (s0.Op == 2) (((0 ≤ s0.B ∧ s0.B < ((List.drop lo2 (List.take hi2 xs2)).length : Int)) ∧ ((0 ≤ s0.A ∧ s0.A < ((List.drop lo2 (List.take hi2 xs2)).length : Int)) ∧ Q (List.set xs2 (lo2 + (s0.A.toNat)) (rd (List.drop lo2 (List.take hi2 xs2)) s0.B))))) (qa1 (s0.Op == 3) (((0 ≤ s0.B ∧ s0.B < ((List.drop lo2 (List.take hi2 xs2)).length : Int)) ∧ ((0 ≤ s0.C ∧ s0.C < ((List.drop lo2 (List.take hi2 xs2)).length : Int)) ∧ (∀ r82, r82 = M.qbQ (rd (List.drop lo2 (List.take hi2 xs2)) s0.B) (rd (List.drop lo2 (List.take hi2 xs2)) s0.C) → ((0 ≤ s0.A ∧ s0.A < ((List.drop lo2 (List.take hi2 xs2)).length : Int)) ∧ Q (List.set xs2 (lo2 + (s0.A.toNat)) r82)))))) (qa1 (s0.Op == 4) (((0 ≤ s0.B ∧ s0.B < ((List.drop lo2 (List.take hi2 xs2)).length : Int)) ∧ ((0 ≤ s0.C ∧ s0.C < ((List.drop lo2 (List.take hi2 xs2)).length : Int)) ∧ (∀ r129, r129 = M.qcq (rd (List.drop lo2 (List.take hi2 xs2)) s0.B) (rd (List.drop lo2 (List.take hi2 xs2)) s0.C) → ((0 ≤ s0.A ∧ s0.A < ((List.drop lo2 (List.take hi2 xs2)).length : Int)) ∧ Q (List.set xs2 (lo2 + (s0.A.toNat)) r129)))))) (qa1 (s0.Op == 5) (((0 ≤ s0.B ∧ s0.B < ((List.drop lo2 (List.take hi2 xs2)).length : Int)) ∧ ((0 ≤ s0.C ∧ s0.C < ((List.drop lo2 (List.take hi2 xs2)).length : Int)) ∧ (∀ r176, r176 = M.qcn (rd (List.drop lo2 (List.take hi2 xs2)) s0.B) (rd (List.drop lo2 (List.take hi2 xs2)) s0.C) → ((0 ≤ s0.A ∧ s0.A < ((List.drop lo2 (List.take hi2 xs2)).length : Int)) ∧ Q (List.set xs2 (lo2 + (s0.A.toNat)) r176)))))) (qa1 (s0.Op == 6) (((0 ≤ s0.B ∧ s0.B < ((List.drop lo2 (List.take hi2 xs2)).length : Int)) ∧ ((0 ≤ s0.C ∧ s0.C < ((List.drop lo2 (List.take hi2 xs2)).length : Int)) ∧ ((0 ≤ s0.A ∧ s0.A < ((List.drop lo2 (List.take hi2 xs2)).length : Int)) ∧ Q (List.set xs2 (lo2 + (s0.A.toNat)) (qgK .i64 (rd (List.drop lo2 (List.take hi2 xs2)) s0.B) (rd (List.drop lo2 (List.take hi2 xs2)) s0.C))))))) (qa1 (s0.Op == 7) (((0 ≤ s0.B ∧ s0.B < ((List.drop lo2 (List.take hi2 xs2)).length : Int)) ∧ ((0 ≤ s0.C ∧ s0.C < ((List.drop lo2 (List.take hi2 xs2)).length : Int)) ∧ (∀ r245, r245 = M.qcd (rd (List.drop lo2 (List.take hi2 xs2)) s0.B) (rd (List.drop lo2 (List.take hi2 xs2)) s0.C) → ((0 ≤ s0.A ∧ s0.A < ((List.drop lo2 (List.take hi2 xs2)).length : Int)) ∧ Q (List.set xs2 (lo2 + (s0.A.toNat)) r245)))))) (qa1 (s0.Op == 8) (((0 ≤ s0.A ∧ s0.A < ((List.drop lo2 (List.take hi2 xs2)).length : Int)) ∧ Q (List.set xs2 (lo2 + (s0.A.toNat)) x1))) (qa1 (s0.Op == 9) (((0 ≤ s0.C ∧ s0.C < ((List.drop lo2 (List.take hi2 xs2)).length : Int)) ∧ qa1 ((rd (List.drop lo2 (List.take hi2 xs2)) s0.C) != 0) (((0 ≤ s0.B ∧ s0.B < ((List.drop lo2 (List.take hi2 xs2)).length : Int)) ∧ ((0 ≤ s0.A ∧ s0.A < ((List.drop lo2 (List.take hi2 xs2)).length : Int)) ∧ Q (List.set xs2 (lo2 + (s0.A.toNat)) (rd (List.drop lo2 (List.take hi2 xs2)) s0.B))))) (Q xs2))) (Q xs2)))))))))
def wp.qba (s0 : D.Warp) (xs1 : List D.Ins) (Q : D.Warp → Prop) : Prop :=
 ((0 ≤ (wrap .i64 ((s0.Frames.length : Int) - 1)) ∧ (wrap .i64 ((s0.Frames.length : Int) - 1)) < (s0.Frames.length : Int)) ∧ ((0 ≤ (rd s0.Frames (wrap .i64 ((s0.Frames.length : Int) - 1))).Pc ∧ (rd s0.Frames (wrap .i64 ((s0.Frames.length : Int) - 1))).Pc < (xs1.length : Int)) ∧ (∀ r38, r38 = M.qcj ((rd s0.Frames (wrap .i64 ((s0.Frames.length : Int) - 1))).Mask) → qd7 (σ := Int × (List Int) × Unit) (fun (p138 : Int × (List Int) × Unit) next81 => match p138 with | (i75, xs76, _) => qa1 (decide (i75 < (r38.length : Int))) (((0 ≤ i75 ∧ i75 < (r38.length : Int)) ∧ (M.qec (⟨s0.Number, s0.Frames, xs76⟩ : D.Warp) (rd r38 i75) ∧ (M.qgm (rd xs1 ((rd s0.Frames (wrap .i64 ((s0.Frames.length : Int) - 1))).Pc)) (wrap .i64 ((wrap .i64 (s0.Number * 8)) + (rd r38 i75))) xs76 ((wrap .i64 ((rd r38 i75) * 4)).toNat) ((wrap .i64 ((wrap .i64 ((rd r38 i75) + 1)) * 4)).toNat) ∧ ∀ r101, r101 = M.qb3 (rd xs1 ((rd s0.Frames (wrap .i64 ((s0.Frames.length : Int) - 1))).Pc)) (wrap .i64 ((wrap .i64 (s0.Number * 8)) + (rd r38 i75))) xs76 ((wrap .i64 ((rd r38 i75) * 4)).toNat) ((wrap .i64 ((wrap .i64 ((rd r38 i75) + 1)) * 4)).toNat) → next81 ((wrap .i64 (i75 + 1)), r101, ()))))) (qa1 ((rd xs1 ((rd s0.Frames (wrap .i64 ((s0.Frames.length : Int) - 1))).Pc)).Op == 12) (Q (⟨s0.Number, (List.set s0.Frames ((wrap .i64 ((s0.Frames.length : Int) - 1)).toNat) (⟨(xs1.length : Int), (rd s0.Frames (wrap .i64 ((s0.Frames.length : Int) - 1))).Stop, (rd s0.Frames (wrap .i64 ((s0.Frames.length : Int) - 1))).Mask⟩ : D.Frame)), xs76⟩ : D.Warp)) (qeZ (σ := Bool × Unit) (fun J114 => qa1 ((rd xs1 ((rd s0.Frames (wrap .i64 ((s0.Frames.length : Int) - 1))).Pc)).Op == 11) (J114 (true, ())) (qa1 ((rd xs1 ((rd s0.Frames (wrap .i64 ((s0.Frames.length : Int) - 1))).Pc)).Op == 10) ((M.qd8 (⟨s0.Number, s0.Frames, xs76⟩ : D.Warp) ((rd xs1 ((rd s0.Frames (wrap .i64 ((s0.Frames.length : Int) - 1))).Pc)).A) ∧ ∀ r119, r119 = M.qaN (⟨s0.Number, s0.Frames, xs76⟩ : D.Warp) ((rd xs1 ((rd s0.Frames (wrap .i64 ((s0.Frames.length : Int) - 1))).Pc)).A) → J114 ((r119 == (rd s0.Frames (wrap .i64 ((s0.Frames.length : Int) - 1))).Mask), ()))) (J114 (false, ())))) (fun (p134 : Bool × Unit) => match p134 with | (b113, _) => qa1 b113 (Q (⟨s0.Number, (List.set s0.Frames ((wrap .i64 ((s0.Frames.length : Int) - 1)).toNat) (⟨(rd xs1 ((rd s0.Frames (wrap .i64 ((s0.Frames.length : Int) - 1))).Pc)).B, (rd s0.Frames (wrap .i64 ((s0.Frames.length : Int) - 1))).Stop, (rd s0.Frames (wrap .i64 ((s0.Frames.length : Int) - 1))).Mask⟩ : D.Frame)), xs76⟩ : D.Warp)) (Q (⟨s0.Number, (List.set s0.Frames ((wrap .i64 ((s0.Frames.length : Int) - 1)).toNat) (⟨(wrap .i64 ((rd s0.Frames (wrap .i64 ((s0.Frames.length : Int) - 1))).Pc + 1)), (rd s0.Frames (wrap .i64 ((s0.Frames.length : Int) - 1))).Stop, (rd s0.Frames (wrap .i64 ((s0.Frames.length : Int) - 1))).Mask⟩ : D.Frame)), xs76⟩ : D.Warp)))))) (0, s0.Regs, ()))))
def wp.qbw (s0 : D.Warp) (x1 : Int) (Q : D.Warp → Prop) : Prop :=
 qd7 (σ := Int × (List D.Frame) × Unit) (fun (p107 : Int × (List D.Frame) × Unit) next79 => match p107 with | (i72, xs73, _) => qa1 (decide ((xs73.length : Int) > 0)) (((0 ≤ (wrap .i64 ((xs73.length : Int) - 1)) ∧ (wrap .i64 ((xs73.length : Int) - 1)) < (xs73.length : Int)) ∧ qeZ (σ := Unit) (fun J91 => qa1 ((rd xs73 (wrap .i64 ((xs73.length : Int) - 1))).Pc != (rd xs73 (wrap .i64 ((xs73.length : Int) - 1))).Stop) (qa1 ((rd xs73 (wrap .i64 ((xs73.length : Int) - 1))).Pc != x1) (Q (⟨i72, xs73, s0.Regs⟩ : D.Warp)) (J91 (()))) (J91 (()))) (fun (p104 : Unit) => match p104 with | (_) => ((0 ≤ (wrap .i64 ((xs73.length : Int) - 1)) ∧ (wrap .i64 ((xs73.length : Int) - 1)) ≤ (xs73.length : Int)) ∧ next79 (i72, (List.take ((wrap .i64 ((xs73.length : Int) - 1)).toNat) xs73), ()))))) (Q (⟨i72, xs73, s0.Regs⟩ : D.Warp))) (s0.Number, s0.Frames, ())
def wp.qbg (s0 : D.Warp) (xs1 : List D.Ins) (Q : (Bool × D.Warp) → Prop) : Prop :=
 qa1 ((s0.Frames.length : Int) == 0) (Q (false, (⟨s0.Number, s0.Frames, s0.Regs⟩ : D.Warp))) (((0 ≤ (wrap .i64 ((s0.Frames.length : Int) - 1)) ∧ (wrap .i64 ((s0.Frames.length : Int) - 1)) < (s0.Frames.length : Int)) ∧ ((0 ≤ (rd s0.Frames (wrap .i64 ((s0.Frames.length : Int) - 1))).Pc ∧ (rd s0.Frames (wrap .i64 ((s0.Frames.length : Int) - 1))).Pc < (xs1.length : Int)) ∧ (∀ r32, r32 = M.qcz (rd xs1 ((rd s0.Frames (wrap .i64 ((s0.Frames.length : Int) - 1))).Pc)) → qa1 (!r32) (Q (false, (⟨s0.Number, s0.Frames, s0.Regs⟩ : D.Warp))) ((M.qem s0 xs1 ∧ ∀ r37, r37 = M.qaV s0 xs1 → qa1 r37 ((M.qeB s0 xs1 ∧ ∀ r42, r42 = M.qaM s0 xs1 → qa1 (!r42.1) (Q (false, (⟨r42.2.Number, r42.2.Frames, s0.Regs⟩ : D.Warp))) ((M.qef (⟨r42.2.Number, r42.2.Frames, s0.Regs⟩ : D.Warp) (xs1.length : Int) ∧ ∀ r50, r50 = M.qbw (⟨r42.2.Number, r42.2.Frames, s0.Regs⟩ : D.Warp) (xs1.length : Int) → Q (true, (⟨r50.Number, r50.Frames, s0.Regs⟩ : D.Warp)))))) ((M.qeN s0 xs1 ∧ ∀ r59, r59 = M.qba s0 xs1 → (M.qef r59 (xs1.length : Int) ∧ ∀ r68, r68 = M.qbw r59 (xs1.length : Int) → Q (true, (⟨r68.Number, r68.Frames, r59.Regs⟩ : D.Warp)))))))))))
end Go.V
namespace Go.V
open IntKind (wrap)
def wp.qaG (xs0 : List D.Ins) (s1 : D.Warp) (Q : D.Warp → Prop) : Prop :=
 (M.qey s1 ∧ ∀ r25, r25 = M.qbZ s1 → qd7 (σ := Int × Int × (List D.Frame) × Unit) (fun (p121 : Int × Int × (List D.Frame) × Unit) next89 => match p121 with | (i81, i82, xs83, _) => qa1 (decide (i81 ≥ 0)) (((0 ≤ i81 ∧ i81 < (xs83.length : Int)) ∧ qa1 ((rd xs83 i81).Pc != (rd xs83 i81).Stop) (qa1 ((rd xs83 i81).Pc != (xs0.length : Int)) (Q (⟨i82, xs83, r25.Regs⟩ : D.Warp)) (((0 ≤ i81 ∧ i81 ≤ (xs83.length : Int)) ∧ next89 ((wrap .i64 (i81 - 1)), i82, (List.take (i81.toNat) xs83), ())))) (((0 ≤ i81 ∧ i81 ≤ (xs83.length : Int)) ∧ next89 ((wrap .i64 (i81 - 1)), i82, (List.take (i81.toNat) xs83), ()))))) (Q (⟨i82, xs83, r25.Regs⟩ : D.Warp))) ((wrap .i64 ((r25.Frames.length : Int) - 1)), r25.Number, r25.Frames, ()))
def wp.qcY (xs0 : List D.Ins) (s1 : D.Warp) (Q : (List Int) → Prop) : Prop :=
 ((([] : List Int).length + s1.Regs.length ≤ 17179869184) ∧ ((0 ≤ (wrap .i64 ((s1.Frames.length : Int) - 1)) ∧ (wrap .i64 ((s1.Frames.length : Int) - 1)) < (s1.Frames.length : Int)) ∧ qd7 (σ := Int × (List Int) × Unit) (fun (p197 : Int × (List Int) × Unit) next117 => match p197 with | (i111, xs112, _) => qa1 (decide (i111 < 8)) ((∀ r119, r119 = M.qbG ((rd s1.Frames (wrap .i64 ((s1.Frames.length : Int) - 1))).Mask) i111 → qa1 r119 (((0 ≤ (rd s1.Frames (wrap .i64 ((s1.Frames.length : Int) - 1))).Pc ∧ (rd s1.Frames (wrap .i64 ((s1.Frames.length : Int) - 1))).Pc < (xs0.length : Int)) ∧ ((0 ≤ (wrap .i64 ((wrap .i64 (i111 + 1)) * 4)) ∧ (wrap .i64 ((wrap .i64 (i111 + 1)) * 4)) ≤ (s1.Regs.length : Int) ∧ 0 ≤ (wrap .i64 (i111 * 4)) ∧ (wrap .i64 (i111 * 4)) ≤ (wrap .i64 ((wrap .i64 (i111 + 1)) * 4))) ∧ (M.qg1 (rd xs0 ((rd s1.Frames (wrap .i64 ((s1.Frames.length : Int) - 1))).Pc)) (wrap .i64 ((wrap .i64 (s1.Number * 8)) + i111)) (List.drop ((wrap .i64 (i111 * 4)).toNat) (List.take ((wrap .i64 ((wrap .i64 (i111 + 1)) * 4)).toNat) s1.Regs)) ∧ ∀ r134, r134 = M.qaY (rd xs0 ((rd s1.Frames (wrap .i64 ((s1.Frames.length : Int) - 1))).Pc)) (wrap .i64 ((wrap .i64 (s1.Number * 8)) + i111)) (List.drop ((wrap .i64 (i111 * 4)).toNat) (List.take ((wrap .i64 ((wrap .i64 (i111 + 1)) * 4)).toNat) s1.Regs)) → qd7 (σ := Int × (List Int) × Unit) (fun (p188 : Int × (List Int) × Unit) next166 => match p188 with | (i160, xs161, _) => qa1 (decide (i160 < 4)) (((0 ≤ i160 ∧ i160 < (r134.length : Int)) ∧ ((0 ≤ (wrap .i64 ((wrap .i64 (i111 * 4)) + i160)) ∧ (wrap .i64 ((wrap .i64 (i111 * 4)) + i160)) < (xs161.length : Int)) ∧ next166 ((wrap .i64 (i160 + 1)), (List.set xs161 ((wrap .i64 ((wrap .i64 (i111 * 4)) + i160)).toNat) (rd r134 i160)), ())))) (next117 ((wrap .i64 (i111 + 1)), xs161, ()))) (0, xs112, ()))))) (next117 ((wrap .i64 (i111 + 1)), xs112, ())))) (Q xs112)) (0, (([] : List Int) ++ s1.Regs), ())))
def wp.qdk (xs0 : List D.Ins) (s1 : D.Warp) (Q : D.Warp → Prop) : Prop :=
 (M.qey s1 ∧ ∀ r25, r25 = M.qbZ s1 → ((0 ≤ (wrap .i64 ((s1.Frames.length : Int) - 1)) ∧ (wrap .i64 ((s1.Frames.length : Int) - 1)) < (s1.Frames.length : Int)) ∧ ((0 ≤ (rd s1.Frames (wrap .i64 ((s1.Frames.length : Int) - 1))).Pc ∧ (rd s1.Frames (wrap .i64 ((s1.Frames.length : Int) - 1))).Pc < (xs0.length : Int)) ∧ (M.qeE xs0 s1 ∧ ∀ r56, r56 = M.qbd xs0 s1 → qa1 r56 ((M.qe1 s1 ((rd xs0 ((rd s1.Frames (wrap .i64 ((s1.Frames.length : Int) - 1))).Pc)).A) ∧ ∀ r61, r61 = M.qaO s1 ((rd xs0 ((rd s1.Frames (wrap .i64 ((s1.Frames.length : Int) - 1))).Pc)).A) → (M.qgq xs0 ((rd s1.Frames (wrap .i64 ((s1.Frames.length : Int) - 1))).Pc) ∧ ∀ r66, r66 = M.qcB xs0 ((rd s1.Frames (wrap .i64 ((s1.Frames.length : Int) - 1))).Pc) → ((0 ≤ (wrap .i64 ((s1.Frames.length : Int) - 1)) ∧ (wrap .i64 ((s1.Frames.length : Int) - 1)) < (r25.Frames.length : Int)) ∧ (((List.set r25.Frames ((wrap .i64 ((s1.Frames.length : Int) - 1)).toNat) (⟨r66, (rd r25.Frames (wrap .i64 ((s1.Frames.length : Int) - 1))).Stop, (rd r25.Frames (wrap .i64 ((s1.Frames.length : Int) - 1))).Mask⟩ : D.Frame)).length + ([(⟨(wrap .i64 ((rd s1.Frames (wrap .i64 ((s1.Frames.length : Int) - 1))).Pc + 1)), r66, (wrap .i64 ((rd s1.Frames (wrap .i64 ((s1.Frames.length : Int) - 1))).Mask - r61))⟩ : D.Frame), (⟨(rd xs0 ((rd s1.Frames (wrap .i64 ((s1.Frames.length : Int) - 1))).Pc)).B, r66, r61⟩ : D.Frame)] : List D.Frame).length ≤ 17179869184) ∧ (M.qcO xs0 (⟨r25.Number, ((List.set r25.Frames ((wrap .i64 ((s1.Frames.length : Int) - 1)).toNat) (⟨r66, (rd r25.Frames (wrap .i64 ((s1.Frames.length : Int) - 1))).Stop, (rd r25.Frames (wrap .i64 ((s1.Frames.length : Int) - 1))).Mask⟩ : D.Frame)) ++ ([(⟨(wrap .i64 ((rd s1.Frames (wrap .i64 ((s1.Frames.length : Int) - 1))).Pc + 1)), r66, (wrap .i64 ((rd s1.Frames (wrap .i64 ((s1.Frames.length : Int) - 1))).Mask - r61))⟩ : D.Frame), (⟨(rd xs0 ((rd s1.Frames (wrap .i64 ((s1.Frames.length : Int) - 1))).Pc)).B, r66, r61⟩ : D.Frame)] : List D.Frame)), r25.Regs⟩ : D.Warp) ∧ ∀ r89, r89 = M.qaG xs0 (⟨r25.Number, ((List.set r25.Frames ((wrap .i64 ((s1.Frames.length : Int) - 1)).toNat) (⟨r66, (rd r25.Frames (wrap .i64 ((s1.Frames.length : Int) - 1))).Stop, (rd r25.Frames (wrap .i64 ((s1.Frames.length : Int) - 1))).Mask⟩ : D.Frame)) ++ ([(⟨(wrap .i64 ((rd s1.Frames (wrap .i64 ((s1.Frames.length : Int) - 1))).Pc + 1)), r66, (wrap .i64 ((rd s1.Frames (wrap .i64 ((s1.Frames.length : Int) - 1))).Mask - r61))⟩ : D.Frame), (⟨(rd xs0 ((rd s1.Frames (wrap .i64 ((s1.Frames.length : Int) - 1))).Pc)).B, r66, r61⟩ : D.Frame)] : List D.Frame)), r25.Regs⟩ : D.Warp) → Q (⟨r89.Number, r89.Frames, r89.Regs⟩ : D.Warp))))))) ((M.qfW xs0 s1 ∧ ∀ r100, r100 = M.qcY xs0 s1 → qa1 ((rd xs0 ((rd s1.Frames (wrap .i64 ((s1.Frames.length : Int) - 1))).Pc)).Op == 12) (((0 ≤ (wrap .i64 ((s1.Frames.length : Int) - 1)) ∧ (wrap .i64 ((s1.Frames.length : Int) - 1)) < (r25.Frames.length : Int)) ∧ (M.qcO xs0 (⟨r25.Number, (List.set r25.Frames ((wrap .i64 ((s1.Frames.length : Int) - 1)).toNat) (⟨(xs0.length : Int), (rd r25.Frames (wrap .i64 ((s1.Frames.length : Int) - 1))).Stop, (rd r25.Frames (wrap .i64 ((s1.Frames.length : Int) - 1))).Mask⟩ : D.Frame)), r100⟩ : D.Warp) ∧ ∀ r117, r117 = M.qaG xs0 (⟨r25.Number, (List.set r25.Frames ((wrap .i64 ((s1.Frames.length : Int) - 1)).toNat) (⟨(xs0.length : Int), (rd r25.Frames (wrap .i64 ((s1.Frames.length : Int) - 1))).Stop, (rd r25.Frames (wrap .i64 ((s1.Frames.length : Int) - 1))).Mask⟩ : D.Frame)), r100⟩ : D.Warp) → Q (⟨r117.Number, r117.Frames, r117.Regs⟩ : D.Warp)))) (qa1 ((rd xs0 ((rd s1.Frames (wrap .i64 ((s1.Frames.length : Int) - 1))).Pc)).Op == 11) (((0 ≤ (wrap .i64 ((s1.Frames.length : Int) - 1)) ∧ (wrap .i64 ((s1.Frames.length : Int) - 1)) < (r25.Frames.length : Int)) ∧ (M.qcO xs0 (⟨r25.Number, (List.set r25.Frames ((wrap .i64 ((s1.Frames.length : Int) - 1)).toNat) (⟨(rd xs0 ((rd s1.Frames (wrap .i64 ((s1.Frames.length : Int) - 1))).Pc)).B, (rd r25.Frames (wrap .i64 ((s1.Frames.length : Int) - 1))).Stop, (rd r25.Frames (wrap .i64 ((s1.Frames.length : Int) - 1))).Mask⟩ : D.Frame)), r100⟩ : D.Warp) ∧ ∀ r136, r136 = M.qaG xs0 (⟨r25.Number, (List.set r25.Frames ((wrap .i64 ((s1.Frames.length : Int) - 1)).toNat) (⟨(rd xs0 ((rd s1.Frames (wrap .i64 ((s1.Frames.length : Int) - 1))).Pc)).B, (rd r25.Frames (wrap .i64 ((s1.Frames.length : Int) - 1))).Stop, (rd r25.Frames (wrap .i64 ((s1.Frames.length : Int) - 1))).Mask⟩ : D.Frame)), r100⟩ : D.Warp) → Q (⟨r136.Number, r136.Frames, r136.Regs⟩ : D.Warp)))) (((0 ≤ (wrap .i64 ((s1.Frames.length : Int) - 1)) ∧ (wrap .i64 ((s1.Frames.length : Int) - 1)) < (r25.Frames.length : Int)) ∧ qeZ (σ := Bool × Unit) (fun J156 => qa1 ((rd xs0 ((rd s1.Frames (wrap .i64 ((s1.Frames.length : Int) - 1))).Pc)).Op == 10) ((M.qe1 s1 ((rd xs0 ((rd s1.Frames (wrap .i64 ((s1.Frames.length : Int) - 1))).Pc)).A) ∧ ∀ r160, r160 = M.qaO s1 ((rd xs0 ((rd s1.Frames (wrap .i64 ((s1.Frames.length : Int) - 1))).Pc)).A) → J156 ((r160 == (rd s1.Frames (wrap .i64 ((s1.Frames.length : Int) - 1))).Mask), ()))) (J156 (false, ()))) (fun (p198 : Bool × Unit) => match p198 with | (b155, _) => qa1 b155 (((0 ≤ (wrap .i64 ((s1.Frames.length : Int) - 1)) ∧ (wrap .i64 ((s1.Frames.length : Int) - 1)) < ((List.set r25.Frames ((wrap .i64 ((s1.Frames.length : Int) - 1)).toNat) (⟨(wrap .i64 ((rd s1.Frames (wrap .i64 ((s1.Frames.length : Int) - 1))).Pc + 1)), (rd r25.Frames (wrap .i64 ((s1.Frames.length : Int) - 1))).Stop, (rd r25.Frames (wrap .i64 ((s1.Frames.length : Int) - 1))).Mask⟩ : D.Frame)).length : Int)) ∧ (M.qcO xs0 (⟨r25.Number, (List.set r25.Frames ((wrap .i64 ((s1.Frames.length : Int) - 1)).toNat) (⟨(rd xs0 ((rd s1.Frames (wrap .i64 ((s1.Frames.length : Int) - 1))).Pc)).B, (rd r25.Frames (wrap .i64 ((s1.Frames.length : Int) - 1))).Stop, (rd r25.Frames (wrap .i64 ((s1.Frames.length : Int) - 1))).Mask⟩ : D.Frame)), r100⟩ : D.Warp) ∧ ∀ r175, r175 = M.qaG xs0 (⟨r25.Number, (List.set r25.Frames ((wrap .i64 ((s1.Frames.length : Int) - 1)).toNat) (⟨(rd xs0 ((rd s1.Frames (wrap .i64 ((s1.Frames.length : Int) - 1))).Pc)).B, (rd r25.Frames (wrap .i64 ((s1.Frames.length : Int) - 1))).Stop, (rd r25.Frames (wrap .i64 ((s1.Frames.length : Int) - 1))).Mask⟩ : D.Frame)), r100⟩ : D.Warp) → Q (⟨r175.Number, r175.Frames, r175.Regs⟩ : D.Warp)))) ((M.qcO xs0 (⟨r25.Number, (List.set r25.Frames ((wrap .i64 ((s1.Frames.length : Int) - 1)).toNat) (⟨(wrap .i64 ((rd s1.Frames (wrap .i64 ((s1.Frames.length : Int) - 1))).Pc + 1)), (rd r25.Frames (wrap .i64 ((s1.Frames.length : Int) - 1))).Stop, (rd r25.Frames (wrap .i64 ((s1.Frames.length : Int) - 1))).Mask⟩ : D.Frame)), r100⟩ : D.Warp) ∧ ∀ r186, r186 = M.qaG xs0 (⟨r25.Number, (List.set r25.Frames ((wrap .i64 ((s1.Frames.length : Int) - 1)).toNat) (⟨(wrap .i64 ((rd s1.Frames (wrap .i64 ((s1.Frames.length : Int) - 1))).Pc + 1)), (rd r25.Frames (wrap .i64 ((s1.Frames.length : Int) - 1))).Stop, (rd r25.Frames (wrap .i64 ((s1.Frames.length : Int) - 1))).Mask⟩ : D.Frame)), r100⟩ : D.Warp) → Q (⟨r186.Number, r186.Frames, r186.Regs⟩ : D.Warp)))))))))))))
end Go.V
namespace Go.V
open IntKind (wrap)
theorem qiI {p : List D.Ins} {k later : Int} (h : M.Node p k) : M.qdx p k later = true ↔ ¬ Rch p later [k] (p.length : Int) := by
 have hn : M.qe2 p (p.length : Int) := ⟨by omega, by omega⟩
 have := qeG (wo := later) h.1 (fun x hx => by obtain rfl := List.mem_singleton.1 hx; exact h.2) hn
 unfold M.qdx
 rw [← this]
 cases rd (M.reached p [k] later) (p.length : Int) <;> simp
theorem qk6 {p : List D.Ins} {all : List Int} : ∀ (l : List Int), (∃ x ∈ l, all.all (M.qdx p x) = true) → M.qh7 p all l ∈ l ∧ all.all (M.qdx p (M.qh7 p all l)) = true
 | [], h => by obtain ⟨x, hx, _⟩ := h; cases hx
 | y :: l, h => by
  by_cases hy : all.all (M.qdx p y) = true
  ·simp only [M.qh7, hy, if_true]; exact ⟨List.mem_cons_self, trivial⟩
  ·have : ∃ x ∈ l, all.all (M.qdx p x) = true := by
     obtain ⟨x, hx, hg⟩ := h
     rcases List.mem_cons.1 hx with rfl | hx
     ·exact absurd hg hy
     ·exact ⟨x, hx, hg⟩
   have ih := qk6 l this
   simp only [M.qh7, hy]
   exact ⟨List.mem_cons_of_mem _ ih.1, ih.2⟩
theorem qmS {p : List D.Ins} {y b : Int} {v : Int} (h : Rch p y [b] v) {x : Int} (hx : Rch p y [v] x) : Rch p y [b] x := by
 induction hx with
 | base hs hne => obtain rfl := List.mem_singleton.1 hs; exact h
 | step _ hs hne ih => exact .step ih hs hne
theorem qnP {p : List D.Ins} {b : Int} (hb : M.Node p b) (hbn : b ≠ (p.length : Int)) (he : M.qff p b = true) : M.qhJ p b ∈ M.others (M.qcs p b) b := by
 have hn : M.qe2 p (p.length : Int) := ⟨by omega, by omega⟩
 have hR := (qeG hb.1 (fun x hx => by obtain rfl := List.mem_singleton.1 hx; exact hb.2) hn).1 he
 have hmem : ∀ x, M.qe2 p x → x ≠ b → M.qdx p b x = true → x ∈ M.others (M.qcs p b) b := by
  intro x hx hxb ha
  unfold M.others M.qcs
  rw [if_pos (by simp only [Bool.and_eq_true]; exact ⟨qeU.2 hb, he⟩)]
  refine List.mem_filter.2 ⟨qj7.2 ⟨x.toNat, by unfold M.qe2 at hx; omega, by unfold M.qe2 at hx; omega, ha⟩, by simpa using hxb⟩
 refine (qk6 _ ?_).1
 have good : ∀ x ∈ M.others (M.qcs p b) b, ∀ v, (∀ y ∈ M.others (M.qcs p b) b, Rch p y [b] v) → x ∈ M.qer p v → (M.others (M.qcs p b) b).all (M.qdx p x) = true := by
  intro x hx v hv hvx
  rw [List.all_eq_true]
  intro y hy
  obtain ⟨hxN, _, _, _⟩ := qgh hx
  obtain ⟨hyN, _, _, hya⟩ := qgh hy
  rw [qiI hxN]
  intro hr
  refine (qiI hb).1 hya ?_
  have hxy : x ≠ y := by
   rintro rfl
   have : ∀ z, Rch p x [x] z → False := fun z hz => by
    induction hz with
    | base hs hne => exact hne (List.mem_singleton.1 hs)
    | step _ _ _ ih => exact ih
   exact this _ hr
  exact qmS (.step (hv y hy) hvx hxy) hr
 have hbL : ∀ y ∈ M.others (M.qcs p b) b, b ≠ y := fun y hy e => by
  have := (List.mem_filter.1 hy).2
  simp [e] at this
 have key : ∀ v, Rch p (-1) [b] v → (∃ x ∈ M.others (M.qcs p b) b, (M.others (M.qcs p b) b).all (M.qdx p x) = true) ∨ (v ∉ M.others (M.qcs p b) b ∧ ∀ y ∈ M.others (M.qcs p b) b, Rch p y [b] v) := by
  intro v hv
  induction hv with
  | base hs hne =>
   obtain rfl := List.mem_singleton.1 hs
   exact .inr ⟨fun h => hbL _ h rfl, fun y hy => .base (List.mem_singleton.2 rfl) (hbL y hy)⟩
  | @step k s _ hs hne ih =>
   rcases ih with ih | ⟨_, ih⟩
   ·exact .inl ih
   ·by_cases hsL : s ∈ M.others (M.qcs p b) b
    ·exact .inl ⟨s, hsL, good s hsL k ih hs⟩
    ·exact .inr ⟨hsL, fun y hy => .step (ih y hy) hs (fun e => hsL (e ▸ hy))⟩
 rcases key _ hR with h | ⟨h, _⟩
 ·exact h
 ·refine absurd (hmem _ hn (Ne.symm hbn) ((qiI hb).2 fun hr => ?_)) h
  have : ∀ z, Rch p (p.length : Int) [b] z → z ≠ (p.length : Int) := fun z hz => by
   cases hz with
   | base _ hne => exact hne
   | step _ _ hne => exact hne
  exact this _ hr rfl
theorem qo4 {p : List D.Ins} {b : Int} (h : M.Branch p b) : M.qe2 p (M.qgY p b) := by
 obtain ⟨h1, h2, hb, _⟩ := qo1 h
 have hn : M.qe2 p (p.length : Int) := ⟨by omega, by omega⟩
 unfold M.qgY
 split
 ·rename_i e
  simp only [Bool.and_eq_true] at e
  have hx1 := (qeG hb.1 (fun x hx => by obtain rfl := List.mem_singleton.1 hx; exact h1.2) hn).1 e.1
  have hbr := h.2.2.2
  simp only [M.isBr, Bool.and_eq_true, beq_iff_eq, bne_iff_ne] at hbr
  have hnx : b + 1 ∈ M.qer p b := by
   unfold M.qer
   have := h.2.2.1
   rw [if_neg (by omega), if_neg (by omega), if_neg (by omega), if_pos hbr.1]
   exact qiA.2 (.inl rfl)
  have he : M.qff p b = true := by
   refine (qeG hb.1 (fun x hx => by obtain rfl := List.mem_singleton.1 hx; exact hb.2) hn).2 ?_
   have hb0 := h.2.1
   exact qmS (b := b) (y := -1) (.step (.base (List.mem_singleton.2 rfl) (by omega)) hnx (by omega)) hx1
  exact (qgh (qnP hb (by have := h.2.2.1; omega) he)).1.2
 ·exact hn
theorem qnk : ((List.range 256).all fun m => (List.range 256).all fun z => !(m &&& z == z) || (m &&& (2 ^ 64 - 1 - z) == m - z)) = true := by kernel_rfl
theorem qmz : ((List.range 256).all fun m => (List.range 8).all fun l => !(M.qdo ((m : Nat) : Int) ((l : Nat) : Int)) || (m &&& 2 ^ l == 2 ^ l)) = true := by kernel_rfl
theorem qnc : ((List.range 8).all fun l => M.qj1 ((l : Nat) : Int) == ((2 ^ l : Nat) : Int)) = true := by kernel_rfl
theorem qmP {a b : Nat} (ha : a < 256) (hb : b < 256) : qgS .i64 ((a : Nat) : Int) ((b : Nat) : Int) = ((a ||| b : Nat) : Int) := by
 have hlt : a ||| b < 256 := Nat.or_lt_two_pow (n := 8) ha hb
 have e : (BitVec.ofInt (IntKind.bits .i64) ((a : Nat) : Int) ||| BitVec.ofInt (IntKind.bits .i64) ((b : Nat) : Int)).toNat = a ||| b := by
  show (BitVec.ofInt 64 ((a : Nat) : Int) ||| BitVec.ofInt 64 ((b : Nat) : Int)).toNat = a ||| b
  rw [BitVec.ofInt_natCast, BitVec.ofInt_natCast, BitVec.toNat_or, BitVec.toNat_ofNat, BitVec.toNat_ofNat, Nat.mod_eq_of_lt (by omega), Nat.mod_eq_of_lt (by omega)]
 unfold qgS
 rw [e]
 exact w64 (by omega) (by omega)
theorem qmv {a b : Nat} (ha : a < 256) (hb : b < 256) (hs : a &&& b = b) : qeY .i64 ((a : Nat) : Int) ((b : Nat) : Int) = ((a - b : Nat) : Int) := by
 have hc := List.all_eq_true.1 (List.all_eq_true.1 qnk a (List.mem_range.2 ha)) b (List.mem_range.2 hb)
 simp only [hs, BEq.rfl, Bool.not_true, Bool.false_or, beq_iff_eq] at hc
 have e : (BitVec.ofInt (IntKind.bits .i64) ((a : Nat) : Int) &&& ~~~(BitVec.ofInt (IntKind.bits .i64) ((b : Nat) : Int))).toNat = a - b := by
  show (BitVec.ofInt 64 ((a : Nat) : Int) &&& ~~~(BitVec.ofInt 64 ((b : Nat) : Int))).toNat = a - b
  rw [BitVec.ofInt_natCast, BitVec.ofInt_natCast, BitVec.toNat_and, BitVec.toNat_not, BitVec.toNat_ofNat, BitVec.toNat_ofNat, Nat.mod_eq_of_lt (by omega), Nat.mod_eq_of_lt (by omega)]
  exact hc
 unfold qeY
 rw [e]
 exact w64 (by omega) (by omega)
theorem qmj {m : Int} (h : M.qfM m = true) : ∃ k : Nat, m = (k : Int) ∧ k < 256 := by
 simp only [M.qfM, M.isIn, Bool.and_eq_true, decide_eq_true_eq] at h
 exact ⟨m.toNat, by omega, by omega⟩
theorem qjd {x : D.Warp} {reg : Int} {m : Nat} (hm : m < 256) : ∀ (l : List Int), (∀ k ∈ l, k ∈ M.qfk (m : Int)) → ∀ z : Nat, z < 256 → m &&& z = z → ∃ z' : Nat, l.foldl (M.qev x reg) (z : Int) = (z' : Int) ∧ z' < 256 ∧ m &&& z' = z'
 | [], _, z, hz, hs => ⟨z, rfl, hz, hs⟩
 | k :: l, hl, z, hz, hs => by
  have hk := hl k List.mem_cons_self
  have hrest := fun j hj => hl j (List.mem_cons_of_mem _ hj)
  simp only [List.foldl_cons]
  by_cases e : rd x.Regs (k * 4 + reg) = 0
  ·obtain ⟨h0, h7⟩ := qiZ hk
   have hkn : ((k.toNat : Nat) : Int) = k := by omega
   have hh : M.qdo (m : Int) k = true := (List.mem_filter.1 hk).2
   have hc := List.all_eq_true.1 (List.all_eq_true.1 qmz m (List.mem_range.2 hm)) k.toNat (List.mem_range.2 (by omega))
   rw [hkn, hh] at hc
   simp only [Bool.not_true, Bool.false_or, beq_iff_eq] at hc
   have hb := List.all_eq_true.1 qnc k.toNat (List.mem_range.2 (by omega))
   rw [hkn] at hb
   have hb := eq_of_beq hb
   have hp : 2 ^ k.toNat < 256 := Nat.lt_of_lt_of_le (Nat.pow_lt_pow_right (by omega) (show k.toNat < 8 by omega)) (Nat.le_refl _)
   have hst : M.qev x reg (z : Int) k = ((z ||| 2 ^ k.toNat : Nat) : Int) := by
    unfold M.qev
    rw [if_pos e, hb, qmP hz hp]
   rw [hst]
   exact qjd hm l hrest _ (Nat.or_lt_two_pow (n := 8) hz hp) (by rw [Nat.and_or_distrib_left, hs, hc])
  ·have hst : M.qev x reg (z : Int) k = (z : Int) := by unfold M.qev; rw [if_neg e]
   rw [hst]
   exact qjd hm l hrest z hz hs
theorem qlf {x : D.Warp} {reg : Int} (h : M.qfM (M.qb5 x) = true) : ∃ m z : Nat, M.qb5 x = (m : Int) ∧ M.qct x reg = (z : Int) ∧ m < 256 ∧ z < 256 ∧ m &&& z = z := by
 obtain ⟨m, hm, hlt⟩ := qmj h
 obtain ⟨z, hz, hzl, hs⟩ := qjd (x := x) (reg := reg) hlt (M.qfk (m : Int)) (fun _ hk => hk) 0 (by omega) (by simp)
 refine ⟨m, z, hm, ?_, hlt, hzl, hs⟩
 unfold M.qct
 rw [hm]
 exact hz
theorem qkU {x : D.Warp} {reg : Int} (h : M.qfM (M.qb5 x) = true) :
    M.qfM (M.qct x reg) = true ∧ qeY .i64 (M.qb5 x) (M.qct x reg) = M.qb5 x - M.qct x reg ∧ M.qfM (M.qb5 x - M.qct x reg) = true := by
 obtain ⟨m, z, hm, hz, h1, h2, hs⟩ := qlf (reg := reg) h
 have hle : z ≤ m := by rw [← hs]; exact Nat.and_le_left
 rw [hm, hz, qmv h1 h2 hs]
 refine ⟨?_, by omega, ?_⟩ <;> (simp only [M.qfM, M.isIn, Bool.and_eq_true, decide_eq_true_eq]; omega)
end Go.V
namespace Go.V
open IntKind (wrap)
theorem qkr {α : Type} [Inhabited α] {l : List α} {k m : Nat} (h : k < m) : rd (l.take m) (k : Int) = rd l (k : Int) := by
 unfold rd
 rw [List.getD_eq_getElem?_getD, List.getD_eq_getElem?_getD, List.getElem?_take, if_pos (by simpa using h)]
theorem qkc {α : Type} {l : List α} {k m : Nat} (h : k ≤ m) : (l.take m).take k = l.take k := by rw [List.take_take, Nat.min_eq_left h]
theorem wp.qbw.math (x : D.Warp) (n : Int) (h : M.qef x n) : wp.qbw x n (fun r => r = M.qbw x n) := by
 unfold wp.qbw
 have hL : x.Frames.length ≤ 9223372036854775807 := h
 refine qd9 x.Frames.length (fun j => (x.Number, x.Frames.take (x.Frames.length - j), ())) (fun j => M.qlE x.Frames n = M.qjy x.Frames n (x.Frames.length - j)) (by simp) (by simp [M.qlE]) (fun j hj hF next hn => ?_) (fun hF next => ?_)
 ·obtain ⟨m, hm⟩ : ∃ m, x.Frames.length - j = m + 1 := ⟨x.Frames.length - j - 1, by omega⟩
  have hm1 : x.Frames.length - (j + 1) = m := by omega
  rw [hm1] at hn
  rw [hm] at hF
  dsimp only
  rw [hm]
  have hl : (x.Frames.take (m + 1)).length = m + 1 := by rw [List.length_take]; omega
  rw [hl, qdp (by omega), show (((m + 1 : Nat) : Int) - 1) = (m : Int) by omega, qkr (Nat.lt_succ_self m), qkc (by omega)]
  refine qaE (by simp) ⟨by omega, ?_⟩
  show qa1 _ (qa1 _ _ _) _
  have go : ¬ ((rd x.Frames (m : Int)).Pc ≠ (rd x.Frames (m : Int)).Stop ∧ (rd x.Frames (m : Int)).Pc ≠ n) → next (x.Number, x.Frames.take m, ()) := fun hc => hn (by rw [hF]; simp only [M.qjy]; rw [if_neg hc])
  refine qa3 (fun e1 => qa3 (fun e2 => ?_) fun e2 => ?_) fun e1 => ?_
  ·simp only [M.qjy] at hF
   rw [if_pos ⟨by simpa using e1, by simpa using e2⟩] at hF
   show _ = M.qgD x n
   unfold M.qgD
   rw [hF]
  ·have := go (fun hc => hc.2 (by simpa using e2))
   exact ⟨by omega, this⟩
  ·have := go (fun hc => hc.1 (by simpa using e1))
   exact ⟨by omega, this⟩
 ·rw [Nat.sub_self] at hF
  dsimp only
  rw [Nat.sub_self, List.take_zero]
  refine qaC (by simp) ?_
  show _ = M.qgD x n
  unfold M.qgD
  rw [hF]; rfl
theorem wp.qaG.math (p : List D.Ins) (x : D.Warp) (h : M.qcO p x) : wp.qaG p x (fun r => r = M.qaG p x) := by
 unfold wp.qaG
 have hL : x.Frames.length ≤ 17179869184 := h.1
 refine ⟨h, fun r hr => ?_⟩
 have hr : r = x := hr
 subst hr
 rw [qdp (by omega)]
 refine qd9 r.Frames.length (fun j => ((r.Frames.length : Int) - 1 - (j : Int), r.Number, r.Frames.take (r.Frames.length - j), ())) (fun j => M.qlE r.Frames p.length = M.qjy r.Frames p.length (r.Frames.length - j)) (by simp) (by simp [M.qlE]) (fun j hj hF next hn => ?_) (fun hF next => ?_)
 ·obtain ⟨m, hm⟩ : ∃ m, r.Frames.length - j = m + 1 := ⟨r.Frames.length - j - 1, by omega⟩
  have hm1 : r.Frames.length - (j + 1) = m := by omega
  rw [hm1] at hn
  rw [hm] at hF
  dsimp only
  rw [hm, show ((r.Frames.length : Int) - 1 - (j : Int)) = (m : Int) by omega]
  rw [show ((r.Frames.length : Int) - 1 - ((j + 1 : Nat) : Int)) = wrap .i64 ((m : Int) - 1) by rw [w64 (by omega) (by omega)]; omega] at hn
  have hl : (r.Frames.take (m + 1)).length = m + 1 := by rw [List.length_take]; omega
  rw [hl, qkr (Nat.lt_succ_self m), Int.toNat_natCast, qkc (by omega)]
  have go : ¬ ((rd r.Frames (m : Int)).Pc ≠ (rd r.Frames (m : Int)).Stop ∧ (rd r.Frames (m : Int)).Pc ≠ (p.length : Int)) → next (wrap .i64 ((m : Int) - 1), r.Number, r.Frames.take m, ()) := fun hc => hn (by rw [hF]; simp only [M.qjy]; rw [if_neg hc])
  refine qaE (by simp) ⟨by omega, ?_⟩
  refine qa3 (fun e1 => qa3 (fun e2 => ?_) fun e2 => ?_) fun e1 => ?_
  ·simp only [M.qjy] at hF
   rw [if_pos ⟨by simpa using e1, by simpa using e2⟩] at hF
   show _ = M.qgD r p.length
   unfold M.qgD
   rw [hF]
  ·exact ⟨by omega, go (fun hc => hc.2 (by simpa using e2))⟩
  ·exact ⟨by omega, go (fun hc => hc.1 (by simpa using e1))⟩
 ·rw [Nat.sub_self] at hF
  dsimp only
  rw [Nat.sub_self, List.take_zero]
  refine qaC (by simp; omega) ?_
  show _ = M.qgD r p.length
  unfold M.qgD
  rw [hF]; rfl
theorem qon {α : Type} {xs : List α} {lo hi k : Nat} {y : α} (h1 : lo ≤ hi) (h2 : hi ≤ xs.length) (hk : k < hi - lo) : xs.set (lo + k) y = xs.take lo ++ ((xs.take hi).drop lo).set k y ++ xs.drop hi := by
 apply List.ext_getElem?
 intro i
 have hl : (((xs.take hi).drop lo).set k y).length = hi - lo := by simp; omega
 rw [List.getElem?_append, List.length_append, hl, List.length_take, Nat.min_eq_left (by omega), List.getElem?_append, List.length_take, Nat.min_eq_left (by omega)]
 by_cases hi1 : i < lo
 ·rw [if_pos (by omega), if_pos hi1, List.getElem?_set_ne (by omega), List.getElem?_take, if_pos hi1]
 ·by_cases hi2 : i < hi
  ·rw [if_pos (by omega), if_neg hi1]
   by_cases e : lo + k = i
   ·subst e
    rw [List.getElem?_set_self (by omega), show lo + k - lo = k by omega, List.getElem?_set_self (by simp; omega)]
   ·rw [List.getElem?_set_ne e, List.getElem?_set_ne (by omega), List.getElem?_drop, List.getElem?_take, if_pos (by omega)]
    congr 1; omega
  ·rw [if_neg (by omega), List.getElem?_set_ne (by omega), List.getElem?_drop]
   congr 1; omega
theorem qnD {α : Type} {xs : List α} {lo hi : Nat} (h1 : lo ≤ hi) (h2 : hi ≤ xs.length) : xs.take lo ++ (xs.take hi).drop lo ++ xs.drop hi = xs := by
 apply List.ext_getElem?
 intro i
 have hl : ((xs.take hi).drop lo).length = hi - lo := by simp; omega
 rw [List.getElem?_append, List.length_append, hl, List.length_take, Nat.min_eq_left (by omega), List.getElem?_append, List.length_take, Nat.min_eq_left (by omega)]
 by_cases hi1 : i < lo
 ·rw [if_pos (by omega), if_pos hi1, List.getElem?_take, if_pos hi1]
 ·by_cases hi2 : i < hi
  ·rw [if_pos (by omega), if_neg hi1, List.getElem?_drop, List.getElem?_take, if_pos (by omega)]
   congr 1; omega
  ·rw [if_neg (by omega), List.getElem?_drop]
   congr 1; omega
theorem wp.qb3.math (i : D.Ins) (t : Int) (xs : List Int) (lo hi : Nat) (h : M.qgm i t xs lo hi) : wp.qb3 i t xs lo hi (fun x => x = M.qb3 i t xs lo hi) := by
 obtain ⟨hf, h1, h2⟩ := h
 obtain ⟨hl, hA, hB, hC⟩ := qjB hf
 have hl4 : hi - lo = 4 := by rw [← hl]; simp; omega
 have st : ∀ y, (0 ≤ i.A ∧ i.A ≤ 3) → xs.set (lo + i.A.toNat) y = xs.take lo ++ ((xs.take hi).drop lo).set i.A.toNat y ++ xs.drop hi := fun y ha => qon h1 h2 (by omega)
 have sf := qnD h1 h2
 generalize hr : (xs.take hi).drop lo = r at *
 unfold wp.qb3
 simp only [hr, forall_eq]
 refine qa3 (fun e => ?_) fun n1 => qa3 (fun e => ?_) fun n2 => qa3 (fun e => ?_) fun n3 => qa3 (fun e => ?_) fun n4 => qa3 (fun e => ?_) fun n5 => qa3 (fun e => ?_) fun n6 => qa3 (fun e => ?_) fun n7 => qa3 (fun e => ?_) fun n8 => qa3 (fun e => ?_) fun n9 => ?_
 ·have hk : i.Op = 1 := by simpa using e
  exact ⟨qd5 hl (hA (by omega)), by rw [st _ (hA (by omega))]; simp [M.qb3, M.apply, hk, hr]⟩
 ·have hk : i.Op = 2 := by simpa using e
  exact ⟨qd5 hl (hB (by omega)), qd5 hl (hA (by omega)), by rw [st _ (hA (by omega))]; simp [M.qb3, M.apply, hk, hr]⟩
 ·have hk : i.Op = 3 := by simpa using e
  exact ⟨qd5 hl (hB (by omega)), qd5 hl (hC (by omega)), qd5 hl (hA (by omega)), by rw [st _ (hA (by omega))]; simp [M.qb3, M.apply, hk, hr, M.qbr, M.qbQ]⟩
 ·have hk : i.Op = 4 := by simpa using e
  exact ⟨qd5 hl (hB (by omega)), qd5 hl (hC (by omega)), qd5 hl (hA (by omega)), by rw [st _ (hA (by omega))]; simp [M.qb3, M.apply, hk, hr, M.qbP, M.qcq]⟩
 ·have hk : i.Op = 5 := by simpa using e
  exact ⟨qd5 hl (hB (by omega)), qd5 hl (hC (by omega)), qd5 hl (hA (by omega)), by rw [st _ (hA (by omega))]; simp [M.qb3, M.apply, hk, hr, M.qbN, M.qcn]⟩
 ·have hk : i.Op = 6 := by simpa using e
  exact ⟨qd5 hl (hB (by omega)), qd5 hl (hC (by omega)), qd5 hl (hA (by omega)), by rw [st _ (hA (by omega))]; simp [M.qb3, M.apply, hk, hr]⟩
 ·have hk : i.Op = 7 := by simpa using e
  exact ⟨qd5 hl (hB (by omega)), qd5 hl (hC (by omega)), qd5 hl (hA (by omega)), by rw [st _ (hA (by omega))]; simp [M.qb3, M.apply, hk, hr, M.qbc, M.qcd]⟩
 ·have hk : i.Op = 8 := by simpa using e
  exact ⟨qd5 hl (hA (by omega)), by rw [st _ (hA (by omega))]; simp [M.qb3, M.apply, hk, hr]⟩
 ·have hk : i.Op = 9 := by simpa using e
  refine ⟨qd5 hl (hC (by omega)), qa3 (fun e2 => ⟨qd5 hl (hB (by omega)), qd5 hl (hA (by omega)), ?_⟩) fun e2 => ?_⟩
  ·have h2 : ¬ rd r i.C = 0 := by simpa using e2
   rw [st _ (hA (by omega))]
   simp [M.qb3, M.apply, hk, h2, hr]
  ·have h2 : rd r i.C = 0 := by simpa using e2
   simp only [M.qb3, M.apply, hk, h2, hr]
   simpa using sf.symm
 ·simp at n1 n2 n3 n4 n5 n6 n7 n8 n9
  simp only [M.qb3, M.apply, n1, n2, n3, n4, n5, n6, n7, n8, n9, hr, if_false]
  exact sf.symm
end Go.V
namespace Go.V
open IntKind (wrap)
theorem qfp {r : List Int} {l : Nat} (h : r.length = 32) (hl : l < 8) : (M.qeJ r l).length = 4 := by unfold M.qeJ; simp; omega
theorem qje {r x : List Int} {l : Nat} (h : r.length = 32) (hl : l < 8) (hx : x.length = 4) : (M.qfs r l x).length = 32 := by unfold M.qfs; simp; omega
theorem qjN {r x : List Int} {l : Nat} (h : r.length = 32) (hl : l < 8) (hx : x.length = 4) (i : Nat) : (M.qfs r l x)[i]? = if l * 4 ≤ i ∧ i < l * 4 + 4 then x[i - l * 4]? else r[i]? := by
 unfold M.qfs
 rw [List.getElem?_append, List.length_append, List.length_take, Nat.min_eq_left (by omega), hx, List.getElem?_append, List.length_take, Nat.min_eq_left (by omega)]
 by_cases h1 : i < l * 4
 ·rw [if_pos (by omega), if_pos h1, if_neg (by omega), List.getElem?_take, if_pos h1]
 ·by_cases h2 : i < l * 4 + 4
  ·rw [if_pos h2, if_neg h1, if_pos (by omega)]
  ·rw [if_neg h2, if_neg (by omega), List.getElem?_drop]
   congr 1; omega
theorem qhP (r : List Int) (l i : Nat) : (M.qeJ r l)[i]? = if i < 4 then r[l * 4 + i]? else none := by
 unfold M.qeJ
 rw [List.getElem?_drop, List.getElem?_take]
 by_cases h : i < 4
 ·rw [if_pos h, if_pos (by omega)]
 ·rw [if_neg h, if_neg (by omega)]
theorem qku {r x : List Int} {l j : Nat} (h : r.length = 32) (hl : l < 8) (hx : x.length = 4) (hne : j ≠ l) : M.qeJ (M.qfs r l x) j = M.qeJ r j := by
 apply List.ext_getElem?
 intro i
 rw [qhP, qhP]
 by_cases hi : i < 4
 ·rw [if_pos hi, if_pos hi, qjN h hl hx, if_neg (by omega)]
 ·rw [if_neg hi, if_neg hi]
theorem qns {r : List Int} {l : Nat} (h : r.length = 32) (hl : l < 8) : M.qfs r l (M.qeJ r l) = r := by
 apply List.ext_getElem?
 intro i
 rw [qjN h hl (qfp h hl)]
 by_cases hi : l * 4 ≤ i ∧ i < l * 4 + 4
 ·rw [if_pos hi, qhP, if_pos (by omega)]
  congr 1; omega
 ·rw [if_neg hi]
theorem qhl {i : D.Ins} {num m : Int} {r : List Int} (h : r.length = 32) : ∀ k, k ≤ 8 → (M.qfG i num m r k).length = 32
 | 0, _ => h
 | k + 1, hk => by
  have ih := qhl (i := i) (num := num) (m := m) h k (by omega)
  simp only [M.qfG]
  split
  ·exact qje ih (by omega) (by rw [qi8, qfp h (by omega)])
  ·exact ih
theorem qjz {i : D.Ins} {num m : Int} {r : List Int} (h : r.length = 32) : ∀ k, k ≤ 8 → ∀ j, k ≤ j → M.qeJ (M.qfG i num m r k) j = M.qeJ r j
 | 0, _, _, _ => rfl
 | k + 1, hk, j, hj => by
  have ih := qjz (i := i) (num := num) (m := m) h k (by omega) j (by omega)
  simp only [M.qfG]
  split
  ·rw [qku (qhl h k (by omega)) (by omega) (by rw [qi8, qfp h (by omega)]) (by omega), ih]
  ·exact ih
def qlt (i : D.Ins) (num : Int) (acc : List Int) (l : Int) : List Int := M.qb3 i (num * 8 + l) acc (l * 4).toNat (l * 4 + 4).toNat
theorem qla (i : D.Ins) (num : Int) (acc : List Int) (k : Nat) : qlt i num acc (k : Int) = M.qfs acc k (M.apply i (num * 8 + (k : Int)) (M.qeJ acc k)) := by
 unfold qlt M.qb3 M.qfs M.qeJ
 rw [show ((k : Int) * 4).toNat = k * 4 by omega, show ((k : Int) * 4 + 4).toNat = k * 4 + 4 by omega]
theorem qki {i : D.Ins} {num m : Int} {r : List Int} (h : r.length = 32) : M.qgE i num m r = (M.qfk m).foldl (qlt i num) r := by
 have key : ∀ k, k ≤ 8 → (List.range k).foldl (fun acc (j : Nat) => if M.qdo m (j : Int) = true then qlt i num acc (j : Int) else acc) r = M.qfG i num m r k := by
  intro k
  induction k with
  | zero => intro _; rfl
  | succ k ih =>
   intro hk
   rw [List.range_succ, List.foldl_append, ih (by omega)]
   simp only [List.foldl_cons, List.foldl_nil, M.qfG]
   rw [qla, qjz h k (by omega) k (Nat.le_refl _)]
 unfold M.qgE
 rw [← key 8 (Nat.le_refl _)]
 unfold M.qfk
 rw [List.foldl_filter]
 rfl
theorem qmc {i : D.Ins} {num : Int} : ∀ (l : List Int) (r : List Int), r.length = 32 → (∀ k ∈ l, 0 ≤ k ∧ k ≤ 7) → (l.foldl (qlt i num) r).length = 32
 | [], r, h, _ => h
 | k :: l, r, h, hl => by
  simp only [List.foldl_cons]
  obtain ⟨h0, h7⟩ := hl k List.mem_cons_self
  refine qmc l _ ?_ fun j hj => hl j (List.mem_cons_of_mem _ hj)
  rw [show k = ((k.toNat : Nat) : Int) by omega, qla]
  exact qje h (by omega) (by rw [qi8, qfp h (by omega)])
theorem qhC {i : D.Ins} {num m : Int} {r : List Int} (h : r.length = 32) : (M.qgE i num m r).length = 32 := qhl h 8 (Nat.le_refl _)
theorem qjL {i : D.Ins} {num m : Int} {r : List Int} (h : r.length = 32) (e : i.Op = 10) : M.qgE i num m r = r := by
 have ha : ∀ t (q : List Int), M.apply i t q = q := fun t q => by simp [M.apply, e]
 have : ∀ k, k ≤ 8 → M.qfG i num m r k = r := by
  intro k
  induction k with
  | zero => intro _; rfl
  | succ k ih =>
   intro hk
   simp only [M.qfG, ih (by omega), ha, qns h (show k < 8 by omega), ite_self]
 exact this 8 (Nat.le_refl _)
theorem qnq {r x : List Int} {l : Nat} (h : r.all M.isWord = true) (hx : x.all M.isWord = true) : (M.qfs r l x).all M.isWord = true := by
 rw [List.all_eq_true] at h hx ⊢
 intro y hy
 unfold M.qfs at hy
 rcases List.mem_append.1 hy with hy | hy
 ·rcases List.mem_append.1 hy with hy | hy
  ·exact h y (List.mem_of_mem_take hy)
  ·exact hx y hy
 ·exact h y (List.mem_of_mem_drop hy)
theorem qna {r : List Int} {l : Nat} (h : r.all M.isWord = true) : (M.qeJ r l).all M.isWord = true := by
 rw [List.all_eq_true] at h ⊢
 intro y hy
 exact h y (List.mem_of_mem_take (List.mem_of_mem_drop hy))
theorem qig {i : D.Ins} {n num m : Int} {r : List Int} (hok : M.qdw i n = true) (hn : 0 ≤ num ∧ num ≤ 2) (hl : r.length = 32) (h : r.all M.isWord = true) : ∀ k, k ≤ 8 → (M.qfG i num m r k).all M.isWord = true
 | 0, _ => h
 | k + 1, hk => by
  have ih := qig (m := m) hok hn hl h k (by omega)
  simp only [M.qfG]
  split
  ·exact qnq ih (qlI hok (by omega) (qfp hl (by omega)) (qna h))
  ·exact ih
theorem qmG {fs : List D.Frame} (h : fs ≠ []) (pc : Int) : M.qd0 (M.qei fs pc) = ⟨pc, (M.qd0 fs).Stop, (M.qd0 fs).Mask⟩ := by
 have hpos : 0 < fs.length := List.length_pos_iff.2 h
 have e : ((fs.length : Int) - 1) = ((fs.length - 1 : Nat) : Int) := by omega
 unfold M.qd0 M.qei
 rw [List.length_set, e, qdU (by rw [List.length_set]; omega), List.getElem_set_self]
 unfold M.qd0
 rw [e]
theorem qlm {fs : List D.Frame} (h : fs ≠ []) : M.qd0 fs ∈ fs := by
 have hpos : 0 < fs.length := List.length_pos_iff.2 h
 exact qjR (by omega) (by omega)
theorem qiG {fs : List D.Frame} {n pc : Int} (h : fs.all (M.qeg n) = true) (hx : fs ≠ []) (hp : 0 ≤ pc ∧ pc ≤ n) : (M.qei fs pc).all (M.qeg n) = true := by
 rw [List.all_eq_true] at h ⊢
 intro f hf
 rcases List.mem_or_eq_of_mem_set hf with hf | rfl
 ·exact h f hf
 ·have := h _ (qlm hx)
  simp only [M.qeg, M.isIn, Bool.and_eq_true, decide_eq_true_eq] at this ⊢
  exact ⟨hp, this.2⟩
theorem qkQ (fs : List D.Frame) (n : Int) : ∀ k, k ≤ fs.length → M.qjy fs n k = [] ∨ ∃ j : Nat, 0 < j ∧ j ≤ k ∧ M.qjy fs n k = fs.take j ∧ (rd fs ((j - 1 : Nat) : Int)).Pc ≠ (rd fs ((j - 1 : Nat) : Int)).Stop ∧ (rd fs ((j - 1 : Nat) : Int)).Pc ≠ n
 | 0, _ => .inl rfl
 | k + 1, hk => by
  simp only [M.qjy]
  split
  ·rename_i e
   exact .inr ⟨k + 1, by omega, Nat.le_refl _, rfl, e⟩
  ·rcases qkQ fs n k (by omega) with h | ⟨j, h0, h1, h2⟩
   ·exact .inl h
   ·exact .inr ⟨j, h0, by omega, h2⟩
theorem qlk {fs : List D.Frame} {n : Int} (hall : fs.all (M.qeg n) = true) (hl : fs.length ≤ 24) (h0 : fs ≠ [] → (rd fs 0).Stop = n ∧ (rd fs 0).Mask = 255) : M.qe5 (M.qlE fs n) n = true := by
 unfold M.qlE
 rcases qkQ fs n fs.length (Nat.le_refl _) with h | ⟨j, hj0, hj1, h2, h3, h4⟩
 ·rw [h]; rfl
 ·rw [h2]
  have hne : fs ≠ [] := by intro e; rw [e] at hj1; simp at hj1; omega
  have hlen : (fs.take j).length = j := by rw [List.length_take]; omega
  have hall' : (fs.take j).all (M.qeg n) = true := by
   rw [List.all_eq_true] at hall ⊢
   exact fun f hf => hall f (List.mem_of_mem_take hf)
  have hlast : M.qd0 (fs.take j) = rd fs ((j - 1 : Nat) : Int) := by
   unfold M.qd0
   rw [hlen, show ((j : Int) - 1) = ((j - 1 : Nat) : Int) by omega, qkr (by omega)]
  have hz : rd (fs.take j) 0 = rd fs 0 := by
   have := qkr (l := fs) (k := 0) (m := j) (by omega)
   exact this
  unfold M.qe5
  rw [hall', Bool.true_and, Bool.or_eq_true]
  right
  unfold M.qia
  rw [hlast, hz, hlen]
  obtain ⟨k1, k2⟩ := h0 hne
  simp only [Bool.and_eq_true, decide_eq_true_eq, bne_iff_ne, beq_iff_eq]
  exact ⟨by omega, h3, h4, k1, k2⟩
theorem qhD {fs : List D.Frame} (h : fs ≠ []) (pc : Int) : (rd (M.qei fs pc) 0).Stop = (rd fs 0).Stop ∧ (rd (M.qei fs pc) 0).Mask = (rd fs 0).Mask := by
 have hpos : 0 < fs.length := List.length_pos_iff.2 h
 have z : (0 : Int) = ((0 : Nat) : Int) := rfl
 by_cases h1 : fs.length = 1
 ·have hl := qmG h pc
  have e1 : M.qd0 (M.qei fs pc) = rd (M.qei fs pc) 0 := by unfold M.qd0 M.qei; rw [List.length_set, h1]; rfl
  have e2 : M.qd0 fs = rd fs 0 := by unfold M.qd0; rw [h1]; rfl
  rw [← e1, hl, e2]; exact ⟨rfl, rfl⟩
 ·have e : rd (M.qei fs pc) 0 = rd fs 0 := by
    unfold M.qei rd
    rw [List.getD_eq_getElem?_getD, List.getD_eq_getElem?_getD, List.getElem?_set_ne (by simp; omega)]
  rw [e]; exact ⟨rfl, rfl⟩
theorem qhf {p : List D.Ins} {x : D.Warp} (h : M.Runs p x) : x.Frames.all (M.qeg p.length) = true ∧ x.Frames.length ≤ 24 ∧ (rd x.Frames 0).Stop = p.length ∧ (rd x.Frames 0).Mask = 255 ∧ M.qfM (M.qd0 x.Frames).Mask = true ∧ x.Regs.all M.isWord = true := by
 obtain ⟨hp, hw, hx⟩ := h
 simp only [M.qfN, M.qe5, Bool.and_eq_true, Bool.or_eq_true] at hw
 obtain ⟨h1, h2, h3, h4, h5⟩ := hw
 have h5 := h5.resolve_left (by simpa using hx)
 have hf := List.all_eq_true.1 h4 _ (qlm hx)
 simp only [M.qia, M.qeg, Bool.and_eq_true, decide_eq_true_eq, beq_iff_eq] at h5 hf
 exact ⟨h4, h5.1, h5.2.2.2.1, h5.2.2.2.2, hf.2.2.1, h3⟩
theorem qhq {p : List D.Ins} {x : D.Warp} (h : M.Runs p x) (hs : M.qlv p x) : M.Branch p (M.qdF x) := by
 obtain ⟨_, _, _, _, t5, t6, _⟩ := qdX h
 refine ⟨h.1, t5, t6, ?_⟩
 unfold M.isBr
 simp only [Bool.and_eq_true, beq_iff_eq, bne_iff_ne]
 exact hs
theorem qiv {p : List D.Ins} {x : D.Warp} (h : M.splits p x = true) : M.qlv p x ∧ M.qct x (M.qaI p x).A ≠ 0 ∧ M.qct x (M.qaI p x).A ≠ (M.qd0 x.Frames).Mask := by
 simp only [M.splits, Bool.and_eq_true, beq_iff_eq, bne_iff_ne] at h
 exact ⟨h.1, h.2.1, h.2.2⟩
theorem qo2 {p : List D.Ins} {x : D.Warp} (h : M.Runs p x) : 0 ≤ M.qgy p x ∧ M.qgy p x ≤ (p.length : Int) := by
 obtain ⟨_, _, _, _, t5, t6, t7, _⟩ := qdX h
 unfold M.qgy
 split
 ·omega
 ·split
  ·exact qh5 t7 (.inr (by assumption))
  ·split
   ·rename_i e; exact qh5 t7 (.inl e.1)
   ·omega
theorem qmi {p : List D.Ins} {x : D.Warp} (h : M.Goes p x) : M.Fine p (M.stepW p x) := by
 obtain ⟨hr, hl⟩ := h
 obtain ⟨t1, t2, t3, t4, t5, t6, t7, t8, t9⟩ := qdX hr
 obtain ⟨f1, f2, f3, f4, f5, f6⟩ := qhf hr
 have hx := hr.2.2
 refine ⟨hr.1, ?_⟩
 have fin : ∀ (fs : List D.Frame) (rg : List Int), rg.length = 32 → rg.all M.isWord = true → fs.all (M.qeg p.length) = true → fs.length ≤ 24 → (fs ≠ [] → (rd fs 0).Stop = p.length ∧ (rd fs 0).Mask = 255) → M.qfN p (M.qgD ⟨x.Number, fs, rg⟩ p.length) = true := by
  intro fs rg g1 g2 g3 g4 g5
  simp only [M.qfN, M.qgD, Bool.and_eq_true, beq_iff_eq]
  exact ⟨by simp only [M.isIn, Bool.and_eq_true, decide_eq_true_eq]; exact ⟨t8, t9⟩, g1, g2, qlk g3 g4 g5⟩
 have s0 := fun pc => qhD hx pc
 unfold M.stepW
 by_cases hs : M.splits p x = true
 ·rw [if_pos hs]
  obtain ⟨hsp, hz0, hzm⟩ := qiv hs
  have hb := qhq hr hsp
  have hj := qo4 hb
  have hact : M.qb5 x = (M.qd0 x.Frames).Mask := qh1 hx
  obtain ⟨m1, m2, m3⟩ := qkU (x := x) (reg := (M.qaI p x).A) (by rw [hact]; exact f5)
  rw [hact] at m2 m3
  have h22 : x.Frames.length ≤ 22 := by
   simp only [M.qaJ, hs, Bool.and_eq_true, Bool.not_true, Bool.false_or, decide_eq_true_eq] at hl
   exact hl.2.2
  have hB := qh5 t7 (.inl hsp.1)
  unfold M.separated
  refine fin _ _ t4 f6 ?_ ?_ fun _ => ?_
  ·rw [List.all_append, qiG f1 hx hj, Bool.true_and]
   simp only [List.all_cons, List.all_nil, Bool.and_true, M.qeg, Bool.and_eq_true, M.isIn, decide_eq_true_eq, bne_iff_ne]
   unfold M.qe2 at hj
   rw [m2]
   exact ⟨⟨by omega, hj, m3, by omega⟩, hB, hj, m1, hz0⟩
  ·simp only [List.length_append, M.qei, List.length_set, List.length_cons, List.length_nil]; omega
  ·have e : rd (M.qei x.Frames (M.qgY p (M.qdF x)) ++ [⟨M.qdF x + 1, M.qgY p (M.qdF x), qeY .i64 (M.qd0 x.Frames).Mask (M.qct x (M.qaI p x).A)⟩, ⟨(M.qaI p x).B, M.qgY p (M.qdF x), M.qct x (M.qaI p x).A⟩]) 0 = rd (M.qei x.Frames (M.qgY p (M.qdF x))) 0 := by
     unfold rd
     rw [List.getD_eq_getElem?_getD, List.getD_eq_getElem?_getD, List.getElem?_append_left (by simp [M.qei]; omega)]
   rw [e, (s0 _).1, (s0 _).2]
   exact ⟨f3, f4⟩
 ·rw [if_neg hs]
  unfold M.advance
  refine fin _ _ (qhC t4) (qig t7 ⟨t8, t9⟩ t4 f6 8 (Nat.le_refl _)) (qiG f1 hx (qo2 hr)) (by simp only [M.qei, List.length_set]; exact f2) fun _ => ?_
  rw [(s0 _).1, (s0 _).2]
  exact ⟨f3, f4⟩
end Go.V
namespace Go.V
open IntKind (wrap)
theorem qlZ {i : D.Ins} {n : Int} {r : List Int} {k : Nat} (h : M.qdw i n = true) (hr : r.length = 32) (hk : k < 8) : M.Fits i (M.qeJ r k) := ⟨qfp hr hk, n, h⟩
theorem wp.qba.math (x : D.Warp) (p : List D.Ins) (h : M.qeN x p) : wp.qba x p (fun r => r = M.qba x p) := by
 obtain ⟨t1, t2, t3, t4, t5, t6, t7, t8, t9⟩ := qdX h
 have hx := h.2.2
 unfold wp.qba
 rw [qdp (by omega)]
 refine ⟨by omega, ⟨t5, t6⟩, fun ls hls => ?_⟩
 have hls : ls = M.qfk (M.qd0 x.Frames).Mask := hls
 have hmem : ∀ k ∈ ls, 0 ≤ k ∧ k ≤ 7 := fun k hk => qiZ (m := (M.qd0 x.Frames).Mask) (hls ▸ hk)
 have hlen : ls.length ≤ 8 := by rw [hls]; exact qld _
 let G : Nat → List Int := fun k => (ls.take k).foldl (qlt (M.qaI p x) x.Number) x.Regs
 have hG : ∀ k, (G k).length = 32 := fun k => qmc _ _ t4 fun j hj => hmem j (List.mem_of_mem_take hj)
 refine qd9 ls.length (fun k => ((k : Int), G k, ())) (fun _ => True) rfl trivial (fun k hk _ next hn => ?_) fun _ next => ?_
 ·have hn := hn trivial
  have hm := hmem _ (qgg hk)
  have hGk := hG k
  have hnext : G (k + 1) = qlt (M.qaI p x) x.Number (G k) (rd ls (k : Int)) := by
   simp only [G]
   rw [List.take_add_one, List.getElem?_eq_getElem hk, Option.toList_some, List.foldl_append, ← qdU hk]
   rfl
  rw [hnext] at hn
  dsimp only
  generalize rd ls (k : Int) = l at *
  generalize G k = g at *
  have a1 : wrap .i64 (l * 4) = l * 4 := w64 (by omega) (by omega)
  have a2 : wrap .i64 ((wrap .i64 (l + 1)) * 4) = l * 4 + 4 := by rw [w64 (x := l + 1) (by omega) (by omega), w64 (by omega) (by omega)]; omega
  have a3 : wrap .i64 ((wrap .i64 (x.Number * 8)) + l) = x.Number * 8 + l := by rw [w64 (x := x.Number * 8) (by omega) (by omega), w64 (by omega) (by omega)]
  rw [a1, a2, a3, up64 hk (by omega)]
  refine qaE (by simp; omega) ⟨by omega, ⟨hGk, hm⟩, ⟨?_, by omega, by omega⟩, fun r2 hr2 => ?_⟩
  ·have := qlZ (k := l.toNat) t7 hGk (by omega)
   unfold M.qeJ at this
   rw [show l.toNat * 4 + 4 = (l * 4 + 4).toNat by omega, show l.toNat * 4 = (l * 4).toNat by omega] at this
   exact this
  ·rw [hr2]; exact hn
 ·have hall : G ls.length = M.qgE (M.qaI p x) x.Number (M.qd0 x.Frames).Mask x.Regs := by
    simp only [G]
    rw [List.take_length, qki t4, hls]
  dsimp only
  rw [hall]
  refine qaC (by simp) ?_
  have e1 : ((x.Frames.length : Int) - 1).toNat = x.Frames.length - 1 := by omega
  have fin : ∀ pc, pc = M.qgy p x → (⟨x.Number, x.Frames.set ((x.Frames.length : Int) - 1).toNat ⟨pc, (M.qd0 x.Frames).Stop, (M.qd0 x.Frames).Mask⟩, M.qgE (M.qaI p x) x.Number (M.qd0 x.Frames).Mask x.Regs⟩ : D.Warp) = M.qba x p := by
   rintro _ rfl
   unfold M.qba M.advance M.qei
   rw [e1]
  show qa1 ((M.qaI p x).Op == 12) _ (qa1 ((M.qaI p x).Op == 11) (qa1 true _ _) (qa1 ((M.qaI p x).Op == 10) _ (qa1 false _ _)))
  refine qa3 (fun c1 => fin _ ?_) fun c1 => qa3 (fun c2 => qaE rfl (fin _ ?_)) fun c2 => qa3 (fun c3 => ⟨?_, fun z hz => ?_⟩) fun c3 => qaC rfl (fin _ ?_)
  ·have c1 : (M.qaI p x).Op = 12 := by simpa using c1
   simp [M.qgy, c1]
  ·have c2 : (M.qaI p x).Op = 11 := by simpa using c2
   simp only [M.qgy, c2]
   rfl
  ·have c3 : (M.qaI p x).Op = 10 := by simpa using c3
   exact ⟨by show x.Frames.length ≤ 9223372036854775807; omega, qhC t4, qhK t7 c3⟩
  ·have c3 : (M.qaI p x).Op = 10 := by simpa using c3
   have hz : z = M.qct x (M.qaI p x).A := by
    rw [hz, qjL t4 c3]; rfl
   show qa1 (z == (M.qd0 x.Frames).Mask) _ _
   rw [hz]
   refine qa3 (fun c4 => fin _ ?_) fun c4 => fin _ ?_
   ·have c4 : M.qct x (M.qaI p x).A = (M.qd0 x.Frames).Mask := by simpa using c4
    unfold M.qgy
    rw [if_neg (by omega), if_neg (by omega), if_pos ⟨c3, c4⟩]; rfl
   ·have c4 : ¬ M.qct x (M.qaI p x).A = (M.qd0 x.Frames).Mask := by simpa using c4
    unfold M.qgy
    rw [if_neg (by omega), if_neg (by omega), if_neg (fun hc => c4 hc.2)]
    exact w64 (x := M.qdF x + 1) (by omega) (by omega)
  ·have c1 : ¬ (M.qaI p x).Op = 12 := by simpa using c1
   have c2 : ¬ (M.qaI p x).Op = 11 := by simpa using c2
   have c3 : ¬ (M.qaI p x).Op = 10 := by simpa using c3
   unfold M.qgy
   rw [if_neg c1, if_neg c2, if_neg (fun hc => c3 hc.1)]
   exact w64 (x := M.qdF x + 1) (by omega) (by omega)
theorem qkY {p : List D.Ins} {b : Int} (h : M.Branch p b) : M.has (M.branches p) b = true := by
 unfold M.has M.branches
 rw [if_pos h.1, List.any_eq_true]
 exact ⟨b, qj7.2 ⟨b.toNat, by have := h.2.2.1; have := h.2.1; omega, by have := h.2.1; omega, h.2.2.2⟩, by simp⟩
theorem wp.qaM.math (x : D.Warp) (p : List D.Ins) (h : M.qeB x p) : wp.qaM x p (fun r => r = M.qaM x p) := by
 obtain ⟨hr, hs⟩ := h
 obtain ⟨t1, t2, t3, t4, t5, t6, t7, t8, t9⟩ := qdX hr
 have hb := qhq hr hs
 unfold wp.qaM
 rw [qdp (by omega), w64 (x := (x.Frames.length : Int) + 2) (by omega) (by omega)]
 refine qa3 (fun e => ?_) fun e => ⟨by omega, ⟨t5, t6⟩, ⟨by show x.Frames.length ≤ 9223372036854775807; omega, t4, qhK t7 hs.1⟩, fun z hz => ⟨qgG hr.1, fun j hj => ⟨⟨t5, t6⟩, ?_⟩⟩⟩
 ·have e : ¬ x.Frames.length ≤ 22 := by have := of_decide_eq_true e; omega
  unfold M.qaM
  rw [if_neg e]
 ·have e : x.Frames.length ≤ 22 := by have := of_decide_eq_false e; omega
  have hj : j = M.qgY p (M.qdF x) := by
   rw [hj]
   show M.qln p (M.qdF x) = _
   unfold M.qln
   rw [if_pos (qkY hb)]
  have hw : wrap .i64 (M.qdF x + 1) = M.qdF x + 1 := w64 (by omega) (by omega)
  have key : ∀ y, y = M.separated p x → (true, y) = M.qaM x p := by
   rintro _ rfl
   unfold M.qaM
   rw [if_pos e]
  have e1 : ((x.Frames.length : Int) - 1).toNat = x.Frames.length - 1 := by omega
  have fin : (true, (⟨x.Number, (x.Frames.set ((x.Frames.length : Int) - 1).toNat ⟨j, (M.qd0 x.Frames).Stop, (M.qd0 x.Frames).Mask⟩) ++ [⟨wrap .i64 (M.qdF x + 1), j, qeY .i64 (M.qd0 x.Frames).Mask z⟩, ⟨(M.qaI p x).B, j, z⟩], x.Regs⟩ : D.Warp)) = M.qaM x p := by
   refine key _ ?_
   rw [hw, hj, hz, e1]; rfl
  have hle : (x.Frames.set ((x.Frames.length : Int) - 1).toNat ⟨j, (M.qd0 x.Frames).Stop, (M.qd0 x.Frames).Mask⟩).length + 2 ≤ 17179869184 := by rw [List.length_set]; omega
  exact ⟨⟨hle, fin⟩, ⟨⟨hle, fin⟩, ⟨hle, fin⟩, trivial⟩, trivial⟩
end Go.V
namespace Go.V
open IntKind (wrap)
def qgM (r x : List Int) (l j : Nat) : List Int := r.take (l * 4) ++ x.take j ++ r.drop (l * 4 + j)
theorem qjr {r x : List Int} {l j : Nat} (h : r.length = 32) (hl : l < 8) (hx : x.length = 4) (hj : j ≤ 4) : (qgM r x l j).length = 32 := by unfold qgM; simp; omega
theorem qjx {r x : List Int} {l j : Nat} (h : r.length = 32) (hl : l < 8) (hx : x.length = 4) (hj : j ≤ 4) (i : Nat) : (qgM r x l j)[i]? = if l * 4 ≤ i ∧ i < l * 4 + j then x[i - l * 4]? else r[i]? := by
 unfold qgM
 rw [List.getElem?_append, List.length_append, List.length_take, List.length_take, hx, Nat.min_eq_left (by omega), Nat.min_eq_left hj, List.getElem?_append, List.length_take, Nat.min_eq_left (by omega)]
 by_cases h1 : i < l * 4
 ·rw [if_pos (by omega), if_pos h1, if_neg (by omega), List.getElem?_take, if_pos h1]
 ·by_cases h2 : i < l * 4 + j
  ·rw [if_pos h2, if_neg h1, if_pos (by omega), List.getElem?_take, if_pos (by omega)]
  ·rw [if_neg h2, if_neg (by omega), List.getElem?_drop]
   congr 1; omega
theorem qlp (r x : List Int) (l : Nat) : qgM r x l 0 = r := by unfold qgM; simp
theorem qlF {r x : List Int} {l : Nat} (hx : x.length = 4) : qgM r x l 4 = M.qfs r l x := by unfold qgM M.qfs; rw [List.take_of_length_le (l := x) (by omega)]
theorem qlw {r x : List Int} {l j : Nat} (h : r.length = 32) (hl : l < 8) (hx : x.length = 4) (hj : j < 4) : (qgM r x l j).set (l * 4 + j) (rd x (j : Int)) = qgM r x l (j + 1) := by
 apply List.ext_getElem?
 intro i
 rw [qjx h hl hx (by omega)]
 by_cases e : l * 4 + j = i
 ·subst e
  rw [List.getElem?_set_self (by rw [qjr h hl hx (by omega)]; omega), if_pos (by omega), show l * 4 + j - l * 4 = j by omega, qdU (by omega), List.getElem?_eq_getElem (by omega)]
 ·rw [List.getElem?_set_ne e, qjx h hl hx (by omega)]
  by_cases h1 : l * 4 ≤ i ∧ i < l * 4 + j
  ·rw [if_pos h1, if_pos (by omega)]
  ·rw [if_neg h1, if_neg (by omega)]
theorem wp.qcY.math (p : List D.Ins) (x : D.Warp) (h : M.qfW p x) : wp.qcY p x (fun r => r = M.qcY p x) := by
 obtain ⟨t1, t2, t3, t4, t5, t6, t7, t8, t9⟩ := qdX h
 unfold wp.qcY
 rw [qdp (by omega), List.nil_append]
 refine ⟨by simp; omega, by omega, ?_⟩
 let G : Nat → List Int := M.qfG (M.qaI p x) x.Number (M.qd0 x.Frames).Mask x.Regs
 have hG : ∀ k, k ≤ 8 → (G k).length = 32 := fun k hk => qhl t4 k hk
 refine qd9 8 (fun k => ((k : Int), G k, ())) (fun _ => True) rfl trivial (fun k hk _ next hn => ?_) fun _ next => qaC (by simp) rfl
 have hn := hn trivial
 have hGk := hG k (by omega)
 have hnext : G (k + 1) = if M.qdo (M.qd0 x.Frames).Mask (k : Int) then M.qfs (G k) k (M.apply (M.qaI p x) (x.Number * 8 + (k : Int)) (M.qeJ x.Regs k)) else G k := rfl
 rw [hnext] at hn
 dsimp only
 generalize G k = g at *
 refine qaE (by simp; omega) fun b hb => ?_
 have hb : b = M.qdo (M.qd0 x.Frames).Mask (k : Int) := hb
 have a1 : wrap .i64 ((k : Int) * 4) = (k : Int) * 4 := w64 (by omega) (by omega)
 have a2 : wrap .i64 ((wrap .i64 ((k : Int) + 1)) * 4) = (k : Int) * 4 + 4 := by rw [w64 (x := (k : Int) + 1) (by omega) (by omega), w64 (by omega) (by omega)]; omega
 have a3 : wrap .i64 ((wrap .i64 (x.Number * 8)) + (k : Int)) = x.Number * 8 + (k : Int) := by rw [w64 (x := x.Number * 8) (by omega) (by omega), w64 (by omega) (by omega)]
 refine qa3 (fun e => ?_) fun e => ?_
 ·rw [if_pos (hb.symm.trans e)] at hn
  rw [a1, a2, a3, t4, show ((k : Int) * 4 + 4).toNat = k * 4 + 4 by omega, show ((k : Int) * 4).toNat = k * 4 by omega]
  refine ⟨⟨t5, t6⟩, ⟨by omega, by omega, by omega, by omega⟩, qlZ t7 t4 hk, fun y hy => ?_⟩
  have hy : y = M.apply (M.qaI p x) (x.Number * 8 + (k : Int)) (M.qeJ x.Regs k) := hy
  have hyl : y.length = 4 := by rw [hy, qi8, qfp t4 hk]
  rw [← hy] at hn
  refine qd9 4 (fun j => ((j : Int), qgM g y k j, ())) (fun _ => True) (by rw [qlp]; rfl) trivial (fun j hj _ next2 hn2 => ?_) fun _ next2 => ?_
  ·have hn2 := hn2 trivial
   rw [← qlw hGk hk hyl hj] at hn2
   dsimp only
   have a4 : wrap .i64 ((k : Int) * 4 + (j : Int)) = (k : Int) * 4 + (j : Int) := w64 (by omega) (by omega)
   rw [a4, hyl, qjr hGk hk hyl (by omega), show ((k : Int) * 4 + (j : Int)).toNat = k * 4 + j by omega, up64 (n := 4) hj (by omega)]
   exact qaE (by simp; omega) ⟨by omega, by omega, hn2⟩
  ·dsimp only
   rw [qlF hyl, up64 (n := 8) hk (by omega)]
   exact qaC (by simp) hn
 ·rw [if_neg (by rw [← hb, e]; simp)] at hn
  rw [up64 (n := 8) hk (by omega)]
  exact hn
theorem wp.qdk.math (p : List D.Ins) (x : D.Warp) (h : M.qgu p x) : wp.qdk p x (fun r => r = M.qdk p x) := by
 obtain ⟨hr, hl⟩ := h
 obtain ⟨t1, t2, t3, t4, t5, t6, t7, t8, t9⟩ := qdX hr
 obtain ⟨f1, f2, f3, f4, f5, f6⟩ := qhf hr
 have hx := hr.2.2
 unfold wp.qdk
 rw [qdp (by omega)]
 refine ⟨⟨by omega, by omega⟩, fun y hy => ?_⟩
 have hy : y = x := hy
 subst hy
 have e1 : ((y.Frames.length : Int) - 1).toNat = y.Frames.length - 1 := by omega
 refine ⟨by omega, ⟨t5, t6⟩, hr, fun s hs => ?_⟩
 have hs : s = M.splits p y := hs
 have hw : wrap .i64 (M.qdF y + 1) = M.qdF y + 1 := w64 (by omega) (by omega)
 refine qa3 (fun e => ⟨by show y.Frames.length ≤ 9223372036854775807; omega, fun z hz => ?_⟩) fun e => ⟨hr, fun rg hrg => ?_⟩
 ·have hsp := hs.symm.trans e
  obtain ⟨hsp', hz0, hzm⟩ := qiv hsp
  have hb := qhq hr hsp'
  have hz : z = M.qct y (M.qaI p y).A := by
   have hz : z = M.qaO y (M.qaI p y).A := hz
   rw [hz]
   unfold M.qaO
   rw [if_pos (by rw [qhK t7 hsp'.1, t4]; rfl)]
  have hact : M.qb5 y = (M.qd0 y.Frames).Mask := qh1 hx
  obtain ⟨m1, m2, m3⟩ := qkU (x := y) (reg := (M.qaI p y).A) (by rw [hact]; exact f5)
  rw [hact] at m2 m3
  have hm : wrap .i64 ((M.qd0 y.Frames).Mask - z) = qeY .i64 (M.qd0 y.Frames).Mask (M.qct y (M.qaI p y).A) := by
   rw [m2, hz]
   simp only [M.qfM, M.isIn, Bool.and_eq_true, decide_eq_true_eq] at m3
   exact w64 (by omega) (by omega)
  refine ⟨hb, fun j hj => ⟨by omega, ⟨by simp; omega, ⟨by refine ⟨?_, ?_⟩ <;> simp <;> omega, fun d hd => ?_⟩⟩⟩⟩
  have hj : j = M.qgY p (M.qdF y) := hj
  have hd : d = M.qgD (M.separated p y) p.length := by
   rw [hd]
   show M.qgD _ _ = M.qgD _ _
   congr 1
   unfold M.separated M.qei
   rw [← hm, ← hj, ← hz, e1, ← hw]; rfl
  show d = M.stepW p y
  unfold M.stepW
  rw [if_pos hsp]; exact hd
 ·have hns : ¬ M.splits p y = true := by rw [← hs, e]; simp
  have hrg : rg = M.qgE (M.qaI p y) y.Number (M.qd0 y.Frames).Mask y.Regs := hrg
  have hfit : ∀ pc, M.WFit ⟨y.Number, y.Frames.set ((y.Frames.length : Int) - 1).toNat ⟨pc, (M.qd0 y.Frames).Stop, (M.qd0 y.Frames).Mask⟩, rg⟩ := fun pc => by
   refine ⟨?_, ?_⟩
   ·show (y.Frames.set _ _).length ≤ _
    rw [List.length_set]; omega
   ·show rg.length ≤ _
    rw [hrg, qhC t4]; omega
  have fin : ∀ pc, pc = M.qgy p y → ∀ d, d = M.qaG p ⟨y.Number, y.Frames.set ((y.Frames.length : Int) - 1).toNat ⟨pc, (M.qd0 y.Frames).Stop, (M.qd0 y.Frames).Mask⟩, rg⟩ → d = M.stepW p y := by
   rintro _ rfl d hd
   rw [hd, hrg]
   show M.qgD _ _ = _
   unfold M.stepW
   rw [if_neg hns, e1]; rfl
  show qa1 ((M.qaI p y).Op == 12) _ (qa1 ((M.qaI p y).Op == 11) _ (_ ∧ qa1 ((M.qaI p y).Op == 10) _ (qa1 false _ _)))
  refine qa3 (fun c1 => ⟨by omega, hfit _, fun d hd => fin _ ?_ d hd⟩) fun c1 => qa3 (fun c2 => ⟨by omega, hfit _, fun d hd => fin _ ?_ d hd⟩) fun c2 => ⟨by omega, qa3 (fun c3 => ⟨by show y.Frames.length ≤ 9223372036854775807; omega, fun z hz => ?_⟩) fun c3 => qaC rfl ⟨hfit _, fun d hd => fin _ ?_ d hd⟩⟩
  ·have c1 : (M.qaI p y).Op = 12 := by simpa using c1
   simp [M.qgy, c1]
  ·have c2 : (M.qaI p y).Op = 11 := by simpa using c2
   simp only [M.qgy, c2]
   rfl
  ·have c3 : (M.qaI p y).Op = 10 := by simpa using c3
   have hz : z = M.qct y (M.qaI p y).A := by
    have hz : z = M.qaO y (M.qaI p y).A := hz
    rw [hz]
    unfold M.qaO
    rw [if_pos (by rw [qhK t7 c3, t4]; rfl)]
   show qa1 (z == (M.qd0 y.Frames).Mask) _ _
   rw [hz]
   refine qa3 (fun c4 => ⟨by rw [List.length_set]; omega, hfit _, fun d hd => fin _ ?_ d hd⟩) fun c4 => ⟨hfit _, fun d hd => fin _ ?_ d hd⟩
   ·have c4 : M.qct y (M.qaI p y).A = (M.qd0 y.Frames).Mask := by simpa using c4
    unfold M.qgy
    rw [if_neg (by omega), if_neg (by omega), if_pos ⟨c3, c4⟩]; rfl
   ·have c4 : ¬ M.qct y (M.qaI p y).A = (M.qd0 y.Frames).Mask := by simpa using c4
    unfold M.qgy
    rw [if_neg (by omega), if_neg (by omega), if_neg (fun hc => c4 hc.2)]
    exact hw
  ·have c1 : ¬ (M.qaI p y).Op = 12 := by simpa using c1
   have c2 : ¬ (M.qaI p y).Op = 11 := by simpa using c2
   have c3 : ¬ (M.qaI p y).Op = 10 := by simpa using c3
   unfold M.qgy
   rw [if_neg c1, if_neg c2, if_neg (fun hc => c3 hc.1)]
   exact hw
end Go.V
namespace Go.V
open IntKind (wrap)
theorem wp.qbg.math (x : D.Warp) (p : List D.Ins) (h : M.qfr x p) : wp.qbg x p (fun r => r = M.qbg x p) := by
 obtain ⟨hp, hw⟩ := h
 unfold wp.qbg
 rw [qh8]
 refine qa3 (fun e => ?_) fun e => ?_
 ·have : M.qaJ p x = false := by simp [M.qaJ, e]
  unfold M.qbg
  rw [if_neg (by rw [this]; simp)]
 have hx : x.Frames ≠ [] := by simpa using e
 have hr : M.Runs p x := ⟨hp, hw, hx⟩
 obtain ⟨t1, t2, t3, t4, t5, t6, t7, t8, t9⟩ := qdX hr
 rw [qdp (by omega)]
 have hl : ∀ b, M.qcM (M.qaI p x) = b → M.qaJ p x = (b && (!M.splits p x || decide (x.Frames.length ≤ 22))) := fun b hb => by
  simp only [M.qaJ, hb, e, Bool.not_false, Bool.true_and]
 have no : M.qaJ p x = false → (false, x) = M.qbg x p := fun hf => by
  unfold M.qbg
  rw [if_neg (by rw [hf]; simp)]
 have yes : M.qaJ p x = true → ∀ y, y = M.stepW p x → (true, y) = M.qbg x p := fun hf y hy => by
  unfold M.qbg
  rw [if_pos hf, hy]
 refine ⟨by omega, ⟨t5, t6⟩, fun b hb => qa3 (fun c => no ?_) fun c => ⟨hr, fun s hs => qa3 (fun c2 => ⟨⟨hr, ?_⟩, fun q hq => ?_⟩) fun c2 => ⟨hr, fun q hq => ⟨?_, fun d hd => ?_⟩⟩⟩⟩
 ·have c : b = false := by simpa using c
  rw [hl b hb.symm, c]; rfl
 ·exact (qiv (hs.symm.trans c2)).1
 ·have c : b = true := by simpa using c
  have hsp : M.splits p x = true := hs.symm.trans c2
  have hl' := hl b hb.symm
  rw [c, hsp] at hl'
  simp only [Bool.true_and, Bool.not_true, Bool.false_or] at hl'
  rw [hq]
  unfold M.qaM
  by_cases h22 : x.Frames.length ≤ 22
  ·rw [decide_eq_true h22] at hl'
   rw [if_pos h22]
   refine qaC rfl ⟨?_, fun d hd => yes hl' _ ?_⟩
   ·show (M.separated p x).Frames.length ≤ 9223372036854775807
    simp only [M.separated, M.qei, List.length_append, List.length_set, List.length_cons, List.length_nil]; omega
   ·rw [hd]
    unfold M.stepW
    rw [if_pos hsp]; rfl
  ·rw [decide_eq_false h22] at hl'
   rw [if_neg h22]
   exact qaE rfl (no hl')
 ·rw [hq]
  show (M.qei x.Frames _).length ≤ 9223372036854775807
  simp only [M.qei, List.length_set]; omega
 ·have c : b = true := by simpa using c
  have hsp : M.splits p x = false := by rw [← show s = M.splits p x from hs, c2]
  have hl' := hl b hb.symm
  rw [c, hsp] at hl'
  refine yes hl' _ ?_
  rw [hd, hq]
  unfold M.stepW
  rw [if_neg (by rw [hsp]; simp)]; rfl
theorem qlq {p : List D.Ins} (hp : M.qaW p = true) {w : Int} (hw : M.isIn w 0 2 = true) : M.Fine p (M.qdE p w) := by
 refine ⟨hp, ?_⟩
 have hz : (List.replicate 32 (0 : Int)).all M.isWord = true := by rfl
 unfold M.qfN
 have hN : (M.qdE p w).Number = w := rfl
 have hR : (M.qdE p w).Regs = List.replicate 32 0 := rfl
 have hF : (M.qdE p w).Frames = if p.length > 0 then [⟨0, p.length, 255⟩] else [] := rfl
 rw [hN, hR, hF, hw, hz, List.length_replicate]
 by_cases h0 : p.length > 0
 ·rw [if_pos h0]
  have hn : (p.length : Int) ≠ 0 := by omega
  have h1 : M.qeg p.length ⟨0, p.length, 255⟩ = true := by
   simp only [M.qeg, M.isIn, M.qfM, Bool.and_eq_true, decide_eq_true_eq, bne_iff_ne]; omega
  have hl : M.qd0 [(⟨0, p.length, 255⟩ : D.Frame)] = ⟨0, p.length, 255⟩ := rfl
  have hr : rd [(⟨0, p.length, 255⟩ : D.Frame)] 0 = ⟨0, p.length, 255⟩ := rfl
  have h2 : M.qia [(⟨0, p.length, 255⟩ : D.Frame)] p.length = true := by
   unfold M.qia
   rw [hl, hr]
   simp only [Bool.and_eq_true, decide_eq_true_eq, bne_iff_ne, beq_iff_eq, List.length_cons, List.length_nil]
   exact ⟨by omega, fun h => hn h.symm, fun h => hn h.symm, trivial, trivial⟩
  have : M.qe5 [(⟨0, p.length, 255⟩ : D.Frame)] p.length = true := by
   unfold M.qe5
   rw [h2]; simp [h1]
  rw [this]; rfl
 ·rw [if_neg h0]; rfl
end Go.V
namespace Go.V
open IntKind (wrap)
def wp.qcN (s0 : D.Cur) (x1 : Int) (Q : (Bool × D.Cur) → Prop) : Prop :=
 (M.qas s0 x1 ∧ ∀ r21, r21 = M.qa0 s0 x1 → Q ((r21.1 == 0), (⟨s0.b, r21.2.i, r21.2.h⟩ : D.Cur)))
def wp.qaT (s0 : D.Cur) (xs1 : List D.Ins) (x2 : Int) (Q : ((List D.Ins) × D.Cur) → Prop) : Prop :=
 (M.qas s0 4 ∧ ∀ r21, r21 = M.qa0 s0 4 → qd7 (σ := (List D.Ins) × Int × Int × Int × Unit) (fun (p210 : (List D.Ins) × Int × Int × Int × Unit) next51 => match p210 with | (xs42, i45, i46, i47, _) => qa1 (decide (i45 > 0)) (qa1 (decide ((xs42.length : Int) < 20)) ((M.qas (⟨s0.b, i46, i47⟩ : D.Cur) 5 ∧ ∀ r53, r53 = M.qa0 (⟨s0.b, i46, i47⟩ : D.Cur) 5 → qa1 (r53.1 == 0) (qa1 (x2 == 0) (next51 (xs42, (wrap .i64 (i45 - 1)), r53.2.i, r53.2.h, ())) ((M.qas (⟨s0.b, r53.2.i, r53.2.h⟩ : D.Cur) 4 ∧ ∀ r62, r62 = M.qa0 (⟨s0.b, r53.2.i, r53.2.h⟩ : D.Cur) 4 → ((xs42.length + ([(⟨10, r62.1, 0, 0⟩ : D.Ins)] : List D.Ins).length ≤ 17179869184) ∧ (M.qdS (⟨s0.b, r62.2.i, r62.2.h⟩ : D.Cur) (xs42 ++ ([(⟨10, r62.1, 0, 0⟩ : D.Ins)] : List D.Ins)) (wrap .i64 (x2 - 1)) ∧ ∀ r76, r76 = M.qaT (⟨s0.b, r62.2.i, r62.2.h⟩ : D.Cur) (xs42 ++ ([(⟨10, r62.1, 0, 0⟩ : D.Ins)] : List D.Ins)) (wrap .i64 (x2 - 1)) → (M.qfb (⟨s0.b, r76.2.i, r76.2.h⟩ : D.Cur) 2 ∧ ∀ r84, r84 = M.qcN (⟨s0.b, r76.2.i, r76.2.h⟩ : D.Cur) 2 → qa1 r84.1 (((0 ≤ (xs42.length : Int) ∧ (xs42.length : Int) < (r76.1.length : Int)) ∧ next51 ((List.set r76.1 ((xs42.length : Int).toNat) (⟨(rd r76.1 (xs42.length : Int)).Op, (rd r76.1 (xs42.length : Int)).A, (r76.1.length : Int), (rd r76.1 (xs42.length : Int)).C⟩ : D.Ins)), (wrap .i64 (i45 - 1)), r84.2.i, r84.2.h, ()))) (((r76.1.length + ([(⟨11, 0, 0, 0⟩ : D.Ins)] : List D.Ins).length ≤ 17179869184) ∧ ((0 ≤ (xs42.length : Int) ∧ (xs42.length : Int) < ((r76.1 ++ ([(⟨11, 0, 0, 0⟩ : D.Ins)] : List D.Ins)).length : Int)) ∧ (M.qdS (⟨s0.b, r84.2.i, r84.2.h⟩ : D.Cur) (List.set (r76.1 ++ ([(⟨11, 0, 0, 0⟩ : D.Ins)] : List D.Ins)) ((xs42.length : Int).toNat) (⟨(rd (r76.1 ++ ([(⟨11, 0, 0, 0⟩ : D.Ins)] : List D.Ins)) (xs42.length : Int)).Op, (rd (r76.1 ++ ([(⟨11, 0, 0, 0⟩ : D.Ins)] : List D.Ins)) (xs42.length : Int)).A, (((r76.1 ++ ([(⟨11, 0, 0, 0⟩ : D.Ins)] : List D.Ins))).length : Int), (rd (r76.1 ++ ([(⟨11, 0, 0, 0⟩ : D.Ins)] : List D.Ins)) (xs42.length : Int)).C⟩ : D.Ins)) (wrap .i64 (x2 - 1)) ∧ ∀ r117, r117 = M.qaT (⟨s0.b, r84.2.i, r84.2.h⟩ : D.Cur) (List.set (r76.1 ++ ([(⟨11, 0, 0, 0⟩ : D.Ins)] : List D.Ins)) ((xs42.length : Int).toNat) (⟨(rd (r76.1 ++ ([(⟨11, 0, 0, 0⟩ : D.Ins)] : List D.Ins)) (xs42.length : Int)).Op, (rd (r76.1 ++ ([(⟨11, 0, 0, 0⟩ : D.Ins)] : List D.Ins)) (xs42.length : Int)).A, (((r76.1 ++ ([(⟨11, 0, 0, 0⟩ : D.Ins)] : List D.Ins))).length : Int), (rd (r76.1 ++ ([(⟨11, 0, 0, 0⟩ : D.Ins)] : List D.Ins)) (xs42.length : Int)).C⟩ : D.Ins)) (wrap .i64 (x2 - 1)) → ((0 ≤ (r76.1.length : Int) ∧ (r76.1.length : Int) < (r117.1.length : Int)) ∧ next51 ((List.set r117.1 ((r76.1.length : Int).toNat) (⟨(rd r117.1 (r76.1.length : Int)).Op, (rd r117.1 (r76.1.length : Int)).A, (r117.1.length : Int), (rd r117.1 (r76.1.length : Int)).C⟩ : D.Ins)), (wrap .i64 (i45 - 1)), r117.2.i, r117.2.h, ())))))))))))) (qa1 (r53.1 == 1) (qa1 (x2 == 0) (next51 (xs42, (wrap .i64 (i45 - 1)), r53.2.i, r53.2.h, ())) (qa1 (decide ((xs42.length : Int) > 14)) (next51 (xs42, (wrap .i64 (i45 - 1)), r53.2.i, r53.2.h, ())) (((xs42.length + ([(⟨8, 3, 0, 0⟩ : D.Ins)] : List D.Ins).length ≤ 17179869184) ∧ (((xs42 ++ ([(⟨8, 3, 0, 0⟩ : D.Ins)] : List D.Ins)).length + ([(⟨10, 3, 0, 0⟩ : D.Ins)] : List D.Ins).length ≤ 17179869184) ∧ ((((xs42 ++ ([(⟨8, 3, 0, 0⟩ : D.Ins)] : List D.Ins)) ++ ([(⟨10, 3, 0, 0⟩ : D.Ins)] : List D.Ins)).length + ([(⟨3, 0, 0, 1⟩ : D.Ins), (⟨1, 2, 1, 0⟩ : D.Ins), (⟨4, 3, 3, 2⟩ : D.Ins)] : List D.Ins).length ≤ 17179869184) ∧ (((((xs42 ++ ([(⟨8, 3, 0, 0⟩ : D.Ins)] : List D.Ins)) ++ ([(⟨10, 3, 0, 0⟩ : D.Ins)] : List D.Ins)) ++ ([(⟨3, 0, 0, 1⟩ : D.Ins), (⟨1, 2, 1, 0⟩ : D.Ins), (⟨4, 3, 3, 2⟩ : D.Ins)] : List D.Ins)).length + ([(⟨11, 0, (((xs42 ++ ([(⟨8, 3, 0, 0⟩ : D.Ins)] : List D.Ins))).length : Int), 0⟩ : D.Ins)] : List D.Ins).length ≤ 17179869184) ∧ ((0 ≤ (((xs42 ++ ([(⟨8, 3, 0, 0⟩ : D.Ins)] : List D.Ins))).length : Int) ∧ (((xs42 ++ ([(⟨8, 3, 0, 0⟩ : D.Ins)] : List D.Ins))).length : Int) < (((((xs42 ++ ([(⟨8, 3, 0, 0⟩ : D.Ins)] : List D.Ins)) ++ ([(⟨10, 3, 0, 0⟩ : D.Ins)] : List D.Ins)) ++ ([(⟨3, 0, 0, 1⟩ : D.Ins), (⟨1, 2, 1, 0⟩ : D.Ins), (⟨4, 3, 3, 2⟩ : D.Ins)] : List D.Ins)) ++ ([(⟨11, 0, (((xs42 ++ ([(⟨8, 3, 0, 0⟩ : D.Ins)] : List D.Ins))).length : Int), 0⟩ : D.Ins)] : List D.Ins)).length : Int)) ∧ next51 ((List.set ((((xs42 ++ ([(⟨8, 3, 0, 0⟩ : D.Ins)] : List D.Ins)) ++ ([(⟨10, 3, 0, 0⟩ : D.Ins)] : List D.Ins)) ++ ([(⟨3, 0, 0, 1⟩ : D.Ins), (⟨1, 2, 1, 0⟩ : D.Ins), (⟨4, 3, 3, 2⟩ : D.Ins)] : List D.Ins)) ++ ([(⟨11, 0, (((xs42 ++ ([(⟨8, 3, 0, 0⟩ : D.Ins)] : List D.Ins))).length : Int), 0⟩ : D.Ins)] : List D.Ins)) ((((xs42 ++ ([(⟨8, 3, 0, 0⟩ : D.Ins)] : List D.Ins))).length : Int).toNat) (⟨(rd ((((xs42 ++ ([(⟨8, 3, 0, 0⟩ : D.Ins)] : List D.Ins)) ++ ([(⟨10, 3, 0, 0⟩ : D.Ins)] : List D.Ins)) ++ ([(⟨3, 0, 0, 1⟩ : D.Ins), (⟨1, 2, 1, 0⟩ : D.Ins), (⟨4, 3, 3, 2⟩ : D.Ins)] : List D.Ins)) ++ ([(⟨11, 0, (((xs42 ++ ([(⟨8, 3, 0, 0⟩ : D.Ins)] : List D.Ins))).length : Int), 0⟩ : D.Ins)] : List D.Ins)) (((xs42 ++ ([(⟨8, 3, 0, 0⟩ : D.Ins)] : List D.Ins))).length : Int)).Op, (rd ((((xs42 ++ ([(⟨8, 3, 0, 0⟩ : D.Ins)] : List D.Ins)) ++ ([(⟨10, 3, 0, 0⟩ : D.Ins)] : List D.Ins)) ++ ([(⟨3, 0, 0, 1⟩ : D.Ins), (⟨1, 2, 1, 0⟩ : D.Ins), (⟨4, 3, 3, 2⟩ : D.Ins)] : List D.Ins)) ++ ([(⟨11, 0, (((xs42 ++ ([(⟨8, 3, 0, 0⟩ : D.Ins)] : List D.Ins))).length : Int), 0⟩ : D.Ins)] : List D.Ins)) (((xs42 ++ ([(⟨8, 3, 0, 0⟩ : D.Ins)] : List D.Ins))).length : Int)).A, ((((((xs42 ++ ([(⟨8, 3, 0, 0⟩ : D.Ins)] : List D.Ins)) ++ ([(⟨10, 3, 0, 0⟩ : D.Ins)] : List D.Ins)) ++ ([(⟨3, 0, 0, 1⟩ : D.Ins), (⟨1, 2, 1, 0⟩ : D.Ins), (⟨4, 3, 3, 2⟩ : D.Ins)] : List D.Ins)) ++ ([(⟨11, 0, (((xs42 ++ ([(⟨8, 3, 0, 0⟩ : D.Ins)] : List D.Ins))).length : Int), 0⟩ : D.Ins)] : List D.Ins))).length : Int), (rd ((((xs42 ++ ([(⟨8, 3, 0, 0⟩ : D.Ins)] : List D.Ins)) ++ ([(⟨10, 3, 0, 0⟩ : D.Ins)] : List D.Ins)) ++ ([(⟨3, 0, 0, 1⟩ : D.Ins), (⟨1, 2, 1, 0⟩ : D.Ins), (⟨4, 3, 3, 2⟩ : D.Ins)] : List D.Ins)) ++ ([(⟨11, 0, (((xs42 ++ ([(⟨8, 3, 0, 0⟩ : D.Ins)] : List D.Ins))).length : Int), 0⟩ : D.Ins)] : List D.Ins)) (((xs42 ++ ([(⟨8, 3, 0, 0⟩ : D.Ins)] : List D.Ins))).length : Int)).C⟩ : D.Ins)), (wrap .i64 (i45 - 1)), r53.2.i, r53.2.h, ()))))))))) ((M.qeQ (⟨s0.b, r53.2.i, r53.2.h⟩ : D.Cur) ∧ ∀ r189, r189 = M.qaA (⟨s0.b, r53.2.i, r53.2.h⟩ : D.Cur) → ((xs42.length + ([r189.1] : List D.Ins).length ≤ 17179869184) ∧ next51 ((xs42 ++ ([r189.1] : List D.Ins)), (wrap .i64 (i45 - 1)), r189.2.i, r189.2.h, ()))))))) (Q (xs42, (⟨s0.b, i46, i47⟩ : D.Cur)))) (Q (xs42, (⟨s0.b, i46, i47⟩ : D.Cur)))) (xs1, r21.1, r21.2.i, r21.2.h, ()))
end Go.V
namespace Go.V
open IntKind (wrap)
def qiL (i : D.Ins) : Bool := M.isIn i.Op 1 9 && M.qdw i 32
inductive Seg : Nat → List D.Ins → Prop
 | nil (b : Nat) : Seg b []
 | cat {b : Nat} {s t : List D.Ins} : Seg b s → Seg (b + s.length) t → Seg b (s ++ t)
 | one {b : Nat} {i : D.Ins} : qiL i = true → Seg b [i]
 | thn {b : Nat} {r : Int} {s : List D.Ins} : 0 ≤ r → r ≤ 3 → Seg (b + 1) s → Seg b (⟨10, r, ((b + 1 + s.length : Nat) : Int), 0⟩ :: s)
 | els {b : Nat} {r : Int} {s t : List D.Ins} : 0 ≤ r → r ≤ 3 → Seg (b + 1) s → Seg (b + 2 + s.length) t → Seg b (⟨10, r, ((b + 2 + s.length : Nat) : Int), 0⟩ :: (s ++ ⟨11, 0, ((b + 2 + s.length + t.length : Nat) : Int), 0⟩ :: t))
 | loop {b : Nat} : b ≤ 14 → Seg b [⟨8, 3, 0, 0⟩, ⟨10, 3, ((b + 6 : Nat) : Int), 0⟩, ⟨3, 0, 0, 1⟩, ⟨1, 2, 1, 0⟩, ⟨4, 3, 3, 2⟩, ⟨11, 0, ((b + 1 : Nat) : Int), 0⟩]
theorem qn4 {i : D.Ins} (h : qiL i = true) {n : Int} (hn : 0 ≤ n ∧ n ≤ 32) : M.qdw i n = true ∧ M.qcM i = true := by
 unfold qiL at h
 rw [Bool.and_eq_true] at h
 obtain ⟨h1, h2⟩ := h
 have h1' := h1
 simp only [M.isIn, Bool.and_eq_true, decide_eq_true_eq] at h1'
 refine ⟨?_, by simp only [M.qcM, M.isIn, Bool.and_eq_true, decide_eq_true_eq]; omega⟩
 have e : M.isIn n 0 32 = true := by simp only [M.isIn, Bool.and_eq_true, decide_eq_true_eq]; omega
 have e32 : M.isIn 32 0 32 = true := by decide
 unfold M.qdw at h2 ⊢
 rw [e, Bool.true_and]
 rw [e32, Bool.true_and] at h2
 rw [if_neg (by omega : ¬ i.Op = 10), if_neg (by omega : ¬ i.Op = 11)] at h2 ⊢
 exact h2
theorem qoC {b : Nat} {s : List D.Ins} (h : Seg b s) : ∀ n : Nat, b + s.length ≤ n → n ≤ 32 → ∀ i ∈ s, M.qdw i (n : Int) = true ∧ M.qcM i = true := by
 have br : ∀ (n : Nat) (r : Int) (t : Nat), 0 ≤ r → r ≤ 3 → t ≤ n → n ≤ 32 → M.qdw ⟨10, r, ((t : Nat) : Int), 0⟩ (n : Int) = true ∧ M.qcM ⟨10, r, ((t : Nat) : Int), 0⟩ = true := fun n r t h0 h1 h2 h3 => by
  refine ⟨?_, rfl⟩
  simp only [M.qdw, M.qgB, M.isIn, Bool.and_eq_true, decide_eq_true_eq]
  simp
  omega
 have jm : ∀ (n t : Nat), t ≤ n → n ≤ 32 → M.qdw ⟨11, 0, ((t : Nat) : Int), 0⟩ (n : Int) = true ∧ M.qcM ⟨11, 0, ((t : Nat) : Int), 0⟩ = true := fun n t h2 h3 => by
  refine ⟨?_, rfl⟩
  simp only [M.qdw, M.qgB, M.isIn, Bool.and_eq_true, decide_eq_true_eq]
  simp
  omega
 have pl : ∀ (n : Nat) (i : D.Ins), qiL i = true → n ≤ 32 → M.qdw i (n : Int) = true ∧ M.qcM i = true := fun n i hi hn => qn4 hi ⟨by omega, by omega⟩
 induction h with
 | nil b => intro n _ _ i hi; simp at hi
 | cat _ _ ih1 ih2 =>
  intro n hn h32 i hi
  rw [List.length_append] at hn
  rcases List.mem_append.1 hi with hi | hi
  ·exact ih1 n (by omega) h32 i hi
  ·exact ih2 n (by omega) h32 i hi
 | one hp => intro n hn h32 i hi; rw [List.mem_singleton] at hi; subst hi; exact pl n _ hp h32
 | thn h0 h3 _ ih =>
  intro n hn h32 i hi
  rw [List.length_cons] at hn
  rcases List.mem_cons.1 hi with hi | hi
  ·subst hi; exact br n _ _ h0 h3 (by omega) h32
  ·exact ih n (by omega) h32 i hi
 | els h0 h3 _ _ ih1 ih2 =>
  intro n hn h32 i hi
  rw [List.length_cons, List.length_append, List.length_cons] at hn
  rcases List.mem_cons.1 hi with hi | hi
  ·subst hi; exact br n _ _ h0 h3 (by omega) h32
  rcases List.mem_append.1 hi with hi | hi
  ·exact ih1 n (by omega) h32 i hi
  rcases List.mem_cons.1 hi with hi | hi
  ·subst hi; exact jm n _ (by omega) h32
  ·exact ih2 n (by omega) h32 i hi
 | loop hb =>
  intro n hn h32 i hi
  simp only [List.length_cons, List.length_nil] at hn
  simp only [List.mem_cons, List.not_mem_nil, or_false] at hi
  rcases hi with hi | hi | hi | hi | hi | hi <;> subst hi
  ·exact pl n _ rfl h32
  ·exact br n _ _ (by omega) (by omega) (by omega) h32
  ·exact pl n _ rfl h32
  ·exact pl n _ rfl h32
  ·exact pl n _ rfl h32
  ·exact jm n _ (by omega) h32
theorem qiT (c : D.Cur) : qiL (M.qaA c).1 = true := by
 unfold qiL
 rw [(qmE c (n := 32) ⟨by omega, by omega⟩).1, Bool.and_true]
 have h := qcZ c (n := 9) (by omega)
 have e : wrap .i64 (1 + (M.qa0 c 9).1) = 1 + (M.qa0 c 9).1 := w64 (by omega) (by omega)
 have : (M.qaA c).1.Op = 1 + (M.qa0 c 9).1 := by
  unfold M.qaA
  simp only
  rw [e]
  split
  ·rfl
  split
  ·rfl
  split <;> rfl
 rw [this]
 simp only [M.isIn, Bool.and_eq_true, decide_eq_true_eq]
 omega
theorem qlX (c : D.Cur) (n : Int) : (M.once c n).2.b = c.b := qbW c n
theorem qkn {c : D.Cur} (h : M.qdz c) (n : Int) : M.qdz (M.once c n).2 := qbj h n
theorem qox {p s : List D.Ins} {x y : D.Ins} : (p ++ x :: s).set p.length y = p ++ y :: s := by
 rw [List.set_append_right _ _ (Nat.le_refl _), Nat.sub_self]; rfl
theorem qkg {p s : List D.Ins} {x : D.Ins} {k : Nat} (hk : p.length = k) (v : Int) : M.setB (p ++ x :: s) k v = p ++ ⟨x.Op, x.A, v, x.C⟩ :: s := by
 subst hk
 unfold M.setB
 rw [qoG rfl, qox]
def qkK (L : Nat) (rec : D.Cur → List D.Ins → List D.Ins × D.Cur) : Prop :=
 ∀ (c : D.Cur) (p : List D.Ins), M.qdz c → M.qdz (rec c p).2 ∧ (rec c p).2.b = c.b ∧ ∃ s, (rec c p).1 = p ++ s ∧ Seg p.length s ∧ p.length + s.length ≤ max p.length L
theorem qkq (p : List D.Ins) : M.qi6 p = p ++ [⟨8, 3, 0, 0⟩, ⟨10, 3, ((p.length + 6 : Nat) : Int), 0⟩, ⟨3, 0, 0, 1⟩, ⟨1, 2, 1, 0⟩, ⟨4, 3, 3, 2⟩, ⟨11, 0, ((p.length + 1 : Nat) : Int), 0⟩] := by
 have e : M.qjv p = (p ++ [⟨8, 3, 0, 0⟩]) ++ (⟨10, 3, 0, 0⟩ : D.Ins) :: [⟨3, 0, 0, 1⟩, ⟨1, 2, 1, 0⟩, ⟨4, 3, 3, 2⟩, ⟨11, 0, ((p.length + 1 : Nat) : Int), 0⟩] := by
  unfold M.qjv M.qi7; simp
 have l1 : (M.qi7 p).length = (p ++ [(⟨8, 3, 0, 0⟩ : D.Ins)]).length := rfl
 have l2 : (M.qjv p).length = p.length + 6 := by rw [e]; simp
 unfold M.qi6
 rw [l2, e, qkg l1.symm]
 simp
theorem qms {L : Nat} {rec : D.Cur → List D.Ins → List D.Ins × D.Cur} (hr : qkK L rec) (hL : 20 ≤ L) {c : D.Cur} (hc : M.qdz c) {p : List D.Ins} (hp : p.length < 20) :
    M.qdz (M.ifIn rec c p).2 ∧ (M.ifIn rec c p).2.b = c.b ∧ ∃ s, (M.ifIn rec c p).1 = p ++ s ∧ Seg p.length s ∧ p.length + s.length ≤ L + 1 := by
 have hreg := qcZ c (n := 4) (by omega)
 have c1 := qbj hc 4
 have b1 := qbW c 4
 obtain ⟨c2, b2, s1, e1, g1, n1⟩ := hr (M.qa0 c 4).2 (p ++ [⟨10, (M.qa0 c 4).1, 0, 0⟩]) c1
 have hb1 : M.qd4 rec c p = rec (M.qa0 c 4).2 (p ++ [⟨10, (M.qa0 c 4).1, 0, 0⟩]) := rfl
 rw [← hb1] at c2 b2 e1
 rw [List.length_append, List.length_singleton] at g1 n1
 have e1' : (M.qd4 rec c p).1 = p ++ ⟨10, (M.qa0 c 4).1, 0, 0⟩ :: s1 := by rw [e1]; simp
 have l1 : (M.qd4 rec c p).1.length = p.length + 1 + s1.length := by rw [e1']; simp; omega
 have c3 := qkn c2 2
 have b3 := qlX (M.qd4 rec c p).2 2
 unfold M.ifIn
 split
 ·refine ⟨c3, by rw [b3, b2, b1], _, ?_, Seg.thn (r := (M.qa0 c 4).1) (by omega) (by omega) g1, ?_⟩
  ·show M.setB _ _ _ = _
   rw [l1, e1', qkg rfl]
  ·rw [List.length_cons]; omega
 ·have e2 : M.setB ((M.qd4 rec c p).1 ++ [⟨11, 0, 0, 0⟩]) p.length (((M.qd4 rec c p).1 ++ [(⟨11, 0, 0, 0⟩ : D.Ins)]).length : Int) = p ++ ⟨10, (M.qa0 c 4).1, ((p.length + 2 + s1.length : Nat) : Int), 0⟩ :: (s1 ++ [⟨11, 0, 0, 0⟩]) := by
    rw [List.length_append, List.length_singleton, l1, e1', List.append_assoc, List.cons_append, qkg rfl]
    congr 4
    omega
  obtain ⟨c4, b4, s2, e3, g2, n2⟩ := hr (M.once (M.qd4 rec c p).2 2).2 (p ++ ⟨10, (M.qa0 c 4).1, ((p.length + 2 + s1.length : Nat) : Int), 0⟩ :: (s1 ++ [⟨11, 0, 0, 0⟩])) c3
  have hb2 : M.qht rec (M.once (M.qd4 rec c p).2 2).2 p (M.qd4 rec c p).1 = rec (M.once (M.qd4 rec c p).2 2).2 (p ++ ⟨10, (M.qa0 c 4).1, ((p.length + 2 + s1.length : Nat) : Int), 0⟩ :: (s1 ++ [⟨11, 0, 0, 0⟩])) := by
   unfold M.qht; rw [e2]
  rw [← hb2] at c4 b4 e3
  have lq : (p ++ ⟨10, (M.qa0 c 4).1, ((p.length + 2 + s1.length : Nat) : Int), 0⟩ :: (s1 ++ [(⟨11, 0, 0, 0⟩ : D.Ins)])).length = p.length + 2 + s1.length := by simp; omega
  rw [lq] at g2 n2
  have e3' : (M.qht rec (M.once (M.qd4 rec c p).2 2).2 p (M.qd4 rec c p).1).1 = (p ++ ⟨10, (M.qa0 c 4).1, ((p.length + 2 + s1.length : Nat) : Int), 0⟩ :: s1) ++ ⟨11, 0, 0, 0⟩ :: s2 := by rw [e3]; simp
  have l3 : (M.qht rec (M.once (M.qd4 rec c p).2 2).2 p (M.qd4 rec c p).1).1.length = p.length + 2 + s1.length + s2.length := by rw [e3']; simp; omega
  refine ⟨c4, by rw [b4, b3, b2, b1], _, ?_, Seg.els (r := (M.qa0 c 4).1) (by omega) (by omega) g1 g2, ?_⟩
  ·show M.setB _ _ _ = _
   rw [l3, l1, e3', qkg (by simp; omega)]
   simp
  ·rw [List.length_cons, List.length_append, List.length_cons]; omega
theorem qlg {L : Nat} {rec : D.Cur → List D.Ins → List D.Ins × D.Cur} (hr : qkK L rec) (hL : 20 ≤ L) (deep : Bool) {c : D.Cur} (hc : M.qdz c) {p : List D.Ins} (hp : p.length < 20) :
    M.qdz (M.qeI rec deep c p).2 ∧ (M.qeI rec deep c p).2.b = c.b ∧ ∃ s, (M.qeI rec deep c p).1 = p ++ s ∧ Seg p.length s ∧ p.length + s.length ≤ if deep then L + 1 else 20 := by
 have c1 := qbj hc 5
 have b1 := qbW c 5
 obtain ⟨B, hB, hB1, hB2⟩ : ∃ B, (if deep then L + 1 else 20) = B ∧ 20 ≤ B ∧ (deep = true → B = L + 1) := ⟨_, rfl, by split <;> omega, fun h => if_pos h⟩
 rw [hB]
 have same : M.qdz (M.qa0 c 5).2 ∧ (M.qa0 c 5).2.b = c.b ∧ ∃ s, p = p ++ s ∧ Seg p.length s ∧ p.length + s.length ≤ B :=
  ⟨c1, b1, [], by simp, Seg.nil _, by simp only [List.length_nil]; omega⟩
 unfold M.qeI
 split
 ·split
  ·rename_i hd
   obtain ⟨g1, g2, s, g3, g4, g5⟩ := qms hr hL c1 hp
   exact ⟨g1, by rw [g2, b1], s, g3, g4, by rw [hB2 hd]; exact g5⟩
  ·exact same
 split
 ·split
  ·rename_i hd
   refine ⟨c1, b1, _, qkq p, Seg.loop (by omega), ?_⟩
   have := hB2 hd.1
   simp only [List.length_cons, List.length_nil]
   omega
  ·exact same
 ·refine ⟨qlV c1, by rw [qnd, b1], _, rfl, Seg.one (qiT _), ?_⟩
  simp only [List.length_cons, List.length_nil]
  omega
theorem qi4 {L : Nat} {rec : D.Cur → List D.Ins → List D.Ins × D.Cur} (hr : qkK L rec) (hL : 20 ≤ L) (deep : Bool) : ∀ n, qkK (if deep then L + 1 else 20) (M.qiX rec deep n)
 | 0, c, p, hc => ⟨hc, rfl, [], by simp [M.qiX], Seg.nil _, by simp only [List.length_nil]; omega⟩
 | n + 1, c, p, hc => by
  rw [M.qiX]
  split
  ·rename_i hp
   obtain ⟨g1, g2, s, g3, g4, g5⟩ := qlg hr hL deep hc (p := p) (by omega)
   obtain ⟨k1, k2, t, k3, k4, k5⟩ := qi4 hr hL deep n (M.qeI rec deep c p).2 (M.qeI rec deep c p).1 g1
   rw [g3, List.length_append] at k4 k5
   refine ⟨k1, by rw [k2, g2], s ++ t, by rw [k3, g3, List.append_assoc], Seg.cat g4 k4, ?_⟩
   rw [List.length_append]
   have : p.length ≤ if deep = true then L + 1 else 20 := by split <;> omega
   omega
  ·exact ⟨hc, rfl, [], by simp, Seg.nil _, by simp only [List.length_nil]; omega⟩
theorem qmq {L K : Nat} {rec : D.Cur → List D.Ins → List D.Ins × D.Cur} (h : qkK L rec) (hk : L ≤ K) : qkK K rec := fun c p hc => by
 obtain ⟨g1, g2, s, g3, g4, g5⟩ := h c p hc
 exact ⟨g1, g2, s, g3, g4, by omega⟩
theorem qm1 : qkK 20 (fun c p => (p, c)) := fun c p hc => ⟨hc, rfl, [], by simp, Seg.nil _, by simp only [List.length_nil]; omega⟩
theorem qha : ∀ d, qkK (20 + d) (M.body d)
 | 0, c, p, hc => by
  obtain ⟨g1, g2, r⟩ := qi4 qm1 (Nat.le_refl _) false (M.qa0 c 4).1.toNat (M.qa0 c 4).2 p (qbj hc 4)
  exact ⟨g1, g2.trans (qbW c 4), r⟩
 | d + 1, c, p, hc => by
  obtain ⟨g1, g2, r⟩ := qi4 (qha d) (by omega) true (M.qa0 c 4).1.toNat (M.qa0 c 4).2 p (qbj hc 4)
  exact ⟨g1, g2.trans (qbW c 4), r⟩
end Go.V
namespace Go.V
open IntKind (wrap)
theorem qmn {p : List D.Ins} {x : D.Warp} (h : M.Fine p x) : x.Frames.length ≤ 24 ∧ x.Regs.length = 32 := by
 have hw := h.2
 simp only [M.qfN, M.qe5, Bool.and_eq_true, Bool.or_eq_true, beq_iff_eq] at hw
 obtain ⟨h1, h2, h3, h4, h5⟩ := hw
 refine ⟨?_, h2⟩
 rcases h5 with h5 | h5
 ·have : x.Frames = [] := by simpa using h5
  rw [this]; simp
 ·simp only [M.qia, Bool.and_eq_true, decide_eq_true_eq] at h5
  exact h5.1
end Go.V
namespace Go.V
open IntKind (wrap)
theorem wp.qcN.math (c : D.Cur) (n : Int) (h : M.qfb c n) : wp.qcN c n (fun r => r = M.qcN c n) := by
 refine ⟨h, fun r hr => ?_⟩
 rw [hr, qbX (qbW c n)]; rfl
theorem qaT.dec {c : D.Cur} {p : List D.Ins} {x : Int} (h : M.qdS c p x) (e : (x == 0) = false) : (wrap .i64 (x - 1)).toNat < x.toNat := by
 obtain ⟨_, _, h3, h4⟩ := h
 have e : x ≠ 0 := by simpa using e
 rw [w64 (by omega) (by omega)]; omega
def itB (rec : D.Cur → List D.Ins → List D.Ins × D.Cur) (deep : Bool) : Nat → D.Cur → List D.Ins → List D.Ins × D.Cur
 | 0, c, p => (p, c)
 | k + 1, c, p => M.qeI rec deep (itB rec deep k c p).2 (itB rec deep k c p).1
def qh9 : Nat → D.Cur → List D.Ins → List D.Ins × D.Cur
 | 0 => fun c p => (p, c)
 | d + 1 => M.body d
def qeX : Nat → Bool
 | 0 => false
 | _ + 1 => true
theorem qo5 (d : Nat) (c : D.Cur) (p : List D.Ins) : M.body d c p = M.qiX (qh9 d) (qeX d) (M.qa0 c 4).1.toNat (M.qa0 c 4).2 p := by cases d <;> rfl
theorem qlA : ∀ d, qkK (20 + d) (qh9 d)
 | 0 => qm1
 | d + 1 => qmq (qha d) (by omega)
theorem wp.qaT.math (c : D.Cur) (p : List D.Ins) (x : Int) (h : M.qdS c p x) : wp.qaT c p x (fun r => r = M.qaT c p x) := by
 obtain ⟨h1, h2, h3, h4⟩ := h
 obtain ⟨d, rfl⟩ := Int.eq_ofNat_of_zero_le h3
 unfold wp.qaT
 refine ⟨h1, fun r0 g0 => ?_⟩
 subst g0
 have hb := qcZ c (n := 4) (by omega)
 have hc0 := qbj h1 4
 have hb0 := qbW c 4
 have eM : M.qaT c p (d : Int) = M.qiX (qh9 d) (qeX d) (M.qa0 c 4).1.toNat (M.qa0 c 4).2 p := by
  unfold M.qaT
  rw [Int.toNat_natCast, qo5]
 rw [eM]
 obtain ⟨n, hn⟩ := Int.eq_ofNat_of_zero_le hb.1
 generalize (M.qa0 c 4).2 = c0 at *
 rw [hn] at hb ⊢
 rw [Int.toNat_natCast]
 refine qd9 n (fun k => ((itB (qh9 d) (qeX d) k c0 p).1, ((n : Int) - (k : Int)), (itB (qh9 d) (qeX d) k c0 p).2.i, (itB (qh9 d) (qeX d) k c0 p).2.h, ()))
  (fun k => M.qdz (itB (qh9 d) (qeX d) k c0 p).2 ∧ (itB (qh9 d) (qeX d) k c0 p).2.b = c.b ∧ (k ≤ n → M.qiX (qh9 d) (qeX d) n c0 p = M.qiX (qh9 d) (qeX d) (n - k) (itB (qh9 d) (qeX d) k c0 p).2 (itB (qh9 d) (qeX d) k c0 p).1))
  (by simp [itB]) ⟨hc0, hb0, fun _ => rfl⟩ (fun k hk hF next hnx => ?_) fun hF next => ?_
 ·obtain ⟨f1, f2, f3⟩ := hF
  have f3 := f3 (by omega)
  have it : itB (qh9 d) (qeX d) (k + 1) c0 p = M.qeI (qh9 d) (qeX d) (itB (qh9 d) (qeX d) k c0 p).2 (itB (qh9 d) (qeX d) k c0 p).1 := rfl
  rw [it] at hnx
  generalize itB (qh9 d) (qeX d) k c0 p = y at *
  obtain ⟨q, e⟩ := y
  dsimp only at *
  refine qaE (by simp; omega) (qa3 (fun g => ?_) fun g => ?_)
  ·have g : (q.length : Int) < 20 := by simpa using g
   obtain ⟨k1, k2, s, k3, k4, k5⟩ := qlg (qlA d) (by omega) (qeX d) f1 (p := q) (by omega)
   have ew : wrap .i64 ((n : Int) - (k : Int) - 1) = (n : Int) - ((k + 1 : Nat) : Int) := by rw [w64 (by omega) (by omega)]; omega
   have fin : ∀ P c', M.qeI (qh9 d) (qeX d) e q = (P, c') → next (P, wrap .i64 ((n : Int) - (k : Int) - 1), c'.i, c'.h, ()) := fun P c' hE => by
    rw [ew]
    have := hnx ⟨k1, k2.trans f2, fun _ => ?_⟩
    ·rw [hE] at this; exact this
    ·rw [f3, show n - k = (n - (k + 1)) + 1 by omega, M.qiX, if_pos g]
   rw [qbX f2]
   refine ⟨f1, fun r5 g5 => ?_⟩
   subst g5
   have c5 := qbj f1 5
   have b5 : (M.qa0 e 5).2.b = c.b := (qbW e 5).trans f2
   rw [qbX b5]
   have hb5 := qcZ e (n := 5) (by omega)
   refine qa3 (fun e0 => ?_) fun e0 => qa3 (fun e1 => ?_) fun e1 => ?_
   ·have e0 : (M.qa0 e 5).1 = 0 := by simpa using e0
    cases d with
    | zero =>
     refine qaE rfl (fin _ _ ?_)
     unfold M.qeI
     rw [if_pos e0]; rfl
    | succ d =>
     refine qaC (by simp; omega) ?_
     have hM : M.qeI (qh9 (d + 1)) (qeX (d + 1)) e q = M.ifIn (M.body d) (M.qa0 e 5).2 q := by
      unfold M.qeI
      rw [if_pos e0]; rfl
     rw [hM] at fin
     generalize (M.qa0 e 5).2 = e5 at *
     refine ⟨c5, fun r6 g6 => ?_⟩
     subst g6
     have c6 := qbj c5 4
     have b6 : (M.qa0 e5 4).2.b = c.b := (qbW e5 4).trans b5
     have ed : wrap .i64 (((d + 1 : Nat) : Int) - 1) = (d : Int) := by rw [w64 (by omega) (by omega)]; omega
     have hbody : ∀ c p, M.qaT c p (d : Int) = M.body d c p := fun c p => by unfold M.qaT; rw [Int.toNat_natCast]
     simp only [qbX b6, ed, hbody]
     obtain ⟨i1, i2, s1, i3, i4, i5⟩ := qha d (M.qa0 e5 4).2 (q ++ [⟨10, (M.qa0 e5 4).1, 0, 0⟩]) c6
     rw [List.length_append, List.length_singleton] at i5
     refine ⟨by simp; omega, ⟨c6, by simp; omega, by omega, by omega⟩, fun r7 g7 => ?_⟩
     have hbr : M.qd4 (M.body d) e5 q = M.body d (M.qa0 e5 4).2 (q ++ [⟨10, (M.qa0 e5 4).1, 0, 0⟩]) := rfl
     rw [← g7] at hbr i1 i2 i3
     have hE : M.ifIn (M.body d) e5 q = if (M.once r7.2 2).1 then (M.setB r7.1 q.length (r7.1.length : Int), (M.once r7.2 2).2)
         else (M.setB (M.qht (M.body d) (M.once r7.2 2).2 q r7.1).1 r7.1.length ((M.qht (M.body d) (M.once r7.2 2).2 q r7.1).1.length : Int), (M.qht (M.body d) (M.once r7.2 2).2 q r7.1).2) := by
      unfold M.ifIn; rw [hbr]
     rw [hE] at fin
     have b7 : r7.2.b = c.b := i2.trans b6
     have l7 : r7.1.length = q.length + 1 + s1.length := by rw [i3]; simp; omega
     rw [qbX b7]
     refine ⟨i1, fun r8 g8 => ?_⟩
     have g8 : r8 = M.once r7.2 2 := g8
     rw [← g8] at fin
     have c8 : M.qdz r8.2 := by rw [g8]; exact qkn i1 2
     have b8 : r8.2.b = c.b := by rw [g8]; exact (qlX _ _).trans b7
     refine qa3 (fun t => ⟨by omega, ?_⟩) fun t => ⟨by simp; omega, by simp; omega, ?_⟩
     ·refine fin _ _ ?_
      rw [if_pos t, Int.toNat_natCast]; rfl
     ·rw [if_neg (by rw [t]; simp)] at fin
      simp only [qbX b8]
      have hel : M.qht (M.body d) r8.2 q r7.1 = M.body d r8.2 (List.set (r7.1 ++ [(⟨11, 0, 0, 0⟩ : D.Ins)]) ((q.length : Int).toNat) (⟨(rd (r7.1 ++ [(⟨11, 0, 0, 0⟩ : D.Ins)]) (q.length : Int)).Op, (rd (r7.1 ++ [(⟨11, 0, 0, 0⟩ : D.Ins)]) (q.length : Int)).A, ((r7.1 ++ [(⟨11, 0, 0, 0⟩ : D.Ins)]).length : Int), (rd (r7.1 ++ [(⟨11, 0, 0, 0⟩ : D.Ins)]) (q.length : Int)).C⟩ : D.Ins)) := by
       rw [Int.toNat_natCast]; rfl
      obtain ⟨j1, j2, s2, j3, j4, j5⟩ := qha d r8.2 (List.set (r7.1 ++ [(⟨11, 0, 0, 0⟩ : D.Ins)]) ((q.length : Int).toNat) (⟨(rd (r7.1 ++ [(⟨11, 0, 0, 0⟩ : D.Ins)]) (q.length : Int)).Op, (rd (r7.1 ++ [(⟨11, 0, 0, 0⟩ : D.Ins)]) (q.length : Int)).A, ((r7.1 ++ [(⟨11, 0, 0, 0⟩ : D.Ins)]).length : Int), (rd (r7.1 ++ [(⟨11, 0, 0, 0⟩ : D.Ins)]) (q.length : Int)).C⟩ : D.Ins)) c8
      refine ⟨⟨c8, by simp; omega, by omega, by omega⟩, fun r9 g9 => ?_⟩
      rw [← hel] at g9 j3
      rw [← g9] at fin j3
      refine ⟨?_, ?_⟩
      ·have : r9.1.length = r7.1.length + 1 + s2.length := by rw [j3, List.length_append, List.length_set, List.length_append]; rfl
       omega
      ·refine fin _ _ ?_
       rw [Int.toNat_natCast]; rfl
   ·have e0 : ¬ (M.qa0 e 5).1 = 0 := by simpa using e0
    have e1 : (M.qa0 e 5).1 = 1 := by simpa using e1
    have hM : M.qeI (qh9 d) (qeX d) e q = if qeX d ∧ ¬ (q.length : Int) > 14 then (M.qi6 q, (M.qa0 e 5).2) else (q, (M.qa0 e 5).2) := by
     unfold M.qeI
     rw [if_neg e0, if_pos e1]
    rw [hM] at fin
    cases d with
    | zero =>
     refine qaE rfl (fin _ _ ?_)
     rw [if_neg (by simp [qeX])]
    | succ d =>
     refine qaC (by simp; omega) (qa3 (fun g14 => fin _ _ ?_) fun g14 => ?_)
     ·have g14 : (q.length : Int) > 14 := by simpa using g14
      rw [if_neg (by simp only [not_and, Int.not_lt]; omega)]
     ·have g14 : ¬ (q.length : Int) > 14 := by simpa using g14
      refine ⟨by simp; omega, by simp; omega, by simp; omega, by simp; omega, by simp; omega, fin _ _ ?_⟩
      rw [if_pos ⟨rfl, g14⟩, Int.toNat_natCast]; rfl
   ·have e0 : ¬ (M.qa0 e 5).1 = 0 := by simpa using e0
    have e1 : ¬ (M.qa0 e 5).1 = 1 := by simpa using e1
    refine ⟨c5, fun r6 g6 => ⟨by simp; omega, fin _ _ ?_⟩⟩
    unfold M.qeI
    rw [if_neg e0, if_neg e1, g6]
  ·have g : ¬ (q.length : Int) < 20 := by simpa using g
   rw [f3, show n - k = (n - (k + 1)) + 1 by omega, M.qiX, if_neg g, qbX f2]
 ·obtain ⟨f1, f2, f3⟩ := hF
  refine qaC (by simp) ?_
  rw [f3 (Nat.le_refl _), Nat.sub_self, qbX f2]; rfl
end Go.V
namespace Go.V
open IntKind (wrap)
def memI (i : D.Ins) : Bool := M.isIn i.Op 13 16 && M.qdw i 32
inductive MSeg : Nat → List D.Ins → Prop
 | nil (b : Nat) : MSeg b []
 | cat {b : Nat} {s t : List D.Ins} : MSeg b s → MSeg (b + s.length) t → MSeg b (s ++ t)
 | seg {b : Nat} {s : List D.Ins} : Seg b s → MSeg b s
 | mem {b : Nat} {i : D.Ins} : memI i = true → MSeg b [i]
theorem qor {i : D.Ins} (h : memI i = true) {n : Int} (hn : 0 ≤ n ∧ n ≤ 32) : M.qdw i n = true := by
 unfold memI at h
 rw [Bool.and_eq_true] at h
 obtain ⟨h1, h2⟩ := h
 simp only [M.isIn, Bool.and_eq_true, decide_eq_true_eq] at h1
 have e : M.isIn n 0 32 = true := by simp only [M.isIn, Bool.and_eq_true, decide_eq_true_eq]; omega
 have e32 : M.isIn 32 0 32 = true := by decide
 unfold M.qdw at h2 ⊢
 rw [e, Bool.true_and]
 rw [e32, Bool.true_and] at h2
 rw [if_neg (by omega : ¬ i.Op = 10), if_neg (by omega : ¬ i.Op = 11)] at h2 ⊢
 exact h2
theorem qod {b : Nat} {s : List D.Ins} (h : MSeg b s) : ∀ n : Nat, b + s.length ≤ n → n ≤ 32 → ∀ i ∈ s, M.qdw i (n : Int) = true := by
 induction h with
 | nil b => intro n _ _ i hi; simp at hi
 | cat _ _ ih1 ih2 =>
  intro n hn h32 i hi
  rw [List.length_append] at hn
  rcases List.mem_append.1 hi with hi | hi
  ·exact ih1 n (by omega) h32 i hi
  ·exact ih2 n (by omega) h32 i hi
 | seg hs => intro n hn h32 i hi; exact (qoC hs n hn h32 i hi).1
 | mem hm => intro n hn h32 i hi; rw [List.mem_singleton] at hi; subst hi; exact qor hm ⟨by omega, by omega⟩
theorem qm0 (c : D.Cur) {l : List Int} (h : l ≠ []) : (M.qau c l).1 ∈ l := by
 have hpos : (0 : Int) < (l.length : Int) := by have := List.length_pos_iff.2 h; omega
 have := qcZ c hpos
 exact qjR this.1 this.2
theorem qnZ (c : D.Cur) : memI (M.qbJ c).1 = true := by
 have h1 := qm0 c (l := [13, 14, 15]) (by simp)
 have h2 := qcZ (M.qau c [13, 14, 15]).2 (n := 4) (by omega)
 have h3 := qcZ (M.qa0 (M.qau c [13, 14, 15]).2 4).2 (n := 4) (by omega)
 unfold M.qbJ
 simp only [List.mem_cons, List.not_mem_nil, or_false] at h1
 simp only [memI, M.qdw, M.qgB, M.isIn, Bool.and_eq_true, decide_eq_true_eq]
 rcases h1 with h1 | h1 | h1 <;> (rw [h1]; simp; omega)
theorem qkN {a x : Int} (ha : 0 ≤ a ∧ a ≤ 3) (hx : 0 ≤ x ∧ x ≤ 65535) : qiL ⟨1, a, x, 0⟩ = true := by
 simp only [qiL, M.qdw, M.qgB, M.isWord, M.isIn, Bool.and_eq_true, decide_eq_true_eq]
 simp
 omega
theorem qn7 {op a x : Int} (ho : op = 13 ∨ op = 14 ∨ op = 15) (ha : 0 ≤ a ∧ a ≤ 3) (hx : 0 ≤ x ∧ x ≤ 3) : memI ⟨op, a, x, 0⟩ = true := by
 simp only [memI, M.qdw, M.qgB, M.isIn, Bool.and_eq_true, decide_eq_true_eq]
 rcases ho with rfl | rfl | rfl <;> (simp; omega)
theorem qib {c : D.Cur} (hc : M.qdz c) {p : List D.Ins} (hp : p.length ≤ 28) : M.qdz (M.qgv c p).2 ∧ (M.qgv c p).2.b = c.b ∧ ∃ s, (M.qgv c p).1 = p ++ s ∧ MSeg p.length s ∧ p.length + s.length ≤ 32 := by
 have c1 := qbj hc 7
 have b1 := qbW c 7
 unfold M.qgv
 generalize (M.qa0 c 7).2 = d at *
 split
 ·exact ⟨c1, b1, _, rfl, .mem rfl, by simp; omega⟩
 split
 ·have hr := qcZ d (n := 4) (by omega)
  exact ⟨qbj c1 4, (qbW d 4).trans b1, _, rfl, .cat (.seg (.one rfl)) (.mem (qn7 (by omega) (by omega) (by omega))) (s := [⟨8, 0, 0, 0⟩]), by simp [M.qjb]; omega⟩
 split
 ·have h1 := qm0 d (l := [1, 8, 31]) (by simp)
  simp only [List.mem_cons, List.not_mem_nil, or_false] at h1
  refine ⟨qkH c1 _, (ql2 d _).trans b1, _, rfl, ?_, by simp [M.qkm]; omega⟩
  refine .cat (s := [⟨1, 1, (M.qau d [1, 8, 31]).1, 0⟩]) (.seg (.one (qkN (by omega) (by omega)))) ?_
  refine .cat (s := [⟨8, 0, 0, 0⟩]) (.seg (.one rfl)) (.cat (s := [⟨3, 0, 0, 1⟩]) (.seg (.one rfl)) (.mem rfl))
 split
 ·have h1 := qcZ d (n := 8) (by omega)
  have h2 := qcZ (M.qa0 d 8).2 (n := 4) (by omega)
  refine ⟨qbj (qbj c1 8) 4, (qbW _ 4).trans ((qbW d 8).trans b1), _, rfl, ?_, by simp [M.qkD]; omega⟩
  exact .cat (s := [⟨1, 1, 24 + (M.qa0 d 8).1, 0⟩]) (.seg (.one (qkN (by omega) (by omega)))) (.mem (qn7 (by omega) (by omega) (by omega)))
 split
 ·split
  ·obtain ⟨g1, g2, s, g3, g4, g5⟩ := qha 1 d p c1
   exact ⟨g1, g2.trans b1, s, g3, .seg g4, by omega⟩
  ·exact ⟨c1, b1, [], by simp, .nil _, by simp; omega⟩
 split
 ·refine ⟨qbj (qbj (qkH c1 _) 4) 4, (qbW _ 4).trans ((qbW _ 4).trans ((ql2 d _).trans b1)), _, rfl, .mem (qnZ d), by simp; omega⟩
 ·exact ⟨qlV c1, (qnd d).trans b1, _, rfl, .seg (.one (qiT d)), by simp; omega⟩
theorem qjK : ∀ (n : Nat) (c : D.Cur) (p : List D.Ins), M.qdz c → p.length ≤ 32 → M.qdz (M.qhT n c p).2 ∧ (M.qhT n c p).2.b = c.b ∧ ∃ s, (M.qhT n c p).1 = p ++ s ∧ MSeg p.length s ∧ p.length + s.length ≤ 32
 | 0, c, p, hc, hp => ⟨hc, rfl, [], by simp [M.qhT], .nil _, by simpa using hp⟩
 | n + 1, c, p, hc, hp => by
  rw [M.qhT]
  split
  ·rename_i h
   obtain ⟨g1, g2, s, g3, g4, g5⟩ := qib hc (p := p) (by omega)
   obtain ⟨k1, k2, t, k3, k4, k5⟩ := qjK n (M.qgv c p).2 (M.qgv c p).1 g1 (by rw [g3, List.length_append]; exact g5)
   rw [g3, List.length_append] at k4 k5
   exact ⟨k1, k2.trans g2, s ++ t, by rw [k3, g3, List.append_assoc], .cat g4 k4, by rw [List.length_append]; omega⟩
  ·exact ⟨hc, rfl, [], by simp, .nil _, by simpa using hp⟩
theorem qjp {c : D.Cur} (h : M.qdz c) : M.qdz (M.qa9 c).2 ∧ (M.qa9 c).2.b = c.b ∧ MSeg 0 (M.qa9 c).1 ∧ (M.qa9 c).1.length ≤ 32 ∧ 1 ≤ (M.qa9 c).1.length := by
 obtain ⟨g1, g2, s, g3, g4, g5⟩ := qjK (1 + (M.qa0 c 5).1).toNat (M.qa0 c 5).2 [⟨8, 0, 0, 0⟩] (qbj h 5) (by simp)
 refine ⟨g1, g2.trans (qbW c 5), ?_, ?_, ?_⟩
 ·show MSeg 0 (M.qhT _ _ _).1
  rw [g3]
  exact .cat (.seg (.one rfl)) g4
 ·show (M.qhT _ _ _).1.length ≤ 32
  rw [g3, List.length_append]; exact g5
 ·show 1 ≤ (M.qhT _ _ _).1.length
  rw [g3, List.length_append]; simp
theorem ql9 {c : D.Cur} (h : M.qdz c) : M.qaW (M.qa9 c).1 = true := by
 obtain ⟨_, _, g3, g4, _⟩ := qjp h
 unfold M.qaW
 rw [Bool.and_eq_true, List.all_eq_true, decide_eq_true_eq]
 exact ⟨g4, qod g3 _ (by omega) g4⟩
end Go.V
namespace Go.V
open IntKind (wrap)
theorem qnA {b : List Int} (h : M.Long b) {k n : Int} (h0 : 0 ≤ k) (hk : k < 12) (hn : 0 < n) : 0 ≤ Int.tmod (rd (M.qb7 b) k) n ∧ Int.tmod (rd (M.qb7 b) k) n < n := by
 have hpl : (M.qb7 b).length = 12 := qhG 12 _
 have := qi2 12 (M.qaK b) _ (qjR (xs := M.qb7 b) (i := k) h0 (by omega))
 exact qlB this.1 hn
end Go.V
namespace Go.V
open IntKind (wrap)
def wp.qbJ (s0 : D.Cur) (Q : (D.Ins × D.Cur) → Prop) : Prop :=
 (M.qe3 s0 ([13, 14, 15] : List Int) ∧ ∀ r26, r26 = M.qau s0 ([13, 14, 15] : List Int) → (M.qas (⟨s0.b, r26.2.i, r26.2.h⟩ : D.Cur) 4 ∧ ∀ r32, r32 = M.qa0 (⟨s0.b, r26.2.i, r26.2.h⟩ : D.Cur) 4 → (M.qas (⟨s0.b, r32.2.i, r32.2.h⟩ : D.Cur) 4 ∧ ∀ r38, r38 = M.qa0 (⟨s0.b, r32.2.i, r32.2.h⟩ : D.Cur) 4 → Q ((⟨r26.1, r32.1, r38.1, 0⟩ : D.Ins), (⟨s0.b, r38.2.i, r38.2.h⟩ : D.Cur)))))
def wp.qa9 (s0 : D.Cur) (Q : ((List D.Ins) × D.Cur) → Prop) : Prop :=
 (M.qas s0 5 ∧ ∀ r24, r24 = M.qa0 s0 5 → qd7 (σ := (List D.Ins) × Int × Int × Int × Unit) (fun (p198 : (List D.Ins) × Int × Int × Int × Unit) next62 => match p198 with | (xs53, i56, i57, i58, _) => qa1 (decide (i56 > 0)) (qa1 (decide ((wrap .i64 ((xs53.length : Int) + 4)) ≤ 32)) ((M.qas (⟨s0.b, i57, i58⟩ : D.Cur) 7 ∧ ∀ r64, r64 = M.qa0 (⟨s0.b, i57, i58⟩ : D.Cur) 7 → qa1 (r64.1 == 0) (((xs53.length + ([(⟨16, 0, 0, 0⟩ : D.Ins)] : List D.Ins).length ≤ 17179869184) ∧ next62 ((xs53 ++ ([(⟨16, 0, 0, 0⟩ : D.Ins)] : List D.Ins)), (wrap .i64 (i56 - 1)), r64.2.i, r64.2.h, ()))) (qa1 (r64.1 == 1) ((M.qas (⟨s0.b, r64.2.i, r64.2.h⟩ : D.Cur) 4 ∧ ∀ r81, r81 = M.qa0 (⟨s0.b, r64.2.i, r64.2.h⟩ : D.Cur) 4 → ((xs53.length + ([(⟨8, 0, 0, 0⟩ : D.Ins), (⟨14, 0, r81.1, 0⟩ : D.Ins)] : List D.Ins).length ≤ 17179869184) ∧ next62 ((xs53 ++ ([(⟨8, 0, 0, 0⟩ : D.Ins), (⟨14, 0, r81.1, 0⟩ : D.Ins)] : List D.Ins)), (wrap .i64 (i56 - 1)), r81.2.i, r81.2.h, ())))) (qa1 (r64.1 == 2) ((M.qe3 (⟨s0.b, r64.2.i, r64.2.h⟩ : D.Cur) ([1, 8, 31] : List Int) ∧ ∀ r101, r101 = M.qau (⟨s0.b, r64.2.i, r64.2.h⟩ : D.Cur) ([1, 8, 31] : List Int) → ((xs53.length + ([(⟨1, 1, r101.1, 0⟩ : D.Ins), (⟨8, 0, 0, 0⟩ : D.Ins), (⟨3, 0, 0, 1⟩ : D.Ins), (⟨13, 2, 0, 0⟩ : D.Ins)] : List D.Ins).length ≤ 17179869184) ∧ next62 ((xs53 ++ ([(⟨1, 1, r101.1, 0⟩ : D.Ins), (⟨8, 0, 0, 0⟩ : D.Ins), (⟨3, 0, 0, 1⟩ : D.Ins), (⟨13, 2, 0, 0⟩ : D.Ins)] : List D.Ins)), (wrap .i64 (i56 - 1)), r101.2.i, r101.2.h, ())))) (qa1 (r64.1 == 3) ((M.qas (⟨s0.b, r64.2.i, r64.2.h⟩ : D.Cur) 8 ∧ ∀ r118, r118 = M.qa0 (⟨s0.b, r64.2.i, r64.2.h⟩ : D.Cur) 8 → (M.qas (⟨s0.b, r118.2.i, r118.2.h⟩ : D.Cur) 4 ∧ ∀ r124, r124 = M.qa0 (⟨s0.b, r118.2.i, r118.2.h⟩ : D.Cur) 4 → ((xs53.length + ([(⟨1, 1, (wrap .i64 (24 + r118.1)), 0⟩ : D.Ins), (⟨15, 1, r124.1, 0⟩ : D.Ins)] : List D.Ins).length ≤ 17179869184) ∧ next62 ((xs53 ++ ([(⟨1, 1, (wrap .i64 (24 + r118.1)), 0⟩ : D.Ins), (⟨15, 1, r124.1, 0⟩ : D.Ins)] : List D.Ins)), (wrap .i64 (i56 - 1)), r124.2.i, r124.2.h, ()))))) (qa1 (r64.1 == 4) (qa1 (decide ((xs53.length : Int) < 12)) ((M.qdS (⟨s0.b, r64.2.i, r64.2.h⟩ : D.Cur) xs53 1 ∧ ∀ r141, r141 = M.qaT (⟨s0.b, r64.2.i, r64.2.h⟩ : D.Cur) xs53 1 → next62 (r141.1, (wrap .i64 (i56 - 1)), r141.2.i, r141.2.h, ()))) (next62 (xs53, (wrap .i64 (i56 - 1)), r64.2.i, r64.2.h, ()))) (qa1 (r64.1 == 5) ((M.qfA (⟨s0.b, r64.2.i, r64.2.h⟩ : D.Cur) ∧ ∀ r156, r156 = M.qbJ (⟨s0.b, r64.2.i, r64.2.h⟩ : D.Cur) → ((xs53.length + ([r156.1] : List D.Ins).length ≤ 17179869184) ∧ next62 ((xs53 ++ ([r156.1] : List D.Ins)), (wrap .i64 (i56 - 1)), r156.2.i, r156.2.h, ())))) ((M.qeQ (⟨s0.b, r64.2.i, r64.2.h⟩ : D.Cur) ∧ ∀ r173, r173 = M.qaA (⟨s0.b, r64.2.i, r64.2.h⟩ : D.Cur) → ((xs53.length + ([r173.1] : List D.Ins).length ≤ 17179869184) ∧ next62 ((xs53 ++ ([r173.1] : List D.Ins)), (wrap .i64 (i56 - 1)), r173.2.i, r173.2.h, ()))))))))))) (Q (xs53, (⟨s0.b, i57, i58⟩ : D.Cur)))) (Q (xs53, (⟨s0.b, i57, i58⟩ : D.Cur)))) (([(⟨8, 0, 0, 0⟩ : D.Ins)] : List D.Ins), (wrap .i64 (1 + r24.1)), r24.2.i, r24.2.h, ()))
end Go.V
namespace Go.V
open IntKind (wrap)
theorem wp.qbJ.math (c : D.Cur) (h : M.qfA c) : wp.qbJ c (fun r => r = M.qbJ c) := by
 have h : M.qdz c := h
 refine ⟨⟨h, by simp, by simp⟩, fun r hr => ?_⟩
 subst hr
 have c1 := qkH h [13, 14, 15]
 have b1 := ql2 c [13, 14, 15]
 rw [qbX b1]
 refine ⟨c1, fun r hr => ?_⟩
 subst hr
 have b2 := (qbW (M.qau c [13, 14, 15]).2 4).trans b1
 rw [qbX b2]
 refine ⟨qbj c1 4, fun r hr => ?_⟩
 subst hr
 rw [qbX ((qbW _ 4).trans b2)]; rfl
def itP : Nat → D.Cur → List D.Ins → List D.Ins × D.Cur
 | 0, c, p => (p, c)
 | k + 1, c, p => M.qgv (itP k c p).2 (itP k c p).1
theorem wp.qa9.math (c : D.Cur) (h : M.qfg c) : wp.qa9 c (fun r => r = M.qa9 c) := by
 have h : M.qdz c := h
 unfold wp.qa9
 refine ⟨h, fun r0 g0 => ?_⟩
 subst g0
 have hb := qcZ c (n := 5) (by omega)
 have hc0 := qbj h 5
 have hb0 := qbW c 5
 rw [w64 (x := 1 + (M.qa0 c 5).1) (by omega) (by omega)]
 show qd7 _ _
 have eM : M.qa9 c = M.qhT (1 + (M.qa0 c 5).1).toNat (M.qa0 c 5).2 [⟨8, 0, 0, 0⟩] := rfl
 rw [eM]
 obtain ⟨n, hn⟩ := Int.eq_ofNat_of_zero_le (show 0 ≤ 1 + (M.qa0 c 5).1 by omega)
 have hnb : n ≤ 5 := by omega
 generalize (M.qa0 c 5).2 = c0 at *
 rw [hn, Int.toNat_natCast]
 refine qd9 n (fun k => ((itP k c0 [⟨8, 0, 0, 0⟩]).1, ((n : Int) - (k : Int)), (itP k c0 [⟨8, 0, 0, 0⟩]).2.i, (itP k c0 [⟨8, 0, 0, 0⟩]).2.h, ()))
  (fun k => M.qdz (itP k c0 [⟨8, 0, 0, 0⟩]).2 ∧ (itP k c0 [⟨8, 0, 0, 0⟩]).2.b = c.b ∧ (itP k c0 [⟨8, 0, 0, 0⟩]).1.length ≤ 32 ∧ (k ≤ n → M.qhT n c0 [⟨8, 0, 0, 0⟩] = M.qhT (n - k) (itP k c0 [⟨8, 0, 0, 0⟩]).2 (itP k c0 [⟨8, 0, 0, 0⟩]).1))
  (by simp [itP]) ⟨hc0, hb0, by simp [itP], fun _ => rfl⟩ (fun k hk hF next hnx => ?_) fun hF next => ?_
 ·obtain ⟨f1, f2, fl, f3⟩ := hF
  have f3 := f3 (by omega)
  have it : itP (k + 1) c0 [⟨8, 0, 0, 0⟩] = M.qgv (itP k c0 [⟨8, 0, 0, 0⟩]).2 (itP k c0 [⟨8, 0, 0, 0⟩]).1 := rfl
  rw [it] at hnx
  generalize itP k c0 [⟨8, 0, 0, 0⟩] = y at *
  obtain ⟨q, e⟩ := y
  dsimp only at *
  rw [w64 (x := (q.length : Int) + 4) (by omega) (by omega)]
  refine qaE (by simp; omega) (qa3 (fun g => ?_) fun g => ?_)
  ·have g : (q.length : Int) + 4 ≤ 32 := by simpa using g
   obtain ⟨k1, k2, s, k3, k4, k5⟩ := qib f1 (p := q) (by omega)
   have ew : wrap .i64 ((n : Int) - (k : Int) - 1) = (n : Int) - ((k + 1 : Nat) : Int) := by rw [w64 (by omega) (by omega)]; omega
   have fin : ∀ P c', M.qgv e q = (P, c') → next (P, wrap .i64 ((n : Int) - (k : Int) - 1), c'.i, c'.h, ()) := fun P c' hE => by
    rw [ew]
    have := hnx ⟨k1, k2.trans f2, by rw [k3, List.length_append]; exact k5, fun _ => ?_⟩
    ·rw [hE] at this; exact this
    ·rw [f3, show n - k = (n - (k + 1)) + 1 by omega, M.qhT, if_pos g]
   rw [qbX f2]
   refine ⟨f1, fun r5 g5 => ?_⟩
   subst g5
   have c5 := qbj f1 7
   have b5 : (M.qa0 e 7).2.b = c.b := (qbW e 7).trans f2
   simp only [qbX b5]
   have hb5 := qcZ e (n := 7) (by omega)
   have fin2 := fin
   unfold M.qgv at fin2
   generalize (M.qa0 e 7).1 = d at *
   generalize (M.qa0 e 7).2 = e5 at *
   refine qa3 (fun d0 => ?_) fun d0 => qa3 (fun d1 => ?_) fun d1 => qa3 (fun d2 => ?_) fun d2 => qa3 (fun d3 => ?_) fun d3 => qa3 (fun d4 => ?_) fun d4 => qa3 (fun d5 => ?_) fun d5 => ?_
   ·have d0 : d = 0 := by simpa using d0
    exact ⟨by simp; omega, fin2 _ _ (by rw [if_pos d0])⟩
   ·have d0 : ¬ d = 0 := by simpa using d0
    have d1 : d = 1 := by simpa using d1
    refine ⟨c5, fun r hr => ?_⟩
    subst hr
    exact ⟨by simp; omega, fin2 _ _ (by rw [if_neg d0, if_pos d1]; rfl)⟩
   ·have d0 : ¬ d = 0 := by simpa using d0
    have d1 : ¬ d = 1 := by simpa using d1
    have d2 : d = 2 := by simpa using d2
    refine ⟨⟨c5, by simp, by simp⟩, fun r hr => ?_⟩
    subst hr
    exact ⟨by simp; omega, fin2 _ _ (by rw [if_neg d0, if_neg d1, if_pos d2]; rfl)⟩
   ·have d0 : ¬ d = 0 := by simpa using d0
    have d1 : ¬ d = 1 := by simpa using d1
    have d2 : ¬ d = 2 := by simpa using d2
    have d3 : d = 3 := by simpa using d3
    refine ⟨c5, fun r hr => ?_⟩
    subst hr
    have h8 := qcZ e5 (n := 8) (by omega)
    rw [qbX ((qbW e5 8).trans b5), w64 (x := 24 + (M.qa0 e5 8).1) (by omega) (by omega)]
    refine ⟨qbj c5 8, fun r hr => ?_⟩
    subst hr
    exact ⟨by simp; omega, fin2 _ _ (by rw [if_neg d0, if_neg d1, if_neg d2, if_pos d3]; rfl)⟩
   ·have d0 : ¬ d = 0 := by simpa using d0
    have d1 : ¬ d = 1 := by simpa using d1
    have d2 : ¬ d = 2 := by simpa using d2
    have d3 : ¬ d = 3 := by simpa using d3
    have d4 : d = 4 := by simpa using d4
    rw [if_neg d0, if_neg d1, if_neg d2, if_neg d3, if_pos d4] at fin2
    refine qa3 (fun l12 => ⟨⟨c5, by simp at l12; omega, by omega, by omega⟩, fun r hr => ?_⟩) fun l12 => ?_
    ·have l12 : (q.length : Int) < 12 := by simpa using l12
     rw [if_pos l12] at fin2
     exact fin2 _ _ (by rw [hr]; rfl)
    ·have l12 : ¬ (q.length : Int) < 12 := by simpa using l12
     rw [if_neg l12] at fin2
     exact fin2 _ _ rfl
   ·have d0 : ¬ d = 0 := by simpa using d0
    have d1 : ¬ d = 1 := by simpa using d1
    have d2 : ¬ d = 2 := by simpa using d2
    have d3 : ¬ d = 3 := by simpa using d3
    have d4 : ¬ d = 4 := by simpa using d4
    have d5 : d = 5 := by simpa using d5
    refine ⟨c5, fun r hr => ?_⟩
    subst hr
    exact ⟨by simp; omega, fin2 _ _ (by rw [if_neg d0, if_neg d1, if_neg d2, if_neg d3, if_neg d4, if_pos d5])⟩
   ·have d0 : ¬ d = 0 := by simpa using d0
    have d1 : ¬ d = 1 := by simpa using d1
    have d2 : ¬ d = 2 := by simpa using d2
    have d3 : ¬ d = 3 := by simpa using d3
    have d4 : ¬ d = 4 := by simpa using d4
    have d5 : ¬ d = 5 := by simpa using d5
    refine ⟨c5, fun r hr => ?_⟩
    subst hr
    exact ⟨by simp; omega, fin2 _ _ (by rw [if_neg d0, if_neg d1, if_neg d2, if_neg d3, if_neg d4, if_neg d5])⟩
  ·have g : ¬ (q.length : Int) + 4 ≤ 32 := by simpa using g
   rw [f3, show n - k = (n - (k + 1)) + 1 by omega, M.qhT, if_neg g, qbX f2]
 ·obtain ⟨f1, f2, fl, f3⟩ := hF
  refine qaC (by simp) ?_
  rw [f3 (Nat.le_refl _), Nat.sub_self, qbX f2]; rfl
theorem qlH {p : List D.Ins} (hp : M.qaW p = true) {c : Int} (hc : 1 ≤ c ∧ c ≤ 3) : M.qcT (M.qes p c) = true ∧ ((M.qes p c).Warps.length : Int) = c := by
 have hlen : ((M.qes p c).Warps.length : Int) = c := by simp [M.qes]; omega
 have hz : M.qbf (List.replicate 32 0) = true := by rfl
 have hat : ∀ k : Nat, k ≤ 2 → M.qgT p k (M.qdE p (k : Int)) = true := fun k hk => by
  unfold M.qgT
  rw [(qlq hp (w := (k : Int)) (by simp only [M.isIn, Bool.and_eq_true, decide_eq_true_eq]; omega)).2]
  simp [M.qdE]
 have h0 := hat 0 (by omega)
 have h1 := hat 1 (by omega)
 have h2 := hat 2 (by omega)
 refine ⟨?_, hlen⟩
 have : c = 1 ∨ c = 2 ∨ c = 3 := by omega
 unfold M.qcT
 have e1 : (M.qes p c).Code = p := rfl
 have e2 : (M.qes p c).Memory = List.replicate 32 0 := rfl
 have e3 : (M.qes p c).Waiting = 0 := rfl
 have e4 : (M.qes p c).Phase = 0 := rfl
 rw [e1, e2, e3, e4, hp, hz]
 rcases this with rfl | rfl | rfl
 ·have e5 : (M.qes p 1).Warps = [M.qdE p ((0 : Nat) : Int)] := rfl
  rw [e5]
  have : M.qdq p 0 [M.qdE p ((0 : Nat) : Int)] = true := by simp only [M.qdq, h0]; rfl
  rw [this]; rfl
 ·have e5 : (M.qes p 2).Warps = [M.qdE p ((0 : Nat) : Int), M.qdE p ((1 : Nat) : Int)] := rfl
  rw [e5]
  have : M.qdq p 0 [M.qdE p ((0 : Nat) : Int), M.qdE p ((1 : Nat) : Int)] = true := by simp only [M.qdq, h0, h1, Nat.zero_add]; rfl
  rw [this]; rfl
 ·have e5 : (M.qes p 3).Warps = [M.qdE p ((0 : Nat) : Int), M.qdE p ((1 : Nat) : Int), M.qdE p ((2 : Nat) : Int)] := rfl
  rw [e5]
  have : M.qdq p 0 [M.qdE p ((0 : Nat) : Int), M.qdE p ((1 : Nat) : Int), M.qdE p ((2 : Nat) : Int)] = true := by simp only [M.qdq, h0, h1, h2, Nat.zero_add]; rfl
  rw [this]; rfl
end Go.V
namespace Go.V
open IntKind (wrap)
def qkf (i : D.Ins) : Prop := 0 ≤ i.A ∧ i.A ≤ 3 ∧ 0 ≤ i.B ∧ i.B ≤ 3
structure qjP (s : List Int × List Int) : Prop where
 l1 : s.1.length = 32
 w1 : s.1.all M.isWord = true
 l2 : s.2.length = 32
 w2 : s.2.all M.isWord = true
theorem qlN {α : Type} {p : α → Bool} {l : List α} {k : Nat} {y : α} (h : l.all p = true) (hy : p y = true) : (l.set k y).all p = true := by
 rw [List.all_eq_true] at *
 intro x hx
 rcases List.mem_or_eq_of_mem_set hx with h1 | h1
 ·exact h _ h1
 ·rw [h1]; exact hy
theorem qhS {p : Int → Bool} {l : List Int} (h : l.all p = true) {z : Int} (h0 : 0 ≤ z) (h1 : z < (l.length : Int)) : p (rd l z) = true := List.all_eq_true.1 h _ (qjR h0 h1)
theorem qoj {x : Int} (h : M.isWord x = true) : 0 ≤ x ∧ x ≤ 65535 := by
 simpa only [M.isWord, M.isIn, Bool.and_eq_true, decide_eq_true_eq] using h
theorem qj6 {x : Int} (h : M.isWord x = true) : 0 ≤ Int.tmod x 32 ∧ Int.tmod x 32 < 32 := qgz (qoj h).1 (by omega)
theorem qk7 {i : D.Ins} {s : List Int × List Int} {k : Int} (hi : qkf i) (hs : qjP s) (h0 : 0 ≤ k) (hk : k ≤ 7) : qjP (M.qfd i s k) := by
 obtain ⟨a0, a1, b0, b1⟩ := hi
 obtain ⟨l1, w1, l2, w2⟩ := hs
 have wA := qhS w1 (z := k * 4 + i.A) (by omega) (by omega)
 have wB := qhS w1 (z := k * 4 + i.B) (by omega) (by omega)
 have pB := qj6 wB
 unfold M.qfd
 split
 ·exact ⟨by simpa using l1, qlN w1 (qhS w2 pB.1 (by omega)), l2, w2⟩
 ·split
  ·exact ⟨l1, w1, by simpa using l2, qlN w2 wB⟩
  ·split
   ·exact ⟨l1, w1, by simpa using l2, qlN w2 (ql6 _ _)⟩
   ·exact ⟨l1, w1, l2, w2⟩
theorem qj0 {i : D.Ins} {m : Int} {s : List Int × List Int} (hi : qkf i) (hs : qjP s) : ∀ k : Nat, k ≤ 8 → qjP (M.qkG i m s k)
 | 0, _ => hs
 | k + 1, hk => by
  unfold M.qkG
  split
  ·exact qk7 hi (qj0 hi hs k (by omega)) (by omega) (by omega)
  ·exact qj0 hi hs k (by omega)
theorem qne {i : D.Ins} {m : Int} {s : List Int × List Int} : M.qkG i m s 8 = (M.qfk m).foldl (M.qfd i) s := by
 have key : ∀ k : Nat, (List.range k).foldl (fun acc (j : Nat) => if M.qdo m (j : Int) = true then M.qfd i acc (j : Int) else acc) s = M.qkG i m s k := by
  intro k
  induction k with
  | zero => rfl
  | succ k ih =>
   rw [List.range_succ, List.foldl_append, ih]
   simp only [List.foldl_cons, List.foldl_nil, M.qkG]
 rw [← key 8]
 unfold M.qfk
 rw [List.foldl_filter]
 rfl
theorem qmY {i : D.Ins} (hi : qkf i) : ∀ (l : List Int) (s : List Int × List Int), qjP s → (∀ k ∈ l, 0 ≤ k ∧ k ≤ 7) → qjP (l.foldl (M.qfd i) s)
 | [], s, h, _ => h
 | k :: l, s, h, hl => by
  simp only [List.foldl_cons]
  obtain ⟨h0, h7⟩ := hl k List.mem_cons_self
  exact qmY hi l _ (qk7 hi h h0 h7) fun j hj => hl j (List.mem_cons_of_mem _ hj)
theorem qoh {i : D.Ins} {n : Int} (h : M.qdw i n = true) (hl : M.qcM i = false) : qkf i ∧ (i.Op = 13 ∨ i.Op = 14 ∨ i.Op = 15 ∨ i.Op = 16) := by
 have hl' : ¬ (0 ≤ i.Op ∧ i.Op ≤ 12) := by
  intro hc
  rw [show M.qcM i = true by simp only [M.qcM, M.isIn, Bool.and_eq_true, decide_eq_true_eq]; exact hc] at hl
  cases hl
 unfold M.qdw at h
 rw [Bool.and_eq_true] at h
 have h := h.2
 unfold qkf
 split at h
 ·rename_i e
  simp only [Bool.and_eq_true, beq_iff_eq] at h
  refine ⟨by omega, by omega⟩
 ·split at h
  ·omega
  ·split at h
   ·rename_i e
    simp only [M.qgB, M.isIn, Bool.and_eq_true, beq_iff_eq, decide_eq_true_eq] at h
    refine ⟨by omega, by omega⟩
   ·split at h
    ·omega
    ·split at h
     ·omega
     ·split at h
      ·omega
      ·simp only [M.isIn, Bool.and_eq_true, decide_eq_true_eq] at h
       omega
theorem qik {b : D.Block} (h : M.qcT b = true) : b.Memory.length = 32 ∧ b.Memory.all M.isWord = true := by
 simp only [M.qcT, M.qbf, Bool.and_eq_true, beq_iff_eq] at h
 exact h.2.2.1
theorem qkI {b : D.Block} {w : Int} (h : M.Live b w) : qjP ((rd b.Warps w).Regs, b.Memory) := by
 have hr := qgA h.1 h.2
 exact ⟨(qdX hr).2.2.2.1, (qhf hr).2.2.2.2.2, (qik (qen h.1).2.2.2.2.2).1, (qik (qen h.1).2.2.2.2.2).2⟩
theorem qkh {b : D.Block} {w : Int} (h : M.Live b w) (hl : M.qcM (M.qd6 b w) = false) : qkf (M.qd6 b w) ∧ ((M.qd6 b w).Op = 13 ∨ (M.qd6 b w).Op = 14 ∨ (M.qd6 b w).Op = 15 ∨ (M.qd6 b w).Op = 16) :=
 qoh (qdX (qgA h.1 h.2)).2.2.2.2.2.2.1 hl
theorem qlY (x : Int) : qdH .i64 x 1 = x % 2 := by
 unfold qdH
 have e1 : (BitVec.ofInt (IntKind.bits .i64) x &&& BitVec.ofInt (IntKind.bits .i64) 1).toNat = (x % 2).toNat := by
  show (BitVec.ofInt 64 x &&& BitVec.ofInt 64 1).toNat = _
  rw [BitVec.toNat_and, BitVec.toNat_ofInt, show (BitVec.ofInt 64 1).toNat = 2 ^ 1 - 1 from rfl, Nat.and_two_pow_sub_one_eq_mod]
  rw [show ((2 ^ 64 : Nat) : Int) = 18446744073709551616 from rfl]
  omega
 rw [e1, w64 (by omega) (by omega)]
 omega
theorem qmA (b : D.Block) (k : Int) : (qdH .i64 (Int.fdiv b.Waiting (2 ^ (min (k.toNat) (IntKind.bits .i64)))) 1 == 0) = !M.waits b k := by
 unfold M.waits
 rw [qlY, Bool.eq_iff_iff]
 simp only [beq_iff_eq, Bool.not_eq_true', beq_eq_false_iff_ne, ne_eq]
 omega
theorem qnM : ((List.range 8).all fun a => (List.range 4).all fun n => (List.range 3).all fun k => !(decide (1 ≤ n) && (decide (k < n) && decide (a < 2 ^ n))) || (decide (0 ≤ qgS .i64 ((a : Nat) : Int) (M.qj1 ((k : Nat) : Int))) && decide (qgS .i64 ((a : Nat) : Int) (M.qj1 ((k : Nat) : Int)) < 2 ^ n))) = true := by kernel_rfl
theorem qml : ((List.range 4).all fun n => (List.range 3).all fun k => !decide (k < n) || (Int.fdiv (((2 ^ n - 1 : Nat)) : Int) (2 ^ (min (((k : Nat) : Int).toNat) (IntKind.bits .i64))) % 2 == 1)) = true := by kernel_rfl
theorem qkp : ((List.range 4).all fun n => n == 0 || (M.qhB n == (2 : Int) ^ n - 2)) = true := by kernel_rfl
theorem qis {n : Nat} (h1 : 1 ≤ n) (h3 : n ≤ 3) : M.qhB n = (2 : Int) ^ n - 2 := by
 have := List.all_eq_true.1 qkp n (List.mem_range.2 (by omega))
 simp only [Bool.or_eq_true, beq_iff_eq] at this
 exact this.resolve_left (by omega)
theorem qoM {a : Int} {n k : Nat} (h1 : 1 ≤ n) (h3 : n ≤ 3) (hk : k < n) (h0 : 0 ≤ a) (ha : a ≤ M.qhB n) : 0 ≤ qgS .i64 a (M.qj1 (k : Int)) ∧ qgS .i64 a (M.qj1 (k : Int)) < (2 : Int) ^ n := by
 rw [qis h1 h3] at ha
 have hp : (2 : Int) ^ n ≤ 8 := by rcases (by omega : n = 1 ∨ n = 2 ∨ n = 3) with rfl | rfl | rfl <;> decide
 obtain ⟨m, rfl⟩ := Int.eq_ofNat_of_zero_le h0
 have hm : m < 2 ^ n := by have : ((m : Nat) : Int) < ((2 ^ n : Nat) : Int) := by push_cast; omega
                           omega
 have := List.all_eq_true.1 (List.all_eq_true.1 (List.all_eq_true.1 qnM m (List.mem_range.2 (by omega))) n (List.mem_range.2 (by omega))) k (List.mem_range.2 (by omega))
 simp only [Bool.or_eq_true, Bool.not_eq_true', Bool.and_eq_true, Bool.and_eq_false_iff, decide_eq_true_eq, decide_eq_false_iff_not] at this
 refine this.resolve_left fun hc => ?_
 rcases hc with hc | hc | hc
 ·exact hc h1
 ·exact hc hk
 ·exact hc hm
theorem qmm {b : D.Block} {n k : Nat} (h3 : n ≤ 3) (hk : k < n) (h : b.Waiting = (2 : Int) ^ n - 1) : M.waits b (k : Int) = true := by
 unfold M.waits
 rw [qlY, beq_iff_eq, h]
 have := List.all_eq_true.1 (List.all_eq_true.1 qml n (List.mem_range.2 (by omega))) k (List.mem_range.2 (by omega))
 simp only [Bool.or_eq_true, Bool.not_eq_true', decide_eq_false_iff_not, beq_iff_eq] at this
 have := this.resolve_left (by omega)
 have e : (((2 ^ n - 1 : Nat)) : Int) = (2 : Int) ^ n - 1 := by rcases (by omega : n = 0 ∨ n = 1 ∨ n = 2 ∨ n = 3) with rfl | rfl | rfl | rfl <;> rfl
 rw [← e]
 exact this
theorem qhA {b : D.Block} {k : Nat} (h : M.qfh b k = false) : ∀ n, k ≤ n → M.qfh b n = false
 | 0, hn => by rw [Nat.le_zero.1 hn] at h; exact h
 | n + 1, hn => by
  by_cases e : k = n + 1
  ·rw [← e]; exact h
  ·unfold M.qfh
   rw [qhA h n (by omega), Bool.false_and]
theorem qiO {b : D.Block} (h3 : b.Warps.length ≤ 3) (h : b.Waiting = (2 : Int) ^ b.Warps.length - 1) : ∀ k, k ≤ b.Warps.length → M.qfh b k = true
 | 0, _ => rfl
 | k + 1, hk => by
  unfold M.qfh
  rw [qiO h3 h k (by omega), qmm h3 (by omega) h, Bool.or_true, Bool.true_and]
theorem qhj {b : D.Block} (h : M.qcT b = true) : M.qaW b.Code = true ∧ 1 ≤ b.Warps.length ∧ b.Warps.length ≤ 3 ∧ 0 ≤ b.Waiting ∧ b.Waiting ≤ M.qhB b.Warps.length ∧ 0 ≤ b.Phase ∧ b.Phase ≤ 100000 ∧ M.qdq b.Code 0 b.Warps = true := by
 simp only [M.qcT, Bool.and_eq_true, M.isIn, decide_eq_true_eq] at h
 obtain ⟨h1, h2, h3, h4, h5, h6⟩ := h
 exact ⟨h1, by omega, by omega, h4.1, h4.2, h5.1, h5.2, h6⟩
theorem qoN {b : D.Block} (h1 : M.qaW b.Code = true) (h2 : 1 ≤ b.Warps.length ∧ b.Warps.length ≤ 3) (h3 : b.Memory.length = 32 ∧ b.Memory.all M.isWord = true) (h4 : 0 ≤ b.Waiting ∧ b.Waiting ≤ M.qhB b.Warps.length) (h5 : 0 ≤ b.Phase ∧ b.Phase ≤ 100000)
    (h6 : M.qdq b.Code 0 b.Warps = true) : M.qcT b = true := by
 simp only [M.qcT, M.qbf, Bool.and_eq_true, M.isIn, decide_eq_true_eq, beq_iff_eq]
 exact ⟨h1, ⟨by omega, by omega⟩, h3, h4, h5, h6⟩
theorem qjF {p : List D.Ins} : ∀ {l : List D.Warp} {k : Nat}, M.qdq p k l = true → ∀ x ∈ l, M.qfN p x = true
 | [], _, _, _, hx => by cases hx
 | y :: l, k, h, x, hx => by
  simp only [M.qdq, M.qgT, Bool.and_eq_true] at h
  rcases List.mem_cons.1 hx with rfl | hx
  ·exact h.1.2
  ·exact qjF h.2 x hx
theorem qj5 {p : List D.Ins} {y : D.Warp} : ∀ {l : List D.Warp} {k n : Nat}, M.qdq p k l = true → M.qgT p (k + n) y = true → M.qdq p k (l.set n y) = true
 | [], _, _, h, _ => by simp [M.qdq]
 | x :: l, k, 0, h, hy => by
  simp only [M.qdq, Bool.and_eq_true] at h
  simp only [List.set_cons_zero, M.qdq, Bool.and_eq_true]
  exact ⟨hy, h.2⟩
 | x :: l, k, n + 1, h, hy => by
  simp only [M.qdq, Bool.and_eq_true] at h
  simp only [List.set_cons_succ, M.qdq, Bool.and_eq_true]
  exact ⟨h.1, qj5 h.2 (by rw [show k + 1 + n = k + (n + 1) by omega]; exact hy)⟩
theorem qhH {b : D.Block} (h : M.qcT b = true) : M.qn3 b := by
 obtain ⟨h1, h2, h3, _, _, _, _, h8⟩ := qhj h
 refine ⟨by have := qjZ h1; omega, ⟨by omega, fun x hx => ?_⟩, by have := (qik h).1; omega⟩
 have := qmn (x := x) ⟨h1, qjF h8 x hx⟩
 unfold M.qm7; omega
theorem qmI {p : List D.Ins} {x : D.Warp} {rg : List Int} (h : M.Runs p x) (hl : rg.length = 32) (hw : rg.all M.isWord = true) : M.Runs p ⟨x.Number, x.Frames, rg⟩ := by
 obtain ⟨h1, h2, h3⟩ := h
 refine ⟨h1, ?_, h3⟩
 simp only [M.qfN, Bool.and_eq_true, beq_iff_eq] at h2 ⊢
 exact ⟨h2.1, hl, hw, h2.2.2.2⟩
theorem qmV {p : List D.Ins} {x : D.Warp} (h : M.Runs p x) : M.Fine p (M.qhz p x) := by
 obtain ⟨t1, t2, t3, t4, t5, t6, t7, t8, t9⟩ := qdX h
 obtain ⟨f1, f2, f3, f4, f5, f6⟩ := qhf h
 have hx := h.2.2
 refine ⟨h.1, ?_⟩
 simp only [M.qhz, M.qfN, M.qgD, Bool.and_eq_true, beq_iff_eq]
 refine ⟨by simp only [M.isIn, Bool.and_eq_true, decide_eq_true_eq]; exact ⟨t8, t9⟩, t4, f6, qlk (qiG f1 hx ⟨by omega, by omega⟩) (by simp only [M.qei, List.length_set]; exact f2) fun _ => ?_⟩
 rw [(qhD hx _).1, (qhD hx _).2]
 exact ⟨f3, f4⟩
theorem qhe {b : D.Block} {w : Int} (h : M.qiW b w) : M.Live b w ∧ M.waits b w = false ∧ (M.qcM (M.qd6 b w) = true → M.Goes b.Code (rd b.Warps w)) := by
 obtain ⟨hh, hg⟩ := h
 simp only [M.qfq, Bool.and_eq_true, Bool.not_eq_true'] at hg
 obtain ⟨g1, g2, g3⟩ := hg
 have hx : (rd b.Warps w).Frames ≠ [] := by simpa using g1
 refine ⟨⟨hh, hx⟩, g2, fun hl => ⟨qgA hh hx, ?_⟩⟩
 have hl : M.qcM (M.qaI b.Code (rd b.Warps w)) = true := hl
 rw [if_pos hl] at g3
 simp only [M.qaJ, g1, hl, g3, Bool.not_false, Bool.and_self]
theorem ql7 (p : List D.Ins) (x : D.Warp) : (M.stepW p x).Number = x.Number := by
 unfold M.stepW M.qgD
 split <;> rfl
theorem qi1 {b : D.Block} {w : Int} {i : D.Ins} (h0 : 0 ≤ w) (h1 : w < (b.Warps.length : Int)) : rd (M.qcK b w i).Warps w = ⟨(rd b.Warps w).Number, (rd b.Warps w).Frames, (M.qjm i (rd b.Warps w) b.Memory).1⟩ := by
 unfold M.qcK
 exact qno h0 (by simpa using h1)
theorem qjD {b : D.Block} {w : Int} (h : M.Live b w) (hl : M.qcM (M.qd6 b w) = false) : qjP (M.qjm (M.qd6 b w) (rd b.Warps w) b.Memory) := qj0 (qkh h hl).1 (qkI h) 8 (Nat.le_refl _)
def actW (b : D.Block) (w : Int) : D.Warp := if M.qcM (M.qd6 b w) then M.stepW b.Code (rd b.Warps w) else M.qhz b.Code (rd (M.qcK b w (M.qd6 b w)).Warps w)
theorem qhL (b : D.Block) (w : Int) : (M.actB b w).Warps = b.Warps.set w.toNat (actW b w) := by
 unfold M.actB actW
 split <;> rfl
theorem qoi {b : D.Block} {w : Int} (h : M.qiW b w) : M.Fine b.Code (actW b w) ∧ (actW b w).Number = w := by
 obtain ⟨hv, _, hg⟩ := qhe h
 obtain ⟨h0, h1, hp, hw, hn, hok⟩ := qen hv.1
 unfold actW
 split
 ·rename_i e; exact ⟨qmi (hg e), by rw [ql7, hn]⟩
 ·rename_i e
  have e := Bool.eq_false_iff.2 e
  rw [qi1 h0 h1]
  have hm := qjD hv e
  exact ⟨qmV (qmI (qgA hv.1 hv.2) hm.l1 hm.w1), hn⟩
theorem qm2 (b : D.Block) (w : Int) : (⟨b.Code, (M.actB b w).Warps, (M.actB b w).Memory, (M.actB b w).Waiting, (M.actB b w).Phase⟩ : D.Block) = M.actB b w := by
 unfold M.actB
 split <;> rfl
theorem qjw (b : D.Block) (w : Int) : (M.actB b w).Code = b.Code := by unfold M.actB; split <;> rfl
theorem qhF (b : D.Block) (w : Int) : (M.actB b w).Phase = b.Phase := by unfold M.actB; split <;> rfl
theorem qiY (b : D.Block) (w : Int) : (M.actB b w).Warps.length = b.Warps.length := by rw [qhL, List.length_set]
theorem qnN {b : D.Block} {w : Int} (h : M.qiW b w) : (M.actB b w).Memory.length = 32 ∧ (M.actB b w).Memory.all M.isWord = true := by
 obtain ⟨hv, _, hg⟩ := qhe h
 unfold M.actB
 split
 ·have := qik (qen hv.1).2.2.2.2.2; exact this
 ·rename_i e
  have hm := qjD hv (Bool.eq_false_iff.2 e)
  exact ⟨hm.l2, hm.w2⟩
theorem qmJ {b : D.Block} {w : Int} (h : M.qiW b w) : 0 ≤ (M.actB b w).Waiting ∧ (M.actB b w).Waiting < (2 : Int) ^ b.Warps.length := by
 obtain ⟨hv, _, hg⟩ := qhe h
 obtain ⟨h0, h1, hp, hw, hn, hok⟩ := qen hv.1
 obtain ⟨p1, p2, p3, p4, p5, p6, p7, p8⟩ := qhj hok
 have hb : b.Waiting < (2 : Int) ^ b.Warps.length := by rw [qis p2 p3] at p5; omega
 obtain ⟨k, rfl⟩ := Int.eq_ofNat_of_zero_le h0
 unfold M.actB
 split
 ·exact ⟨p4, hb⟩
 ·show 0 ≤ (if (M.qd6 b (k : Int)).Op = 16 then qgS .i64 b.Waiting (M.qj1 (k : Int)) else b.Waiting) ∧ (if (M.qd6 b (k : Int)).Op = 16 then qgS .i64 b.Waiting (M.qj1 (k : Int)) else b.Waiting) < _
  split
  ·exact qoM p2 p3 (by omega) p4 p5
  ·exact ⟨p4, hb⟩
theorem qlj {b : D.Block} {w : Int} (h : M.qiW b w) : M.qdq b.Code 0 (M.actB b w).Warps = true := by
 obtain ⟨hv, _, hg⟩ := qhe h
 obtain ⟨h0, h1, hp, hw, hn, hok⟩ := qen hv.1
 obtain ⟨q1, q2⟩ := qoi h
 rw [qhL]
 refine qj5 (qhj hok).2.2.2.2.2.2.2 ?_
 simp only [M.qgT, Bool.and_eq_true, beq_iff_eq]
 exact ⟨by rw [q2]; omega, q1.2⟩
theorem qhI (b : D.Block) (w : Int) : (M.qf1 b w).Code = b.Code := by unfold M.qf1 M.qhN; split <;> exact qjw b w
theorem qjc (b : D.Block) (w : Int) : (M.qf1 b w).Warps = b.Warps.set w.toNat (actW b w) := by unfold M.qf1 M.qhN; split <;> exact qhL b w
theorem qn5 (b : D.Block) (w : Int) : (M.qf1 b w).Memory = (M.actB b w).Memory := by unfold M.qf1 M.qhN; split <;> rfl
theorem qj2 (b : D.Block) (w : Int) : (M.qf1 b w).Phase = b.Phase ∨ (M.qf1 b w).Phase = b.Phase + 1 := by
 unfold M.qf1 M.qhN
 split
 ·right; show (M.actB b w).Phase + 1 = _; rw [qhF]
 ·left; exact qhF b w
theorem qnE {b : D.Block} {w : Int} (h : M.qiW b w) (hp : (M.qf1 b w).Phase ≤ 100000) : M.qcT (M.qf1 b w) = true := by
 obtain ⟨hv, _, hg⟩ := qhe h
 obtain ⟨h0, h1, hpr, hw, hn, hok⟩ := qen hv.1
 obtain ⟨p1, p2, p3, p4, p5, p6, p7, p8⟩ := qhj hok
 have hlen : (M.qf1 b w).Warps.length = b.Warps.length := by rw [qjc, List.length_set]
 refine qoN (by rw [qhI]; exact p1) (by rw [hlen]; exact ⟨p2, p3⟩) (by rw [qn5]; exact qnN h) ?_ ⟨by rcases qj2 b w with e | e <;> omega, hp⟩ (by rw [qhI, qjc, ← qhL]; exact qlj h)
 rw [hlen, qis p2 p3]
 have hpos : (2 : Int) ≤ (2 : Int) ^ b.Warps.length := by rcases (by omega : b.Warps.length = 1 ∨ b.Warps.length = 2 ∨ b.Warps.length = 3) with e | e | e <;> rw [e] <;> decide
 obtain ⟨w0, w1⟩ := qmJ h
 unfold M.qf1 M.qhN
 split
 ·exact ⟨Int.le_refl _, by show (0 : Int) ≤ _; omega⟩
 ·rename_i e
  refine ⟨w0, ?_⟩
  by_cases ef : (M.actB b w).Waiting = (2 : Int) ^ b.Warps.length - 1
  ·exfalso
   apply e
   unfold M.qbp
   rw [qiO (by rw [qiY]; exact p3) (by rw [qiY]; exact ef) _ (Nat.le_refl _), Bool.true_and, bne_iff_ne]
   omega
  ·omega
end Go.V
namespace Go.V
open IntKind (wrap)
def wp.qbV (s0 : D.Block) (x1 : Int) (Q : (D.Block × (List D.Warp) × (List Int)) → Prop) : Prop :=
 (M.qez s0 x1 ∧ ∀ r25, r25 = M.qch s0 x1 → ((0 ≤ x1 ∧ x1 < (s0.Warps.length : Int)) ∧ (M.qe7 (rd s0.Warps x1) ∧ ∀ r36, r36 = M.qbE (rd s0.Warps x1) → ((0 ≤ x1 ∧ x1 < (s0.Warps.length : Int)) ∧ qd7 (σ := Int × (List Int) × (List Int) × Unit) (fun (p244 : Int × (List Int) × (List Int) × Unit) next143 => match p244 with | (i135, xs136, xs138, _) => qa1 (decide (i135 < 8)) ((∀ r145, r145 = M.qbG r36 i135 → qa1 (!r145) (next143 ((wrap .i64 (i135 + 1)), xs136, xs138, ())) (((0 ≤ (wrap .i64 ((wrap .i64 (i135 * 4)) + r25.A)) ∧ (wrap .i64 ((wrap .i64 (i135 * 4)) + r25.A)) < (xs138.length : Int)) ∧ ((0 ≤ (wrap .i64 ((wrap .i64 (i135 * 4)) + r25.B)) ∧ (wrap .i64 ((wrap .i64 (i135 * 4)) + r25.B)) < (xs138.length : Int)) ∧ qa1 (r25.Op == 13) (((0 ≤ (Int.tmod (rd xs138 (wrap .i64 ((wrap .i64 (i135 * 4)) + r25.B))) 32) ∧ (Int.tmod (rd xs138 (wrap .i64 ((wrap .i64 (i135 * 4)) + r25.B))) 32) < (xs136.length : Int)) ∧ ((0 ≤ (wrap .i64 ((wrap .i64 (i135 * 4)) + r25.A)) ∧ (wrap .i64 ((wrap .i64 (i135 * 4)) + r25.A)) < (xs138.length : Int)) ∧ next143 ((wrap .i64 (i135 + 1)), xs136, (List.set xs138 ((wrap .i64 ((wrap .i64 (i135 * 4)) + r25.A)).toNat) (rd xs136 (Int.tmod (rd xs138 (wrap .i64 ((wrap .i64 (i135 * 4)) + r25.B))) 32))), ())))) (qa1 (r25.Op == 14) (((0 ≤ (Int.tmod (rd xs138 (wrap .i64 ((wrap .i64 (i135 * 4)) + r25.A))) 32) ∧ (Int.tmod (rd xs138 (wrap .i64 ((wrap .i64 (i135 * 4)) + r25.A))) 32) < (xs136.length : Int)) ∧ next143 ((wrap .i64 (i135 + 1)), (List.set xs136 ((Int.tmod (rd xs138 (wrap .i64 ((wrap .i64 (i135 * 4)) + r25.A))) 32).toNat) (rd xs138 (wrap .i64 ((wrap .i64 (i135 * 4)) + r25.B)))), xs138, ()))) (qa1 (r25.Op == 15) (((0 ≤ (Int.tmod (rd xs138 (wrap .i64 ((wrap .i64 (i135 * 4)) + r25.A))) 32) ∧ (Int.tmod (rd xs138 (wrap .i64 ((wrap .i64 (i135 * 4)) + r25.A))) 32) < (xs136.length : Int)) ∧ (∀ r218, r218 = M.qbr (rd xs136 (Int.tmod (rd xs138 (wrap .i64 ((wrap .i64 (i135 * 4)) + r25.A))) 32)) (rd xs138 (wrap .i64 ((wrap .i64 (i135 * 4)) + r25.B))) → ((0 ≤ (Int.tmod (rd xs138 (wrap .i64 ((wrap .i64 (i135 * 4)) + r25.A))) 32) ∧ (Int.tmod (rd xs138 (wrap .i64 ((wrap .i64 (i135 * 4)) + r25.A))) 32) < (xs136.length : Int)) ∧ next143 ((wrap .i64 (i135 + 1)), (List.set xs136 ((Int.tmod (rd xs138 (wrap .i64 ((wrap .i64 (i135 * 4)) + r25.A))) 32).toNat) r218), xs138, ()))))) (next143 ((wrap .i64 (i135 + 1)), xs136, xs138, ()))))))))) (Q ((⟨s0.Code, (List.set s0.Warps (x1.toNat) (⟨(rd s0.Warps x1).Number, (rd s0.Warps x1).Frames, xs138⟩ : D.Warp)), xs136, s0.Waiting, s0.Phase⟩ : D.Block), (List.set s0.Warps (x1.toNat) (⟨(rd s0.Warps x1).Number, (rd s0.Warps x1).Frames, xs138⟩ : D.Warp)), xs136))) (0, s0.Memory, (rd s0.Warps x1).Regs, ())))))
def wp.qbp (s0 : D.Block) (Q : Bool → Prop) : Prop :=
 qd7 (σ := Int × Unit) (fun (p55 : Int × Unit) next27 => match p55 with | (i23, _) => qa1 (decide (i23 < (s0.Warps.length : Int))) (((0 ≤ i23 ∧ i23 < (s0.Warps.length : Int)) ∧ qa1 (decide (((rd s0.Warps i23).Frames.length : Int) > 0)) (((0 ≤ i23) ∧ qa1 ((qdH .i64 (Int.fdiv s0.Waiting (2 ^ (min (i23.toNat) (IntKind.bits .i64)))) 1) == 0) (Q false) (next27 ((wrap .i64 (i23 + 1)), ())))) (next27 ((wrap .i64 (i23 + 1)), ())))) (Q (s0.Waiting != 0))) (0, ())
def wp.qds (s0 : D.Block) (x1 : Int) (Q : D.Block → Prop) : Prop :=
 (M.qgt s0 ∧ ∀ r25, r25 = M.qdj s0 → (M.qez s0 x1 ∧ ∀ r41, r41 = M.qch s0 x1 → qeZ (σ := Int × Int × (List D.Warp) × (List Int) × Unit) (fun J57 => (∀ r60, r60 = M.qcA r41 → qa1 r60 (((0 ≤ x1 ∧ x1 < (r25.Warps.length : Int)) ∧ ((0 ≤ x1 ∧ x1 < (s0.Warps.length : Int)) ∧ (M.qgu s0.Code (rd s0.Warps x1) ∧ ∀ r84, r84 = M.qdk s0.Code (rd s0.Warps x1) → ((0 ≤ x1 ∧ x1 < (r25.Warps.length : Int)) ∧ J57 (r25.Waiting, r25.Phase, (List.set r25.Warps (x1.toNat) (⟨r84.Number, r84.Frames, r84.Regs⟩ : D.Warp)), r25.Memory, ())))))) ((M.qfI r25 x1 ∧ ∀ r97, r97 = M.qbV r25 x1 → qeZ (σ := Int × Int × Unit) (fun J108 => qa1 (r41.Op == 16) (((0 ≤ x1) ∧ J108 ((qgS .i64 r97.1.Waiting (wrap .i64 (1 * 2 ^ (min (x1.toNat) (IntKind.bits .i64))))), r97.1.Phase, ()))) (J108 (r97.1.Waiting, r97.1.Phase, ()))) (fun (p151 : Int × Int × Unit) => match p151 with | (i106, i107, _) => ((0 ≤ x1 ∧ x1 < (r97.2.1.length : Int)) ∧ ((0 ≤ x1 ∧ x1 < (r97.2.1.length : Int)) ∧ ((0 ≤ x1 ∧ x1 < (r97.2.1.length : Int)) ∧ ((0 ≤ (wrap .i64 (((rd r97.2.1 x1).Frames.length : Int) - 1)) ∧ (wrap .i64 (((rd r97.2.1 x1).Frames.length : Int) - 1)) < (((rd r97.2.1 x1).Frames).length : Int)) ∧ ((0 ≤ (wrap .i64 (((rd r97.2.1 x1).Frames.length : Int) - 1)) ∧ (wrap .i64 (((rd r97.2.1 x1).Frames.length : Int) - 1)) < (((rd r97.2.1 x1).Frames).length : Int)) ∧ ((0 ≤ x1 ∧ x1 < (r97.2.1.length : Int)) ∧ (M.qcO s0.Code (⟨(rd r97.2.1 x1).Number, (List.set ((rd r97.2.1 x1).Frames) ((wrap .i64 (((rd r97.2.1 x1).Frames.length : Int) - 1)).toNat) (⟨(wrap .i64 ((rd ((rd r97.2.1 x1).Frames) (wrap .i64 (((rd r97.2.1 x1).Frames.length : Int) - 1))).Pc + 1)), (rd ((rd r97.2.1 x1).Frames) (wrap .i64 (((rd r97.2.1 x1).Frames.length : Int) - 1))).Stop, (rd ((rd r97.2.1 x1).Frames) (wrap .i64 (((rd r97.2.1 x1).Frames.length : Int) - 1))).Mask⟩ : D.Frame)), (rd r97.2.1 x1).Regs⟩ : D.Warp) ∧ ∀ r138, r138 = M.qaG s0.Code (⟨(rd r97.2.1 x1).Number, (List.set ((rd r97.2.1 x1).Frames) ((wrap .i64 (((rd r97.2.1 x1).Frames.length : Int) - 1)).toNat) (⟨(wrap .i64 ((rd ((rd r97.2.1 x1).Frames) (wrap .i64 (((rd r97.2.1 x1).Frames.length : Int) - 1))).Pc + 1)), (rd ((rd r97.2.1 x1).Frames) (wrap .i64 (((rd r97.2.1 x1).Frames.length : Int) - 1))).Stop, (rd ((rd r97.2.1 x1).Frames) (wrap .i64 (((rd r97.2.1 x1).Frames.length : Int) - 1))).Mask⟩ : D.Frame)), (rd r97.2.1 x1).Regs⟩ : D.Warp) → ((0 ≤ x1 ∧ x1 < (r97.2.1.length : Int)) ∧ J57 (i106, i107, (List.set r97.2.1 (x1.toNat) (⟨r138.Number, r138.Frames, r138.Regs⟩ : D.Warp)), r97.2.2, ())))))))))))))) (fun (p168 : Int × Int × (List D.Warp) × (List Int) × Unit) => match p168 with | (i50, i51, xs52, xs55, _) => (M.qgN (⟨r25.Code, xs52, xs55, i50, i51⟩ : D.Block) ∧ ∀ r154, r154 = M.qbp (⟨r25.Code, xs52, xs55, i50, i51⟩ : D.Block) → qa1 r154 (Q (⟨r25.Code, xs52, xs55, 0, (wrap .i64 (i51 + 1))⟩ : D.Block)) (Q (⟨r25.Code, xs52, xs55, i50, i51⟩ : D.Block))))))
end Go.V
namespace Go.V
open IntKind (wrap)
theorem wp.qbV.math (b : D.Block) (w : Int) (h : M.qfI b w) : wp.qbV b w (fun r => r = M.qbV b w) := by
 obtain ⟨hv, hl⟩ := h
 obtain ⟨h0, h1, hp, hw, hn, hok⟩ := qen hv.1
 obtain ⟨hi, hop⟩ := qkh hv hl
 have hlong : M.qe7 (rd b.Warps w) := by
  have := (qdX (qgA hv.1 hv.2)).2.2.1
  show _ ≤ _; omega
 refine ⟨⟨hv.1, hv.2⟩, fun r25 hr25 => ⟨⟨h0, h1⟩, hlong, fun r36 hr36 => ⟨⟨h0, h1⟩, ?_⟩⟩⟩
 have hr25 : r25 = M.qd6 b w := hr25
 have hr36 : r36 = M.qb5 (rd b.Warps w) := hr36
 subst hr25 hr36
 have hs0 := qkI hv
 let G : Nat → List Int × List Int := M.qkG (M.qd6 b w) (M.qb5 (rd b.Warps w)) ((rd b.Warps w).Regs, b.Memory)
 have hG : ∀ k, k ≤ 8 → qjP (G k) := fun k hk => qj0 hi hs0 k hk
 refine qd9 8 (fun k => ((k : Int), (G k).2, (G k).1, ())) (fun _ => True) rfl trivial (fun k hk _ next hn => ?_) fun _ next => qaC (by simp) rfl
 have hn := hn trivial
 have hGk := hG k (by omega)
 have hnext : G (k + 1) = if M.qdo (M.qb5 (rd b.Warps w)) (k : Int) then M.qfd (M.qd6 b w) (G k) (k : Int) else G k := rfl
 rw [hnext] at hn
 dsimp only
 generalize G k = g at *
 generalize M.qd6 b w = i at *
 generalize M.qb5 (rd b.Warps w) = m at *
 obtain ⟨l1, w1, l2, w2⟩ := hGk
 obtain ⟨a0, a1, b0, b1⟩ := hi
 have eA : wrap .i64 ((wrap .i64 ((k : Int) * 4)) + i.A) = (k : Int) * 4 + i.A := by rw [w64 (x := (k : Int) * 4) (by omega) (by omega), w64 (by omega) (by omega)]
 have eB : wrap .i64 ((wrap .i64 ((k : Int) * 4)) + i.B) = (k : Int) * 4 + i.B := by rw [w64 (x := (k : Int) * 4) (by omega) (by omega), w64 (by omega) (by omega)]
 rw [eA, eB, up64 (n := 8) hk (by omega), l1, l2]
 have wA := qj6 (qhS w1 (z := (k : Int) * 4 + i.A) (by omega) (by omega))
 have wB := qj6 (qhS w1 (z := (k : Int) * 4 + i.B) (by omega) (by omega))
 refine qaE (by simp; omega) fun r hr => qa3 (fun e => ?_) fun e => ?_
 ·have : M.qdo m (k : Int) = false := by have hr : r = M.qdo m (k : Int) := hr; rw [← hr]; simpa using e
  rw [if_neg (by rw [this]; simp)] at hn
  exact hn
 ·have : M.qdo m (k : Int) = true := by have hr : r = M.qdo m (k : Int) := hr; rw [← hr]; simpa using e
  rw [if_pos this] at hn
  unfold M.qfd at hn
  refine ⟨⟨by omega, by omega⟩, ⟨by omega, by omega⟩, qa3 (fun e1 => ?_) fun e1 => qa3 (fun e2 => ?_) fun e2 => qa3 (fun e3 => ?_) fun e3 => ?_⟩
  ·rw [if_pos (by simpa using e1)] at hn
   exact ⟨⟨wB.1, by omega⟩, ⟨by omega, by omega⟩, hn⟩
  ·rw [if_neg (by simpa using e1), if_pos (by simpa using e2)] at hn
   exact ⟨⟨wA.1, by omega⟩, hn⟩
  ·rw [if_neg (by simpa using e1), if_neg (by simpa using e2), if_pos (by simpa using e3)] at hn
   refine ⟨⟨wA.1, by omega⟩, fun r2 hr2 => ⟨⟨wA.1, by omega⟩, ?_⟩⟩
   have hr2 : r2 = M.addW (rd g.2 (Int.tmod (rd g.1 ((k : Int) * 4 + i.A)) 32)) (rd g.1 ((k : Int) * 4 + i.B)) := hr2
   rw [hr2]; exact hn
  ·rw [if_neg (by simpa using e1), if_neg (by simpa using e2), if_neg (by simpa using e3)] at hn
   exact hn
theorem wp.qbp.math (b : D.Block) (h : M.qgN b) : wp.qbp b (fun r => r = M.qbp b) := by
 have hL : b.Warps.length ≤ 9223372036854775807 := h
 refine qd9 b.Warps.length (fun k => ((k : Int), ())) (fun k => M.qfh b k = true) rfl rfl (fun k hk hF next hn => ?_) fun hF next => ?_
 ·have hs : M.qfh b (k + 1) = (M.qfh b k && ((rd b.Warps (k : Int)).Frames.isEmpty || M.waits b (k : Int))) := rfl
  rw [hF, Bool.true_and] at hs
  dsimp only
  rw [up64 hk hL, qmA]
  refine qaE (by simp; omega) ⟨⟨by omega, by omega⟩, qa3 (fun e => ⟨by omega, qa3 (fun e2 => ?_) fun e2 => ?_⟩) fun e => ?_⟩
  ·have : M.qfh b (k + 1) = false := by
     rw [hs, show M.waits b (k : Int) = false by simpa using e2, Bool.or_false]
     simp only [decide_eq_true_eq] at e
     cases hx : (rd b.Warps (k : Int)).Frames with
     | nil => rw [hx] at e; simp at e
     | cons _ _ => rfl
   show false = M.qbp b
   unfold M.qbp
   rw [qhA this _ (by omega), Bool.false_and]
  ·refine hn ?_
   rw [hs, show M.waits b (k : Int) = true by simpa using e2, Bool.or_true]
  ·refine hn ?_
   have : (rd b.Warps (k : Int)).Frames = [] := by
    simp only [decide_eq_false_iff_not] at e
    exact List.length_eq_zero_iff.1 (by omega)
   rw [hs, this]; rfl
 ·refine qaC (by simp) ?_
  show (b.Waiting != 0) = M.qbp b
  unfold M.qbp
  rw [hF, Bool.true_and]
theorem qmK {fs : List D.Frame} (h : fs ≠ []) (hl : fs.length ≤ 24) (h0 : 0 ≤ (M.qd0 fs).Pc) (h1 : (M.qd0 fs).Pc ≤ 32) :
    (List.set fs ((wrap .i64 ((fs.length : Int) - 1)).toNat) (⟨(wrap .i64 ((rd fs (wrap .i64 ((fs.length : Int) - 1))).Pc + 1)), (rd fs (wrap .i64 ((fs.length : Int) - 1))).Stop, (rd fs (wrap .i64 ((fs.length : Int) - 1))).Mask⟩ : D.Frame)) = M.qei fs ((M.qd0 fs).Pc + 1) := by
 have hpos : 0 < fs.length := List.length_pos_iff.2 h
 rw [qdp (by omega), show ((fs.length : Int) - 1).toNat = fs.length - 1 by omega]
 unfold M.qei
 have e : rd fs ((fs.length : Int) - 1) = M.qd0 fs := rfl
 rw [e, w64 (by omega) (by omega)]
theorem wp.qds.math (b : D.Block) (w : Int) (h : M.qgs b w) : wp.qds b w (fun r => r = M.qds b w) := by
 obtain ⟨hv, _, hg⟩ := qhe h
 obtain ⟨h0, h1, hp, hw, hn, hok⟩ := qen hv.1
 have hfit : M.BFit b := qi5 (qhH hok)
 obtain ⟨t1, t2, t3, t4, t5, t6, t7, t8, t9⟩ := qdX (qgA hv.1 hv.2)
 obtain ⟨p1, p2, p3, p4, p5, p6, p7, p8⟩ := qhj hok
 refine ⟨hfit, fun r25 hr25 => ?_⟩
 have hr25 : r25 = b := hr25
 subst hr25
 refine ⟨⟨hv.1, hv.2⟩, fun r41 hr41 => ?_⟩
 have hr41 : r41 = M.qd6 r25 w := hr41
 subst hr41
 refine qfF ((M.actB r25 w).Waiting, (M.actB r25 w).Phase, (M.actB r25 w).Warps, (M.actB r25 w).Memory, ()) ?_ fun J hJ => ?_
 ·dsimp only
  rw [qm2]
  refine ⟨by show _ ≤ _; rw [qiY]; omega, fun r hr => ?_⟩
  have hr : r = M.qbp (M.actB r25 w) := hr
  refine qa3 (fun e => ?_) fun e => ?_
  ·show _ = M.qf1 r25 w
   unfold M.qf1 M.qhN
   rw [if_pos (hr.symm.trans e), qjw, qhF, w64 (by omega) (by omega)]
  ·show _ = M.qf1 r25 w
   unfold M.qf1 M.qhN
   rw [if_neg (by rw [← hr, e]; simp)]
 ·refine fun r60 hr60 => qa3 (fun e => ?_) fun e => ?_
  all_goals have hr60 : r60 = M.qcM (M.qd6 r25 w) := hr60
  ·have hl := hr60.symm.trans e
   refine ⟨⟨h0, h1⟩, ⟨h0, h1⟩, hg hl, fun r84 hr84 => ⟨⟨h0, h1⟩, ?_⟩⟩
   have hr84 : r84 = M.stepW r25.Code (rd r25.Warps w) := hr84
   rw [show M.actB r25 w = M.qlu r25 w (M.stepW r25.Code (rd r25.Warps w)) from if_pos hl] at hJ
   rw [hr84]
   exact hJ
  ·have hl := hr60.symm.trans e
   have hB : M.actB r25 w = ⟨r25.Code, r25.Warps.set w.toNat (M.qhz r25.Code (rd (M.qcK r25 w (M.qd6 r25 w)).Warps w)), (M.qcK r25 w (M.qd6 r25 w)).Memory, if (M.qd6 r25 w).Op = 16 then qgS .i64 r25.Waiting (M.qj1 w) else r25.Waiting, r25.Phase⟩ := if_neg (by rw [hl]; simp)
   refine ⟨⟨hv, hl⟩, fun r97 hr97 => ?_⟩
   have hr97 : r97 = M.qbV r25 w := hr97
   subst hr97
   refine qfF ((M.actB r25 w).Waiting, (M.actB r25 w).Phase, ()) ?_ fun J2 hJ2 => ?_
   ·dsimp only
    have hX := qi1 (i := M.qd6 r25 w) h0 h1
    have hlen : (M.qcK r25 w (M.qd6 r25 w)).Warps.length = r25.Warps.length := by simp [M.qcK]
    have hset : ∀ y : D.Warp, List.set (M.qcK r25 w (M.qd6 r25 w)).Warps w.toNat y = r25.Warps.set w.toNat y := fun y => by simp [M.qcK]
    have hF : (rd (M.qcK r25 w (M.qd6 r25 w)).Warps w).Frames = (rd r25.Warps w).Frames := by rw [hX]
    have i0 : (0 ≤ w ∧ w < ((M.qbV r25 w).2.1.length : Int)) := ⟨h0, by show w < ((M.qcK r25 w (M.qd6 r25 w)).Warps.length : Int); rw [hlen]; exact h1⟩
    have e2 : (M.qbV r25 w).2.1 = (M.qcK r25 w (M.qd6 r25 w)).Warps := rfl
    rw [e2] at *
    rw [hF, qmK hv.2 t3 t5 (by show M.qdF (rd r25.Warps w) ≤ 32; omega)]
    have j0 : (0 ≤ (wrap .i64 (((rd r25.Warps w).Frames.length : Int) - 1)) ∧ (wrap .i64 (((rd r25.Warps w).Frames.length : Int) - 1)) < (((rd r25.Warps w).Frames).length : Int)) := by
     rw [qdp (by omega)]; omega
    refine ⟨i0, i0, i0, j0, j0, i0, ?_, fun r hr => ⟨i0, ?_⟩⟩
    ·show _ ≤ _ ∧ _ ≤ _
     rw [hX]
     simp only [M.qei, List.length_set, (qjD hv hl).l1]
     omega
    ·have hr : r = M.qhz r25.Code (rd (M.qcK r25 w (M.qd6 r25 w)).Warps w) := by
       rw [hr]
       show M.qgD _ _ = M.qgD _ _
       rw [hF]
       unfold M.qdF
       rw [hF]
     rw [hset, hr]
     rw [hB] at hJ ⊢
     exact hJ
   ·rw [hB] at hJ2
    refine qa3 (fun e2 => ⟨h0, ?_⟩) fun e2 => ?_
    ·dsimp only at hJ2
     rw [if_pos (by simpa using e2)] at hJ2
     exact hJ2
    ·dsimp only at hJ2
     rw [if_neg (by simpa using e2)] at hJ2
     exact hJ2
end Go.V
namespace Go.V
open IntKind (wrap)
def wp.qbM (s0 : D.Block) (x1 : Int) (s2 : D.Ins) (Q : D.Block → Prop) : Prop :=
 ((0 ≤ x1 ∧ x1 < (s0.Warps.length : Int)) ∧ (M.qdi (rd s0.Warps x1) ∧ ∀ r25, r25 = M.qbh (rd s0.Warps x1) → (∀ r30, r30 = M.qcj r25 → qd7 (σ := Int × (List D.Warp) × (List Int) × Unit) (fun (p271 : Int × (List D.Warp) × (List Int) × Unit) next150 => match p271 with | (i141, xs142, xs145, _) => qa1 (decide (i141 < (r30.length : Int))) (((0 ≤ i141 ∧ i141 < (r30.length : Int)) ∧ ((0 ≤ x1 ∧ x1 < (xs142.length : Int)) ∧ (M.qec (rd xs142 x1) (rd r30 i141) ∧ qa1 (s2.Op == 13) (((0 ≤ s2.B ∧ s2.B < ((List.drop ((wrap .i64 ((rd r30 i141) * 4)).toNat) (List.take ((wrap .i64 ((wrap .i64 ((rd r30 i141) + 1)) * 4)).toNat) ((rd xs142 x1).Regs))).length : Int)) ∧ ((0 ≤ (Int.tmod (rd (List.drop ((wrap .i64 ((rd r30 i141) * 4)).toNat) (List.take ((wrap .i64 ((wrap .i64 ((rd r30 i141) + 1)) * 4)).toNat) ((rd xs142 x1).Regs))) s2.B) 32) ∧ (Int.tmod (rd (List.drop ((wrap .i64 ((rd r30 i141) * 4)).toNat) (List.take ((wrap .i64 ((wrap .i64 ((rd r30 i141) + 1)) * 4)).toNat) ((rd xs142 x1).Regs))) s2.B) 32) < (xs145.length : Int)) ∧ ((0 ≤ s2.A ∧ s2.A < ((List.drop ((wrap .i64 ((rd r30 i141) * 4)).toNat) (List.take ((wrap .i64 ((wrap .i64 ((rd r30 i141) + 1)) * 4)).toNat) ((rd xs142 x1).Regs))).length : Int)) ∧ next150 ((wrap .i64 (i141 + 1)), (List.set xs142 (x1.toNat) (⟨(rd xs142 x1).Number, (rd xs142 x1).Frames, (List.set ((rd xs142 x1).Regs) (((wrap .i64 ((rd r30 i141) * 4)).toNat) + (s2.A.toNat)) (rd xs145 (Int.tmod (rd (List.drop ((wrap .i64 ((rd r30 i141) * 4)).toNat) (List.take ((wrap .i64 ((wrap .i64 ((rd r30 i141) + 1)) * 4)).toNat) ((rd xs142 x1).Regs))) s2.B) 32)))⟩ : D.Warp)), xs145, ()))))) (qa1 (s2.Op == 14) (((0 ≤ s2.A ∧ s2.A < ((List.drop ((wrap .i64 ((rd r30 i141) * 4)).toNat) (List.take ((wrap .i64 ((wrap .i64 ((rd r30 i141) + 1)) * 4)).toNat) ((rd xs142 x1).Regs))).length : Int)) ∧ ((0 ≤ s2.B ∧ s2.B < ((List.drop ((wrap .i64 ((rd r30 i141) * 4)).toNat) (List.take ((wrap .i64 ((wrap .i64 ((rd r30 i141) + 1)) * 4)).toNat) ((rd xs142 x1).Regs))).length : Int)) ∧ ((0 ≤ (Int.tmod (rd (List.drop ((wrap .i64 ((rd r30 i141) * 4)).toNat) (List.take ((wrap .i64 ((wrap .i64 ((rd r30 i141) + 1)) * 4)).toNat) ((rd xs142 x1).Regs))) s2.A) 32) ∧ (Int.tmod (rd (List.drop ((wrap .i64 ((rd r30 i141) * 4)).toNat) (List.take ((wrap .i64 ((wrap .i64 ((rd r30 i141) + 1)) * 4)).toNat) ((rd xs142 x1).Regs))) s2.A) 32) < (xs145.length : Int)) ∧ next150 ((wrap .i64 (i141 + 1)), xs142, (List.set xs145 ((Int.tmod (rd (List.drop ((wrap .i64 ((rd r30 i141) * 4)).toNat) (List.take ((wrap .i64 ((wrap .i64 ((rd r30 i141) + 1)) * 4)).toNat) ((rd xs142 x1).Regs))) s2.A) 32).toNat) (rd (List.drop ((wrap .i64 ((rd r30 i141) * 4)).toNat) (List.take ((wrap .i64 ((wrap .i64 ((rd r30 i141) + 1)) * 4)).toNat) ((rd xs142 x1).Regs))) s2.B)), ()))))) (qa1 (s2.Op == 15) (((0 ≤ s2.A ∧ s2.A < ((List.drop ((wrap .i64 ((rd r30 i141) * 4)).toNat) (List.take ((wrap .i64 ((wrap .i64 ((rd r30 i141) + 1)) * 4)).toNat) ((rd xs142 x1).Regs))).length : Int)) ∧ ((0 ≤ (Int.tmod (rd (List.drop ((wrap .i64 ((rd r30 i141) * 4)).toNat) (List.take ((wrap .i64 ((wrap .i64 ((rd r30 i141) + 1)) * 4)).toNat) ((rd xs142 x1).Regs))) s2.A) 32) ∧ (Int.tmod (rd (List.drop ((wrap .i64 ((rd r30 i141) * 4)).toNat) (List.take ((wrap .i64 ((wrap .i64 ((rd r30 i141) + 1)) * 4)).toNat) ((rd xs142 x1).Regs))) s2.A) 32) < (xs145.length : Int)) ∧ ((0 ≤ s2.B ∧ s2.B < ((List.drop ((wrap .i64 ((rd r30 i141) * 4)).toNat) (List.take ((wrap .i64 ((wrap .i64 ((rd r30 i141) + 1)) * 4)).toNat) ((rd xs142 x1).Regs))).length : Int)) ∧ (∀ r248, r248 = M.qbQ (rd xs145 (Int.tmod (rd (List.drop ((wrap .i64 ((rd r30 i141) * 4)).toNat) (List.take ((wrap .i64 ((wrap .i64 ((rd r30 i141) + 1)) * 4)).toNat) ((rd xs142 x1).Regs))) s2.A) 32)) (rd (List.drop ((wrap .i64 ((rd r30 i141) * 4)).toNat) (List.take ((wrap .i64 ((wrap .i64 ((rd r30 i141) + 1)) * 4)).toNat) ((rd xs142 x1).Regs))) s2.B) → ((0 ≤ (Int.tmod (rd (List.drop ((wrap .i64 ((rd r30 i141) * 4)).toNat) (List.take ((wrap .i64 ((wrap .i64 ((rd r30 i141) + 1)) * 4)).toNat) ((rd xs142 x1).Regs))) s2.A) 32) ∧ (Int.tmod (rd (List.drop ((wrap .i64 ((rd r30 i141) * 4)).toNat) (List.take ((wrap .i64 ((wrap .i64 ((rd r30 i141) + 1)) * 4)).toNat) ((rd xs142 x1).Regs))) s2.A) 32) < (xs145.length : Int)) ∧ next150 ((wrap .i64 (i141 + 1)), xs142, (List.set xs145 ((Int.tmod (rd (List.drop ((wrap .i64 ((rd r30 i141) * 4)).toNat) (List.take ((wrap .i64 ((wrap .i64 ((rd r30 i141) + 1)) * 4)).toNat) ((rd xs142 x1).Regs))) s2.A) 32).toNat) r248), ()))))))) (next150 ((wrap .i64 (i141 + 1)), xs142, xs145, ())))))))) (Q (⟨s0.Code, xs142, xs145, s0.Waiting, s0.Phase⟩ : D.Block))) (0, s0.Warps, s0.Memory, ()))))
def wp.qbo (s0 : D.Block) (x1 : Int) (Q : (Bool × D.Block) → Prop) : Prop :=
 (M.qe8 s0 x1 ∧ ∀ r21, r21 = M.qaB s0 x1 → qeZ (σ := (List D.Warp) × Int × Int × (List Int) × Unit) (fun J38 => (∀ r41, r41 = M.qcz r21.1 → qa1 r41 (((0 ≤ x1 ∧ x1 < (s0.Warps.length : Int)) ∧ ((0 ≤ x1 ∧ x1 < (s0.Warps.length : Int)) ∧ (M.qfr (rd s0.Warps x1) s0.Code ∧ ∀ r51, r51 = M.qbg (rd s0.Warps x1) s0.Code → J38 ((List.set s0.Warps (x1.toNat) (⟨r51.2.Number, r51.2.Frames, r51.2.Regs⟩ : D.Warp)), s0.Waiting, s0.Phase, s0.Memory, ()))))) (qeZ (σ := (List D.Warp) × Int × Int × (List Int) × Unit) (fun J68 => qa1 (r21.1.Op == 16) (((0 ≤ x1) ∧ J68 (s0.Warps, (qgS .i64 s0.Waiting (wrap .i64 (1 * 2 ^ (min (x1.toNat) (IntKind.bits .i64))))), s0.Phase, s0.Memory, ()))) ((M.qeL s0 x1 r21.1 ∧ ∀ r74, r74 = M.qbM s0 x1 r21.1 → J68 (r74.Warps, r74.Waiting, r74.Phase, r74.Memory, ())))) (fun (p111 : (List D.Warp) × Int × Int × (List Int) × Unit) => match p111 with | (xs61, i64, i65, xs66, _) => ((0 ≤ x1 ∧ x1 < (xs61.length : Int)) ∧ ((0 ≤ (wrap .i64 (((rd xs61 x1).Frames.length : Int) - 1)) ∧ (wrap .i64 (((rd xs61 x1).Frames.length : Int) - 1)) < (((rd xs61 x1).Frames).length : Int)) ∧ ((0 ≤ (wrap .i64 (((rd xs61 x1).Frames.length : Int) - 1)) ∧ (wrap .i64 (((rd xs61 x1).Frames.length : Int) - 1)) < (((rd xs61 x1).Frames).length : Int)) ∧ ((0 ≤ x1 ∧ x1 < (xs61.length : Int)) ∧ (M.qef (⟨(rd xs61 x1).Number, (List.set ((rd xs61 x1).Frames) ((wrap .i64 (((rd xs61 x1).Frames.length : Int) - 1)).toNat) (⟨(wrap .i64 ((rd ((rd xs61 x1).Frames) (wrap .i64 (((rd xs61 x1).Frames.length : Int) - 1))).Pc + 1)), (rd ((rd xs61 x1).Frames) (wrap .i64 (((rd xs61 x1).Frames.length : Int) - 1))).Stop, (rd ((rd xs61 x1).Frames) (wrap .i64 (((rd xs61 x1).Frames.length : Int) - 1))).Mask⟩ : D.Frame)), (rd xs61 x1).Regs⟩ : D.Warp) (s0.Code.length : Int) ∧ ∀ r103, r103 = M.qbw (⟨(rd xs61 x1).Number, (List.set ((rd xs61 x1).Frames) ((wrap .i64 (((rd xs61 x1).Frames.length : Int) - 1)).toNat) (⟨(wrap .i64 ((rd ((rd xs61 x1).Frames) (wrap .i64 (((rd xs61 x1).Frames.length : Int) - 1))).Pc + 1)), (rd ((rd xs61 x1).Frames) (wrap .i64 (((rd xs61 x1).Frames.length : Int) - 1))).Stop, (rd ((rd xs61 x1).Frames) (wrap .i64 (((rd xs61 x1).Frames.length : Int) - 1))).Mask⟩ : D.Frame)), (rd xs61 x1).Regs⟩ : D.Warp) (s0.Code.length : Int) → J38 ((List.set xs61 (x1.toNat) (⟨r103.Number, r103.Frames, (rd xs61 x1).Regs⟩ : D.Warp)), i64, i65, xs66, ())))))))))) (fun (p149 : (List D.Warp) × Int × Int × (List Int) × Unit) => match p149 with | (xs31, i34, i35, xs36, _) => qa1 (i34 == 0) (Q (true, (⟨s0.Code, xs31, xs36, i34, i35⟩ : D.Block))) (qd7 (σ := Int × Unit) (fun (p144 : Int × Unit) next118 => match p144 with | (i114, _) => qa1 (decide (i114 < (xs31.length : Int))) (((0 ≤ i114 ∧ i114 < (xs31.length : Int)) ∧ (M.qej (⟨s0.Code, xs31, xs36, i34, i35⟩ : D.Block) i114 ∧ ∀ r126, r126 = M.qbB (⟨s0.Code, xs31, xs36, i34, i35⟩ : D.Block) i114 → qa1 (!r126) (qa1 (decide (((rd xs31 i114).Frames.length : Int) > 0)) (Q (true, (⟨s0.Code, xs31, xs36, i34, i35⟩ : D.Block))) (next118 ((wrap .i64 (i114 + 1)), ()))) (next118 ((wrap .i64 (i114 + 1)), ()))))) (Q ((decide ((wrap .i64 (i35 + 1)) ≤ 100000)), (⟨s0.Code, xs31, xs36, 0, (wrap .i64 (i35 + 1))⟩ : D.Block)))) (0, ()))))
end Go.V
namespace Go.V
open IntKind (wrap)
theorem qkT {ws : List D.Warp} {w : Int} : ws.set w.toNat ⟨(rd ws w).Number, (rd ws w).Frames, (rd ws w).Regs⟩ = ws := qnW ws w
theorem wp.qbM.math (b : D.Block) (w : Int) (i : D.Ins) (h : M.qeL b w i) : wp.qbM b w i (fun r => r = M.qbM b w i) := by
 obtain ⟨hv, rfl, hl⟩ := h
 obtain ⟨h0, h1, hp, hw, hn, hok⟩ := qen hv.1
 obtain ⟨hi, hop⟩ := qkh hv hl
 have hlong : M.qdi (rd b.Warps w) := by
  have := (qdX (qgA hv.1 hv.2)).2.2.1
  show _ ≤ _; omega
 refine ⟨⟨h0, h1⟩, hlong, fun r25 hr25 r30 hr30 => ?_⟩
 have hr25 : r25 = M.qb5 (rd b.Warps w) := hr25
 have hr30 : r30 = M.qfk r25 := hr30
 have hmem : ∀ k ∈ r30, 0 ≤ k ∧ k ≤ 7 := fun k hk => qiZ (m := r25) (hr30 ▸ hk)
 have hlen : r30.length ≤ 8 := by rw [hr30]; exact List.length_filter_le _ _
 have hs0 := qkI hv
 have hfin : M.qjm (M.qd6 b w) (rd b.Warps w) b.Memory = r30.foldl (M.qfd (M.qd6 b w)) ((rd b.Warps w).Regs, b.Memory) := by rw [hr30, hr25]; exact qne
 let G : Nat → List Int × List Int := fun k => (r30.take k).foldl (M.qfd (M.qd6 b w)) ((rd b.Warps w).Regs, b.Memory)
 have hG : ∀ k, qjP (G k) := fun k => qmY hi _ _ hs0 fun j hj => hmem j (List.mem_of_mem_take hj)
 refine qd9 r30.length (fun k => ((k : Int), b.Warps.set w.toNat ⟨(rd b.Warps w).Number, (rd b.Warps w).Frames, (G k).1⟩, (G k).2, ())) (fun _ => True) (by rw [show (G 0) = ((rd b.Warps w).Regs, b.Memory) from rfl, qkT]; rfl) trivial (fun k hk _ next hn => ?_) fun _ next => ?_
 ·have hn := hn trivial
  have hGk := hG k
  have hnext : G (k + 1) = M.qfd (M.qd6 b w) (G k) (rd r30 (k : Int)) := by
   show (r30.take (k + 1)).foldl _ _ = _
   rw [List.take_add_one, List.getElem?_eq_getElem hk, Option.toList_some, List.foldl_append, ← qdU hk]
   rfl
  rw [hnext] at hn
  have hm := hmem _ (qgg hk)
  dsimp only
  generalize G k = g at *
  generalize M.qd6 b w = i at *
  generalize rd r30 (k : Int) = l at *
  obtain ⟨l1, w1, l2, w2⟩ := hGk
  obtain ⟨a0, a1, b0, b1⟩ := hi
  have eX : rd (b.Warps.set w.toNat (⟨(rd b.Warps w).Number, (rd b.Warps w).Frames, g.1⟩ : D.Warp)) w = ⟨(rd b.Warps w).Number, (rd b.Warps w).Frames, g.1⟩ := qno h0 (by simpa using h1)
  have c1 : wrap .i64 (l * 4) = l * 4 := w64 (by omega) (by omega)
  have c2 : wrap .i64 ((wrap .i64 (l + 1)) * 4) = l * 4 + 4 := by rw [w64 (x := l + 1) (by omega) (by omega), w64 (by omega) (by omega)]; omega
  have hA : rd ((g.1.take (l * 4 + 4).toNat).drop (l * 4).toNat) i.A = rd g.1 (l * 4 + i.A) := by
   rw [qnn a0 (by omega) (by omega)]; congr 1; omega
  have hB : rd ((g.1.take (l * 4 + 4).toNat).drop (l * 4).toNat) i.B = rd g.1 (l * 4 + i.B) := by
   rw [qnn b0 (by omega) (by omega)]; congr 1; omega
  have hcl : ((g.1.take (l * 4 + 4).toNat).drop (l * 4).toNat).length = 4 := by simp; omega
  have wA := qj6 (qhS w1 (z := l * 4 + i.A) (by omega) (by omega))
  have wB := qj6 (qhS w1 (z := l * 4 + i.B) (by omega) (by omega))
  rw [eX]
  dsimp only
  rw [c1, c2, hA, hB, hcl, l2, up64 hk (by omega), List.length_set, show (l * 4).toNat + i.A.toNat = (l * 4 + i.A).toNat by omega, List.set_set]
  unfold M.qfd at hn
  refine qaE (by simp; omega) ⟨⟨by omega, by omega⟩, ⟨h0, h1⟩, ⟨l1, hm⟩, qa3 (fun e1 => ?_) fun e1 => qa3 (fun e2 => ?_) fun e2 => qa3 (fun e3 => ?_) fun e3 => ?_⟩
  ·rw [if_pos (by simpa using e1)] at hn
   exact ⟨⟨by omega, by omega⟩, ⟨wB.1, by omega⟩, ⟨by omega, by omega⟩, hn⟩
  ·rw [if_neg (by simpa using e1), if_pos (by simpa using e2)] at hn
   exact ⟨⟨by omega, by omega⟩, ⟨by omega, by omega⟩, ⟨wA.1, by omega⟩, hn⟩
  ·rw [if_neg (by simpa using e1), if_neg (by simpa using e2), if_pos (by simpa using e3)] at hn
   refine ⟨⟨by omega, by omega⟩, ⟨wA.1, by omega⟩, ⟨by omega, by omega⟩, fun r2 hr2 => ⟨⟨wA.1, by omega⟩, ?_⟩⟩
   have hr2 : r2 = M.addW (rd g.2 (Int.tmod (rd g.1 (l * 4 + i.A)) 32)) (rd g.1 (l * 4 + i.B)) := hr2
   rw [hr2]; exact hn
  ·rw [if_neg (by simpa using e1), if_neg (by simpa using e2), if_neg (by simpa using e3)] at hn
   exact hn
 ·refine qaC (by simp) ?_
  show _ = M.qcK b w (M.qd6 b w)
  unfold M.qcK
  rw [hfin, show G r30.length = r30.foldl (M.qfd (M.qd6 b w)) ((rd b.Warps w).Regs, b.Memory) by show (r30.take r30.length).foldl _ _ = _; rw [List.take_length]]
theorem wp.qbo.math (b : D.Block) (w : Int) (h : M.qfl b w) : wp.qbo b w (fun r => r = M.qbo b w) := by
 obtain ⟨hv, _, hg⟩ := qhe h
 obtain ⟨h0, h1, hp, hw, hn, hok⟩ := qen hv.1
 obtain ⟨t1, t2, t3, t4, t5, t6, t7, t8, t9⟩ := qdX (qgA hv.1 hv.2)
 obtain ⟨p1, p2, p3, p4, p5, p6, p7, p8⟩ := qhj hok
 refine ⟨hv.1, fun r21 hr21 => ?_⟩
 have hem : (rd b.Warps w).Frames.isEmpty = false := by simpa using hv.2
 have hr21 : r21 = (M.qd6 b w, true) := by
  rw [hr21]
  unfold M.qaB
  rw [if_neg (by rw [hem]; simp)]
 subst hr21
 dsimp only
 refine qfF ((M.actB b w).Warps, (M.actB b w).Waiting, (M.actB b w).Phase, (M.actB b w).Memory, ()) ?_ fun J hJ => ?_
 ·dsimp only
  rw [qm2]
  have hph : (M.actB b w).Phase = b.Phase := qhF b w
  have hcode := qjw b w
  have open_ : M.qbp (M.actB b w) = false → (true, M.actB b w) = M.qbo b w := fun e => by
   unfold M.qbo M.qf1 M.qhN
   rw [e, if_neg (by simp), hph]
   simp only [Prod.mk.injEq, and_true]
   exact (decide_eq_true p7).symm
  refine qa3 (fun e => ?_) fun e => ?_
  ·refine open_ ?_
   unfold M.qbp
   have : (M.actB b w).Waiting = 0 := by simpa using e
   rw [this, Bool.and_eq_false_iff]; right; rfl
  ·have hL : (M.actB b w).Warps.length ≤ 9223372036854775807 := by rw [qiY]; omega
   refine qd9 (M.actB b w).Warps.length (fun k => ((k : Int), ())) (fun k => M.qfh (M.actB b w) k = true) rfl rfl (fun k hk hF next hnx => ?_) fun hF next => ?_
   ·have hs : M.qfh (M.actB b w) (k + 1) = (M.qfh (M.actB b w) k && ((rd (M.actB b w).Warps (k : Int)).Frames.isEmpty || M.waits (M.actB b w) (k : Int))) := rfl
    rw [hF, Bool.true_and] at hs
    dsimp only
    rw [up64 hk hL]
    refine qaE (by simp; omega) ⟨⟨by omega, by omega⟩, by show (0 : Int) ≤ _; omega, fun r hr => ?_⟩
    have hr : r = M.waits (M.actB b w) (k : Int) := hr
    refine qa3 (fun e2 => qa3 (fun e3 => ?_) fun e3 => ?_) fun e2 => ?_
    ·refine open_ ?_
     have : M.qfh (M.actB b w) (k + 1) = false := by
      rw [hs, show M.waits (M.actB b w) (k : Int) = false by rw [← hr]; simpa using e2, Bool.or_false]
      simp only [decide_eq_true_eq] at e3
      cases hx : (rd (M.actB b w).Warps (k : Int)).Frames with
      | nil => rw [hx] at e3; simp at e3
      | cons _ _ => rfl
     unfold M.qbp
     rw [qhA this _ (by omega), Bool.false_and]
    ·refine hnx ?_
     have : (rd (M.actB b w).Warps (k : Int)).Frames = [] := by
      simp only [decide_eq_false_iff_not] at e3
      exact List.length_eq_zero_iff.1 (by omega)
     rw [hs, this]; rfl
    ·refine hnx ?_
     rw [hs, show M.waits (M.actB b w) (k : Int) = true by rw [← hr]; simpa using e2, Bool.or_true]
   ·refine qaC (by simp) ?_
    have : M.qbp (M.actB b w) = true := by
     unfold M.qbp
     rw [hF, Bool.true_and]
     simpa using e
    show _ = M.qbo b w
    unfold M.qbo M.qf1 M.qhN
    rw [if_pos this, hcode, hph, w64 (by omega) (by omega)]
 ·refine fun r41 hr41 => qa3 (fun e => ?_) fun e => ?_
  all_goals have hr41 : r41 = M.qcM (M.qd6 b w) := hr41
  ·have hl := hr41.symm.trans e
   have hgo := hg hl
   refine ⟨⟨h0, h1⟩, ⟨h0, h1⟩, ⟨hp, hw⟩, fun r51 hr51 => ?_⟩
   have hr51 : r51 = (true, M.stepW b.Code (rd b.Warps w)) := by
    rw [hr51]
    unfold M.qbg
    rw [if_pos hgo.2]
   subst hr51
   rw [show M.actB b w = M.qlu b w (M.stepW b.Code (rd b.Warps w)) from if_pos hl] at hJ
   exact hJ
  ·have hl := hr41.symm.trans e
   have hB : M.actB b w = ⟨b.Code, b.Warps.set w.toNat (M.qhz b.Code (rd (M.qcK b w (M.qd6 b w)).Warps w)), (M.qcK b w (M.qd6 b w)).Memory, if (M.qd6 b w).Op = 16 then qgS .i64 b.Waiting (M.qj1 w) else b.Waiting, b.Phase⟩ := if_neg (by rw [hl]; simp)
   have hX := qi1 (i := M.qd6 b w) h0 h1
   have hset : ∀ y : D.Warp, List.set (M.qcK b w (M.qd6 b w)).Warps w.toNat y = b.Warps.set w.toNat y := fun y => by simp [M.qcK]
   have hF : (rd (M.qcK b w (M.qd6 b w)).Warps w).Frames = (rd b.Warps w).Frames := by rw [hX]
   have hlen : (M.qcK b w (M.qd6 b w)).Warps.length = b.Warps.length := by simp [M.qcK]
   refine qfF ((M.qcK b w (M.qd6 b w)).Warps, (M.actB b w).Waiting, b.Phase, (M.qcK b w (M.qd6 b w)).Memory, ()) ?_ fun J2 hJ2 => ?_
   ·dsimp only
    have i0 : (0 ≤ w ∧ w < ((M.qcK b w (M.qd6 b w)).Warps.length : Int)) := ⟨h0, by rw [hlen]; exact h1⟩
    rw [hF, qmK hv.2 t3 t5 (by show M.qdF (rd b.Warps w) ≤ 32; omega)]
    have j0 : (0 ≤ (wrap .i64 (((rd b.Warps w).Frames.length : Int) - 1)) ∧ (wrap .i64 (((rd b.Warps w).Frames.length : Int) - 1)) < (((rd b.Warps w).Frames).length : Int)) := by
     rw [qdp (by omega)]; omega
    refine ⟨i0, j0, j0, i0, by show _ ≤ _; simp only [M.qei, List.length_set]; omega, fun r hr => ?_⟩
    have hr : r = M.qhz b.Code (rd (M.qcK b w (M.qd6 b w)).Warps w) := by
     rw [hr]
     show M.qgD _ _ = M.qgD _ _
     unfold M.qdF
     rw [hF]
    have hrr : (rd (M.qcK b w (M.qd6 b w)).Warps w).Regs = r.Regs := by rw [hr]; rfl
    rw [hset, hrr]
    show J (b.Warps.set w.toNat r, _)
    rw [hr]
    rw [hB] at hJ ⊢
    exact hJ
   ·refine qa3 (fun e2 => ⟨h0, ?_⟩) fun e2 => ⟨⟨hv, rfl, hl⟩, fun r hr => ?_⟩
    ·have e2 : (M.qd6 b w).Op = 16 := by simpa using e2
     have hacc : M.qjm (M.qd6 b w) (rd b.Warps w) b.Memory = ((rd b.Warps w).Regs, b.Memory) := by
      rw [M.qjm, qne]
      have st : ∀ (s : List Int × List Int) (k : Int), M.qfd (M.qd6 b w) s k = s := fun s k => by
       unfold M.qfd
       rw [if_neg (by omega), if_neg (by omega), if_neg (by omega)]
      generalize M.qfk (M.qb5 (rd b.Warps w)) = l
      induction l with
      | nil => rfl
      | cons k l ih => rw [List.foldl_cons, st, ih]
     have hac : M.qcK b w (M.qd6 b w) = b := by
      unfold M.qcK
      rw [hacc, qkT]
     rw [hB] at hJ2
     dsimp only at hJ2
     rw [if_pos e2, hac] at hJ2
     exact hJ2
    ·have hr : r = M.qcK b w (M.qd6 b w) := hr
     subst hr
     rw [hB] at hJ2
     dsimp only at hJ2
     rw [if_neg (by simpa using e2)] at hJ2
     exact hJ2
end Go.V
namespace Go.V
open IntKind (wrap)
theorem qiQ {b : D.Block} (h : M.Good b) {f : Int} (hf : 0 ≤ f) : ∀ (r : Nat) (k : Int), 0 ≤ k → ¬ M.qf5 b b.Warps.length f r k < 0 → M.qiW b (M.qf5 b b.Warps.length f r k)
 | 0, k, _, hn => (hn (by show (-1 : Int) < 0; omega)).elim
 | r + 1, k, hk, hn => by
  have hc := qeR h
  have ht := qgz (x := f + k) (n := b.Warps.length) (by omega) (by omega)
  unfold M.qf5 at hn ⊢
  by_cases e : M.qfq b (Int.tmod (f + k) b.Warps.length) = true
  ·rw [if_pos e]; exact ⟨qkL h ht.1 ht.2, e⟩
  ·rw [if_neg e] at hn ⊢
   exact qiQ h hf r (k + 1) (by omega) hn
theorem qma {b : D.Block} (h : M.Good b) {q : Int} (hq : 0 ≤ q) (hn : ¬ M.pick b q < 0) : M.qiW b (M.pick b q) := by
 have hc := qeR h
 exact qiQ h (qgz (x := q) (n := b.Warps.length) hq (by omega)).1 _ _ (Int.le_refl _) hn
theorem qoo {f : Nat → Int} {x : D.Block} {k : Nat} (h : M.stops f x k = false) : 0 ≤ f k ∧ x.Phase ≠ 100000 ∧ ¬ M.pick x (f k) < 0 := by
 simp only [M.stops, Bool.or_eq_false_iff, decide_eq_false_iff_not, beq_eq_false_iff_ne] at h
 exact ⟨by omega, h.2.1, h.2.2⟩
theorem good_step {f : Nat → Int} {x : D.Block} {k : Nat} (h : M.Good x) (hs : M.stops f x k = false) : M.qiW x (M.pick x (f k)) ∧ M.Good (M.qf1 x (M.pick x (f k))) := by
 obtain ⟨h0, h1, h2⟩ := qoo hs
 have hc := qma h h0 h2
 have hp := (qhj h.2).2.2.2.2.2.2.1
 have hok := qnE hc (by rcases qj2 x (M.pick x (f k)) with e | e <;> omega)
 exact ⟨hc, qk3 (qhH hok), hok⟩
theorem qic {f : Nat → Int} : ∀ (m : Nat) (x : D.Block) (k : Nat), M.Good x → M.Good (M.goTo f m x k).1
 | 0, x, k, h => h
 | m + 1, x, k, h => by
  unfold M.goTo
  by_cases e : M.stops f x k = true
  ·rw [if_pos e]; exact h
  ·rw [if_neg e]; exact qic m _ _ (good_step h (Bool.eq_false_iff.2 e)).2
theorem qkP {f : Nat → Int} : ∀ (m : Nat) (x : D.Block) (k : Nat), (M.goTo f m x k).1.Code = x.Code
 | 0, x, k => rfl
 | m + 1, x, k => by
  unfold M.goTo
  split
  ·rfl
  ·rw [qkP m, qhI]
theorem qlh (f : Nat → Int) (b : D.Block) : ∀ k, (M.goAt f b k).Code = b.Code
 | 0 => rfl
 | k + 1 => by unfold M.goAt; rw [qhI, qlh f b k]
structure GoI (f : Nat → Int) (b : D.Block) (n k : Nat) : Prop where
 good : M.Good (M.goAt f b k)
 code : (M.goAt f b k).Code = b.Code
 run : M.goTo f n b 0 = M.goTo f (n - k) (M.goAt f b k) k
theorem qmh {f : Nat → Int} {b : D.Block} (h : M.Good b) (n : Nat) : GoI f b n 0 := ⟨h, rfl, rfl⟩
theorem qow {f : Nat → Int} {b : D.Block} {n k : Nat} (h : GoI f b n k) (hk : k < n) (hs : M.stops f (M.goAt f b k) k = false) : GoI f b n (k + 1) := by
 refine ⟨(good_step h.good hs).2, qlh f b (k + 1), ?_⟩
 rw [h.run, show n - k = (n - (k + 1)) + 1 by omega, M.goTo, if_neg (by rw [hs]; simp)]
 rfl
theorem qnG {f : Nat → Int} {b : D.Block} {n k : Nat} (h : GoI f b n k) (hk : k < n) (hs : M.stops f (M.goAt f b k) k = true) : M.goTo f n b 0 = (M.goAt f b k, (k : Int)) := by
 rw [h.run, show n - k = (n - (k + 1)) + 1 by omega, M.goTo, if_pos hs]
theorem qmF {f : Nat → Int} {b : D.Block} {n : Nat} (h : GoI f b n n) : M.goTo f n b 0 = (M.goAt f b n, (n : Int)) := by
 rw [h.run, Nat.sub_self]; rfl
theorem qlP {c : List D.Ins} {x : D.Block} (h : x.Code = c) : (⟨c, x.Warps, x.Memory, x.Waiting, x.Phase⟩ : D.Block) = x := by rw [← h]
end Go.V
namespace Go.V
open IntKind (wrap)
def wp.qbm (x0 : Int) (xs1 : List Int) (Q : (Int × Bool) → Prop) : Prop :=
 qa1 (x0 == (xs1.length : Int)) (Q (0, false)) (((0 ≤ x0 ∧ x0 < (xs1.length : Int)) ∧ Q ((rd xs1 x0), true)))
def wp.qcr (x0 : Int) (Q : Unit → Prop) : Prop :=
 Q ()
def wp.qaF (s0 : D.Block) (xs1c0 : List Int) (Q : (Int × D.Block) → Prop) : Prop :=
 qd7 (σ := Int × (List D.Warp) × Int × Int × (List Int) × Unit) (fun (p98 : Int × (List D.Warp) × Int × Int × (List Int) × Unit) next64 => match p98 with | (i52, xs54, i57, i58, xs59, _) => (M.qfn i52 xs1c0 ∧ ∀ r66, r66 = M.qbm i52 xs1c0 → qa1 (!r66.2) (Q (i52, (⟨s0.Code, xs54, xs59, i57, i58⟩ : D.Block))) (qa1 (decide (r66.1 < 0)) (Q (i52, (⟨s0.Code, xs54, xs59, i57, i58⟩ : D.Block))) (qa1 (i58 == 100000) (Q (i52, (⟨s0.Code, xs54, xs59, i57, i58⟩ : D.Block))) ((M.qdV (⟨s0.Code, xs54, xs59, i57, i58⟩ : D.Block) r66.1 ∧ ∀ r71, r71 = M.qaX (⟨s0.Code, xs54, xs59, i57, i58⟩ : D.Block) r66.1 → qa1 (decide (r71 < 0)) (Q (i52, (⟨s0.Code, xs54, xs59, i57, i58⟩ : D.Block))) ((∀ r76, r76 = M.qcr r71 → (M.qfl (⟨s0.Code, xs54, xs59, i57, i58⟩ : D.Block) r71 ∧ ∀ r81, r81 = M.qbo (⟨s0.Code, xs54, xs59, i57, i58⟩ : D.Block) r71 → next64 ((wrap .i64 (i52 + 1)), r81.2.Warps, r81.2.Waiting, r81.2.Phase, r81.2.Memory, ())))))))))) (0, s0.Warps, s0.Waiting, s0.Phase, s0.Memory, ())
def wp.qbi (s0 : D.Block) (xs1 : List Int) (Q : (D.Block × Int) → Prop) : Prop :=
 (M.qfK s0 ∧ ∀ r27, r27 = M.qcw s0 → (M.qdR s0 ∧ ∀ r43, r43 = M.qbl s0 → qa1 (!r43) (Q ((⟨r27.Code, r27.Warps, r27.Memory, r27.Waiting, r27.Phase⟩ : D.Block), (-1))) (qa1 (decide ((xs1.length : Int) > 400)) (Q ((⟨r27.Code, r27.Warps, r27.Memory, r27.Waiting, r27.Phase⟩ : D.Block), (-1))) ((M.qeu r27 xs1 ∧ ∀ r52, r52 = M.qaF r27 xs1 → Q ((⟨r27.Code, r52.2.Warps, r52.2.Memory, r52.2.Waiting, r52.2.Phase⟩ : D.Block), r52.1))))))
end Go.V
namespace Go.V
open IntKind (wrap)
theorem wp.qbm.math (k : Int) (l : List Int) (h : M.qfn k l) : wp.qbm k l (fun r => r = M.qbm k l) := by
 obtain ⟨h0, h1⟩ := h
 refine qa3 (fun e => ?_) fun e => ⟨⟨h0, ?_⟩, ?_⟩
 ·unfold M.qbm; rw [if_pos (by simpa using e)]
 ·have : ¬ k = (l.length : Int) := by simpa using e
  omega
 ·unfold M.qbm; rw [if_neg (by simpa using e)]
theorem wp.qcr.math (k : Int) : wp.qcr k (fun r => r = M.qcr k) := rfl
theorem round {f : Nat → Int} {b : D.Block} {n k : Nat} (hF : GoI f b n k) (hk : k < n) {R : D.Block → Int → Prop} {N : D.Block → Prop} (hR : R (M.goTo f n b 0).1 (M.goTo f n b 0).2) (hN : GoI f b n (k + 1) → N (M.goAt f b (k + 1))) :
    (M.stops f (M.goAt f b k) k = true → R (M.goAt f b k) (k : Int)) ∧ (M.stops f (M.goAt f b k) k = false → M.qiW (M.goAt f b k) (M.pick (M.goAt f b k) (f k)) ∧ N (M.qf1 (M.goAt f b k) (M.pick (M.goAt f b k) (f k)))) := by
 refine ⟨fun e => ?_, fun e => ⟨(good_step hF.good e).1, hN (qow hF hk e)⟩⟩
 rw [qnG hF hk e] at hR
 exact hR
theorem qoz {l : List Int} (h : M.MaxL l) {k : Nat} (hk : k < l.length) : rd l (k : Int) ≤ 9223372036854775807 := h.2 _ (qgg hk)
theorem wp.qaF.math (b : D.Block) (l : List Int) (h : M.qeu b l) : wp.qaF b l (fun r => r = M.qaF b l) := by
 obtain ⟨hg, hl, hm⟩ := h
 let f : Nat → Int := fun k => rd l (k : Int)
 have hR : ((M.goTo f l.length b 0).2, (M.goTo f l.length b 0).1) = M.qaF b l := rfl
 refine qd9 l.length (fun k => ((k : Int), (M.goAt f b k).Warps, (M.goAt f b k).Waiting, (M.goAt f b k).Phase, (M.goAt f b k).Memory, ())) (fun k => GoI f b l.length k) rfl (qmh hg _) (fun k hk hF next hn => ?_) fun hF next => ?_
 ·obtain ⟨hs, hgo⟩ := round hF hk (R := fun x j => (j, x) = M.qaF b l) (N := fun x => next (((k + 1 : Nat) : Int), x.Warps, x.Waiting, x.Phase, x.Memory, ())) hR hn
  have hgd := hF.good
  have hcd := hF.code
  have hmx := qoz hm hk
  dsimp only
  rw [qlP hcd, up64 hk (by omega)]
  have hst : M.stops f (M.goAt f b k) k = (decide (rd l (k : Int) < 0) || ((M.goAt f b k).Phase == 100000 || decide (M.pick (M.goAt f b k) (rd l (k : Int)) < 0))) := rfl
  have hfk : f k = rd l (k : Int) := rfl
  rw [hfk] at hgo
  generalize M.goAt f b k = x at *
  refine ⟨⟨by omega, by omega⟩, fun r66 hr66 => ?_⟩
  have hr66 : r66 = (rd l (k : Int), true) := by
   rw [hr66]; unfold M.qbm; rw [if_neg (by omega)]
  subst hr66
  refine qaC rfl (qa3 (fun e1 => ?_) fun e1 => qa3 (fun e2 => ?_) fun e2 => ⟨⟨hgd, by simpa using e1, hmx⟩, fun r71 hr71 => ?_⟩)
  ·exact hs (by rw [hst, e1]; rfl)
  ·exact hs (by rw [hst, e2, Bool.true_or, Bool.or_true])
  ·have hr71 : r71 = M.pick x (rd l (k : Int)) := hr71
   subst hr71
   refine qa3 (fun e3 => ?_) fun e3 => fun r76 _ => ?_
   ·exact hs (by rw [hst, e3, Bool.or_true, Bool.or_true])
   ·obtain ⟨q1, q2⟩ := hgo (by rw [hst, e1, e2, e3]; rfl)
    refine ⟨q1, fun r81 hr81 => ?_⟩
    have hr81 : r81.2 = M.qf1 x (M.pick x (rd l (k : Int))) := by rw [hr81]; rfl
    rw [hr81]
    exact q2
 ·dsimp only
  rw [qlP hF.code]
  refine ⟨⟨by omega, by omega⟩, fun r66 hr66 => ?_⟩
  have hr66 : r66 = (0, false) := by
   rw [hr66]; unfold M.qbm; rw [if_pos rfl]
  subst hr66
  refine qaE rfl ?_
  rw [← hR, qmF hF]
theorem wp.qbi.math (b : D.Block) (l : List Int) (h : M.qdC b l) : wp.qbi b l (fun r => r = M.qbi b l) := by
 obtain ⟨hf, hm⟩ := h
 have hb := qnC hf
 refine ⟨hf, fun r25 hr25 => ?_⟩
 have hr25 : r25 = b := hr25
 subst hr25
 refine ⟨hb, fun r41 hr41 => qa3 (fun e => ?_) fun e => qa3 (fun e2 => ?_) fun e2 => ?_⟩
 all_goals have hr41 : r41 = M.qcT r25 := hr41
 ·show (r25, -1) = M.qb1 r25 l
  unfold M.qb1
  rw [← hr41, show r41 = false by simpa using e]; rfl
 ·show (r25, -1) = M.qb1 r25 l
  unfold M.qb1
  rw [show decide (l.length ≤ 400) = false by simp at e2 ⊢; omega, Bool.and_false]; rfl
 have hok : M.qcT r25 = true := by rw [← hr41]; simpa using e
 have hl : l.length ≤ 400 := by simp at e2; omega
 refine ⟨⟨⟨hb, hok⟩, hl, hm⟩, fun r52 hr52 => ?_⟩
 have hr52 : r52 = ((M.goTo (fun k => rd l (k : Int)) l.length r25 0).2, (M.goTo (fun k => rd l (k : Int)) l.length r25 0).1) := hr52
 subst hr52
 show _ = M.qb1 r25 l
 unfold M.qb1
 rw [hok, decide_eq_true hl]
 dsimp only
 rw [qlP (qkP _ _ _)]
 rfl
end Go.V
namespace Go.V
open IntKind (wrap)
theorem qn6 {k : Nat} {s : Int} (hk : k ≤ 9000) (h0 : 0 ≤ s) (h1 : s ≤ 100) : 0 ≤ (k : Int) * s ∧ (k : Int) * s ≤ 900000 := by
 have a := Int.mul_nonneg (Int.natCast_nonneg k) h0
 have b := Int.mul_le_mul (show (k : Int) ≤ 9000 by omega) h1 h0 (by omega)
 omega
end Go.V
namespace Go.V
open IntKind (wrap)
def wp.qdg (s0 : D.Block) (x1 : Int) (x2 : Int) (Q : D.Block → Prop) : Prop :=
 qd7 (σ := Int × (List D.Ins) × (List D.Warp) × (List Int) × Int × Int × Unit) (fun (p134 : Int × (List D.Ins) × (List D.Warp) × (List Int) × Int × Int × Unit) next101 => match p134 with | (i85, xs86, xs90, xs93, i96, i97, _) => qa1 (decide (i85 < x2)) ((M.qgi (⟨xs86, xs90, xs93, i96, i97⟩ : D.Block) (wrap .i64 (i85 * x1)) ∧ ∀ r103, r103 = M.qdt (⟨xs86, xs90, xs93, i96, i97⟩ : D.Block) (wrap .i64 (i85 * x1)) → qa1 (decide (r103 < 0)) (Q (⟨xs86, xs90, xs93, i96, i97⟩ : D.Block)) (qa1 (i97 == 100000) (Q (⟨xs86, xs90, xs93, i96, i97⟩ : D.Block)) ((M.qgs (⟨xs86, xs90, xs93, i96, i97⟩ : D.Block) r103 ∧ ∀ r112, r112 = M.qds (⟨xs86, xs90, xs93, i96, i97⟩ : D.Block) r103 → next101 ((wrap .i64 (i85 + 1)), r112.Code, r112.Warps, r112.Memory, r112.Waiting, r112.Phase, ())))))) (Q (⟨xs86, xs90, xs93, i96, i97⟩ : D.Block))) (0, s0.Code, s0.Warps, s0.Memory, s0.Waiting, s0.Phase, ())
def wp.qcE (s0 : D.Cur) (Q : (D.Block × D.Cur) → Prop) : Prop :=
 (M.qfg s0 ∧ ∀ r23, r23 = M.qa9 s0 → (M.qas (⟨s0.b, r23.2.i, r23.2.h⟩ : D.Cur) 3 ∧ ∀ r31, r31 = M.qa0 (⟨s0.b, r23.2.i, r23.2.h⟩ : D.Cur) 3 → (M.qg4 r23.1 (wrap .i64 (1 + r31.1)) ∧ ∀ r37, r37 = M.qbt r23.1 (wrap .i64 (1 + r31.1)) → qeZ (σ := Int × Int × (List Int) × Int × Int × Unit) (fun J83 => (M.qfb (⟨s0.b, r31.2.i, r31.2.h⟩ : D.Cur) 3 ∧ ∀ r86, r86 = M.qcN (⟨s0.b, r31.2.i, r31.2.h⟩ : D.Cur) 3 → qa1 r86.1 ((M.qg0 (⟨s0.b, r86.2.i, r86.2.h⟩ : D.Cur) 32 ∧ ∀ r92, r92 = M.qbs (⟨s0.b, r86.2.i, r86.2.h⟩ : D.Cur) 32 → J83 (r92.2.i, r92.2.h, r92.1, r37.1.Waiting, r37.1.Phase, ()))) (J83 (r86.2.i, r86.2.h, r37.1.Memory, r37.1.Waiting, r37.1.Phase, ())))) (fun (p136 : Int × Int × (List Int) × Int × Int × Unit) => match p136 with | (i76, i77, xs78, i81, i82, _) => (M.qas (⟨s0.b, i76, i77⟩ : D.Cur) 4 ∧ ∀ r110, r110 = M.qa0 (⟨s0.b, i76, i77⟩ : D.Cur) 4 → (M.qas (⟨s0.b, r110.2.i, r110.2.h⟩ : D.Cur) 40 ∧ ∀ r116, r116 = M.qa0 (⟨s0.b, r110.2.i, r110.2.h⟩ : D.Cur) 40 → (M.qgI (⟨r37.1.Code, r37.1.Warps, xs78, i81, i82⟩ : D.Block) r110.1 r116.1 ∧ ∀ r122, r122 = M.qdg (⟨r37.1.Code, r37.1.Warps, xs78, i81, i82⟩ : D.Block) r110.1 r116.1 → Q ((⟨r122.Code, r122.Warps, r122.Memory, r122.Waiting, r122.Phase⟩ : D.Block), (⟨s0.b, r116.2.i, r116.2.h⟩ : D.Cur)))))))))
def wp.qcu (xs0 : List Int) (Q : D.Block → Prop) : Prop :=
 (M.qeK xs0 ∧ ∀ r23, r23 = M.qaK xs0 → (M.qg5 (⟨xs0, r23.i, r23.h⟩ : D.Cur) ∧ ∀ r29, r29 = M.qcE (⟨xs0, r23.i, r23.h⟩ : D.Cur) → Q (⟨r29.1.Code, r29.1.Warps, r29.1.Memory, r29.1.Waiting, r29.1.Phase⟩ : D.Block)))
end Go.V
namespace Go.V
open IntKind (wrap)
theorem wp.qdg.math (b : D.Block) (s n : Int) (h : M.qgI b s n) : wp.qdg b s n (fun r => r = M.qdg b s n) := by
 obtain ⟨hg, hs0, hs1, hn0, hn1⟩ := h
 obtain ⟨N, rfl⟩ := Int.eq_ofNat_of_zero_le hn0
 have hN : N ≤ 9000 := by omega
 have hR : (M.goTo (M.qeD s) N b 0).1 = M.qdg b s (N : Int) := rfl
 refine qd9 N (fun k => ((k : Int), (M.goAt (M.qeD s) b k).Code, (M.goAt (M.qeD s) b k).Warps, (M.goAt (M.qeD s) b k).Memory, (M.goAt (M.qeD s) b k).Waiting, (M.goAt (M.qeD s) b k).Phase, ())) (fun k => GoI (M.qeD s) b N k) rfl (qmh hg _) (fun k hk hF next hn => ?_) fun hF next => ?_
 ·obtain ⟨hs, hgo⟩ := round hF hk (R := fun x j => x = M.qdg b s (N : Int)) (N := fun x => next (((k + 1 : Nat) : Int), x.Code, x.Warps, x.Memory, x.Waiting, x.Phase, ())) hR hn
  have hgd := hF.good
  have hbd := qn6 (k := k) (by omega) hs0 hs1
  dsimp only
  rw [up64 hk (by omega), w64 (x := (k : Int) * s) (by omega) (by omega)]
  have hst : M.stops (M.qeD s) (M.goAt (M.qeD s) b k) k = (decide ((k : Int) * s < 0) || ((M.goAt (M.qeD s) b k).Phase == 100000 || decide (M.pick (M.goAt (M.qeD s) b k) ((k : Int) * s) < 0))) := rfl
  have hfk : M.qeD s k = (k : Int) * s := rfl
  rw [hfk] at hgo
  have e1 : decide ((k : Int) * s < 0) = false := decide_eq_false (by omega)
  generalize M.goAt (M.qeD s) b k = x at *
  refine qaE (by simp; omega) ⟨⟨hgd, hbd.1, by show (k : Int) * s ≤ _; omega⟩, fun r hr => qa3 (fun e3 => ?_) fun e3 => qa3 (fun e4 => ?_) fun e4 => ?_⟩
  all_goals
   have hr : r = M.pick x ((k : Int) * s) := hr
   subst hr
  ·exact hs (by rw [hst, e3, Bool.or_true, Bool.or_true])
  ·exact hs (by rw [hst, e4, Bool.true_or, Bool.or_true])
  ·obtain ⟨q1, q2⟩ := hgo (by rw [hst, e1, e3, e4]; rfl)
   refine ⟨q1, fun r134 hr134 => ?_⟩
   have hr134 : r134 = M.qf1 x (M.pick x ((k : Int) * s)) := hr134
   rw [hr134]
   exact q2
 ·dsimp only
  refine qaC (by simp) ?_
  rw [← hR, qmF hF]
theorem qot {b : D.Block} {m : List Int} (h : M.qcT b = true) (hm : M.qbf m = true) : M.qcT ⟨b.Code, b.Warps, m, b.Waiting, b.Phase⟩ = true := by
 unfold M.qcT at h ⊢
 simp only [Bool.and_eq_true] at h ⊢
 exact ⟨h.1, h.2.1, hm, h.2.2.2⟩
theorem qmZ {b : D.Block} (h : M.qcT b = true) : M.Good b := ⟨qk3 (qhH h), h⟩
theorem qnv {p : List D.Ins} (hp : M.qaW p = true) {c : Int} (hc : 1 ≤ c ∧ c ≤ 3) : M.qf7 p c = (M.qes p c, true) := by
 unfold M.qf7
 rw [if_pos (by rw [hp]; simp only [M.isIn, Bool.true_and, Bool.and_eq_true, decide_eq_true_eq]; exact hc)]
theorem qmT {c : D.Cur} (h : M.qdz c) (n : Int) : M.qdz (M.qbs c n).2 := qkv _ h
theorem qn0 (c : D.Cur) : M.qbf (M.qbs c 32).1 = true := by
 unfold M.qbf
 rw [Bool.and_eq_true, beq_iff_eq]
 exact ⟨qjI 32 c, qk0 32 c⟩
theorem qlS {c : D.Cur} (h : M.qdz c) : M.Good (M.qbH c).1 ∧ M.qdz (M.qbH c).2 ∧ (M.qbH c).2.b = c.b := by
 obtain ⟨p1, p2, _, p4, _⟩ := qjp h
 have hp := ql9 h
 have hb := qcZ (M.qa9 c).2 (n := 3) (by omega)
 have c1 := qbj p1 3
 have b1 := (qbW (M.qa9 c).2 3).trans p2
 have c2 := qkn c1 3
 have b2 := (qlX (M.qa0 (M.qa9 c).2 3).2 3).trans b1
 have hN := qnv hp (c := 1 + (M.qa0 (M.qa9 c).2 3).1) (by omega)
 have hk := qlH hp (c := 1 + (M.qa0 (M.qa9 c).2 3).1) (by omega)
 unfold M.qbH
 dsimp only
 rw [hN]
 generalize M.once (M.qa0 (M.qa9 c).2 3).2 3 = o at *
 generalize M.qes (M.qa9 c).1 (1 + (M.qa0 (M.qa9 c).2 3).1) = nb at *
 split
 ·dsimp only
  exact ⟨qmZ (qot hk.1 (qn0 _)), qmT c2 32, (qnt _ 32).trans b2⟩
 ·exact ⟨qmZ hk.1, c2, b2⟩
theorem wp.qcE.math (c : D.Cur) (h : M.qg5 c) : wp.qcE c (fun r => r = M.qcE c) := by
 have h : M.qdz c := h
 obtain ⟨p1, p2, _, p4, _⟩ := qjp h
 have hp := ql9 h
 obtain ⟨s1, s2, s3⟩ := qlS h
 refine ⟨h, fun r hr => ?_⟩
 subst hr
 rw [qbX p2]
 refine ⟨p1, fun r hr => ?_⟩
 subst hr
 have hb := qcZ (M.qa9 c).2 (n := 3) (by omega)
 have c1 := qbj p1 3
 have b1 := (qbW (M.qa9 c).2 3).trans p2
 rw [w64 (x := 1 + (M.qa0 (M.qa9 c).2 3).1) (by omega) (by omega)]
 refine ⟨by show (M.qa9 c).1.length ≤ _; omega, fun r hr => ?_⟩
 subst hr
 refine qfF ((M.qbH c).2.i, (M.qbH c).2.h, (M.qbH c).1.Memory, (M.qbH c).1.Waiting, (M.qbH c).1.Phase, ()) ?_ fun J hJ => ?_
 ·have eb : (⟨(M.qbt (M.qa9 c).1 (1 + (M.qa0 (M.qa9 c).2 3).1)).1.Code, (M.qbt (M.qa9 c).1 (1 + (M.qa0 (M.qa9 c).2 3).1)).1.Warps, (M.qbH c).1.Memory, (M.qbH c).1.Waiting, (M.qbH c).1.Phase⟩ : D.Block) = (M.qbH c).1 := by
    unfold M.qbH M.qbt
    dsimp only
    split <;> rfl
  dsimp only
  rw [eb, qbX s3]
  refine ⟨s2, fun r hr => ?_⟩
  subst hr
  have b4 := (qbW (M.qbH c).2 4).trans s3
  rw [qbX b4]
  refine ⟨qbj s2 4, fun r hr => ?_⟩
  subst hr
  have b5 := (qbW (M.qa0 (M.qbH c).2 4).2 40).trans b4
  have i4 := qcZ (M.qbH c).2 (n := 4) (by omega)
  have i5 := qcZ (M.qa0 (M.qbH c).2 4).2 (n := 40) (by omega)
  rw [qbX b5]
  refine ⟨⟨s1, by omega, by omega, by omega, by omega⟩, fun r hr => ?_⟩
  subst hr; rfl
 ·rw [qbX b1]
  refine ⟨c1, fun r hr => ?_⟩
  subst hr
  have c2 := qkn c1 3
  have b2 := (qlX (M.qa0 (M.qa9 c).2 3).2 3).trans b1
  refine qa3 (fun e => ?_) fun e => ?_
  ·have e : (M.once (M.qa0 (M.qa9 c).2 3).2 3).1 = true := e
   have eS : M.qbH c = (⟨(M.qf7 (M.qa9 c).1 (1 + (M.qa0 (M.qa9 c).2 3).1)).1.Code, (M.qf7 (M.qa9 c).1 (1 + (M.qa0 (M.qa9 c).2 3).1)).1.Warps, (M.qbs (M.once (M.qa0 (M.qa9 c).2 3).2 3).2 32).1, (M.qf7 (M.qa9 c).1 (1 + (M.qa0 (M.qa9 c).2 3).1)).1.Waiting, (M.qf7 (M.qa9 c).1 (1 + (M.qa0 (M.qa9 c).2 3).1)).1.Phase⟩, (M.qbs (M.once (M.qa0 (M.qa9 c).2 3).2 3).2 32).2) := by
    unfold M.qbH
    dsimp only
    rw [if_pos e]
   rw [eS] at hJ
   show _ ∧ _
   rw [qbX (d := (M.qcN (M.qa0 (M.qa9 c).2 3).2 3).2) b2]
   refine ⟨⟨c2, by omega, by omega⟩, fun r hr => ?_⟩
   subst hr
   exact hJ
  ·have e : (M.once (M.qa0 (M.qa9 c).2 3).2 3).1 = false := e
   have eS : M.qbH c = ((M.qf7 (M.qa9 c).1 (1 + (M.qa0 (M.qa9 c).2 3).1)).1, (M.once (M.qa0 (M.qa9 c).2 3).2 3).2) := by
    unfold M.qbH
    dsimp only
    rw [if_neg (by rw [e]; simp)]
   rw [eS] at hJ
   exact hJ
theorem qkt {c : D.Cur} (h : M.qdz c) : M.Good (M.qcE c).1 := qic _ _ _ (qlS h).1
theorem qnm {b : List Int} (h : M.Long b) : M.Good (M.qcu b) := qkt (qm6 h)
theorem wp.qcu.math (b : List Int) (h : M.qfu b) : wp.qcu b (fun r => r = M.qcu b) := by
 have hn := qm6 h
 refine ⟨h, fun r hr => ?_⟩
 have e : (⟨b, r.i, r.h⟩ : D.Cur) = M.qaK b := by subst hr; rfl
 rw [e]
 refine ⟨hn, fun r2 hr2 => ?_⟩
 subst hr2; rfl
end Go.V
namespace Go.V
open IntKind (wrap)
def wp.qcI (s0 : D.Cur) (Q : ((List Int) × D.Cur) → Prop) : Prop :=
 qd7 (σ := (List Int) × Int × Int × Int × Unit) (fun (p88 : (List Int) × Int × Int × Int × Unit) next62 => match p88 with | (xs53, i56, i57, i58, _) => (M.qas (⟨s0.b, i57, i58⟩ : D.Cur) 30 ∧ ∀ r64, r64 = M.qa0 (⟨s0.b, i57, i58⟩ : D.Cur) 30 → qa1 (decide (i56 < r64.1)) ((M.qas (⟨s0.b, r64.2.i, r64.2.h⟩ : D.Cur) 4 ∧ ∀ r70, r70 = M.qa0 (⟨s0.b, r64.2.i, r64.2.h⟩ : D.Cur) 4 → ((xs53.length + ([r70.1] : List Int).length ≤ 17179869184) ∧ next62 ((xs53 ++ ([r70.1] : List Int)), (wrap .i64 (i56 + 1)), r70.2.i, r70.2.h, ())))) (Q (xs53, (⟨s0.b, r64.2.i, r64.2.h⟩ : D.Cur))))) (([] : List Int), 0, s0.i, s0.h, ())
def wp.qcb (xs0 : List Int) (Q : (List Int) → Prop) : Prop :=
 (M.qeK xs0 ∧ ∀ r21, r21 = M.qaK xs0 → (M.qfV (⟨xs0, r21.i, r21.h⟩ : D.Cur) ∧ ∀ r27, r27 = M.qcI (⟨xs0, r21.i, r21.h⟩ : D.Cur) → Q r27.1))
def wp.qdG (xs0 : List Int) (Q : Bool → Prop) : Prop :=
 (∀ r21, r21 = M.qf8 xs0 → qa1 r21 (Q true) ((M.qfu xs0 ∧ ∀ r26, r26 = M.qcu xs0 → (M.qfx xs0 ∧ ∀ r42, r42 = M.qcb xs0 → (M.qfi xs0 ∧ ∀ r49, r49 = M.qb7 xs0 → ((0 ≤ (0 : Int) ∧ (0 : Int) < (r49.length : Int)) ∧ ((((wrap .i64 ((r42.length : Int) + 1)) : Int) ≠ 0) ∧ ((0 ≤ (1 : Int) ∧ (1 : Int) < (r49.length : Int)) ∧ (M.qg6 r26 (rd r49 1) ∧ ∀ r68, r68 = M.qcp r26 (rd r49 1) → (M.qdC r26 r42 ∧ ∀ r73, r73 = M.qbi r26 r42 → qeZ (σ := (List D.Ins) × (List D.Warp) × (List Int) × Int × Int × Int × Unit) (fun J102 => ((0 ≤ (Int.tmod (rd r49 0) (wrap .i64 ((r42.length : Int) + 1))) ∧ (Int.tmod (rd r49 0) (wrap .i64 ((r42.length : Int) + 1))) ≤ (r42.length : Int)) ∧ (((M.qdC r26 (List.take ((Int.tmod (rd r49 0) (wrap .i64 ((r42.length : Int) + 1))).toNat) r42) ∧ ∀ r108, r108 = M.qbi r26 (List.take ((Int.tmod (rd r49 0) (wrap .i64 ((r42.length : Int) + 1))).toNat) r42) → J102 (r108.1.Code, r108.1.Warps, r108.1.Memory, r108.1.Waiting, r108.1.Phase, r108.2, ()))) ∧ ((M.qdC r26 (List.take ((Int.tmod (rd r49 0) (wrap .i64 ((r42.length : Int) + 1))).toNat) r42) ∧ ∀ r126, r126 = M.qbi r26 (List.take ((Int.tmod (rd r49 0) (wrap .i64 ((r42.length : Int) + 1))).toNat) r42) → J102 (r126.1.Code, r126.1.Warps, r126.1.Memory, r126.1.Waiting, r126.1.Phase, r126.2, ()))) ∧ True))) (fun (p240 : (List D.Ins) × (List D.Warp) × (List Int) × Int × Int × Int × Unit) => match p240 with | (xs89, xs93, xs96, i99, i100, i101, _) => qeZ (σ := (List D.Ins) × (List D.Warp) × (List Int) × Int × Int × Int × Unit) (fun J153 => ((0 ≤ (Int.tmod (rd r49 0) (wrap .i64 ((r42.length : Int) + 1))) ∧ (Int.tmod (rd r49 0) (wrap .i64 ((r42.length : Int) + 1))) ≤ (r42.length : Int)) ∧ (((M.qdC (⟨xs89, xs93, xs96, i99, i100⟩ : D.Block) (List.drop ((Int.tmod (rd r49 0) (wrap .i64 ((r42.length : Int) + 1))).toNat) r42) ∧ ∀ r159, r159 = M.qbi (⟨xs89, xs93, xs96, i99, i100⟩ : D.Block) (List.drop ((Int.tmod (rd r49 0) (wrap .i64 ((r42.length : Int) + 1))).toNat) r42) → J153 (r159.1.Code, r159.1.Warps, r159.1.Memory, r159.1.Waiting, r159.1.Phase, r159.2, ()))) ∧ ((M.qdC (⟨xs89, xs93, xs96, i99, i100⟩ : D.Block) (List.drop ((Int.tmod (rd r49 0) (wrap .i64 ((r42.length : Int) + 1))).toNat) r42) ∧ ∀ r177, r177 = M.qbi (⟨xs89, xs93, xs96, i99, i100⟩ : D.Block) (List.drop ((Int.tmod (rd r49 0) (wrap .i64 ((r42.length : Int) + 1))).toNat) r42) → J153 (r177.1.Code, r177.1.Warps, r177.1.Memory, r177.1.Waiting, r177.1.Phase, r177.2, ()))) ∧ True))) (fun (p238 : (List D.Ins) × (List D.Warp) × (List Int) × Int × Int × Int × Unit) => match p238 with | (xs140, xs144, xs147, i150, i151, i152, _) => qeZ (σ := Unit) (fun J191 => qa1 (decide (r68 ≥ 0)) ((M.qgw r26 r68 ∧ ∀ r194, r194 = M.qd3 r26 r68 → qa1 (!r194) (Q false) (qa1 (decide (r68 < 0)) ((M.qet r26 ∧ ∀ r199, r199 = M.qbn r26 → qa1 (!r199) ((M.qf6 r26 ∧ ∀ r204, r204 = M.qbY r26 → qa1 (!r204) (Q false) (J191 (())))) (J191 (())))) (J191 (()))))) (qa1 (decide (r68 < 0)) ((M.qet r26 ∧ ∀ r213, r213 = M.qbn r26 → qa1 (!r213) ((M.qf6 r26 ∧ ∀ r218, r218 = M.qbY r26 → qa1 (!r218) (Q false) (J191 (())))) (J191 (())))) (J191 (())))) (fun (p236 : Unit) => match p236 with | (_) => qa1 (decide (r73.2 ≥ 0)) (qa1 (decide (i101 ≥ 0)) (qa1 (decide (i152 ≥ 0)) (qa1 ((wrap .i64 (i101 + i152)) == r73.2) ((M.qfy r73.1 (⟨xs140, xs144, xs147, i150, i151⟩ : D.Block) ∧ ∀ r227, r227 = M.qce r73.1 (⟨xs140, xs144, xs147, i150, i151⟩ : D.Block) → Q r227)) (Q false)) (Q false)) (Q false)) (Q false))))))))))))))
end Go.V
