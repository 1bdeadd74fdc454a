import Derived.Test.YtnbkmenlaogblaaConL
set_option linter.unusedVariables false
set_option linter.unusedSimpArgs false
set_option maxRecDepth 100000
namespace Go.V
open Go.Proofs
/-- a lane's registers: a cut of the warp's -/
theorem impl_Warp_lane.con {s0 : D.Warp} {A0_1 : Option Addr} {c0_1 : Nat} {A0_2 : Option Addr} {c0_2 : Nat} {x1 : Int} {w : World} (hp : M.impl_Warp_lane_pre s0 x1) (R0_1 : Row el132 w A0_1 s0.Frames) (hc0_1 : s0.Frames.length ≤ c0_1) (R0_2 : Row el3 w A0_2 s0.Regs) (hc0_2 : s0.Regs.length ≤ c0_2) :
    Cll Try.prog 184 #[(.agg #[(.int .i64 s0.Number), (.slice A0_1 s0.Frames.length c0_1), (.slice A0_2 s0.Regs.length c0_2)]), (.int .i64 x1)] w (fun v_ w_ => v_ = (.slice (cutA c0_2 ((IntKind.wrap .i64 (x1 * 4)).toNat) A0_2 1) (List.drop ((IntKind.wrap .i64 (x1 * 4)).toNat) (List.take ((IntKind.wrap .i64 ((IntKind.wrap .i64 (x1 + 1)) * 4)).toNat) s0.Regs)).length (c0_2 - (IntKind.wrap .i64 (x1 * 4)).toNat)) ∧ Ext w w_) := by
  obtain ⟨h32, h0, h7⟩ := hp
  refine impl_Warp_lane.start ?_
  unfold impl_Warp_lane.vc
  refine newBlk fun g w1 L P e => ?_
  have a1 : IntKind.wrap .i64 (x1 * 4) = x1 * 4 := w64 (by omega) (by omega)
  have a2 : IntKind.wrap .i64 ((IntKind.wrap .i64 (x1 + 1)) * 4) = x1 * 4 + 4 := by rw [w64 (x := x1 + 1) (by omega) (by omega), w64 (by omega) (by omega)]; omega
  refine ⟨_, _, _, P.at 2 rfl rfl, ?_⟩
  rw [a1, a2]
  refine ⟨by omega, by omega, by omega, by omega, ?_, e⟩
  have hl : (List.drop (x1 * 4).toNat (List.take (x1 * 4 + 4).toNat s0.Regs)).length = (x1 * 4 + 4).toNat - (x1 * 4).toNat := by simp; omega
  rw [hl]
  have hz : szOf Try.prog 3 = 1 := by kernel_rfl
  rw [hz]
  rfl
end Go.V
