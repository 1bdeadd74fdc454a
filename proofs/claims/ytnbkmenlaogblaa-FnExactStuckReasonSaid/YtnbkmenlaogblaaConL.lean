import Derived.Test.YtnbkmenlaogblaaMathL
import Derived.Test.YtnbkmenlaogblaaSeat
import Derived.Test.YtnbkmenlaogblaaCon14
namespace Go.V
open Go.Proofs
set_option linter.unusedVariables false
set_option linter.unusedSimpArgs false
set_option maxRecDepth 100000

def impl_Warp_lane.vc (x0_0 : Int) (A0_1 : Option Addr) (n0_1 : Nat) (c0_1 : Nat) (A0_2 : Option Addr) (n0_2 : Nat) (c0_2 : Nat) (x1 : Int) (w : World) (K : Value → World → Prop) : Prop :=
  newK w (.cells #[(.int .i64 x0_0), (.slice A0_1 n0_1 c0_1), (.slice A0_2 n0_2 c0_2)] 102) fun g21 w22 => ∃ (A23 : Option Addr) (n24 : Nat) (c25 : Nat), w22.cell? (((⟨g21, 0, none⟩ : Addr).add 2).add 0) = some (.slice A23 n24 c25) ∧ ((0 : Int) ≤ (IntKind.wrap .i64 ((IntKind.wrap .i64 (x1 + 1)) * 4)) ∧ (IntKind.wrap .i64 ((IntKind.wrap .i64 (x1 + 1)) * 4)) ≤ ((c25 : Nat) : Int) ∧ ((0 : Int) ≤ (IntKind.wrap .i64 (x1 * 4)) ∧ (IntKind.wrap .i64 (x1 * 4)) ≤ ((((IntKind.wrap .i64 ((IntKind.wrap .i64 (x1 + 1)) * 4)).toNat) : Nat) : Int) ∧ K (.slice (if c25 = ((IntKind.wrap .i64 (x1 * 4)).toNat) then A23 else A23.map (·.add (((IntKind.wrap .i64 (x1 * 4)).toNat) * szOf Try.prog 3))) (((IntKind.wrap .i64 ((IntKind.wrap .i64 (x1 + 1)) * 4)).toNat) - ((IntKind.wrap .i64 (x1 * 4)).toNat)) (c25 - ((IntKind.wrap .i64 (x1 * 4)).toNat))) w22))

def impl_Warp_lane.ann : Ann := (.seq .l (.seq .l .l))

theorem impl_Warp_lane.vc_eq (x0_0 : Int) (A0_1 : Option Addr) (n0_1 : Nat) (c0_1 : Nat) (A0_2 : Option Addr) (n0_2 : Nat) (c0_2 : Nat) (x1 : Int) (w : World) (K : Value → World → Prop) : vcF Try.prog Try.f184 impl_Warp_lane.ann [(.agg #[(.int .i64 x0_0), (.slice A0_1 n0_1 c0_1), (.slice A0_2 n0_2 c0_2)]), (.int .i64 x1)] K w = impl_Warp_lane.vc x0_0 A0_1 n0_1 c0_1 A0_2 n0_2 c0_2 x1 w K := by kernel_rfl

theorem impl_Warp_lane.start {x0_0 : Int} {A0_1 : Option Addr} {n0_1 : Nat} {c0_1 : Nat} {A0_2 : Option Addr} {n0_2 : Nat} {c0_2 : Nat} {x1 : Int} {w : World} {K : Value → World → Prop} (h : impl_Warp_lane.vc x0_0 A0_1 n0_1 c0_1 A0_2 n0_2 c0_2 x1 w K) : Cll Try.prog 184 #[(.agg #[(.int .i64 x0_0), (.slice A0_1 n0_1 c0_1), (.slice A0_2 n0_2 c0_2)]), (.int .i64 x1)] w K :=
  vcF_sound mixed (fn := Try.f184) (by kernel_rfl) (by kernel_rfl) (an := impl_Warp_lane.ann) (args := [(.agg #[(.int .i64 x0_0), (.slice A0_1 n0_1 c0_1), (.slice A0_2 n0_2 c0_2)]), (.int .i64 x1)]) (by rw [impl_Warp_lane.vc_eq]; exact h)

end Go.V
