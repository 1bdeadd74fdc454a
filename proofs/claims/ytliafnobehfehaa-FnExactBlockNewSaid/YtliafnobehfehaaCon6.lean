import Derived.Test.YtliafnobehfehaaMath6
import Derived.Test.YtliafnobehfehaaSeat
import Derived.Test.YtliafnobehfehaaCon5
namespace Go.V
open Go.Proofs
set_option linter.unusedVariables false
set_option linter.unusedSimpArgs false
set_option maxRecDepth 100000

def impl_isWarpNumber.vc (x0 : Int) (w : World) (K : Value → World → Prop) : Prop :=
  Cll Try.prog 63 #[(.int .i64 x0), (.int .i64 0), (.int .i64 2)] w fun v21 w22 => (∃ (b23 : Bool), v21 = (.bool b23) ∧ K (.bool b23) w22)

def impl_isWarpNumber.ann : Ann := (.seq .l (.seq .l .l))

theorem impl_isWarpNumber.vc_eq (x0 : Int) (w : World) (K : Value → World → Prop) : vcF Try.prog Try.f127 impl_isWarpNumber.ann [(.int .i64 x0)] K w = impl_isWarpNumber.vc x0 w K := by kernel_rfl

theorem impl_isWarpNumber.start {x0 : Int} {w : World} {K : Value → World → Prop} (h : impl_isWarpNumber.vc x0 w K) : Cll Try.prog 127 #[(.int .i64 x0)] w K :=
  vcF_sound mixed (fn := Try.f127) (by kernel_rfl) (by kernel_rfl) (an := impl_isWarpNumber.ann) (args := [(.int .i64 x0)]) (by rw [impl_isWarpNumber.vc_eq]; exact h)

theorem impl_isWarpNumber.con {x0 : Int} {r : Bool} {w : World} (hr : r = M.impl_isWarpNumber x0)  :
    Cll Try.prog 127 #[(.int .i64 x0)] w (fun v_ w_ => v_ = (.bool r) ∧ Ext w w_) := by
  have H := wp.impl_isWarpNumber.math x0
  have hB := Ext.refl w
  refine impl_isWarpNumber.start ?_
  unfold impl_isWarpNumber.vc
  unfold wp.impl_isWarpNumber at H
  obtain ⟨r21, hr22⟩ : ∃ r_, r_ = M.impl_within x0 0 2 := ⟨_, rfl⟩
  have H := H r21 hr22
  refine (impl_within.con hr22 ).mono ?_
  rintro _ w24 ⟨rfl, e25⟩
  have hB := ethen hB e25
  refine ⟨r21, rfl, ?_⟩
  obtain rfl := hr.trans H.symm
  exact ⟨rfl, hB⟩

end Go.V
