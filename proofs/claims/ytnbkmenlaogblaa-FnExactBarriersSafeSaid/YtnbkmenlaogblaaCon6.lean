import Derived.Test.YtnbkmenlaogblaaMath6
import Derived.Test.YtnbkmenlaogblaaSeat
import Derived.Test.YtnbkmenlaogblaaCon5
namespace Go.V
open Go.Proofs
set_option linter.unusedVariables false
set_option linter.unusedSimpArgs false
set_option maxRecDepth 100000

def impl_isWarpNumber.vc (x0 : Int) (w : World) (K : Value → World → Prop) : Prop :=
  Cll Try.prog 94 #[(.int .i64 x0), (.int .i64 0), (.int .i64 2)] w fun v21 w22 => (∃ (b23 : Bool), v21 = (.bool b23) ∧ K (.bool b23) w22)

def impl_isWarpNumber.ann : Ann := (.seq .l (.seq .l .l))

theorem impl_isWarpNumber.vc_eq (x0 : Int) (w : World) (K : Value → World → Prop) : vcF Try.prog Try.f100 impl_isWarpNumber.ann [(.int .i64 x0)] K w = impl_isWarpNumber.vc x0 w K := by kernel_rfl

theorem impl_isWarpNumber.start {x0 : Int} {w : World} {K : Value → World → Prop} (h : impl_isWarpNumber.vc x0 w K) : Cll Try.prog 100 #[(.int .i64 x0)] w K :=
  vcF_sound mixed (fn := Try.f100) (by kernel_rfl) (by kernel_rfl) (an := impl_isWarpNumber.ann) (args := [(.int .i64 x0)]) (by rw [impl_isWarpNumber.vc_eq]; exact h)

theorem impl_isWarpNumber.con {x0 : Int} {r : Bool} {w : World} (hr : r = M.impl_isWarpNumber x0)  :
    Cll Try.prog 100 #[(.int .i64 x0)] w (fun v_ w_ => v_ = (.bool r) ∧ Ext w w_) := by
  have H := wp.impl_isWarpNumber.math x0
  have hB := Ext.refl w
  refine impl_isWarpNumber.start ?_
  unfold impl_isWarpNumber.vc
  unfold wp.impl_isWarpNumber at H
  obtain ⟨r21, hr22⟩ : ∃ r_, r_ = M.impl_within x0 0 2 := ⟨_, rfl⟩
  have H := H r21 hr22
  refine (impl_within.con hr22 ).mono ?_
  rintro _ w24 ⟨rfl, e25⟩
  have hB := ethen hB e25
  refine ⟨r21, rfl, ?_⟩
  obtain rfl := hr.trans H.symm
  exact ⟨rfl, hB⟩

def slices_Index_int_int.vc (A0 : Option Addr) (n0 : Nat) (c0 : Nat) (x1 : Int) (w : World) (K : Value → World → Prop) : Prop :=
  LoopT (σ := Int × Unit) (fun z21 w22 next23 => bcase (decide (z21.1 < ((n0 : Nat) : Int))) (((0 : Int) ≤ z21.1 ∧ z21.1 < ((n0 : Nat) : Int) ∧ ∃ a24 : Addr, A0 = some a24 ∧ ∃ (n25 : Int), w22.cell? ((a24.add ((z21.1.toNat) * 1)).add 0) = some (.int .i64 n25) ∧ bcase (x1 == n25) (K (.int .i64 z21.1) w22) (next23 ((IntKind.wrap .i64 (z21.1 + 1)), ()) w22))) (K (.int .i64 (-1)) w22)) (0, ()) w

def slices_Index_int_int.ann : Ann := (.seq .l (.seq (.seq .l (.one (.loop [(8, .int .i64)] (.seq .l (.seq (.two .l .l) (.seq (.one (.seq .l (.seq .l (.two (.seq .l .l) .l)))) .l)))))) (.seq .l .l)))

theorem slices_Index_int_int.vc_eq (A0 : Option Addr) (n0 : Nat) (c0 : Nat) (x1 : Int) (w : World) (K : Value → World → Prop) : vcF Try.prog Try.f192 slices_Index_int_int.ann [(.slice A0 n0 c0), (.int .i64 x1)] K w = slices_Index_int_int.vc A0 n0 c0 x1 w K := by kernel_rfl

theorem slices_Index_int_int.start {A0 : Option Addr} {n0 : Nat} {c0 : Nat} {x1 : Int} {w : World} {K : Value → World → Prop} (h : slices_Index_int_int.vc A0 n0 c0 x1 w K) : Cll Try.prog 192 #[(.slice A0 n0 c0), (.int .i64 x1)] w K :=
  vcF_sound mixed (fn := Try.f192) (by kernel_rfl) (by kernel_rfl) (an := slices_Index_int_int.ann) (args := [(.slice A0 n0 c0), (.int .i64 x1)]) (by rw [slices_Index_int_int.vc_eq]; exact h)

theorem slices_Index_int_int.con {xs0 : List Int} {A0 : Option Addr} {c0 : Nat} {x1 : Int} {r : Int} {w : World} (hp : M.slices_Index_int_int_pre xs0 x1) (hr : r = M.slices_Index_int_int xs0 x1) (R0 : Row el3 w A0 xs0) (hc0 : xs0.length ≤ c0) :
    Cll Try.prog 192 #[(.slice A0 xs0.length c0), (.int .i64 x1)] w (fun v_ w_ => v_ = (.int .i64 r) ∧ Ext w w_) := by
  have H := wp.slices_Index_int_int.math xs0 x1 hp
  have hB := Ext.refl w
  refine slices_Index_int_int.start ?_
  unfold slices_Index_int_int.vc
  unfold wp.slices_Index_int_int at H
  obtain ⟨J23, ⟨m39, hJ38⟩, hS24⟩ := H
  refine ⟨fun m_ z_ w_ => ∃ (i21 : Int), z_ = (i21, ()) ∧ J23 m_ (i21, ()) ∧ Ext w w_, ⟨m39, 0, rfl, hJ38, hB⟩, ?_⟩
  rintro m22 _ w26 ⟨i21, rfl, hJ40, hB⟩
  have H := hS24 m22 _ hJ40
  clear hS24 hJ40
  dsimp only at H ⊢
  refine bcase_mk (fun hc36 => ?_) (fun hc36 => ?_)
  · have H := (bcase_iff.1 H).1 hc36
    obtain ⟨⟨h0_30, h1_31⟩, H⟩ := H
    obtain ⟨a28, ha29, hat27⟩ := Row.at (R0.ext hB) h0_30 h1_31
    refine ⟨h0_30, h1_31, a28, ha29, ?_⟩
    refine ⟨_, (hat27 0 _ rfl), ?_⟩
    refine bcase_mk (fun hc35 => ?_) (fun hc35 => ?_)
    · have H := (bcase_iff.1 H).1 hc35
      obtain rfl := hr.trans H.symm
      exact ⟨rfl, hB⟩
    · have H := (bcase_iff.1 H).2 hc35
      obtain ⟨m32, hm33, hJ34⟩ := H
      exact ⟨m32, hm33, (IntKind.wrap .i64 (i21 + 1)), rfl, hJ34, hB⟩
  · have H := (bcase_iff.1 H).2 hc36
    obtain rfl := hr.trans H.symm
    exact ⟨rfl, hB⟩

def slices_Contains_int_int.vc (A0 : Option Addr) (n0 : Nat) (c0 : Nat) (x1 : Int) (w : World) (K : Value → World → Prop) : Prop :=
  Cll Try.prog 192 #[(.slice A0 n0 c0), (.int .i64 x1)] w fun v21 w22 => (∃ (n23 : Int), v21 = (.int .i64 n23) ∧ K (.bool (decide (n23 ≥ 0))) w22)

def slices_Contains_int_int.ann : Ann := (.seq .l (.seq .l .l))

theorem slices_Contains_int_int.vc_eq (A0 : Option Addr) (n0 : Nat) (c0 : Nat) (x1 : Int) (w : World) (K : Value → World → Prop) : vcF Try.prog Try.f172 slices_Contains_int_int.ann [(.slice A0 n0 c0), (.int .i64 x1)] K w = slices_Contains_int_int.vc A0 n0 c0 x1 w K := by kernel_rfl

theorem slices_Contains_int_int.start {A0 : Option Addr} {n0 : Nat} {c0 : Nat} {x1 : Int} {w : World} {K : Value → World → Prop} (h : slices_Contains_int_int.vc A0 n0 c0 x1 w K) : Cll Try.prog 172 #[(.slice A0 n0 c0), (.int .i64 x1)] w K :=
  vcF_sound mixed (fn := Try.f172) (by kernel_rfl) (by kernel_rfl) (an := slices_Contains_int_int.ann) (args := [(.slice A0 n0 c0), (.int .i64 x1)]) (by rw [slices_Contains_int_int.vc_eq]; exact h)

theorem slices_Contains_int_int.con {xs0 : List Int} {A0 : Option Addr} {c0 : Nat} {x1 : Int} {r : Bool} {w : World} (hp : M.slices_Contains_int_int_pre xs0 x1) (hr : r = M.slices_Contains_int_int xs0 x1) (R0 : Row el3 w A0 xs0) (hc0 : xs0.length ≤ c0) :
    Cll Try.prog 172 #[(.slice A0 xs0.length c0), (.int .i64 x1)] w (fun v_ w_ => v_ = (.bool r) ∧ Ext w w_) := by
  have H := wp.slices_Contains_int_int.math xs0 x1 hp
  have hB := Ext.refl w
  refine slices_Contains_int_int.start ?_
  unfold slices_Contains_int_int.vc
  unfold wp.slices_Contains_int_int at H
  obtain ⟨hp23, H⟩ := H
  obtain ⟨r21, hr22⟩ : ∃ r_, r_ = M.slices_Index_int_int xs0 x1 := ⟨_, rfl⟩
  have H := H r21 hr22
  refine (slices_Index_int_int.con hp23 hr22 (R0.ext hB) hc0).mono ?_
  rintro _ w24 ⟨rfl, e25⟩
  have hB := ethen hB e25
  refine ⟨r21, rfl, ?_⟩
  obtain rfl := hr.trans H.symm
  exact ⟨rfl, hB⟩

end Go.V
