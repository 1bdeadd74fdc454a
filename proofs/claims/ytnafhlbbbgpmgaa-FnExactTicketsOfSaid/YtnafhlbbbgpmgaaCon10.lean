import Derived.Test.YtnafhlbbbgpmgaaMath10
import Derived.Test.YtnafhlbbbgpmgaaSeat
import Derived.Test.YtnafhlbbbgpmgaaCon3
namespace Go.V
open Go.Proofs
set_option linter.unusedVariables false
set_option linter.unusedSimpArgs false
set_option maxRecDepth 100000

def math_bits_Mul32.vc (x0 : Int) (x1 : Int) (w : World) (K : Value → World → Prop) : Prop :=
  ((0 : Int) ≤ 32 ∧ K (.tuple #[(.int .u32 (IntKind.wrap .u32 (Int.fdiv (IntKind.wrap .u64 (IntKind.wrap .u64 x0 * (IntKind.wrap .u64 x1))) (2 ^ (min ((32 : Int).toNat) (IntKind.bits .u64)))))), (.int .u32 (IntKind.wrap .u32 (IntKind.wrap .u64 (IntKind.wrap .u64 x0 * (IntKind.wrap .u64 x1)))))]) w)

def math_bits_Mul32.ann : Ann := (.seq .l (.seq .l (.seq .l .l)))

theorem math_bits_Mul32.vc_eq (x0 : Int) (x1 : Int) (w : World) (K : Value → World → Prop) : vcF Try.prog Try.f195 math_bits_Mul32.ann [(.int .u32 x0), (.int .u32 x1)] K w = math_bits_Mul32.vc x0 x1 w K := by kernel_rfl

theorem math_bits_Mul32.start {x0 : Int} {x1 : Int} {w : World} {K : Value → World → Prop} (h : math_bits_Mul32.vc x0 x1 w K) : Cll Try.prog 195 #[(.int .u32 x0), (.int .u32 x1)] w K :=
  vcF_sound mixed (fn := Try.f195) (by kernel_rfl) (by kernel_rfl) (an := math_bits_Mul32.ann) (args := [(.int .u32 x0), (.int .u32 x1)]) (by rw [math_bits_Mul32.vc_eq]; exact h)

theorem math_bits_Mul32.con {x0 : Int} {x1 : Int} {r : Int × Int} {w : World} (hp : M.math_bits_Mul32_pre x0 x1) (hr : r = M.math_bits_Mul32 x0 x1)  :
    Cll Try.prog 195 #[(.int .u32 x0), (.int .u32 x1)] w (fun v_ w_ => v_ = (.tuple #[(.int .u32 r.1), (.int .u32 r.2)]) ∧ Ext w w_) := by
  have H := wp.math_bits_Mul32.math x0 x1 hp
  have hB := Ext.refl w
  refine math_bits_Mul32.start ?_
  unfold math_bits_Mul32.vc
  unfold wp.math_bits_Mul32 at H
  refine ⟨by decide, ?_⟩
  obtain rfl := hr.trans H.symm
  exact ⟨rfl, hB⟩

def math_bits_Mul64.vc (x0 : Int) (x1 : Int) (w : World) (K : Value → World → Prop) : Prop :=
  ((0 : Int) ≤ 32 ∧ ((0 : Int) ≤ 32 ∧ ((0 : Int) ≤ 32 ∧ ((0 : Int) ≤ 32 ∧ ((0 : Int) ≤ 32 ∧ K (.tuple #[(.int .u64 (IntKind.wrap .u64 ((IntKind.wrap .u64 ((IntKind.wrap .u64 ((Int.fdiv x0 (2 ^ (min ((32 : Int).toNat) (IntKind.bits .u64)))) * (Int.fdiv x1 (2 ^ (min ((32 : Int).toNat) (IntKind.bits .u64)))))) + (Int.fdiv (IntKind.wrap .u64 ((IntKind.wrap .u64 ((Int.fdiv x0 (2 ^ (min ((32 : Int).toNat) (IntKind.bits .u64)))) * (bitAnd .u64 x1 4294967295))) + (Int.fdiv (IntKind.wrap .u64 ((bitAnd .u64 x0 4294967295) * (bitAnd .u64 x1 4294967295))) (2 ^ (min ((32 : Int).toNat) (IntKind.bits .u64)))))) (2 ^ (min ((32 : Int).toNat) (IntKind.bits .u64)))))) + (Int.fdiv (IntKind.wrap .u64 ((bitAnd .u64 (IntKind.wrap .u64 ((IntKind.wrap .u64 ((Int.fdiv x0 (2 ^ (min ((32 : Int).toNat) (IntKind.bits .u64)))) * (bitAnd .u64 x1 4294967295))) + (Int.fdiv (IntKind.wrap .u64 ((bitAnd .u64 x0 4294967295) * (bitAnd .u64 x1 4294967295))) (2 ^ (min ((32 : Int).toNat) (IntKind.bits .u64)))))) 4294967295) + (IntKind.wrap .u64 ((bitAnd .u64 x0 4294967295) * (Int.fdiv x1 (2 ^ (min ((32 : Int).toNat) (IntKind.bits .u64)))))))) (2 ^ (min ((32 : Int).toNat) (IntKind.bits .u64))))))), (.int .u64 (IntKind.wrap .u64 (x0 * x1)))]) w)))))

def math_bits_Mul64.ann : Ann := (.seq .l (.seq .l (.seq .l (.seq .l (.seq .l (.seq .l (.seq .l (.seq .l (.seq .l (.seq .l (.seq .l (.seq .l .l))))))))))))

theorem math_bits_Mul64.vc_eq (x0 : Int) (x1 : Int) (w : World) (K : Value → World → Prop) : vcF Try.prog Try.f196 math_bits_Mul64.ann [(.int .u64 x0), (.int .u64 x1)] K w = math_bits_Mul64.vc x0 x1 w K := by kernel_rfl

theorem math_bits_Mul64.start {x0 : Int} {x1 : Int} {w : World} {K : Value → World → Prop} (h : math_bits_Mul64.vc x0 x1 w K) : Cll Try.prog 196 #[(.int .u64 x0), (.int .u64 x1)] w K :=
  vcF_sound mixed (fn := Try.f196) (by kernel_rfl) (by kernel_rfl) (an := math_bits_Mul64.ann) (args := [(.int .u64 x0), (.int .u64 x1)]) (by rw [math_bits_Mul64.vc_eq]; exact h)

theorem math_bits_Mul64.con {x0 : Int} {x1 : Int} {r : Int × Int} {w : World} (hp : M.math_bits_Mul64_pre x0 x1) (hr : r = M.math_bits_Mul64 x0 x1)  :
    Cll Try.prog 196 #[(.int .u64 x0), (.int .u64 x1)] w (fun v_ w_ => v_ = (.tuple #[(.int .u64 r.1), (.int .u64 r.2)]) ∧ Ext w w_) := by
  have H := wp.math_bits_Mul64.math x0 x1 hp
  have hB := Ext.refl w
  refine math_bits_Mul64.start ?_
  unfold math_bits_Mul64.vc
  unfold wp.math_bits_Mul64 at H
  refine ⟨by decide, ?_⟩
  refine ⟨by decide, ?_⟩
  refine ⟨by decide, ?_⟩
  refine ⟨by decide, ?_⟩
  refine ⟨by decide, ?_⟩
  obtain rfl := hr.trans H.symm
  exact ⟨rfl, hB⟩

def math_bits_Mul.vc (x0 : Int) (x1 : Int) (w : World) (K : Value → World → Prop) : Prop :=
  Cll Try.prog 196 #[(.int .u64 x0), (.int .u64 x1)] w fun v21 w22 => (∃ u23 : Value, (∃ (n24 : Int), u23 = (.int .u64 n24) ∧ ∃ u25 : Value, (∃ (n26 : Int), u25 = (.int .u64 n26) ∧ v21 = (.tuple #[(.int .u64 n24), (.int .u64 n26)]) ∧ K (.tuple #[(.int .u64 n24), (.int .u64 n26)]) w22)))

def math_bits_Mul.ann : Ann := (.seq .l (.seq (.two (.seq .l (.seq .l .l)) .l) (.seq .l (.seq .l .l))))

theorem math_bits_Mul.vc_eq (x0 : Int) (x1 : Int) (w : World) (K : Value → World → Prop) : vcF Try.prog Try.f167 math_bits_Mul.ann [(.int .u64 x0), (.int .u64 x1)] K w = math_bits_Mul.vc x0 x1 w K := by kernel_rfl

theorem math_bits_Mul.start {x0 : Int} {x1 : Int} {w : World} {K : Value → World → Prop} (h : math_bits_Mul.vc x0 x1 w K) : Cll Try.prog 167 #[(.int .u64 x0), (.int .u64 x1)] w K :=
  vcF_sound mixed (fn := Try.f167) (by kernel_rfl) (by kernel_rfl) (an := math_bits_Mul.ann) (args := [(.int .u64 x0), (.int .u64 x1)]) (by rw [math_bits_Mul.vc_eq]; exact h)

theorem math_bits_Mul.con {x0 : Int} {x1 : Int} {r : Int × Int} {w : World} (hp : M.math_bits_Mul_pre x0 x1) (hr : r = M.math_bits_Mul x0 x1)  :
    Cll Try.prog 167 #[(.int .u64 x0), (.int .u64 x1)] w (fun v_ w_ => v_ = (.tuple #[(.int .u64 r.1), (.int .u64 r.2)]) ∧ Ext w w_) := by
  have H := wp.math_bits_Mul.math x0 x1 hp
  have hB := Ext.refl w
  refine math_bits_Mul.start ?_
  unfold math_bits_Mul.vc
  unfold wp.math_bits_Mul at H
  obtain ⟨hp23, H⟩ := H
  obtain ⟨r21, hr22⟩ : ∃ r_, r_ = M.math_bits_Mul64 x0 x1 := ⟨_, rfl⟩
  have H := H r21 hr22
  refine (math_bits_Mul64.con hp23 hr22 ).mono ?_
  rintro _ w24 ⟨rfl, e25⟩
  have hB := ethen hB e25
  refine ⟨(.int .u64 r21.1), ?_⟩
  refine ⟨r21.1, rfl, ?_⟩
  refine ⟨(.int .u64 r21.2), ?_⟩
  refine ⟨r21.2, rfl, ?_⟩
  refine ⟨rfl, ?_⟩
  obtain rfl := hr.trans H.symm
  exact ⟨rfl, hB⟩

def slices_Repeat_int_int.vc (A0 : Option Addr) (n0 : Nat) (c0 : Nat) (x1 : Int) (w : World) (K : Value → World → Prop) : Prop :=
  bcase (decide (x1 < 0)) (False) (Cll Try.prog 167 #[(.int .u64 (IntKind.wrap .u64 ((n0 : Nat) : Int))), (.int .u64 (IntKind.wrap .u64 x1))] w fun v21 w22 => (∃ u23 : Value, (∃ (n24 : Int), u23 = (.int .u64 n24) ∧ ∃ u25 : Value, (∃ (n26 : Int), u25 = (.int .u64 n26) ∧ v21 = (.tuple #[(.int .u64 n24), (.int .u64 n26)]) ∧ bcase (decide (n24 > 0)) (False) (bcase (decide (n26 > 9223372036854775807)) (False) (vcMake Try.prog 39 (IntKind.wrap .i64 n26) (IntKind.wrap .i64 n26) w22 fun g28 w29 => Run Try.prog (Builtin.copy_ #[39, 39] 3 #[(.slice (some (⟨g28, 0, none⟩ : Addr)) ((IntKind.wrap .i64 n26).toNat) ((IntKind.wrap .i64 n26).toNat)), (.slice A0 n0 c0)]) w29 fun v30 w31 => ∃ n32 : Int, v30 = .int .i64 n32 ∧ LoopT (σ := Int × Unit) (fun z33 w34 next35 => bcase (decide (z33.1 < ((((IntKind.wrap .i64 n26).toNat) : Nat) : Int))) (((0 : Int) ≤ z33.1 ∧ z33.1 ≤ ((((IntKind.wrap .i64 n26).toNat) : Nat) : Int) ∧ ((0 : Int) ≤ z33.1 ∧ z33.1 ≤ ((((IntKind.wrap .i64 n26).toNat) : Nat) : Int) ∧ ((Run Try.prog (Builtin.copy_ #[39, 39] 3 #[(.slice (if ((IntKind.wrap .i64 n26).toNat) = (z33.1.toNat) then (some (⟨g28, 0, none⟩ : Addr)) else (some (⟨g28, 0, none⟩ : Addr)).map (·.add ((z33.1.toNat) * szOf Try.prog 3))) (((IntKind.wrap .i64 n26).toNat) - (z33.1.toNat)) (((IntKind.wrap .i64 n26).toNat) - (z33.1.toNat))), (.slice (some (⟨g28, 0, none⟩ : Addr)) (z33.1.toNat) ((IntKind.wrap .i64 n26).toNat))]) w34.drew fun v36 w37 => ∃ n38 : Int, v36 = .int .i64 n38 ∧ next35 ((IntKind.wrap .i64 (z33.1 + n38)), ()) w37) ∧ True)))) (K (.slice (some (⟨g28, 0, none⟩ : Addr)) ((IntKind.wrap .i64 n26).toNat) ((IntKind.wrap .i64 n26).toNat)) w34)) (n32, ()) w31))))))

def slices_Repeat_int_int.ann : Ann := (.seq .l (.seq (.seq .l (.two .l .l)) (.seq .l (.seq (.seq .l (.two .l .l)) (.seq .l (.seq .l (.seq (.one (.loop [(8, .int .i64)] (.seq (.seq .l (.two .l .l)) (.one .each)))) (.seq .l .l))))))))

theorem slices_Repeat_int_int.vc_eq (A0 : Option Addr) (n0 : Nat) (c0 : Nat) (x1 : Int) (w : World) (K : Value → World → Prop) : vcF Try.prog Try.f124 slices_Repeat_int_int.ann [(.slice A0 n0 c0), (.int .i64 x1)] K w = slices_Repeat_int_int.vc A0 n0 c0 x1 w K := by kernel_rfl

theorem slices_Repeat_int_int.start {A0 : Option Addr} {n0 : Nat} {c0 : Nat} {x1 : Int} {w : World} {K : Value → World → Prop} (h : slices_Repeat_int_int.vc A0 n0 c0 x1 w K) : Cll Try.prog 124 #[(.slice A0 n0 c0), (.int .i64 x1)] w K :=
  vcF_sound mixed (fn := Try.f124) (by kernel_rfl) (by kernel_rfl) (an := slices_Repeat_int_int.ann) (args := [(.slice A0 n0 c0), (.int .i64 x1)]) (by rw [slices_Repeat_int_int.vc_eq]; exact h)

end Go.V
