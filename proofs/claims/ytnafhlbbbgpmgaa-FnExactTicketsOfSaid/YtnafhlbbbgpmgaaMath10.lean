import Derived.Test.YtnafhlbbbgpmgaaMath3
import Derived.Test.YtnafhlbbbgpmgaaWp10
set_option linter.unusedVariables false
set_option linter.unusedSimpArgs false
namespace Go.V
theorem wp.math_bits_Mul32.math (x y : Int) (h : M.math_bits_Mul32_pre x y) : wp.math_bits_Mul32 x y (fun r => r = M.math_bits_Mul32 x y) := by
  obtain ⟨rfl, rfl⟩ := h
  unfold wp.math_bits_Mul32 M.math_bits_Mul32
  decide +kernel
theorem wp.math_bits_Mul64.math (x y : Int) (h : M.math_bits_Mul64_pre x y) : wp.math_bits_Mul64 x y (fun r => r = M.math_bits_Mul64 x y) := by
  obtain ⟨rfl, rfl⟩ := h
  unfold wp.math_bits_Mul64 M.math_bits_Mul64
  decide +kernel
theorem wp.math_bits_Mul.math (x y : Int) (h : M.math_bits_Mul_pre x y) : wp.math_bits_Mul x y (fun r => r = M.math_bits_Mul x y) :=
  ⟨h, fun r hr => by rw [hr]; rfl⟩
end Go.V
