import Derived.Test.YtnafhlbbbgpmgaaPure
set_option linter.unusedVariables false
namespace Go.V

def wp.math_bits_Mul32 (x0 : Int) (x1 : Int) (Q : (Int × Int) → Prop) : Prop :=
  Q (IntKind.wrap .u32 (Int.fdiv (IntKind.wrap .u64 (IntKind.wrap .u64 x0 * (IntKind.wrap .u64 x1))) (2 ^ (min ((32 : Int).toNat) (IntKind.bits .u64)))), IntKind.wrap .u32 (IntKind.wrap .u64 (IntKind.wrap .u64 x0 * (IntKind.wrap .u64 x1))))

def wp.math_bits_Mul64 (x0 : Int) (x1 : Int) (Q : (Int × Int) → Prop) : Prop :=
  Q ((IntKind.wrap .u64 ((IntKind.wrap .u64 ((IntKind.wrap .u64 ((Int.fdiv x0 (2 ^ (min ((32 : Int).toNat) (IntKind.bits .u64)))) * (Int.fdiv x1 (2 ^ (min ((32 : Int).toNat) (IntKind.bits .u64)))))) + (Int.fdiv (IntKind.wrap .u64 ((IntKind.wrap .u64 ((Int.fdiv x0 (2 ^ (min ((32 : Int).toNat) (IntKind.bits .u64)))) * (bitAnd .u64 x1 4294967295))) + (Int.fdiv (IntKind.wrap .u64 ((bitAnd .u64 x0 4294967295) * (bitAnd .u64 x1 4294967295))) (2 ^ (min ((32 : Int).toNat) (IntKind.bits .u64)))))) (2 ^ (min ((32 : Int).toNat) (IntKind.bits .u64)))))) + (Int.fdiv (IntKind.wrap .u64 ((bitAnd .u64 (IntKind.wrap .u64 ((IntKind.wrap .u64 ((Int.fdiv x0 (2 ^ (min ((32 : Int).toNat) (IntKind.bits .u64)))) * (bitAnd .u64 x1 4294967295))) + (Int.fdiv (IntKind.wrap .u64 ((bitAnd .u64 x0 4294967295) * (bitAnd .u64 x1 4294967295))) (2 ^ (min ((32 : Int).toNat) (IntKind.bits .u64)))))) 4294967295) + (IntKind.wrap .u64 ((bitAnd .u64 x0 4294967295) * (Int.fdiv x1 (2 ^ (min ((32 : Int).toNat) (IntKind.bits .u64)))))))) (2 ^ (min ((32 : Int).toNat) (IntKind.bits .u64)))))), (IntKind.wrap .u64 (x0 * x1)))

def wp.math_bits_Mul (x0 : Int) (x1 : Int) (Q : (Int × Int) → Prop) : Prop :=
  (M.math_bits_Mul64_pre x0 x1 ∧ ∀ r21, r21 = M.math_bits_Mul64 x0 x1 → Q (r21.1, r21.2))

end Go.V
