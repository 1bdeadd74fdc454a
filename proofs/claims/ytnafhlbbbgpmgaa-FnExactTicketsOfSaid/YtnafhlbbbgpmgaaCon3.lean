import Derived.Test.YtnafhlbbbgpmgaaMath3
import Derived.Test.YtnafhlbbbgpmgaaSeat
import Derived.Test.YtnafhlbbbgpmgaaCon2
namespace Go.V
open Go.Proofs
set_option linter.unusedVariables false
set_option linter.unusedSimpArgs false
set_option maxRecDepth 100000

def spec_ValuesOk.vc (A0 : Option Addr) (n0 : Nat) (c0 : Nat) (w : World) (K : Value → World → Prop) : Prop :=
  bcase (((n0 : Nat) : Int) == 8) (Cll Try.prog 114 #[(.slice A0 n0 c0)] w fun v21 w22 => (∃ (b23 : Bool), v21 = (.bool b23) ∧ K (.bool b23) w22)) (K (.bool false) w)

def spec_ValuesOk.ann : Ann := (.seq .l (.seq .l .l))

theorem spec_ValuesOk.vc_eq (A0 : Option Addr) (n0 : Nat) (c0 : Nat) (w : World) (K : Value → World → Prop) : vcF Try.prog Try.f67 spec_ValuesOk.ann [(.slice A0 n0 c0)] K w = spec_ValuesOk.vc A0 n0 c0 w K := by kernel_rfl

theorem spec_ValuesOk.start {A0 : Option Addr} {n0 : Nat} {c0 : Nat} {w : World} {K : Value → World → Prop} (h : spec_ValuesOk.vc A0 n0 c0 w K) : Cll Try.prog 67 #[(.slice A0 n0 c0)] w K :=
  vcF_sound mixed (fn := Try.f67) (by kernel_rfl) (by kernel_rfl) (an := spec_ValuesOk.ann) (args := [(.slice A0 n0 c0)]) (by rw [spec_ValuesOk.vc_eq]; exact h)

theorem spec_ValuesOk.con {xs0 : List Int} {A0 : Option Addr} {c0 : Nat} {r : Bool} {w : World} (hr : r = M.spec_ValuesOk xs0) (R0 : Row el3 w A0 xs0) (hc0 : xs0.length ≤ c0) :
    Cll Try.prog 67 #[(.slice A0 xs0.length c0)] w (fun v_ w_ => v_ = (.bool r) ∧ Ext w w_) := by
  have H := wp.spec_ValuesOk.math xs0
  have hB := Ext.refl w
  refine spec_ValuesOk.start ?_
  unfold spec_ValuesOk.vc
  unfold wp.spec_ValuesOk at H
  refine bcase_mk (fun hc26 => ?_) (fun hc26 => ?_)
  · have H := (bcase_iff.1 H).1 hc26
    obtain ⟨hp23, H⟩ := H
    obtain ⟨r21, hr22⟩ : ∃ r_, r_ = M.spec_AreWords xs0 := ⟨_, rfl⟩
    have H := H r21 hr22
    refine (spec_AreWords.con hp23 hr22 (R0.ext hB) hc0).mono ?_
    rintro _ w24 ⟨rfl, e25⟩
    have hB := ethen hB e25
    refine ⟨r21, rfl, ?_⟩
    obtain rfl := hr.trans H.symm
    exact ⟨rfl, hB⟩
  · have H := (bcase_iff.1 H).2 hc26
    obtain rfl := hr.trans H.symm
    exact ⟨rfl, hB⟩

def spec_MaskOf.vc (A0 : Option Addr) (n0 : Nat) (c0 : Nat) (w : World) (K : Value → World → Prop) : Prop :=
  LoopT (σ := Int × Int × Unit) (fun z21 w22 next23 => bcase (decide (z21.2.1 < ((n0 : Nat) : Int))) (((0 : Int) ≤ z21.2.1 ∧ z21.2.1 < ((n0 : Nat) : Int) ∧ ∃ a24 : Addr, A0 = some a24 ∧ ∃ (n25 : Int), w22.cell? ((a24.add ((z21.2.1.toNat) * 1)).add 0) = some (.int .i64 n25) ∧ Cll Try.prog 113 #[(.int .i64 n25), (.int .i64 0), (.int .i64 7)] w22 fun v26 w27 => (∃ (b28 : Bool), v26 = (.bool b28) ∧ bcase (!b28) (K (.tuple #[(.int .i64 0), (.bool false)]) w27) (((0 : Int) ≤ z21.2.1 ∧ z21.2.1 < ((n0 : Nat) : Int) ∧ ∃ a29 : Addr, A0 = some a29 ∧ ∃ (n30 : Int), w27.cell? ((a29.add ((z21.2.1.toNat) * 1)).add 0) = some (.int .i64 n30) ∧ ((0 : Int) ≤ n30 ∧ next23 ((bitOr .i64 z21.1 (IntKind.wrap .i64 (1 * 2 ^ (min (n30.toNat) (IntKind.bits .i64))))), (IntKind.wrap .i64 (z21.2.1 + 1)), ()) w27)))))) (K (.tuple #[(.int .i64 z21.1), (.bool true)]) w22)) (0, 0, ()) w

def spec_MaskOf.ann : Ann := (.seq .l (.seq .l (.seq (.seq .l (.one (.loop [(4, .int .i64), (5, .int .i64)] (.seq (.seq .l (.two .l .l)) (.seq (.one (.seq (.seq .l (.two (.seq .l .l) .l)) .l)) .l))))) (.seq .l .l))))

theorem spec_MaskOf.vc_eq (A0 : Option Addr) (n0 : Nat) (c0 : Nat) (w : World) (K : Value → World → Prop) : vcF Try.prog Try.f164 spec_MaskOf.ann [(.slice A0 n0 c0)] K w = spec_MaskOf.vc A0 n0 c0 w K := by kernel_rfl

theorem spec_MaskOf.start {A0 : Option Addr} {n0 : Nat} {c0 : Nat} {w : World} {K : Value → World → Prop} (h : spec_MaskOf.vc A0 n0 c0 w K) : Cll Try.prog 164 #[(.slice A0 n0 c0)] w K :=
  vcF_sound mixed (fn := Try.f164) (by kernel_rfl) (by kernel_rfl) (an := spec_MaskOf.ann) (args := [(.slice A0 n0 c0)]) (by rw [spec_MaskOf.vc_eq]; exact h)

theorem spec_MaskOf.con {xs0 : List Int} {A0 : Option Addr} {c0 : Nat} {r : Int × Bool} {w : World} (hp : M.spec_MaskOf_pre xs0) (hr : r = M.spec_MaskOf xs0) (R0 : Row el3 w A0 xs0) (hc0 : xs0.length ≤ c0) :
    Cll Try.prog 164 #[(.slice A0 xs0.length c0)] w (fun v_ w_ => v_ = (.tuple #[(.int .i64 r.1), (.bool r.2)]) ∧ Ext w w_) := by
  have H := wp.spec_MaskOf.math xs0 hp
  have hB := Ext.refl w
  refine spec_MaskOf.start ?_
  unfold spec_MaskOf.vc
  unfold wp.spec_MaskOf at H
  obtain ⟨J24, ⟨m51, hJ50⟩, hS25⟩ := H
  refine ⟨fun m_ z_ w_ => ∃ (i21 : Int) (i22 : Int), z_ = (i21, i22, ()) ∧ J24 m_ (i21, i22, ()) ∧ Ext w w_, ⟨m51, 0, 0, rfl, hJ50, hB⟩, ?_⟩
  rintro m23 _ w27 ⟨i21, i22, rfl, hJ52, hB⟩
  have H := hS25 m23 _ hJ52
  clear hS25 hJ52
  dsimp only at H ⊢
  refine bcase_mk (fun hc48 => ?_) (fun hc48 => ?_)
  · have H := (bcase_iff.1 H).1 hc48
    obtain ⟨⟨h0_31, h1_32⟩, H⟩ := H
    obtain ⟨a29, ha30, hat28⟩ := Row.at (R0.ext hB) h0_31 h1_32
    refine ⟨h0_31, h1_32, a29, ha30, ?_⟩
    refine ⟨_, (hat28 0 _ rfl), ?_⟩
    obtain ⟨r33, hr34⟩ : ∃ r_, r_ = M.spec_l01In (rd xs0 i22) 0 7 := ⟨_, rfl⟩
    have H := H r33 hr34
    refine (spec_l01In.con hr34 ).mono ?_
    rintro _ w36 ⟨rfl, e37⟩
    have hB := ethen hB e37
    refine ⟨r33, rfl, ?_⟩
    refine bcase_mk (fun hc47 => ?_) (fun hc47 => ?_)
    · have H := (bcase_iff.1 H).1 hc47
      obtain rfl := hr.trans H.symm
      exact ⟨rfl, hB⟩
    · have H := (bcase_iff.1 H).2 hc47
      obtain ⟨⟨h0_41, h1_42⟩, H⟩ := H
      obtain ⟨a39, ha40, hat38⟩ := Row.at (R0.ext hB) h0_41 h1_42
      refine ⟨h0_41, h1_42, a39, ha40, ?_⟩
      refine ⟨_, (hat38 0 _ rfl), ?_⟩
      obtain ⟨hc43, H⟩ := H
      refine ⟨hc43, ?_⟩
      obtain ⟨m44, hm45, hJ46⟩ := H
      exact ⟨m44, hm45, (bitOr .i64 i21 (IntKind.wrap .i64 (1 * 2 ^ (min ((rd xs0 i22).toNat) (IntKind.bits .i64))))), (IntKind.wrap .i64 (i22 + 1)), rfl, hJ46, hB⟩
  · have H := (bcase_iff.1 H).2 hc48
    obtain rfl := hr.trans H.symm
    exact ⟨rfl, hB⟩

def spec_IsPermutation.vc (A0 : Option Addr) (n0 : Nat) (c0 : Nat) (w : World) (K : Value → World → Prop) : Prop :=
  Cll Try.prog 164 #[(.slice A0 n0 c0)] w fun v21 w22 => (∃ u23 : Value, (∃ (n24 : Int), u23 = (.int .i64 n24) ∧ ∃ u25 : Value, (∃ (b26 : Bool), u25 = (.bool b26) ∧ v21 = (.tuple #[(.int .i64 n24), (.bool b26)]) ∧ bcase b26 (bcase (((n0 : Nat) : Int) == 8) (K (.bool (n24 == 255)) w22) (K (.bool false) w22)) (K (.bool false) w22))))

def spec_IsPermutation.ann : Ann := (.seq .l (.seq .l (.seq .l .l)))

theorem spec_IsPermutation.vc_eq (A0 : Option Addr) (n0 : Nat) (c0 : Nat) (w : World) (K : Value → World → Prop) : vcF Try.prog Try.f119 spec_IsPermutation.ann [(.slice A0 n0 c0)] K w = spec_IsPermutation.vc A0 n0 c0 w K := by kernel_rfl

theorem spec_IsPermutation.start {A0 : Option Addr} {n0 : Nat} {c0 : Nat} {w : World} {K : Value → World → Prop} (h : spec_IsPermutation.vc A0 n0 c0 w K) : Cll Try.prog 119 #[(.slice A0 n0 c0)] w K :=
  vcF_sound mixed (fn := Try.f119) (by kernel_rfl) (by kernel_rfl) (an := spec_IsPermutation.ann) (args := [(.slice A0 n0 c0)]) (by rw [spec_IsPermutation.vc_eq]; exact h)

theorem spec_IsPermutation.con {xs0 : List Int} {A0 : Option Addr} {c0 : Nat} {r : Bool} {w : World} (hp : M.spec_IsPermutation_pre xs0) (hr : r = M.spec_IsPermutation xs0) (R0 : Row el3 w A0 xs0) (hc0 : xs0.length ≤ c0) :
    Cll Try.prog 119 #[(.slice A0 xs0.length c0)] w (fun v_ w_ => v_ = (.bool r) ∧ Ext w w_) := by
  have H := wp.spec_IsPermutation.math xs0 hp
  have hB := Ext.refl w
  refine spec_IsPermutation.start ?_
  unfold spec_IsPermutation.vc
  unfold wp.spec_IsPermutation at H
  obtain ⟨hp23, H⟩ := H
  obtain ⟨r21, hr22⟩ : ∃ r_, r_ = M.spec_MaskOf xs0 := ⟨_, rfl⟩
  have H := H r21 hr22
  refine (spec_MaskOf.con hp23 hr22 (R0.ext hB) hc0).mono ?_
  rintro _ w24 ⟨rfl, e25⟩
  have hB := ethen hB e25
  refine ⟨(.int .i64 r21.1), ?_⟩
  refine ⟨r21.1, rfl, ?_⟩
  refine ⟨(.bool r21.2), ?_⟩
  refine ⟨r21.2, rfl, ?_⟩
  refine ⟨rfl, ?_⟩
  refine bcase_mk (fun hc27 => ?_) (fun hc27 => ?_)
  · have H := (bcase_iff.1 H).1 hc27
    refine bcase_mk (fun hc26 => ?_) (fun hc26 => ?_)
    · have H := (bcase_iff.1 H).1 hc26
      obtain rfl := hr.trans H.symm
      exact ⟨rfl, hB⟩
    · have H := (bcase_iff.1 H).2 hc26
      obtain rfl := hr.trans H.symm
      exact ⟨rfl, hB⟩
  · have H := (bcase_iff.1 H).2 hc27
    obtain rfl := hr.trans H.symm
    exact ⟨rfl, hB⟩

def spec_WrapWord.vc (x0 : Int) (w : World) (K : Value → World → Prop) : Prop :=
  ((65536 : Int) ≠ 0 ∧ ((65536 : Int) ≠ 0 ∧ K (.int .i64 (Int.tmod (IntKind.wrap .i64 ((Int.tmod x0 65536) + 65536)) 65536)) w))

def spec_WrapWord.ann : Ann := (.seq .l (.seq .l .l))

theorem spec_WrapWord.vc_eq (x0 : Int) (w : World) (K : Value → World → Prop) : vcF Try.prog Try.f127 spec_WrapWord.ann [(.int .i64 x0)] K w = spec_WrapWord.vc x0 w K := by kernel_rfl

theorem spec_WrapWord.start {x0 : Int} {w : World} {K : Value → World → Prop} (h : spec_WrapWord.vc x0 w K) : Cll Try.prog 127 #[(.int .i64 x0)] w K :=
  vcF_sound mixed (fn := Try.f127) (by kernel_rfl) (by kernel_rfl) (an := spec_WrapWord.ann) (args := [(.int .i64 x0)]) (by rw [spec_WrapWord.vc_eq]; exact h)

theorem spec_WrapWord.con {x0 : Int} {r : Int} {w : World} (hr : r = M.spec_WrapWord x0)  :
    Cll Try.prog 127 #[(.int .i64 x0)] w (fun v_ w_ => v_ = (.int .i64 r) ∧ Ext w w_) := by
  have H := wp.spec_WrapWord.math x0
  have hB := Ext.refl w
  refine spec_WrapWord.start ?_
  unfold spec_WrapWord.vc
  unfold wp.spec_WrapWord at H
  refine ⟨by decide, ?_⟩
  refine ⟨by decide, ?_⟩
  obtain rfl := hr.trans H.symm
  exact ⟨rfl, hB⟩

def spec_AddWords.vc (x0 : Int) (x1 : Int) (w : World) (K : Value → World → Prop) : Prop :=
  Cll Try.prog 66 #[(.int .i64 x0)] w fun v21 w22 => (∃ (b23 : Bool), v21 = (.bool b23) ∧ bcase (!b23) (K (.int .i64 0) w22) (Cll Try.prog 66 #[(.int .i64 x1)] w22 fun v24 w25 => (∃ (b26 : Bool), v24 = (.bool b26) ∧ bcase (!b26) (K (.int .i64 0) w25) (Cll Try.prog 127 #[(.int .i64 (IntKind.wrap .i64 (x0 + x1)))] w25 fun v27 w28 => (∃ (n29 : Int), v27 = (.int .i64 n29) ∧ K (.int .i64 n29) w28)))))

def spec_AddWords.ann : Ann := (.seq .l (.seq (.seq .l (.two (.seq .l .l) .l)) (.seq .l .l)))

theorem spec_AddWords.vc_eq (x0 : Int) (x1 : Int) (w : World) (K : Value → World → Prop) : vcF Try.prog Try.f69 spec_AddWords.ann [(.int .i64 x0), (.int .i64 x1)] K w = spec_AddWords.vc x0 x1 w K := by kernel_rfl

theorem spec_AddWords.start {x0 : Int} {x1 : Int} {w : World} {K : Value → World → Prop} (h : spec_AddWords.vc x0 x1 w K) : Cll Try.prog 69 #[(.int .i64 x0), (.int .i64 x1)] w K :=
  vcF_sound mixed (fn := Try.f69) (by kernel_rfl) (by kernel_rfl) (an := spec_AddWords.ann) (args := [(.int .i64 x0), (.int .i64 x1)]) (by rw [spec_AddWords.vc_eq]; exact h)

theorem spec_AddWords.con {x0 : Int} {x1 : Int} {r : Int} {w : World} (hr : r = M.spec_AddWords x0 x1)  :
    Cll Try.prog 69 #[(.int .i64 x0), (.int .i64 x1)] w (fun v_ w_ => v_ = (.int .i64 r) ∧ Ext w w_) := by
  have H := wp.spec_AddWords.math x0 x1
  have hB := Ext.refl w
  refine spec_AddWords.start ?_
  unfold spec_AddWords.vc
  unfold wp.spec_AddWords at H
  obtain ⟨r21, hr22⟩ : ∃ r_, r_ = M.spec_IsWord x0 := ⟨_, rfl⟩
  have H := H r21 hr22
  refine (spec_IsWord.con hr22 ).mono ?_
  rintro _ w24 ⟨rfl, e25⟩
  have hB := ethen hB e25
  refine ⟨r21, rfl, ?_⟩
  refine bcase_mk (fun hc37 => ?_) (fun hc37 => ?_)
  · have H := (bcase_iff.1 H).1 hc37
    obtain rfl := hr.trans H.symm
    exact ⟨rfl, hB⟩
  · have H := (bcase_iff.1 H).2 hc37
    obtain ⟨r26, hr27⟩ : ∃ r_, r_ = M.spec_IsWord x1 := ⟨_, rfl⟩
    have H := H r26 hr27
    refine (spec_IsWord.con hr27 ).mono ?_
    rintro _ w29 ⟨rfl, e30⟩
    have hB := ethen hB e30
    refine ⟨r26, rfl, ?_⟩
    refine bcase_mk (fun hc36 => ?_) (fun hc36 => ?_)
    · have H := (bcase_iff.1 H).1 hc36
      obtain rfl := hr.trans H.symm
      exact ⟨rfl, hB⟩
    · have H := (bcase_iff.1 H).2 hc36
      obtain ⟨r31, hr32⟩ : ∃ r_, r_ = M.spec_WrapWord (IntKind.wrap .i64 (x0 + x1)) := ⟨_, rfl⟩
      have H := H r31 hr32
      refine (spec_WrapWord.con hr32 ).mono ?_
      rintro _ w34 ⟨rfl, e35⟩
      have hB := ethen hB e35
      refine ⟨r31, rfl, ?_⟩
      obtain rfl := hr.trans H.symm
      exact ⟨rfl, hB⟩

def spec_AddInOrder.vc (x0 : Int) (A1 : Option Addr) (n1 : Nat) (c1 : Nat) (A2 : Option Addr) (n2 : Nat) (c2 : Nat) (w : World) (K : Value → World → Prop) : Prop :=
  Cll Try.prog 66 #[(.int .i64 x0)] w fun v22 w23 => (∃ (b24 : Bool), v22 = (.bool b24) ∧ bcase (!b24) (Run Try.prog (Instr.buildSlice 39 0 #[]) w23 fun v25 w26 => ∃ (A27 : Option Addr) (n28 c29 : Nat), v25 = .slice A27 n28 c29 ∧ K (.tuple #[(.slice A27 n28 c29), (.int .i64 0), (.bool false)]) w26) (Cll Try.prog 67 #[(.slice A1 n1 c1)] w23 fun v30 w31 => (∃ (b32 : Bool), v30 = (.bool b32) ∧ bcase (!b32) (Run Try.prog (Instr.buildSlice 39 0 #[]) w31 fun v33 w34 => ∃ (A35 : Option Addr) (n36 c37 : Nat), v33 = .slice A35 n36 c37 ∧ K (.tuple #[(.slice A35 n36 c37), (.int .i64 0), (.bool false)]) w34) (Cll Try.prog 119 #[(.slice A2 n2 c2)] w31 fun v38 w39 => (∃ (b40 : Bool), v38 = (.bool b40) ∧ bcase (!b40) (Run Try.prog (Instr.buildSlice 39 0 #[]) w39 fun v41 w42 => ∃ (A43 : Option Addr) (n44 c45 : Nat), v41 = .slice A43 n44 c45 ∧ K (.tuple #[(.slice A43 n44 c45), (.int .i64 0), (.bool false)]) w42) (vcMake Try.prog 39 8 8 w39 fun g46 w47 => LoopT (σ := Int × Int × Unit) (fun z48 w49 next50 => bcase (decide (z48.2.1 < 8)) (((0 : Int) ≤ z48.2.1 ∧ z48.2.1 < ((n2 : Nat) : Int) ∧ ∃ a51 : Addr, A2 = some a51 ∧ ∃ (n52 : Int), w49.cell? ((a51.add ((z48.2.1.toNat) * 1)).add 0) = some (.int .i64 n52) ∧ ((0 : Int) ≤ n52 ∧ n52 < ((((8 : Int).toNat) : Nat) : Int) ∧ ∃ a53 : Addr, (some (⟨g46, 0, none⟩ : Addr)) = some a53 ∧ stCells (a53.add ((n52.toNat) * 1)) [(.int .i64 z48.1)] 0 w49 fun w54 => ((0 : Int) ≤ z48.2.1 ∧ z48.2.1 < ((n2 : Nat) : Int) ∧ ∃ a55 : Addr, A2 = some a55 ∧ ∃ (n56 : Int), w54.cell? ((a55.add ((z48.2.1.toNat) * 1)).add 0) = some (.int .i64 n56) ∧ ((0 : Int) ≤ n56 ∧ n56 < ((n1 : Nat) : Int) ∧ ∃ a57 : Addr, A1 = some a57 ∧ ∃ (n58 : Int), w54.cell? ((a57.add ((n56.toNat) * 1)).add 0) = some (.int .i64 n58) ∧ Cll Try.prog 69 #[(.int .i64 z48.1), (.int .i64 n58)] w54 fun v59 w60 => (∃ (n61 : Int), v59 = (.int .i64 n61) ∧ next50 (n61, (IntKind.wrap .i64 (z48.2.1 + 1)), ()) w60)))))) (K (.tuple #[(.slice (some (⟨g46, 0, none⟩ : Addr)) ((8 : Int).toNat) ((8 : Int).toNat)), (.int .i64 z48.1), (.bool true)]) w49)) (x0, 0, ()) w47))))))

def spec_AddInOrder.ann : Ann := (.seq .l (.seq (.seq .l (.two (.seq .l .l) .l)) (.seq .l (.seq .l (.seq (.seq .l (.one (.loop [(10, .int .i64), (11, .int .i64)] (.seq (.seq .l (.two .l .l)) (.seq (.one (.seq .l .l)) .l))))) (.seq .l .l))))))

theorem spec_AddInOrder.vc_eq (x0 : Int) (A1 : Option Addr) (n1 : Nat) (c1 : Nat) (A2 : Option Addr) (n2 : Nat) (c2 : Nat) (w : World) (K : Value → World → Prop) : vcF Try.prog Try.f63 spec_AddInOrder.ann [(.int .i64 x0), (.slice A1 n1 c1), (.slice A2 n2 c2)] K w = spec_AddInOrder.vc x0 A1 n1 c1 A2 n2 c2 w K := by kernel_rfl

theorem spec_AddInOrder.start {x0 : Int} {A1 : Option Addr} {n1 : Nat} {c1 : Nat} {A2 : Option Addr} {n2 : Nat} {c2 : Nat} {w : World} {K : Value → World → Prop} (h : spec_AddInOrder.vc x0 A1 n1 c1 A2 n2 c2 w K) : Cll Try.prog 63 #[(.int .i64 x0), (.slice A1 n1 c1), (.slice A2 n2 c2)] w K :=
  vcF_sound mixed (fn := Try.f63) (by kernel_rfl) (by kernel_rfl) (an := spec_AddInOrder.ann) (args := [(.int .i64 x0), (.slice A1 n1 c1), (.slice A2 n2 c2)]) (by rw [spec_AddInOrder.vc_eq]; exact h)

theorem spec_AddInOrder.con {x0 : Int} {xs1 : List Int} {A1 : Option Addr} {c1 : Nat} {xs2 : List Int} {A2 : Option Addr} {c2 : Nat} {r : (List Int) × Int × Bool} {w : World} (hp : M.spec_AddInOrder_pre x0 xs1 xs2) (hr : r = M.spec_AddInOrder x0 xs1 xs2) (R1 : Row el3 w A1 xs1) (hc1 : xs1.length ≤ c1) (R2 : Row el3 w A2 xs2) (hc2 : xs2.length ≤ c2) :
    Cll Try.prog 63 #[(.int .i64 x0), (.slice A1 xs1.length c1), (.slice A2 xs2.length c2)] w (fun v_ w_ => ∃ (A0_ : Option Addr) (c0_ : Nat), v_ = (.tuple #[(.slice A0_ r.1.length c0_), (.int .i64 r.2.1), (.bool r.2.2)]) ∧ Own el3 w_ w.heap.size A0_ c0_ r.1 ∧ Ext w w_) := by
  have H := wp.spec_AddInOrder.math x0 xs1 xs2 hp
  have hB := Ext.refl w
  refine spec_AddInOrder.start ?_
  unfold spec_AddInOrder.vc
  unfold wp.spec_AddInOrder at H
  obtain ⟨r21, hr22⟩ : ∃ r_, r_ = M.spec_IsWord x0 := ⟨_, rfl⟩
  have H := H r21 hr22
  refine (spec_IsWord.con hr22 ).mono ?_
  rintro _ w24 ⟨rfl, e25⟩
  have hB := ethen hB e25
  refine ⟨r21, rfl, ?_⟩
  refine bcase_mk (fun hc132 => ?_) (fun hc132 => ?_)
  · have H := (bcase_iff.1 H).1 hc132
    refine buildOwn el3 ([] : List Int) (fun _ => by kernel_rfl) rfl (fun A26 w27 P3 e28 => ?_)
    have O3 := P3.mono hB.size
    have hB := ethen hB e28
    obtain rfl := hr.trans H.symm
    exact ⟨A26, 0, (by first | rfl | (simp; done) | (simp; omega) | (simp [*]; done)), (by first | exact O3 | (simp only [List.length_set]; exact O3)), hB⟩
  · have H := (bcase_iff.1 H).2 hc132
    obtain ⟨r29, hr30⟩ : ∃ r_, r_ = M.spec_ValuesOk xs1 := ⟨_, rfl⟩
    have H := H r29 hr30
    refine (spec_ValuesOk.con hr30 (R1.ext hB) hc1).mono ?_
    rintro _ w32 ⟨rfl, e33⟩
    have hB := ethen hB e33
    refine ⟨r29, rfl, ?_⟩
    refine bcase_mk (fun hc131 => ?_) (fun hc131 => ?_)
    · have H := (bcase_iff.1 H).1 hc131
      refine buildOwn el3 ([] : List Int) (fun _ => by kernel_rfl) rfl (fun A34 w35 P4 e36 => ?_)
      have O4 := P4.mono hB.size
      have hB := ethen hB e36
      obtain rfl := hr.trans H.symm
      exact ⟨A34, 0, (by first | rfl | (simp; done) | (simp; omega) | (simp [*]; done)), (by first | exact O4 | (simp only [List.length_set]; exact O4)), hB⟩
    · have H := (bcase_iff.1 H).2 hc131
      obtain ⟨hp39, H⟩ := H
      obtain ⟨r37, hr38⟩ : ∃ r_, r_ = M.spec_IsPermutation xs2 := ⟨_, rfl⟩
      have H := H r37 hr38
      refine (spec_IsPermutation.con hp39 hr38 (R2.ext hB) hc2).mono ?_
      rintro _ w40 ⟨rfl, e41⟩
      have hB := ethen hB e41
      refine ⟨r37, rfl, ?_⟩
      refine bcase_mk (fun hc130 => ?_) (fun hc130 => ?_)
      · have H := (bcase_iff.1 H).1 hc130
        refine buildOwn el3 ([] : List Int) (fun _ => by kernel_rfl) rfl (fun A42 w43 P5 e44 => ?_)
        have O5 := P5.mono hB.size
        have hB := ethen hB e44
        obtain rfl := hr.trans H.symm
        exact ⟨A42, 0, (by first | rfl | (simp; done) | (simp; omega) | (simp [*]; done)), (by first | exact O5 | (simp only [List.length_set]; exact O5)), hB⟩
      · have H := (bcase_iff.1 H).2 hc130
        obtain ⟨⟨h0_48, h1_49⟩, H⟩ := H
        refine makeOwn slt39 h0_48 h1_49 (fun g45 w46 P6 e47 => ?_)
        have O6 := P6.mono hB.size
        have hB := ethen hB e47
        obtain ⟨J90, ⟨m128, hJ127⟩, hS91⟩ := H
        refine ⟨fun m_ z_ w_ => ∃ (i85 : Int) (i86 : Int) (xs87 : List Int), z_ = (i85, i86, ()) ∧ J90 m_ (i85, i86, xs87, ()) ∧ Ext w w_ ∧ Own el3 w_ w.heap.size (some (⟨g45, 0, none⟩ : Addr)) ((8 : Int).toNat) xs87 ∧ ((8 : Int).toNat) = xs87.length, ⟨m128, x0, 0, (List.replicate ((8 : Int).toNat) (default : Int)), rfl, hJ127, hB, O6, (by first | rfl | assumption | (simp; done) | (simp; omega) | (simp; assumption))⟩, ?_⟩
        rintro m89 _ w93 ⟨i85, i86, xs87, rfl, hJ129, hB, O6, hn88⟩
        have H := hS91 m89 _ hJ129
        clear hS91 hJ129
        dsimp only at H ⊢
        refine bcase_mk (fun hc125 => ?_) (fun hc125 => ?_)
        · have H := (bcase_iff.1 H).1 hc125
          obtain ⟨⟨h0_97, h1_98⟩, H⟩ := H
          obtain ⟨a95, ha96, hat94⟩ := Row.at (R2.ext hB) h0_97 h1_98
          refine ⟨h0_97, h1_98, a95, ha96, ?_⟩
          refine ⟨_, (hat94 0 _ rfl), ?_⟩
          obtain ⟨⟨h0_102, h1_103⟩, H⟩ := H
          obtain ⟨a100, ha101, hat99⟩ := Row.at O6.row h0_102 h1_103
          refine ⟨h0_102, (by first | exact h1_103 | omega | (simp at h1_103 ⊢; omega)), a100, ha101, ?_⟩
          refine Own.storeAt O6 ha101 h0_102 h1_103 0 [(.int .i64 i85)] i85 rfl (Nat.le_of_ble_eq_true rfl) rfl (fun w104 P6 e105 hb106 => ?_)
          have hB := echg hB e105 hb106
          have O6 := P6
          obtain ⟨⟨h0_110, h1_111⟩, H⟩ := H
          obtain ⟨a108, ha109, hat107⟩ := Row.at (R2.ext hB) h0_110 h1_111
          refine ⟨h0_110, h1_111, a108, ha109, ?_⟩
          refine ⟨_, (hat107 0 _ rfl), ?_⟩
          obtain ⟨⟨h0_115, h1_116⟩, H⟩ := H
          obtain ⟨a113, ha114, hat112⟩ := Row.at (R1.ext hB) h0_115 h1_116
          refine ⟨h0_115, h1_116, a113, ha114, ?_⟩
          refine ⟨_, (hat112 0 _ rfl), ?_⟩
          obtain ⟨r117, hr118⟩ : ∃ r_, r_ = M.spec_AddWords i85 (rd xs1 (rd xs2 i86)) := ⟨_, rfl⟩
          have H := H r117 hr118
          refine (spec_AddWords.con hr118 ).mono ?_
          rintro _ w120 ⟨rfl, e121⟩
          have O6 := O6.ext e121
          have hB := ethen hB e121
          refine ⟨r117, rfl, ?_⟩
          obtain ⟨m122, hm123, hJ124⟩ := H
          exact ⟨m122, hm123, r117, (IntKind.wrap .i64 (i86 + 1)), (List.set xs87 ((rd xs2 i86).toNat) i85), rfl, hJ124, hB, O6, (by first | rfl | assumption | (simp; done) | (simp; omega) | (simp; assumption))⟩
        · have H := (bcase_iff.1 H).2 hc125
          obtain rfl := hr.trans H.symm
          exact ⟨(some (⟨g45, 0, none⟩ : Addr)), ((8 : Int).toNat), (by first | rfl | (simp; done) | (simp; omega) | (simp [*]; done)), (by first | exact O6 | (simp only [List.length_set]; exact O6)), hB⟩

def slices_IndexFunc_int_int.vc (A0 : Option Addr) (n0 : Nat) (c0 : Nat) (f1 : Nat) (cap1 : Array Value) (w : World) (K : Value → World → Prop) : Prop :=
  LoopT (σ := Int × Unit) (fun z21 w22 next23 => bcase (decide (z21.1 < ((n0 : Nat) : Int))) (((0 : Int) ≤ z21.1 ∧ z21.1 < ((n0 : Nat) : Int) ∧ ∃ a24 : Addr, A0 = some a24 ∧ ∃ (n25 : Int), w22.cell? ((a24.add ((z21.1.toNat) * 1)).add 0) = some (.int .i64 n25) ∧ Cll Try.prog f1 (#[(.int .i64 n25)] ++ cap1) w22 fun v26 w27 => (∃ (b28 : Bool), v26 = (.bool b28) ∧ bcase b28 (K (.int .i64 z21.1) w27) (next23 ((IntKind.wrap .i64 (z21.1 + 1)), ()) w27)))) (K (.int .i64 (-1)) w22)) (0, ()) w

def slices_IndexFunc_int_int.ann : Ann := (.seq .l (.seq (.seq .l (.one (.loop [(8, .int .i64)] (.seq .l (.seq (.two .l .l) (.seq (.one (.seq .l (.seq .l (.two (.seq .l .l) .l)))) .l)))))) (.seq .l .l)))

theorem slices_IndexFunc_int_int.vc_eq (A0 : Option Addr) (n0 : Nat) (c0 : Nat) (f1 : Nat) (cap1 : Array Value) (w : World) (K : Value → World → Prop) : vcF Try.prog Try.f202 slices_IndexFunc_int_int.ann [(.slice A0 n0 c0), (.func (.func f1) #[] cap1)] K w = slices_IndexFunc_int_int.vc A0 n0 c0 f1 cap1 w K := by kernel_rfl

theorem slices_IndexFunc_int_int.start {A0 : Option Addr} {n0 : Nat} {c0 : Nat} {f1 : Nat} {cap1 : Array Value} {w : World} {K : Value → World → Prop} (h : slices_IndexFunc_int_int.vc A0 n0 c0 f1 cap1 w K) : Cll Try.prog 202 #[(.slice A0 n0 c0), (.func (.func f1) #[] cap1)] w K :=
  vcF_sound mixed (fn := Try.f202) (by kernel_rfl) (by kernel_rfl) (an := slices_IndexFunc_int_int.ann) (args := [(.slice A0 n0 c0), (.func (.func f1) #[] cap1)]) (by rw [slices_IndexFunc_int_int.vc_eq]; exact h)

theorem slices_IndexFunc_int_int.con {xs0 : List Int} {A0 : Option Addr} {c0 : Nat} {f1 : Nat} {cap1 : Array Value} {g1 : Int → Bool} {D1 : Int → Prop} {r : Int} {w : World} (hp : M.slices_IndexFunc_int_int_pre xs0 g1 D1) (hr : r = M.slices_IndexFunc_int_int xs0 g1) (R0 : Row el3 w A0 xs0) (hc0 : xs0.length ≤ c0) (F1 : ∀ (z0_ : Int), D1 z0_ → ∀ w_ : World, Ext w w_ → Cll Try.prog f1 (#[(.int .i64 z0_)] ++ cap1) w_ (fun v_ w1_ => v_ = (.bool (g1 z0_)) ∧ Ext w_ w1_)) :
    Cll Try.prog 202 #[(.slice A0 xs0.length c0), (.func (.func f1) #[] cap1)] w (fun v_ w_ => v_ = (.int .i64 r) ∧ Ext w w_) := by
  have H := wp.slices_IndexFunc_int_int.math xs0 g1 D1 hp
  have hB := Ext.refl w
  refine slices_IndexFunc_int_int.start ?_
  unfold slices_IndexFunc_int_int.vc
  unfold wp.slices_IndexFunc_int_int at H
  obtain ⟨J23, ⟨m44, hJ43⟩, hS24⟩ := H
  refine ⟨fun m_ z_ w_ => ∃ (i21 : Int), z_ = (i21, ()) ∧ J23 m_ (i21, ()) ∧ Ext w w_, ⟨m44, 0, rfl, hJ43, hB⟩, ?_⟩
  rintro m22 _ w26 ⟨i21, rfl, hJ45, hB⟩
  have H := hS24 m22 _ hJ45
  clear hS24 hJ45
  dsimp only at H ⊢
  refine bcase_mk (fun hc41 => ?_) (fun hc41 => ?_)
  · have H := (bcase_iff.1 H).1 hc41
    obtain ⟨⟨h0_30, h1_31⟩, H⟩ := H
    obtain ⟨a28, ha29, hat27⟩ := Row.at (R0.ext hB) h0_30 h1_31
    refine ⟨h0_30, h1_31, a28, ha29, ?_⟩
    refine ⟨_, (hat27 0 _ rfl), ?_⟩
    obtain ⟨hd34, H⟩ := H
    obtain ⟨r32, hr33⟩ : ∃ r_, r_ = g1 (rd xs0 i21) := ⟨_, rfl⟩
    have H := H r32 hr33
    refine (F1 (rd xs0 i21) hd34 _ hB).mono ?_
    rintro _ w35 ⟨rfl, e36⟩
    rw [← hr33]
    have hB := ethen hB e36
    refine ⟨r32, rfl, ?_⟩
    refine bcase_mk (fun hc40 => ?_) (fun hc40 => ?_)
    · have H := (bcase_iff.1 H).1 hc40
      obtain rfl := hr.trans H.symm
      exact ⟨rfl, hB⟩
    · have H := (bcase_iff.1 H).2 hc40
      obtain ⟨m37, hm38, hJ39⟩ := H
      exact ⟨m37, hm38, (IntKind.wrap .i64 (i21 + 1)), rfl, hJ39, hB⟩
  · have H := (bcase_iff.1 H).2 hc41
    obtain rfl := hr.trans H.symm
    exact ⟨rfl, hB⟩

def slices_ContainsFunc_int_int.vc (A0 : Option Addr) (n0 : Nat) (c0 : Nat) (f1 : Nat) (cap1 : Array Value) (w : World) (K : Value → World → Prop) : Prop :=
  Cll Try.prog 202 #[(.slice A0 n0 c0), (.func (.func f1) #[] cap1)] w fun v21 w22 => (∃ (n23 : Int), v21 = (.int .i64 n23) ∧ K (.bool (decide (n23 ≥ 0))) w22)

def slices_ContainsFunc_int_int.ann : Ann := (.seq .l (.seq .l .l))

theorem slices_ContainsFunc_int_int.vc_eq (A0 : Option Addr) (n0 : Nat) (c0 : Nat) (f1 : Nat) (cap1 : Array Value) (w : World) (K : Value → World → Prop) : vcF Try.prog Try.f183 slices_ContainsFunc_int_int.ann [(.slice A0 n0 c0), (.func (.func f1) #[] cap1)] K w = slices_ContainsFunc_int_int.vc A0 n0 c0 f1 cap1 w K := by kernel_rfl

theorem slices_ContainsFunc_int_int.start {A0 : Option Addr} {n0 : Nat} {c0 : Nat} {f1 : Nat} {cap1 : Array Value} {w : World} {K : Value → World → Prop} (h : slices_ContainsFunc_int_int.vc A0 n0 c0 f1 cap1 w K) : Cll Try.prog 183 #[(.slice A0 n0 c0), (.func (.func f1) #[] cap1)] w K :=
  vcF_sound mixed (fn := Try.f183) (by kernel_rfl) (by kernel_rfl) (an := slices_ContainsFunc_int_int.ann) (args := [(.slice A0 n0 c0), (.func (.func f1) #[] cap1)]) (by rw [slices_ContainsFunc_int_int.vc_eq]; exact h)

theorem slices_ContainsFunc_int_int.con {xs0 : List Int} {A0 : Option Addr} {c0 : Nat} {f1 : Nat} {cap1 : Array Value} {g1 : Int → Bool} {D1 : Int → Prop} {r : Bool} {w : World} (hp : M.slices_ContainsFunc_int_int_pre xs0 g1 D1) (hr : r = M.slices_ContainsFunc_int_int xs0 g1) (R0 : Row el3 w A0 xs0) (hc0 : xs0.length ≤ c0) (F1 : ∀ (z0_ : Int), D1 z0_ → ∀ w_ : World, Ext w w_ → Cll Try.prog f1 (#[(.int .i64 z0_)] ++ cap1) w_ (fun v_ w1_ => v_ = (.bool (g1 z0_)) ∧ Ext w_ w1_)) :
    Cll Try.prog 183 #[(.slice A0 xs0.length c0), (.func (.func f1) #[] cap1)] w (fun v_ w_ => v_ = (.bool r) ∧ Ext w w_) := by
  have H := wp.slices_ContainsFunc_int_int.math xs0 g1 D1 hp
  have hB := Ext.refl w
  refine slices_ContainsFunc_int_int.start ?_
  unfold slices_ContainsFunc_int_int.vc
  unfold wp.slices_ContainsFunc_int_int at H
  obtain ⟨hp23, H⟩ := H
  obtain ⟨r21, hr22⟩ : ∃ r_, r_ = M.slices_IndexFunc_int_int xs0 g1 := ⟨_, rfl⟩
  have H := H r21 hr22
  refine (slices_IndexFunc_int_int.con hp23 hr22 (R0.ext hB) hc0 (fun z0_ h_ w_ e_ => F1 z0_ h_ w_ (ethen hB e_))).mono ?_
  rintro _ w24 ⟨rfl, e25⟩
  have hB := ethen hB e25
  refine ⟨r21, rfl, ?_⟩
  obtain rfl := hr.trans H.symm
  exact ⟨rfl, hB⟩

def impl_AreWords_1.vc (x0 : Int) (w : World) (K : Value → World → Prop) : Prop :=
  Cll Try.prog 120 #[(.int .i64 x0)] w fun v21 w22 => (∃ (b23 : Bool), v21 = (.bool b23) ∧ K (.bool (!b23)) w22)

def impl_AreWords_1.ann : Ann := (.seq .l (.seq .l .l))

theorem impl_AreWords_1.vc_eq (x0 : Int) (w : World) (K : Value → World → Prop) : vcF Try.prog Try.f184 impl_AreWords_1.ann [(.int .i64 x0)] K w = impl_AreWords_1.vc x0 w K := by kernel_rfl

theorem impl_AreWords_1.start {x0 : Int} {w : World} {K : Value → World → Prop} (h : impl_AreWords_1.vc x0 w K) : Cll Try.prog 184 #[(.int .i64 x0)] w K :=
  vcF_sound mixed (fn := Try.f184) (by kernel_rfl) (by kernel_rfl) (an := impl_AreWords_1.ann) (args := [(.int .i64 x0)]) (by rw [impl_AreWords_1.vc_eq]; exact h)

theorem impl_AreWords_1.con {x0 : Int} {r : Bool} {w : World} (hr : r = M.impl_AreWords_1 x0)  :
    Cll Try.prog 184 #[(.int .i64 x0)] w (fun v_ w_ => v_ = (.bool r) ∧ Ext w w_) := by
  have H := wp.impl_AreWords_1.math x0
  have hB := Ext.refl w
  refine impl_AreWords_1.start ?_
  unfold impl_AreWords_1.vc
  unfold wp.impl_AreWords_1 at H
  obtain ⟨r21, hr22⟩ : ∃ r_, r_ = M.impl_IsWord x0 := ⟨_, rfl⟩
  have H := H r21 hr22
  refine (impl_IsWord.con hr22 ).mono ?_
  rintro _ w24 ⟨rfl, e25⟩
  have hB := ethen hB e25
  refine ⟨r21, rfl, ?_⟩
  obtain rfl := hr.trans H.symm
  exact ⟨rfl, hB⟩

def impl_AreWords.vc (A0 : Option Addr) (n0 : Nat) (c0 : Nat) (w : World) (K : Value → World → Prop) : Prop :=
  Cll Try.prog 183 #[(.slice A0 n0 c0), (.func (.func 184) #[] #[])] w fun v21 w22 => (∃ (b23 : Bool), v21 = (.bool b23) ∧ K (.bool (!b23)) w22)

def impl_AreWords.ann : Ann := (.seq .l (.seq .l .l))

theorem impl_AreWords.vc_eq (A0 : Option Addr) (n0 : Nat) (c0 : Nat) (w : World) (K : Value → World → Prop) : vcF Try.prog Try.f150 impl_AreWords.ann [(.slice A0 n0 c0)] K w = impl_AreWords.vc A0 n0 c0 w K := by kernel_rfl

theorem impl_AreWords.start {A0 : Option Addr} {n0 : Nat} {c0 : Nat} {w : World} {K : Value → World → Prop} (h : impl_AreWords.vc A0 n0 c0 w K) : Cll Try.prog 150 #[(.slice A0 n0 c0)] w K :=
  vcF_sound mixed (fn := Try.f150) (by kernel_rfl) (by kernel_rfl) (an := impl_AreWords.ann) (args := [(.slice A0 n0 c0)]) (by rw [impl_AreWords.vc_eq]; exact h)

theorem impl_AreWords.con {xs0 : List Int} {A0 : Option Addr} {c0 : Nat} {r : Bool} {w : World} (hp : M.impl_AreWords_pre xs0) (hr : r = M.impl_AreWords xs0) (R0 : Row el3 w A0 xs0) (hc0 : xs0.length ≤ c0) :
    Cll Try.prog 150 #[(.slice A0 xs0.length c0)] w (fun v_ w_ => v_ = (.bool r) ∧ Ext w w_) := by
  have H := wp.impl_AreWords.math xs0 hp
  have hB := Ext.refl w
  refine impl_AreWords.start ?_
  unfold impl_AreWords.vc
  unfold wp.impl_AreWords at H
  obtain ⟨hp23, H⟩ := H
  obtain ⟨r21, hr22⟩ : ∃ r_, r_ = M.slices_ContainsFunc_int_int xs0 (fun z0_ => M.impl_AreWords_1 z0_) := ⟨_, rfl⟩
  have H := H r21 hr22
  refine (slices_ContainsFunc_int_int.con hp23 hr22 (R0.ext hB) hc0 (fun z0_ h_ w_ e_ => cllApp (l1 := [_]) (l2 := []) (impl_AreWords_1.con rfl))).mono ?_
  rintro _ w24 ⟨rfl, e25⟩
  have hB := ethen hB e25
  refine ⟨r21, rfl, ?_⟩
  obtain rfl := hr.trans H.symm
  exact ⟨rfl, hB⟩

def impl_ValuesOk.vc (A0 : Option Addr) (n0 : Nat) (c0 : Nat) (w : World) (K : Value → World → Prop) : Prop :=
  bcase (((n0 : Nat) : Int) == 8) (Cll Try.prog 150 #[(.slice A0 n0 c0)] w fun v21 w22 => (∃ (b23 : Bool), v21 = (.bool b23) ∧ K (.bool b23) w22)) (K (.bool false) w)

def impl_ValuesOk.ann : Ann := (.seq .l (.seq .l .l))

theorem impl_ValuesOk.vc_eq (A0 : Option Addr) (n0 : Nat) (c0 : Nat) (w : World) (K : Value → World → Prop) : vcF Try.prog Try.f121 impl_ValuesOk.ann [(.slice A0 n0 c0)] K w = impl_ValuesOk.vc A0 n0 c0 w K := by kernel_rfl

theorem impl_ValuesOk.start {A0 : Option Addr} {n0 : Nat} {c0 : Nat} {w : World} {K : Value → World → Prop} (h : impl_ValuesOk.vc A0 n0 c0 w K) : Cll Try.prog 121 #[(.slice A0 n0 c0)] w K :=
  vcF_sound mixed (fn := Try.f121) (by kernel_rfl) (by kernel_rfl) (an := impl_ValuesOk.ann) (args := [(.slice A0 n0 c0)]) (by rw [impl_ValuesOk.vc_eq]; exact h)

theorem impl_ValuesOk.con {xs0 : List Int} {A0 : Option Addr} {c0 : Nat} {r : Bool} {w : World} (hr : r = M.impl_ValuesOk xs0) (R0 : Row el3 w A0 xs0) (hc0 : xs0.length ≤ c0) :
    Cll Try.prog 121 #[(.slice A0 xs0.length c0)] w (fun v_ w_ => v_ = (.bool r) ∧ Ext w w_) := by
  have H := wp.impl_ValuesOk.math xs0
  have hB := Ext.refl w
  refine impl_ValuesOk.start ?_
  unfold impl_ValuesOk.vc
  unfold wp.impl_ValuesOk at H
  refine bcase_mk (fun hc26 => ?_) (fun hc26 => ?_)
  · have H := (bcase_iff.1 H).1 hc26
    obtain ⟨hp23, H⟩ := H
    obtain ⟨r21, hr22⟩ : ∃ r_, r_ = M.impl_AreWords xs0 := ⟨_, rfl⟩
    have H := H r21 hr22
    refine (impl_AreWords.con hp23 hr22 (R0.ext hB) hc0).mono ?_
    rintro _ w24 ⟨rfl, e25⟩
    have hB := ethen hB e25
    refine ⟨r21, rfl, ?_⟩
    obtain rfl := hr.trans H.symm
    exact ⟨rfl, hB⟩
  · have H := (bcase_iff.1 H).2 hc26
    obtain rfl := hr.trans H.symm
    exact ⟨rfl, hB⟩

def impl_MaskOf.vc (A0 : Option Addr) (n0 : Nat) (c0 : Nat) (w : World) (K : Value → World → Prop) : Prop :=
  LoopT (σ := Int × Int × Unit) (fun z21 w22 next23 => bcase (decide (z21.2.1 < ((n0 : Nat) : Int))) (((0 : Int) ≤ z21.2.1 ∧ z21.2.1 < ((n0 : Nat) : Int) ∧ ∃ a24 : Addr, A0 = some a24 ∧ ∃ (n25 : Int), w22.cell? ((a24.add ((z21.2.1.toNat) * 1)).add 0) = some (.int .i64 n25) ∧ Cll Try.prog 193 #[(.int .i64 n25)] w22 fun v26 w27 => (∃ (b28 : Bool), v26 = (.bool b28) ∧ bcase (!b28) (K (.tuple #[(.int .i64 0), (.bool false)]) w27) (((0 : Int) ≤ n25 ∧ next23 ((bitOr .i64 z21.1 (IntKind.wrap .i64 (1 * 2 ^ (min (n25.toNat) (IntKind.bits .i64))))), (IntKind.wrap .i64 (z21.2.1 + 1)), ()) w27))))) (K (.tuple #[(.int .i64 z21.1), (.bool true)]) w22)) (0, 0, ()) w

def impl_MaskOf.ann : Ann := (.seq .l (.seq .l (.seq (.seq .l (.one (.loop [(4, .int .i64), (9, .int .i64)] (.seq .l (.seq (.two .l .l) (.seq (.one (.seq .l (.seq (.seq .l (.two (.seq .l .l) .l)) .l))) .l)))))) (.seq .l .l))))

theorem impl_MaskOf.vc_eq (A0 : Option Addr) (n0 : Nat) (c0 : Nat) (w : World) (K : Value → World → Prop) : vcF Try.prog Try.f165 impl_MaskOf.ann [(.slice A0 n0 c0)] K w = impl_MaskOf.vc A0 n0 c0 w K := by kernel_rfl

theorem impl_MaskOf.start {A0 : Option Addr} {n0 : Nat} {c0 : Nat} {w : World} {K : Value → World → Prop} (h : impl_MaskOf.vc A0 n0 c0 w K) : Cll Try.prog 165 #[(.slice A0 n0 c0)] w K :=
  vcF_sound mixed (fn := Try.f165) (by kernel_rfl) (by kernel_rfl) (an := impl_MaskOf.ann) (args := [(.slice A0 n0 c0)]) (by rw [impl_MaskOf.vc_eq]; exact h)

theorem impl_MaskOf.con {xs0 : List Int} {A0 : Option Addr} {c0 : Nat} {r : Int × Bool} {w : World} (hp : M.impl_MaskOf_pre xs0) (hr : r = M.impl_MaskOf xs0) (R0 : Row el3 w A0 xs0) (hc0 : xs0.length ≤ c0) :
    Cll Try.prog 165 #[(.slice A0 xs0.length c0)] w (fun v_ w_ => v_ = (.tuple #[(.int .i64 r.1), (.bool r.2)]) ∧ Ext w w_) := by
  have H := wp.impl_MaskOf.math xs0 hp
  have hB := Ext.refl w
  refine impl_MaskOf.start ?_
  unfold impl_MaskOf.vc
  unfold wp.impl_MaskOf at H
  obtain ⟨J24, ⟨m46, hJ45⟩, hS25⟩ := H
  refine ⟨fun m_ z_ w_ => ∃ (i21 : Int) (i22 : Int), z_ = (i21, i22, ()) ∧ J24 m_ (i21, i22, ()) ∧ Ext w w_, ⟨m46, 0, 0, rfl, hJ45, hB⟩, ?_⟩
  rintro m23 _ w27 ⟨i21, i22, rfl, hJ47, hB⟩
  have H := hS25 m23 _ hJ47
  clear hS25 hJ47
  dsimp only at H ⊢
  refine bcase_mk (fun hc43 => ?_) (fun hc43 => ?_)
  · have H := (bcase_iff.1 H).1 hc43
    obtain ⟨⟨h0_31, h1_32⟩, H⟩ := H
    obtain ⟨a29, ha30, hat28⟩ := Row.at (R0.ext hB) h0_31 h1_32
    refine ⟨h0_31, h1_32, a29, ha30, ?_⟩
    refine ⟨_, (hat28 0 _ rfl), ?_⟩
    obtain ⟨r33, hr34⟩ : ∃ r_, r_ = M.impl_isLane (rd xs0 i22) := ⟨_, rfl⟩
    have H := H r33 hr34
    refine (impl_isLane.con hr34 ).mono ?_
    rintro _ w36 ⟨rfl, e37⟩
    have hB := ethen hB e37
    refine ⟨r33, rfl, ?_⟩
    refine bcase_mk (fun hc42 => ?_) (fun hc42 => ?_)
    · have H := (bcase_iff.1 H).1 hc42
      obtain rfl := hr.trans H.symm
      exact ⟨rfl, hB⟩
    · have H := (bcase_iff.1 H).2 hc42
      obtain ⟨hc38, H⟩ := H
      refine ⟨hc38, ?_⟩
      obtain ⟨m39, hm40, hJ41⟩ := H
      exact ⟨m39, hm40, (bitOr .i64 i21 (IntKind.wrap .i64 (1 * 2 ^ (min ((rd xs0 i22).toNat) (IntKind.bits .i64))))), (IntKind.wrap .i64 (i22 + 1)), rfl, hJ41, hB⟩
  · have H := (bcase_iff.1 H).2 hc43
    obtain rfl := hr.trans H.symm
    exact ⟨rfl, hB⟩

def impl_IsPermutation.vc (A0 : Option Addr) (n0 : Nat) (c0 : Nat) (w : World) (K : Value → World → Prop) : Prop :=
  Cll Try.prog 165 #[(.slice A0 n0 c0)] w fun v21 w22 => (∃ u23 : Value, (∃ (n24 : Int), u23 = (.int .i64 n24) ∧ ∃ u25 : Value, (∃ (b26 : Bool), u25 = (.bool b26) ∧ v21 = (.tuple #[(.int .i64 n24), (.bool b26)]) ∧ bcase b26 (bcase (((n0 : Nat) : Int) == 8) (K (.bool (n24 == 255)) w22) (K (.bool false) w22)) (K (.bool false) w22))))

def impl_IsPermutation.ann : Ann := (.seq .l (.seq .l (.seq .l .l)))

theorem impl_IsPermutation.vc_eq (A0 : Option Addr) (n0 : Nat) (c0 : Nat) (w : World) (K : Value → World → Prop) : vcF Try.prog Try.f122 impl_IsPermutation.ann [(.slice A0 n0 c0)] K w = impl_IsPermutation.vc A0 n0 c0 w K := by kernel_rfl

theorem impl_IsPermutation.start {A0 : Option Addr} {n0 : Nat} {c0 : Nat} {w : World} {K : Value → World → Prop} (h : impl_IsPermutation.vc A0 n0 c0 w K) : Cll Try.prog 122 #[(.slice A0 n0 c0)] w K :=
  vcF_sound mixed (fn := Try.f122) (by kernel_rfl) (by kernel_rfl) (an := impl_IsPermutation.ann) (args := [(.slice A0 n0 c0)]) (by rw [impl_IsPermutation.vc_eq]; exact h)

theorem impl_IsPermutation.con {xs0 : List Int} {A0 : Option Addr} {c0 : Nat} {r : Bool} {w : World} (hp : M.impl_IsPermutation_pre xs0) (hr : r = M.impl_IsPermutation xs0) (R0 : Row el3 w A0 xs0) (hc0 : xs0.length ≤ c0) :
    Cll Try.prog 122 #[(.slice A0 xs0.length c0)] w (fun v_ w_ => v_ = (.bool r) ∧ Ext w w_) := by
  have H := wp.impl_IsPermutation.math xs0 hp
  have hB := Ext.refl w
  refine impl_IsPermutation.start ?_
  unfold impl_IsPermutation.vc
  unfold wp.impl_IsPermutation at H
  obtain ⟨hp23, H⟩ := H
  obtain ⟨r21, hr22⟩ : ∃ r_, r_ = M.impl_MaskOf xs0 := ⟨_, rfl⟩
  have H := H r21 hr22
  refine (impl_MaskOf.con hp23 hr22 (R0.ext hB) hc0).mono ?_
  rintro _ w24 ⟨rfl, e25⟩
  have hB := ethen hB e25
  refine ⟨(.int .i64 r21.1), ?_⟩
  refine ⟨r21.1, rfl, ?_⟩
  refine ⟨(.bool r21.2), ?_⟩
  refine ⟨r21.2, rfl, ?_⟩
  refine ⟨rfl, ?_⟩
  refine bcase_mk (fun hc27 => ?_) (fun hc27 => ?_)
  · have H := (bcase_iff.1 H).1 hc27
    refine bcase_mk (fun hc26 => ?_) (fun hc26 => ?_)
    · have H := (bcase_iff.1 H).1 hc26
      obtain rfl := hr.trans H.symm
      exact ⟨rfl, hB⟩
    · have H := (bcase_iff.1 H).2 hc26
      obtain rfl := hr.trans H.symm
      exact ⟨rfl, hB⟩
  · have H := (bcase_iff.1 H).2 hc27
    obtain rfl := hr.trans H.symm
    exact ⟨rfl, hB⟩

def impl_WrapWord.vc (x0 : Int) (w : World) (K : Value → World → Prop) : Prop :=
  K (.int .i64 (bitAnd .i64 x0 65535)) w

def impl_WrapWord.ann : Ann := (.seq .l (.seq .l .l))

theorem impl_WrapWord.vc_eq (x0 : Int) (w : World) (K : Value → World → Prop) : vcF Try.prog Try.f194 impl_WrapWord.ann [(.int .i64 x0)] K w = impl_WrapWord.vc x0 w K := by kernel_rfl

theorem impl_WrapWord.start {x0 : Int} {w : World} {K : Value → World → Prop} (h : impl_WrapWord.vc x0 w K) : Cll Try.prog 194 #[(.int .i64 x0)] w K :=
  vcF_sound mixed (fn := Try.f194) (by kernel_rfl) (by kernel_rfl) (an := impl_WrapWord.ann) (args := [(.int .i64 x0)]) (by rw [impl_WrapWord.vc_eq]; exact h)

theorem impl_WrapWord.con {x0 : Int} {r : Int} {w : World} (hr : r = M.impl_WrapWord x0)  :
    Cll Try.prog 194 #[(.int .i64 x0)] w (fun v_ w_ => v_ = (.int .i64 r) ∧ Ext w w_) := by
  have H := wp.impl_WrapWord.math x0
  have hB := Ext.refl w
  refine impl_WrapWord.start ?_
  unfold impl_WrapWord.vc
  unfold wp.impl_WrapWord at H
  obtain rfl := hr.trans H.symm
  exact ⟨rfl, hB⟩

def impl_wrapped.vc (x0 : Int) (x1 : Int) (x2 : Int) (w : World) (K : Value → World → Prop) : Prop :=
  Cll Try.prog 120 #[(.int .i64 x0)] w fun v21 w22 => (∃ (b23 : Bool), v21 = (.bool b23) ∧ bcase (!b23) (K (.int .i64 0) w22) (Cll Try.prog 120 #[(.int .i64 x1)] w22 fun v24 w25 => (∃ (b26 : Bool), v24 = (.bool b26) ∧ bcase (!b26) (K (.int .i64 0) w25) (Cll Try.prog 194 #[(.int .i64 x2)] w25 fun v27 w28 => (∃ (n29 : Int), v27 = (.int .i64 n29) ∧ K (.int .i64 n29) w28)))))

def impl_wrapped.ann : Ann := (.seq .l (.seq (.seq .l (.two (.seq .l .l) .l)) (.seq .l .l)))

theorem impl_wrapped.vc_eq (x0 : Int) (x1 : Int) (x2 : Int) (w : World) (K : Value → World → Prop) : vcF Try.prog Try.f166 impl_wrapped.ann [(.int .i64 x0), (.int .i64 x1), (.int .i64 x2)] K w = impl_wrapped.vc x0 x1 x2 w K := by kernel_rfl

theorem impl_wrapped.start {x0 : Int} {x1 : Int} {x2 : Int} {w : World} {K : Value → World → Prop} (h : impl_wrapped.vc x0 x1 x2 w K) : Cll Try.prog 166 #[(.int .i64 x0), (.int .i64 x1), (.int .i64 x2)] w K :=
  vcF_sound mixed (fn := Try.f166) (by kernel_rfl) (by kernel_rfl) (an := impl_wrapped.ann) (args := [(.int .i64 x0), (.int .i64 x1), (.int .i64 x2)]) (by rw [impl_wrapped.vc_eq]; exact h)

theorem impl_wrapped.con {x0 : Int} {x1 : Int} {x2 : Int} {r : Int} {w : World} (hr : r = M.impl_wrapped x0 x1 x2)  :
    Cll Try.prog 166 #[(.int .i64 x0), (.int .i64 x1), (.int .i64 x2)] w (fun v_ w_ => v_ = (.int .i64 r) ∧ Ext w w_) := by
  have H := wp.impl_wrapped.math x0 x1 x2
  have hB := Ext.refl w
  refine impl_wrapped.start ?_
  unfold impl_wrapped.vc
  unfold wp.impl_wrapped at H
  obtain ⟨r21, hr22⟩ : ∃ r_, r_ = M.impl_IsWord x0 := ⟨_, rfl⟩
  have H := H r21 hr22
  refine (impl_IsWord.con hr22 ).mono ?_
  rintro _ w24 ⟨rfl, e25⟩
  have hB := ethen hB e25
  refine ⟨r21, rfl, ?_⟩
  refine bcase_mk (fun hc37 => ?_) (fun hc37 => ?_)
  · have H := (bcase_iff.1 H).1 hc37
    obtain rfl := hr.trans H.symm
    exact ⟨rfl, hB⟩
  · have H := (bcase_iff.1 H).2 hc37
    obtain ⟨r26, hr27⟩ : ∃ r_, r_ = M.impl_IsWord x1 := ⟨_, rfl⟩
    have H := H r26 hr27
    refine (impl_IsWord.con hr27 ).mono ?_
    rintro _ w29 ⟨rfl, e30⟩
    have hB := ethen hB e30
    refine ⟨r26, rfl, ?_⟩
    refine bcase_mk (fun hc36 => ?_) (fun hc36 => ?_)
    · have H := (bcase_iff.1 H).1 hc36
      obtain rfl := hr.trans H.symm
      exact ⟨rfl, hB⟩
    · have H := (bcase_iff.1 H).2 hc36
      obtain ⟨r31, hr32⟩ : ∃ r_, r_ = M.impl_WrapWord x2 := ⟨_, rfl⟩
      have H := H r31 hr32
      refine (impl_WrapWord.con hr32 ).mono ?_
      rintro _ w34 ⟨rfl, e35⟩
      have hB := ethen hB e35
      refine ⟨r31, rfl, ?_⟩
      obtain rfl := hr.trans H.symm
      exact ⟨rfl, hB⟩

def impl_AddWords.vc (x0 : Int) (x1 : Int) (w : World) (K : Value → World → Prop) : Prop :=
  Cll Try.prog 166 #[(.int .i64 x0), (.int .i64 x1), (.int .i64 (IntKind.wrap .i64 (x0 + x1)))] w fun v21 w22 => (∃ (n23 : Int), v21 = (.int .i64 n23) ∧ K (.int .i64 n23) w22)

def impl_AddWords.ann : Ann := (.seq .l (.seq .l .l))

theorem impl_AddWords.vc_eq (x0 : Int) (x1 : Int) (w : World) (K : Value → World → Prop) : vcF Try.prog Try.f123 impl_AddWords.ann [(.int .i64 x0), (.int .i64 x1)] K w = impl_AddWords.vc x0 x1 w K := by kernel_rfl

theorem impl_AddWords.start {x0 : Int} {x1 : Int} {w : World} {K : Value → World → Prop} (h : impl_AddWords.vc x0 x1 w K) : Cll Try.prog 123 #[(.int .i64 x0), (.int .i64 x1)] w K :=
  vcF_sound mixed (fn := Try.f123) (by kernel_rfl) (by kernel_rfl) (an := impl_AddWords.ann) (args := [(.int .i64 x0), (.int .i64 x1)]) (by rw [impl_AddWords.vc_eq]; exact h)

theorem impl_AddWords.con {x0 : Int} {x1 : Int} {r : Int} {w : World} (hr : r = M.impl_AddWords x0 x1)  :
    Cll Try.prog 123 #[(.int .i64 x0), (.int .i64 x1)] w (fun v_ w_ => v_ = (.int .i64 r) ∧ Ext w w_) := by
  have H := wp.impl_AddWords.math x0 x1
  have hB := Ext.refl w
  refine impl_AddWords.start ?_
  unfold impl_AddWords.vc
  unfold wp.impl_AddWords at H
  obtain ⟨r21, hr22⟩ : ∃ r_, r_ = M.impl_wrapped x0 x1 (IntKind.wrap .i64 (x0 + x1)) := ⟨_, rfl⟩
  have H := H r21 hr22
  refine (impl_wrapped.con hr22 ).mono ?_
  rintro _ w24 ⟨rfl, e25⟩
  have hB := ethen hB e25
  refine ⟨r21, rfl, ?_⟩
  obtain rfl := hr.trans H.symm
  exact ⟨rfl, hB⟩

def impl_AddInOrder.vc (x0 : Int) (A1 : Option Addr) (n1 : Nat) (c1 : Nat) (A2 : Option Addr) (n2 : Nat) (c2 : Nat) (w : World) (K : Value → World → Prop) : Prop :=
  Cll Try.prog 120 #[(.int .i64 x0)] w fun v22 w23 => (∃ (b24 : Bool), v22 = (.bool b24) ∧ bcase (!b24) (K (.tuple #[(.slice none 0 0), (.int .i64 0), (.bool false)]) w23) (Cll Try.prog 121 #[(.slice A1 n1 c1)] w23 fun v25 w26 => (∃ (b27 : Bool), v25 = (.bool b27) ∧ bcase (!b27) (K (.tuple #[(.slice none 0 0), (.int .i64 0), (.bool false)]) w26) (Cll Try.prog 122 #[(.slice A2 n2 c2)] w26 fun v28 w29 => (∃ (b30 : Bool), v28 = (.bool b30) ∧ bcase (!b30) (K (.tuple #[(.slice none 0 0), (.int .i64 0), (.bool false)]) w29) (vcMake Try.prog 39 8 8 w29 fun g31 w32 => LoopT (σ := Int × Int × Unit) (fun z33 w34 next35 => bcase (decide (z33.2.1 < ((n2 : Nat) : Int))) (((0 : Int) ≤ z33.2.1 ∧ z33.2.1 < ((n2 : Nat) : Int) ∧ ∃ a36 : Addr, A2 = some a36 ∧ ∃ (n37 : Int), w34.cell? ((a36.add ((z33.2.1.toNat) * 1)).add 0) = some (.int .i64 n37) ∧ ((0 : Int) ≤ n37 ∧ n37 < ((((8 : Int).toNat) : Nat) : Int) ∧ ∃ a38 : Addr, (some (⟨g31, 0, none⟩ : Addr)) = some a38 ∧ stCells (a38.add ((n37.toNat) * 1)) [(.int .i64 z33.1)] 0 w34 fun w39 => ((0 : Int) ≤ n37 ∧ n37 < ((n1 : Nat) : Int) ∧ ∃ a40 : Addr, A1 = some a40 ∧ ∃ (n41 : Int), w39.cell? ((a40.add ((n37.toNat) * 1)).add 0) = some (.int .i64 n41) ∧ Cll Try.prog 123 #[(.int .i64 z33.1), (.int .i64 n41)] w39 fun v42 w43 => (∃ (n44 : Int), v42 = (.int .i64 n44) ∧ next35 (n44, (IntKind.wrap .i64 (z33.2.1 + 1)), ()) w43))))) (K (.tuple #[(.slice (some (⟨g31, 0, none⟩ : Addr)) ((8 : Int).toNat) ((8 : Int).toNat)), (.int .i64 z33.1), (.bool true)]) w34)) (x0, 0, ()) w32))))))

def impl_AddInOrder.ann : Ann := (.seq .l (.seq (.seq .l (.two (.seq .l .l) .l)) (.seq .l (.seq (.seq .l (.one (.loop [(0, .int .i64), (28, .int .i64)] (.seq .l (.seq (.two .l .l) (.seq (.one (.seq .l (.seq .l .l))) .l)))))) (.seq .l .l)))))

theorem impl_AddInOrder.vc_eq (x0 : Int) (A1 : Option Addr) (n1 : Nat) (c1 : Nat) (A2 : Option Addr) (n2 : Nat) (c2 : Nat) (w : World) (K : Value → World → Prop) : vcF Try.prog Try.f64 impl_AddInOrder.ann [(.int .i64 x0), (.slice A1 n1 c1), (.slice A2 n2 c2)] K w = impl_AddInOrder.vc x0 A1 n1 c1 A2 n2 c2 w K := by kernel_rfl

theorem impl_AddInOrder.start {x0 : Int} {A1 : Option Addr} {n1 : Nat} {c1 : Nat} {A2 : Option Addr} {n2 : Nat} {c2 : Nat} {w : World} {K : Value → World → Prop} (h : impl_AddInOrder.vc x0 A1 n1 c1 A2 n2 c2 w K) : Cll Try.prog 64 #[(.int .i64 x0), (.slice A1 n1 c1), (.slice A2 n2 c2)] w K :=
  vcF_sound mixed (fn := Try.f64) (by kernel_rfl) (by kernel_rfl) (an := impl_AddInOrder.ann) (args := [(.int .i64 x0), (.slice A1 n1 c1), (.slice A2 n2 c2)]) (by rw [impl_AddInOrder.vc_eq]; exact h)

theorem impl_AddInOrder.con {x0 : Int} {xs1 : List Int} {A1 : Option Addr} {c1 : Nat} {xs2 : List Int} {A2 : Option Addr} {c2 : Nat} {r : (List Int) × Int × Bool} {w : World} (hp : M.impl_AddInOrder_pre x0 xs1 xs2) (hr : r = M.impl_AddInOrder x0 xs1 xs2) (R1 : Row el3 w A1 xs1) (hc1 : xs1.length ≤ c1) (R2 : Row el3 w A2 xs2) (hc2 : xs2.length ≤ c2) :
    Cll Try.prog 64 #[(.int .i64 x0), (.slice A1 xs1.length c1), (.slice A2 xs2.length c2)] w (fun v_ w_ => ∃ (A0_ : Option Addr) (c0_ : Nat), v_ = (.tuple #[(.slice A0_ r.1.length c0_), (.int .i64 r.2.1), (.bool r.2.2)]) ∧ Own el3 w_ w.heap.size A0_ c0_ r.1 ∧ Ext w w_) := by
  have H := wp.impl_AddInOrder.math x0 xs1 xs2 hp
  have hB := Ext.refl w
  refine impl_AddInOrder.start ?_
  unfold impl_AddInOrder.vc
  unfold wp.impl_AddInOrder at H
  obtain ⟨r21, hr22⟩ : ∃ r_, r_ = M.impl_IsWord x0 := ⟨_, rfl⟩
  have H := H r21 hr22
  refine (impl_IsWord.con hr22 ).mono ?_
  rintro _ w24 ⟨rfl, e25⟩
  have hB := ethen hB e25
  refine ⟨r21, rfl, ?_⟩
  refine bcase_mk (fun hc113 => ?_) (fun hc113 => ?_)
  · have H := (bcase_iff.1 H).1 hc113
    obtain rfl := hr.trans H.symm
    exact ⟨none, 0, rfl, Own.nil, hB⟩
  · have H := (bcase_iff.1 H).2 hc113
    obtain ⟨r26, hr27⟩ : ∃ r_, r_ = M.impl_ValuesOk xs1 := ⟨_, rfl⟩
    have H := H r26 hr27
    refine (impl_ValuesOk.con hr27 (R1.ext hB) hc1).mono ?_
    rintro _ w29 ⟨rfl, e30⟩
    have hB := ethen hB e30
    refine ⟨r26, rfl, ?_⟩
    refine bcase_mk (fun hc112 => ?_) (fun hc112 => ?_)
    · have H := (bcase_iff.1 H).1 hc112
      obtain rfl := hr.trans H.symm
      exact ⟨none, 0, rfl, Own.nil, hB⟩
    · have H := (bcase_iff.1 H).2 hc112
      obtain ⟨hp33, H⟩ := H
      obtain ⟨r31, hr32⟩ : ∃ r_, r_ = M.impl_IsPermutation xs2 := ⟨_, rfl⟩
      have H := H r31 hr32
      refine (impl_IsPermutation.con hp33 hr32 (R2.ext hB) hc2).mono ?_
      rintro _ w34 ⟨rfl, e35⟩
      have hB := ethen hB e35
      refine ⟨r31, rfl, ?_⟩
      refine bcase_mk (fun hc111 => ?_) (fun hc111 => ?_)
      · have H := (bcase_iff.1 H).1 hc111
        obtain rfl := hr.trans H.symm
        exact ⟨none, 0, rfl, Own.nil, hB⟩
      · have H := (bcase_iff.1 H).2 hc111
        obtain ⟨⟨h0_39, h1_40⟩, H⟩ := H
        refine makeOwn slt39 h0_39 h1_40 (fun g36 w37 P3 e38 => ?_)
        have O3 := P3.mono hB.size
        have hB := ethen hB e38
        obtain ⟨J76, ⟨m109, hJ108⟩, hS77⟩ := H
        refine ⟨fun m_ z_ w_ => ∃ (i71 : Int) (i72 : Int) (xs73 : List Int), z_ = (i71, i72, ()) ∧ J76 m_ (i71, i72, xs73, ()) ∧ Ext w w_ ∧ Own el3 w_ w.heap.size (some (⟨g36, 0, none⟩ : Addr)) ((8 : Int).toNat) xs73 ∧ ((8 : Int).toNat) = xs73.length, ⟨m109, x0, 0, (List.replicate ((8 : Int).toNat) (default : Int)), rfl, hJ108, hB, O3, (by first | rfl | assumption | (simp; done) | (simp; omega) | (simp; assumption))⟩, ?_⟩
        rintro m75 _ w79 ⟨i71, i72, xs73, rfl, hJ110, hB, O3, hn74⟩
        have H := hS77 m75 _ hJ110
        clear hS77 hJ110
        dsimp only at H ⊢
        refine bcase_mk (fun hc106 => ?_) (fun hc106 => ?_)
        · have H := (bcase_iff.1 H).1 hc106
          obtain ⟨⟨h0_83, h1_84⟩, H⟩ := H
          obtain ⟨a81, ha82, hat80⟩ := Row.at (R2.ext hB) h0_83 h1_84
          refine ⟨h0_83, h1_84, a81, ha82, ?_⟩
          refine ⟨_, (hat80 0 _ rfl), ?_⟩
          obtain ⟨⟨h0_88, h1_89⟩, H⟩ := H
          obtain ⟨a86, ha87, hat85⟩ := Row.at O3.row h0_88 h1_89
          refine ⟨h0_88, (by first | exact h1_89 | omega | (simp at h1_89 ⊢; omega)), a86, ha87, ?_⟩
          refine Own.storeAt O3 ha87 h0_88 h1_89 0 [(.int .i64 i71)] i71 rfl (Nat.le_of_ble_eq_true rfl) rfl (fun w90 P3 e91 hb92 => ?_)
          have hB := echg hB e91 hb92
          have O3 := P3
          obtain ⟨⟨h0_96, h1_97⟩, H⟩ := H
          obtain ⟨a94, ha95, hat93⟩ := Row.at (R1.ext hB) h0_96 h1_97
          refine ⟨h0_96, h1_97, a94, ha95, ?_⟩
          refine ⟨_, (hat93 0 _ rfl), ?_⟩
          obtain ⟨r98, hr99⟩ : ∃ r_, r_ = M.impl_AddWords i71 (rd xs1 (rd xs2 i72)) := ⟨_, rfl⟩
          have H := H r98 hr99
          refine (impl_AddWords.con hr99 ).mono ?_
          rintro _ w101 ⟨rfl, e102⟩
          have O3 := O3.ext e102
          have hB := ethen hB e102
          refine ⟨r98, rfl, ?_⟩
          obtain ⟨m103, hm104, hJ105⟩ := H
          exact ⟨m103, hm104, r98, (IntKind.wrap .i64 (i72 + 1)), (List.set xs73 ((rd xs2 i72).toNat) i71), rfl, hJ105, hB, O3, (by first | rfl | assumption | (simp; done) | (simp; omega) | (simp; assumption))⟩
        · have H := (bcase_iff.1 H).2 hc106
          obtain rfl := hr.trans H.symm
          exact ⟨(some (⟨g36, 0, none⟩ : Addr)), ((8 : Int).toNat), (by first | rfl | (simp; done) | (simp; omega) | (simp [*]; done)), (by first | exact O3 | (simp only [List.length_set]; exact O3)), hB⟩

def spec_l21Op.vc (x0 : Int) (w : World) (K : Value → World → Prop) : Prop :=
  Cll Try.prog 113 #[(.int .i64 x0), (.int .i64 0), (.int .i64 3)] w fun v21 w22 => (∃ (b23 : Bool), v21 = (.bool b23) ∧ K (.bool b23) w22)

def spec_l21Op.ann : Ann := (.seq .l (.seq .l .l))

theorem spec_l21Op.vc_eq (x0 : Int) (w : World) (K : Value → World → Prop) : vcF Try.prog Try.f129 spec_l21Op.ann [(.int .i64 x0)] K w = spec_l21Op.vc x0 w K := by kernel_rfl

theorem spec_l21Op.start {x0 : Int} {w : World} {K : Value → World → Prop} (h : spec_l21Op.vc x0 w K) : Cll Try.prog 129 #[(.int .i64 x0)] w K :=
  vcF_sound mixed (fn := Try.f129) (by kernel_rfl) (by kernel_rfl) (an := spec_l21Op.ann) (args := [(.int .i64 x0)]) (by rw [spec_l21Op.vc_eq]; exact h)

theorem spec_l21Op.con {x0 : Int} {r : Bool} {w : World} (hr : r = M.spec_l21Op x0)  :
    Cll Try.prog 129 #[(.int .i64 x0)] w (fun v_ w_ => v_ = (.bool r) ∧ Ext w w_) := by
  have H := wp.spec_l21Op.math x0
  have hB := Ext.refl w
  refine spec_l21Op.start ?_
  unfold spec_l21Op.vc
  unfold wp.spec_l21Op at H
  obtain ⟨r21, hr22⟩ : ∃ r_, r_ = M.spec_l01In x0 0 3 := ⟨_, rfl⟩
  have H := H r21 hr22
  refine (spec_l01In.con hr22 ).mono ?_
  rintro _ w24 ⟨rfl, e25⟩
  have hB := ethen hB e25
  refine ⟨r21, rfl, ?_⟩
  obtain rfl := hr.trans H.symm
  exact ⟨rfl, hB⟩

def spec_Combine.vc (x0 : Int) (x1 : Int) (x2 : Int) (w : World) (K : Value → World → Prop) : Prop :=
  Cll Try.prog 66 #[(.int .i64 x1)] w fun v22 w23 => (∃ (b24 : Bool), v22 = (.bool b24) ∧ bcase (!b24) (K (.int .i64 0) w23) (Cll Try.prog 66 #[(.int .i64 x2)] w23 fun v25 w26 => (∃ (b27 : Bool), v25 = (.bool b27) ∧ bcase (!b27) (K (.int .i64 0) w26) (bcase (x0 == 0) (Cll Try.prog 69 #[(.int .i64 x1), (.int .i64 x2)] w26 fun v28 w29 => (∃ (n30 : Int), v28 = (.int .i64 n30) ∧ K (.int .i64 n30) w29)) (bcase (x0 == 1) (K (.int .i64 (bitXor .i64 x1 x2)) w26) (bcase (x0 == 2) (K (.int .i64 (if x2 < x1 then x2 else x1)) w26) (bcase (x0 == 3) (K (.int .i64 (if x2 > x1 then x2 else x1)) w26) (K (.int .i64 0) w26))))))))

def spec_Combine.ann : Ann := (.seq .l (.seq (.seq .l (.two (.seq .l .l) .l)) (.seq (.seq .l (.one (.seq .l (.two (.seq .l .l) (.seq .l (.two (.seq .l .l) (.seq .l (.two (.seq .l .l) (.seq .l (.two (.seq .l .l) .l)))))))))) (.seq .l .l))))

theorem spec_Combine.vc_eq (x0 : Int) (x1 : Int) (x2 : Int) (w : World) (K : Value → World → Prop) : vcF Try.prog Try.f131 spec_Combine.ann [(.int .i64 x0), (.int .i64 x1), (.int .i64 x2)] K w = spec_Combine.vc x0 x1 x2 w K := by kernel_rfl

theorem spec_Combine.start {x0 : Int} {x1 : Int} {x2 : Int} {w : World} {K : Value → World → Prop} (h : spec_Combine.vc x0 x1 x2 w K) : Cll Try.prog 131 #[(.int .i64 x0), (.int .i64 x1), (.int .i64 x2)] w K :=
  vcF_sound mixed (fn := Try.f131) (by kernel_rfl) (by kernel_rfl) (an := spec_Combine.ann) (args := [(.int .i64 x0), (.int .i64 x1), (.int .i64 x2)]) (by rw [spec_Combine.vc_eq]; exact h)

theorem spec_Combine.con {x0 : Int} {x1 : Int} {x2 : Int} {r : Int} {w : World} (hr : r = M.spec_Combine x0 x1 x2)  :
    Cll Try.prog 131 #[(.int .i64 x0), (.int .i64 x1), (.int .i64 x2)] w (fun v_ w_ => v_ = (.int .i64 r) ∧ Ext w w_) := by
  have H := wp.spec_Combine.math x0 x1 x2
  have hB := Ext.refl w
  refine spec_Combine.start ?_
  unfold spec_Combine.vc
  unfold wp.spec_Combine at H
  obtain ⟨r21, hr22⟩ : ∃ r_, r_ = M.spec_IsWord x1 := ⟨_, rfl⟩
  have H := H r21 hr22
  refine (spec_IsWord.con hr22 ).mono ?_
  rintro _ w24 ⟨rfl, e25⟩
  have hB := ethen hB e25
  refine ⟨r21, rfl, ?_⟩
  refine bcase_mk (fun hc41 => ?_) (fun hc41 => ?_)
  · have H := (bcase_iff.1 H).1 hc41
    obtain rfl := hr.trans H.symm
    exact ⟨rfl, hB⟩
  · have H := (bcase_iff.1 H).2 hc41
    obtain ⟨r26, hr27⟩ : ∃ r_, r_ = M.spec_IsWord x2 := ⟨_, rfl⟩
    have H := H r26 hr27
    refine (spec_IsWord.con hr27 ).mono ?_
    rintro _ w29 ⟨rfl, e30⟩
    have hB := ethen hB e30
    refine ⟨r26, rfl, ?_⟩
    refine bcase_mk (fun hc40 => ?_) (fun hc40 => ?_)
    · have H := (bcase_iff.1 H).1 hc40
      obtain rfl := hr.trans H.symm
      exact ⟨rfl, hB⟩
    · have H := (bcase_iff.1 H).2 hc40
      refine bcase_mk (fun hc39 => ?_) (fun hc39 => ?_)
      · have H := (bcase_iff.1 H).1 hc39
        obtain ⟨r31, hr32⟩ : ∃ r_, r_ = M.spec_AddWords x1 x2 := ⟨_, rfl⟩
        have H := H r31 hr32
        refine (spec_AddWords.con hr32 ).mono ?_
        rintro _ w34 ⟨rfl, e35⟩
        have hB := ethen hB e35
        refine ⟨r31, rfl, ?_⟩
        obtain rfl := hr.trans H.symm
        exact ⟨rfl, hB⟩
      · have H := (bcase_iff.1 H).2 hc39
        refine bcase_mk (fun hc38 => ?_) (fun hc38 => ?_)
        · have H := (bcase_iff.1 H).1 hc38
          obtain rfl := hr.trans H.symm
          exact ⟨rfl, hB⟩
        · have H := (bcase_iff.1 H).2 hc38
          refine bcase_mk (fun hc37 => ?_) (fun hc37 => ?_)
          · have H := (bcase_iff.1 H).1 hc37
            obtain rfl := hr.trans H.symm
            exact ⟨rfl, hB⟩
          · have H := (bcase_iff.1 H).2 hc37
            refine bcase_mk (fun hc36 => ?_) (fun hc36 => ?_)
            · have H := (bcase_iff.1 H).1 hc36
              obtain rfl := hr.trans H.symm
              exact ⟨rfl, hB⟩
            · have H := (bcase_iff.1 H).2 hc36
              obtain rfl := hr.trans H.symm
              exact ⟨rfl, hB⟩

def spec_ScanRound.vc (x0 : Int) (A1 : Option Addr) (n1 : Nat) (c1 : Nat) (x2 : Int) (w : World) (K : Value → World → Prop) : Prop :=
  Run Try.prog (Instr.buildSlice 39 0 #[]) w fun v21 w22 => ∃ (A23 : Option Addr) (n24 c25 : Nat), v21 = .slice A23 n24 c25 ∧ Cll Try.prog 67 #[(.slice A1 n1 c1)] w22 fun v27 w28 => (∃ (b29 : Bool), v27 = (.bool b29) ∧ bcase (!b29) (K (.slice A23 n24 c25) w28) (Cll Try.prog 129 #[(.int .i64 x0)] w28 fun v30 w31 => (∃ (b32 : Bool), v30 = (.bool b32) ∧ bcase (!b32) (K (.slice A23 n24 c25) w31) (Cll Try.prog 113 #[(.int .i64 x2), (.int .i64 1), (.int .i64 7)] w31 fun v33 w34 => (∃ (b35 : Bool), v33 = (.bool b35) ∧ bcase (!b35) (K (.slice A23 n24 c25) w34) (LoopT (σ := (Option Addr × Nat × Nat) × Int × Unit) (fun z36 w37 next38 => bcase (decide (z36.2.1 < 8)) (((0 : Int) ≤ z36.2.1 ∧ z36.2.1 < ((n1 : Nat) : Int) ∧ ∃ a39 : Addr, A1 = some a39 ∧ ∃ (n40 : Int), w37.cell? ((a39.add ((z36.2.1.toNat) * 1)).add 0) = some (.int .i64 n40) ∧ bcase (decide (z36.2.1 ≥ x2)) (((0 : Int) ≤ (IntKind.wrap .i64 (z36.2.1 - x2)) ∧ (IntKind.wrap .i64 (z36.2.1 - x2)) < ((n1 : Nat) : Int) ∧ ∃ a41 : Addr, A1 = some a41 ∧ ∃ (n42 : Int), w37.cell? ((a41.add (((IntKind.wrap .i64 (z36.2.1 - x2)).toNat) * 1)).add 0) = some (.int .i64 n42) ∧ Cll Try.prog 131 #[(.int .i64 x0), (.int .i64 n42), (.int .i64 n40)] w37 fun v43 w44 => (∃ (n45 : Int), v43 = (.int .i64 n45) ∧ Run Try.prog (Instr.buildSlice 39 1 #[(0, (.int .i64 n45))]) w44 fun v46 w47 => ∃ (A48 : Option Addr) (n49 c50 : Nat), v46 = .slice A48 n49 c50 ∧ Run Try.prog (Builtin.append_ #[39, 39] 39 #[(.slice z36.1.1 z36.1.2.1 z36.1.2.2), (.slice A48 n49 c50)]) w47 fun v51 w52 => ∃ (A53 : Option Addr) (n54 c55 : Nat), v51 = .slice A53 n54 c55 ∧ next38 ((A53, n54, c55), (IntKind.wrap .i64 (z36.2.1 + 1)), ()) w52))) (Run Try.prog (Instr.buildSlice 39 1 #[(0, (.int .i64 n40))]) w37 fun v56 w57 => ∃ (A58 : Option Addr) (n59 c60 : Nat), v56 = .slice A58 n59 c60 ∧ Run Try.prog (Builtin.append_ #[39, 39] 39 #[(.slice z36.1.1 z36.1.2.1 z36.1.2.2), (.slice A58 n59 c60)]) w57 fun v61 w62 => ∃ (A63 : Option Addr) (n64 c65 : Nat), v61 = .slice A63 n64 c65 ∧ next38 ((A63, n64, c65), (IntKind.wrap .i64 (z36.2.1 + 1)), ()) w62))) (K (.slice z36.1.1 z36.1.2.1 z36.1.2.2) w37)) ((A23, n24, c25), 0, ()) w34))))))

def spec_ScanRound.ann : Ann := (.seq .l (.seq .l (.seq (.seq .l (.two (.seq .l .l) .l)) (.seq (.seq .l (.one (.loop [(7, .sl), (8, .int .i64)] (.seq (.seq .l (.two .l .l)) (.seq (.one (.seq .l (.seq (.seq .l (.two .l .l)) .l))) .l))))) (.seq .l .l)))))

theorem spec_ScanRound.vc_eq (x0 : Int) (A1 : Option Addr) (n1 : Nat) (c1 : Nat) (x2 : Int) (w : World) (K : Value → World → Prop) : vcF Try.prog Try.f168 spec_ScanRound.ann [(.int .i64 x0), (.slice A1 n1 c1), (.int .i64 x2)] K w = spec_ScanRound.vc x0 A1 n1 c1 x2 w K := by kernel_rfl

theorem spec_ScanRound.start {x0 : Int} {A1 : Option Addr} {n1 : Nat} {c1 : Nat} {x2 : Int} {w : World} {K : Value → World → Prop} (h : spec_ScanRound.vc x0 A1 n1 c1 x2 w K) : Cll Try.prog 168 #[(.int .i64 x0), (.slice A1 n1 c1), (.int .i64 x2)] w K :=
  vcF_sound mixed (fn := Try.f168) (by kernel_rfl) (by kernel_rfl) (an := spec_ScanRound.ann) (args := [(.int .i64 x0), (.slice A1 n1 c1), (.int .i64 x2)]) (by rw [spec_ScanRound.vc_eq]; exact h)

theorem spec_ScanRound.con {x0 : Int} {xs1 : List Int} {A1 : Option Addr} {c1 : Nat} {x2 : Int} {r : List Int} {w : World} (hr : r = M.spec_ScanRound x0 xs1 x2) (R1 : Row el3 w A1 xs1) (hc1 : xs1.length ≤ c1) :
    Cll Try.prog 168 #[(.int .i64 x0), (.slice A1 xs1.length c1), (.int .i64 x2)] w (fun v_ w_ => ∃ (A0_ : Option Addr) (c0_ : Nat), v_ = (.slice A0_ r.length c0_) ∧ Own el3 w_ w.heap.size A0_ c0_ r ∧ Ext w w_) := by
  have H := wp.spec_ScanRound.math x0 xs1 x2
  have hB := Ext.refl w
  refine spec_ScanRound.start ?_
  unfold spec_ScanRound.vc
  unfold wp.spec_ScanRound at H
  refine buildOwn el3 ([] : List Int) (fun _ => by kernel_rfl) rfl (fun A21 w22 P2 e23 => ?_)
  have O2 := P2.mono hB.size
  have hB := ethen hB e23
  obtain ⟨r24, hr25⟩ : ∃ r_, r_ = M.spec_ValuesOk xs1 := ⟨_, rfl⟩
  have H := H r24 hr25
  refine (spec_ValuesOk.con hr25 (R1.ext hB) hc1).mono ?_
  rintro _ w27 ⟨rfl, e28⟩
  have O2 := O2.ext e28
  have hB := ethen hB e28
  refine ⟨r24, rfl, ?_⟩
  refine bcase_mk (fun hc93 => ?_) (fun hc93 => ?_)
  · have H := (bcase_iff.1 H).1 hc93
    obtain rfl := hr.trans H.symm
    exact ⟨A21, 0, (by first | rfl | (simp; done) | (simp; omega) | (simp [*]; done)), (by first | exact O2 | (simp only [List.length_set]; exact O2)), hB⟩
  · have H := (bcase_iff.1 H).2 hc93
    obtain ⟨r29, hr30⟩ : ∃ r_, r_ = M.spec_l21Op x0 := ⟨_, rfl⟩
    have H := H r29 hr30
    refine (spec_l21Op.con hr30 ).mono ?_
    rintro _ w32 ⟨rfl, e33⟩
    have O2 := O2.ext e33
    have hB := ethen hB e33
    refine ⟨r29, rfl, ?_⟩
    refine bcase_mk (fun hc92 => ?_) (fun hc92 => ?_)
    · have H := (bcase_iff.1 H).1 hc92
      obtain rfl := hr.trans H.symm
      exact ⟨A21, 0, (by first | rfl | (simp; done) | (simp; omega) | (simp [*]; done)), (by first | exact O2 | (simp only [List.length_set]; exact O2)), hB⟩
    · have H := (bcase_iff.1 H).2 hc92
      obtain ⟨r34, hr35⟩ : ∃ r_, r_ = M.spec_l01In x2 1 7 := ⟨_, rfl⟩
      have H := H r34 hr35
      refine (spec_l01In.con hr35 ).mono ?_
      rintro _ w37 ⟨rfl, e38⟩
      have O2 := O2.ext e38
      have hB := ethen hB e38
      refine ⟨r34, rfl, ?_⟩
      refine bcase_mk (fun hc91 => ?_) (fun hc91 => ?_)
      · have H := (bcase_iff.1 H).1 hc91
        obtain rfl := hr.trans H.symm
        exact ⟨A21, 0, (by first | rfl | (simp; done) | (simp; omega) | (simp [*]; done)), (by first | exact O2 | (simp only [List.length_set]; exact O2)), hB⟩
      · have H := (bcase_iff.1 H).2 hc91
        obtain ⟨J44, ⟨m89, hJ88⟩, hS45⟩ := H
        refine ⟨fun m_ z_ w_ => ∃ (xs39 : List Int) (i42 : Int) (A40 : Option Addr) (c41 : Nat), z_ = ((A40, xs39.length, c41), i42, ()) ∧ J44 m_ (xs39, i42, ()) ∧ Ext w w_ ∧ Own el3 w_ w.heap.size A40 c41 xs39, ⟨m89, ([] : List Int), 0, A21, 0, rfl, hJ88, hB, O2⟩, ?_⟩
        rintro m43 _ w47 ⟨xs39, i42, A40, c41, rfl, hJ90, hB, O3⟩
        have H := hS45 m43 _ hJ90
        clear hS45 hJ90
        dsimp only at H ⊢
        refine bcase_mk (fun hc86 => ?_) (fun hc86 => ?_)
        · have H := (bcase_iff.1 H).1 hc86
          obtain ⟨⟨h0_51, h1_52⟩, H⟩ := H
          obtain ⟨a49, ha50, hat48⟩ := Row.at (R1.ext hB) h0_51 h1_52
          refine ⟨h0_51, h1_52, a49, ha50, ?_⟩
          refine ⟨_, (hat48 0 _ rfl), ?_⟩
          refine bcase_mk (fun hc85 => ?_) (fun hc85 => ?_)
          · have H := (bcase_iff.1 H).1 hc85
            obtain ⟨⟨h0_56, h1_57⟩, H⟩ := H
            obtain ⟨a54, ha55, hat53⟩ := Row.at (R1.ext hB) h0_56 h1_57
            refine ⟨h0_56, h1_57, a54, ha55, ?_⟩
            refine ⟨_, (hat53 0 _ rfl), ?_⟩
            obtain ⟨r58, hr59⟩ : ∃ r_, r_ = M.spec_Combine x0 (rd xs1 (IntKind.wrap .i64 (i42 - x2))) (rd xs1 i42) := ⟨_, rfl⟩
            have H := H r58 hr59
            refine (spec_Combine.con hr59 ).mono ?_
            rintro _ w61 ⟨rfl, e62⟩
            have O3 := O3.ext e62
            have hB := ethen hB e62
            refine ⟨r58, rfl, ?_⟩
            refine buildOwn el3 ([r58] : List Int) (fun _ => by kernel_rfl) rfl (fun A63 w64 P4 e65 => ?_)
            have N3_4 := Own.apart2_new O3 P4 (Nat.le_refl _)
            have O3 := O3.ext e65
            have O4 := P4.mono hB.size
            have hB := ethen hB e65
            obtain ⟨hl70, H⟩ := H
            refine appOwn slt39 slt39.under O3 O4.row hB.size rfl (by first | rfl | omega | (simp; done) | (simp; omega)) hl70 (fun A66 c67 w68 P3 e69 => ?_)
            have N4_3_ := Apart2.app (N3_4).symm e69 O4
            have O4 := O4.app e69 (N3_4).symm
            have N4_3 := N4_3_
            have hB := eapp hB e69 O3
            have O3 := P3
            obtain ⟨m71, hm72, hJ73⟩ := H
            exact ⟨m71, hm72, (xs39 ++ ([r58] : List Int)), (IntKind.wrap .i64 (i42 + 1)), A66, c67, rfl, hJ73, hB, O3⟩
          · have H := (bcase_iff.1 H).2 hc85
            refine buildOwn el3 ([(rd xs1 i42)] : List Int) (fun _ => by kernel_rfl) rfl (fun A74 w75 P5 e76 => ?_)
            have N3_5 := Own.apart2_new O3 P5 (Nat.le_refl _)
            have O3 := O3.ext e76
            have O5 := P5.mono hB.size
            have hB := ethen hB e76
            obtain ⟨hl81, H⟩ := H
            refine appOwn slt39 slt39.under O3 O5.row hB.size rfl (by first | rfl | omega | (simp; done) | (simp; omega)) hl81 (fun A77 c78 w79 P3 e80 => ?_)
            have N5_3_ := Apart2.app (N3_5).symm e80 O5
            have O5 := O5.app e80 (N3_5).symm
            have N5_3 := N5_3_
            have hB := eapp hB e80 O3
            have O3 := P3
            obtain ⟨m82, hm83, hJ84⟩ := H
            exact ⟨m82, hm83, (xs39 ++ ([(rd xs1 i42)] : List Int)), (IntKind.wrap .i64 (i42 + 1)), A77, c78, rfl, hJ84, hB, O3⟩
        · have H := (bcase_iff.1 H).2 hc86
          obtain rfl := hr.trans H.symm
          exact ⟨A40, c41, rfl, O3, hB⟩

def spec_ScanAll.vc (x0 : Int) (A1 : Option Addr) (n1 : Nat) (c1 : Nat) (w : World) (K : Value → World → Prop) : Prop :=
  Cll Try.prog 168 #[(.int .i64 x0), (.slice A1 n1 c1), (.int .i64 1)] w fun v21 w22 => (∃ (A23 : Option Addr) (n24 : Nat) (c25 : Nat), v21 = (.slice A23 n24 c25) ∧ Cll Try.prog 168 #[(.int .i64 x0), (.slice A23 n24 c25), (.int .i64 2)] w22 fun v26 w27 => (∃ (A28 : Option Addr) (n29 : Nat) (c30 : Nat), v26 = (.slice A28 n29 c30) ∧ Cll Try.prog 168 #[(.int .i64 x0), (.slice A28 n29 c30), (.int .i64 4)] w27 fun v31 w32 => (∃ (A33 : Option Addr) (n34 : Nat) (c35 : Nat), v31 = (.slice A33 n34 c35) ∧ K (.slice A33 n34 c35) w32)))

def spec_ScanAll.ann : Ann := (.seq .l (.seq .l .l))

theorem spec_ScanAll.vc_eq (x0 : Int) (A1 : Option Addr) (n1 : Nat) (c1 : Nat) (w : World) (K : Value → World → Prop) : vcF Try.prog Try.f125 spec_ScanAll.ann [(.int .i64 x0), (.slice A1 n1 c1)] K w = spec_ScanAll.vc x0 A1 n1 c1 w K := by kernel_rfl

theorem spec_ScanAll.start {x0 : Int} {A1 : Option Addr} {n1 : Nat} {c1 : Nat} {w : World} {K : Value → World → Prop} (h : spec_ScanAll.vc x0 A1 n1 c1 w K) : Cll Try.prog 125 #[(.int .i64 x0), (.slice A1 n1 c1)] w K :=
  vcF_sound mixed (fn := Try.f125) (by kernel_rfl) (by kernel_rfl) (an := spec_ScanAll.ann) (args := [(.int .i64 x0), (.slice A1 n1 c1)]) (by rw [spec_ScanAll.vc_eq]; exact h)

theorem spec_ScanAll.con {x0 : Int} {xs1 : List Int} {A1 : Option Addr} {c1 : Nat} {r : List Int} {w : World} (hr : r = M.spec_ScanAll x0 xs1) (R1 : Row el3 w A1 xs1) (hc1 : xs1.length ≤ c1) :
    Cll Try.prog 125 #[(.int .i64 x0), (.slice A1 xs1.length c1)] w (fun v_ w_ => ∃ (A0_ : Option Addr) (c0_ : Nat), v_ = (.slice A0_ r.length c0_) ∧ Own el3 w_ w.heap.size A0_ c0_ r ∧ Ext w w_) := by
  have H := wp.spec_ScanAll.math x0 xs1
  have hB := Ext.refl w
  refine spec_ScanAll.start ?_
  unfold spec_ScanAll.vc
  unfold wp.spec_ScanAll at H
  obtain ⟨r21, hr22⟩ : ∃ r_, r_ = M.spec_ScanRound x0 xs1 1 := ⟨_, rfl⟩
  have H := H r21 hr22
  refine (spec_ScanRound.con hr22 (R1.ext hB) hc1).mono ?_
  rintro _ w24 ⟨A26, c27, rfl, P2, e25⟩
  have O2 := P2.mono hB.size
  have hB := ethen hB e25
  refine ⟨A26, r21.length, c27, rfl, ?_⟩
  obtain ⟨r28, hr29⟩ : ∃ r_, r_ = M.spec_ScanRound x0 r21 2 := ⟨_, rfl⟩
  have H := H r28 hr29
  refine (spec_ScanRound.con hr29 O2.row O2.le).mono ?_
  rintro _ w31 ⟨A33, c34, rfl, P3, e32⟩
  have N2_3 := Own.apart2_new O2 P3 (Nat.le_refl _)
  have O2 := O2.ext e32
  have O3 := P3.mono hB.size
  have hB := ethen hB e32
  refine ⟨A33, r28.length, c34, rfl, ?_⟩
  obtain ⟨r35, hr36⟩ : ∃ r_, r_ = M.spec_ScanRound x0 r28 4 := ⟨_, rfl⟩
  have H := H r35 hr36
  refine (spec_ScanRound.con hr36 O3.row O3.le).mono ?_
  rintro _ w38 ⟨A40, c41, rfl, P4, e39⟩
  have N2_4 := Own.apart2_new O2 P4 (Nat.le_refl _)
  have N3_4 := Own.apart2_new O3 P4 (Nat.le_refl _)
  have O2 := O2.ext e39
  have O3 := O3.ext e39
  have O4 := P4.mono hB.size
  have hB := ethen hB e39
  refine ⟨A40, r35.length, c41, rfl, ?_⟩
  obtain rfl := hr.trans H.symm
  exact ⟨A40, c41, rfl, O4, hB⟩

def spec_NeutralOf.vc (x0 : Int) (w : World) (K : Value → World → Prop) : Prop :=
  Cll Try.prog 129 #[(.int .i64 x0)] w fun v21 w22 => (∃ (b23 : Bool), v21 = (.bool b23) ∧ bcase (!b23) (K (.int .i64 (-1)) w22) (bcase (x0 == 2) (K (.int .i64 65535) w22) (K (.int .i64 0) w22)))

def spec_NeutralOf.ann : Ann := (.seq .l (.seq (.seq .l (.two (.seq .l .l) .l)) (.seq (.seq .l (.two (.seq .l .l) .l)) (.seq .l .l))))

theorem spec_NeutralOf.vc_eq (x0 : Int) (w : World) (K : Value → World → Prop) : vcF Try.prog Try.f126 spec_NeutralOf.ann [(.int .i64 x0)] K w = spec_NeutralOf.vc x0 w K := by kernel_rfl

theorem spec_NeutralOf.start {x0 : Int} {w : World} {K : Value → World → Prop} (h : spec_NeutralOf.vc x0 w K) : Cll Try.prog 126 #[(.int .i64 x0)] w K :=
  vcF_sound mixed (fn := Try.f126) (by kernel_rfl) (by kernel_rfl) (an := spec_NeutralOf.ann) (args := [(.int .i64 x0)]) (by rw [spec_NeutralOf.vc_eq]; exact h)

theorem spec_NeutralOf.con {x0 : Int} {r : Int} {w : World} (hr : r = M.spec_NeutralOf x0)  :
    Cll Try.prog 126 #[(.int .i64 x0)] w (fun v_ w_ => v_ = (.int .i64 r) ∧ Ext w w_) := by
  have H := wp.spec_NeutralOf.math x0
  have hB := Ext.refl w
  refine spec_NeutralOf.start ?_
  unfold spec_NeutralOf.vc
  unfold wp.spec_NeutralOf at H
  obtain ⟨r21, hr22⟩ : ∃ r_, r_ = M.spec_l21Op x0 := ⟨_, rfl⟩
  have H := H r21 hr22
  refine (spec_l21Op.con hr22 ).mono ?_
  rintro _ w24 ⟨rfl, e25⟩
  have hB := ethen hB e25
  refine ⟨r21, rfl, ?_⟩
  refine bcase_mk (fun hc27 => ?_) (fun hc27 => ?_)
  · have H := (bcase_iff.1 H).1 hc27
    obtain rfl := hr.trans H.symm
    exact ⟨rfl, hB⟩
  · have H := (bcase_iff.1 H).2 hc27
    refine bcase_mk (fun hc26 => ?_) (fun hc26 => ?_)
    · have H := (bcase_iff.1 H).1 hc26
      obtain rfl := hr.trans H.symm
      exact ⟨rfl, hB⟩
    · have H := (bcase_iff.1 H).2 hc26
      obtain rfl := hr.trans H.symm
      exact ⟨rfl, hB⟩

def spec_ScanBefore.vc (x0 : Int) (A1 : Option Addr) (n1 : Nat) (c1 : Nat) (w : World) (K : Value → World → Prop) : Prop :=
  Cll Try.prog 125 #[(.int .i64 x0), (.slice A1 n1 c1)] w fun v21 w22 => (∃ (A23 : Option Addr) (n24 : Nat) (c25 : Nat), v21 = (.slice A23 n24 c25) ∧ bcase (((n24 : Nat) : Int) == 0) (K (.slice A23 n24 c25) w22) (((0 : Int) ≤ 7 ∧ 7 ≤ ((c25 : Nat) : Int) ∧ ((Cll Try.prog 126 #[(.int .i64 x0)] w22.drew fun v26 w27 => (∃ (n28 : Int), v26 = (.int .i64 n28) ∧ ((Run Try.prog (Instr.buildSlice 39 1 #[(0, (.int .i64 n28))]) w27 fun v29 w30 => ∃ (A31 : Option Addr) (n32 c33 : Nat), v29 = .slice A31 n32 c33 ∧ ((Run Try.prog (Builtin.append_ #[39, 39] 39 #[(.slice A31 n32 c33), (.slice A23 ((7 : Int).toNat) c25)]) w30 fun v34 w35 => ∃ (A36 : Option Addr) (n37 c38 : Nat), v34 = .slice A36 n37 c38 ∧ K (.slice A36 n37 c38) w35) ∧ True)) ∧ True))) ∧ True))))

def spec_ScanBefore.ann : Ann := (.seq .l (.seq .l (.seq (.seq .l (.two (.seq .l .l) .l)) (.seq .each .l))))

theorem spec_ScanBefore.vc_eq (x0 : Int) (A1 : Option Addr) (n1 : Nat) (c1 : Nat) (w : World) (K : Value → World → Prop) : vcF Try.prog Try.f68 spec_ScanBefore.ann [(.int .i64 x0), (.slice A1 n1 c1)] K w = spec_ScanBefore.vc x0 A1 n1 c1 w K := by kernel_rfl

theorem spec_ScanBefore.start {x0 : Int} {A1 : Option Addr} {n1 : Nat} {c1 : Nat} {w : World} {K : Value → World → Prop} (h : spec_ScanBefore.vc x0 A1 n1 c1 w K) : Cll Try.prog 68 #[(.int .i64 x0), (.slice A1 n1 c1)] w K :=
  vcF_sound mixed (fn := Try.f68) (by kernel_rfl) (by kernel_rfl) (an := spec_ScanBefore.ann) (args := [(.int .i64 x0), (.slice A1 n1 c1)]) (by rw [spec_ScanBefore.vc_eq]; exact h)

theorem spec_ScanBefore.con {x0 : Int} {xs1 : List Int} {A1 : Option Addr} {c1 : Nat} {r : List Int} {w : World} (hr : r = M.spec_ScanBefore x0 xs1) (R1 : Row el3 w A1 xs1) (hc1 : xs1.length ≤ c1) :
    Cll Try.prog 68 #[(.int .i64 x0), (.slice A1 xs1.length c1)] w (fun v_ w_ => ∃ (A0_ : Option Addr) (c0_ : Nat), v_ = (.slice A0_ r.length c0_) ∧ Own el3 w_ w.heap.size A0_ c0_ r ∧ Ext w w_) := by
  have H := wp.spec_ScanBefore.math x0 xs1
  have hB := Ext.refl w
  refine spec_ScanBefore.start ?_
  unfold spec_ScanBefore.vc
  unfold wp.spec_ScanBefore at H
  obtain ⟨r21, hr22⟩ : ∃ r_, r_ = M.spec_ScanAll x0 xs1 := ⟨_, rfl⟩
  have H := H r21 hr22
  refine (spec_ScanAll.con hr22 (R1.ext hB) hc1).mono ?_
  rintro _ w24 ⟨A26, c27, rfl, P2, e25⟩
  have O2 := P2.mono hB.size
  have hB := ethen hB e25
  refine ⟨A26, r21.length, c27, rfl, ?_⟩
  refine bcase_mk (fun hc43 => ?_) (fun hc43 => ?_)
  · have H := (bcase_iff.1 H).1 hc43
    obtain rfl := hr.trans H.symm
    exact ⟨A26, c27, rfl, O2, hB⟩
  · have H := (bcase_iff.1 H).2 hc43
    have O2 := O2.ext (Ext.drew _)
    have hB := ethen hB (Ext.drew _)
    obtain ⟨⟨hh28, hh29⟩, H⟩ := H
    refine and_assoc.1 ⟨⟨hh28, Int.le_trans hh29 (Int.ofNat_le.2 O2.le)⟩, ?_⟩
    rw [show ((7 : Int).toNat) = ((List.take ((7 : Int).toNat) r21)).length from by simp; omega]
    have O3 := (O2.take ((7 : Int).toNat))
    refine and_t ?_
    obtain ⟨r30, hr31⟩ : ∃ r_, r_ = M.spec_NeutralOf x0 := ⟨_, rfl⟩
    have H := H r30 hr31
    refine (spec_NeutralOf.con hr31 ).mono ?_
    rintro _ w33 ⟨rfl, e34⟩
    have O2 := O2.ext e34
    have O3 := O3.ext e34
    have hB := ethen hB e34
    refine ⟨r30, rfl, ?_⟩
    refine and_t ?_
    refine buildOwn el3 ([r30] : List Int) (fun _ => by kernel_rfl) rfl (fun A35 w36 P4 e37 => ?_)
    have N2_4 := Own.apart2_new O2 P4 (Nat.le_refl _)
    have N3_4 := Own.apart2_new O3 P4 (Nat.le_refl _)
    have O2 := O2.ext e37
    have O3 := O3.ext e37
    have O4 := P4.mono hB.size
    have hB := ethen hB e37
    refine and_t ?_
    obtain ⟨hl42, H⟩ := H
    refine appOwn slt39 slt39.under O4 O3.row hB.size (by first | rfl | omega | (simp; done) | (simp; omega)) rfl hl42 (fun A38 c39 w40 P4 e41 => ?_)
    have N2_4_ := Apart2.app N2_4 e41 O2
    have O2 := O2.app e41 N2_4
    have N2_4 := N2_4_
    have N3_4_ := Apart2.app N3_4 e41 O3
    have O3 := O3.app e41 N3_4
    have N3_4 := N3_4_
    have hB := eapp hB e41 O4
    have O4 := P4
    obtain rfl := hr.trans H.symm
    exact ⟨A38, c39, rfl, O4, hB⟩

def spec_IsMask.vc (x0 : Int) (w : World) (K : Value → World → Prop) : Prop :=
  Cll Try.prog 113 #[(.int .i64 x0), (.int .i64 0), (.int .i64 255)] w fun v21 w22 => (∃ (b23 : Bool), v21 = (.bool b23) ∧ K (.bool b23) w22)

def spec_IsMask.ann : Ann := (.seq .l (.seq .l .l))

theorem spec_IsMask.vc_eq (x0 : Int) (w : World) (K : Value → World → Prop) : vcF Try.prog Try.f128 spec_IsMask.ann [(.int .i64 x0)] K w = spec_IsMask.vc x0 w K := by kernel_rfl

theorem spec_IsMask.start {x0 : Int} {w : World} {K : Value → World → Prop} (h : spec_IsMask.vc x0 w K) : Cll Try.prog 128 #[(.int .i64 x0)] w K :=
  vcF_sound mixed (fn := Try.f128) (by kernel_rfl) (by kernel_rfl) (an := spec_IsMask.ann) (args := [(.int .i64 x0)]) (by rw [spec_IsMask.vc_eq]; exact h)

theorem spec_IsMask.con {x0 : Int} {r : Bool} {w : World} (hr : r = M.spec_IsMask x0)  :
    Cll Try.prog 128 #[(.int .i64 x0)] w (fun v_ w_ => v_ = (.bool r) ∧ Ext w w_) := by
  have H := wp.spec_IsMask.math x0
  have hB := Ext.refl w
  refine spec_IsMask.start ?_
  unfold spec_IsMask.vc
  unfold wp.spec_IsMask at H
  obtain ⟨r21, hr22⟩ : ∃ r_, r_ = M.spec_l01In x0 0 255 := ⟨_, rfl⟩
  have H := H r21 hr22
  refine (spec_l01In.con hr22 ).mono ?_
  rintro _ w24 ⟨rfl, e25⟩
  have hB := ethen hB e25
  refine ⟨r21, rfl, ?_⟩
  obtain rfl := hr.trans H.symm
  exact ⟨rfl, hB⟩

def spec_HasLane.vc (x0 : Int) (x1 : Int) (w : World) (K : Value → World → Prop) : Prop :=
  Cll Try.prog 128 #[(.int .i64 x0)] w fun v21 w22 => (∃ (b23 : Bool), v21 = (.bool b23) ∧ bcase b23 (Cll Try.prog 113 #[(.int .i64 x1), (.int .i64 0), (.int .i64 7)] w22 fun v24 w25 => (∃ (b26 : Bool), v24 = (.bool b26) ∧ bcase b26 (((0 : Int) ≤ x1 ∧ K (.bool ((bitAnd .i64 (Int.fdiv x0 (2 ^ (min (x1.toNat) (IntKind.bits .i64)))) 1) == 1)) w25)) (K (.bool false) w25))) (K (.bool false) w22))

def spec_HasLane.ann : Ann := (.seq .l (.seq .l .l))

theorem spec_HasLane.vc_eq (x0 : Int) (x1 : Int) (w : World) (K : Value → World → Prop) : vcF Try.prog Try.f130 spec_HasLane.ann [(.int .i64 x0), (.int .i64 x1)] K w = spec_HasLane.vc x0 x1 w K := by kernel_rfl

theorem spec_HasLane.start {x0 : Int} {x1 : Int} {w : World} {K : Value → World → Prop} (h : spec_HasLane.vc x0 x1 w K) : Cll Try.prog 130 #[(.int .i64 x0), (.int .i64 x1)] w K :=
  vcF_sound mixed (fn := Try.f130) (by kernel_rfl) (by kernel_rfl) (an := spec_HasLane.ann) (args := [(.int .i64 x0), (.int .i64 x1)]) (by rw [spec_HasLane.vc_eq]; exact h)

theorem spec_HasLane.con {x0 : Int} {x1 : Int} {r : Bool} {w : World} (hr : r = M.spec_HasLane x0 x1)  :
    Cll Try.prog 130 #[(.int .i64 x0), (.int .i64 x1)] w (fun v_ w_ => v_ = (.bool r) ∧ Ext w w_) := by
  have H := wp.spec_HasLane.math x0 x1
  have hB := Ext.refl w
  refine spec_HasLane.start ?_
  unfold spec_HasLane.vc
  unfold wp.spec_HasLane at H
  obtain ⟨r21, hr22⟩ : ∃ r_, r_ = M.spec_IsMask x0 := ⟨_, rfl⟩
  have H := H r21 hr22
  refine (spec_IsMask.con hr22 ).mono ?_
  rintro _ w24 ⟨rfl, e25⟩
  have hB := ethen hB e25
  refine ⟨r21, rfl, ?_⟩
  refine bcase_mk (fun hc33 => ?_) (fun hc33 => ?_)
  · have H := (bcase_iff.1 H).1 hc33
    obtain ⟨r26, hr27⟩ : ∃ r_, r_ = M.spec_l01In x1 0 7 := ⟨_, rfl⟩
    have H := H r26 hr27
    refine (spec_l01In.con hr27 ).mono ?_
    rintro _ w29 ⟨rfl, e30⟩
    have hB := ethen hB e30
    refine ⟨r26, rfl, ?_⟩
    refine bcase_mk (fun hc32 => ?_) (fun hc32 => ?_)
    · have H := (bcase_iff.1 H).1 hc32
      obtain ⟨hc31, H⟩ := H
      refine ⟨hc31, ?_⟩
      obtain rfl := hr.trans H.symm
      exact ⟨rfl, hB⟩
    · have H := (bcase_iff.1 H).2 hc32
      obtain rfl := hr.trans H.symm
      exact ⟨rfl, hB⟩
  · have H := (bcase_iff.1 H).2 hc33
    obtain rfl := hr.trans H.symm
    exact ⟨rfl, hB⟩

def spec_ReduceMasked.vc (x0 : Int) (A1 : Option Addr) (n1 : Nat) (c1 : Nat) (x2 : Int) (w : World) (K : Value → World → Prop) : Prop :=
  Cll Try.prog 67 #[(.slice A1 n1 c1)] w fun v22 w23 => (∃ (b24 : Bool), v22 = (.bool b24) ∧ bcase (!b24) (K (.int .i64 0) w23) (Cll Try.prog 128 #[(.int .i64 x2)] w23 fun v25 w26 => (∃ (b27 : Bool), v25 = (.bool b27) ∧ bcase (!b27) (K (.int .i64 0) w26) (Cll Try.prog 129 #[(.int .i64 x0)] w26 fun v28 w29 => (∃ (b30 : Bool), v28 = (.bool b30) ∧ bcase (!b30) (K (.int .i64 0) w29) (Cll Try.prog 126 #[(.int .i64 x0)] w29 fun v31 w32 => (∃ (n33 : Int), v31 = (.int .i64 n33) ∧ LoopT (σ := Int × Int × Unit) (fun z34 w35 next36 => bcase (decide (z34.2.1 < 8)) (Cll Try.prog 130 #[(.int .i64 x2), (.int .i64 z34.2.1)] w35 fun v37 w38 => (∃ (b39 : Bool), v37 = (.bool b39) ∧ bcase b39 (((0 : Int) ≤ z34.2.1 ∧ z34.2.1 < ((n1 : Nat) : Int) ∧ ∃ a40 : Addr, A1 = some a40 ∧ ∃ (n41 : Int), w38.cell? ((a40.add ((z34.2.1.toNat) * 1)).add 0) = some (.int .i64 n41) ∧ Cll Try.prog 131 #[(.int .i64 x0), (.int .i64 z34.1), (.int .i64 n41)] w38 fun v42 w43 => (∃ (n44 : Int), v42 = (.int .i64 n44) ∧ next36 (n44, (IntKind.wrap .i64 (z34.2.1 + 1)), ()) w43))) (next36 (z34.1, (IntKind.wrap .i64 (z34.2.1 + 1)), ()) w38))) (K (.int .i64 z34.1) w35)) (n33, 0, ()) w32)))))))

def spec_ReduceMasked.ann : Ann := (.seq .l (.seq (.seq .l (.two (.seq .l .l) .l)) (.seq .l (.seq (.seq .l (.one (.loop [(7, .int .i64), (8, .int .i64)] (.seq (.seq .l (.two .l .l)) (.seq (.one (.seq .l (.two .l .l))) .l))))) (.seq .l .l)))))

theorem spec_ReduceMasked.vc_eq (x0 : Int) (A1 : Option Addr) (n1 : Nat) (c1 : Nat) (x2 : Int) (w : World) (K : Value → World → Prop) : vcF Try.prog Try.f70 spec_ReduceMasked.ann [(.int .i64 x0), (.slice A1 n1 c1), (.int .i64 x2)] K w = spec_ReduceMasked.vc x0 A1 n1 c1 x2 w K := by kernel_rfl

theorem spec_ReduceMasked.start {x0 : Int} {A1 : Option Addr} {n1 : Nat} {c1 : Nat} {x2 : Int} {w : World} {K : Value → World → Prop} (h : spec_ReduceMasked.vc x0 A1 n1 c1 x2 w K) : Cll Try.prog 70 #[(.int .i64 x0), (.slice A1 n1 c1), (.int .i64 x2)] w K :=
  vcF_sound mixed (fn := Try.f70) (by kernel_rfl) (by kernel_rfl) (an := spec_ReduceMasked.ann) (args := [(.int .i64 x0), (.slice A1 n1 c1), (.int .i64 x2)]) (by rw [spec_ReduceMasked.vc_eq]; exact h)

theorem spec_ReduceMasked.con {x0 : Int} {xs1 : List Int} {A1 : Option Addr} {c1 : Nat} {x2 : Int} {r : Int} {w : World} (hr : r = M.spec_ReduceMasked x0 xs1 x2) (R1 : Row el3 w A1 xs1) (hc1 : xs1.length ≤ c1) :
    Cll Try.prog 70 #[(.int .i64 x0), (.slice A1 xs1.length c1), (.int .i64 x2)] w (fun v_ w_ => v_ = (.int .i64 r) ∧ Ext w w_) := by
  have H := wp.spec_ReduceMasked.math x0 xs1 x2
  have hB := Ext.refl w
  refine spec_ReduceMasked.start ?_
  unfold spec_ReduceMasked.vc
  unfold wp.spec_ReduceMasked at H
  obtain ⟨r21, hr22⟩ : ∃ r_, r_ = M.spec_ValuesOk xs1 := ⟨_, rfl⟩
  have H := H r21 hr22
  refine (spec_ValuesOk.con hr22 (R1.ext hB) hc1).mono ?_
  rintro _ w24 ⟨rfl, e25⟩
  have hB := ethen hB e25
  refine ⟨r21, rfl, ?_⟩
  refine bcase_mk (fun hc77 => ?_) (fun hc77 => ?_)
  · have H := (bcase_iff.1 H).1 hc77
    obtain rfl := hr.trans H.symm
    exact ⟨rfl, hB⟩
  · have H := (bcase_iff.1 H).2 hc77
    obtain ⟨r26, hr27⟩ : ∃ r_, r_ = M.spec_IsMask x2 := ⟨_, rfl⟩
    have H := H r26 hr27
    refine (spec_IsMask.con hr27 ).mono ?_
    rintro _ w29 ⟨rfl, e30⟩
    have hB := ethen hB e30
    refine ⟨r26, rfl, ?_⟩
    refine bcase_mk (fun hc76 => ?_) (fun hc76 => ?_)
    · have H := (bcase_iff.1 H).1 hc76
      obtain rfl := hr.trans H.symm
      exact ⟨rfl, hB⟩
    · have H := (bcase_iff.1 H).2 hc76
      obtain ⟨r31, hr32⟩ : ∃ r_, r_ = M.spec_l21Op x0 := ⟨_, rfl⟩
      have H := H r31 hr32
      refine (spec_l21Op.con hr32 ).mono ?_
      rintro _ w34 ⟨rfl, e35⟩
      have hB := ethen hB e35
      refine ⟨r31, rfl, ?_⟩
      refine bcase_mk (fun hc75 => ?_) (fun hc75 => ?_)
      · have H := (bcase_iff.1 H).1 hc75
        obtain rfl := hr.trans H.symm
        exact ⟨rfl, hB⟩
      · have H := (bcase_iff.1 H).2 hc75
        obtain ⟨r36, hr37⟩ : ∃ r_, r_ = M.spec_NeutralOf x0 := ⟨_, rfl⟩
        have H := H r36 hr37
        refine (spec_NeutralOf.con hr37 ).mono ?_
        rintro _ w39 ⟨rfl, e40⟩
        have hB := ethen hB e40
        refine ⟨r36, rfl, ?_⟩
        obtain ⟨J44, ⟨m73, hJ72⟩, hS45⟩ := H
        refine ⟨fun m_ z_ w_ => ∃ (i41 : Int) (i42 : Int), z_ = (i41, i42, ()) ∧ J44 m_ (i41, i42, ()) ∧ Ext w w_, ⟨m73, r36, 0, rfl, hJ72, hB⟩, ?_⟩
        rintro m43 _ w47 ⟨i41, i42, rfl, hJ74, hB⟩
        have H := hS45 m43 _ hJ74
        clear hS45 hJ74
        dsimp only at H ⊢
        refine bcase_mk (fun hc70 => ?_) (fun hc70 => ?_)
        · have H := (bcase_iff.1 H).1 hc70
          obtain ⟨r48, hr49⟩ : ∃ r_, r_ = M.spec_HasLane x2 i42 := ⟨_, rfl⟩
          have H := H r48 hr49
          refine (spec_HasLane.con hr49 ).mono ?_
          rintro _ w51 ⟨rfl, e52⟩
          have hB := ethen hB e52
          refine ⟨r48, rfl, ?_⟩
          refine bcase_mk (fun hc69 => ?_) (fun hc69 => ?_)
          · have H := (bcase_iff.1 H).1 hc69
            obtain ⟨⟨h0_56, h1_57⟩, H⟩ := H
            obtain ⟨a54, ha55, hat53⟩ := Row.at (R1.ext hB) h0_56 h1_57
            refine ⟨h0_56, h1_57, a54, ha55, ?_⟩
            refine ⟨_, (hat53 0 _ rfl), ?_⟩
            obtain ⟨r58, hr59⟩ : ∃ r_, r_ = M.spec_Combine x0 i41 (rd xs1 i42) := ⟨_, rfl⟩
            have H := H r58 hr59
            refine (spec_Combine.con hr59 ).mono ?_
            rintro _ w61 ⟨rfl, e62⟩
            have hB := ethen hB e62
            refine ⟨r58, rfl, ?_⟩
            obtain ⟨m63, hm64, hJ65⟩ := H
            exact ⟨m63, hm64, r58, (IntKind.wrap .i64 (i42 + 1)), rfl, hJ65, hB⟩
          · have H := (bcase_iff.1 H).2 hc69
            obtain ⟨m66, hm67, hJ68⟩ := H
            exact ⟨m66, hm67, i41, (IntKind.wrap .i64 (i42 + 1)), rfl, hJ68, hB⟩
        · have H := (bcase_iff.1 H).2 hc70
          obtain rfl := hr.trans H.symm
          exact ⟨rfl, hB⟩

def spec_AddTogether.vc (x0 : Int) (A1 : Option Addr) (n1 : Nat) (c1 : Nat) (w : World) (K : Value → World → Prop) : Prop :=
  Cll Try.prog 66 #[(.int .i64 x0)] w fun v22 w23 => (∃ (b24 : Bool), v22 = (.bool b24) ∧ bcase (!b24) (Run Try.prog (Instr.buildSlice 39 0 #[]) w23 fun v25 w26 => ∃ (A27 : Option Addr) (n28 c29 : Nat), v25 = .slice A27 n28 c29 ∧ K (.tuple #[(.slice A27 n28 c29), (.int .i64 0), (.bool false)]) w26) (Cll Try.prog 67 #[(.slice A1 n1 c1)] w23 fun v30 w31 => (∃ (b32 : Bool), v30 = (.bool b32) ∧ bcase (!b32) (Run Try.prog (Instr.buildSlice 39 0 #[]) w31 fun v33 w34 => ∃ (A35 : Option Addr) (n36 c37 : Nat), v33 = .slice A35 n36 c37 ∧ K (.tuple #[(.slice A35 n36 c37), (.int .i64 0), (.bool false)]) w34) (Cll Try.prog 68 #[(.int .i64 0), (.slice A1 n1 c1)] w31 fun v38 w39 => (∃ (A40 : Option Addr) (n41 : Nat) (c42 : Nat), v38 = (.slice A40 n41 c42) ∧ Run Try.prog (Instr.buildSlice 39 0 #[]) w39 fun v43 w44 => ∃ (A45 : Option Addr) (n46 c47 : Nat), v43 = .slice A45 n46 c47 ∧ LoopT (σ := (Option Addr × Nat × Nat) × Int × Unit) (fun z48 w49 next50 => bcase (decide (z48.2.1 < 8)) (((0 : Int) ≤ z48.2.1 ∧ z48.2.1 < ((n41 : Nat) : Int) ∧ ∃ a51 : Addr, A40 = some a51 ∧ ∃ (n52 : Int), w49.cell? ((a51.add ((z48.2.1.toNat) * 1)).add 0) = some (.int .i64 n52) ∧ Cll Try.prog 69 #[(.int .i64 x0), (.int .i64 n52)] w49 fun v53 w54 => (∃ (n55 : Int), v53 = (.int .i64 n55) ∧ Run Try.prog (Instr.buildSlice 39 1 #[(0, (.int .i64 n55))]) w54 fun v56 w57 => ∃ (A58 : Option Addr) (n59 c60 : Nat), v56 = .slice A58 n59 c60 ∧ Run Try.prog (Builtin.append_ #[39, 39] 39 #[(.slice z48.1.1 z48.1.2.1 z48.1.2.2), (.slice A58 n59 c60)]) w57 fun v61 w62 => ∃ (A63 : Option Addr) (n64 c65 : Nat), v61 = .slice A63 n64 c65 ∧ next50 ((A63, n64, c65), (IntKind.wrap .i64 (z48.2.1 + 1)), ()) w62))) (Cll Try.prog 70 #[(.int .i64 0), (.slice A1 n1 c1), (.int .i64 255)] w49 fun v66 w67 => (∃ (n68 : Int), v66 = (.int .i64 n68) ∧ Cll Try.prog 69 #[(.int .i64 x0), (.int .i64 n68)] w67 fun v69 w70 => (∃ (n71 : Int), v69 = (.int .i64 n71) ∧ K (.tuple #[(.slice z48.1.1 z48.1.2.1 z48.1.2.2), (.int .i64 n71), (.bool true)]) w70)))) ((A45, n46, c47), 0, ()) w44)))))

def spec_AddTogether.ann : Ann := (.seq .l (.seq (.seq .l (.two (.seq .l .l) .l)) (.seq .l (.seq .l (.seq (.seq .l (.one (.loop [(8, .sl), (9, .int .i64)] (.seq (.seq .l (.two .l .l)) (.seq (.one .l) .l))))) (.seq .l .l))))))

theorem spec_AddTogether.vc_eq (x0 : Int) (A1 : Option Addr) (n1 : Nat) (c1 : Nat) (w : World) (K : Value → World → Prop) : vcF Try.prog Try.f33 spec_AddTogether.ann [(.int .i64 x0), (.slice A1 n1 c1)] K w = spec_AddTogether.vc x0 A1 n1 c1 w K := by kernel_rfl

theorem spec_AddTogether.start {x0 : Int} {A1 : Option Addr} {n1 : Nat} {c1 : Nat} {w : World} {K : Value → World → Prop} (h : spec_AddTogether.vc x0 A1 n1 c1 w K) : Cll Try.prog 33 #[(.int .i64 x0), (.slice A1 n1 c1)] w K :=
  vcF_sound mixed (fn := Try.f33) (by kernel_rfl) (by kernel_rfl) (an := spec_AddTogether.ann) (args := [(.int .i64 x0), (.slice A1 n1 c1)]) (by rw [spec_AddTogether.vc_eq]; exact h)

theorem spec_AddTogether.con {x0 : Int} {xs1 : List Int} {A1 : Option Addr} {c1 : Nat} {r : (List Int) × Int × Bool} {w : World} (hr : r = M.spec_AddTogether x0 xs1) (R1 : Row el3 w A1 xs1) (hc1 : xs1.length ≤ c1) :
    Cll Try.prog 33 #[(.int .i64 x0), (.slice A1 xs1.length c1)] w (fun v_ w_ => ∃ (A0_ : Option Addr) (c0_ : Nat), v_ = (.tuple #[(.slice A0_ r.1.length c0_), (.int .i64 r.2.1), (.bool r.2.2)]) ∧ Own el3 w_ w.heap.size A0_ c0_ r.1 ∧ Ext w w_) := by
  have H := wp.spec_AddTogether.math x0 xs1
  have hB := Ext.refl w
  refine spec_AddTogether.start ?_
  unfold spec_AddTogether.vc
  unfold wp.spec_AddTogether at H
  obtain ⟨r21, hr22⟩ : ∃ r_, r_ = M.spec_IsWord x0 := ⟨_, rfl⟩
  have H := H r21 hr22
  refine (spec_IsWord.con hr22 ).mono ?_
  rintro _ w24 ⟨rfl, e25⟩
  have hB := ethen hB e25
  refine ⟨r21, rfl, ?_⟩
  refine bcase_mk (fun hc93 => ?_) (fun hc93 => ?_)
  · have H := (bcase_iff.1 H).1 hc93
    refine buildOwn el3 ([] : List Int) (fun _ => by kernel_rfl) rfl (fun A26 w27 P2 e28 => ?_)
    have O2 := P2.mono hB.size
    have hB := ethen hB e28
    obtain rfl := hr.trans H.symm
    exact ⟨A26, 0, (by first | rfl | (simp; done) | (simp; omega) | (simp [*]; done)), (by first | exact O2 | (simp only [List.length_set]; exact O2)), hB⟩
  · have H := (bcase_iff.1 H).2 hc93
    obtain ⟨r29, hr30⟩ : ∃ r_, r_ = M.spec_ValuesOk xs1 := ⟨_, rfl⟩
    have H := H r29 hr30
    refine (spec_ValuesOk.con hr30 (R1.ext hB) hc1).mono ?_
    rintro _ w32 ⟨rfl, e33⟩
    have hB := ethen hB e33
    refine ⟨r29, rfl, ?_⟩
    refine bcase_mk (fun hc92 => ?_) (fun hc92 => ?_)
    · have H := (bcase_iff.1 H).1 hc92
      refine buildOwn el3 ([] : List Int) (fun _ => by kernel_rfl) rfl (fun A34 w35 P3 e36 => ?_)
      have O3 := P3.mono hB.size
      have hB := ethen hB e36
      obtain rfl := hr.trans H.symm
      exact ⟨A34, 0, (by first | rfl | (simp; done) | (simp; omega) | (simp [*]; done)), (by first | exact O3 | (simp only [List.length_set]; exact O3)), hB⟩
    · have H := (bcase_iff.1 H).2 hc92
      obtain ⟨r37, hr38⟩ : ∃ r_, r_ = M.spec_ScanBefore 0 xs1 := ⟨_, rfl⟩
      have H := H r37 hr38
      refine (spec_ScanBefore.con hr38 (R1.ext hB) hc1).mono ?_
      rintro _ w40 ⟨A42, c43, rfl, P4, e41⟩
      have O4 := P4.mono hB.size
      have hB := ethen hB e41
      refine ⟨A42, r37.length, c43, rfl, ?_⟩
      refine buildOwn el3 ([] : List Int) (fun _ => by kernel_rfl) rfl (fun A44 w45 P5 e46 => ?_)
      have N4_5 := Own.apart2_new O4 P5 (Nat.le_refl _)
      have O4 := O4.ext e46
      have O5 := P5.mono hB.size
      have hB := ethen hB e46
      obtain ⟨J52, ⟨m90, hJ89⟩, hS53⟩ := H
      refine ⟨fun m_ z_ w_ => ∃ (xs47 : List Int) (i50 : Int) (A48 : Option Addr) (c49 : Nat), z_ = ((A48, xs47.length, c49), i50, ()) ∧ J52 m_ (xs47, i50, ()) ∧ Ext w w_ ∧ Own el3 w_ w.heap.size A48 c49 xs47 ∧ Own el3 w_ w.heap.size A42 c43 r37 ∧ Apart2 A42 A48, ⟨m90, ([] : List Int), 0, A44, 0, rfl, hJ89, hB, O5, O4, N4_5⟩, ?_⟩
      rintro m51 _ w55 ⟨xs47, i50, A48, c49, rfl, hJ91, hB, O6, O4, N4_6⟩
      have H := hS53 m51 _ hJ91
      clear hS53 hJ91
      dsimp only at H ⊢
      refine bcase_mk (fun hc87 => ?_) (fun hc87 => ?_)
      · have H := (bcase_iff.1 H).1 hc87
        obtain ⟨⟨h0_59, h1_60⟩, H⟩ := H
        obtain ⟨a57, ha58, hat56⟩ := Row.at O4.row h0_59 h1_60
        refine ⟨h0_59, h1_60, a57, ha58, ?_⟩
        refine ⟨_, (hat56 0 _ rfl), ?_⟩
        obtain ⟨r61, hr62⟩ : ∃ r_, r_ = M.spec_AddWords x0 (rd r37 i50) := ⟨_, rfl⟩
        have H := H r61 hr62
        refine (spec_AddWords.con hr62 ).mono ?_
        rintro _ w64 ⟨rfl, e65⟩
        have O4 := O4.ext e65
        have O6 := O6.ext e65
        have hB := ethen hB e65
        refine ⟨r61, rfl, ?_⟩
        refine buildOwn el3 ([r61] : List Int) (fun _ => by kernel_rfl) rfl (fun A66 w67 P7 e68 => ?_)
        have N4_7 := Own.apart2_new O4 P7 (Nat.le_refl _)
        have N6_7 := Own.apart2_new O6 P7 (Nat.le_refl _)
        have O4 := O4.ext e68
        have O6 := O6.ext e68
        have O7 := P7.mono hB.size
        have hB := ethen hB e68
        obtain ⟨hl73, H⟩ := H
        refine appOwn slt39 slt39.under O6 O7.row hB.size rfl (by first | rfl | omega | (simp; done) | (simp; omega)) hl73 (fun A69 c70 w71 P6 e72 => ?_)
        have N4_6_ := Apart2.app N4_6 e72 O4
        have O4 := O4.app e72 N4_6
        have N4_6 := N4_6_
        have N7_6_ := Apart2.app (N6_7).symm e72 O7
        have O7 := O7.app e72 (N6_7).symm
        have N7_6 := N7_6_
        have hB := eapp hB e72 O6
        have O6 := P6
        obtain ⟨m74, hm75, hJ76⟩ := H
        exact ⟨m74, hm75, (xs47 ++ ([r61] : List Int)), (IntKind.wrap .i64 (i50 + 1)), A69, c70, rfl, hJ76, hB, O6, O4, N4_6⟩
      · have H := (bcase_iff.1 H).2 hc87
        obtain ⟨r77, hr78⟩ : ∃ r_, r_ = M.spec_ReduceMasked 0 xs1 255 := ⟨_, rfl⟩
        have H := H r77 hr78
        refine (spec_ReduceMasked.con hr78 (R1.ext hB) hc1).mono ?_
        rintro _ w80 ⟨rfl, e81⟩
        have O4 := O4.ext e81
        have O6 := O6.ext e81
        have hB := ethen hB e81
        refine ⟨r77, rfl, ?_⟩
        obtain ⟨r82, hr83⟩ : ∃ r_, r_ = M.spec_AddWords x0 r77 := ⟨_, rfl⟩
        have H := H r82 hr83
        refine (spec_AddWords.con hr83 ).mono ?_
        rintro _ w85 ⟨rfl, e86⟩
        have O4 := O4.ext e86
        have O6 := O6.ext e86
        have hB := ethen hB e86
        refine ⟨r82, rfl, ?_⟩
        obtain rfl := hr.trans H.symm
        exact ⟨A48, c49, rfl, O6, hB⟩

def impl_ascending.vc  (w : World) (K : Value → World → Prop) : Prop :=
  Cll Try.prog 132 #[(.int .i64 255)] w fun v21 w22 => (∃ (A23 : Option Addr) (n24 : Nat) (c25 : Nat), v21 = (.slice A23 n24 c25) ∧ K (.slice A23 n24 c25) w22)

def impl_ascending.ann : Ann := (.seq .l (.seq .l .l))

theorem impl_ascending.vc_eq  (w : World) (K : Value → World → Prop) : vcF Try.prog Try.f71 impl_ascending.ann [] K w = impl_ascending.vc  w K := by kernel_rfl

theorem impl_ascending.start  {w : World} {K : Value → World → Prop} (h : impl_ascending.vc  w K) : Cll Try.prog 71 #[] w K :=
  vcF_sound mixed (fn := Try.f71) (by kernel_rfl) (by kernel_rfl) (an := impl_ascending.ann) (args := []) (by rw [impl_ascending.vc_eq]; exact h)

theorem impl_ascending.con  {r : List Int} {w : World} (hr : r = M.impl_ascending )  :
    Cll Try.prog 71 #[] w (fun v_ w_ => ∃ (A0_ : Option Addr) (c0_ : Nat), v_ = (.slice A0_ r.length c0_) ∧ Own el3 w_ w.heap.size A0_ c0_ r ∧ Ext w w_) := by
  have H := wp.impl_ascending.math 
  have hB := Ext.refl w
  refine impl_ascending.start ?_
  unfold impl_ascending.vc
  unfold wp.impl_ascending at H
  obtain ⟨r21, hr22⟩ : ∃ r_, r_ = M.impl_LanesOf 255 := ⟨_, rfl⟩
  have H := H r21 hr22
  refine (impl_LanesOf.con hr22 ).mono ?_
  rintro _ w24 ⟨A26, c27, rfl, P1, e25⟩
  have O1 := P1.mono hB.size
  have hB := ethen hB e25
  refine ⟨A26, r21.length, c27, rfl, ?_⟩
  obtain rfl := hr.trans H.symm
  exact ⟨A26, c27, rfl, O1, hB⟩

def impl_AddTogether.vc (x0 : Int) (A1 : Option Addr) (n1 : Nat) (c1 : Nat) (w : World) (K : Value → World → Prop) : Prop :=
  Cll Try.prog 71 #[] w fun v21 w22 => (∃ (A23 : Option Addr) (n24 : Nat) (c25 : Nat), v21 = (.slice A23 n24 c25) ∧ Cll Try.prog 64 #[(.int .i64 x0), (.slice A1 n1 c1), (.slice A23 n24 c25)] w22 fun v26 w27 => (∃ u28 : Value, (∃ (A29 : Option Addr) (n30 : Nat) (c31 : Nat), u28 = (.slice A29 n30 c31) ∧ ∃ u32 : Value, (∃ (n33 : Int), u32 = (.int .i64 n33) ∧ ∃ u34 : Value, (∃ (b35 : Bool), u34 = (.bool b35) ∧ v26 = (.tuple #[(.slice A29 n30 c31), (.int .i64 n33), (.bool b35)]) ∧ K (.tuple #[(.slice A29 n30 c31), (.int .i64 n33), (.bool b35)]) w27)))))

def impl_AddTogether.ann : Ann := (.seq .l (.seq .l .l))

theorem impl_AddTogether.vc_eq (x0 : Int) (A1 : Option Addr) (n1 : Nat) (c1 : Nat) (w : World) (K : Value → World → Prop) : vcF Try.prog Try.f34 impl_AddTogether.ann [(.int .i64 x0), (.slice A1 n1 c1)] K w = impl_AddTogether.vc x0 A1 n1 c1 w K := by kernel_rfl

theorem impl_AddTogether.start {x0 : Int} {A1 : Option Addr} {n1 : Nat} {c1 : Nat} {w : World} {K : Value → World → Prop} (h : impl_AddTogether.vc x0 A1 n1 c1 w K) : Cll Try.prog 34 #[(.int .i64 x0), (.slice A1 n1 c1)] w K :=
  vcF_sound mixed (fn := Try.f34) (by kernel_rfl) (by kernel_rfl) (an := impl_AddTogether.ann) (args := [(.int .i64 x0), (.slice A1 n1 c1)]) (by rw [impl_AddTogether.vc_eq]; exact h)

theorem impl_AddTogether.con {x0 : Int} {xs1 : List Int} {A1 : Option Addr} {c1 : Nat} {r : (List Int) × Int × Bool} {w : World} (hr : r = M.impl_AddTogether x0 xs1) (R1 : Row el3 w A1 xs1) (hc1 : xs1.length ≤ c1) :
    Cll Try.prog 34 #[(.int .i64 x0), (.slice A1 xs1.length c1)] w (fun v_ w_ => ∃ (A0_ : Option Addr) (c0_ : Nat), v_ = (.tuple #[(.slice A0_ r.1.length c0_), (.int .i64 r.2.1), (.bool r.2.2)]) ∧ Own el3 w_ w.heap.size A0_ c0_ r.1 ∧ Ext w w_) := by
  have H := wp.impl_AddTogether.math x0 xs1
  have hB := Ext.refl w
  refine impl_AddTogether.start ?_
  unfold impl_AddTogether.vc
  unfold wp.impl_AddTogether at H
  obtain ⟨r21, hr22⟩ : ∃ r_, r_ = M.impl_ascending := ⟨_, rfl⟩
  have H := H r21 hr22
  refine (impl_ascending.con hr22 ).mono ?_
  rintro _ w24 ⟨A26, c27, rfl, P2, e25⟩
  have O2 := P2.mono hB.size
  have hB := ethen hB e25
  refine ⟨A26, r21.length, c27, rfl, ?_⟩
  obtain ⟨hp30, H⟩ := H
  obtain ⟨r28, hr29⟩ : ∃ r_, r_ = M.impl_AddInOrder x0 xs1 r21 := ⟨_, rfl⟩
  have H := H r28 hr29
  refine (impl_AddInOrder.con hp30 hr29 (R1.ext hB) hc1 O2.row O2.le).mono ?_
  rintro _ w31 ⟨A33, c34, rfl, P3, e32⟩
  have N2_3 := Own.apart2_new O2 P3 (Nat.le_refl _)
  have O2 := O2.ext e32
  have O3 := P3.mono hB.size
  have hB := ethen hB e32
  refine ⟨(.slice A33 r28.1.length c34), ?_⟩
  refine ⟨A33, r28.1.length, c34, rfl, ?_⟩
  refine ⟨(.int .i64 r28.2.1), ?_⟩
  refine ⟨r28.2.1, rfl, ?_⟩
  refine ⟨(.bool r28.2.2), ?_⟩
  refine ⟨r28.2.2, rfl, ?_⟩
  refine ⟨rfl, ?_⟩
  obtain rfl := hr.trans H.symm
  exact ⟨A33, c34, rfl, O3, hB⟩

def laws_FnExactAddTogether.vc (x0 : Int) (A1 : Option Addr) (n1 : Nat) (c1 : Nat) (w : World) (K : Value → World → Prop) : Prop :=
  bcase (decide (((n1 : Nat) : Int) > 1048576)) (K (.bool true) w) (Cll Try.prog 28 #[(.slice A1 n1 c1)] w fun v21 w22 => (∃ (A23 : Option Addr) (n24 : Nat) (c25 : Nat), v21 = (.slice A23 n24 c25) ∧ Cll Try.prog 33 #[(.int .i64 x0), (.slice A23 n24 c25)] w22 fun v26 w27 => (∃ u28 : Value, (∃ (A29 : Option Addr) (n30 : Nat) (c31 : Nat), u28 = (.slice A29 n30 c31) ∧ ∃ u32 : Value, (∃ (n33 : Int), u32 = (.int .i64 n33) ∧ ∃ u34 : Value, (∃ (b35 : Bool), u34 = (.bool b35) ∧ v26 = (.tuple #[(.slice A29 n30 c31), (.int .i64 n33), (.bool b35)]) ∧ Cll Try.prog 28 #[(.slice A1 n1 c1)] w27 fun v36 w37 => (∃ (A38 : Option Addr) (n39 : Nat) (c40 : Nat), v36 = (.slice A38 n39 c40) ∧ Cll Try.prog 34 #[(.int .i64 x0), (.slice A38 n39 c40)] w37 fun v41 w42 => (∃ u43 : Value, (∃ (A44 : Option Addr) (n45 : Nat) (c46 : Nat), u43 = (.slice A44 n45 c46) ∧ ∃ u47 : Value, (∃ (n48 : Int), u47 = (.int .i64 n48) ∧ ∃ u49 : Value, (∃ (b50 : Bool), u49 = (.bool b50) ∧ v41 = (.tuple #[(.slice A44 n45 c46), (.int .i64 n48), (.bool b50)]) ∧ Cll Try.prog 30 #[(.slice A44 n45 c46), (.slice A29 n30 c31)] w42 fun v52 w53 => (∃ (b54 : Bool), v52 = (.bool b54) ∧ bcase (!b54) (K (.bool false) w53) (bcase (n48 != n33) (K (.bool false) w53) (bcase (!(b50 == b35)) (K (.bool false) w53) (Cll Try.prog 28 #[(.slice A1 n1 c1)] w53 fun v55 w56 => (∃ (A57 : Option Addr) (n58 : Nat) (c59 : Nat), v55 = (.slice A57 n58 c59) ∧ Cll Try.prog 30 #[(.slice A38 n39 c40), (.slice A57 n58 c59)] w56 fun v60 w61 => (∃ (b62 : Bool), v60 = (.bool b62) ∧ bcase (!b62) (K (.bool false) w61) (Cll Try.prog 31 #[(.slice A38 n39 c40), (.int .i64 1)] w61 fun v63 w64 => (∃ (n65 : Int), v63 = (.int .i64 n65) ∧ bcase (decide (n65 < 0)) (K (.bool false) w64) (Cll Try.prog 30 #[(.slice A44 n45 c46), (.slice A29 n30 c31)] w64 fun v67 w68 => (∃ (b69 : Bool), v67 = (.bool b69) ∧ bcase (!b69) (K (.bool false) w68) (bcase (n48 != n33) (K (.bool false) w68) (bcase (!(b50 == b35)) (K (.bool false) w68) (Cll Try.prog 31 #[(.slice A44 n45 c46), (.int .i64 1)] w68 fun v70 w71 => (∃ (n72 : Int), v70 = (.int .i64 n72) ∧ Cll Try.prog 32 #[(.slice A44 n45 c46), (.int .i64 1)] w71 fun v73 w74 => (∃ (n75 : Int), v73 = (.int .i64 n75) ∧ bcase (decide (n75 < 0)) (K (.bool false) w74) (bcase (n75 != n72) (K (.bool false) w74) (Cll Try.prog 28 #[(.slice A1 n1 c1)] w74 fun v76 w77 => (∃ (A78 : Option Addr) (n79 : Nat) (c80 : Nat), v76 = (.slice A78 n79 c80) ∧ Cll Try.prog 34 #[(.int .i64 x0), (.slice A78 n79 c80)] w77 fun v81 w82 => (∃ u83 : Value, (∃ (A84 : Option Addr) (n85 : Nat) (c86 : Nat), u83 = (.slice A84 n85 c86) ∧ ∃ u87 : Value, (∃ (n88 : Int), u87 = (.int .i64 n88) ∧ ∃ u89 : Value, (∃ (b90 : Bool), u89 = (.bool b90) ∧ v81 = (.tuple #[(.slice A84 n85 c86), (.int .i64 n88), (.bool b90)]) ∧ Cll Try.prog 30 #[(.slice A84 n85 c86), (.slice A29 n30 c31)] w82 fun v92 w93 => (∃ (b94 : Bool), v92 = (.bool b94) ∧ bcase (!b94) (K (.bool false) w93) (bcase (n88 != n33) (K (.bool false) w93) (bcase (!(b90 == b35)) (K (.bool false) w93) (Cll Try.prog 32 #[(.slice A44 n45 c46), (.int .i64 1)] w93 fun v95 w96 => (∃ (n97 : Int), v95 = (.int .i64 n97) ∧ bcase (decide (n97 < 0)) (K (.bool false) w96) (bcase (n97 != n72) (K (.bool false) w96) (K (.bool true) w96))))))))))))))))))))))))))))))))))))))))

def laws_FnExactAddTogether.ann : Ann := (.seq .l (.seq (.seq .l (.two (.seq .l .l) .l)) (.seq .l (.seq .l (.seq .l (.seq (.seq .l (.two (.seq .l .l) .l)) (.seq (.seq .l (.two (.seq .l .l) .l)) (.seq .l (.seq .l (.seq (.seq .l (.two (.seq .l .l) .l)) (.seq .l (.seq .l (.seq .l (.seq .l (.seq (.seq .l (.two (.seq .l .l) .l)) (.seq (.seq .l (.two (.seq .l .l) .l)) (.seq .l (.seq (.seq .l (.two (.seq .l .l) .l)) (.seq .l (.seq .l (.seq (.seq .l (.two (.seq .l .l) .l)) (.seq (.seq .l (.two (.seq .l .l) .l)) (.seq .l .l)))))))))))))))))))))))

theorem laws_FnExactAddTogether.vc_eq (x0 : Int) (A1 : Option Addr) (n1 : Nat) (c1 : Nat) (w : World) (K : Value → World → Prop) : vcF Try.prog Try.f7 laws_FnExactAddTogether.ann [(.int .i64 x0), (.slice A1 n1 c1)] K w = laws_FnExactAddTogether.vc x0 A1 n1 c1 w K := by kernel_rfl

theorem laws_FnExactAddTogether.start {x0 : Int} {A1 : Option Addr} {n1 : Nat} {c1 : Nat} {w : World} {K : Value → World → Prop} (h : laws_FnExactAddTogether.vc x0 A1 n1 c1 w K) : Cll Try.prog 7 #[(.int .i64 x0), (.slice A1 n1 c1)] w K :=
  vcF_sound mixed (fn := Try.f7) (by kernel_rfl) (by kernel_rfl) (an := laws_FnExactAddTogether.ann) (args := [(.int .i64 x0), (.slice A1 n1 c1)]) (by rw [laws_FnExactAddTogether.vc_eq]; exact h)

theorem laws_FnExactAddTogether.con {x0 : Int} {xs1 : List Int} {A1 : Option Addr} {c1 : Nat} {r : Bool} {w : World} (hp : M.laws_FnExactAddTogether_pre x0 xs1) (hr : r = M.laws_FnExactAddTogether x0 xs1) (R1 : Row el3 w A1 xs1) (hc1 : xs1.length ≤ c1) :
    Cll Try.prog 7 #[(.int .i64 x0), (.slice A1 xs1.length c1)] w (fun v_ w_ => v_ = (.bool r) ∧ Ext w w_) := by
  have H := wp.laws_FnExactAddTogether.math x0 xs1 hp
  have hB := Ext.refl w
  refine laws_FnExactAddTogether.start ?_
  unfold laws_FnExactAddTogether.vc
  unfold wp.laws_FnExactAddTogether at H
  refine bcase_mk (fun hc127 => ?_) (fun hc127 => ?_)
  · have H := (bcase_iff.1 H).1 hc127
    obtain rfl := hr.trans H.symm
    exact ⟨rfl, hB⟩
  · have H := (bcase_iff.1 H).2 hc127
    obtain ⟨hp23, H⟩ := H
    obtain ⟨r21, hr22⟩ : ∃ r_, r_ = M.laws_toIntS xs1 := ⟨_, rfl⟩
    have H := H r21 hr22
    refine (laws_toIntS.con hp23 hr22 (R1.ext hB) hc1).mono ?_
    rintro _ w24 ⟨A26, c27, rfl, P2, e25⟩
    have O2 := P2.mono hB.size
    have hB := ethen hB e25
    refine ⟨A26, r21.length, c27, rfl, ?_⟩
    obtain ⟨r28, hr29⟩ : ∃ r_, r_ = M.spec_AddTogether x0 r21 := ⟨_, rfl⟩
    have H := H r28 hr29
    refine (spec_AddTogether.con hr29 O2.row O2.le).mono ?_
    rintro _ w31 ⟨A33, c34, rfl, P3, e32⟩
    have N2_3 := Own.apart2_new O2 P3 (Nat.le_refl _)
    have O2 := O2.ext e32
    have O3 := P3.mono hB.size
    have hB := ethen hB e32
    refine ⟨(.slice A33 r28.1.length c34), ?_⟩
    refine ⟨A33, r28.1.length, c34, rfl, ?_⟩
    refine ⟨(.int .i64 r28.2.1), ?_⟩
    refine ⟨r28.2.1, rfl, ?_⟩
    refine ⟨(.bool r28.2.2), ?_⟩
    refine ⟨r28.2.2, rfl, ?_⟩
    refine ⟨rfl, ?_⟩
    obtain ⟨hp37, H⟩ := H
    obtain ⟨r35, hr36⟩ : ∃ r_, r_ = M.laws_toIntS xs1 := ⟨_, rfl⟩
    have H := H r35 hr36
    refine (laws_toIntS.con hp37 hr36 (R1.ext hB) hc1).mono ?_
    rintro _ w38 ⟨A40, c41, rfl, P4, e39⟩
    have N2_4 := Own.apart2_new O2 P4 (Nat.le_refl _)
    have N3_4 := Own.apart2_new O3 P4 (Nat.le_refl _)
    have O2 := O2.ext e39
    have O3 := O3.ext e39
    have O4 := P4.mono hB.size
    have hB := ethen hB e39
    refine ⟨A40, r35.length, c41, rfl, ?_⟩
    obtain ⟨r42, hr43⟩ : ∃ r_, r_ = M.impl_AddTogether x0 r35 := ⟨_, rfl⟩
    have H := H r42 hr43
    refine (impl_AddTogether.con hr43 O4.row O4.le).mono ?_
    rintro _ w45 ⟨A47, c48, rfl, P5, e46⟩
    have N2_5 := Own.apart2_new O2 P5 (Nat.le_refl _)
    have N3_5 := Own.apart2_new O3 P5 (Nat.le_refl _)
    have N4_5 := Own.apart2_new O4 P5 (Nat.le_refl _)
    have O2 := O2.ext e46
    have O3 := O3.ext e46
    have O4 := O4.ext e46
    have O5 := P5.mono hB.size
    have hB := ethen hB e46
    refine ⟨(.slice A47 r42.1.length c48), ?_⟩
    refine ⟨A47, r42.1.length, c48, rfl, ?_⟩
    refine ⟨(.int .i64 r42.2.1), ?_⟩
    refine ⟨r42.2.1, rfl, ?_⟩
    refine ⟨(.bool r42.2.2), ?_⟩
    refine ⟨r42.2.2, rfl, ?_⟩
    refine ⟨rfl, ?_⟩
    obtain ⟨hp51, H⟩ := H
    obtain ⟨r49, hr50⟩ : ∃ r_, r_ = M.laws_eqIntS r42.1 r28.1 := ⟨_, rfl⟩
    have H := H r49 hr50
    refine (laws_eqIntS.con hp51 hr50 O5.row O5.le O3.row O3.le).mono ?_
    rintro _ w52 ⟨rfl, e53⟩
    have O2 := O2.ext e53
    have O3 := O3.ext e53
    have O4 := O4.ext e53
    have O5 := O5.ext e53
    have hB := ethen hB e53
    refine ⟨r49, rfl, ?_⟩
    refine bcase_mk (fun hc126 => ?_) (fun hc126 => ?_)
    · have H := (bcase_iff.1 H).1 hc126
      obtain rfl := hr.trans H.symm
      exact ⟨rfl, hB⟩
    · have H := (bcase_iff.1 H).2 hc126
      refine bcase_mk (fun hc125 => ?_) (fun hc125 => ?_)
      · have H := (bcase_iff.1 H).1 hc125
        obtain rfl := hr.trans H.symm
        exact ⟨rfl, hB⟩
      · have H := (bcase_iff.1 H).2 hc125
        refine bcase_mk (fun hc124 => ?_) (fun hc124 => ?_)
        · have H := (bcase_iff.1 H).1 hc124
          obtain rfl := hr.trans H.symm
          exact ⟨rfl, hB⟩
        · have H := (bcase_iff.1 H).2 hc124
          obtain ⟨hp56, H⟩ := H
          obtain ⟨r54, hr55⟩ : ∃ r_, r_ = M.laws_toIntS xs1 := ⟨_, rfl⟩
          have H := H r54 hr55
          refine (laws_toIntS.con hp56 hr55 (R1.ext hB) hc1).mono ?_
          rintro _ w57 ⟨A59, c60, rfl, P6, e58⟩
          have N2_6 := Own.apart2_new O2 P6 (Nat.le_refl _)
          have N3_6 := Own.apart2_new O3 P6 (Nat.le_refl _)
          have N4_6 := Own.apart2_new O4 P6 (Nat.le_refl _)
          have N5_6 := Own.apart2_new O5 P6 (Nat.le_refl _)
          have O2 := O2.ext e58
          have O3 := O3.ext e58
          have O4 := O4.ext e58
          have O5 := O5.ext e58
          have O6 := P6.mono hB.size
          have hB := ethen hB e58
          refine ⟨A59, r54.length, c60, rfl, ?_⟩
          obtain ⟨hp63, H⟩ := H
          obtain ⟨r61, hr62⟩ : ∃ r_, r_ = M.laws_eqIntS r35 r54 := ⟨_, rfl⟩
          have H := H r61 hr62
          refine (laws_eqIntS.con hp63 hr62 O4.row O4.le O6.row O6.le).mono ?_
          rintro _ w64 ⟨rfl, e65⟩
          have O2 := O2.ext e65
          have O3 := O3.ext e65
          have O4 := O4.ext e65
          have O5 := O5.ext e65
          have O6 := O6.ext e65
          have hB := ethen hB e65
          refine ⟨r61, rfl, ?_⟩
          refine bcase_mk (fun hc123 => ?_) (fun hc123 => ?_)
          · have H := (bcase_iff.1 H).1 hc123
            obtain rfl := hr.trans H.symm
            exact ⟨rfl, hB⟩
          · have H := (bcase_iff.1 H).2 hc123
            obtain ⟨hp68, H⟩ := H
            obtain ⟨r66, hr67⟩ : ∃ r_, r_ = M.laws_markIntS r35 1 := ⟨_, rfl⟩
            have H := H r66 hr67
            refine (laws_markIntS.con hp68 hr67 (O4.mono (Nat.zero_le _))).mono ?_
            rintro _ w69 ⟨rfl, Q4, hl71, e70⟩
            have O2 := O2.chgS e70 (N2_4).inb
            have O3 := O3.chgS e70 (N3_4).inb
            have O5 := O5.chgS e70 ((N4_5).symm).inb
            have O6 := O6.chgS e70 ((N4_6).symm).inb
            have hB := Chg.ext hB e70 O4.low
            have O4 := Q4.up O4
            refine ⟨r66.1, rfl, ?_⟩
            refine bcase_mk (fun hc122 => ?_) (fun hc122 => ?_)
            · have H := (bcase_iff.1 H).1 hc122
              obtain rfl := hr.trans H.symm
              exact ⟨rfl, hB⟩
            · have H := (bcase_iff.1 H).2 hc122
              obtain ⟨hp74, H⟩ := H
              obtain ⟨r72, hr73⟩ : ∃ r_, r_ = M.laws_eqIntS r42.1 r28.1 := ⟨_, rfl⟩
              have H := H r72 hr73
              refine (laws_eqIntS.con hp74 hr73 O5.row O5.le O3.row O3.le).mono ?_
              rintro _ w75 ⟨rfl, e76⟩
              have O2 := O2.ext e76
              have O3 := O3.ext e76
              have O4 := O4.ext e76
              have O5 := O5.ext e76
              have O6 := O6.ext e76
              have hB := ethen hB e76
              refine ⟨r72, rfl, ?_⟩
              refine bcase_mk (fun hc121 => ?_) (fun hc121 => ?_)
              · have H := (bcase_iff.1 H).1 hc121
                obtain rfl := hr.trans H.symm
                exact ⟨rfl, hB⟩
              · have H := (bcase_iff.1 H).2 hc121
                refine bcase_mk (fun hc120 => ?_) (fun hc120 => ?_)
                · have H := (bcase_iff.1 H).1 hc120
                  obtain rfl := hr.trans H.symm
                  exact ⟨rfl, hB⟩
                · have H := (bcase_iff.1 H).2 hc120
                  refine bcase_mk (fun hc119 => ?_) (fun hc119 => ?_)
                  · have H := (bcase_iff.1 H).1 hc119
                    obtain rfl := hr.trans H.symm
                    exact ⟨rfl, hB⟩
                  · have H := (bcase_iff.1 H).2 hc119
                    obtain ⟨hp79, H⟩ := H
                    obtain ⟨r77, hr78⟩ : ∃ r_, r_ = M.laws_markIntS r42.1 1 := ⟨_, rfl⟩
                    have H := H r77 hr78
                    refine (laws_markIntS.con hp79 hr78 (O5.mono (Nat.zero_le _))).mono ?_
                    rintro _ w80 ⟨rfl, Q5, hl82, e81⟩
                    have O2 := O2.chgS e81 (N2_5).inb
                    have O3 := O3.chgS e81 (N3_5).inb
                    have O4 := O4.chgS e81 (N4_5).inb
                    have O6 := O6.chgS e81 ((N5_6).symm).inb
                    have hB := Chg.ext hB e81 O5.low
                    have O5 := Q5.up O5
                    refine ⟨r77.1, rfl, ?_⟩
                    obtain ⟨hp85, H⟩ := H
                    obtain ⟨r83, hr84⟩ : ∃ r_, r_ = M.laws_heldIntS r77.2 1 := ⟨_, rfl⟩
                    have H := H r83 hr84
                    refine (cllArgs (by first | (simp only [List.length_set, hl82]; done) | (simp; done)) (laws_heldIntS.con hp85 hr84 O5.row O5.le)).mono ?_
                    rintro _ w86 ⟨rfl, e87⟩
                    have O2 := O2.ext e87
                    have O3 := O3.ext e87
                    have O4 := O4.ext e87
                    have O5 := O5.ext e87
                    have O6 := O6.ext e87
                    have hB := ethen hB e87
                    refine ⟨r83, rfl, ?_⟩
                    refine bcase_mk (fun hc118 => ?_) (fun hc118 => ?_)
                    · have H := (bcase_iff.1 H).1 hc118
                      obtain rfl := hr.trans H.symm
                      exact ⟨rfl, hB⟩
                    · have H := (bcase_iff.1 H).2 hc118
                      refine bcase_mk (fun hc117 => ?_) (fun hc117 => ?_)
                      · have H := (bcase_iff.1 H).1 hc117
                        obtain rfl := hr.trans H.symm
                        exact ⟨rfl, hB⟩
                      · have H := (bcase_iff.1 H).2 hc117
                        obtain ⟨hp90, H⟩ := H
                        obtain ⟨r88, hr89⟩ : ∃ r_, r_ = M.laws_toIntS xs1 := ⟨_, rfl⟩
                        have H := H r88 hr89
                        refine (laws_toIntS.con hp90 hr89 (R1.ext hB) hc1).mono ?_
                        rintro _ w91 ⟨A93, c94, rfl, P7, e92⟩
                        have N2_7 := Own.apart2_new O2 P7 (Nat.le_refl _)
                        have N3_7 := Own.apart2_new O3 P7 (Nat.le_refl _)
                        have N4_7 := Own.apart2_new O4 P7 (Nat.le_refl _)
                        have N5_7 := Own.apart2_new O5 P7 (Nat.le_refl _)
                        have N6_7 := Own.apart2_new O6 P7 (Nat.le_refl _)
                        have O2 := O2.ext e92
                        have O3 := O3.ext e92
                        have O4 := O4.ext e92
                        have O5 := O5.ext e92
                        have O6 := O6.ext e92
                        have O7 := P7.mono hB.size
                        have hB := ethen hB e92
                        refine ⟨A93, r88.length, c94, rfl, ?_⟩
                        obtain ⟨r95, hr96⟩ : ∃ r_, r_ = M.impl_AddTogether x0 r88 := ⟨_, rfl⟩
                        have H := H r95 hr96
                        refine (impl_AddTogether.con hr96 O7.row O7.le).mono ?_
                        rintro _ w98 ⟨A100, c101, rfl, P8, e99⟩
                        have N2_8 := Own.apart2_new O2 P8 (Nat.le_refl _)
                        have N3_8 := Own.apart2_new O3 P8 (Nat.le_refl _)
                        have N4_8 := Own.apart2_new O4 P8 (Nat.le_refl _)
                        have N5_8 := Own.apart2_new O5 P8 (Nat.le_refl _)
                        have N6_8 := Own.apart2_new O6 P8 (Nat.le_refl _)
                        have N7_8 := Own.apart2_new O7 P8 (Nat.le_refl _)
                        have O2 := O2.ext e99
                        have O3 := O3.ext e99
                        have O4 := O4.ext e99
                        have O5 := O5.ext e99
                        have O6 := O6.ext e99
                        have O7 := O7.ext e99
                        have O8 := P8.mono hB.size
                        have hB := ethen hB e99
                        refine ⟨(.slice A100 r95.1.length c101), ?_⟩
                        refine ⟨A100, r95.1.length, c101, rfl, ?_⟩
                        refine ⟨(.int .i64 r95.2.1), ?_⟩
                        refine ⟨r95.2.1, rfl, ?_⟩
                        refine ⟨(.bool r95.2.2), ?_⟩
                        refine ⟨r95.2.2, rfl, ?_⟩
                        refine ⟨rfl, ?_⟩
                        obtain ⟨hp104, H⟩ := H
                        obtain ⟨r102, hr103⟩ : ∃ r_, r_ = M.laws_eqIntS r95.1 r28.1 := ⟨_, rfl⟩
                        have H := H r102 hr103
                        refine (laws_eqIntS.con hp104 hr103 O8.row O8.le O3.row O3.le).mono ?_
                        rintro _ w105 ⟨rfl, e106⟩
                        have O2 := O2.ext e106
                        have O3 := O3.ext e106
                        have O4 := O4.ext e106
                        have O5 := O5.ext e106
                        have O6 := O6.ext e106
                        have O7 := O7.ext e106
                        have O8 := O8.ext e106
                        have hB := ethen hB e106
                        refine ⟨r102, rfl, ?_⟩
                        refine bcase_mk (fun hc116 => ?_) (fun hc116 => ?_)
                        · have H := (bcase_iff.1 H).1 hc116
                          obtain rfl := hr.trans H.symm
                          exact ⟨rfl, hB⟩
                        · have H := (bcase_iff.1 H).2 hc116
                          refine bcase_mk (fun hc115 => ?_) (fun hc115 => ?_)
                          · have H := (bcase_iff.1 H).1 hc115
                            obtain rfl := hr.trans H.symm
                            exact ⟨rfl, hB⟩
                          · have H := (bcase_iff.1 H).2 hc115
                            refine bcase_mk (fun hc114 => ?_) (fun hc114 => ?_)
                            · have H := (bcase_iff.1 H).1 hc114
                              obtain rfl := hr.trans H.symm
                              exact ⟨rfl, hB⟩
                            · have H := (bcase_iff.1 H).2 hc114
                              obtain ⟨hp109, H⟩ := H
                              obtain ⟨r107, hr108⟩ : ∃ r_, r_ = M.laws_heldIntS r77.2 1 := ⟨_, rfl⟩
                              have H := H r107 hr108
                              refine (cllArgs (by first | (simp only [List.length_set, hl82]; done) | (simp; done)) (laws_heldIntS.con hp109 hr108 O5.row O5.le)).mono ?_
                              rintro _ w110 ⟨rfl, e111⟩
                              have O2 := O2.ext e111
                              have O3 := O3.ext e111
                              have O4 := O4.ext e111
                              have O5 := O5.ext e111
                              have O6 := O6.ext e111
                              have O7 := O7.ext e111
                              have O8 := O8.ext e111
                              have hB := ethen hB e111
                              refine ⟨r107, rfl, ?_⟩
                              refine bcase_mk (fun hc113 => ?_) (fun hc113 => ?_)
                              · have H := (bcase_iff.1 H).1 hc113
                                obtain rfl := hr.trans H.symm
                                exact ⟨rfl, hB⟩
                              · have H := (bcase_iff.1 H).2 hc113
                                refine bcase_mk (fun hc112 => ?_) (fun hc112 => ?_)
                                · have H := (bcase_iff.1 H).1 hc112
                                  obtain rfl := hr.trans H.symm
                                  exact ⟨rfl, hB⟩
                                · have H := (bcase_iff.1 H).2 hc112
                                  obtain rfl := hr.trans H.symm
                                  exact ⟨rfl, hB⟩

end Go.V
