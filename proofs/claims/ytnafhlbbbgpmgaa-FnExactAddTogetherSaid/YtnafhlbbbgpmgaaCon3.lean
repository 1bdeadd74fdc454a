import Derived.Test.YtnafhlbbbgpmgaaMath3
import Derived.Test.YtnafhlbbbgpmgaaSeat
import Derived.Test.YtnafhlbbbgpmgaaCon2
namespace Go.V
open Go.Proofs
set_option linter.unusedVariables false
set_option linter.unusedSimpArgs false
set_option maxRecDepth 100000

def spec_ValuesOk.vc (A0 : Option Addr) (n0 : Nat) (c0 : Nat) (w : World) (K : Value → World → Prop) : Prop :=
  bcase (((n0 : Nat) : Int) == 8) (Cll Try.prog 114 #[(.slice A0 n0 c0)] w fun v1 w2 => (∃ (b3 : Bool), v1 = (.bool b3) ∧ K (.bool b3) w2)) (K (.bool false) w)

def spec_ValuesOk.ann : Ann := (.seq .l (.seq .l .l))

theorem spec_ValuesOk.vc_eq (A0 : Option Addr) (n0 : Nat) (c0 : Nat) (w : World) (K : Value → World → Prop) : vcF Try.prog Try.f67 spec_ValuesOk.ann [(.slice A0 n0 c0)] K w = spec_ValuesOk.vc A0 n0 c0 w K := by kernel_rfl

theorem spec_ValuesOk.start {A0 : Option Addr} {n0 : Nat} {c0 : Nat} {w : World} {K : Value → World → Prop} (h : spec_ValuesOk.vc A0 n0 c0 w K) : Cll Try.prog 67 #[(.slice A0 n0 c0)] w K :=
  vcF_sound mixed (fn := Try.f67) (by kernel_rfl) (by kernel_rfl) (an := spec_ValuesOk.ann) (args := [(.slice A0 n0 c0)]) (by rw [spec_ValuesOk.vc_eq]; exact h)

theorem spec_ValuesOk.con {xs0 : List Int} {A0 : Option Addr} {c0 : Nat} {r : Bool} {w : World} (hr : r = M.spec_ValuesOk xs0) (R0 : Row el3 w A0 xs0) (hc0 : xs0.length ≤ c0) :
    Cll Try.prog 67 #[(.slice A0 xs0.length c0)] w (fun v_ w_ => v_ = (.bool r) ∧ Ext w w_) := by
  have H := wp.spec_ValuesOk.math xs0
  have hB := Ext.refl w
  refine spec_ValuesOk.start ?_
  unfold spec_ValuesOk.vc
  unfold wp.spec_ValuesOk at H
  refine bcase_mk (fun hc6 => ?_) (fun hc6 => ?_)
  · have H := (bcase_iff.1 H).1 hc6
    obtain ⟨hp3, H⟩ := H
    obtain ⟨r1, hr2⟩ : ∃ r_, r_ = M.spec_AreWords xs0 := ⟨_, rfl⟩
    have H := H r1 hr2
    refine (spec_AreWords.con hp3 hr2 (R0.ext hB) hc0).mono ?_
    rintro _ w4 ⟨rfl, e5⟩
    have hB := ethen hB e5
    refine ⟨r1, rfl, ?_⟩
    obtain rfl := hr.trans H.symm
    exact ⟨rfl, hB⟩
  · have H := (bcase_iff.1 H).2 hc6
    obtain rfl := hr.trans H.symm
    exact ⟨rfl, hB⟩

def spec_MaskOf.vc (A0 : Option Addr) (n0 : Nat) (c0 : Nat) (w : World) (K : Value → World → Prop) : Prop :=
  LoopT (σ := Int × Int × Unit) (fun z1 w2 next3 => bcase (decide (z1.2.1 < ((n0 : Nat) : Int))) (((0 : Int) ≤ z1.2.1 ∧ z1.2.1 < ((n0 : Nat) : Int) ∧ ∃ a4 : Addr, A0 = some a4 ∧ ∃ (n5 : Int), w2.cell? ((a4.add ((z1.2.1.toNat) * 1)).add 0) = some (.int .i64 n5) ∧ Cll Try.prog 113 #[(.int .i64 n5), (.int .i64 0), (.int .i64 7)] w2 fun v6 w7 => (∃ (b8 : Bool), v6 = (.bool b8) ∧ bcase (!b8) (K (.tuple #[(.int .i64 0), (.bool false)]) w7) (((0 : Int) ≤ z1.2.1 ∧ z1.2.1 < ((n0 : Nat) : Int) ∧ ∃ a9 : Addr, A0 = some a9 ∧ ∃ (n10 : Int), w7.cell? ((a9.add ((z1.2.1.toNat) * 1)).add 0) = some (.int .i64 n10) ∧ ((0 : Int) ≤ n10 ∧ next3 ((bitOr .i64 z1.1 (IntKind.wrap .i64 (1 * 2 ^ (min (n10.toNat) (IntKind.bits .i64))))), (IntKind.wrap .i64 (z1.2.1 + 1)), ()) w7)))))) (K (.tuple #[(.int .i64 z1.1), (.bool true)]) w2)) (0, 0, ()) w

def spec_MaskOf.ann : Ann := (.seq .l (.seq .l (.seq (.seq .l (.one (.loop [(4, .int .i64), (5, .int .i64)] (.seq (.seq .l (.two .l .l)) (.seq (.one (.seq (.seq .l (.two (.seq .l .l) .l)) .l)) .l))))) (.seq .l .l))))

theorem spec_MaskOf.vc_eq (A0 : Option Addr) (n0 : Nat) (c0 : Nat) (w : World) (K : Value → World → Prop) : vcF Try.prog Try.f164 spec_MaskOf.ann [(.slice A0 n0 c0)] K w = spec_MaskOf.vc A0 n0 c0 w K := by kernel_rfl

theorem spec_MaskOf.start {A0 : Option Addr} {n0 : Nat} {c0 : Nat} {w : World} {K : Value → World → Prop} (h : spec_MaskOf.vc A0 n0 c0 w K) : Cll Try.prog 164 #[(.slice A0 n0 c0)] w K :=
  vcF_sound mixed (fn := Try.f164) (by kernel_rfl) (by kernel_rfl) (an := spec_MaskOf.ann) (args := [(.slice A0 n0 c0)]) (by rw [spec_MaskOf.vc_eq]; exact h)

theorem spec_MaskOf.con {xs0 : List Int} {A0 : Option Addr} {c0 : Nat} {r : Int × Bool} {w : World} (hp : M.spec_MaskOf_pre xs0) (hr : r = M.spec_MaskOf xs0) (R0 : Row el3 w A0 xs0) (hc0 : xs0.length ≤ c0) :
    Cll Try.prog 164 #[(.slice A0 xs0.length c0)] w (fun v_ w_ => v_ = (.tuple #[(.int .i64 r.1), (.bool r.2)]) ∧ Ext w w_) := by
  have H := wp.spec_MaskOf.math xs0 hp
  have hB := Ext.refl w
  refine spec_MaskOf.start ?_
  unfold spec_MaskOf.vc
  unfold wp.spec_MaskOf at H
  obtain ⟨J4, ⟨m31, hJ30⟩, hS5⟩ := H
  refine ⟨fun m_ z_ w_ => ∃ (i1 : Int) (i2 : Int), z_ = (i1, i2, ()) ∧ J4 m_ (i1, i2, ()) ∧ Ext w w_, ⟨m31, 0, 0, rfl, hJ30, hB⟩, ?_⟩
  rintro m3 _ w7 ⟨i1, i2, rfl, hJ32, hB⟩
  have H := hS5 m3 _ hJ32
  clear hS5 hJ32
  dsimp only at H ⊢
  refine bcase_mk (fun hc28 => ?_) (fun hc28 => ?_)
  · have H := (bcase_iff.1 H).1 hc28
    obtain ⟨⟨h0_11, h1_12⟩, H⟩ := H
    obtain ⟨a9, ha10, hat8⟩ := Row.at (R0.ext hB) h0_11 h1_12
    refine ⟨h0_11, h1_12, a9, ha10, ?_⟩
    refine ⟨_, (hat8 0 _ rfl), ?_⟩
    obtain ⟨r13, hr14⟩ : ∃ r_, r_ = M.spec_l01In (rd xs0 i2) 0 7 := ⟨_, rfl⟩
    have H := H r13 hr14
    refine (spec_l01In.con hr14 ).mono ?_
    rintro _ w16 ⟨rfl, e17⟩
    have hB := ethen hB e17
    refine ⟨r13, rfl, ?_⟩
    refine bcase_mk (fun hc27 => ?_) (fun hc27 => ?_)
    · have H := (bcase_iff.1 H).1 hc27
      obtain rfl := hr.trans H.symm
      exact ⟨rfl, hB⟩
    · have H := (bcase_iff.1 H).2 hc27
      obtain ⟨⟨h0_21, h1_22⟩, H⟩ := H
      obtain ⟨a19, ha20, hat18⟩ := Row.at (R0.ext hB) h0_21 h1_22
      refine ⟨h0_21, h1_22, a19, ha20, ?_⟩
      refine ⟨_, (hat18 0 _ rfl), ?_⟩
      obtain ⟨hc23, H⟩ := H
      refine ⟨hc23, ?_⟩
      obtain ⟨m24, hm25, hJ26⟩ := H
      exact ⟨m24, hm25, (bitOr .i64 i1 (IntKind.wrap .i64 (1 * 2 ^ (min ((rd xs0 i2).toNat) (IntKind.bits .i64))))), (IntKind.wrap .i64 (i2 + 1)), rfl, hJ26, hB⟩
  · have H := (bcase_iff.1 H).2 hc28
    obtain rfl := hr.trans H.symm
    exact ⟨rfl, hB⟩

def spec_IsPermutation.vc (A0 : Option Addr) (n0 : Nat) (c0 : Nat) (w : World) (K : Value → World → Prop) : Prop :=
  Cll Try.prog 164 #[(.slice A0 n0 c0)] w fun v1 w2 => (∃ u3 : Value, (∃ (n4 : Int), u3 = (.int .i64 n4) ∧ ∃ u5 : Value, (∃ (b6 : Bool), u5 = (.bool b6) ∧ v1 = (.tuple #[(.int .i64 n4), (.bool b6)]) ∧ bcase b6 (bcase (((n0 : Nat) : Int) == 8) (K (.bool (n4 == 255)) w2) (K (.bool false) w2)) (K (.bool false) w2))))

def spec_IsPermutation.ann : Ann := (.seq .l (.seq .l (.seq .l .l)))

theorem spec_IsPermutation.vc_eq (A0 : Option Addr) (n0 : Nat) (c0 : Nat) (w : World) (K : Value → World → Prop) : vcF Try.prog Try.f119 spec_IsPermutation.ann [(.slice A0 n0 c0)] K w = spec_IsPermutation.vc A0 n0 c0 w K := by kernel_rfl

theorem spec_IsPermutation.start {A0 : Option Addr} {n0 : Nat} {c0 : Nat} {w : World} {K : Value → World → Prop} (h : spec_IsPermutation.vc A0 n0 c0 w K) : Cll Try.prog 119 #[(.slice A0 n0 c0)] w K :=
  vcF_sound mixed (fn := Try.f119) (by kernel_rfl) (by kernel_rfl) (an := spec_IsPermutation.ann) (args := [(.slice A0 n0 c0)]) (by rw [spec_IsPermutation.vc_eq]; exact h)

theorem spec_IsPermutation.con {xs0 : List Int} {A0 : Option Addr} {c0 : Nat} {r : Bool} {w : World} (hp : M.spec_IsPermutation_pre xs0) (hr : r = M.spec_IsPermutation xs0) (R0 : Row el3 w A0 xs0) (hc0 : xs0.length ≤ c0) :
    Cll Try.prog 119 #[(.slice A0 xs0.length c0)] w (fun v_ w_ => v_ = (.bool r) ∧ Ext w w_) := by
  have H := wp.spec_IsPermutation.math xs0 hp
  have hB := Ext.refl w
  refine spec_IsPermutation.start ?_
  unfold spec_IsPermutation.vc
  unfold wp.spec_IsPermutation at H
  obtain ⟨hp3, H⟩ := H
  obtain ⟨r1, hr2⟩ : ∃ r_, r_ = M.spec_MaskOf xs0 := ⟨_, rfl⟩
  have H := H r1 hr2
  refine (spec_MaskOf.con hp3 hr2 (R0.ext hB) hc0).mono ?_
  rintro _ w4 ⟨rfl, e5⟩
  have hB := ethen hB e5
  refine ⟨(.int .i64 r1.1), ?_⟩
  refine ⟨r1.1, rfl, ?_⟩
  refine ⟨(.bool r1.2), ?_⟩
  refine ⟨r1.2, rfl, ?_⟩
  refine ⟨rfl, ?_⟩
  refine bcase_mk (fun hc7 => ?_) (fun hc7 => ?_)
  · have H := (bcase_iff.1 H).1 hc7
    refine bcase_mk (fun hc6 => ?_) (fun hc6 => ?_)
    · have H := (bcase_iff.1 H).1 hc6
      obtain rfl := hr.trans H.symm
      exact ⟨rfl, hB⟩
    · have H := (bcase_iff.1 H).2 hc6
      obtain rfl := hr.trans H.symm
      exact ⟨rfl, hB⟩
  · have H := (bcase_iff.1 H).2 hc7
    obtain rfl := hr.trans H.symm
    exact ⟨rfl, hB⟩

def spec_WrapWord.vc (x0 : Int) (w : World) (K : Value → World → Prop) : Prop :=
  ((65536 : Int) ≠ 0 ∧ ((65536 : Int) ≠ 0 ∧ K (.int .i64 (Int.tmod (IntKind.wrap .i64 ((Int.tmod x0 65536) + 65536)) 65536)) w))

def spec_WrapWord.ann : Ann := (.seq .l (.seq .l .l))

theorem spec_WrapWord.vc_eq (x0 : Int) (w : World) (K : Value → World → Prop) : vcF Try.prog Try.f127 spec_WrapWord.ann [(.int .i64 x0)] K w = spec_WrapWord.vc x0 w K := by kernel_rfl

theorem spec_WrapWord.start {x0 : Int} {w : World} {K : Value → World → Prop} (h : spec_WrapWord.vc x0 w K) : Cll Try.prog 127 #[(.int .i64 x0)] w K :=
  vcF_sound mixed (fn := Try.f127) (by kernel_rfl) (by kernel_rfl) (an := spec_WrapWord.ann) (args := [(.int .i64 x0)]) (by rw [spec_WrapWord.vc_eq]; exact h)

theorem spec_WrapWord.con {x0 : Int} {r : Int} {w : World} (hr : r = M.spec_WrapWord x0)  :
    Cll Try.prog 127 #[(.int .i64 x0)] w (fun v_ w_ => v_ = (.int .i64 r) ∧ Ext w w_) := by
  have H := wp.spec_WrapWord.math x0
  have hB := Ext.refl w
  refine spec_WrapWord.start ?_
  unfold spec_WrapWord.vc
  unfold wp.spec_WrapWord at H
  refine ⟨by decide, ?_⟩
  refine ⟨by decide, ?_⟩
  obtain rfl := hr.trans H.symm
  exact ⟨rfl, hB⟩

def spec_AddWords.vc (x0 : Int) (x1 : Int) (w : World) (K : Value → World → Prop) : Prop :=
  Cll Try.prog 66 #[(.int .i64 x0)] w fun v1 w2 => (∃ (b3 : Bool), v1 = (.bool b3) ∧ bcase (!b3) (K (.int .i64 0) w2) (Cll Try.prog 66 #[(.int .i64 x1)] w2 fun v4 w5 => (∃ (b6 : Bool), v4 = (.bool b6) ∧ bcase (!b6) (K (.int .i64 0) w5) (Cll Try.prog 127 #[(.int .i64 (IntKind.wrap .i64 (x0 + x1)))] w5 fun v7 w8 => (∃ (n9 : Int), v7 = (.int .i64 n9) ∧ K (.int .i64 n9) w8)))))

def spec_AddWords.ann : Ann := (.seq .l (.seq (.seq .l (.two (.seq .l .l) .l)) (.seq .l .l)))

theorem spec_AddWords.vc_eq (x0 : Int) (x1 : Int) (w : World) (K : Value → World → Prop) : vcF Try.prog Try.f69 spec_AddWords.ann [(.int .i64 x0), (.int .i64 x1)] K w = spec_AddWords.vc x0 x1 w K := by kernel_rfl

theorem spec_AddWords.start {x0 : Int} {x1 : Int} {w : World} {K : Value → World → Prop} (h : spec_AddWords.vc x0 x1 w K) : Cll Try.prog 69 #[(.int .i64 x0), (.int .i64 x1)] w K :=
  vcF_sound mixed (fn := Try.f69) (by kernel_rfl) (by kernel_rfl) (an := spec_AddWords.ann) (args := [(.int .i64 x0), (.int .i64 x1)]) (by rw [spec_AddWords.vc_eq]; exact h)

theorem spec_AddWords.con {x0 : Int} {x1 : Int} {r : Int} {w : World} (hr : r = M.spec_AddWords x0 x1)  :
    Cll Try.prog 69 #[(.int .i64 x0), (.int .i64 x1)] w (fun v_ w_ => v_ = (.int .i64 r) ∧ Ext w w_) := by
  have H := wp.spec_AddWords.math x0 x1
  have hB := Ext.refl w
  refine spec_AddWords.start ?_
  unfold spec_AddWords.vc
  unfold wp.spec_AddWords at H
  obtain ⟨r1, hr2⟩ : ∃ r_, r_ = M.spec_IsWord x0 := ⟨_, rfl⟩
  have H := H r1 hr2
  refine (spec_IsWord.con hr2 ).mono ?_
  rintro _ w4 ⟨rfl, e5⟩
  have hB := ethen hB e5
  refine ⟨r1, rfl, ?_⟩
  refine bcase_mk (fun hc17 => ?_) (fun hc17 => ?_)
  · have H := (bcase_iff.1 H).1 hc17
    obtain rfl := hr.trans H.symm
    exact ⟨rfl, hB⟩
  · have H := (bcase_iff.1 H).2 hc17
    obtain ⟨r6, hr7⟩ : ∃ r_, r_ = M.spec_IsWord x1 := ⟨_, rfl⟩
    have H := H r6 hr7
    refine (spec_IsWord.con hr7 ).mono ?_
    rintro _ w9 ⟨rfl, e10⟩
    have hB := ethen hB e10
    refine ⟨r6, rfl, ?_⟩
    refine bcase_mk (fun hc16 => ?_) (fun hc16 => ?_)
    · have H := (bcase_iff.1 H).1 hc16
      obtain rfl := hr.trans H.symm
      exact ⟨rfl, hB⟩
    · have H := (bcase_iff.1 H).2 hc16
      obtain ⟨r11, hr12⟩ : ∃ r_, r_ = M.spec_WrapWord (IntKind.wrap .i64 (x0 + x1)) := ⟨_, rfl⟩
      have H := H r11 hr12
      refine (spec_WrapWord.con hr12 ).mono ?_
      rintro _ w14 ⟨rfl, e15⟩
      have hB := ethen hB e15
      refine ⟨r11, rfl, ?_⟩
      obtain rfl := hr.trans H.symm
      exact ⟨rfl, hB⟩

def spec_AddInOrder.vc (x0 : Int) (A1 : Option Addr) (n1 : Nat) (c1 : Nat) (A2 : Option Addr) (n2 : Nat) (c2 : Nat) (w : World) (K : Value → World → Prop) : Prop :=
  Cll Try.prog 66 #[(.int .i64 x0)] w fun v2 w3 => (∃ (b4 : Bool), v2 = (.bool b4) ∧ bcase (!b4) (Run Try.prog (Instr.buildSlice 39 0 #[]) w3 fun v5 w6 => ∃ (A7 : Option Addr) (n8 c9 : Nat), v5 = .slice A7 n8 c9 ∧ K (.tuple #[(.slice A7 n8 c9), (.int .i64 0), (.bool false)]) w6) (Cll Try.prog 67 #[(.slice A1 n1 c1)] w3 fun v10 w11 => (∃ (b12 : Bool), v10 = (.bool b12) ∧ bcase (!b12) (Run Try.prog (Instr.buildSlice 39 0 #[]) w11 fun v13 w14 => ∃ (A15 : Option Addr) (n16 c17 : Nat), v13 = .slice A15 n16 c17 ∧ K (.tuple #[(.slice A15 n16 c17), (.int .i64 0), (.bool false)]) w14) (Cll Try.prog 119 #[(.slice A2 n2 c2)] w11 fun v18 w19 => (∃ (b20 : Bool), v18 = (.bool b20) ∧ bcase (!b20) (Run Try.prog (Instr.buildSlice 39 0 #[]) w19 fun v21 w22 => ∃ (A23 : Option Addr) (n24 c25 : Nat), v21 = .slice A23 n24 c25 ∧ K (.tuple #[(.slice A23 n24 c25), (.int .i64 0), (.bool false)]) w22) (vcMake Try.prog 39 8 8 w19 fun g26 w27 => LoopT (σ := Int × Int × Unit) (fun z28 w29 next30 => bcase (decide (z28.2.1 < 8)) (((0 : Int) ≤ z28.2.1 ∧ z28.2.1 < ((n2 : Nat) : Int) ∧ ∃ a31 : Addr, A2 = some a31 ∧ ∃ (n32 : Int), w29.cell? ((a31.add ((z28.2.1.toNat) * 1)).add 0) = some (.int .i64 n32) ∧ ((0 : Int) ≤ n32 ∧ n32 < ((((8 : Int).toNat) : Nat) : Int) ∧ ∃ a33 : Addr, (some (⟨g26, 0, none⟩ : Addr)) = some a33 ∧ stCells (a33.add ((n32.toNat) * 1)) [(.int .i64 z28.1)] 0 w29 fun w34 => ((0 : Int) ≤ z28.2.1 ∧ z28.2.1 < ((n2 : Nat) : Int) ∧ ∃ a35 : Addr, A2 = some a35 ∧ ∃ (n36 : Int), w34.cell? ((a35.add ((z28.2.1.toNat) * 1)).add 0) = some (.int .i64 n36) ∧ ((0 : Int) ≤ n36 ∧ n36 < ((n1 : Nat) : Int) ∧ ∃ a37 : Addr, A1 = some a37 ∧ ∃ (n38 : Int), w34.cell? ((a37.add ((n36.toNat) * 1)).add 0) = some (.int .i64 n38) ∧ Cll Try.prog 69 #[(.int .i64 z28.1), (.int .i64 n38)] w34 fun v39 w40 => (∃ (n41 : Int), v39 = (.int .i64 n41) ∧ next30 (n41, (IntKind.wrap .i64 (z28.2.1 + 1)), ()) w40)))))) (K (.tuple #[(.slice (some (⟨g26, 0, none⟩ : Addr)) ((8 : Int).toNat) ((8 : Int).toNat)), (.int .i64 z28.1), (.bool true)]) w29)) (x0, 0, ()) w27))))))

def spec_AddInOrder.ann : Ann := (.seq .l (.seq (.seq .l (.two (.seq .l .l) .l)) (.seq .l (.seq .l (.seq (.seq .l (.one (.loop [(10, .int .i64), (11, .int .i64)] (.seq (.seq .l (.two .l .l)) (.seq (.one (.seq .l .l)) .l))))) (.seq .l .l))))))

theorem spec_AddInOrder.vc_eq (x0 : Int) (A1 : Option Addr) (n1 : Nat) (c1 : Nat) (A2 : Option Addr) (n2 : Nat) (c2 : Nat) (w : World) (K : Value → World → Prop) : vcF Try.prog Try.f63 spec_AddInOrder.ann [(.int .i64 x0), (.slice A1 n1 c1), (.slice A2 n2 c2)] K w = spec_AddInOrder.vc x0 A1 n1 c1 A2 n2 c2 w K := by kernel_rfl

theorem spec_AddInOrder.start {x0 : Int} {A1 : Option Addr} {n1 : Nat} {c1 : Nat} {A2 : Option Addr} {n2 : Nat} {c2 : Nat} {w : World} {K : Value → World → Prop} (h : spec_AddInOrder.vc x0 A1 n1 c1 A2 n2 c2 w K) : Cll Try.prog 63 #[(.int .i64 x0), (.slice A1 n1 c1), (.slice A2 n2 c2)] w K :=
  vcF_sound mixed (fn := Try.f63) (by kernel_rfl) (by kernel_rfl) (an := spec_AddInOrder.ann) (args := [(.int .i64 x0), (.slice A1 n1 c1), (.slice A2 n2 c2)]) (by rw [spec_AddInOrder.vc_eq]; exact h)

theorem spec_AddInOrder.con {x0 : Int} {xs1 : List Int} {A1 : Option Addr} {c1 : Nat} {xs2 : List Int} {A2 : Option Addr} {c2 : Nat} {r : (List Int) × Int × Bool} {w : World} (hp : M.spec_AddInOrder_pre x0 xs1 xs2) (hr : r = M.spec_AddInOrder x0 xs1 xs2) (R1 : Row el3 w A1 xs1) (hc1 : xs1.length ≤ c1) (R2 : Row el3 w A2 xs2) (hc2 : xs2.length ≤ c2) :
    Cll Try.prog 63 #[(.int .i64 x0), (.slice A1 xs1.length c1), (.slice A2 xs2.length c2)] w (fun v_ w_ => ∃ (A0_ : Option Addr) (c0_ : Nat), v_ = (.tuple #[(.slice A0_ r.1.length c0_), (.int .i64 r.2.1), (.bool r.2.2)]) ∧ Own el3 w_ w.heap.size A0_ c0_ r.1 ∧ Ext w w_) := by
  have H := wp.spec_AddInOrder.math x0 xs1 xs2 hp
  have hB := Ext.refl w
  refine spec_AddInOrder.start ?_
  unfold spec_AddInOrder.vc
  unfold wp.spec_AddInOrder at H
  obtain ⟨r1, hr2⟩ : ∃ r_, r_ = M.spec_IsWord x0 := ⟨_, rfl⟩
  have H := H r1 hr2
  refine (spec_IsWord.con hr2 ).mono ?_
  rintro _ w4 ⟨rfl, e5⟩
  have hB := ethen hB e5
  refine ⟨r1, rfl, ?_⟩
  refine bcase_mk (fun hc112 => ?_) (fun hc112 => ?_)
  · have H := (bcase_iff.1 H).1 hc112
    refine buildOwn el3 ([] : List Int) (fun _ => by kernel_rfl) rfl (fun A6 w7 P3 e8 => ?_)
    have O3 := P3.mono hB.size
    have hB := ethen hB e8
    obtain rfl := hr.trans H.symm
    exact ⟨A6, 0, (by first | rfl | (simp; done) | (simp; omega) | (simp [*]; done)), (by first | exact O3 | (simp at O3 ⊢; exact O3)), hB⟩
  · have H := (bcase_iff.1 H).2 hc112
    obtain ⟨r9, hr10⟩ : ∃ r_, r_ = M.spec_ValuesOk xs1 := ⟨_, rfl⟩
    have H := H r9 hr10
    refine (spec_ValuesOk.con hr10 (R1.ext hB) hc1).mono ?_
    rintro _ w12 ⟨rfl, e13⟩
    have hB := ethen hB e13
    refine ⟨r9, rfl, ?_⟩
    refine bcase_mk (fun hc111 => ?_) (fun hc111 => ?_)
    · have H := (bcase_iff.1 H).1 hc111
      refine buildOwn el3 ([] : List Int) (fun _ => by kernel_rfl) rfl (fun A14 w15 P4 e16 => ?_)
      have O4 := P4.mono hB.size
      have hB := ethen hB e16
      obtain rfl := hr.trans H.symm
      exact ⟨A14, 0, (by first | rfl | (simp; done) | (simp; omega) | (simp [*]; done)), (by first | exact O4 | (simp at O4 ⊢; exact O4)), hB⟩
    · have H := (bcase_iff.1 H).2 hc111
      obtain ⟨hp19, H⟩ := H
      obtain ⟨r17, hr18⟩ : ∃ r_, r_ = M.spec_IsPermutation xs2 := ⟨_, rfl⟩
      have H := H r17 hr18
      refine (spec_IsPermutation.con hp19 hr18 (R2.ext hB) hc2).mono ?_
      rintro _ w20 ⟨rfl, e21⟩
      have hB := ethen hB e21
      refine ⟨r17, rfl, ?_⟩
      refine bcase_mk (fun hc110 => ?_) (fun hc110 => ?_)
      · have H := (bcase_iff.1 H).1 hc110
        refine buildOwn el3 ([] : List Int) (fun _ => by kernel_rfl) rfl (fun A22 w23 P5 e24 => ?_)
        have O5 := P5.mono hB.size
        have hB := ethen hB e24
        obtain rfl := hr.trans H.symm
        exact ⟨A22, 0, (by first | rfl | (simp; done) | (simp; omega) | (simp [*]; done)), (by first | exact O5 | (simp at O5 ⊢; exact O5)), hB⟩
      · have H := (bcase_iff.1 H).2 hc110
        obtain ⟨⟨h0_28, h1_29⟩, H⟩ := H
        refine makeOwn slt39 h0_28 h1_29 (fun g25 w26 P6 e27 => ?_)
        have O6 := P6.mono hB.size
        have hB := ethen hB e27
        obtain ⟨J70, ⟨m108, hJ107⟩, hS71⟩ := H
        refine ⟨fun m_ z_ w_ => ∃ (i65 : Int) (i66 : Int) (xs67 : List Int), z_ = (i65, i66, ()) ∧ J70 m_ (i65, i66, xs67, ()) ∧ Ext w w_ ∧ Own el3 w_ w.heap.size (some (⟨g25, 0, none⟩ : Addr)) ((8 : Int).toNat) xs67 ∧ ((8 : Int).toNat) = xs67.length, ⟨m108, x0, 0, (List.replicate ((8 : Int).toNat) (default : Int)), rfl, hJ107, hB, O6, (by first | rfl | assumption | (simp; done) | (simp; omega) | (simp; assumption))⟩, ?_⟩
        rintro m69 _ w73 ⟨i65, i66, xs67, rfl, hJ109, hB, O6, hn68⟩
        have H := hS71 m69 _ hJ109
        clear hS71 hJ109
        dsimp only at H ⊢
        refine bcase_mk (fun hc105 => ?_) (fun hc105 => ?_)
        · have H := (bcase_iff.1 H).1 hc105
          obtain ⟨⟨h0_77, h1_78⟩, H⟩ := H
          obtain ⟨a75, ha76, hat74⟩ := Row.at (R2.ext hB) h0_77 h1_78
          refine ⟨h0_77, h1_78, a75, ha76, ?_⟩
          refine ⟨_, (hat74 0 _ rfl), ?_⟩
          obtain ⟨⟨h0_82, h1_83⟩, H⟩ := H
          obtain ⟨a80, ha81, hat79⟩ := Row.at O6.row h0_82 h1_83
          refine ⟨h0_82, (by first | exact h1_83 | omega | (simp at h1_83 ⊢; omega)), a80, ha81, ?_⟩
          refine Own.storeAt O6 ha81 h0_82 h1_83 0 [(.int .i64 i65)] i65 rfl (Nat.le_of_ble_eq_true rfl) rfl (fun w84 O6 e85 hb86 => ?_)
          have hB := echg hB e85 hb86
          obtain ⟨⟨h0_90, h1_91⟩, H⟩ := H
          obtain ⟨a88, ha89, hat87⟩ := Row.at (R2.ext hB) h0_90 h1_91
          refine ⟨h0_90, h1_91, a88, ha89, ?_⟩
          refine ⟨_, (hat87 0 _ rfl), ?_⟩
          obtain ⟨⟨h0_95, h1_96⟩, H⟩ := H
          obtain ⟨a93, ha94, hat92⟩ := Row.at (R1.ext hB) h0_95 h1_96
          refine ⟨h0_95, h1_96, a93, ha94, ?_⟩
          refine ⟨_, (hat92 0 _ rfl), ?_⟩
          obtain ⟨r97, hr98⟩ : ∃ r_, r_ = M.spec_AddWords i65 (rd xs1 (rd xs2 i66)) := ⟨_, rfl⟩
          have H := H r97 hr98
          refine (spec_AddWords.con hr98 ).mono ?_
          rintro _ w100 ⟨rfl, e101⟩
          have O6 := O6.ext e101
          have hB := ethen hB e101
          refine ⟨r97, rfl, ?_⟩
          obtain ⟨m102, hm103, hJ104⟩ := H
          exact ⟨m102, hm103, r97, (IntKind.wrap .i64 (i66 + 1)), (List.set xs67 ((rd xs2 i66).toNat) i65), rfl, hJ104, hB, O6, (by first | rfl | assumption | (simp; done) | (simp; omega) | (simp; assumption))⟩
        · have H := (bcase_iff.1 H).2 hc105
          obtain rfl := hr.trans H.symm
          exact ⟨(some (⟨g25, 0, none⟩ : Addr)), ((8 : Int).toNat), (by first | rfl | (simp; done) | (simp; omega) | (simp [*]; done)), (by first | exact O6 | (simp at O6 ⊢; exact O6)), hB⟩

def slices_IndexFunc_int_int.vc (A0 : Option Addr) (n0 : Nat) (c0 : Nat) (f1 : Nat) (cap1 : Array Value) (w : World) (K : Value → World → Prop) : Prop :=
  LoopT (σ := Int × Unit) (fun z1 w2 next3 => bcase (decide (z1.1 < ((n0 : Nat) : Int))) (((0 : Int) ≤ z1.1 ∧ z1.1 < ((n0 : Nat) : Int) ∧ ∃ a4 : Addr, A0 = some a4 ∧ ∃ (n5 : Int), w2.cell? ((a4.add ((z1.1.toNat) * 1)).add 0) = some (.int .i64 n5) ∧ Cll Try.prog f1 (#[(.int .i64 n5)] ++ cap1) w2 fun v6 w7 => (∃ (b8 : Bool), v6 = (.bool b8) ∧ bcase b8 (K (.int .i64 z1.1) w7) (next3 ((IntKind.wrap .i64 (z1.1 + 1)), ()) w7)))) (K (.int .i64 (-1)) w2)) (0, ()) w

def slices_IndexFunc_int_int.ann : Ann := (.seq .l (.seq (.seq .l (.one (.loop [(8, .int .i64)] (.seq .l (.seq (.two .l .l) (.seq (.one (.seq .l (.seq .l (.two (.seq .l .l) .l)))) .l)))))) (.seq .l .l)))

theorem slices_IndexFunc_int_int.vc_eq (A0 : Option Addr) (n0 : Nat) (c0 : Nat) (f1 : Nat) (cap1 : Array Value) (w : World) (K : Value → World → Prop) : vcF Try.prog Try.f202 slices_IndexFunc_int_int.ann [(.slice A0 n0 c0), (.func (.func f1) #[] cap1)] K w = slices_IndexFunc_int_int.vc A0 n0 c0 f1 cap1 w K := by kernel_rfl

theorem slices_IndexFunc_int_int.start {A0 : Option Addr} {n0 : Nat} {c0 : Nat} {f1 : Nat} {cap1 : Array Value} {w : World} {K : Value → World → Prop} (h : slices_IndexFunc_int_int.vc A0 n0 c0 f1 cap1 w K) : Cll Try.prog 202 #[(.slice A0 n0 c0), (.func (.func f1) #[] cap1)] w K :=
  vcF_sound mixed (fn := Try.f202) (by kernel_rfl) (by kernel_rfl) (an := slices_IndexFunc_int_int.ann) (args := [(.slice A0 n0 c0), (.func (.func f1) #[] cap1)]) (by rw [slices_IndexFunc_int_int.vc_eq]; exact h)

theorem slices_IndexFunc_int_int.con {xs0 : List Int} {A0 : Option Addr} {c0 : Nat} {f1 : Nat} {cap1 : Array Value} {g1 : Int → Bool} {D1 : Int → Prop} {r : Int} {w : World} (hp : M.slices_IndexFunc_int_int_pre xs0 g1 D1) (hr : r = M.slices_IndexFunc_int_int xs0 g1) (R0 : Row el3 w A0 xs0) (hc0 : xs0.length ≤ c0) (F1 : ∀ (z0_ : Int), D1 z0_ → ∀ w_ : World, Ext w w_ → Cll Try.prog f1 (#[(.int .i64 z0_)] ++ cap1) w_ (fun v_ w1_ => v_ = (.bool (g1 z0_)) ∧ Ext w_ w1_)) :
    Cll Try.prog 202 #[(.slice A0 xs0.length c0), (.func (.func f1) #[] cap1)] w (fun v_ w_ => v_ = (.int .i64 r) ∧ Ext w w_) := by
  have H := wp.slices_IndexFunc_int_int.math xs0 g1 D1 hp
  have hB := Ext.refl w
  refine slices_IndexFunc_int_int.start ?_
  unfold slices_IndexFunc_int_int.vc
  unfold wp.slices_IndexFunc_int_int at H
  obtain ⟨J3, ⟨m24, hJ23⟩, hS4⟩ := H
  refine ⟨fun m_ z_ w_ => ∃ (i1 : Int), z_ = (i1, ()) ∧ J3 m_ (i1, ()) ∧ Ext w w_, ⟨m24, 0, rfl, hJ23, hB⟩, ?_⟩
  rintro m2 _ w6 ⟨i1, rfl, hJ25, hB⟩
  have H := hS4 m2 _ hJ25
  clear hS4 hJ25
  dsimp only at H ⊢
  refine bcase_mk (fun hc21 => ?_) (fun hc21 => ?_)
  · have H := (bcase_iff.1 H).1 hc21
    obtain ⟨⟨h0_10, h1_11⟩, H⟩ := H
    obtain ⟨a8, ha9, hat7⟩ := Row.at (R0.ext hB) h0_10 h1_11
    refine ⟨h0_10, h1_11, a8, ha9, ?_⟩
    refine ⟨_, (hat7 0 _ rfl), ?_⟩
    obtain ⟨hd14, H⟩ := H
    obtain ⟨r12, hr13⟩ : ∃ r_, r_ = g1 (rd xs0 i1) := ⟨_, rfl⟩
    have H := H r12 hr13
    refine (F1 (rd xs0 i1) hd14 _ hB).mono ?_
    rintro _ w15 ⟨rfl, e16⟩
    rw [← hr13]
    have hB := ethen hB e16
    refine ⟨r12, rfl, ?_⟩
    refine bcase_mk (fun hc20 => ?_) (fun hc20 => ?_)
    · have H := (bcase_iff.1 H).1 hc20
      obtain rfl := hr.trans H.symm
      exact ⟨rfl, hB⟩
    · have H := (bcase_iff.1 H).2 hc20
      obtain ⟨m17, hm18, hJ19⟩ := H
      exact ⟨m17, hm18, (IntKind.wrap .i64 (i1 + 1)), rfl, hJ19, hB⟩
  · have H := (bcase_iff.1 H).2 hc21
    obtain rfl := hr.trans H.symm
    exact ⟨rfl, hB⟩

def slices_ContainsFunc_int_int.vc (A0 : Option Addr) (n0 : Nat) (c0 : Nat) (f1 : Nat) (cap1 : Array Value) (w : World) (K : Value → World → Prop) : Prop :=
  Cll Try.prog 202 #[(.slice A0 n0 c0), (.func (.func f1) #[] cap1)] w fun v1 w2 => (∃ (n3 : Int), v1 = (.int .i64 n3) ∧ K (.bool (decide (n3 ≥ 0))) w2)

def slices_ContainsFunc_int_int.ann : Ann := (.seq .l (.seq .l .l))

theorem slices_ContainsFunc_int_int.vc_eq (A0 : Option Addr) (n0 : Nat) (c0 : Nat) (f1 : Nat) (cap1 : Array Value) (w : World) (K : Value → World → Prop) : vcF Try.prog Try.f183 slices_ContainsFunc_int_int.ann [(.slice A0 n0 c0), (.func (.func f1) #[] cap1)] K w = slices_ContainsFunc_int_int.vc A0 n0 c0 f1 cap1 w K := by kernel_rfl

theorem slices_ContainsFunc_int_int.start {A0 : Option Addr} {n0 : Nat} {c0 : Nat} {f1 : Nat} {cap1 : Array Value} {w : World} {K : Value → World → Prop} (h : slices_ContainsFunc_int_int.vc A0 n0 c0 f1 cap1 w K) : Cll Try.prog 183 #[(.slice A0 n0 c0), (.func (.func f1) #[] cap1)] w K :=
  vcF_sound mixed (fn := Try.f183) (by kernel_rfl) (by kernel_rfl) (an := slices_ContainsFunc_int_int.ann) (args := [(.slice A0 n0 c0), (.func (.func f1) #[] cap1)]) (by rw [slices_ContainsFunc_int_int.vc_eq]; exact h)

theorem slices_ContainsFunc_int_int.con {xs0 : List Int} {A0 : Option Addr} {c0 : Nat} {f1 : Nat} {cap1 : Array Value} {g1 : Int → Bool} {D1 : Int → Prop} {r : Bool} {w : World} (hp : M.slices_ContainsFunc_int_int_pre xs0 g1 D1) (hr : r = M.slices_ContainsFunc_int_int xs0 g1) (R0 : Row el3 w A0 xs0) (hc0 : xs0.length ≤ c0) (F1 : ∀ (z0_ : Int), D1 z0_ → ∀ w_ : World, Ext w w_ → Cll Try.prog f1 (#[(.int .i64 z0_)] ++ cap1) w_ (fun v_ w1_ => v_ = (.bool (g1 z0_)) ∧ Ext w_ w1_)) :
    Cll Try.prog 183 #[(.slice A0 xs0.length c0), (.func (.func f1) #[] cap1)] w (fun v_ w_ => v_ = (.bool r) ∧ Ext w w_) := by
  have H := wp.slices_ContainsFunc_int_int.math xs0 g1 D1 hp
  have hB := Ext.refl w
  refine slices_ContainsFunc_int_int.start ?_
  unfold slices_ContainsFunc_int_int.vc
  unfold wp.slices_ContainsFunc_int_int at H
  obtain ⟨hp3, H⟩ := H
  obtain ⟨r1, hr2⟩ : ∃ r_, r_ = M.slices_IndexFunc_int_int xs0 g1 := ⟨_, rfl⟩
  have H := H r1 hr2
  refine (slices_IndexFunc_int_int.con hp3 hr2 (R0.ext hB) hc0 (fun z0_ h_ w_ e_ => F1 z0_ h_ w_ (ethen hB e_))).mono ?_
  rintro _ w4 ⟨rfl, e5⟩
  have hB := ethen hB e5
  refine ⟨r1, rfl, ?_⟩
  obtain rfl := hr.trans H.symm
  exact ⟨rfl, hB⟩

def impl_AreWords_1.vc (x0 : Int) (w : World) (K : Value → World → Prop) : Prop :=
  Cll Try.prog 120 #[(.int .i64 x0)] w fun v1 w2 => (∃ (b3 : Bool), v1 = (.bool b3) ∧ K (.bool (!b3)) w2)

def impl_AreWords_1.ann : Ann := (.seq .l (.seq .l .l))

theorem impl_AreWords_1.vc_eq (x0 : Int) (w : World) (K : Value → World → Prop) : vcF Try.prog Try.f184 impl_AreWords_1.ann [(.int .i64 x0)] K w = impl_AreWords_1.vc x0 w K := by kernel_rfl

theorem impl_AreWords_1.start {x0 : Int} {w : World} {K : Value → World → Prop} (h : impl_AreWords_1.vc x0 w K) : Cll Try.prog 184 #[(.int .i64 x0)] w K :=
  vcF_sound mixed (fn := Try.f184) (by kernel_rfl) (by kernel_rfl) (an := impl_AreWords_1.ann) (args := [(.int .i64 x0)]) (by rw [impl_AreWords_1.vc_eq]; exact h)

theorem impl_AreWords_1.con {x0 : Int} {r : Bool} {w : World} (hr : r = M.impl_AreWords_1 x0)  :
    Cll Try.prog 184 #[(.int .i64 x0)] w (fun v_ w_ => v_ = (.bool r) ∧ Ext w w_) := by
  have H := wp.impl_AreWords_1.math x0
  have hB := Ext.refl w
  refine impl_AreWords_1.start ?_
  unfold impl_AreWords_1.vc
  unfold wp.impl_AreWords_1 at H
  obtain ⟨r1, hr2⟩ : ∃ r_, r_ = M.impl_IsWord x0 := ⟨_, rfl⟩
  have H := H r1 hr2
  refine (impl_IsWord.con hr2 ).mono ?_
  rintro _ w4 ⟨rfl, e5⟩
  have hB := ethen hB e5
  refine ⟨r1, rfl, ?_⟩
  obtain rfl := hr.trans H.symm
  exact ⟨rfl, hB⟩

def impl_AreWords.vc (A0 : Option Addr) (n0 : Nat) (c0 : Nat) (w : World) (K : Value → World → Prop) : Prop :=
  Cll Try.prog 183 #[(.slice A0 n0 c0), (.func (.func 184) #[] #[])] w fun v1 w2 => (∃ (b3 : Bool), v1 = (.bool b3) ∧ K (.bool (!b3)) w2)

def impl_AreWords.ann : Ann := (.seq .l (.seq .l .l))

theorem impl_AreWords.vc_eq (A0 : Option Addr) (n0 : Nat) (c0 : Nat) (w : World) (K : Value → World → Prop) : vcF Try.prog Try.f150 impl_AreWords.ann [(.slice A0 n0 c0)] K w = impl_AreWords.vc A0 n0 c0 w K := by kernel_rfl

theorem impl_AreWords.start {A0 : Option Addr} {n0 : Nat} {c0 : Nat} {w : World} {K : Value → World → Prop} (h : impl_AreWords.vc A0 n0 c0 w K) : Cll Try.prog 150 #[(.slice A0 n0 c0)] w K :=
  vcF_sound mixed (fn := Try.f150) (by kernel_rfl) (by kernel_rfl) (an := impl_AreWords.ann) (args := [(.slice A0 n0 c0)]) (by rw [impl_AreWords.vc_eq]; exact h)

theorem impl_AreWords.con {xs0 : List Int} {A0 : Option Addr} {c0 : Nat} {r : Bool} {w : World} (hp : M.impl_AreWords_pre xs0) (hr : r = M.impl_AreWords xs0) (R0 : Row el3 w A0 xs0) (hc0 : xs0.length ≤ c0) :
    Cll Try.prog 150 #[(.slice A0 xs0.length c0)] w (fun v_ w_ => v_ = (.bool r) ∧ Ext w w_) := by
  have H := wp.impl_AreWords.math xs0 hp
  have hB := Ext.refl w
  refine impl_AreWords.start ?_
  unfold impl_AreWords.vc
  unfold wp.impl_AreWords at H
  obtain ⟨hp3, H⟩ := H
  obtain ⟨r1, hr2⟩ : ∃ r_, r_ = M.slices_ContainsFunc_int_int xs0 (fun z0_ => M.impl_AreWords_1 z0_) := ⟨_, rfl⟩
  have H := H r1 hr2
  refine (slices_ContainsFunc_int_int.con hp3 hr2 (R0.ext hB) hc0 (fun z0_ h_ w_ e_ => cllApp (l1 := [_]) (l2 := []) (impl_AreWords_1.con rfl))).mono ?_
  rintro _ w4 ⟨rfl, e5⟩
  have hB := ethen hB e5
  refine ⟨r1, rfl, ?_⟩
  obtain rfl := hr.trans H.symm
  exact ⟨rfl, hB⟩

def impl_ValuesOk.vc (A0 : Option Addr) (n0 : Nat) (c0 : Nat) (w : World) (K : Value → World → Prop) : Prop :=
  bcase (((n0 : Nat) : Int) == 8) (Cll Try.prog 150 #[(.slice A0 n0 c0)] w fun v1 w2 => (∃ (b3 : Bool), v1 = (.bool b3) ∧ K (.bool b3) w2)) (K (.bool false) w)

def impl_ValuesOk.ann : Ann := (.seq .l (.seq .l .l))

theorem impl_ValuesOk.vc_eq (A0 : Option Addr) (n0 : Nat) (c0 : Nat) (w : World) (K : Value → World → Prop) : vcF Try.prog Try.f121 impl_ValuesOk.ann [(.slice A0 n0 c0)] K w = impl_ValuesOk.vc A0 n0 c0 w K := by kernel_rfl

theorem impl_ValuesOk.start {A0 : Option Addr} {n0 : Nat} {c0 : Nat} {w : World} {K : Value → World → Prop} (h : impl_ValuesOk.vc A0 n0 c0 w K) : Cll Try.prog 121 #[(.slice A0 n0 c0)] w K :=
  vcF_sound mixed (fn := Try.f121) (by kernel_rfl) (by kernel_rfl) (an := impl_ValuesOk.ann) (args := [(.slice A0 n0 c0)]) (by rw [impl_ValuesOk.vc_eq]; exact h)

theorem impl_ValuesOk.con {xs0 : List Int} {A0 : Option Addr} {c0 : Nat} {r : Bool} {w : World} (hr : r = M.impl_ValuesOk xs0) (R0 : Row el3 w A0 xs0) (hc0 : xs0.length ≤ c0) :
    Cll Try.prog 121 #[(.slice A0 xs0.length c0)] w (fun v_ w_ => v_ = (.bool r) ∧ Ext w w_) := by
  have H := wp.impl_ValuesOk.math xs0
  have hB := Ext.refl w
  refine impl_ValuesOk.start ?_
  unfold impl_ValuesOk.vc
  unfold wp.impl_ValuesOk at H
  refine bcase_mk (fun hc6 => ?_) (fun hc6 => ?_)
  · have H := (bcase_iff.1 H).1 hc6
    obtain ⟨hp3, H⟩ := H
    obtain ⟨r1, hr2⟩ : ∃ r_, r_ = M.impl_AreWords xs0 := ⟨_, rfl⟩
    have H := H r1 hr2
    refine (impl_AreWords.con hp3 hr2 (R0.ext hB) hc0).mono ?_
    rintro _ w4 ⟨rfl, e5⟩
    have hB := ethen hB e5
    refine ⟨r1, rfl, ?_⟩
    obtain rfl := hr.trans H.symm
    exact ⟨rfl, hB⟩
  · have H := (bcase_iff.1 H).2 hc6
    obtain rfl := hr.trans H.symm
    exact ⟨rfl, hB⟩

def impl_MaskOf.vc (A0 : Option Addr) (n0 : Nat) (c0 : Nat) (w : World) (K : Value → World → Prop) : Prop :=
  LoopT (σ := Int × Int × Unit) (fun z1 w2 next3 => bcase (decide (z1.2.1 < ((n0 : Nat) : Int))) (((0 : Int) ≤ z1.2.1 ∧ z1.2.1 < ((n0 : Nat) : Int) ∧ ∃ a4 : Addr, A0 = some a4 ∧ ∃ (n5 : Int), w2.cell? ((a4.add ((z1.2.1.toNat) * 1)).add 0) = some (.int .i64 n5) ∧ Cll Try.prog 193 #[(.int .i64 n5)] w2 fun v6 w7 => (∃ (b8 : Bool), v6 = (.bool b8) ∧ bcase (!b8) (K (.tuple #[(.int .i64 0), (.bool false)]) w7) (((0 : Int) ≤ n5 ∧ next3 ((bitOr .i64 z1.1 (IntKind.wrap .i64 (1 * 2 ^ (min (n5.toNat) (IntKind.bits .i64))))), (IntKind.wrap .i64 (z1.2.1 + 1)), ()) w7))))) (K (.tuple #[(.int .i64 z1.1), (.bool true)]) w2)) (0, 0, ()) w

def impl_MaskOf.ann : Ann := (.seq .l (.seq .l (.seq (.seq .l (.one (.loop [(4, .int .i64), (9, .int .i64)] (.seq .l (.seq (.two .l .l) (.seq (.one (.seq .l (.seq (.seq .l (.two (.seq .l .l) .l)) .l))) .l)))))) (.seq .l .l))))

theorem impl_MaskOf.vc_eq (A0 : Option Addr) (n0 : Nat) (c0 : Nat) (w : World) (K : Value → World → Prop) : vcF Try.prog Try.f165 impl_MaskOf.ann [(.slice A0 n0 c0)] K w = impl_MaskOf.vc A0 n0 c0 w K := by kernel_rfl

theorem impl_MaskOf.start {A0 : Option Addr} {n0 : Nat} {c0 : Nat} {w : World} {K : Value → World → Prop} (h : impl_MaskOf.vc A0 n0 c0 w K) : Cll Try.prog 165 #[(.slice A0 n0 c0)] w K :=
  vcF_sound mixed (fn := Try.f165) (by kernel_rfl) (by kernel_rfl) (an := impl_MaskOf.ann) (args := [(.slice A0 n0 c0)]) (by rw [impl_MaskOf.vc_eq]; exact h)

theorem impl_MaskOf.con {xs0 : List Int} {A0 : Option Addr} {c0 : Nat} {r : Int × Bool} {w : World} (hp : M.impl_MaskOf_pre xs0) (hr : r = M.impl_MaskOf xs0) (R0 : Row el3 w A0 xs0) (hc0 : xs0.length ≤ c0) :
    Cll Try.prog 165 #[(.slice A0 xs0.length c0)] w (fun v_ w_ => v_ = (.tuple #[(.int .i64 r.1), (.bool r.2)]) ∧ Ext w w_) := by
  have H := wp.impl_MaskOf.math xs0 hp
  have hB := Ext.refl w
  refine impl_MaskOf.start ?_
  unfold impl_MaskOf.vc
  unfold wp.impl_MaskOf at H
  obtain ⟨J4, ⟨m26, hJ25⟩, hS5⟩ := H
  refine ⟨fun m_ z_ w_ => ∃ (i1 : Int) (i2 : Int), z_ = (i1, i2, ()) ∧ J4 m_ (i1, i2, ()) ∧ Ext w w_, ⟨m26, 0, 0, rfl, hJ25, hB⟩, ?_⟩
  rintro m3 _ w7 ⟨i1, i2, rfl, hJ27, hB⟩
  have H := hS5 m3 _ hJ27
  clear hS5 hJ27
  dsimp only at H ⊢
  refine bcase_mk (fun hc23 => ?_) (fun hc23 => ?_)
  · have H := (bcase_iff.1 H).1 hc23
    obtain ⟨⟨h0_11, h1_12⟩, H⟩ := H
    obtain ⟨a9, ha10, hat8⟩ := Row.at (R0.ext hB) h0_11 h1_12
    refine ⟨h0_11, h1_12, a9, ha10, ?_⟩
    refine ⟨_, (hat8 0 _ rfl), ?_⟩
    obtain ⟨r13, hr14⟩ : ∃ r_, r_ = M.impl_isLane (rd xs0 i2) := ⟨_, rfl⟩
    have H := H r13 hr14
    refine (impl_isLane.con hr14 ).mono ?_
    rintro _ w16 ⟨rfl, e17⟩
    have hB := ethen hB e17
    refine ⟨r13, rfl, ?_⟩
    refine bcase_mk (fun hc22 => ?_) (fun hc22 => ?_)
    · have H := (bcase_iff.1 H).1 hc22
      obtain rfl := hr.trans H.symm
      exact ⟨rfl, hB⟩
    · have H := (bcase_iff.1 H).2 hc22
      obtain ⟨hc18, H⟩ := H
      refine ⟨hc18, ?_⟩
      obtain ⟨m19, hm20, hJ21⟩ := H
      exact ⟨m19, hm20, (bitOr .i64 i1 (IntKind.wrap .i64 (1 * 2 ^ (min ((rd xs0 i2).toNat) (IntKind.bits .i64))))), (IntKind.wrap .i64 (i2 + 1)), rfl, hJ21, hB⟩
  · have H := (bcase_iff.1 H).2 hc23
    obtain rfl := hr.trans H.symm
    exact ⟨rfl, hB⟩

def impl_IsPermutation.vc (A0 : Option Addr) (n0 : Nat) (c0 : Nat) (w : World) (K : Value → World → Prop) : Prop :=
  Cll Try.prog 165 #[(.slice A0 n0 c0)] w fun v1 w2 => (∃ u3 : Value, (∃ (n4 : Int), u3 = (.int .i64 n4) ∧ ∃ u5 : Value, (∃ (b6 : Bool), u5 = (.bool b6) ∧ v1 = (.tuple #[(.int .i64 n4), (.bool b6)]) ∧ bcase b6 (bcase (((n0 : Nat) : Int) == 8) (K (.bool (n4 == 255)) w2) (K (.bool false) w2)) (K (.bool false) w2))))

def impl_IsPermutation.ann : Ann := (.seq .l (.seq .l (.seq .l .l)))

theorem impl_IsPermutation.vc_eq (A0 : Option Addr) (n0 : Nat) (c0 : Nat) (w : World) (K : Value → World → Prop) : vcF Try.prog Try.f122 impl_IsPermutation.ann [(.slice A0 n0 c0)] K w = impl_IsPermutation.vc A0 n0 c0 w K := by kernel_rfl

theorem impl_IsPermutation.start {A0 : Option Addr} {n0 : Nat} {c0 : Nat} {w : World} {K : Value → World → Prop} (h : impl_IsPermutation.vc A0 n0 c0 w K) : Cll Try.prog 122 #[(.slice A0 n0 c0)] w K :=
  vcF_sound mixed (fn := Try.f122) (by kernel_rfl) (by kernel_rfl) (an := impl_IsPermutation.ann) (args := [(.slice A0 n0 c0)]) (by rw [impl_IsPermutation.vc_eq]; exact h)

theorem impl_IsPermutation.con {xs0 : List Int} {A0 : Option Addr} {c0 : Nat} {r : Bool} {w : World} (hp : M.impl_IsPermutation_pre xs0) (hr : r = M.impl_IsPermutation xs0) (R0 : Row el3 w A0 xs0) (hc0 : xs0.length ≤ c0) :
    Cll Try.prog 122 #[(.slice A0 xs0.length c0)] w (fun v_ w_ => v_ = (.bool r) ∧ Ext w w_) := by
  have H := wp.impl_IsPermutation.math xs0 hp
  have hB := Ext.refl w
  refine impl_IsPermutation.start ?_
  unfold impl_IsPermutation.vc
  unfold wp.impl_IsPermutation at H
  obtain ⟨hp3, H⟩ := H
  obtain ⟨r1, hr2⟩ : ∃ r_, r_ = M.impl_MaskOf xs0 := ⟨_, rfl⟩
  have H := H r1 hr2
  refine (impl_MaskOf.con hp3 hr2 (R0.ext hB) hc0).mono ?_
  rintro _ w4 ⟨rfl, e5⟩
  have hB := ethen hB e5
  refine ⟨(.int .i64 r1.1), ?_⟩
  refine ⟨r1.1, rfl, ?_⟩
  refine ⟨(.bool r1.2), ?_⟩
  refine ⟨r1.2, rfl, ?_⟩
  refine ⟨rfl, ?_⟩
  refine bcase_mk (fun hc7 => ?_) (fun hc7 => ?_)
  · have H := (bcase_iff.1 H).1 hc7
    refine bcase_mk (fun hc6 => ?_) (fun hc6 => ?_)
    · have H := (bcase_iff.1 H).1 hc6
      obtain rfl := hr.trans H.symm
      exact ⟨rfl, hB⟩
    · have H := (bcase_iff.1 H).2 hc6
      obtain rfl := hr.trans H.symm
      exact ⟨rfl, hB⟩
  · have H := (bcase_iff.1 H).2 hc7
    obtain rfl := hr.trans H.symm
    exact ⟨rfl, hB⟩

def impl_WrapWord.vc (x0 : Int) (w : World) (K : Value → World → Prop) : Prop :=
  K (.int .i64 (bitAnd .i64 x0 65535)) w

def impl_WrapWord.ann : Ann := (.seq .l (.seq .l .l))

theorem impl_WrapWord.vc_eq (x0 : Int) (w : World) (K : Value → World → Prop) : vcF Try.prog Try.f194 impl_WrapWord.ann [(.int .i64 x0)] K w = impl_WrapWord.vc x0 w K := by kernel_rfl

theorem impl_WrapWord.start {x0 : Int} {w : World} {K : Value → World → Prop} (h : impl_WrapWord.vc x0 w K) : Cll Try.prog 194 #[(.int .i64 x0)] w K :=
  vcF_sound mixed (fn := Try.f194) (by kernel_rfl) (by kernel_rfl) (an := impl_WrapWord.ann) (args := [(.int .i64 x0)]) (by rw [impl_WrapWord.vc_eq]; exact h)

theorem impl_WrapWord.con {x0 : Int} {r : Int} {w : World} (hr : r = M.impl_WrapWord x0)  :
    Cll Try.prog 194 #[(.int .i64 x0)] w (fun v_ w_ => v_ = (.int .i64 r) ∧ Ext w w_) := by
  have H := wp.impl_WrapWord.math x0
  have hB := Ext.refl w
  refine impl_WrapWord.start ?_
  unfold impl_WrapWord.vc
  unfold wp.impl_WrapWord at H
  obtain rfl := hr.trans H.symm
  exact ⟨rfl, hB⟩

def impl_wrapped.vc (x0 : Int) (x1 : Int) (x2 : Int) (w : World) (K : Value → World → Prop) : Prop :=
  Cll Try.prog 120 #[(.int .i64 x0)] w fun v1 w2 => (∃ (b3 : Bool), v1 = (.bool b3) ∧ bcase (!b3) (K (.int .i64 0) w2) (Cll Try.prog 120 #[(.int .i64 x1)] w2 fun v4 w5 => (∃ (b6 : Bool), v4 = (.bool b6) ∧ bcase (!b6) (K (.int .i64 0) w5) (Cll Try.prog 194 #[(.int .i64 x2)] w5 fun v7 w8 => (∃ (n9 : Int), v7 = (.int .i64 n9) ∧ K (.int .i64 n9) w8)))))

def impl_wrapped.ann : Ann := (.seq .l (.seq (.seq .l (.two (.seq .l .l) .l)) (.seq .l .l)))

theorem impl_wrapped.vc_eq (x0 : Int) (x1 : Int) (x2 : Int) (w : World) (K : Value → World → Prop) : vcF Try.prog Try.f166 impl_wrapped.ann [(.int .i64 x0), (.int .i64 x1), (.int .i64 x2)] K w = impl_wrapped.vc x0 x1 x2 w K := by kernel_rfl

theorem impl_wrapped.start {x0 : Int} {x1 : Int} {x2 : Int} {w : World} {K : Value → World → Prop} (h : impl_wrapped.vc x0 x1 x2 w K) : Cll Try.prog 166 #[(.int .i64 x0), (.int .i64 x1), (.int .i64 x2)] w K :=
  vcF_sound mixed (fn := Try.f166) (by kernel_rfl) (by kernel_rfl) (an := impl_wrapped.ann) (args := [(.int .i64 x0), (.int .i64 x1), (.int .i64 x2)]) (by rw [impl_wrapped.vc_eq]; exact h)

theorem impl_wrapped.con {x0 : Int} {x1 : Int} {x2 : Int} {r : Int} {w : World} (hr : r = M.impl_wrapped x0 x1 x2)  :
    Cll Try.prog 166 #[(.int .i64 x0), (.int .i64 x1), (.int .i64 x2)] w (fun v_ w_ => v_ = (.int .i64 r) ∧ Ext w w_) := by
  have H := wp.impl_wrapped.math x0 x1 x2
  have hB := Ext.refl w
  refine impl_wrapped.start ?_
  unfold impl_wrapped.vc
  unfold wp.impl_wrapped at H
  obtain ⟨r1, hr2⟩ : ∃ r_, r_ = M.impl_IsWord x0 := ⟨_, rfl⟩
  have H := H r1 hr2
  refine (impl_IsWord.con hr2 ).mono ?_
  rintro _ w4 ⟨rfl, e5⟩
  have hB := ethen hB e5
  refine ⟨r1, rfl, ?_⟩
  refine bcase_mk (fun hc17 => ?_) (fun hc17 => ?_)
  · have H := (bcase_iff.1 H).1 hc17
    obtain rfl := hr.trans H.symm
    exact ⟨rfl, hB⟩
  · have H := (bcase_iff.1 H).2 hc17
    obtain ⟨r6, hr7⟩ : ∃ r_, r_ = M.impl_IsWord x1 := ⟨_, rfl⟩
    have H := H r6 hr7
    refine (impl_IsWord.con hr7 ).mono ?_
    rintro _ w9 ⟨rfl, e10⟩
    have hB := ethen hB e10
    refine ⟨r6, rfl, ?_⟩
    refine bcase_mk (fun hc16 => ?_) (fun hc16 => ?_)
    · have H := (bcase_iff.1 H).1 hc16
      obtain rfl := hr.trans H.symm
      exact ⟨rfl, hB⟩
    · have H := (bcase_iff.1 H).2 hc16
      obtain ⟨r11, hr12⟩ : ∃ r_, r_ = M.impl_WrapWord x2 := ⟨_, rfl⟩
      have H := H r11 hr12
      refine (impl_WrapWord.con hr12 ).mono ?_
      rintro _ w14 ⟨rfl, e15⟩
      have hB := ethen hB e15
      refine ⟨r11, rfl, ?_⟩
      obtain rfl := hr.trans H.symm
      exact ⟨rfl, hB⟩

def impl_AddWords.vc (x0 : Int) (x1 : Int) (w : World) (K : Value → World → Prop) : Prop :=
  Cll Try.prog 166 #[(.int .i64 x0), (.int .i64 x1), (.int .i64 (IntKind.wrap .i64 (x0 + x1)))] w fun v1 w2 => (∃ (n3 : Int), v1 = (.int .i64 n3) ∧ K (.int .i64 n3) w2)

def impl_AddWords.ann : Ann := (.seq .l (.seq .l .l))

theorem impl_AddWords.vc_eq (x0 : Int) (x1 : Int) (w : World) (K : Value → World → Prop) : vcF Try.prog Try.f123 impl_AddWords.ann [(.int .i64 x0), (.int .i64 x1)] K w = impl_AddWords.vc x0 x1 w K := by kernel_rfl

theorem impl_AddWords.start {x0 : Int} {x1 : Int} {w : World} {K : Value → World → Prop} (h : impl_AddWords.vc x0 x1 w K) : Cll Try.prog 123 #[(.int .i64 x0), (.int .i64 x1)] w K :=
  vcF_sound mixed (fn := Try.f123) (by kernel_rfl) (by kernel_rfl) (an := impl_AddWords.ann) (args := [(.int .i64 x0), (.int .i64 x1)]) (by rw [impl_AddWords.vc_eq]; exact h)

theorem impl_AddWords.con {x0 : Int} {x1 : Int} {r : Int} {w : World} (hr : r = M.impl_AddWords x0 x1)  :
    Cll Try.prog 123 #[(.int .i64 x0), (.int .i64 x1)] w (fun v_ w_ => v_ = (.int .i64 r) ∧ Ext w w_) := by
  have H := wp.impl_AddWords.math x0 x1
  have hB := Ext.refl w
  refine impl_AddWords.start ?_
  unfold impl_AddWords.vc
  unfold wp.impl_AddWords at H
  obtain ⟨r1, hr2⟩ : ∃ r_, r_ = M.impl_wrapped x0 x1 (IntKind.wrap .i64 (x0 + x1)) := ⟨_, rfl⟩
  have H := H r1 hr2
  refine (impl_wrapped.con hr2 ).mono ?_
  rintro _ w4 ⟨rfl, e5⟩
  have hB := ethen hB e5
  refine ⟨r1, rfl, ?_⟩
  obtain rfl := hr.trans H.symm
  exact ⟨rfl, hB⟩

def impl_AddInOrder.vc (x0 : Int) (A1 : Option Addr) (n1 : Nat) (c1 : Nat) (A2 : Option Addr) (n2 : Nat) (c2 : Nat) (w : World) (K : Value → World → Prop) : Prop :=
  Cll Try.prog 120 #[(.int .i64 x0)] w fun v2 w3 => (∃ (b4 : Bool), v2 = (.bool b4) ∧ bcase (!b4) (K (.tuple #[(.slice none 0 0), (.int .i64 0), (.bool false)]) w3) (Cll Try.prog 121 #[(.slice A1 n1 c1)] w3 fun v5 w6 => (∃ (b7 : Bool), v5 = (.bool b7) ∧ bcase (!b7) (K (.tuple #[(.slice none 0 0), (.int .i64 0), (.bool false)]) w6) (Cll Try.prog 122 #[(.slice A2 n2 c2)] w6 fun v8 w9 => (∃ (b10 : Bool), v8 = (.bool b10) ∧ bcase (!b10) (K (.tuple #[(.slice none 0 0), (.int .i64 0), (.bool false)]) w9) (vcMake Try.prog 39 8 8 w9 fun g11 w12 => LoopT (σ := Int × Int × Unit) (fun z13 w14 next15 => bcase (decide (z13.2.1 < ((n2 : Nat) : Int))) (((0 : Int) ≤ z13.2.1 ∧ z13.2.1 < ((n2 : Nat) : Int) ∧ ∃ a16 : Addr, A2 = some a16 ∧ ∃ (n17 : Int), w14.cell? ((a16.add ((z13.2.1.toNat) * 1)).add 0) = some (.int .i64 n17) ∧ ((0 : Int) ≤ n17 ∧ n17 < ((((8 : Int).toNat) : Nat) : Int) ∧ ∃ a18 : Addr, (some (⟨g11, 0, none⟩ : Addr)) = some a18 ∧ stCells (a18.add ((n17.toNat) * 1)) [(.int .i64 z13.1)] 0 w14 fun w19 => ((0 : Int) ≤ n17 ∧ n17 < ((n1 : Nat) : Int) ∧ ∃ a20 : Addr, A1 = some a20 ∧ ∃ (n21 : Int), w19.cell? ((a20.add ((n17.toNat) * 1)).add 0) = some (.int .i64 n21) ∧ Cll Try.prog 123 #[(.int .i64 z13.1), (.int .i64 n21)] w19 fun v22 w23 => (∃ (n24 : Int), v22 = (.int .i64 n24) ∧ next15 (n24, (IntKind.wrap .i64 (z13.2.1 + 1)), ()) w23))))) (K (.tuple #[(.slice (some (⟨g11, 0, none⟩ : Addr)) ((8 : Int).toNat) ((8 : Int).toNat)), (.int .i64 z13.1), (.bool true)]) w14)) (x0, 0, ()) w12))))))

def impl_AddInOrder.ann : Ann := (.seq .l (.seq (.seq .l (.two (.seq .l .l) .l)) (.seq .l (.seq (.seq .l (.one (.loop [(0, .int .i64), (28, .int .i64)] (.seq .l (.seq (.two .l .l) (.seq (.one (.seq .l (.seq .l .l))) .l)))))) (.seq .l .l)))))

theorem impl_AddInOrder.vc_eq (x0 : Int) (A1 : Option Addr) (n1 : Nat) (c1 : Nat) (A2 : Option Addr) (n2 : Nat) (c2 : Nat) (w : World) (K : Value → World → Prop) : vcF Try.prog Try.f64 impl_AddInOrder.ann [(.int .i64 x0), (.slice A1 n1 c1), (.slice A2 n2 c2)] K w = impl_AddInOrder.vc x0 A1 n1 c1 A2 n2 c2 w K := by kernel_rfl

theorem impl_AddInOrder.start {x0 : Int} {A1 : Option Addr} {n1 : Nat} {c1 : Nat} {A2 : Option Addr} {n2 : Nat} {c2 : Nat} {w : World} {K : Value → World → Prop} (h : impl_AddInOrder.vc x0 A1 n1 c1 A2 n2 c2 w K) : Cll Try.prog 64 #[(.int .i64 x0), (.slice A1 n1 c1), (.slice A2 n2 c2)] w K :=
  vcF_sound mixed (fn := Try.f64) (by kernel_rfl) (by kernel_rfl) (an := impl_AddInOrder.ann) (args := [(.int .i64 x0), (.slice A1 n1 c1), (.slice A2 n2 c2)]) (by rw [impl_AddInOrder.vc_eq]; exact h)

theorem impl_AddInOrder.con {x0 : Int} {xs1 : List Int} {A1 : Option Addr} {c1 : Nat} {xs2 : List Int} {A2 : Option Addr} {c2 : Nat} {r : (List Int) × Int × Bool} {w : World} (hp : M.impl_AddInOrder_pre x0 xs1 xs2) (hr : r = M.impl_AddInOrder x0 xs1 xs2) (R1 : Row el3 w A1 xs1) (hc1 : xs1.length ≤ c1) (R2 : Row el3 w A2 xs2) (hc2 : xs2.length ≤ c2) :
    Cll Try.prog 64 #[(.int .i64 x0), (.slice A1 xs1.length c1), (.slice A2 xs2.length c2)] w (fun v_ w_ => ∃ (A0_ : Option Addr) (c0_ : Nat), v_ = (.tuple #[(.slice A0_ r.1.length c0_), (.int .i64 r.2.1), (.bool r.2.2)]) ∧ Own el3 w_ w.heap.size A0_ c0_ r.1 ∧ Ext w w_) := by
  have H := wp.impl_AddInOrder.math x0 xs1 xs2 hp
  have hB := Ext.refl w
  refine impl_AddInOrder.start ?_
  unfold impl_AddInOrder.vc
  unfold wp.impl_AddInOrder at H
  obtain ⟨r1, hr2⟩ : ∃ r_, r_ = M.impl_IsWord x0 := ⟨_, rfl⟩
  have H := H r1 hr2
  refine (impl_IsWord.con hr2 ).mono ?_
  rintro _ w4 ⟨rfl, e5⟩
  have hB := ethen hB e5
  refine ⟨r1, rfl, ?_⟩
  refine bcase_mk (fun hc93 => ?_) (fun hc93 => ?_)
  · have H := (bcase_iff.1 H).1 hc93
    obtain rfl := hr.trans H.symm
    exact ⟨none, 0, rfl, Own.nil, hB⟩
  · have H := (bcase_iff.1 H).2 hc93
    obtain ⟨r6, hr7⟩ : ∃ r_, r_ = M.impl_ValuesOk xs1 := ⟨_, rfl⟩
    have H := H r6 hr7
    refine (impl_ValuesOk.con hr7 (R1.ext hB) hc1).mono ?_
    rintro _ w9 ⟨rfl, e10⟩
    have hB := ethen hB e10
    refine ⟨r6, rfl, ?_⟩
    refine bcase_mk (fun hc92 => ?_) (fun hc92 => ?_)
    · have H := (bcase_iff.1 H).1 hc92
      obtain rfl := hr.trans H.symm
      exact ⟨none, 0, rfl, Own.nil, hB⟩
    · have H := (bcase_iff.1 H).2 hc92
      obtain ⟨hp13, H⟩ := H
      obtain ⟨r11, hr12⟩ : ∃ r_, r_ = M.impl_IsPermutation xs2 := ⟨_, rfl⟩
      have H := H r11 hr12
      refine (impl_IsPermutation.con hp13 hr12 (R2.ext hB) hc2).mono ?_
      rintro _ w14 ⟨rfl, e15⟩
      have hB := ethen hB e15
      refine ⟨r11, rfl, ?_⟩
      refine bcase_mk (fun hc91 => ?_) (fun hc91 => ?_)
      · have H := (bcase_iff.1 H).1 hc91
        obtain rfl := hr.trans H.symm
        exact ⟨none, 0, rfl, Own.nil, hB⟩
      · have H := (bcase_iff.1 H).2 hc91
        obtain ⟨⟨h0_19, h1_20⟩, H⟩ := H
        refine makeOwn slt39 h0_19 h1_20 (fun g16 w17 P3 e18 => ?_)
        have O3 := P3.mono hB.size
        have hB := ethen hB e18
        obtain ⟨J56, ⟨m89, hJ88⟩, hS57⟩ := H
        refine ⟨fun m_ z_ w_ => ∃ (i51 : Int) (i52 : Int) (xs53 : List Int), z_ = (i51, i52, ()) ∧ J56 m_ (i51, i52, xs53, ()) ∧ Ext w w_ ∧ Own el3 w_ w.heap.size (some (⟨g16, 0, none⟩ : Addr)) ((8 : Int).toNat) xs53 ∧ ((8 : Int).toNat) = xs53.length, ⟨m89, x0, 0, (List.replicate ((8 : Int).toNat) (default : Int)), rfl, hJ88, hB, O3, (by first | rfl | assumption | (simp; done) | (simp; omega) | (simp; assumption))⟩, ?_⟩
        rintro m55 _ w59 ⟨i51, i52, xs53, rfl, hJ90, hB, O3, hn54⟩
        have H := hS57 m55 _ hJ90
        clear hS57 hJ90
        dsimp only at H ⊢
        refine bcase_mk (fun hc86 => ?_) (fun hc86 => ?_)
        · have H := (bcase_iff.1 H).1 hc86
          obtain ⟨⟨h0_63, h1_64⟩, H⟩ := H
          obtain ⟨a61, ha62, hat60⟩ := Row.at (R2.ext hB) h0_63 h1_64
          refine ⟨h0_63, h1_64, a61, ha62, ?_⟩
          refine ⟨_, (hat60 0 _ rfl), ?_⟩
          obtain ⟨⟨h0_68, h1_69⟩, H⟩ := H
          obtain ⟨a66, ha67, hat65⟩ := Row.at O3.row h0_68 h1_69
          refine ⟨h0_68, (by first | exact h1_69 | omega | (simp at h1_69 ⊢; omega)), a66, ha67, ?_⟩
          refine Own.storeAt O3 ha67 h0_68 h1_69 0 [(.int .i64 i51)] i51 rfl (Nat.le_of_ble_eq_true rfl) rfl (fun w70 O3 e71 hb72 => ?_)
          have hB := echg hB e71 hb72
          obtain ⟨⟨h0_76, h1_77⟩, H⟩ := H
          obtain ⟨a74, ha75, hat73⟩ := Row.at (R1.ext hB) h0_76 h1_77
          refine ⟨h0_76, h1_77, a74, ha75, ?_⟩
          refine ⟨_, (hat73 0 _ rfl), ?_⟩
          obtain ⟨r78, hr79⟩ : ∃ r_, r_ = M.impl_AddWords i51 (rd xs1 (rd xs2 i52)) := ⟨_, rfl⟩
          have H := H r78 hr79
          refine (impl_AddWords.con hr79 ).mono ?_
          rintro _ w81 ⟨rfl, e82⟩
          have O3 := O3.ext e82
          have hB := ethen hB e82
          refine ⟨r78, rfl, ?_⟩
          obtain ⟨m83, hm84, hJ85⟩ := H
          exact ⟨m83, hm84, r78, (IntKind.wrap .i64 (i52 + 1)), (List.set xs53 ((rd xs2 i52).toNat) i51), rfl, hJ85, hB, O3, (by first | rfl | assumption | (simp; done) | (simp; omega) | (simp; assumption))⟩
        · have H := (bcase_iff.1 H).2 hc86
          obtain rfl := hr.trans H.symm
          exact ⟨(some (⟨g16, 0, none⟩ : Addr)), ((8 : Int).toNat), (by first | rfl | (simp; done) | (simp; omega) | (simp [*]; done)), (by first | exact O3 | (simp at O3 ⊢; exact O3)), hB⟩

def spec_l21Op.vc (x0 : Int) (w : World) (K : Value → World → Prop) : Prop :=
  Cll Try.prog 113 #[(.int .i64 x0), (.int .i64 0), (.int .i64 3)] w fun v1 w2 => (∃ (b3 : Bool), v1 = (.bool b3) ∧ K (.bool b3) w2)

def spec_l21Op.ann : Ann := (.seq .l (.seq .l .l))

theorem spec_l21Op.vc_eq (x0 : Int) (w : World) (K : Value → World → Prop) : vcF Try.prog Try.f129 spec_l21Op.ann [(.int .i64 x0)] K w = spec_l21Op.vc x0 w K := by kernel_rfl

theorem spec_l21Op.start {x0 : Int} {w : World} {K : Value → World → Prop} (h : spec_l21Op.vc x0 w K) : Cll Try.prog 129 #[(.int .i64 x0)] w K :=
  vcF_sound mixed (fn := Try.f129) (by kernel_rfl) (by kernel_rfl) (an := spec_l21Op.ann) (args := [(.int .i64 x0)]) (by rw [spec_l21Op.vc_eq]; exact h)

theorem spec_l21Op.con {x0 : Int} {r : Bool} {w : World} (hr : r = M.spec_l21Op x0)  :
    Cll Try.prog 129 #[(.int .i64 x0)] w (fun v_ w_ => v_ = (.bool r) ∧ Ext w w_) := by
  have H := wp.spec_l21Op.math x0
  have hB := Ext.refl w
  refine spec_l21Op.start ?_
  unfold spec_l21Op.vc
  unfold wp.spec_l21Op at H
  obtain ⟨r1, hr2⟩ : ∃ r_, r_ = M.spec_l01In x0 0 3 := ⟨_, rfl⟩
  have H := H r1 hr2
  refine (spec_l01In.con hr2 ).mono ?_
  rintro _ w4 ⟨rfl, e5⟩
  have hB := ethen hB e5
  refine ⟨r1, rfl, ?_⟩
  obtain rfl := hr.trans H.symm
  exact ⟨rfl, hB⟩

def spec_Combine.vc (x0 : Int) (x1 : Int) (x2 : Int) (w : World) (K : Value → World → Prop) : Prop :=
  Cll Try.prog 66 #[(.int .i64 x1)] w fun v2 w3 => (∃ (b4 : Bool), v2 = (.bool b4) ∧ bcase (!b4) (K (.int .i64 0) w3) (Cll Try.prog 66 #[(.int .i64 x2)] w3 fun v5 w6 => (∃ (b7 : Bool), v5 = (.bool b7) ∧ bcase (!b7) (K (.int .i64 0) w6) (bcase (x0 == 0) (Cll Try.prog 69 #[(.int .i64 x1), (.int .i64 x2)] w6 fun v8 w9 => (∃ (n10 : Int), v8 = (.int .i64 n10) ∧ K (.int .i64 n10) w9)) (bcase (x0 == 1) (K (.int .i64 (bitXor .i64 x1 x2)) w6) (bcase (x0 == 2) (K (.int .i64 (if x2 < x1 then x2 else x1)) w6) (bcase (x0 == 3) (K (.int .i64 (if x2 > x1 then x2 else x1)) w6) (K (.int .i64 0) w6))))))))

def spec_Combine.ann : Ann := (.seq .l (.seq (.seq .l (.two (.seq .l .l) .l)) (.seq (.seq .l (.one (.seq .l (.two (.seq .l .l) (.seq .l (.two (.seq .l .l) (.seq .l (.two (.seq .l .l) (.seq .l (.two (.seq .l .l) .l)))))))))) (.seq .l .l))))

theorem spec_Combine.vc_eq (x0 : Int) (x1 : Int) (x2 : Int) (w : World) (K : Value → World → Prop) : vcF Try.prog Try.f131 spec_Combine.ann [(.int .i64 x0), (.int .i64 x1), (.int .i64 x2)] K w = spec_Combine.vc x0 x1 x2 w K := by kernel_rfl

theorem spec_Combine.start {x0 : Int} {x1 : Int} {x2 : Int} {w : World} {K : Value → World → Prop} (h : spec_Combine.vc x0 x1 x2 w K) : Cll Try.prog 131 #[(.int .i64 x0), (.int .i64 x1), (.int .i64 x2)] w K :=
  vcF_sound mixed (fn := Try.f131) (by kernel_rfl) (by kernel_rfl) (an := spec_Combine.ann) (args := [(.int .i64 x0), (.int .i64 x1), (.int .i64 x2)]) (by rw [spec_Combine.vc_eq]; exact h)

theorem spec_Combine.con {x0 : Int} {x1 : Int} {x2 : Int} {r : Int} {w : World} (hr : r = M.spec_Combine x0 x1 x2)  :
    Cll Try.prog 131 #[(.int .i64 x0), (.int .i64 x1), (.int .i64 x2)] w (fun v_ w_ => v_ = (.int .i64 r) ∧ Ext w w_) := by
  have H := wp.spec_Combine.math x0 x1 x2
  have hB := Ext.refl w
  refine spec_Combine.start ?_
  unfold spec_Combine.vc
  unfold wp.spec_Combine at H
  obtain ⟨r1, hr2⟩ : ∃ r_, r_ = M.spec_IsWord x1 := ⟨_, rfl⟩
  have H := H r1 hr2
  refine (spec_IsWord.con hr2 ).mono ?_
  rintro _ w4 ⟨rfl, e5⟩
  have hB := ethen hB e5
  refine ⟨r1, rfl, ?_⟩
  refine bcase_mk (fun hc21 => ?_) (fun hc21 => ?_)
  · have H := (bcase_iff.1 H).1 hc21
    obtain rfl := hr.trans H.symm
    exact ⟨rfl, hB⟩
  · have H := (bcase_iff.1 H).2 hc21
    obtain ⟨r6, hr7⟩ : ∃ r_, r_ = M.spec_IsWord x2 := ⟨_, rfl⟩
    have H := H r6 hr7
    refine (spec_IsWord.con hr7 ).mono ?_
    rintro _ w9 ⟨rfl, e10⟩
    have hB := ethen hB e10
    refine ⟨r6, rfl, ?_⟩
    refine bcase_mk (fun hc20 => ?_) (fun hc20 => ?_)
    · have H := (bcase_iff.1 H).1 hc20
      obtain rfl := hr.trans H.symm
      exact ⟨rfl, hB⟩
    · have H := (bcase_iff.1 H).2 hc20
      refine bcase_mk (fun hc19 => ?_) (fun hc19 => ?_)
      · have H := (bcase_iff.1 H).1 hc19
        obtain ⟨r11, hr12⟩ : ∃ r_, r_ = M.spec_AddWords x1 x2 := ⟨_, rfl⟩
        have H := H r11 hr12
        refine (spec_AddWords.con hr12 ).mono ?_
        rintro _ w14 ⟨rfl, e15⟩
        have hB := ethen hB e15
        refine ⟨r11, rfl, ?_⟩
        obtain rfl := hr.trans H.symm
        exact ⟨rfl, hB⟩
      · have H := (bcase_iff.1 H).2 hc19
        refine bcase_mk (fun hc18 => ?_) (fun hc18 => ?_)
        · have H := (bcase_iff.1 H).1 hc18
          obtain rfl := hr.trans H.symm
          exact ⟨rfl, hB⟩
        · have H := (bcase_iff.1 H).2 hc18
          refine bcase_mk (fun hc17 => ?_) (fun hc17 => ?_)
          · have H := (bcase_iff.1 H).1 hc17
            obtain rfl := hr.trans H.symm
            exact ⟨rfl, hB⟩
          · have H := (bcase_iff.1 H).2 hc17
            refine bcase_mk (fun hc16 => ?_) (fun hc16 => ?_)
            · have H := (bcase_iff.1 H).1 hc16
              obtain rfl := hr.trans H.symm
              exact ⟨rfl, hB⟩
            · have H := (bcase_iff.1 H).2 hc16
              obtain rfl := hr.trans H.symm
              exact ⟨rfl, hB⟩

def spec_ScanRound.vc (x0 : Int) (A1 : Option Addr) (n1 : Nat) (c1 : Nat) (x2 : Int) (w : World) (K : Value → World → Prop) : Prop :=
  Run Try.prog (Instr.buildSlice 39 0 #[]) w fun v1 w2 => ∃ (A3 : Option Addr) (n4 c5 : Nat), v1 = .slice A3 n4 c5 ∧ Cll Try.prog 67 #[(.slice A1 n1 c1)] w2 fun v7 w8 => (∃ (b9 : Bool), v7 = (.bool b9) ∧ bcase (!b9) (K (.slice A3 n4 c5) w8) (Cll Try.prog 129 #[(.int .i64 x0)] w8 fun v10 w11 => (∃ (b12 : Bool), v10 = (.bool b12) ∧ bcase (!b12) (K (.slice A3 n4 c5) w11) (Cll Try.prog 113 #[(.int .i64 x2), (.int .i64 1), (.int .i64 7)] w11 fun v13 w14 => (∃ (b15 : Bool), v13 = (.bool b15) ∧ bcase (!b15) (K (.slice A3 n4 c5) w14) (LoopT (σ := (Option Addr × Nat × Nat) × Int × Unit) (fun z16 w17 next18 => bcase (decide (z16.2.1 < 8)) (((0 : Int) ≤ z16.2.1 ∧ z16.2.1 < ((n1 : Nat) : Int) ∧ ∃ a19 : Addr, A1 = some a19 ∧ ∃ (n20 : Int), w17.cell? ((a19.add ((z16.2.1.toNat) * 1)).add 0) = some (.int .i64 n20) ∧ bcase (decide (z16.2.1 ≥ x2)) (((0 : Int) ≤ (IntKind.wrap .i64 (z16.2.1 - x2)) ∧ (IntKind.wrap .i64 (z16.2.1 - x2)) < ((n1 : Nat) : Int) ∧ ∃ a21 : Addr, A1 = some a21 ∧ ∃ (n22 : Int), w17.cell? ((a21.add (((IntKind.wrap .i64 (z16.2.1 - x2)).toNat) * 1)).add 0) = some (.int .i64 n22) ∧ Cll Try.prog 131 #[(.int .i64 x0), (.int .i64 n22), (.int .i64 n20)] w17 fun v23 w24 => (∃ (n25 : Int), v23 = (.int .i64 n25) ∧ Run Try.prog (Instr.buildSlice 39 1 #[(0, (.int .i64 n25))]) w24 fun v26 w27 => ∃ (A28 : Option Addr) (n29 c30 : Nat), v26 = .slice A28 n29 c30 ∧ Run Try.prog (Builtin.append_ #[39, 39] 39 #[(.slice z16.1.1 z16.1.2.1 z16.1.2.2), (.slice A28 n29 c30)]) w27 fun v31 w32 => ∃ (A33 : Option Addr) (n34 c35 : Nat), v31 = .slice A33 n34 c35 ∧ next18 ((A33, n34, c35), (IntKind.wrap .i64 (z16.2.1 + 1)), ()) w32))) (Run Try.prog (Instr.buildSlice 39 1 #[(0, (.int .i64 n20))]) w17 fun v36 w37 => ∃ (A38 : Option Addr) (n39 c40 : Nat), v36 = .slice A38 n39 c40 ∧ Run Try.prog (Builtin.append_ #[39, 39] 39 #[(.slice z16.1.1 z16.1.2.1 z16.1.2.2), (.slice A38 n39 c40)]) w37 fun v41 w42 => ∃ (A43 : Option Addr) (n44 c45 : Nat), v41 = .slice A43 n44 c45 ∧ next18 ((A43, n44, c45), (IntKind.wrap .i64 (z16.2.1 + 1)), ()) w42))) (K (.slice z16.1.1 z16.1.2.1 z16.1.2.2) w17)) ((A3, n4, c5), 0, ()) w14))))))

def spec_ScanRound.ann : Ann := (.seq .l (.seq .l (.seq (.seq .l (.two (.seq .l .l) .l)) (.seq (.seq .l (.one (.loop [(7, .sl), (8, .int .i64)] (.seq (.seq .l (.two .l .l)) (.seq (.one (.seq .l (.seq (.seq .l (.two .l .l)) .l))) .l))))) (.seq .l .l)))))

theorem spec_ScanRound.vc_eq (x0 : Int) (A1 : Option Addr) (n1 : Nat) (c1 : Nat) (x2 : Int) (w : World) (K : Value → World → Prop) : vcF Try.prog Try.f168 spec_ScanRound.ann [(.int .i64 x0), (.slice A1 n1 c1), (.int .i64 x2)] K w = spec_ScanRound.vc x0 A1 n1 c1 x2 w K := by kernel_rfl

theorem spec_ScanRound.start {x0 : Int} {A1 : Option Addr} {n1 : Nat} {c1 : Nat} {x2 : Int} {w : World} {K : Value → World → Prop} (h : spec_ScanRound.vc x0 A1 n1 c1 x2 w K) : Cll Try.prog 168 #[(.int .i64 x0), (.slice A1 n1 c1), (.int .i64 x2)] w K :=
  vcF_sound mixed (fn := Try.f168) (by kernel_rfl) (by kernel_rfl) (an := spec_ScanRound.ann) (args := [(.int .i64 x0), (.slice A1 n1 c1), (.int .i64 x2)]) (by rw [spec_ScanRound.vc_eq]; exact h)

theorem spec_ScanRound.con {x0 : Int} {xs1 : List Int} {A1 : Option Addr} {c1 : Nat} {x2 : Int} {r : List Int} {w : World} (hr : r = M.spec_ScanRound x0 xs1 x2) (R1 : Row el3 w A1 xs1) (hc1 : xs1.length ≤ c1) :
    Cll Try.prog 168 #[(.int .i64 x0), (.slice A1 xs1.length c1), (.int .i64 x2)] w (fun v_ w_ => ∃ (A0_ : Option Addr) (c0_ : Nat), v_ = (.slice A0_ r.length c0_) ∧ Own el3 w_ w.heap.size A0_ c0_ r ∧ Ext w w_) := by
  have H := wp.spec_ScanRound.math x0 xs1 x2
  have hB := Ext.refl w
  refine spec_ScanRound.start ?_
  unfold spec_ScanRound.vc
  unfold wp.spec_ScanRound at H
  refine buildOwn el3 ([] : List Int) (fun _ => by kernel_rfl) rfl (fun A1 w2 P2 e3 => ?_)
  have O2 := P2.mono hB.size
  have hB := ethen hB e3
  obtain ⟨r4, hr5⟩ : ∃ r_, r_ = M.spec_ValuesOk xs1 := ⟨_, rfl⟩
  have H := H r4 hr5
  refine (spec_ValuesOk.con hr5 (R1.ext hB) hc1).mono ?_
  rintro _ w7 ⟨rfl, e8⟩
  have O2 := O2.ext e8
  have hB := ethen hB e8
  refine ⟨r4, rfl, ?_⟩
  refine bcase_mk (fun hc73 => ?_) (fun hc73 => ?_)
  · have H := (bcase_iff.1 H).1 hc73
    obtain rfl := hr.trans H.symm
    exact ⟨A1, 0, (by first | rfl | (simp; done) | (simp; omega) | (simp [*]; done)), (by first | exact O2 | (simp at O2 ⊢; exact O2)), hB⟩
  · have H := (bcase_iff.1 H).2 hc73
    obtain ⟨r9, hr10⟩ : ∃ r_, r_ = M.spec_l21Op x0 := ⟨_, rfl⟩
    have H := H r9 hr10
    refine (spec_l21Op.con hr10 ).mono ?_
    rintro _ w12 ⟨rfl, e13⟩
    have O2 := O2.ext e13
    have hB := ethen hB e13
    refine ⟨r9, rfl, ?_⟩
    refine bcase_mk (fun hc72 => ?_) (fun hc72 => ?_)
    · have H := (bcase_iff.1 H).1 hc72
      obtain rfl := hr.trans H.symm
      exact ⟨A1, 0, (by first | rfl | (simp; done) | (simp; omega) | (simp [*]; done)), (by first | exact O2 | (simp at O2 ⊢; exact O2)), hB⟩
    · have H := (bcase_iff.1 H).2 hc72
      obtain ⟨r14, hr15⟩ : ∃ r_, r_ = M.spec_l01In x2 1 7 := ⟨_, rfl⟩
      have H := H r14 hr15
      refine (spec_l01In.con hr15 ).mono ?_
      rintro _ w17 ⟨rfl, e18⟩
      have O2 := O2.ext e18
      have hB := ethen hB e18
      refine ⟨r14, rfl, ?_⟩
      refine bcase_mk (fun hc71 => ?_) (fun hc71 => ?_)
      · have H := (bcase_iff.1 H).1 hc71
        obtain rfl := hr.trans H.symm
        exact ⟨A1, 0, (by first | rfl | (simp; done) | (simp; omega) | (simp [*]; done)), (by first | exact O2 | (simp at O2 ⊢; exact O2)), hB⟩
      · have H := (bcase_iff.1 H).2 hc71
        obtain ⟨J24, ⟨m69, hJ68⟩, hS25⟩ := H
        refine ⟨fun m_ z_ w_ => ∃ (xs19 : List Int) (i22 : Int) (A20 : Option Addr) (c21 : Nat), z_ = ((A20, xs19.length, c21), i22, ()) ∧ J24 m_ (xs19, i22, ()) ∧ Ext w w_ ∧ Own el3 w_ w.heap.size A20 c21 xs19, ⟨m69, ([] : List Int), 0, A1, 0, rfl, hJ68, hB, O2⟩, ?_⟩
        rintro m23 _ w27 ⟨xs19, i22, A20, c21, rfl, hJ70, hB, O3⟩
        have H := hS25 m23 _ hJ70
        clear hS25 hJ70
        dsimp only at H ⊢
        refine bcase_mk (fun hc66 => ?_) (fun hc66 => ?_)
        · have H := (bcase_iff.1 H).1 hc66
          obtain ⟨⟨h0_31, h1_32⟩, H⟩ := H
          obtain ⟨a29, ha30, hat28⟩ := Row.at (R1.ext hB) h0_31 h1_32
          refine ⟨h0_31, h1_32, a29, ha30, ?_⟩
          refine ⟨_, (hat28 0 _ rfl), ?_⟩
          refine bcase_mk (fun hc65 => ?_) (fun hc65 => ?_)
          · have H := (bcase_iff.1 H).1 hc65
            obtain ⟨⟨h0_36, h1_37⟩, H⟩ := H
            obtain ⟨a34, ha35, hat33⟩ := Row.at (R1.ext hB) h0_36 h1_37
            refine ⟨h0_36, h1_37, a34, ha35, ?_⟩
            refine ⟨_, (hat33 0 _ rfl), ?_⟩
            obtain ⟨r38, hr39⟩ : ∃ r_, r_ = M.spec_Combine x0 (rd xs1 (IntKind.wrap .i64 (i22 - x2))) (rd xs1 i22) := ⟨_, rfl⟩
            have H := H r38 hr39
            refine (spec_Combine.con hr39 ).mono ?_
            rintro _ w41 ⟨rfl, e42⟩
            have O3 := O3.ext e42
            have hB := ethen hB e42
            refine ⟨r38, rfl, ?_⟩
            refine buildOwn el3 ([r38] : List Int) (fun _ => by kernel_rfl) rfl (fun A43 w44 P4 e45 => ?_)
            have N3_4 := Own.apart2_new O3 P4 (Nat.le_refl _)
            have O3 := O3.ext e45
            have O4 := P4.mono hB.size
            have hB := ethen hB e45
            obtain ⟨hl50, H⟩ := H
            refine appOwn slt39 slt39.under O3 O4.row hB.size rfl (by first | rfl | omega | (simp; done) | (simp; omega)) hl50 (fun A46 c47 w48 P3 e49 => ?_)
            have N4_3_ := Apart2.app (N3_4).symm e49 O4
            have O4 := O4.app e49 (N3_4).symm
            have N4_3 := N4_3_
            have hB := eapp hB e49 O3
            have O3 := P3
            obtain ⟨m51, hm52, hJ53⟩ := H
            exact ⟨m51, hm52, (xs19 ++ ([r38] : List Int)), (IntKind.wrap .i64 (i22 + 1)), A46, c47, rfl, hJ53, hB, O3⟩
          · have H := (bcase_iff.1 H).2 hc65
            refine buildOwn el3 ([(rd xs1 i22)] : List Int) (fun _ => by kernel_rfl) rfl (fun A54 w55 P5 e56 => ?_)
            have N3_5 := Own.apart2_new O3 P5 (Nat.le_refl _)
            have O3 := O3.ext e56
            have O5 := P5.mono hB.size
            have hB := ethen hB e56
            obtain ⟨hl61, H⟩ := H
            refine appOwn slt39 slt39.under O3 O5.row hB.size rfl (by first | rfl | omega | (simp; done) | (simp; omega)) hl61 (fun A57 c58 w59 P3 e60 => ?_)
            have N5_3_ := Apart2.app (N3_5).symm e60 O5
            have O5 := O5.app e60 (N3_5).symm
            have N5_3 := N5_3_
            have hB := eapp hB e60 O3
            have O3 := P3
            obtain ⟨m62, hm63, hJ64⟩ := H
            exact ⟨m62, hm63, (xs19 ++ ([(rd xs1 i22)] : List Int)), (IntKind.wrap .i64 (i22 + 1)), A57, c58, rfl, hJ64, hB, O3⟩
        · have H := (bcase_iff.1 H).2 hc66
          obtain rfl := hr.trans H.symm
          exact ⟨A20, c21, rfl, O3, hB⟩

def spec_ScanAll.vc (x0 : Int) (A1 : Option Addr) (n1 : Nat) (c1 : Nat) (w : World) (K : Value → World → Prop) : Prop :=
  Cll Try.prog 168 #[(.int .i64 x0), (.slice A1 n1 c1), (.int .i64 1)] w fun v1 w2 => (∃ (A3 : Option Addr) (n4 : Nat) (c5 : Nat), v1 = (.slice A3 n4 c5) ∧ Cll Try.prog 168 #[(.int .i64 x0), (.slice A3 n4 c5), (.int .i64 2)] w2 fun v6 w7 => (∃ (A8 : Option Addr) (n9 : Nat) (c10 : Nat), v6 = (.slice A8 n9 c10) ∧ Cll Try.prog 168 #[(.int .i64 x0), (.slice A8 n9 c10), (.int .i64 4)] w7 fun v11 w12 => (∃ (A13 : Option Addr) (n14 : Nat) (c15 : Nat), v11 = (.slice A13 n14 c15) ∧ K (.slice A13 n14 c15) w12)))

def spec_ScanAll.ann : Ann := (.seq .l (.seq .l .l))

theorem spec_ScanAll.vc_eq (x0 : Int) (A1 : Option Addr) (n1 : Nat) (c1 : Nat) (w : World) (K : Value → World → Prop) : vcF Try.prog Try.f125 spec_ScanAll.ann [(.int .i64 x0), (.slice A1 n1 c1)] K w = spec_ScanAll.vc x0 A1 n1 c1 w K := by kernel_rfl

theorem spec_ScanAll.start {x0 : Int} {A1 : Option Addr} {n1 : Nat} {c1 : Nat} {w : World} {K : Value → World → Prop} (h : spec_ScanAll.vc x0 A1 n1 c1 w K) : Cll Try.prog 125 #[(.int .i64 x0), (.slice A1 n1 c1)] w K :=
  vcF_sound mixed (fn := Try.f125) (by kernel_rfl) (by kernel_rfl) (an := spec_ScanAll.ann) (args := [(.int .i64 x0), (.slice A1 n1 c1)]) (by rw [spec_ScanAll.vc_eq]; exact h)

theorem spec_ScanAll.con {x0 : Int} {xs1 : List Int} {A1 : Option Addr} {c1 : Nat} {r : List Int} {w : World} (hr : r = M.spec_ScanAll x0 xs1) (R1 : Row el3 w A1 xs1) (hc1 : xs1.length ≤ c1) :
    Cll Try.prog 125 #[(.int .i64 x0), (.slice A1 xs1.length c1)] w (fun v_ w_ => ∃ (A0_ : Option Addr) (c0_ : Nat), v_ = (.slice A0_ r.length c0_) ∧ Own el3 w_ w.heap.size A0_ c0_ r ∧ Ext w w_) := by
  have H := wp.spec_ScanAll.math x0 xs1
  have hB := Ext.refl w
  refine spec_ScanAll.start ?_
  unfold spec_ScanAll.vc
  unfold wp.spec_ScanAll at H
  obtain ⟨r1, hr2⟩ : ∃ r_, r_ = M.spec_ScanRound x0 xs1 1 := ⟨_, rfl⟩
  have H := H r1 hr2
  refine (spec_ScanRound.con hr2 (R1.ext hB) hc1).mono ?_
  rintro _ w4 ⟨A6, c7, rfl, P2, e5⟩
  have O2 := P2.mono hB.size
  have hB := ethen hB e5
  refine ⟨A6, r1.length, c7, rfl, ?_⟩
  obtain ⟨r8, hr9⟩ : ∃ r_, r_ = M.spec_ScanRound x0 r1 2 := ⟨_, rfl⟩
  have H := H r8 hr9
  refine (spec_ScanRound.con hr9 O2.row O2.le).mono ?_
  rintro _ w11 ⟨A13, c14, rfl, P3, e12⟩
  have N2_3 := Own.apart2_new O2 P3 (Nat.le_refl _)
  have O2 := O2.ext e12
  have O3 := P3.mono hB.size
  have hB := ethen hB e12
  refine ⟨A13, r8.length, c14, rfl, ?_⟩
  obtain ⟨r15, hr16⟩ : ∃ r_, r_ = M.spec_ScanRound x0 r8 4 := ⟨_, rfl⟩
  have H := H r15 hr16
  refine (spec_ScanRound.con hr16 O3.row O3.le).mono ?_
  rintro _ w18 ⟨A20, c21, rfl, P4, e19⟩
  have N2_4 := Own.apart2_new O2 P4 (Nat.le_refl _)
  have N3_4 := Own.apart2_new O3 P4 (Nat.le_refl _)
  have O2 := O2.ext e19
  have O3 := O3.ext e19
  have O4 := P4.mono hB.size
  have hB := ethen hB e19
  refine ⟨A20, r15.length, c21, rfl, ?_⟩
  obtain rfl := hr.trans H.symm
  exact ⟨A20, c21, rfl, O4, hB⟩

def spec_NeutralOf.vc (x0 : Int) (w : World) (K : Value → World → Prop) : Prop :=
  Cll Try.prog 129 #[(.int .i64 x0)] w fun v1 w2 => (∃ (b3 : Bool), v1 = (.bool b3) ∧ bcase (!b3) (K (.int .i64 (-1)) w2) (bcase (x0 == 2) (K (.int .i64 65535) w2) (K (.int .i64 0) w2)))

def spec_NeutralOf.ann : Ann := (.seq .l (.seq (.seq .l (.two (.seq .l .l) .l)) (.seq (.seq .l (.two (.seq .l .l) .l)) (.seq .l .l))))

theorem spec_NeutralOf.vc_eq (x0 : Int) (w : World) (K : Value → World → Prop) : vcF Try.prog Try.f126 spec_NeutralOf.ann [(.int .i64 x0)] K w = spec_NeutralOf.vc x0 w K := by kernel_rfl

theorem spec_NeutralOf.start {x0 : Int} {w : World} {K : Value → World → Prop} (h : spec_NeutralOf.vc x0 w K) : Cll Try.prog 126 #[(.int .i64 x0)] w K :=
  vcF_sound mixed (fn := Try.f126) (by kernel_rfl) (by kernel_rfl) (an := spec_NeutralOf.ann) (args := [(.int .i64 x0)]) (by rw [spec_NeutralOf.vc_eq]; exact h)

theorem spec_NeutralOf.con {x0 : Int} {r : Int} {w : World} (hr : r = M.spec_NeutralOf x0)  :
    Cll Try.prog 126 #[(.int .i64 x0)] w (fun v_ w_ => v_ = (.int .i64 r) ∧ Ext w w_) := by
  have H := wp.spec_NeutralOf.math x0
  have hB := Ext.refl w
  refine spec_NeutralOf.start ?_
  unfold spec_NeutralOf.vc
  unfold wp.spec_NeutralOf at H
  obtain ⟨r1, hr2⟩ : ∃ r_, r_ = M.spec_l21Op x0 := ⟨_, rfl⟩
  have H := H r1 hr2
  refine (spec_l21Op.con hr2 ).mono ?_
  rintro _ w4 ⟨rfl, e5⟩
  have hB := ethen hB e5
  refine ⟨r1, rfl, ?_⟩
  refine bcase_mk (fun hc7 => ?_) (fun hc7 => ?_)
  · have H := (bcase_iff.1 H).1 hc7
    obtain rfl := hr.trans H.symm
    exact ⟨rfl, hB⟩
  · have H := (bcase_iff.1 H).2 hc7
    refine bcase_mk (fun hc6 => ?_) (fun hc6 => ?_)
    · have H := (bcase_iff.1 H).1 hc6
      obtain rfl := hr.trans H.symm
      exact ⟨rfl, hB⟩
    · have H := (bcase_iff.1 H).2 hc6
      obtain rfl := hr.trans H.symm
      exact ⟨rfl, hB⟩

def spec_ScanBefore.vc (x0 : Int) (A1 : Option Addr) (n1 : Nat) (c1 : Nat) (w : World) (K : Value → World → Prop) : Prop :=
  Cll Try.prog 125 #[(.int .i64 x0), (.slice A1 n1 c1)] w fun v1 w2 => (∃ (A3 : Option Addr) (n4 : Nat) (c5 : Nat), v1 = (.slice A3 n4 c5) ∧ bcase (((n4 : Nat) : Int) == 0) (K (.slice A3 n4 c5) w2) ((∃ M6 : Nat → Prop, ((0 : Int) ≤ 7 ∧ 7 ≤ ((c5 : Nat) : Int) ∧ Cll Try.prog 126 #[(.int .i64 x0)] w2.drew fun v7 w8 => (∃ (n9 : Int), v7 = (.int .i64 n9) ∧ SameBut M6 w2 w8 ∧ Run Try.prog (Instr.buildSlice 39 1 #[(0, (.int .i64 n9))]) w8 fun v10 w11 => ∃ (A12 : Option Addr) (n13 c14 : Nat), v10 = .slice A12 n13 c14 ∧ SameBut M6 w2 w11 ∧ Run Try.prog (Builtin.append_ #[39, 39] 39 #[(.slice A12 n13 c14), (.slice A3 ((7 : Int).toNat) c5)]) w11 fun v15 w16 => ∃ (A17 : Option Addr) (n18 c19 : Nat), v15 = .slice A17 n18 c19 ∧ SameBut M6 w2 w16 ∧ K (.slice A17 n18 c19) w16)))))

def spec_ScanBefore.ann : Ann := (.seq .l (.seq .l (.seq (.seq .l (.two (.seq .l .l) .l)) (.seq .l .l))))

theorem spec_ScanBefore.vc_eq (x0 : Int) (A1 : Option Addr) (n1 : Nat) (c1 : Nat) (w : World) (K : Value → World → Prop) : vcF Try.prog Try.f68 spec_ScanBefore.ann [(.int .i64 x0), (.slice A1 n1 c1)] K w = spec_ScanBefore.vc x0 A1 n1 c1 w K := by kernel_rfl

theorem spec_ScanBefore.start {x0 : Int} {A1 : Option Addr} {n1 : Nat} {c1 : Nat} {w : World} {K : Value → World → Prop} (h : spec_ScanBefore.vc x0 A1 n1 c1 w K) : Cll Try.prog 68 #[(.int .i64 x0), (.slice A1 n1 c1)] w K :=
  vcF_sound mixed (fn := Try.f68) (by kernel_rfl) (by kernel_rfl) (an := spec_ScanBefore.ann) (args := [(.int .i64 x0), (.slice A1 n1 c1)]) (by rw [spec_ScanBefore.vc_eq]; exact h)

theorem spec_ScanBefore.con {x0 : Int} {xs1 : List Int} {A1 : Option Addr} {c1 : Nat} {r : List Int} {w : World} (hr : r = M.spec_ScanBefore x0 xs1) (R1 : Row el3 w A1 xs1) (hc1 : xs1.length ≤ c1) :
    Cll Try.prog 68 #[(.int .i64 x0), (.slice A1 xs1.length c1)] w (fun v_ w_ => ∃ (A0_ : Option Addr) (c0_ : Nat), v_ = (.slice A0_ r.length c0_) ∧ Own el3 w_ w.heap.size A0_ c0_ r ∧ Ext w w_) := by
  have H := wp.spec_ScanBefore.math x0 xs1
  have hB := Ext.refl w
  refine spec_ScanBefore.start ?_
  unfold spec_ScanBefore.vc
  unfold wp.spec_ScanBefore at H
  obtain ⟨r1, hr2⟩ : ∃ r_, r_ = M.spec_ScanAll x0 xs1 := ⟨_, rfl⟩
  have H := H r1 hr2
  refine (spec_ScanAll.con hr2 (R1.ext hB) hc1).mono ?_
  rintro _ w4 ⟨A6, c7, rfl, P2, e5⟩
  have O2 := P2.mono hB.size
  have hB := ethen hB e5
  refine ⟨A6, r1.length, c7, rfl, ?_⟩
  refine bcase_mk (fun hc24 => ?_) (fun hc24 => ?_)
  · have H := (bcase_iff.1 H).1 hc24
    obtain rfl := hr.trans H.symm
    exact ⟨A6, c7, rfl, O2, hB⟩
  · have H := (bcase_iff.1 H).2 hc24
    refine ⟨(fun _ => False), ?_⟩
    obtain ⟨⟨hh9, hh10⟩, H⟩ := H
    refine and_assoc.1 ⟨⟨hh9, Int.le_trans hh10 (Int.ofNat_le.2 O2.le)⟩, ?_⟩
    rw [show ((7 : Int).toNat) = ((List.take ((7 : Int).toNat) r1)).length from by simp; omega]
    have O3 := (O2.take ((7 : Int).toNat))
    have hS8 := Chg.refl (fun _ => False) w4
    have O2 := O2.ext (Ext.drew _)
    have O3 := O3.ext (Ext.drew _)
    have hB := ethen hB (Ext.drew _)
    have hS8 := hS8.then (Ext.drew _)
    obtain ⟨r11, hr12⟩ : ∃ r_, r_ = M.spec_NeutralOf x0 := ⟨_, rfl⟩
    have H := H r11 hr12
    refine (spec_NeutralOf.con hr12 ).mono ?_
    rintro _ w14 ⟨rfl, e15⟩
    have O2 := O2.ext e15
    have O3 := O3.ext e15
    have hB := ethen hB e15
    have hS8 := hS8.then e15
    refine ⟨r11, rfl, ?_⟩
    refine ⟨sameBut_chg hS8, ?_⟩
    refine buildOwn el3 ([r11] : List Int) (fun _ => by kernel_rfl) rfl (fun A16 w17 P4 e18 => ?_)
    have N2_4 := Own.apart2_new O2 P4 (Nat.le_refl _)
    have N3_4 := Own.apart2_new O3 P4 (Nat.le_refl _)
    have O2 := O2.ext e18
    have O3 := O3.ext e18
    have LB4 := (P4.mono hS8.size).low
    have O4 := P4.mono hB.size
    have hB := ethen hB e18
    have hS8 := hS8.then e18
    refine ⟨sameBut_chg hS8, ?_⟩
    obtain ⟨hl23, H⟩ := H
    refine appOwn slt39 slt39.under O4 O3.row hB.size (by first | rfl | omega | (simp; done) | (simp; omega)) rfl hl23 (fun A19 c20 w21 P4 e22 => ?_)
    have N2_4_ := Apart2.app N2_4 e22 O2
    have O2 := O2.app e22 N2_4
    have N2_4 := N2_4_
    have N3_4_ := Apart2.app N3_4 e22 O3
    have O3 := O3.app e22 N3_4
    have N3_4 := N3_4_
    have hsz4_ := hS8.size
    have hS8 := hS8.app e22 (fun g h_ => (Or.inl (LB4 g h_)))
    have LB4 := e22.low LB4 hsz4_
    have hB := eapp hB e22 O4
    have O4 := P4
    refine ⟨sameBut_chg hS8, ?_⟩
    obtain rfl := hr.trans H.symm
    exact ⟨A19, c20, rfl, O4, hB⟩

def spec_IsMask.vc (x0 : Int) (w : World) (K : Value → World → Prop) : Prop :=
  Cll Try.prog 113 #[(.int .i64 x0), (.int .i64 0), (.int .i64 255)] w fun v1 w2 => (∃ (b3 : Bool), v1 = (.bool b3) ∧ K (.bool b3) w2)

def spec_IsMask.ann : Ann := (.seq .l (.seq .l .l))

theorem spec_IsMask.vc_eq (x0 : Int) (w : World) (K : Value → World → Prop) : vcF Try.prog Try.f128 spec_IsMask.ann [(.int .i64 x0)] K w = spec_IsMask.vc x0 w K := by kernel_rfl

theorem spec_IsMask.start {x0 : Int} {w : World} {K : Value → World → Prop} (h : spec_IsMask.vc x0 w K) : Cll Try.prog 128 #[(.int .i64 x0)] w K :=
  vcF_sound mixed (fn := Try.f128) (by kernel_rfl) (by kernel_rfl) (an := spec_IsMask.ann) (args := [(.int .i64 x0)]) (by rw [spec_IsMask.vc_eq]; exact h)

theorem spec_IsMask.con {x0 : Int} {r : Bool} {w : World} (hr : r = M.spec_IsMask x0)  :
    Cll Try.prog 128 #[(.int .i64 x0)] w (fun v_ w_ => v_ = (.bool r) ∧ Ext w w_) := by
  have H := wp.spec_IsMask.math x0
  have hB := Ext.refl w
  refine spec_IsMask.start ?_
  unfold spec_IsMask.vc
  unfold wp.spec_IsMask at H
  obtain ⟨r1, hr2⟩ : ∃ r_, r_ = M.spec_l01In x0 0 255 := ⟨_, rfl⟩
  have H := H r1 hr2
  refine (spec_l01In.con hr2 ).mono ?_
  rintro _ w4 ⟨rfl, e5⟩
  have hB := ethen hB e5
  refine ⟨r1, rfl, ?_⟩
  obtain rfl := hr.trans H.symm
  exact ⟨rfl, hB⟩

def spec_HasLane.vc (x0 : Int) (x1 : Int) (w : World) (K : Value → World → Prop) : Prop :=
  Cll Try.prog 128 #[(.int .i64 x0)] w fun v1 w2 => (∃ (b3 : Bool), v1 = (.bool b3) ∧ bcase b3 (Cll Try.prog 113 #[(.int .i64 x1), (.int .i64 0), (.int .i64 7)] w2 fun v4 w5 => (∃ (b6 : Bool), v4 = (.bool b6) ∧ bcase b6 (((0 : Int) ≤ x1 ∧ K (.bool ((bitAnd .i64 (Int.fdiv x0 (2 ^ (min (x1.toNat) (IntKind.bits .i64)))) 1) == 1)) w5)) (K (.bool false) w5))) (K (.bool false) w2))

def spec_HasLane.ann : Ann := (.seq .l (.seq .l .l))

theorem spec_HasLane.vc_eq (x0 : Int) (x1 : Int) (w : World) (K : Value → World → Prop) : vcF Try.prog Try.f130 spec_HasLane.ann [(.int .i64 x0), (.int .i64 x1)] K w = spec_HasLane.vc x0 x1 w K := by kernel_rfl

theorem spec_HasLane.start {x0 : Int} {x1 : Int} {w : World} {K : Value → World → Prop} (h : spec_HasLane.vc x0 x1 w K) : Cll Try.prog 130 #[(.int .i64 x0), (.int .i64 x1)] w K :=
  vcF_sound mixed (fn := Try.f130) (by kernel_rfl) (by kernel_rfl) (an := spec_HasLane.ann) (args := [(.int .i64 x0), (.int .i64 x1)]) (by rw [spec_HasLane.vc_eq]; exact h)

theorem spec_HasLane.con {x0 : Int} {x1 : Int} {r : Bool} {w : World} (hr : r = M.spec_HasLane x0 x1)  :
    Cll Try.prog 130 #[(.int .i64 x0), (.int .i64 x1)] w (fun v_ w_ => v_ = (.bool r) ∧ Ext w w_) := by
  have H := wp.spec_HasLane.math x0 x1
  have hB := Ext.refl w
  refine spec_HasLane.start ?_
  unfold spec_HasLane.vc
  unfold wp.spec_HasLane at H
  obtain ⟨r1, hr2⟩ : ∃ r_, r_ = M.spec_IsMask x0 := ⟨_, rfl⟩
  have H := H r1 hr2
  refine (spec_IsMask.con hr2 ).mono ?_
  rintro _ w4 ⟨rfl, e5⟩
  have hB := ethen hB e5
  refine ⟨r1, rfl, ?_⟩
  refine bcase_mk (fun hc13 => ?_) (fun hc13 => ?_)
  · have H := (bcase_iff.1 H).1 hc13
    obtain ⟨r6, hr7⟩ : ∃ r_, r_ = M.spec_l01In x1 0 7 := ⟨_, rfl⟩
    have H := H r6 hr7
    refine (spec_l01In.con hr7 ).mono ?_
    rintro _ w9 ⟨rfl, e10⟩
    have hB := ethen hB e10
    refine ⟨r6, rfl, ?_⟩
    refine bcase_mk (fun hc12 => ?_) (fun hc12 => ?_)
    · have H := (bcase_iff.1 H).1 hc12
      obtain ⟨hc11, H⟩ := H
      refine ⟨hc11, ?_⟩
      obtain rfl := hr.trans H.symm
      exact ⟨rfl, hB⟩
    · have H := (bcase_iff.1 H).2 hc12
      obtain rfl := hr.trans H.symm
      exact ⟨rfl, hB⟩
  · have H := (bcase_iff.1 H).2 hc13
    obtain rfl := hr.trans H.symm
    exact ⟨rfl, hB⟩

def spec_ReduceMasked.vc (x0 : Int) (A1 : Option Addr) (n1 : Nat) (c1 : Nat) (x2 : Int) (w : World) (K : Value → World → Prop) : Prop :=
  Cll Try.prog 67 #[(.slice A1 n1 c1)] w fun v2 w3 => (∃ (b4 : Bool), v2 = (.bool b4) ∧ bcase (!b4) (K (.int .i64 0) w3) (Cll Try.prog 128 #[(.int .i64 x2)] w3 fun v5 w6 => (∃ (b7 : Bool), v5 = (.bool b7) ∧ bcase (!b7) (K (.int .i64 0) w6) (Cll Try.prog 129 #[(.int .i64 x0)] w6 fun v8 w9 => (∃ (b10 : Bool), v8 = (.bool b10) ∧ bcase (!b10) (K (.int .i64 0) w9) (Cll Try.prog 126 #[(.int .i64 x0)] w9 fun v11 w12 => (∃ (n13 : Int), v11 = (.int .i64 n13) ∧ LoopT (σ := Int × Int × Unit) (fun z14 w15 next16 => bcase (decide (z14.2.1 < 8)) (Cll Try.prog 130 #[(.int .i64 x2), (.int .i64 z14.2.1)] w15 fun v17 w18 => (∃ (b19 : Bool), v17 = (.bool b19) ∧ bcase b19 (((0 : Int) ≤ z14.2.1 ∧ z14.2.1 < ((n1 : Nat) : Int) ∧ ∃ a20 : Addr, A1 = some a20 ∧ ∃ (n21 : Int), w18.cell? ((a20.add ((z14.2.1.toNat) * 1)).add 0) = some (.int .i64 n21) ∧ Cll Try.prog 131 #[(.int .i64 x0), (.int .i64 z14.1), (.int .i64 n21)] w18 fun v22 w23 => (∃ (n24 : Int), v22 = (.int .i64 n24) ∧ next16 (n24, (IntKind.wrap .i64 (z14.2.1 + 1)), ()) w23))) (next16 (z14.1, (IntKind.wrap .i64 (z14.2.1 + 1)), ()) w18))) (K (.int .i64 z14.1) w15)) (n13, 0, ()) w12)))))))

def spec_ReduceMasked.ann : Ann := (.seq .l (.seq (.seq .l (.two (.seq .l .l) .l)) (.seq .l (.seq (.seq .l (.one (.loop [(7, .int .i64), (8, .int .i64)] (.seq (.seq .l (.two .l .l)) (.seq (.one (.seq .l (.two .l .l))) .l))))) (.seq .l .l)))))

theorem spec_ReduceMasked.vc_eq (x0 : Int) (A1 : Option Addr) (n1 : Nat) (c1 : Nat) (x2 : Int) (w : World) (K : Value → World → Prop) : vcF Try.prog Try.f70 spec_ReduceMasked.ann [(.int .i64 x0), (.slice A1 n1 c1), (.int .i64 x2)] K w = spec_ReduceMasked.vc x0 A1 n1 c1 x2 w K := by kernel_rfl

theorem spec_ReduceMasked.start {x0 : Int} {A1 : Option Addr} {n1 : Nat} {c1 : Nat} {x2 : Int} {w : World} {K : Value → World → Prop} (h : spec_ReduceMasked.vc x0 A1 n1 c1 x2 w K) : Cll Try.prog 70 #[(.int .i64 x0), (.slice A1 n1 c1), (.int .i64 x2)] w K :=
  vcF_sound mixed (fn := Try.f70) (by kernel_rfl) (by kernel_rfl) (an := spec_ReduceMasked.ann) (args := [(.int .i64 x0), (.slice A1 n1 c1), (.int .i64 x2)]) (by rw [spec_ReduceMasked.vc_eq]; exact h)

theorem spec_ReduceMasked.con {x0 : Int} {xs1 : List Int} {A1 : Option Addr} {c1 : Nat} {x2 : Int} {r : Int} {w : World} (hr : r = M.spec_ReduceMasked x0 xs1 x2) (R1 : Row el3 w A1 xs1) (hc1 : xs1.length ≤ c1) :
    Cll Try.prog 70 #[(.int .i64 x0), (.slice A1 xs1.length c1), (.int .i64 x2)] w (fun v_ w_ => v_ = (.int .i64 r) ∧ Ext w w_) := by
  have H := wp.spec_ReduceMasked.math x0 xs1 x2
  have hB := Ext.refl w
  refine spec_ReduceMasked.start ?_
  unfold spec_ReduceMasked.vc
  unfold wp.spec_ReduceMasked at H
  obtain ⟨r1, hr2⟩ : ∃ r_, r_ = M.spec_ValuesOk xs1 := ⟨_, rfl⟩
  have H := H r1 hr2
  refine (spec_ValuesOk.con hr2 (R1.ext hB) hc1).mono ?_
  rintro _ w4 ⟨rfl, e5⟩
  have hB := ethen hB e5
  refine ⟨r1, rfl, ?_⟩
  refine bcase_mk (fun hc57 => ?_) (fun hc57 => ?_)
  · have H := (bcase_iff.1 H).1 hc57
    obtain rfl := hr.trans H.symm
    exact ⟨rfl, hB⟩
  · have H := (bcase_iff.1 H).2 hc57
    obtain ⟨r6, hr7⟩ : ∃ r_, r_ = M.spec_IsMask x2 := ⟨_, rfl⟩
    have H := H r6 hr7
    refine (spec_IsMask.con hr7 ).mono ?_
    rintro _ w9 ⟨rfl, e10⟩
    have hB := ethen hB e10
    refine ⟨r6, rfl, ?_⟩
    refine bcase_mk (fun hc56 => ?_) (fun hc56 => ?_)
    · have H := (bcase_iff.1 H).1 hc56
      obtain rfl := hr.trans H.symm
      exact ⟨rfl, hB⟩
    · have H := (bcase_iff.1 H).2 hc56
      obtain ⟨r11, hr12⟩ : ∃ r_, r_ = M.spec_l21Op x0 := ⟨_, rfl⟩
      have H := H r11 hr12
      refine (spec_l21Op.con hr12 ).mono ?_
      rintro _ w14 ⟨rfl, e15⟩
      have hB := ethen hB e15
      refine ⟨r11, rfl, ?_⟩
      refine bcase_mk (fun hc55 => ?_) (fun hc55 => ?_)
      · have H := (bcase_iff.1 H).1 hc55
        obtain rfl := hr.trans H.symm
        exact ⟨rfl, hB⟩
      · have H := (bcase_iff.1 H).2 hc55
        obtain ⟨r16, hr17⟩ : ∃ r_, r_ = M.spec_NeutralOf x0 := ⟨_, rfl⟩
        have H := H r16 hr17
        refine (spec_NeutralOf.con hr17 ).mono ?_
        rintro _ w19 ⟨rfl, e20⟩
        have hB := ethen hB e20
        refine ⟨r16, rfl, ?_⟩
        obtain ⟨J24, ⟨m53, hJ52⟩, hS25⟩ := H
        refine ⟨fun m_ z_ w_ => ∃ (i21 : Int) (i22 : Int), z_ = (i21, i22, ()) ∧ J24 m_ (i21, i22, ()) ∧ Ext w w_, ⟨m53, r16, 0, rfl, hJ52, hB⟩, ?_⟩
        rintro m23 _ w27 ⟨i21, i22, rfl, hJ54, hB⟩
        have H := hS25 m23 _ hJ54
        clear hS25 hJ54
        dsimp only at H ⊢
        refine bcase_mk (fun hc50 => ?_) (fun hc50 => ?_)
        · have H := (bcase_iff.1 H).1 hc50
          obtain ⟨r28, hr29⟩ : ∃ r_, r_ = M.spec_HasLane x2 i22 := ⟨_, rfl⟩
          have H := H r28 hr29
          refine (spec_HasLane.con hr29 ).mono ?_
          rintro _ w31 ⟨rfl, e32⟩
          have hB := ethen hB e32
          refine ⟨r28, rfl, ?_⟩
          refine bcase_mk (fun hc49 => ?_) (fun hc49 => ?_)
          · have H := (bcase_iff.1 H).1 hc49
            obtain ⟨⟨h0_36, h1_37⟩, H⟩ := H
            obtain ⟨a34, ha35, hat33⟩ := Row.at (R1.ext hB) h0_36 h1_37
            refine ⟨h0_36, h1_37, a34, ha35, ?_⟩
            refine ⟨_, (hat33 0 _ rfl), ?_⟩
            obtain ⟨r38, hr39⟩ : ∃ r_, r_ = M.spec_Combine x0 i21 (rd xs1 i22) := ⟨_, rfl⟩
            have H := H r38 hr39
            refine (spec_Combine.con hr39 ).mono ?_
            rintro _ w41 ⟨rfl, e42⟩
            have hB := ethen hB e42
            refine ⟨r38, rfl, ?_⟩
            obtain ⟨m43, hm44, hJ45⟩ := H
            exact ⟨m43, hm44, r38, (IntKind.wrap .i64 (i22 + 1)), rfl, hJ45, hB⟩
          · have H := (bcase_iff.1 H).2 hc49
            obtain ⟨m46, hm47, hJ48⟩ := H
            exact ⟨m46, hm47, i21, (IntKind.wrap .i64 (i22 + 1)), rfl, hJ48, hB⟩
        · have H := (bcase_iff.1 H).2 hc50
          obtain rfl := hr.trans H.symm
          exact ⟨rfl, hB⟩

def spec_AddTogether.vc (x0 : Int) (A1 : Option Addr) (n1 : Nat) (c1 : Nat) (w : World) (K : Value → World → Prop) : Prop :=
  Cll Try.prog 66 #[(.int .i64 x0)] w fun v2 w3 => (∃ (b4 : Bool), v2 = (.bool b4) ∧ bcase (!b4) (Run Try.prog (Instr.buildSlice 39 0 #[]) w3 fun v5 w6 => ∃ (A7 : Option Addr) (n8 c9 : Nat), v5 = .slice A7 n8 c9 ∧ K (.tuple #[(.slice A7 n8 c9), (.int .i64 0), (.bool false)]) w6) (Cll Try.prog 67 #[(.slice A1 n1 c1)] w3 fun v10 w11 => (∃ (b12 : Bool), v10 = (.bool b12) ∧ bcase (!b12) (Run Try.prog (Instr.buildSlice 39 0 #[]) w11 fun v13 w14 => ∃ (A15 : Option Addr) (n16 c17 : Nat), v13 = .slice A15 n16 c17 ∧ K (.tuple #[(.slice A15 n16 c17), (.int .i64 0), (.bool false)]) w14) (Cll Try.prog 68 #[(.int .i64 0), (.slice A1 n1 c1)] w11 fun v18 w19 => (∃ (A20 : Option Addr) (n21 : Nat) (c22 : Nat), v18 = (.slice A20 n21 c22) ∧ Run Try.prog (Instr.buildSlice 39 0 #[]) w19 fun v23 w24 => ∃ (A25 : Option Addr) (n26 c27 : Nat), v23 = .slice A25 n26 c27 ∧ LoopT (σ := (Option Addr × Nat × Nat) × Int × Unit) (fun z28 w29 next30 => bcase (decide (z28.2.1 < 8)) (((0 : Int) ≤ z28.2.1 ∧ z28.2.1 < ((n21 : Nat) : Int) ∧ ∃ a31 : Addr, A20 = some a31 ∧ ∃ (n32 : Int), w29.cell? ((a31.add ((z28.2.1.toNat) * 1)).add 0) = some (.int .i64 n32) ∧ Cll Try.prog 69 #[(.int .i64 x0), (.int .i64 n32)] w29 fun v33 w34 => (∃ (n35 : Int), v33 = (.int .i64 n35) ∧ Run Try.prog (Instr.buildSlice 39 1 #[(0, (.int .i64 n35))]) w34 fun v36 w37 => ∃ (A38 : Option Addr) (n39 c40 : Nat), v36 = .slice A38 n39 c40 ∧ Run Try.prog (Builtin.append_ #[39, 39] 39 #[(.slice z28.1.1 z28.1.2.1 z28.1.2.2), (.slice A38 n39 c40)]) w37 fun v41 w42 => ∃ (A43 : Option Addr) (n44 c45 : Nat), v41 = .slice A43 n44 c45 ∧ next30 ((A43, n44, c45), (IntKind.wrap .i64 (z28.2.1 + 1)), ()) w42))) (Cll Try.prog 70 #[(.int .i64 0), (.slice A1 n1 c1), (.int .i64 255)] w29 fun v46 w47 => (∃ (n48 : Int), v46 = (.int .i64 n48) ∧ Cll Try.prog 69 #[(.int .i64 x0), (.int .i64 n48)] w47 fun v49 w50 => (∃ (n51 : Int), v49 = (.int .i64 n51) ∧ K (.tuple #[(.slice z28.1.1 z28.1.2.1 z28.1.2.2), (.int .i64 n51), (.bool true)]) w50)))) ((A25, n26, c27), 0, ()) w24)))))

def spec_AddTogether.ann : Ann := (.seq .l (.seq (.seq .l (.two (.seq .l .l) .l)) (.seq .l (.seq .l (.seq (.seq .l (.one (.loop [(8, .sl), (9, .int .i64)] (.seq (.seq .l (.two .l .l)) (.seq (.one .l) .l))))) (.seq .l .l))))))

theorem spec_AddTogether.vc_eq (x0 : Int) (A1 : Option Addr) (n1 : Nat) (c1 : Nat) (w : World) (K : Value → World → Prop) : vcF Try.prog Try.f33 spec_AddTogether.ann [(.int .i64 x0), (.slice A1 n1 c1)] K w = spec_AddTogether.vc x0 A1 n1 c1 w K := by kernel_rfl

theorem spec_AddTogether.start {x0 : Int} {A1 : Option Addr} {n1 : Nat} {c1 : Nat} {w : World} {K : Value → World → Prop} (h : spec_AddTogether.vc x0 A1 n1 c1 w K) : Cll Try.prog 33 #[(.int .i64 x0), (.slice A1 n1 c1)] w K :=
  vcF_sound mixed (fn := Try.f33) (by kernel_rfl) (by kernel_rfl) (an := spec_AddTogether.ann) (args := [(.int .i64 x0), (.slice A1 n1 c1)]) (by rw [spec_AddTogether.vc_eq]; exact h)

theorem spec_AddTogether.con {x0 : Int} {xs1 : List Int} {A1 : Option Addr} {c1 : Nat} {r : (List Int) × Int × Bool} {w : World} (hr : r = M.spec_AddTogether x0 xs1) (R1 : Row el3 w A1 xs1) (hc1 : xs1.length ≤ c1) :
    Cll Try.prog 33 #[(.int .i64 x0), (.slice A1 xs1.length c1)] w (fun v_ w_ => ∃ (A0_ : Option Addr) (c0_ : Nat), v_ = (.tuple #[(.slice A0_ r.1.length c0_), (.int .i64 r.2.1), (.bool r.2.2)]) ∧ Own el3 w_ w.heap.size A0_ c0_ r.1 ∧ Ext w w_) := by
  have H := wp.spec_AddTogether.math x0 xs1
  have hB := Ext.refl w
  refine spec_AddTogether.start ?_
  unfold spec_AddTogether.vc
  unfold wp.spec_AddTogether at H
  obtain ⟨r1, hr2⟩ : ∃ r_, r_ = M.spec_IsWord x0 := ⟨_, rfl⟩
  have H := H r1 hr2
  refine (spec_IsWord.con hr2 ).mono ?_
  rintro _ w4 ⟨rfl, e5⟩
  have hB := ethen hB e5
  refine ⟨r1, rfl, ?_⟩
  refine bcase_mk (fun hc73 => ?_) (fun hc73 => ?_)
  · have H := (bcase_iff.1 H).1 hc73
    refine buildOwn el3 ([] : List Int) (fun _ => by kernel_rfl) rfl (fun A6 w7 P2 e8 => ?_)
    have O2 := P2.mono hB.size
    have hB := ethen hB e8
    obtain rfl := hr.trans H.symm
    exact ⟨A6, 0, (by first | rfl | (simp; done) | (simp; omega) | (simp [*]; done)), (by first | exact O2 | (simp at O2 ⊢; exact O2)), hB⟩
  · have H := (bcase_iff.1 H).2 hc73
    obtain ⟨r9, hr10⟩ : ∃ r_, r_ = M.spec_ValuesOk xs1 := ⟨_, rfl⟩
    have H := H r9 hr10
    refine (spec_ValuesOk.con hr10 (R1.ext hB) hc1).mono ?_
    rintro _ w12 ⟨rfl, e13⟩
    have hB := ethen hB e13
    refine ⟨r9, rfl, ?_⟩
    refine bcase_mk (fun hc72 => ?_) (fun hc72 => ?_)
    · have H := (bcase_iff.1 H).1 hc72
      refine buildOwn el3 ([] : List Int) (fun _ => by kernel_rfl) rfl (fun A14 w15 P3 e16 => ?_)
      have O3 := P3.mono hB.size
      have hB := ethen hB e16
      obtain rfl := hr.trans H.symm
      exact ⟨A14, 0, (by first | rfl | (simp; done) | (simp; omega) | (simp [*]; done)), (by first | exact O3 | (simp at O3 ⊢; exact O3)), hB⟩
    · have H := (bcase_iff.1 H).2 hc72
      obtain ⟨r17, hr18⟩ : ∃ r_, r_ = M.spec_ScanBefore 0 xs1 := ⟨_, rfl⟩
      have H := H r17 hr18
      refine (spec_ScanBefore.con hr18 (R1.ext hB) hc1).mono ?_
      rintro _ w20 ⟨A22, c23, rfl, P4, e21⟩
      have O4 := P4.mono hB.size
      have hB := ethen hB e21
      refine ⟨A22, r17.length, c23, rfl, ?_⟩
      refine buildOwn el3 ([] : List Int) (fun _ => by kernel_rfl) rfl (fun A24 w25 P5 e26 => ?_)
      have N4_5 := Own.apart2_new O4 P5 (Nat.le_refl _)
      have O4 := O4.ext e26
      have O5 := P5.mono hB.size
      have hB := ethen hB e26
      obtain ⟨J32, ⟨m70, hJ69⟩, hS33⟩ := H
      refine ⟨fun m_ z_ w_ => ∃ (xs27 : List Int) (i30 : Int) (A28 : Option Addr) (c29 : Nat), z_ = ((A28, xs27.length, c29), i30, ()) ∧ J32 m_ (xs27, i30, ()) ∧ Ext w w_ ∧ Own el3 w_ w.heap.size A28 c29 xs27 ∧ Own el3 w_ w.heap.size A22 c23 r17 ∧ Apart2 A22 A28, ⟨m70, ([] : List Int), 0, A24, 0, rfl, hJ69, hB, O5, O4, N4_5⟩, ?_⟩
      rintro m31 _ w35 ⟨xs27, i30, A28, c29, rfl, hJ71, hB, O6, O4, N4_6⟩
      have H := hS33 m31 _ hJ71
      clear hS33 hJ71
      dsimp only at H ⊢
      refine bcase_mk (fun hc67 => ?_) (fun hc67 => ?_)
      · have H := (bcase_iff.1 H).1 hc67
        obtain ⟨⟨h0_39, h1_40⟩, H⟩ := H
        obtain ⟨a37, ha38, hat36⟩ := Row.at O4.row h0_39 h1_40
        refine ⟨h0_39, h1_40, a37, ha38, ?_⟩
        refine ⟨_, (hat36 0 _ rfl), ?_⟩
        obtain ⟨r41, hr42⟩ : ∃ r_, r_ = M.spec_AddWords x0 (rd r17 i30) := ⟨_, rfl⟩
        have H := H r41 hr42
        refine (spec_AddWords.con hr42 ).mono ?_
        rintro _ w44 ⟨rfl, e45⟩
        have O4 := O4.ext e45
        have O6 := O6.ext e45
        have hB := ethen hB e45
        refine ⟨r41, rfl, ?_⟩
        refine buildOwn el3 ([r41] : List Int) (fun _ => by kernel_rfl) rfl (fun A46 w47 P7 e48 => ?_)
        have N4_7 := Own.apart2_new O4 P7 (Nat.le_refl _)
        have N6_7 := Own.apart2_new O6 P7 (Nat.le_refl _)
        have O4 := O4.ext e48
        have O6 := O6.ext e48
        have O7 := P7.mono hB.size
        have hB := ethen hB e48
        obtain ⟨hl53, H⟩ := H
        refine appOwn slt39 slt39.under O6 O7.row hB.size rfl (by first | rfl | omega | (simp; done) | (simp; omega)) hl53 (fun A49 c50 w51 P6 e52 => ?_)
        have N4_6_ := Apart2.app N4_6 e52 O4
        have O4 := O4.app e52 N4_6
        have N4_6 := N4_6_
        have N7_6_ := Apart2.app (N6_7).symm e52 O7
        have O7 := O7.app e52 (N6_7).symm
        have N7_6 := N7_6_
        have hB := eapp hB e52 O6
        have O6 := P6
        obtain ⟨m54, hm55, hJ56⟩ := H
        exact ⟨m54, hm55, (xs27 ++ ([r41] : List Int)), (IntKind.wrap .i64 (i30 + 1)), A49, c50, rfl, hJ56, hB, O6, O4, N4_6⟩
      · have H := (bcase_iff.1 H).2 hc67
        obtain ⟨r57, hr58⟩ : ∃ r_, r_ = M.spec_ReduceMasked 0 xs1 255 := ⟨_, rfl⟩
        have H := H r57 hr58
        refine (spec_ReduceMasked.con hr58 (R1.ext hB) hc1).mono ?_
        rintro _ w60 ⟨rfl, e61⟩
        have O4 := O4.ext e61
        have O6 := O6.ext e61
        have hB := ethen hB e61
        refine ⟨r57, rfl, ?_⟩
        obtain ⟨r62, hr63⟩ : ∃ r_, r_ = M.spec_AddWords x0 r57 := ⟨_, rfl⟩
        have H := H r62 hr63
        refine (spec_AddWords.con hr63 ).mono ?_
        rintro _ w65 ⟨rfl, e66⟩
        have O4 := O4.ext e66
        have O6 := O6.ext e66
        have hB := ethen hB e66
        refine ⟨r62, rfl, ?_⟩
        obtain rfl := hr.trans H.symm
        exact ⟨A28, c29, rfl, O6, hB⟩

def impl_ascending.vc  (w : World) (K : Value → World → Prop) : Prop :=
  Cll Try.prog 132 #[(.int .i64 255)] w fun v1 w2 => (∃ (A3 : Option Addr) (n4 : Nat) (c5 : Nat), v1 = (.slice A3 n4 c5) ∧ K (.slice A3 n4 c5) w2)

def impl_ascending.ann : Ann := (.seq .l (.seq .l .l))

theorem impl_ascending.vc_eq  (w : World) (K : Value → World → Prop) : vcF Try.prog Try.f71 impl_ascending.ann [] K w = impl_ascending.vc  w K := by kernel_rfl

theorem impl_ascending.start  {w : World} {K : Value → World → Prop} (h : impl_ascending.vc  w K) : Cll Try.prog 71 #[] w K :=
  vcF_sound mixed (fn := Try.f71) (by kernel_rfl) (by kernel_rfl) (an := impl_ascending.ann) (args := []) (by rw [impl_ascending.vc_eq]; exact h)

theorem impl_ascending.con  {r : List Int} {w : World} (hr : r = M.impl_ascending )  :
    Cll Try.prog 71 #[] w (fun v_ w_ => ∃ (A0_ : Option Addr) (c0_ : Nat), v_ = (.slice A0_ r.length c0_) ∧ Own el3 w_ w.heap.size A0_ c0_ r ∧ Ext w w_) := by
  have H := wp.impl_ascending.math 
  have hB := Ext.refl w
  refine impl_ascending.start ?_
  unfold impl_ascending.vc
  unfold wp.impl_ascending at H
  obtain ⟨r1, hr2⟩ : ∃ r_, r_ = M.impl_LanesOf 255 := ⟨_, rfl⟩
  have H := H r1 hr2
  refine (impl_LanesOf.con hr2 ).mono ?_
  rintro _ w4 ⟨A6, c7, rfl, P1, e5⟩
  have O1 := P1.mono hB.size
  have hB := ethen hB e5
  refine ⟨A6, r1.length, c7, rfl, ?_⟩
  obtain rfl := hr.trans H.symm
  exact ⟨A6, c7, rfl, O1, hB⟩

def impl_AddTogether.vc (x0 : Int) (A1 : Option Addr) (n1 : Nat) (c1 : Nat) (w : World) (K : Value → World → Prop) : Prop :=
  Cll Try.prog 71 #[] w fun v1 w2 => (∃ (A3 : Option Addr) (n4 : Nat) (c5 : Nat), v1 = (.slice A3 n4 c5) ∧ Cll Try.prog 64 #[(.int .i64 x0), (.slice A1 n1 c1), (.slice A3 n4 c5)] w2 fun v6 w7 => (∃ u8 : Value, (∃ (A9 : Option Addr) (n10 : Nat) (c11 : Nat), u8 = (.slice A9 n10 c11) ∧ ∃ u12 : Value, (∃ (n13 : Int), u12 = (.int .i64 n13) ∧ ∃ u14 : Value, (∃ (b15 : Bool), u14 = (.bool b15) ∧ v6 = (.tuple #[(.slice A9 n10 c11), (.int .i64 n13), (.bool b15)]) ∧ K (.tuple #[(.slice A9 n10 c11), (.int .i64 n13), (.bool b15)]) w7)))))

def impl_AddTogether.ann : Ann := (.seq .l (.seq .l .l))

theorem impl_AddTogether.vc_eq (x0 : Int) (A1 : Option Addr) (n1 : Nat) (c1 : Nat) (w : World) (K : Value → World → Prop) : vcF Try.prog Try.f34 impl_AddTogether.ann [(.int .i64 x0), (.slice A1 n1 c1)] K w = impl_AddTogether.vc x0 A1 n1 c1 w K := by kernel_rfl

theorem impl_AddTogether.start {x0 : Int} {A1 : Option Addr} {n1 : Nat} {c1 : Nat} {w : World} {K : Value → World → Prop} (h : impl_AddTogether.vc x0 A1 n1 c1 w K) : Cll Try.prog 34 #[(.int .i64 x0), (.slice A1 n1 c1)] w K :=
  vcF_sound mixed (fn := Try.f34) (by kernel_rfl) (by kernel_rfl) (an := impl_AddTogether.ann) (args := [(.int .i64 x0), (.slice A1 n1 c1)]) (by rw [impl_AddTogether.vc_eq]; exact h)

theorem impl_AddTogether.con {x0 : Int} {xs1 : List Int} {A1 : Option Addr} {c1 : Nat} {r : (List Int) × Int × Bool} {w : World} (hr : r = M.impl_AddTogether x0 xs1) (R1 : Row el3 w A1 xs1) (hc1 : xs1.length ≤ c1) :
    Cll Try.prog 34 #[(.int .i64 x0), (.slice A1 xs1.length c1)] w (fun v_ w_ => ∃ (A0_ : Option Addr) (c0_ : Nat), v_ = (.tuple #[(.slice A0_ r.1.length c0_), (.int .i64 r.2.1), (.bool r.2.2)]) ∧ Own el3 w_ w.heap.size A0_ c0_ r.1 ∧ Ext w w_) := by
  have H := wp.impl_AddTogether.math x0 xs1
  have hB := Ext.refl w
  refine impl_AddTogether.start ?_
  unfold impl_AddTogether.vc
  unfold wp.impl_AddTogether at H
  obtain ⟨r1, hr2⟩ : ∃ r_, r_ = M.impl_ascending := ⟨_, rfl⟩
  have H := H r1 hr2
  refine (impl_ascending.con hr2 ).mono ?_
  rintro _ w4 ⟨A6, c7, rfl, P2, e5⟩
  have O2 := P2.mono hB.size
  have hB := ethen hB e5
  refine ⟨A6, r1.length, c7, rfl, ?_⟩
  obtain ⟨hp10, H⟩ := H
  obtain ⟨r8, hr9⟩ : ∃ r_, r_ = M.impl_AddInOrder x0 xs1 r1 := ⟨_, rfl⟩
  have H := H r8 hr9
  refine (impl_AddInOrder.con hp10 hr9 (R1.ext hB) hc1 O2.row O2.le).mono ?_
  rintro _ w11 ⟨A13, c14, rfl, P3, e12⟩
  have N2_3 := Own.apart2_new O2 P3 (Nat.le_refl _)
  have O2 := O2.ext e12
  have O3 := P3.mono hB.size
  have hB := ethen hB e12
  refine ⟨(.slice A13 r8.1.length c14), ?_⟩
  refine ⟨A13, r8.1.length, c14, rfl, ?_⟩
  refine ⟨(.int .i64 r8.2.1), ?_⟩
  refine ⟨r8.2.1, rfl, ?_⟩
  refine ⟨(.bool r8.2.2), ?_⟩
  refine ⟨r8.2.2, rfl, ?_⟩
  refine ⟨rfl, ?_⟩
  obtain rfl := hr.trans H.symm
  exact ⟨A13, c14, rfl, O3, hB⟩

def laws_FnExactAddTogether.vc (x0 : Int) (A1 : Option Addr) (n1 : Nat) (c1 : Nat) (w : World) (K : Value → World → Prop) : Prop :=
  bcase (decide (((n1 : Nat) : Int) > 1048576)) (K (.bool true) w) (Cll Try.prog 28 #[(.slice A1 n1 c1)] w fun v1 w2 => (∃ (A3 : Option Addr) (n4 : Nat) (c5 : Nat), v1 = (.slice A3 n4 c5) ∧ Cll Try.prog 33 #[(.int .i64 x0), (.slice A3 n4 c5)] w2 fun v6 w7 => (∃ u8 : Value, (∃ (A9 : Option Addr) (n10 : Nat) (c11 : Nat), u8 = (.slice A9 n10 c11) ∧ ∃ u12 : Value, (∃ (n13 : Int), u12 = (.int .i64 n13) ∧ ∃ u14 : Value, (∃ (b15 : Bool), u14 = (.bool b15) ∧ v6 = (.tuple #[(.slice A9 n10 c11), (.int .i64 n13), (.bool b15)]) ∧ Cll Try.prog 28 #[(.slice A1 n1 c1)] w7 fun v16 w17 => (∃ (A18 : Option Addr) (n19 : Nat) (c20 : Nat), v16 = (.slice A18 n19 c20) ∧ Cll Try.prog 34 #[(.int .i64 x0), (.slice A18 n19 c20)] w17 fun v21 w22 => (∃ u23 : Value, (∃ (A24 : Option Addr) (n25 : Nat) (c26 : Nat), u23 = (.slice A24 n25 c26) ∧ ∃ u27 : Value, (∃ (n28 : Int), u27 = (.int .i64 n28) ∧ ∃ u29 : Value, (∃ (b30 : Bool), u29 = (.bool b30) ∧ v21 = (.tuple #[(.slice A24 n25 c26), (.int .i64 n28), (.bool b30)]) ∧ Cll Try.prog 30 #[(.slice A24 n25 c26), (.slice A9 n10 c11)] w22 fun v32 w33 => (∃ (b34 : Bool), v32 = (.bool b34) ∧ bcase (!b34) (K (.bool false) w33) (bcase (n28 != n13) (K (.bool false) w33) (bcase (!(b30 == b15)) (K (.bool false) w33) (Cll Try.prog 28 #[(.slice A1 n1 c1)] w33 fun v35 w36 => (∃ (A37 : Option Addr) (n38 : Nat) (c39 : Nat), v35 = (.slice A37 n38 c39) ∧ Cll Try.prog 30 #[(.slice A18 n19 c20), (.slice A37 n38 c39)] w36 fun v40 w41 => (∃ (b42 : Bool), v40 = (.bool b42) ∧ bcase (!b42) (K (.bool false) w41) (Cll Try.prog 31 #[(.slice A18 n19 c20), (.int .i64 1)] w41 fun v43 w44 => (∃ (n45 : Int), v43 = (.int .i64 n45) ∧ bcase (decide (n45 < 0)) (K (.bool false) w44) (Cll Try.prog 30 #[(.slice A24 n25 c26), (.slice A9 n10 c11)] w44 fun v47 w48 => (∃ (b49 : Bool), v47 = (.bool b49) ∧ bcase (!b49) (K (.bool false) w48) (bcase (n28 != n13) (K (.bool false) w48) (bcase (!(b30 == b15)) (K (.bool false) w48) (Cll Try.prog 31 #[(.slice A24 n25 c26), (.int .i64 1)] w48 fun v50 w51 => (∃ (n52 : Int), v50 = (.int .i64 n52) ∧ Cll Try.prog 32 #[(.slice A24 n25 c26), (.int .i64 1)] w51 fun v53 w54 => (∃ (n55 : Int), v53 = (.int .i64 n55) ∧ bcase (decide (n55 < 0)) (K (.bool false) w54) (bcase (n55 != n52) (K (.bool false) w54) (Cll Try.prog 28 #[(.slice A1 n1 c1)] w54 fun v56 w57 => (∃ (A58 : Option Addr) (n59 : Nat) (c60 : Nat), v56 = (.slice A58 n59 c60) ∧ Cll Try.prog 34 #[(.int .i64 x0), (.slice A58 n59 c60)] w57 fun v61 w62 => (∃ u63 : Value, (∃ (A64 : Option Addr) (n65 : Nat) (c66 : Nat), u63 = (.slice A64 n65 c66) ∧ ∃ u67 : Value, (∃ (n68 : Int), u67 = (.int .i64 n68) ∧ ∃ u69 : Value, (∃ (b70 : Bool), u69 = (.bool b70) ∧ v61 = (.tuple #[(.slice A64 n65 c66), (.int .i64 n68), (.bool b70)]) ∧ Cll Try.prog 30 #[(.slice A64 n65 c66), (.slice A9 n10 c11)] w62 fun v72 w73 => (∃ (b74 : Bool), v72 = (.bool b74) ∧ bcase (!b74) (K (.bool false) w73) (bcase (n68 != n13) (K (.bool false) w73) (bcase (!(b70 == b15)) (K (.bool false) w73) (Cll Try.prog 32 #[(.slice A24 n25 c26), (.int .i64 1)] w73 fun v75 w76 => (∃ (n77 : Int), v75 = (.int .i64 n77) ∧ bcase (decide (n77 < 0)) (K (.bool false) w76) (bcase (n77 != n52) (K (.bool false) w76) (K (.bool true) w76))))))))))))))))))))))))))))))))))))))))

def laws_FnExactAddTogether.ann : Ann := (.seq .l (.seq (.seq .l (.two (.seq .l .l) .l)) (.seq .l (.seq .l (.seq .l (.seq (.seq .l (.two (.seq .l .l) .l)) (.seq (.seq .l (.two (.seq .l .l) .l)) (.seq .l (.seq .l (.seq (.seq .l (.two (.seq .l .l) .l)) (.seq .l (.seq .l (.seq .l (.seq .l (.seq (.seq .l (.two (.seq .l .l) .l)) (.seq (.seq .l (.two (.seq .l .l) .l)) (.seq .l (.seq (.seq .l (.two (.seq .l .l) .l)) (.seq .l (.seq .l (.seq (.seq .l (.two (.seq .l .l) .l)) (.seq (.seq .l (.two (.seq .l .l) .l)) (.seq .l .l)))))))))))))))))))))))

theorem laws_FnExactAddTogether.vc_eq (x0 : Int) (A1 : Option Addr) (n1 : Nat) (c1 : Nat) (w : World) (K : Value → World → Prop) : vcF Try.prog Try.f7 laws_FnExactAddTogether.ann [(.int .i64 x0), (.slice A1 n1 c1)] K w = laws_FnExactAddTogether.vc x0 A1 n1 c1 w K := by kernel_rfl

theorem laws_FnExactAddTogether.start {x0 : Int} {A1 : Option Addr} {n1 : Nat} {c1 : Nat} {w : World} {K : Value → World → Prop} (h : laws_FnExactAddTogether.vc x0 A1 n1 c1 w K) : Cll Try.prog 7 #[(.int .i64 x0), (.slice A1 n1 c1)] w K :=
  vcF_sound mixed (fn := Try.f7) (by kernel_rfl) (by kernel_rfl) (an := laws_FnExactAddTogether.ann) (args := [(.int .i64 x0), (.slice A1 n1 c1)]) (by rw [laws_FnExactAddTogether.vc_eq]; exact h)

theorem laws_FnExactAddTogether.con {x0 : Int} {xs1 : List Int} {A1 : Option Addr} {c1 : Nat} {r : Bool} {w : World} (hp : M.laws_FnExactAddTogether_pre x0 xs1) (hr : r = M.laws_FnExactAddTogether x0 xs1) (R1 : Row el3 w A1 xs1) (hc1 : xs1.length ≤ c1) :
    Cll Try.prog 7 #[(.int .i64 x0), (.slice A1 xs1.length c1)] w (fun v_ w_ => v_ = (.bool r) ∧ Ext w w_) := by
  have H := wp.laws_FnExactAddTogether.math x0 xs1 hp
  have hB := Ext.refl w
  refine laws_FnExactAddTogether.start ?_
  unfold laws_FnExactAddTogether.vc
  unfold wp.laws_FnExactAddTogether at H
  refine bcase_mk (fun hc107 => ?_) (fun hc107 => ?_)
  · have H := (bcase_iff.1 H).1 hc107
    obtain rfl := hr.trans H.symm
    exact ⟨rfl, hB⟩
  · have H := (bcase_iff.1 H).2 hc107
    obtain ⟨hp3, H⟩ := H
    obtain ⟨r1, hr2⟩ : ∃ r_, r_ = M.laws_toIntS xs1 := ⟨_, rfl⟩
    have H := H r1 hr2
    refine (laws_toIntS.con hp3 hr2 (R1.ext hB) hc1).mono ?_
    rintro _ w4 ⟨A6, c7, rfl, P2, e5⟩
    have O2 := P2.mono hB.size
    have hB := ethen hB e5
    refine ⟨A6, r1.length, c7, rfl, ?_⟩
    obtain ⟨r8, hr9⟩ : ∃ r_, r_ = M.spec_AddTogether x0 r1 := ⟨_, rfl⟩
    have H := H r8 hr9
    refine (spec_AddTogether.con hr9 O2.row O2.le).mono ?_
    rintro _ w11 ⟨A13, c14, rfl, P3, e12⟩
    have N2_3 := Own.apart2_new O2 P3 (Nat.le_refl _)
    have O2 := O2.ext e12
    have O3 := P3.mono hB.size
    have hB := ethen hB e12
    refine ⟨(.slice A13 r8.1.length c14), ?_⟩
    refine ⟨A13, r8.1.length, c14, rfl, ?_⟩
    refine ⟨(.int .i64 r8.2.1), ?_⟩
    refine ⟨r8.2.1, rfl, ?_⟩
    refine ⟨(.bool r8.2.2), ?_⟩
    refine ⟨r8.2.2, rfl, ?_⟩
    refine ⟨rfl, ?_⟩
    obtain ⟨hp17, H⟩ := H
    obtain ⟨r15, hr16⟩ : ∃ r_, r_ = M.laws_toIntS xs1 := ⟨_, rfl⟩
    have H := H r15 hr16
    refine (laws_toIntS.con hp17 hr16 (R1.ext hB) hc1).mono ?_
    rintro _ w18 ⟨A20, c21, rfl, P4, e19⟩
    have N2_4 := Own.apart2_new O2 P4 (Nat.le_refl _)
    have N3_4 := Own.apart2_new O3 P4 (Nat.le_refl _)
    have O2 := O2.ext e19
    have O3 := O3.ext e19
    have O4 := P4.mono hB.size
    have hB := ethen hB e19
    refine ⟨A20, r15.length, c21, rfl, ?_⟩
    obtain ⟨r22, hr23⟩ : ∃ r_, r_ = M.impl_AddTogether x0 r15 := ⟨_, rfl⟩
    have H := H r22 hr23
    refine (impl_AddTogether.con hr23 O4.row O4.le).mono ?_
    rintro _ w25 ⟨A27, c28, rfl, P5, e26⟩
    have N2_5 := Own.apart2_new O2 P5 (Nat.le_refl _)
    have N3_5 := Own.apart2_new O3 P5 (Nat.le_refl _)
    have N4_5 := Own.apart2_new O4 P5 (Nat.le_refl _)
    have O2 := O2.ext e26
    have O3 := O3.ext e26
    have O4 := O4.ext e26
    have O5 := P5.mono hB.size
    have hB := ethen hB e26
    refine ⟨(.slice A27 r22.1.length c28), ?_⟩
    refine ⟨A27, r22.1.length, c28, rfl, ?_⟩
    refine ⟨(.int .i64 r22.2.1), ?_⟩
    refine ⟨r22.2.1, rfl, ?_⟩
    refine ⟨(.bool r22.2.2), ?_⟩
    refine ⟨r22.2.2, rfl, ?_⟩
    refine ⟨rfl, ?_⟩
    obtain ⟨hp31, H⟩ := H
    obtain ⟨r29, hr30⟩ : ∃ r_, r_ = M.laws_eqIntS r22.1 r8.1 := ⟨_, rfl⟩
    have H := H r29 hr30
    refine (laws_eqIntS.con hp31 hr30 O5.row O5.le O3.row O3.le).mono ?_
    rintro _ w32 ⟨rfl, e33⟩
    have O2 := O2.ext e33
    have O3 := O3.ext e33
    have O4 := O4.ext e33
    have O5 := O5.ext e33
    have hB := ethen hB e33
    refine ⟨r29, rfl, ?_⟩
    refine bcase_mk (fun hc106 => ?_) (fun hc106 => ?_)
    · have H := (bcase_iff.1 H).1 hc106
      obtain rfl := hr.trans H.symm
      exact ⟨rfl, hB⟩
    · have H := (bcase_iff.1 H).2 hc106
      refine bcase_mk (fun hc105 => ?_) (fun hc105 => ?_)
      · have H := (bcase_iff.1 H).1 hc105
        obtain rfl := hr.trans H.symm
        exact ⟨rfl, hB⟩
      · have H := (bcase_iff.1 H).2 hc105
        refine bcase_mk (fun hc104 => ?_) (fun hc104 => ?_)
        · have H := (bcase_iff.1 H).1 hc104
          obtain rfl := hr.trans H.symm
          exact ⟨rfl, hB⟩
        · have H := (bcase_iff.1 H).2 hc104
          obtain ⟨hp36, H⟩ := H
          obtain ⟨r34, hr35⟩ : ∃ r_, r_ = M.laws_toIntS xs1 := ⟨_, rfl⟩
          have H := H r34 hr35
          refine (laws_toIntS.con hp36 hr35 (R1.ext hB) hc1).mono ?_
          rintro _ w37 ⟨A39, c40, rfl, P6, e38⟩
          have N2_6 := Own.apart2_new O2 P6 (Nat.le_refl _)
          have N3_6 := Own.apart2_new O3 P6 (Nat.le_refl _)
          have N4_6 := Own.apart2_new O4 P6 (Nat.le_refl _)
          have N5_6 := Own.apart2_new O5 P6 (Nat.le_refl _)
          have O2 := O2.ext e38
          have O3 := O3.ext e38
          have O4 := O4.ext e38
          have O5 := O5.ext e38
          have O6 := P6.mono hB.size
          have hB := ethen hB e38
          refine ⟨A39, r34.length, c40, rfl, ?_⟩
          obtain ⟨hp43, H⟩ := H
          obtain ⟨r41, hr42⟩ : ∃ r_, r_ = M.laws_eqIntS r15 r34 := ⟨_, rfl⟩
          have H := H r41 hr42
          refine (laws_eqIntS.con hp43 hr42 O4.row O4.le O6.row O6.le).mono ?_
          rintro _ w44 ⟨rfl, e45⟩
          have O2 := O2.ext e45
          have O3 := O3.ext e45
          have O4 := O4.ext e45
          have O5 := O5.ext e45
          have O6 := O6.ext e45
          have hB := ethen hB e45
          refine ⟨r41, rfl, ?_⟩
          refine bcase_mk (fun hc103 => ?_) (fun hc103 => ?_)
          · have H := (bcase_iff.1 H).1 hc103
            obtain rfl := hr.trans H.symm
            exact ⟨rfl, hB⟩
          · have H := (bcase_iff.1 H).2 hc103
            obtain ⟨hp48, H⟩ := H
            obtain ⟨r46, hr47⟩ : ∃ r_, r_ = M.laws_markIntS r15 1 := ⟨_, rfl⟩
            have H := H r46 hr47
            refine (laws_markIntS.con hp48 hr47 (O4.mono (Nat.zero_le _))).mono ?_
            rintro _ w49 ⟨rfl, Q4, hl51, e50⟩
            have O2 := O2.chgS e50 (N2_4).inb
            have O3 := O3.chgS e50 (N3_4).inb
            have O5 := O5.chgS e50 ((N4_5).symm).inb
            have O6 := O6.chgS e50 ((N4_6).symm).inb
            have hB := Chg.ext hB e50 O4.low
            have O4 := Q4.up O4
            refine ⟨r46.1, rfl, ?_⟩
            refine bcase_mk (fun hc102 => ?_) (fun hc102 => ?_)
            · have H := (bcase_iff.1 H).1 hc102
              obtain rfl := hr.trans H.symm
              exact ⟨rfl, hB⟩
            · have H := (bcase_iff.1 H).2 hc102
              obtain ⟨hp54, H⟩ := H
              obtain ⟨r52, hr53⟩ : ∃ r_, r_ = M.laws_eqIntS r22.1 r8.1 := ⟨_, rfl⟩
              have H := H r52 hr53
              refine (laws_eqIntS.con hp54 hr53 O5.row O5.le O3.row O3.le).mono ?_
              rintro _ w55 ⟨rfl, e56⟩
              have O2 := O2.ext e56
              have O3 := O3.ext e56
              have O4 := O4.ext e56
              have O5 := O5.ext e56
              have O6 := O6.ext e56
              have hB := ethen hB e56
              refine ⟨r52, rfl, ?_⟩
              refine bcase_mk (fun hc101 => ?_) (fun hc101 => ?_)
              · have H := (bcase_iff.1 H).1 hc101
                obtain rfl := hr.trans H.symm
                exact ⟨rfl, hB⟩
              · have H := (bcase_iff.1 H).2 hc101
                refine bcase_mk (fun hc100 => ?_) (fun hc100 => ?_)
                · have H := (bcase_iff.1 H).1 hc100
                  obtain rfl := hr.trans H.symm
                  exact ⟨rfl, hB⟩
                · have H := (bcase_iff.1 H).2 hc100
                  refine bcase_mk (fun hc99 => ?_) (fun hc99 => ?_)
                  · have H := (bcase_iff.1 H).1 hc99
                    obtain rfl := hr.trans H.symm
                    exact ⟨rfl, hB⟩
                  · have H := (bcase_iff.1 H).2 hc99
                    obtain ⟨hp59, H⟩ := H
                    obtain ⟨r57, hr58⟩ : ∃ r_, r_ = M.laws_markIntS r22.1 1 := ⟨_, rfl⟩
                    have H := H r57 hr58
                    refine (laws_markIntS.con hp59 hr58 (O5.mono (Nat.zero_le _))).mono ?_
                    rintro _ w60 ⟨rfl, Q5, hl62, e61⟩
                    have O2 := O2.chgS e61 (N2_5).inb
                    have O3 := O3.chgS e61 (N3_5).inb
                    have O4 := O4.chgS e61 (N4_5).inb
                    have O6 := O6.chgS e61 ((N5_6).symm).inb
                    have hB := Chg.ext hB e61 O5.low
                    have O5 := Q5.up O5
                    refine ⟨r57.1, rfl, ?_⟩
                    obtain ⟨hp65, H⟩ := H
                    obtain ⟨r63, hr64⟩ : ∃ r_, r_ = M.laws_heldIntS r57.2 1 := ⟨_, rfl⟩
                    have H := H r63 hr64
                    refine (cllArgs (by first | (simp only [List.length_set, hl62]; done) | (simp; done)) (laws_heldIntS.con hp65 hr64 O5.row O5.le)).mono ?_
                    rintro _ w66 ⟨rfl, e67⟩
                    have O2 := O2.ext e67
                    have O3 := O3.ext e67
                    have O4 := O4.ext e67
                    have O5 := O5.ext e67
                    have O6 := O6.ext e67
                    have hB := ethen hB e67
                    refine ⟨r63, rfl, ?_⟩
                    refine bcase_mk (fun hc98 => ?_) (fun hc98 => ?_)
                    · have H := (bcase_iff.1 H).1 hc98
                      obtain rfl := hr.trans H.symm
                      exact ⟨rfl, hB⟩
                    · have H := (bcase_iff.1 H).2 hc98
                      refine bcase_mk (fun hc97 => ?_) (fun hc97 => ?_)
                      · have H := (bcase_iff.1 H).1 hc97
                        obtain rfl := hr.trans H.symm
                        exact ⟨rfl, hB⟩
                      · have H := (bcase_iff.1 H).2 hc97
                        obtain ⟨hp70, H⟩ := H
                        obtain ⟨r68, hr69⟩ : ∃ r_, r_ = M.laws_toIntS xs1 := ⟨_, rfl⟩
                        have H := H r68 hr69
                        refine (laws_toIntS.con hp70 hr69 (R1.ext hB) hc1).mono ?_
                        rintro _ w71 ⟨A73, c74, rfl, P7, e72⟩
                        have N2_7 := Own.apart2_new O2 P7 (Nat.le_refl _)
                        have N3_7 := Own.apart2_new O3 P7 (Nat.le_refl _)
                        have N4_7 := Own.apart2_new O4 P7 (Nat.le_refl _)
                        have N5_7 := Own.apart2_new O5 P7 (Nat.le_refl _)
                        have N6_7 := Own.apart2_new O6 P7 (Nat.le_refl _)
                        have O2 := O2.ext e72
                        have O3 := O3.ext e72
                        have O4 := O4.ext e72
                        have O5 := O5.ext e72
                        have O6 := O6.ext e72
                        have O7 := P7.mono hB.size
                        have hB := ethen hB e72
                        refine ⟨A73, r68.length, c74, rfl, ?_⟩
                        obtain ⟨r75, hr76⟩ : ∃ r_, r_ = M.impl_AddTogether x0 r68 := ⟨_, rfl⟩
                        have H := H r75 hr76
                        refine (impl_AddTogether.con hr76 O7.row O7.le).mono ?_
                        rintro _ w78 ⟨A80, c81, rfl, P8, e79⟩
                        have N2_8 := Own.apart2_new O2 P8 (Nat.le_refl _)
                        have N3_8 := Own.apart2_new O3 P8 (Nat.le_refl _)
                        have N4_8 := Own.apart2_new O4 P8 (Nat.le_refl _)
                        have N5_8 := Own.apart2_new O5 P8 (Nat.le_refl _)
                        have N6_8 := Own.apart2_new O6 P8 (Nat.le_refl _)
                        have N7_8 := Own.apart2_new O7 P8 (Nat.le_refl _)
                        have O2 := O2.ext e79
                        have O3 := O3.ext e79
                        have O4 := O4.ext e79
                        have O5 := O5.ext e79
                        have O6 := O6.ext e79
                        have O7 := O7.ext e79
                        have O8 := P8.mono hB.size
                        have hB := ethen hB e79
                        refine ⟨(.slice A80 r75.1.length c81), ?_⟩
                        refine ⟨A80, r75.1.length, c81, rfl, ?_⟩
                        refine ⟨(.int .i64 r75.2.1), ?_⟩
                        refine ⟨r75.2.1, rfl, ?_⟩
                        refine ⟨(.bool r75.2.2), ?_⟩
                        refine ⟨r75.2.2, rfl, ?_⟩
                        refine ⟨rfl, ?_⟩
                        obtain ⟨hp84, H⟩ := H
                        obtain ⟨r82, hr83⟩ : ∃ r_, r_ = M.laws_eqIntS r75.1 r8.1 := ⟨_, rfl⟩
                        have H := H r82 hr83
                        refine (laws_eqIntS.con hp84 hr83 O8.row O8.le O3.row O3.le).mono ?_
                        rintro _ w85 ⟨rfl, e86⟩
                        have O2 := O2.ext e86
                        have O3 := O3.ext e86
                        have O4 := O4.ext e86
                        have O5 := O5.ext e86
                        have O6 := O6.ext e86
                        have O7 := O7.ext e86
                        have O8 := O8.ext e86
                        have hB := ethen hB e86
                        refine ⟨r82, rfl, ?_⟩
                        refine bcase_mk (fun hc96 => ?_) (fun hc96 => ?_)
                        · have H := (bcase_iff.1 H).1 hc96
                          obtain rfl := hr.trans H.symm
                          exact ⟨rfl, hB⟩
                        · have H := (bcase_iff.1 H).2 hc96
                          refine bcase_mk (fun hc95 => ?_) (fun hc95 => ?_)
                          · have H := (bcase_iff.1 H).1 hc95
                            obtain rfl := hr.trans H.symm
                            exact ⟨rfl, hB⟩
                          · have H := (bcase_iff.1 H).2 hc95
                            refine bcase_mk (fun hc94 => ?_) (fun hc94 => ?_)
                            · have H := (bcase_iff.1 H).1 hc94
                              obtain rfl := hr.trans H.symm
                              exact ⟨rfl, hB⟩
                            · have H := (bcase_iff.1 H).2 hc94
                              obtain ⟨hp89, H⟩ := H
                              obtain ⟨r87, hr88⟩ : ∃ r_, r_ = M.laws_heldIntS r57.2 1 := ⟨_, rfl⟩
                              have H := H r87 hr88
                              refine (cllArgs (by first | (simp only [List.length_set, hl62]; done) | (simp; done)) (laws_heldIntS.con hp89 hr88 O5.row O5.le)).mono ?_
                              rintro _ w90 ⟨rfl, e91⟩
                              have O2 := O2.ext e91
                              have O3 := O3.ext e91
                              have O4 := O4.ext e91
                              have O5 := O5.ext e91
                              have O6 := O6.ext e91
                              have O7 := O7.ext e91
                              have O8 := O8.ext e91
                              have hB := ethen hB e91
                              refine ⟨r87, rfl, ?_⟩
                              refine bcase_mk (fun hc93 => ?_) (fun hc93 => ?_)
                              · have H := (bcase_iff.1 H).1 hc93
                                obtain rfl := hr.trans H.symm
                                exact ⟨rfl, hB⟩
                              · have H := (bcase_iff.1 H).2 hc93
                                refine bcase_mk (fun hc92 => ?_) (fun hc92 => ?_)
                                · have H := (bcase_iff.1 H).1 hc92
                                  obtain rfl := hr.trans H.symm
                                  exact ⟨rfl, hB⟩
                                · have H := (bcase_iff.1 H).2 hc92
                                  obtain rfl := hr.trans H.symm
                                  exact ⟨rfl, hB⟩

end Go.V
