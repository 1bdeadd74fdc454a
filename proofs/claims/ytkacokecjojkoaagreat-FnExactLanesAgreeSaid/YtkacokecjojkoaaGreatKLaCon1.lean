import Derived.Test.YtkacokecjojkoaaGreatKLaMath2
import Derived.Test.YtkacokecjojkoaaGreatSeat
import Derived.Test.YtkacokecjojkoaaGreatVPlc
namespace Go.V
open Go.Proofs
set_option linter.unusedVariables false
set_option linter.unusedSimpArgs false
set_option maxRecDepth 100000
def impl_within.vc (x0 : Int) (x1 : Int) (x2 : Int) (w : World) (K : Value → World → Prop) : Prop :=
  bcase (decide (x0 ≥ x1)) (K (.bool (decide (x0 ≤ x2))) w) (K (.bool false) w)

def impl_within.ann : Ann := (.seq .l (.seq .l .l))

theorem impl_within.start {x0 : Int} {x1 : Int} {x2 : Int} {w : World} {K : Value → World → Prop} (h : impl_within.vc x0 x1 x2 w K) : Cll Tryz.prog 75 #[(.int .i64 x0), (.int .i64 x1), (.int .i64 x2)] w K :=
  vcF_sound mixed (fn := Tryz.f75) (by kernel_rfl) (by kernel_rfl) (an := impl_within.ann) (args := [(.int .i64 x0), (.int .i64 x1), (.int .i64 x2)]) (Eq.mpr (by kernel_rfl) h)

theorem impl_within.con {x0 : Int} {x1 : Int} {x2 : Int} {r : Bool} {w : World} (hr : r = M.impl_within x0 x1 x2)  :
    Cll Tryz.prog 75 #[(.int .i64 x0), (.int .i64 x1), (.int .i64 x2)] w (fun v_ w_ => v_ = (.bool r) ∧ Ext w w_) := by
  have H := wp.impl_within.math x0 x1 x2
  have hB := Ext.refl w
  refine impl_within.start ?_
  unfold impl_within.vc
  unfold wp.impl_within at H
  refine bcase_mk (fun hc21 => ?_) (fun hc21 => ?_)
  · have H := (bcase_iff.1 H).1 hc21
    obtain rfl := hr.trans H.symm
    exact ⟨rfl, hB⟩
  have H := (bcase_iff.1 H).2 hc21
  obtain rfl := hr.trans H.symm
  exact ⟨rfl, hB⟩
def spec_l01In.vc (x0 : Int) (x1 : Int) (x2 : Int) (w : World) (K : Value → World → Prop) : Prop :=
  bcase (decide (x0 ≥ x1)) (K (.bool (decide (x0 ≤ x2))) w) (K (.bool false) w)

def spec_l01In.ann : Ann := (.seq .l (.seq .l .l))

theorem spec_l01In.start {x0 : Int} {x1 : Int} {x2 : Int} {w : World} {K : Value → World → Prop} (h : spec_l01In.vc x0 x1 x2 w K) : Cll Tryz.prog 67 #[(.int .i64 x0), (.int .i64 x1), (.int .i64 x2)] w K :=
  vcF_sound mixed (fn := Tryz.f67) (by kernel_rfl) (by kernel_rfl) (an := spec_l01In.ann) (args := [(.int .i64 x0), (.int .i64 x1), (.int .i64 x2)]) (Eq.mpr (by kernel_rfl) h)

theorem spec_l01In.con {x0 : Int} {x1 : Int} {x2 : Int} {r : Bool} {w : World} (hr : r = M.spec_l01In x0 x1 x2)  :
    Cll Tryz.prog 67 #[(.int .i64 x0), (.int .i64 x1), (.int .i64 x2)] w (fun v_ w_ => v_ = (.bool r) ∧ Ext w w_) := by
  have H := wp.spec_l01In.math x0 x1 x2
  have hB := Ext.refl w
  refine spec_l01In.start ?_
  unfold spec_l01In.vc
  unfold wp.spec_l01In at H
  refine bcase_mk (fun hc21 => ?_) (fun hc21 => ?_)
  · have H := (bcase_iff.1 H).1 hc21
    obtain rfl := hr.trans H.symm
    exact ⟨rfl, hB⟩
  have H := (bcase_iff.1 H).2 hc21
  obtain rfl := hr.trans H.symm
  exact ⟨rfl, hB⟩
def impl_IsWord.vc (x0 : Int) (w : World) (K : Value → World → Prop) : Prop :=
  Cll Tryz.prog 75 #[(.int .i64 x0), (.int .i64 0), (.int .i64 65535)] w fun v21 w22 => (∃ (b23 : Bool), v21 = (.bool b23) ∧ K (.bool b23) w22)

def impl_IsWord.ann : Ann := (.seq .l (.seq .l .l))

theorem impl_IsWord.start {x0 : Int} {w : World} {K : Value → World → Prop} (h : impl_IsWord.vc x0 w K) : Cll Tryz.prog 227 #[(.int .i64 x0)] w K :=
  vcF_sound mixed (fn := Tryz.f227) (by kernel_rfl) (by kernel_rfl) (an := impl_IsWord.ann) (args := [(.int .i64 x0)]) (Eq.mpr (by kernel_rfl) h)

theorem impl_IsWord.con {x0 : Int} {r : Bool} {w : World} (hr : r = M.impl_IsWord x0)  :
    Cll Tryz.prog 227 #[(.int .i64 x0)] w (fun v_ w_ => v_ = (.bool r) ∧ Ext w w_) := by
  have H := wp.impl_IsWord.math x0
  have hB := Ext.refl w
  refine impl_IsWord.start ?_
  unfold impl_IsWord.vc
  unfold wp.impl_IsWord at H
  obtain ⟨r21, hr22⟩ : ∃ r_, r_ = M.impl_within x0 0 65535 := ⟨_, rfl⟩
  have H := H r21 hr22
  refine (impl_within.con hr22 ).mono ?_
  rintro _ w24 ⟨rfl, e25⟩
  have hB := ethen hB e25
  refine ⟨r21, rfl, ?_⟩
  obtain rfl := hr.trans H.symm
  exact ⟨rfl, hB⟩
def spec_IsWord.vc (x0 : Int) (w : World) (K : Value → World → Prop) : Prop :=
  Cll Tryz.prog 67 #[(.int .i64 x0), (.int .i64 0), (.int .i64 65535)] w fun v21 w22 => (∃ (b23 : Bool), v21 = (.bool b23) ∧ K (.bool b23) w22)

def spec_IsWord.ann : Ann := (.seq .l (.seq .l .l))

theorem spec_IsWord.start {x0 : Int} {w : World} {K : Value → World → Prop} (h : spec_IsWord.vc x0 w K) : Cll Tryz.prog 193 #[(.int .i64 x0)] w K :=
  vcF_sound mixed (fn := Tryz.f193) (by kernel_rfl) (by kernel_rfl) (an := spec_IsWord.ann) (args := [(.int .i64 x0)]) (Eq.mpr (by kernel_rfl) h)

theorem spec_IsWord.con {x0 : Int} {r : Bool} {w : World} (hr : r = M.spec_IsWord x0)  :
    Cll Tryz.prog 193 #[(.int .i64 x0)] w (fun v_ w_ => v_ = (.bool r) ∧ Ext w w_) := by
  have H := wp.spec_IsWord.math x0
  have hB := Ext.refl w
  refine spec_IsWord.start ?_
  unfold spec_IsWord.vc
  unfold wp.spec_IsWord at H
  obtain ⟨r21, hr22⟩ : ∃ r_, r_ = M.spec_l01In x0 0 65535 := ⟨_, rfl⟩
  have H := H r21 hr22
  refine (spec_l01In.con hr22 ).mono ?_
  rintro _ w24 ⟨rfl, e25⟩
  have hB := ethen hB e25
  refine ⟨r21, rfl, ?_⟩
  obtain rfl := hr.trans H.symm
  exact ⟨rfl, hB⟩
def impl_IsMask.vc (x0 : Int) (w : World) (K : Value → World → Prop) : Prop :=
  Cll Tryz.prog 75 #[(.int .i64 x0), (.int .i64 0), (.int .i64 255)] w fun v21 w22 => (∃ (b23 : Bool), v21 = (.bool b23) ∧ K (.bool b23) w22)

def impl_IsMask.ann : Ann := (.seq .l (.seq .l .l))

theorem impl_IsMask.start {x0 : Int} {w : World} {K : Value → World → Prop} (h : impl_IsMask.vc x0 w K) : Cll Tryz.prog 153 #[(.int .i64 x0)] w K :=
  vcF_sound mixed (fn := Tryz.f153) (by kernel_rfl) (by kernel_rfl) (an := impl_IsMask.ann) (args := [(.int .i64 x0)]) (Eq.mpr (by kernel_rfl) h)

theorem impl_IsMask.con {x0 : Int} {r : Bool} {w : World} (hr : r = M.impl_IsMask x0)  :
    Cll Tryz.prog 153 #[(.int .i64 x0)] w (fun v_ w_ => v_ = (.bool r) ∧ Ext w w_) := by
  have H := wp.impl_IsMask.math x0
  have hB := Ext.refl w
  refine impl_IsMask.start ?_
  unfold impl_IsMask.vc
  unfold wp.impl_IsMask at H
  obtain ⟨r21, hr22⟩ : ∃ r_, r_ = M.impl_within x0 0 255 := ⟨_, rfl⟩
  have H := H r21 hr22
  refine (impl_within.con hr22 ).mono ?_
  rintro _ w24 ⟨rfl, e25⟩
  have hB := ethen hB e25
  refine ⟨r21, rfl, ?_⟩
  obtain rfl := hr.trans H.symm
  exact ⟨rfl, hB⟩
def impl_isLane.vc (x0 : Int) (w : World) (K : Value → World → Prop) : Prop :=
  Cll Tryz.prog 75 #[(.int .i64 x0), (.int .i64 0), (.int .i64 7)] w fun v21 w22 => (∃ (b23 : Bool), v21 = (.bool b23) ∧ K (.bool b23) w22)

def impl_isLane.ann : Ann := (.seq .l (.seq .l .l))

theorem impl_isLane.start {x0 : Int} {w : World} {K : Value → World → Prop} (h : impl_isLane.vc x0 w K) : Cll Tryz.prog 250 #[(.int .i64 x0)] w K :=
  vcF_sound mixed (fn := Tryz.f250) (by kernel_rfl) (by kernel_rfl) (an := impl_isLane.ann) (args := [(.int .i64 x0)]) (Eq.mpr (by kernel_rfl) h)

theorem impl_isLane.con {x0 : Int} {r : Bool} {w : World} (hr : r = M.impl_isLane x0)  :
    Cll Tryz.prog 250 #[(.int .i64 x0)] w (fun v_ w_ => v_ = (.bool r) ∧ Ext w w_) := by
  have H := wp.impl_isLane.math x0
  have hB := Ext.refl w
  refine impl_isLane.start ?_
  unfold impl_isLane.vc
  unfold wp.impl_isLane at H
  obtain ⟨r21, hr22⟩ : ∃ r_, r_ = M.impl_within x0 0 7 := ⟨_, rfl⟩
  have H := H r21 hr22
  refine (impl_within.con hr22 ).mono ?_
  rintro _ w24 ⟨rfl, e25⟩
  have hB := ethen hB e25
  refine ⟨r21, rfl, ?_⟩
  obtain rfl := hr.trans H.symm
  exact ⟨rfl, hB⟩
def impl_HasLane.vc (x0 : Int) (x1 : Int) (w : World) (K : Value → World → Prop) : Prop :=
  Cll Tryz.prog 153 #[(.int .i64 x0)] w fun v21 w22 => (∃ (b23 : Bool), v21 = (.bool b23) ∧ bcase b23 (Cll Tryz.prog 250 #[(.int .i64 x1)] w22 fun v24 w25 => (∃ (b26 : Bool), v24 = (.bool b26) ∧ bcase b26 (((0 : Int) ≤ x1 ∧ K (.bool ((bitAnd .i64 (Int.fdiv x0 (2 ^ (min (x1.toNat) (IntKind.bits .i64)))) 1) == 1)) w25)) (K (.bool false) w25))) (K (.bool false) w22))

def impl_HasLane.ann : Ann := (.seq .l (.seq .l .l))

theorem impl_HasLane.start {x0 : Int} {x1 : Int} {w : World} {K : Value → World → Prop} (h : impl_HasLane.vc x0 x1 w K) : Cll Tryz.prog 213 #[(.int .i64 x0), (.int .i64 x1)] w K :=
  vcF_sound mixed (fn := Tryz.f213) (by kernel_rfl) (by kernel_rfl) (an := impl_HasLane.ann) (args := [(.int .i64 x0), (.int .i64 x1)]) (Eq.mpr (by kernel_rfl) h)

theorem impl_HasLane.con {x0 : Int} {x1 : Int} {r : Bool} {w : World} (hr : r = M.impl_HasLane x0 x1)  :
    Cll Tryz.prog 213 #[(.int .i64 x0), (.int .i64 x1)] w (fun v_ w_ => v_ = (.bool r) ∧ Ext w w_) := by
  have H := wp.impl_HasLane.math x0 x1
  have hB := Ext.refl w
  refine impl_HasLane.start ?_
  unfold impl_HasLane.vc
  unfold wp.impl_HasLane at H
  obtain ⟨r21, hr22⟩ : ∃ r_, r_ = M.impl_IsMask x0 := ⟨_, rfl⟩
  have H := H r21 hr22
  refine (impl_IsMask.con hr22 ).mono ?_
  rintro _ w24 ⟨rfl, e25⟩
  have hB := ethen hB e25
  refine ⟨r21, rfl, ?_⟩
  refine bcase_mk (fun hc33 => ?_) (fun hc33 => ?_)
  · have H := (bcase_iff.1 H).1 hc33
    obtain ⟨r26, hr27⟩ : ∃ r_, r_ = M.impl_isLane x1 := ⟨_, rfl⟩
    have H := H r26 hr27
    refine (impl_isLane.con hr27 ).mono ?_
    rintro _ w29 ⟨rfl, e30⟩
    have hB := ethen hB e30
    refine ⟨r26, rfl, ?_⟩
    refine bcase_mk (fun hc32 => ?_) (fun hc32 => ?_)
    · have H := (bcase_iff.1 H).1 hc32
      obtain ⟨hc31, H⟩ := H
      refine ⟨hc31, ?_⟩
      obtain rfl := hr.trans H.symm
      exact ⟨rfl, hB⟩
    have H := (bcase_iff.1 H).2 hc32
    obtain rfl := hr.trans H.symm
    exact ⟨rfl, hB⟩
  have H := (bcase_iff.1 H).2 hc33
  obtain rfl := hr.trans H.symm
  exact ⟨rfl, hB⟩
def impl_LanesOf.vc (x0 : Int) (w : World) (K : Value → World → Prop) : Prop :=
  Run Tryz.prog (Instr.buildSlice 24 0 #[]) w fun v21 w22 => ∃ (A23 : Option Addr) (n24 c25 : Nat), v21 = .slice A23 n24 c25 ∧ LoopT (σ := (Option Addr × Nat × Nat) × Int × Unit) (fun z26 w27 next28 => bcase (decide (z26.2.1 < 8)) (Cll Tryz.prog 213 #[(.int .i64 x0), (.int .i64 z26.2.1)] w27 fun v29 w30 => (∃ (b31 : Bool), v29 = (.bool b31) ∧ bcase b31 (Run Tryz.prog (Instr.buildSlice 24 1 #[(0, (.int .i64 z26.2.1))]) w30 fun v32 w33 => ∃ (A34 : Option Addr) (n35 c36 : Nat), v32 = .slice A34 n35 c36 ∧ Run Tryz.prog (Builtin.append_ #[24, 24] 24 #[(.slice z26.1.1 z26.1.2.1 z26.1.2.2), (.slice A34 n35 c36)]) w33 fun v37 w38 => ∃ (A39 : Option Addr) (n40 c41 : Nat), v37 = .slice A39 n40 c41 ∧ next28 ((A39, n40, c41), (IntKind.wrap .i64 (z26.2.1 + 1)), ()) w38) (next28 ((z26.1.1, z26.1.2.1, z26.1.2.2), (IntKind.wrap .i64 (z26.2.1 + 1)), ()) w30))) (K (.slice z26.1.1 z26.1.2.1 z26.1.2.2) w27)) ((A23, n24, c25), 0, ()) w22

def impl_LanesOf.ann : Ann := (.seq .l (.seq .l (.seq (.seq .l (.one (.loop [(3, .sl), (6, .int .i64)] (.seq .l (.seq (.two .l .l) (.seq (.one (.seq .l (.seq .l (.two .l .l)))) .l)))))) (.seq .l .l))))

theorem impl_LanesOf.start {x0 : Int} {w : World} {K : Value → World → Prop} (h : impl_LanesOf.vc x0 w K) : Cll Tryz.prog 170 #[(.int .i64 x0)] w K :=
  vcF_sound mixed (fn := Tryz.f170) (by kernel_rfl) (by kernel_rfl) (an := impl_LanesOf.ann) (args := [(.int .i64 x0)]) (Eq.mpr (by kernel_rfl) h)

theorem impl_LanesOf.con {x0 : Int} {r : List Int} {w : World} (hr : r = M.impl_LanesOf x0)  :
    Cll Tryz.prog 170 #[(.int .i64 x0)] w (fun v_ w_ => ∃ (A0_ : Option Addr) (c0_ : Nat), v_ = (.slice A0_ r.length c0_) ∧ Own el3 w_ w.heap.size A0_ c0_ r ∧ Ext w w_) := by
  have H := wp.impl_LanesOf.math x0
  have hB := Ext.refl w
  refine impl_LanesOf.start ?_
  unfold impl_LanesOf.vc
  unfold wp.impl_LanesOf at H
  refine buildOwn el3 ([] : List Int) (fun _ => by kernel_rfl) rfl (fun A21 w22 P1 e23 => ?_)
  have O1 := P1.mono hB.size
  have hB := ethen hB e23
  obtain ⟨J29, ⟨m56, hJ55⟩, hS30⟩ := H
  refine ⟨fun m_ z_ w_ => ∃ (xs24 : List Int) (i27 : Int) (A25 : Option Addr) (c26 : Nat), z_ = ((A25, xs24.length, c26), i27, ()) ∧ J29 m_ (xs24, i27, ()) ∧ Ext w w_ ∧ Own el3 w_ w.heap.size A25 c26 xs24, ⟨m56, ([] : List Int), 0, A21, 0, rfl, hJ55, hB, O1⟩, ?_⟩
  rintro m28 _ w32 ⟨xs24, i27, A25, c26, rfl, hJ57, hB, O2⟩
  have H := hS30 m28 _ hJ57
  clear hS30 hJ57
  try dsimp only at H ⊢
  refine bcase_mk (fun hc53 => ?_) (fun hc53 => ?_)
  · have H := (bcase_iff.1 H).1 hc53
    obtain ⟨r33, hr34⟩ : ∃ r_, r_ = M.impl_HasLane x0 i27 := ⟨_, rfl⟩
    have H := H r33 hr34
    refine (impl_HasLane.con hr34 ).mono ?_
    rintro _ w36 ⟨rfl, e37⟩
    have O2 := O2.ext e37
    have hB := ethen hB e37
    refine ⟨r33, rfl, ?_⟩
    refine bcase_mk (fun hc52 => ?_) (fun hc52 => ?_)
    · have H := (bcase_iff.1 H).1 hc52
      refine buildOwn el3 ([i27] : List Int) (fun _ => by kernel_rfl) rfl (fun A38 w39 P3 e40 => ?_)
      have N2_3 := Own.apart2_new O2 P3 (Nat.le_refl _)
      have O2 := O2.ext e40
      have O3 := P3.mono hB.size
      have hB := ethen hB e40
      obtain ⟨hl45, H⟩ := H
      refine appOwn slt24 slt24.under O2 O3.row hB.size rfl (by first | rfl | omega | (simp; done) | (simp; omega)) hl45 (fun A41 c42 w43 P2 e44 => ?_)
      have N3_2_ := Apart2.app (N2_3).symm e44 O3
      have O3 := O3.app e44 (N2_3).symm
      have N3_2 := N3_2_
      have hB := eapp hB e44 O2
      have O2 := P2
      obtain ⟨m46, hm47, hJ48⟩ := H
      exact ⟨m46, hm47, (xs24 ++ ([i27] : List Int)), (IntKind.wrap .i64 (i27 + 1)), A41, c42, rfl, hJ48, hB, O2⟩
    have H := (bcase_iff.1 H).2 hc52
    obtain ⟨m49, hm50, hJ51⟩ := H
    exact ⟨m49, hm50, xs24, (IntKind.wrap .i64 (i27 + 1)), A25, c26, rfl, hJ51, hB, O2⟩
  have H := (bcase_iff.1 H).2 hc53
  obtain rfl := hr.trans H.symm
  exact ⟨A25, c26, rfl, O2, hB⟩
def spec_AreWords.vc (A0 : Option Addr) (n0 : Nat) (c0 : Nat) (w : World) (K : Value → World → Prop) : Prop :=
  LoopT (σ := Int × Unit) (fun z21 w22 next23 => bcase (decide (z21.1 < ((n0 : Nat) : Int))) (((0 : Int) ≤ z21.1 ∧ z21.1 < ((n0 : Nat) : Int) ∧ ∃ a24 : Addr, A0 = some a24 ∧ ∃ (n25 : Int), w22.cell? ((a24.add ((z21.1.toNat) * 1)).add 0) = some (.int .i64 n25) ∧ Cll Tryz.prog 193 #[(.int .i64 n25)] w22 fun v26 w27 => (∃ (b28 : Bool), v26 = (.bool b28) ∧ bcase (!b28) (K (.bool false) w27) (next23 ((IntKind.wrap .i64 (z21.1 + 1)), ()) w27)))) (K (.bool true) w22)) (0, ()) w

def spec_AreWords.ann : Ann := (.seq .l (.seq (.seq .l (.one (.loop [(3, .int .i64)] (.seq (.seq .l (.two .l .l)) (.seq (.one (.seq .l (.two (.seq .l .l) .l))) .l))))) (.seq .l .l)))

theorem spec_AreWords.start {A0 : Option Addr} {n0 : Nat} {c0 : Nat} {w : World} {K : Value → World → Prop} (h : spec_AreWords.vc A0 n0 c0 w K) : Cll Tryz.prog 135 #[(.slice A0 n0 c0)] w K :=
  vcF_sound mixed (fn := Tryz.f135) (by kernel_rfl) (by kernel_rfl) (an := spec_AreWords.ann) (args := [(.slice A0 n0 c0)]) (Eq.mpr (by kernel_rfl) h)

theorem spec_AreWords.con {xs0 : List Int} {A0 : Option Addr} {c0 : Nat} {r : Bool} {w : World} (hp : M.spec_AreWords_pre xs0) (hr : r = M.spec_AreWords xs0) (R0 : Row el3 w A0 xs0) (hc0 : xs0.length ≤ c0) :
    Cll Tryz.prog 135 #[(.slice A0 xs0.length c0)] w (fun v_ w_ => v_ = (.bool r) ∧ Ext w w_) := by
  have H := wp.spec_AreWords.math xs0 hp
  have hB := Ext.refl w
  refine spec_AreWords.start ?_
  unfold spec_AreWords.vc
  unfold wp.spec_AreWords at H
  obtain ⟨J23, ⟨m44, hJ43⟩, hS24⟩ := H
  refine ⟨fun m_ z_ w_ => ∃ (i21 : Int), z_ = (i21, ()) ∧ J23 m_ (i21, ()) ∧ Ext w w_, ⟨m44, 0, rfl, hJ43, hB⟩, ?_⟩
  rintro m22 _ w26 ⟨i21, rfl, hJ45, hB⟩
  have H := hS24 m22 _ hJ45
  clear hS24 hJ45
  try dsimp only at H ⊢
  refine bcase_mk (fun hc41 => ?_) (fun hc41 => ?_)
  · have H := (bcase_iff.1 H).1 hc41
    obtain ⟨⟨h0_30, h1_31⟩, H⟩ := H
    obtain ⟨a28, ha29, hat27⟩ := Row.at (R0.ext hB) h0_30 h1_31
    refine ⟨h0_30, h1_31, a28, ha29, ?_⟩
    refine ⟨_, (hat27 0 _ rfl), ?_⟩
    obtain ⟨r32, hr33⟩ : ∃ r_, r_ = M.spec_IsWord (rd xs0 i21) := ⟨_, rfl⟩
    have H := H r32 hr33
    refine (spec_IsWord.con hr33 ).mono ?_
    rintro _ w35 ⟨rfl, e36⟩
    have hB := ethen hB e36
    refine ⟨r32, rfl, ?_⟩
    refine bcase_mk (fun hc40 => ?_) (fun hc40 => ?_)
    · have H := (bcase_iff.1 H).1 hc40
      obtain rfl := hr.trans H.symm
      exact ⟨rfl, hB⟩
    have H := (bcase_iff.1 H).2 hc40
    obtain ⟨m37, hm38, hJ39⟩ := H
    exact ⟨m37, hm38, (IntKind.wrap .i64 (i21 + 1)), rfl, hJ39, hB⟩
  have H := (bcase_iff.1 H).2 hc41
  obtain rfl := hr.trans H.symm
  exact ⟨rfl, hB⟩
def spec_WrapWord.vc (x0 : Int) (w : World) (K : Value → World → Prop) : Prop :=
  ((65536 : Int) ≠ 0 ∧ ((65536 : Int) ≠ 0 ∧ K (.int .i64 (Int.tmod (IntKind.wrap .i64 ((Int.tmod x0 65536) + 65536)) 65536)) w))

def spec_WrapWord.ann : Ann := (.seq .l (.seq .l .l))

theorem spec_WrapWord.start {x0 : Int} {w : World} {K : Value → World → Prop} (h : spec_WrapWord.vc x0 w K) : Cll Tryz.prog 261 #[(.int .i64 x0)] w K :=
  vcF_sound mixed (fn := Tryz.f261) (by kernel_rfl) (by kernel_rfl) (an := spec_WrapWord.ann) (args := [(.int .i64 x0)]) (Eq.mpr (by kernel_rfl) h)

theorem spec_WrapWord.con {x0 : Int} {r : Int} {w : World} (hr : r = M.spec_WrapWord x0)  :
    Cll Tryz.prog 261 #[(.int .i64 x0)] w (fun v_ w_ => v_ = (.int .i64 r) ∧ Ext w w_) := by
  have H := wp.spec_WrapWord.math x0
  have hB := Ext.refl w
  refine spec_WrapWord.start ?_
  unfold spec_WrapWord.vc
  unfold wp.spec_WrapWord at H
  refine ⟨by decide, ?_⟩
  refine ⟨by decide, ?_⟩
  obtain rfl := hr.trans H.symm
  exact ⟨rfl, hB⟩
def spec_AddWords.vc (x0 : Int) (x1 : Int) (w : World) (K : Value → World → Prop) : Prop :=
  Cll Tryz.prog 193 #[(.int .i64 x0)] w fun v21 w22 => (∃ (b23 : Bool), v21 = (.bool b23) ∧ bcase (!b23) (K (.int .i64 0) w22) (Cll Tryz.prog 193 #[(.int .i64 x1)] w22 fun v24 w25 => (∃ (b26 : Bool), v24 = (.bool b26) ∧ bcase (!b26) (K (.int .i64 0) w25) (Cll Tryz.prog 261 #[(.int .i64 (IntKind.wrap .i64 (x0 + x1)))] w25 fun v27 w28 => (∃ (n29 : Int), v27 = (.int .i64 n29) ∧ K (.int .i64 n29) w28)))))

def spec_AddWords.ann : Ann := (.seq .l (.seq (.seq .l (.two (.seq .l .l) .l)) (.seq .l .l)))

theorem spec_AddWords.start {x0 : Int} {x1 : Int} {w : World} {K : Value → World → Prop} (h : spec_AddWords.vc x0 x1 w K) : Cll Tryz.prog 217 #[(.int .i64 x0), (.int .i64 x1)] w K :=
  vcF_sound mixed (fn := Tryz.f217) (by kernel_rfl) (by kernel_rfl) (an := spec_AddWords.ann) (args := [(.int .i64 x0), (.int .i64 x1)]) (Eq.mpr (by kernel_rfl) h)

theorem spec_AddWords.con {x0 : Int} {x1 : Int} {r : Int} {w : World} (hr : r = M.spec_AddWords x0 x1)  :
    Cll Tryz.prog 217 #[(.int .i64 x0), (.int .i64 x1)] w (fun v_ w_ => v_ = (.int .i64 r) ∧ Ext w w_) := by
  have H := wp.spec_AddWords.math x0 x1
  have hB := Ext.refl w
  refine spec_AddWords.start ?_
  unfold spec_AddWords.vc
  unfold wp.spec_AddWords at H
  obtain ⟨r21, hr22⟩ : ∃ r_, r_ = M.spec_IsWord x0 := ⟨_, rfl⟩
  have H := H r21 hr22
  refine (spec_IsWord.con hr22 ).mono ?_
  rintro _ w24 ⟨rfl, e25⟩
  have hB := ethen hB e25
  refine ⟨r21, rfl, ?_⟩
  refine bcase_mk (fun hc37 => ?_) (fun hc37 => ?_)
  · have H := (bcase_iff.1 H).1 hc37
    obtain rfl := hr.trans H.symm
    exact ⟨rfl, hB⟩
  have H := (bcase_iff.1 H).2 hc37
  obtain ⟨r26, hr27⟩ : ∃ r_, r_ = M.spec_IsWord x1 := ⟨_, rfl⟩
  have H := H r26 hr27
  refine (spec_IsWord.con hr27 ).mono ?_
  rintro _ w29 ⟨rfl, e30⟩
  have hB := ethen hB e30
  refine ⟨r26, rfl, ?_⟩
  refine bcase_mk (fun hc36 => ?_) (fun hc36 => ?_)
  · have H := (bcase_iff.1 H).1 hc36
    obtain rfl := hr.trans H.symm
    exact ⟨rfl, hB⟩
  have H := (bcase_iff.1 H).2 hc36
  obtain ⟨r31, hr32⟩ : ∃ r_, r_ = M.spec_WrapWord (IntKind.wrap .i64 (x0 + x1)) := ⟨_, rfl⟩
  have H := H r31 hr32
  refine (spec_WrapWord.con hr32 ).mono ?_
  rintro _ w34 ⟨rfl, e35⟩
  have hB := ethen hB e35
  refine ⟨r31, rfl, ?_⟩
  obtain rfl := hr.trans H.symm
  exact ⟨rfl, hB⟩
def slices_IndexFunc_int_int.vc (A0 : Option Addr) (n0 : Nat) (c0 : Nat) (f1 : Nat) (cap1 : Array Value) (w : World) (K : Value → World → Prop) : Prop :=
  LoopT (σ := Int × Unit) (fun z21 w22 next23 => bcase (decide (z21.1 < ((n0 : Nat) : Int))) (((0 : Int) ≤ z21.1 ∧ z21.1 < ((n0 : Nat) : Int) ∧ ∃ a24 : Addr, A0 = some a24 ∧ ∃ (n25 : Int), w22.cell? ((a24.add ((z21.1.toNat) * 1)).add 0) = some (.int .i64 n25) ∧ Cll Tryz.prog f1 (#[(.int .i64 n25)] ++ cap1) w22 fun v26 w27 => (∃ (b28 : Bool), v26 = (.bool b28) ∧ bcase b28 (K (.int .i64 z21.1) w27) (next23 ((IntKind.wrap .i64 (z21.1 + 1)), ()) w27)))) (K (.int .i64 (-1)) w22)) (0, ()) w

def slices_IndexFunc_int_int.ann : Ann := (.seq .l (.seq (.seq .l (.one (.loop [(8, .int .i64)] (.seq .l (.seq (.two .l .l) (.seq (.one (.seq .l (.seq .l (.two (.seq .l .l) .l)))) .l)))))) (.seq .l .l)))

theorem slices_IndexFunc_int_int.start {A0 : Option Addr} {n0 : Nat} {c0 : Nat} {f1 : Nat} {cap1 : Array Value} {w : World} {K : Value → World → Prop} (h : slices_IndexFunc_int_int.vc A0 n0 c0 f1 cap1 w K) : Cll Tryz.prog 265 #[(.slice A0 n0 c0), (.func (.func f1) #[] cap1)] w K :=
  vcF_sound mixed (fn := Tryz.f265) (by kernel_rfl) (by kernel_rfl) (an := slices_IndexFunc_int_int.ann) (args := [(.slice A0 n0 c0), (.func (.func f1) #[] cap1)]) (Eq.mpr (by kernel_rfl) h)

theorem slices_IndexFunc_int_int.con {xs0 : List Int} {A0 : Option Addr} {c0 : Nat} {f1 : Nat} {cap1 : Array Value} {g1 : Int → Bool} {D1 : Int → Prop} {r : Int} {w : World} (hp : M.slices_IndexFunc_int_int_pre xs0 g1 D1) (hr : r = M.slices_IndexFunc_int_int xs0 g1) (R0 : Row el3 w A0 xs0) (hc0 : xs0.length ≤ c0) (F1 : ∀ (z0_ : Int), D1 z0_ → ∀ w_ : World, Ext w w_ → Cll Tryz.prog f1 (#[(.int .i64 z0_)] ++ cap1) w_ (fun v_ w1_ => v_ = (.bool (g1 z0_)) ∧ Ext w_ w1_)) :
    Cll Tryz.prog 265 #[(.slice A0 xs0.length c0), (.func (.func f1) #[] cap1)] w (fun v_ w_ => v_ = (.int .i64 r) ∧ Ext w w_) := by
  have H := wp.slices_IndexFunc_int_int.math xs0 g1 D1 hp
  have hB := Ext.refl w
  refine slices_IndexFunc_int_int.start ?_
  unfold slices_IndexFunc_int_int.vc
  unfold wp.slices_IndexFunc_int_int at H
  obtain ⟨J23, ⟨m44, hJ43⟩, hS24⟩ := H
  refine ⟨fun m_ z_ w_ => ∃ (i21 : Int), z_ = (i21, ()) ∧ J23 m_ (i21, ()) ∧ Ext w w_, ⟨m44, 0, rfl, hJ43, hB⟩, ?_⟩
  rintro m22 _ w26 ⟨i21, rfl, hJ45, hB⟩
  have H := hS24 m22 _ hJ45
  clear hS24 hJ45
  try dsimp only at H ⊢
  refine bcase_mk (fun hc41 => ?_) (fun hc41 => ?_)
  · have H := (bcase_iff.1 H).1 hc41
    obtain ⟨⟨h0_30, h1_31⟩, H⟩ := H
    obtain ⟨a28, ha29, hat27⟩ := Row.at (R0.ext hB) h0_30 h1_31
    refine ⟨h0_30, h1_31, a28, ha29, ?_⟩
    refine ⟨_, (hat27 0 _ rfl), ?_⟩
    obtain ⟨hd34, H⟩ := H
    obtain ⟨r32, hr33⟩ : ∃ r_, r_ = g1 (rd xs0 i21) := ⟨_, rfl⟩
    have H := H r32 hr33
    refine (F1 (rd xs0 i21) hd34 _ hB).mono ?_
    rintro _ w35 ⟨rfl, e36⟩
    rw [← hr33]
    have hB := ethen hB e36
    refine ⟨r32, rfl, ?_⟩
    refine bcase_mk (fun hc40 => ?_) (fun hc40 => ?_)
    · have H := (bcase_iff.1 H).1 hc40
      obtain rfl := hr.trans H.symm
      exact ⟨rfl, hB⟩
    have H := (bcase_iff.1 H).2 hc40
    obtain ⟨m37, hm38, hJ39⟩ := H
    exact ⟨m37, hm38, (IntKind.wrap .i64 (i21 + 1)), rfl, hJ39, hB⟩
  have H := (bcase_iff.1 H).2 hc41
  obtain rfl := hr.trans H.symm
  exact ⟨rfl, hB⟩
def slices_ContainsFunc_int_int.vc (A0 : Option Addr) (n0 : Nat) (c0 : Nat) (f1 : Nat) (cap1 : Array Value) (w : World) (K : Value → World → Prop) : Prop :=
  Cll Tryz.prog 265 #[(.slice A0 n0 c0), (.func (.func f1) #[] cap1)] w fun v21 w22 => (∃ (n23 : Int), v21 = (.int .i64 n23) ∧ K (.bool (decide (n23 ≥ 0))) w22)

def slices_ContainsFunc_int_int.ann : Ann := (.seq .l (.seq .l .l))

theorem slices_ContainsFunc_int_int.start {A0 : Option Addr} {n0 : Nat} {c0 : Nat} {f1 : Nat} {cap1 : Array Value} {w : World} {K : Value → World → Prop} (h : slices_ContainsFunc_int_int.vc A0 n0 c0 f1 cap1 w K) : Cll Tryz.prog 225 #[(.slice A0 n0 c0), (.func (.func f1) #[] cap1)] w K :=
  vcF_sound mixed (fn := Tryz.f225) (by kernel_rfl) (by kernel_rfl) (an := slices_ContainsFunc_int_int.ann) (args := [(.slice A0 n0 c0), (.func (.func f1) #[] cap1)]) (Eq.mpr (by kernel_rfl) h)

theorem slices_ContainsFunc_int_int.con {xs0 : List Int} {A0 : Option Addr} {c0 : Nat} {f1 : Nat} {cap1 : Array Value} {g1 : Int → Bool} {D1 : Int → Prop} {r : Bool} {w : World} (hp : M.slices_ContainsFunc_int_int_pre xs0 g1 D1) (hr : r = M.slices_ContainsFunc_int_int xs0 g1) (R0 : Row el3 w A0 xs0) (hc0 : xs0.length ≤ c0) (F1 : ∀ (z0_ : Int), D1 z0_ → ∀ w_ : World, Ext w w_ → Cll Tryz.prog f1 (#[(.int .i64 z0_)] ++ cap1) w_ (fun v_ w1_ => v_ = (.bool (g1 z0_)) ∧ Ext w_ w1_)) :
    Cll Tryz.prog 225 #[(.slice A0 xs0.length c0), (.func (.func f1) #[] cap1)] w (fun v_ w_ => v_ = (.bool r) ∧ Ext w w_) := by
  have H := wp.slices_ContainsFunc_int_int.math xs0 g1 D1 hp
  have hB := Ext.refl w
  refine slices_ContainsFunc_int_int.start ?_
  unfold slices_ContainsFunc_int_int.vc
  unfold wp.slices_ContainsFunc_int_int at H
  obtain ⟨hp23, H⟩ := H
  obtain ⟨r21, hr22⟩ : ∃ r_, r_ = M.slices_IndexFunc_int_int xs0 g1 := ⟨_, rfl⟩
  have H := H r21 hr22
  refine (slices_IndexFunc_int_int.con hp23 hr22 (R0.ext hB) hc0 (fun z0_  h_ w_ e_ => F1 z0_  h_ w_ (ethen hB e_))).mono ?_
  rintro _ w24 ⟨rfl, e25⟩
  have hB := ethen hB e25
  refine ⟨r21, rfl, ?_⟩
  obtain rfl := hr.trans H.symm
  exact ⟨rfl, hB⟩
def impl_AreWords_1.vc (x0 : Int) (w : World) (K : Value → World → Prop) : Prop :=
  Cll Tryz.prog 227 #[(.int .i64 x0)] w fun v21 w22 => (∃ (b23 : Bool), v21 = (.bool b23) ∧ K (.bool (!b23)) w22)

def impl_AreWords_1.ann : Ann := (.seq .l (.seq .l .l))

theorem impl_AreWords_1.start {x0 : Int} {w : World} {K : Value → World → Prop} (h : impl_AreWords_1.vc x0 w K) : Cll Tryz.prog 226 #[(.int .i64 x0)] w K :=
  vcF_sound mixed (fn := Tryz.f226) (by kernel_rfl) (by kernel_rfl) (an := impl_AreWords_1.ann) (args := [(.int .i64 x0)]) (Eq.mpr (by kernel_rfl) h)

theorem impl_AreWords_1.con {x0 : Int} {r : Bool} {w : World} (hr : r = M.impl_AreWords_1 x0)  :
    Cll Tryz.prog 226 #[(.int .i64 x0)] w (fun v_ w_ => v_ = (.bool r) ∧ Ext w w_) := by
  have H := wp.impl_AreWords_1.math x0
  have hB := Ext.refl w
  refine impl_AreWords_1.start ?_
  unfold impl_AreWords_1.vc
  unfold wp.impl_AreWords_1 at H
  obtain ⟨r21, hr22⟩ : ∃ r_, r_ = M.impl_IsWord x0 := ⟨_, rfl⟩
  have H := H r21 hr22
  refine (impl_IsWord.con hr22 ).mono ?_
  rintro _ w24 ⟨rfl, e25⟩
  have hB := ethen hB e25
  refine ⟨r21, rfl, ?_⟩
  obtain rfl := hr.trans H.symm
  exact ⟨rfl, hB⟩
def impl_AreWords.vc (A0 : Option Addr) (n0 : Nat) (c0 : Nat) (w : World) (K : Value → World → Prop) : Prop :=
  Cll Tryz.prog 225 #[(.slice A0 n0 c0), (.func (.func 226) #[] #[])] w fun v21 w22 => (∃ (b23 : Bool), v21 = (.bool b23) ∧ K (.bool (!b23)) w22)

def impl_AreWords.ann : Ann := (.seq .l (.seq .l .l))

theorem impl_AreWords.start {A0 : Option Addr} {n0 : Nat} {c0 : Nat} {w : World} {K : Value → World → Prop} (h : impl_AreWords.vc A0 n0 c0 w K) : Cll Tryz.prog 198 #[(.slice A0 n0 c0)] w K :=
  vcF_sound mixed (fn := Tryz.f198) (by kernel_rfl) (by kernel_rfl) (an := impl_AreWords.ann) (args := [(.slice A0 n0 c0)]) (Eq.mpr (by kernel_rfl) h)

theorem impl_AreWords.con {xs0 : List Int} {A0 : Option Addr} {c0 : Nat} {r : Bool} {w : World} (hp : M.impl_AreWords_pre xs0) (hr : r = M.impl_AreWords xs0) (R0 : Row el3 w A0 xs0) (hc0 : xs0.length ≤ c0) :
    Cll Tryz.prog 198 #[(.slice A0 xs0.length c0)] w (fun v_ w_ => v_ = (.bool r) ∧ Ext w w_) := by
  have H := wp.impl_AreWords.math xs0 hp
  have hB := Ext.refl w
  refine impl_AreWords.start ?_
  unfold impl_AreWords.vc
  unfold wp.impl_AreWords at H
  obtain ⟨hp23, H⟩ := H
  obtain ⟨r21, hr22⟩ : ∃ r_, r_ = M.slices_ContainsFunc_int_int xs0 (fun z0_ => M.impl_AreWords_1 z0_) := ⟨_, rfl⟩
  have H := H r21 hr22
  refine (slices_ContainsFunc_int_int.con hp23 hr22 (R0.ext hB) hc0 (fun z0_ h_ w_ e_ => cllApp (l1 := [_]) (l2 := []) (impl_AreWords_1.con rfl))).mono ?_
  rintro _ w24 ⟨rfl, e25⟩
  have hB := ethen hB e25
  refine ⟨r21, rfl, ?_⟩
  obtain rfl := hr.trans H.symm
  exact ⟨rfl, hB⟩
def impl_WrapWord.vc (x0 : Int) (w : World) (K : Value → World → Prop) : Prop :=
  K (.int .i64 (bitAnd .i64 x0 65535)) w

def impl_WrapWord.ann : Ann := (.seq .l (.seq .l .l))

theorem impl_WrapWord.start {x0 : Int} {w : World} {K : Value → World → Prop} (h : impl_WrapWord.vc x0 w K) : Cll Tryz.prog 286 #[(.int .i64 x0)] w K :=
  vcF_sound mixed (fn := Tryz.f286) (by kernel_rfl) (by kernel_rfl) (an := impl_WrapWord.ann) (args := [(.int .i64 x0)]) (Eq.mpr (by kernel_rfl) h)

theorem impl_WrapWord.con {x0 : Int} {r : Int} {w : World} (hr : r = M.impl_WrapWord x0)  :
    Cll Tryz.prog 286 #[(.int .i64 x0)] w (fun v_ w_ => v_ = (.int .i64 r) ∧ Ext w w_) := by
  have H := wp.impl_WrapWord.math x0
  have hB := Ext.refl w
  refine impl_WrapWord.start ?_
  unfold impl_WrapWord.vc
  unfold wp.impl_WrapWord at H
  obtain rfl := hr.trans H.symm
  exact ⟨rfl, hB⟩
def impl_wrapped.vc (x0 : Int) (x1 : Int) (x2 : Int) (w : World) (K : Value → World → Prop) : Prop :=
  Cll Tryz.prog 227 #[(.int .i64 x0)] w fun v21 w22 => (∃ (b23 : Bool), v21 = (.bool b23) ∧ bcase (!b23) (K (.int .i64 0) w22) (Cll Tryz.prog 227 #[(.int .i64 x1)] w22 fun v24 w25 => (∃ (b26 : Bool), v24 = (.bool b26) ∧ bcase (!b26) (K (.int .i64 0) w25) (Cll Tryz.prog 286 #[(.int .i64 x2)] w25 fun v27 w28 => (∃ (n29 : Int), v27 = (.int .i64 n29) ∧ K (.int .i64 n29) w28)))))

def impl_wrapped.ann : Ann := (.seq .l (.seq (.seq .l (.two (.seq .l .l) .l)) (.seq .l .l)))

theorem impl_wrapped.start {x0 : Int} {x1 : Int} {x2 : Int} {w : World} {K : Value → World → Prop} (h : impl_wrapped.vc x0 x1 x2 w K) : Cll Tryz.prog 262 #[(.int .i64 x0), (.int .i64 x1), (.int .i64 x2)] w K :=
  vcF_sound mixed (fn := Tryz.f262) (by kernel_rfl) (by kernel_rfl) (an := impl_wrapped.ann) (args := [(.int .i64 x0), (.int .i64 x1), (.int .i64 x2)]) (Eq.mpr (by kernel_rfl) h)

theorem impl_wrapped.con {x0 : Int} {x1 : Int} {x2 : Int} {r : Int} {w : World} (hr : r = M.impl_wrapped x0 x1 x2)  :
    Cll Tryz.prog 262 #[(.int .i64 x0), (.int .i64 x1), (.int .i64 x2)] w (fun v_ w_ => v_ = (.int .i64 r) ∧ Ext w w_) := by
  have H := wp.impl_wrapped.math x0 x1 x2
  have hB := Ext.refl w
  refine impl_wrapped.start ?_
  unfold impl_wrapped.vc
  unfold wp.impl_wrapped at H
  obtain ⟨r21, hr22⟩ : ∃ r_, r_ = M.impl_IsWord x0 := ⟨_, rfl⟩
  have H := H r21 hr22
  refine (impl_IsWord.con hr22 ).mono ?_
  rintro _ w24 ⟨rfl, e25⟩
  have hB := ethen hB e25
  refine ⟨r21, rfl, ?_⟩
  refine bcase_mk (fun hc37 => ?_) (fun hc37 => ?_)
  · have H := (bcase_iff.1 H).1 hc37
    obtain rfl := hr.trans H.symm
    exact ⟨rfl, hB⟩
  have H := (bcase_iff.1 H).2 hc37
  obtain ⟨r26, hr27⟩ : ∃ r_, r_ = M.impl_IsWord x1 := ⟨_, rfl⟩
  have H := H r26 hr27
  refine (impl_IsWord.con hr27 ).mono ?_
  rintro _ w29 ⟨rfl, e30⟩
  have hB := ethen hB e30
  refine ⟨r26, rfl, ?_⟩
  refine bcase_mk (fun hc36 => ?_) (fun hc36 => ?_)
  · have H := (bcase_iff.1 H).1 hc36
    obtain rfl := hr.trans H.symm
    exact ⟨rfl, hB⟩
  have H := (bcase_iff.1 H).2 hc36
  obtain ⟨r31, hr32⟩ : ∃ r_, r_ = M.impl_WrapWord x2 := ⟨_, rfl⟩
  have H := H r31 hr32
  refine (impl_WrapWord.con hr32 ).mono ?_
  rintro _ w34 ⟨rfl, e35⟩
  have hB := ethen hB e35
  refine ⟨r31, rfl, ?_⟩
  obtain rfl := hr.trans H.symm
  exact ⟨rfl, hB⟩
def impl_AddWords.vc (x0 : Int) (x1 : Int) (w : World) (K : Value → World → Prop) : Prop :=
  Cll Tryz.prog 262 #[(.int .i64 x0), (.int .i64 x1), (.int .i64 (IntKind.wrap .i64 (x0 + x1)))] w fun v21 w22 => (∃ (n23 : Int), v21 = (.int .i64 n23) ∧ K (.int .i64 n23) w22)

def impl_AddWords.ann : Ann := (.seq .l (.seq .l .l))

theorem impl_AddWords.start {x0 : Int} {x1 : Int} {w : World} {K : Value → World → Prop} (h : impl_AddWords.vc x0 x1 w K) : Cll Tryz.prog 218 #[(.int .i64 x0), (.int .i64 x1)] w K :=
  vcF_sound mixed (fn := Tryz.f218) (by kernel_rfl) (by kernel_rfl) (an := impl_AddWords.ann) (args := [(.int .i64 x0), (.int .i64 x1)]) (Eq.mpr (by kernel_rfl) h)

theorem impl_AddWords.con {x0 : Int} {x1 : Int} {r : Int} {w : World} (hr : r = M.impl_AddWords x0 x1)  :
    Cll Tryz.prog 218 #[(.int .i64 x0), (.int .i64 x1)] w (fun v_ w_ => v_ = (.int .i64 r) ∧ Ext w w_) := by
  have H := wp.impl_AddWords.math x0 x1
  have hB := Ext.refl w
  refine impl_AddWords.start ?_
  unfold impl_AddWords.vc
  unfold wp.impl_AddWords at H
  obtain ⟨r21, hr22⟩ : ∃ r_, r_ = M.impl_wrapped x0 x1 (IntKind.wrap .i64 (x0 + x1)) := ⟨_, rfl⟩
  have H := H r21 hr22
  refine (impl_wrapped.con hr22 ).mono ?_
  rintro _ w24 ⟨rfl, e25⟩
  have hB := ethen hB e25
  refine ⟨r21, rfl, ?_⟩
  obtain rfl := hr.trans H.symm
  exact ⟨rfl, hB⟩
def spec_IsMask.vc (x0 : Int) (w : World) (K : Value → World → Prop) : Prop :=
  Cll Tryz.prog 67 #[(.int .i64 x0), (.int .i64 0), (.int .i64 255)] w fun v21 w22 => (∃ (b23 : Bool), v21 = (.bool b23) ∧ K (.bool b23) w22)

def spec_IsMask.ann : Ann := (.seq .l (.seq .l .l))

theorem spec_IsMask.start {x0 : Int} {w : World} {K : Value → World → Prop} (h : spec_IsMask.vc x0 w K) : Cll Tryz.prog 136 #[(.int .i64 x0)] w K :=
  vcF_sound mixed (fn := Tryz.f136) (by kernel_rfl) (by kernel_rfl) (an := spec_IsMask.ann) (args := [(.int .i64 x0)]) (Eq.mpr (by kernel_rfl) h)

theorem spec_IsMask.con {x0 : Int} {r : Bool} {w : World} (hr : r = M.spec_IsMask x0)  :
    Cll Tryz.prog 136 #[(.int .i64 x0)] w (fun v_ w_ => v_ = (.bool r) ∧ Ext w w_) := by
  have H := wp.spec_IsMask.math x0
  have hB := Ext.refl w
  refine spec_IsMask.start ?_
  unfold spec_IsMask.vc
  unfold wp.spec_IsMask at H
  obtain ⟨r21, hr22⟩ : ∃ r_, r_ = M.spec_l01In x0 0 255 := ⟨_, rfl⟩
  have H := H r21 hr22
  refine (spec_l01In.con hr22 ).mono ?_
  rintro _ w24 ⟨rfl, e25⟩
  have hB := ethen hB e25
  refine ⟨r21, rfl, ?_⟩
  obtain rfl := hr.trans H.symm
  exact ⟨rfl, hB⟩
def spec_HasLane.vc (x0 : Int) (x1 : Int) (w : World) (K : Value → World → Prop) : Prop :=
  Cll Tryz.prog 136 #[(.int .i64 x0)] w fun v21 w22 => (∃ (b23 : Bool), v21 = (.bool b23) ∧ bcase b23 (Cll Tryz.prog 67 #[(.int .i64 x1), (.int .i64 0), (.int .i64 7)] w22 fun v24 w25 => (∃ (b26 : Bool), v24 = (.bool b26) ∧ bcase b26 (((0 : Int) ≤ x1 ∧ K (.bool ((bitAnd .i64 (Int.fdiv x0 (2 ^ (min (x1.toNat) (IntKind.bits .i64)))) 1) == 1)) w25)) (K (.bool false) w25))) (K (.bool false) w22))

def spec_HasLane.ann : Ann := (.seq .l (.seq .l .l))

theorem spec_HasLane.start {x0 : Int} {x1 : Int} {w : World} {K : Value → World → Prop} (h : spec_HasLane.vc x0 x1 w K) : Cll Tryz.prog 165 #[(.int .i64 x0), (.int .i64 x1)] w K :=
  vcF_sound mixed (fn := Tryz.f165) (by kernel_rfl) (by kernel_rfl) (an := spec_HasLane.ann) (args := [(.int .i64 x0), (.int .i64 x1)]) (Eq.mpr (by kernel_rfl) h)

theorem spec_HasLane.con {x0 : Int} {x1 : Int} {r : Bool} {w : World} (hr : r = M.spec_HasLane x0 x1)  :
    Cll Tryz.prog 165 #[(.int .i64 x0), (.int .i64 x1)] w (fun v_ w_ => v_ = (.bool r) ∧ Ext w w_) := by
  have H := wp.spec_HasLane.math x0 x1
  have hB := Ext.refl w
  refine spec_HasLane.start ?_
  unfold spec_HasLane.vc
  unfold wp.spec_HasLane at H
  obtain ⟨r21, hr22⟩ : ∃ r_, r_ = M.spec_IsMask x0 := ⟨_, rfl⟩
  have H := H r21 hr22
  refine (spec_IsMask.con hr22 ).mono ?_
  rintro _ w24 ⟨rfl, e25⟩
  have hB := ethen hB e25
  refine ⟨r21, rfl, ?_⟩
  refine bcase_mk (fun hc33 => ?_) (fun hc33 => ?_)
  · have H := (bcase_iff.1 H).1 hc33
    obtain ⟨r26, hr27⟩ : ∃ r_, r_ = M.spec_l01In x1 0 7 := ⟨_, rfl⟩
    have H := H r26 hr27
    refine (spec_l01In.con hr27 ).mono ?_
    rintro _ w29 ⟨rfl, e30⟩
    have hB := ethen hB e30
    refine ⟨r26, rfl, ?_⟩
    refine bcase_mk (fun hc32 => ?_) (fun hc32 => ?_)
    · have H := (bcase_iff.1 H).1 hc32
      obtain ⟨hc31, H⟩ := H
      refine ⟨hc31, ?_⟩
      obtain rfl := hr.trans H.symm
      exact ⟨rfl, hB⟩
    have H := (bcase_iff.1 H).2 hc32
    obtain rfl := hr.trans H.symm
    exact ⟨rfl, hB⟩
  have H := (bcase_iff.1 H).2 hc33
  obtain rfl := hr.trans H.symm
  exact ⟨rfl, hB⟩
def laws_szInsS.vc (A0 : Option Addr) (n0 : Nat) (c0 : Nat) (x1 : Int) (w : World) (K : Value → World → Prop) : Prop :=
  bcase (decide ((IntKind.wrap .i64 (x1 - ((n0 : Nat) : Int))) < 0)) (K (.int .i64 (-1)) w) (K (.int .i64 (IntKind.wrap .i64 (x1 - ((n0 : Nat) : Int)))) w)

def laws_szInsS.ann : Ann := (.seq .l (.seq .l (.seq (.seq .l (.two (.seq .l .l) .l)) (.seq .l .l))))

theorem laws_szInsS.start {A0 : Option Addr} {n0 : Nat} {c0 : Nat} {x1 : Int} {w : World} {K : Value → World → Prop} (h : laws_szInsS.vc A0 n0 c0 x1 w K) : Cll Tryz.prog 15 #[(.slice A0 n0 c0), (.int .i64 x1)] w K :=
  vcF_sound mixed (fn := Tryz.f15) (by kernel_rfl) (by kernel_rfl) (an := laws_szInsS.ann) (args := [(.slice A0 n0 c0), (.int .i64 x1)]) (Eq.mpr (by kernel_rfl) h)

theorem laws_szInsS.con {xs0 : List D.Ins} {A0 : Option Addr} {c0 : Nat} {x1 : Int} {r : Int} {w : World} (hp : M.laws_szInsS_pre xs0 x1) (hr : r = M.laws_szInsS xs0 x1) (R0 : Row el91 w A0 xs0) (hc0 : xs0.length ≤ c0) :
    Cll Tryz.prog 15 #[(.slice A0 xs0.length c0), (.int .i64 x1)] w (fun v_ w_ => v_ = (.int .i64 r) ∧ Ext w w_) := by
  have H := wp.laws_szInsS.math xs0 x1 hp
  have hB := Ext.refl w
  refine laws_szInsS.start ?_
  unfold laws_szInsS.vc
  unfold wp.laws_szInsS at H
  refine bcase_mk (fun hc21 => ?_) (fun hc21 => ?_)
  · have H := (bcase_iff.1 H).1 hc21
    obtain rfl := hr.trans H.symm
    exact ⟨rfl, hB⟩
  have H := (bcase_iff.1 H).2 hc21
  obtain rfl := hr.trans H.symm
  exact ⟨rfl, hB⟩
def laws_toIns.vc (x0_0 : Int) (x0_1 : Int) (x0_2 : Int) (x0_3 : Int) (w : World) (K : Value → World → Prop) : Prop :=
  newK w (.cells #[(.int .i64 x0_0), (.int .i64 x0_1), (.int .i64 x0_2), (.int .i64 x0_3)] 91) fun g21 w22 => newK w22 (.cells #[(.int .i64 0), (.int .i64 0), (.int .i64 0), (.int .i64 0)] 89) fun g23 w24 => newK w24 (.cells #[(.int .i64 0), (.int .i64 0), (.int .i64 0), (.int .i64 0)] 89) fun g25 w26 => ∃ (n27 : Int), w26.cell? (((⟨g21, 0, none⟩ : Addr).add 0).add 0) = some (.int .i64 n27) ∧ stCells ((⟨g25, 0, none⟩ : Addr).add 0) [(.int .i64 n27)] 0 w26 fun w28 => ∃ (n29 : Int), w28.cell? (((⟨g21, 0, none⟩ : Addr).add 1).add 0) = some (.int .i64 n29) ∧ stCells ((⟨g25, 0, none⟩ : Addr).add 1) [(.int .i64 n29)] 0 w28 fun w30 => ∃ (n31 : Int), w30.cell? (((⟨g21, 0, none⟩ : Addr).add 2).add 0) = some (.int .i64 n31) ∧ stCells ((⟨g25, 0, none⟩ : Addr).add 2) [(.int .i64 n31)] 0 w30 fun w32 => ∃ (n33 : Int), w32.cell? (((⟨g21, 0, none⟩ : Addr).add 3).add 0) = some (.int .i64 n33) ∧ stCells ((⟨g25, 0, none⟩ : Addr).add 3) [(.int .i64 n33)] 0 w32 fun w34 => ∃ (n35 : Int), w34.cell? ((⟨g25, 0, none⟩ : Addr).add 0) = some (.int .i64 n35) ∧ ∃ (n36 : Int), w34.cell? ((⟨g25, 0, none⟩ : Addr).add 1) = some (.int .i64 n36) ∧ ∃ (n37 : Int), w34.cell? ((⟨g25, 0, none⟩ : Addr).add 2) = some (.int .i64 n37) ∧ ∃ (n38 : Int), w34.cell? ((⟨g25, 0, none⟩ : Addr).add 3) = some (.int .i64 n38) ∧ stCells (⟨g23, 0, none⟩ : Addr) [(.int .i64 n35), (.int .i64 n36), (.int .i64 n37), (.int .i64 n38)] 0 w34 fun w39 => ∃ (n40 : Int), w39.cell? ((⟨g23, 0, none⟩ : Addr).add 0) = some (.int .i64 n40) ∧ ∃ (n41 : Int), w39.cell? ((⟨g23, 0, none⟩ : Addr).add 1) = some (.int .i64 n41) ∧ ∃ (n42 : Int), w39.cell? ((⟨g23, 0, none⟩ : Addr).add 2) = some (.int .i64 n42) ∧ ∃ (n43 : Int), w39.cell? ((⟨g23, 0, none⟩ : Addr).add 3) = some (.int .i64 n43) ∧ K (.agg #[(.int .i64 n40), (.int .i64 n41), (.int .i64 n42), (.int .i64 n43)]) w39

def laws_toIns.ann : Ann := (.seq .l (.seq .l (.seq .l (.seq .l (.seq .l (.seq .l (.seq .l .l)))))))

theorem laws_toIns.start {x0_0 : Int} {x0_1 : Int} {x0_2 : Int} {x0_3 : Int} {w : World} {K : Value → World → Prop} (h : laws_toIns.vc x0_0 x0_1 x0_2 x0_3 w K) : Cll Tryz.prog 70 #[(.agg #[(.int .i64 x0_0), (.int .i64 x0_1), (.int .i64 x0_2), (.int .i64 x0_3)])] w K :=
  vcF_sound mixed (fn := Tryz.f70) (by kernel_rfl) (by kernel_rfl) (an := laws_toIns.ann) (args := [(.agg #[(.int .i64 x0_0), (.int .i64 x0_1), (.int .i64 x0_2), (.int .i64 x0_3)])]) (Eq.mpr (by kernel_rfl) h)

theorem laws_toIns.con {s0 : D.Ins} {r : D.Ins} {w : World} (hr : r = M.laws_toIns s0)  :
    Cll Tryz.prog 70 #[(.agg #[(.int .i64 s0.Op), (.int .i64 s0.A), (.int .i64 s0.B), (.int .i64 s0.C)])] w (fun v_ w_ => v_ = (.agg #[(.int .i64 r.Op), (.int .i64 r.A), (.int .i64 r.B), (.int .i64 r.C)]) ∧ Ext w w_) := by
  have H := wp.laws_toIns.math s0
  have hB := Ext.refl w
  refine laws_toIns.start ?_
  unfold laws_toIns.vc
  unfold wp.laws_toIns at H
  refine newBlk (fun g1_ w21 L1 P1 e22 => ?_)
  have O1 := P1
  have L1 := Nat.le_trans hB.size L1
  have hB := ethen hB e22
  refine newBlk (fun g2_ w23 L2 P2 e24 => ?_)
  have N1_2 := O1.ne L2
  have O1 := O1.ext e24
  have O2 := P2
  have L2 := Nat.le_trans hB.size L2
  have hB := ethen hB e24
  refine newBlk (fun g3_ w25 L3 P3 e26 => ?_)
  have N1_3 := O1.ne L3
  have N2_3 := O2.ne L3
  have O1 := O1.ext e26
  have O2 := O2.ext e26
  have O3 := P3
  have L3 := Nat.le_trans hB.size L3
  have hB := ethen hB e26
  refine ⟨_, (O1.at 0 rfl rfl), ?_⟩
  refine stBlk O3 (o := 0) (cs' := #[(.int .i64 s0.Op), (.int .i64 0), (.int .i64 0), (.int .i64 0)]) rfl rfl (Nat.le_of_ble_eq_true rfl) rfl (fun w27 P3 e28 => ?_)
  have O1_ := O1.chg e28 N1_3
  have O2_ := O2.chg e28 N2_3
  have O1 := O1_
  have O2 := O2_
  have hB := echg hB e28 L3
  have O3 := P3
  refine ⟨_, (O1.at 1 rfl rfl), ?_⟩
  refine stBlk O3 (o := 1) (cs' := #[(.int .i64 s0.Op), (.int .i64 s0.A), (.int .i64 0), (.int .i64 0)]) rfl rfl (Nat.le_of_ble_eq_true rfl) rfl (fun w29 P3 e30 => ?_)
  have O1_ := O1.chg e30 N1_3
  have O2_ := O2.chg e30 N2_3
  have O1 := O1_
  have O2 := O2_
  have hB := echg hB e30 L3
  have O3 := P3
  refine ⟨_, (O1.at 2 rfl rfl), ?_⟩
  refine stBlk O3 (o := 2) (cs' := #[(.int .i64 s0.Op), (.int .i64 s0.A), (.int .i64 s0.B), (.int .i64 0)]) rfl rfl (Nat.le_of_ble_eq_true rfl) rfl (fun w31 P3 e32 => ?_)
  have O1_ := O1.chg e32 N1_3
  have O2_ := O2.chg e32 N2_3
  have O1 := O1_
  have O2 := O2_
  have hB := echg hB e32 L3
  have O3 := P3
  refine ⟨_, (O1.at 3 rfl rfl), ?_⟩
  refine stBlk O3 (o := 3) (cs' := #[(.int .i64 s0.Op), (.int .i64 s0.A), (.int .i64 s0.B), (.int .i64 s0.C)]) rfl rfl (Nat.le_of_ble_eq_true rfl) rfl (fun w33 P3 e34 => ?_)
  have O1_ := O1.chg e34 N1_3
  have O2_ := O2.chg e34 N2_3
  have O1 := O1_
  have O2 := O2_
  have hB := echg hB e34 L3
  have O3 := P3
  refine ⟨_, (O3.at 0 rfl rfl), ?_⟩
  refine ⟨_, (O3.at 1 rfl rfl), ?_⟩
  refine ⟨_, (O3.at 2 rfl rfl), ?_⟩
  refine ⟨_, (O3.at 3 rfl rfl), ?_⟩
  refine stBlk O2 (o := 0) (cs' := #[(.int .i64 s0.Op), (.int .i64 s0.A), (.int .i64 s0.B), (.int .i64 s0.C)]) rfl rfl (Nat.le_of_ble_eq_true rfl) rfl (fun w35 P2 e36 => ?_)
  have O3_ := O3.chg e36 (N2_3).symm
  have O3 := O3_
  have hB := echg hB e36 L2
  have O2 := P2
  refine ⟨_, (O2.at 0 rfl rfl), ?_⟩
  refine ⟨_, (O2.at 1 rfl rfl), ?_⟩
  refine ⟨_, (O2.at 2 rfl rfl), ?_⟩
  refine ⟨_, (O2.at 3 rfl rfl), ?_⟩
  obtain rfl := hr.trans H.symm
  exact ⟨rfl, hB⟩
def laws_toInsS.vc (A0 : Option Addr) (n0 : Nat) (c0 : Nat) (w : World) (K : Value → World → Prop) : Prop :=
  vcMake Tryz.prog 34 ((n0 : Nat) : Int) ((n0 : Nat) : Int) w fun g21 w22 => LoopT (σ := Int × Unit) (fun z23 w24 next25 => bcase (decide (z23.1 < ((n0 : Nat) : Int))) (((0 : Int) ≤ z23.1 ∧ z23.1 < ((n0 : Nat) : Int) ∧ ∃ a26 : Addr, A0 = some a26 ∧ ∃ (n27 : Int), w24.cell? ((a26.add ((z23.1.toNat) * 4)).add 0) = some (.int .i64 n27) ∧ ∃ (n28 : Int), w24.cell? ((a26.add ((z23.1.toNat) * 4)).add 1) = some (.int .i64 n28) ∧ ∃ (n29 : Int), w24.cell? ((a26.add ((z23.1.toNat) * 4)).add 2) = some (.int .i64 n29) ∧ ∃ (n30 : Int), w24.cell? ((a26.add ((z23.1.toNat) * 4)).add 3) = some (.int .i64 n30) ∧ Cll Tryz.prog 70 #[(.agg #[(.int .i64 n27), (.int .i64 n28), (.int .i64 n29), (.int .i64 n30)])] w24 fun v31 w32 => (∃ (n33 : Int), True ∧ ∃ (n34 : Int), True ∧ ∃ (n35 : Int), True ∧ ∃ (n36 : Int), True ∧ v31 = (.agg #[(.int .i64 n33), (.int .i64 n34), (.int .i64 n35), (.int .i64 n36)]) ∧ ((0 : Int) ≤ z23.1 ∧ z23.1 < (((((n0 : Nat) : Int).toNat) : Nat) : Int) ∧ ∃ a37 : Addr, (some (⟨g21, 0, none⟩ : Addr)) = some a37 ∧ stCells (a37.add ((z23.1.toNat) * 4)) [(.int .i64 n33), (.int .i64 n34), (.int .i64 n35), (.int .i64 n36)] 0 w32 fun w38 => next25 ((IntKind.wrap .i64 (z23.1 + 1)), ()) w38)))) (K (.slice (some (⟨g21, 0, none⟩ : Addr)) (((n0 : Nat) : Int).toNat) (((n0 : Nat) : Int).toNat)) w24)) (0, ()) w22

def laws_toInsS.ann : Ann := (.seq .l (.seq .l (.seq (.seq .l (.one (.loop [(4, .int .i64)] (.seq (.seq .l (.two .l .l)) (.seq (.one .l) .l))))) (.seq .l .l))))

theorem laws_toInsS.start {A0 : Option Addr} {n0 : Nat} {c0 : Nat} {w : World} {K : Value → World → Prop} (h : laws_toInsS.vc A0 n0 c0 w K) : Cll Tryz.prog 18 #[(.slice A0 n0 c0)] w K :=
  vcF_sound mixed (fn := Tryz.f18) (by kernel_rfl) (by kernel_rfl) (an := laws_toInsS.ann) (args := [(.slice A0 n0 c0)]) (Eq.mpr (by kernel_rfl) h)

theorem laws_toInsS.con {xs0 : List D.Ins} {A0 : Option Addr} {c0 : Nat} {r : List D.Ins} {w : World} (hp : M.laws_toInsS_pre xs0) (hr : r = M.laws_toInsS xs0) (R0 : Row el91 w A0 xs0) (hc0 : xs0.length ≤ c0) :
    Cll Tryz.prog 18 #[(.slice A0 xs0.length c0)] w (fun v_ w_ => ∃ (A0_ : Option Addr) (c0_ : Nat), v_ = (.slice A0_ r.length c0_) ∧ Own el89 w_ w.heap.size A0_ c0_ r ∧ Ext w w_) := by
  have H := wp.laws_toInsS.math xs0 hp
  have hB := Ext.refl w
  refine laws_toInsS.start ?_
  unfold laws_toInsS.vc
  unfold wp.laws_toInsS at H
  obtain ⟨⟨h0_24, h1_25⟩, H⟩ := H
  refine makeOwn slt34 h0_24 h1_25 (fun g21 w22 P2 e23 => ?_)
  have O2 := P2.mono hB.size
  have hB := ethen hB e23
  obtain ⟨J54, ⟨m82, hJ81⟩, hS55⟩ := H
  refine ⟨fun m_ z_ w_ => ∃ (i50 : Int) (xs51 : List D.Ins), z_ = (i50, ()) ∧ J54 m_ (i50, xs51, ()) ∧ Ext w w_ ∧ Own el89 w_ w.heap.size (some (⟨g21, 0, none⟩ : Addr)) (((xs0.length : Nat) : Int).toNat) xs51 ∧ (((xs0.length : Nat) : Int).toNat) = xs51.length, ⟨m82, 0, (List.replicate (((xs0.length : Nat) : Int).toNat) (default : D.Ins)), rfl, hJ81, hB, O2, (by first | rfl | assumption | omega | (simp; done) | (simp; omega) | (simp; assumption))⟩, ?_⟩
  rintro m53 _ w57 ⟨i50, xs51, rfl, hJ83, hB, O2, hn52⟩
  have H := hS55 m53 _ hJ83
  clear hS55 hJ83
  try dsimp only at H ⊢
  refine bcase_mk (fun hc79 => ?_) (fun hc79 => ?_)
  · have H := (bcase_iff.1 H).1 hc79
    obtain ⟨⟨h0_61, h1_62⟩, H⟩ := H
    obtain ⟨a59, ha60, hat58⟩ := Row.at (R0.ext hB) h0_61 h1_62
    refine ⟨h0_61, h1_62, a59, ha60, ?_⟩
    refine ⟨_, (hat58 0 _ rfl), ?_⟩
    refine ⟨_, (hat58 1 _ rfl), ?_⟩
    refine ⟨_, (hat58 2 _ rfl), ?_⟩
    refine ⟨_, (hat58 3 _ rfl), ?_⟩
    obtain ⟨r63, hr64⟩ : ∃ r_, r_ = M.laws_toIns (rd xs0 i50) := ⟨_, rfl⟩
    have H := H r63 hr64
    refine (laws_toIns.con hr64 ).mono ?_
    rintro _ w66 ⟨rfl, e67⟩
    have O2 := O2.ext e67
    have hB := ethen hB e67
    refine ⟨r63.Op, trivial, ?_⟩
    refine ⟨r63.A, trivial, ?_⟩
    refine ⟨r63.B, trivial, ?_⟩
    refine ⟨r63.C, trivial, ?_⟩
    refine ⟨rfl, ?_⟩
    obtain ⟨⟨h0_71, h1_72⟩, H⟩ := H
    obtain ⟨a69, ha70, hat68⟩ := Row.at O2.row h0_71 h1_72
    refine ⟨h0_71, (by first | exact h1_72 | omega | (simp at h1_72 ⊢; omega)), a69, ha70, ?_⟩
    refine Own.storeAt O2 ha70 h0_71 h1_72 0 [(.int .i64 r63.Op), (.int .i64 r63.A), (.int .i64 r63.B), (.int .i64 r63.C)] (⟨r63.Op, r63.A, r63.B, r63.C⟩ : D.Ins) rfl (Nat.le_of_ble_eq_true rfl) rfl (fun w73 P2 e74 hb75 => ?_)
    have hB := echg hB e74 hb75
    have O2 := P2
    obtain ⟨m76, hm77, hJ78⟩ := H
    exact ⟨m76, hm77, (IntKind.wrap .i64 (i50 + 1)), (List.set xs51 (i50.toNat) (⟨r63.Op, r63.A, r63.B, r63.C⟩ : D.Ins)), rfl, hJ78, hB, O2, (by first | rfl | assumption | omega | (simp; done) | (simp; omega) | (simp; assumption))⟩
  have H := (bcase_iff.1 H).2 hc79
  obtain rfl := hr.trans H.symm
  exact ⟨(some (⟨g21, 0, none⟩ : Addr)), (((xs0.length : Nat) : Int).toNat), (by first | rfl | (rw [hn52]; done) | (simp; done) | (simp; omega) | (simp [*]; done)), (by first | exact O2 | (simp only [List.length_set]; exact O2) | (rw [← hn52]; exact O2)), hB⟩
def laws_eqIns.vc (x0_0 : Int) (x0_1 : Int) (x0_2 : Int) (x0_3 : Int) (x1_0 : Int) (x1_1 : Int) (x1_2 : Int) (x1_3 : Int) (w : World) (K : Value → World → Prop) : Prop :=
  newK w (.cells #[(.int .i64 x0_0), (.int .i64 x0_1), (.int .i64 x0_2), (.int .i64 x0_3)] 89) fun g21 w22 => newK w22 (.cells #[(.int .i64 x1_0), (.int .i64 x1_1), (.int .i64 x1_2), (.int .i64 x1_3)] 89) fun g23 w24 => ∃ (n25 : Int), w24.cell? (((⟨g21, 0, none⟩ : Addr).add 0).add 0) = some (.int .i64 n25) ∧ ∃ (n26 : Int), w24.cell? (((⟨g23, 0, none⟩ : Addr).add 0).add 0) = some (.int .i64 n26) ∧ bcase (n25 != n26) (K (.bool false) w24) (∃ (n27 : Int), w24.cell? (((⟨g21, 0, none⟩ : Addr).add 1).add 0) = some (.int .i64 n27) ∧ ∃ (n28 : Int), w24.cell? (((⟨g23, 0, none⟩ : Addr).add 1).add 0) = some (.int .i64 n28) ∧ bcase (n27 != n28) (K (.bool false) w24) (∃ (n29 : Int), w24.cell? (((⟨g21, 0, none⟩ : Addr).add 2).add 0) = some (.int .i64 n29) ∧ ∃ (n30 : Int), w24.cell? (((⟨g23, 0, none⟩ : Addr).add 2).add 0) = some (.int .i64 n30) ∧ bcase (n29 != n30) (K (.bool false) w24) (∃ (n31 : Int), w24.cell? (((⟨g21, 0, none⟩ : Addr).add 3).add 0) = some (.int .i64 n31) ∧ ∃ (n32 : Int), w24.cell? (((⟨g23, 0, none⟩ : Addr).add 3).add 0) = some (.int .i64 n32) ∧ bcase (n31 != n32) (K (.bool false) w24) (K (.bool true) w24))))

def laws_eqIns.ann : Ann := (.seq .l (.seq (.seq .l (.two (.seq .l .l) .l)) (.seq (.seq .l (.two (.seq .l .l) .l)) (.seq (.seq .l (.two (.seq .l .l) .l)) (.seq (.seq .l (.two (.seq .l .l) .l)) (.seq .l .l))))))

theorem laws_eqIns.start {x0_0 : Int} {x0_1 : Int} {x0_2 : Int} {x0_3 : Int} {x1_0 : Int} {x1_1 : Int} {x1_2 : Int} {x1_3 : Int} {w : World} {K : Value → World → Prop} (h : laws_eqIns.vc x0_0 x0_1 x0_2 x0_3 x1_0 x1_1 x1_2 x1_3 w K) : Cll Tryz.prog 78 #[(.agg #[(.int .i64 x0_0), (.int .i64 x0_1), (.int .i64 x0_2), (.int .i64 x0_3)]), (.agg #[(.int .i64 x1_0), (.int .i64 x1_1), (.int .i64 x1_2), (.int .i64 x1_3)])] w K :=
  vcF_sound mixed (fn := Tryz.f78) (by kernel_rfl) (by kernel_rfl) (an := laws_eqIns.ann) (args := [(.agg #[(.int .i64 x0_0), (.int .i64 x0_1), (.int .i64 x0_2), (.int .i64 x0_3)]), (.agg #[(.int .i64 x1_0), (.int .i64 x1_1), (.int .i64 x1_2), (.int .i64 x1_3)])]) (Eq.mpr (by kernel_rfl) h)

theorem laws_eqIns.con {s0 : D.Ins} {s1 : D.Ins} {r : Bool} {w : World} (hr : r = M.laws_eqIns s0 s1)  :
    Cll Tryz.prog 78 #[(.agg #[(.int .i64 s0.Op), (.int .i64 s0.A), (.int .i64 s0.B), (.int .i64 s0.C)]), (.agg #[(.int .i64 s1.Op), (.int .i64 s1.A), (.int .i64 s1.B), (.int .i64 s1.C)])] w (fun v_ w_ => v_ = (.bool r) ∧ Ext w w_) := by
  have H := wp.laws_eqIns.math s0 s1
  have hB := Ext.refl w
  refine laws_eqIns.start ?_
  unfold laws_eqIns.vc
  unfold wp.laws_eqIns at H
  refine newBlk (fun g1_ w21 L1 P1 e22 => ?_)
  have O1 := P1
  have L1 := Nat.le_trans hB.size L1
  have hB := ethen hB e22
  refine newBlk (fun g2_ w23 L2 P2 e24 => ?_)
  have N1_2 := O1.ne L2
  have O1 := O1.ext e24
  have O2 := P2
  have L2 := Nat.le_trans hB.size L2
  have hB := ethen hB e24
  refine ⟨_, (O1.at 0 rfl rfl), ?_⟩
  refine ⟨_, (O2.at 0 rfl rfl), ?_⟩
  refine bcase_mk (fun hc28 => ?_) (fun hc28 => ?_)
  · have H := (bcase_iff.1 H).1 hc28
    obtain rfl := hr.trans H.symm
    exact ⟨rfl, hB⟩
  have H := (bcase_iff.1 H).2 hc28
  refine ⟨_, (O1.at 1 rfl rfl), ?_⟩
  refine ⟨_, (O2.at 1 rfl rfl), ?_⟩
  refine bcase_mk (fun hc27 => ?_) (fun hc27 => ?_)
  · have H := (bcase_iff.1 H).1 hc27
    obtain rfl := hr.trans H.symm
    exact ⟨rfl, hB⟩
  have H := (bcase_iff.1 H).2 hc27
  refine ⟨_, (O1.at 2 rfl rfl), ?_⟩
  refine ⟨_, (O2.at 2 rfl rfl), ?_⟩
  refine bcase_mk (fun hc26 => ?_) (fun hc26 => ?_)
  · have H := (bcase_iff.1 H).1 hc26
    obtain rfl := hr.trans H.symm
    exact ⟨rfl, hB⟩
  have H := (bcase_iff.1 H).2 hc26
  refine ⟨_, (O1.at 3 rfl rfl), ?_⟩
  refine ⟨_, (O2.at 3 rfl rfl), ?_⟩
  refine bcase_mk (fun hc25 => ?_) (fun hc25 => ?_)
  · have H := (bcase_iff.1 H).1 hc25
    obtain rfl := hr.trans H.symm
    exact ⟨rfl, hB⟩
  have H := (bcase_iff.1 H).2 hc25
  obtain rfl := hr.trans H.symm
  exact ⟨rfl, hB⟩
def laws_eqInsS.vc (A0 : Option Addr) (n0 : Nat) (c0 : Nat) (A1 : Option Addr) (n1 : Nat) (c1 : Nat) (w : World) (K : Value → World → Prop) : Prop :=
  bcase (((n0 : Nat) : Int) != ((n1 : Nat) : Int)) (K (.bool false) w) (LoopT (σ := Int × Unit) (fun z21 w22 next23 => bcase (decide (z21.1 < ((n0 : Nat) : Int))) ((∃ M24 : Nat → Prop, ((0 : Int) ≤ z21.1 ∧ z21.1 < ((n0 : Nat) : Int) ∧ ∃ a25 : Addr, A0 = some a25 ∧ ∃ (n26 : Int), (¬ M24 ((a25.add ((z21.1.toNat) * 4))).block ∧ w22.cell? ((a25.add ((z21.1.toNat) * 4)).add 0) = some (.int .i64 n26)) ∧ ∃ (n27 : Int), (¬ M24 ((a25.add ((z21.1.toNat) * 4))).block ∧ w22.cell? ((a25.add ((z21.1.toNat) * 4)).add 1) = some (.int .i64 n27)) ∧ ∃ (n28 : Int), (¬ M24 ((a25.add ((z21.1.toNat) * 4))).block ∧ w22.cell? ((a25.add ((z21.1.toNat) * 4)).add 2) = some (.int .i64 n28)) ∧ ∃ (n29 : Int), (¬ M24 ((a25.add ((z21.1.toNat) * 4))).block ∧ w22.cell? ((a25.add ((z21.1.toNat) * 4)).add 3) = some (.int .i64 n29)) ∧ ((0 : Int) ≤ z21.1 ∧ z21.1 < ((n1 : Nat) : Int) ∧ ∃ a30 : Addr, A1 = some a30 ∧ ∃ (n31 : Int), (¬ M24 ((a30.add ((z21.1.toNat) * 4))).block ∧ w22.cell? ((a30.add ((z21.1.toNat) * 4)).add 0) = some (.int .i64 n31)) ∧ ∃ (n32 : Int), (¬ M24 ((a30.add ((z21.1.toNat) * 4))).block ∧ w22.cell? ((a30.add ((z21.1.toNat) * 4)).add 1) = some (.int .i64 n32)) ∧ ∃ (n33 : Int), (¬ M24 ((a30.add ((z21.1.toNat) * 4))).block ∧ w22.cell? ((a30.add ((z21.1.toNat) * 4)).add 2) = some (.int .i64 n33)) ∧ ∃ (n34 : Int), (¬ M24 ((a30.add ((z21.1.toNat) * 4))).block ∧ w22.cell? ((a30.add ((z21.1.toNat) * 4)).add 3) = some (.int .i64 n34)) ∧ Cll Tryz.prog 78 #[(.agg #[(.int .i64 n26), (.int .i64 n27), (.int .i64 n28), (.int .i64 n29)]), (.agg #[(.int .i64 n31), (.int .i64 n32), (.int .i64 n33), (.int .i64 n34)])] w22.drew fun v35 w36 => (∃ (b37 : Bool), v35 = (.bool b37) ∧ SameBut M24 w22 w36 ∧ bcase (!b37) (K (.bool false) w36) (next23 ((IntKind.wrap .i64 (z21.1 + 1)), ()) w36)))))) (K (.bool true) w22)) (0, ()) w)

def laws_eqInsS.ann : Ann := (.seq .l (.seq (.seq .l (.two (.seq .l .l) .l)) (.seq (.seq .l (.one (.loop [(5, .int .i64)] (.seq (.seq .l (.two .l .l)) (.seq (.one (.seq .l (.two (.seq .l .l) .l))) .l))))) (.seq .l .l))))

theorem laws_eqInsS.start {A0 : Option Addr} {n0 : Nat} {c0 : Nat} {A1 : Option Addr} {n1 : Nat} {c1 : Nat} {w : World} {K : Value → World → Prop} (h : laws_eqInsS.vc A0 n0 c0 A1 n1 c1 w K) : Cll Tryz.prog 22 #[(.slice A0 n0 c0), (.slice A1 n1 c1)] w K :=
  vcF_sound mixed (fn := Tryz.f22) (by kernel_rfl) (by kernel_rfl) (an := laws_eqInsS.ann) (args := [(.slice A0 n0 c0), (.slice A1 n1 c1)]) (Eq.mpr (by kernel_rfl) h)

theorem laws_eqInsS.con {xs0 : List D.Ins} {A0 : Option Addr} {c0 : Nat} {xs1 : List D.Ins} {A1 : Option Addr} {c1 : Nat} {r : Bool} {w : World} (hp : M.laws_eqInsS_pre xs0 xs1) (hr : r = M.laws_eqInsS xs0 xs1) (R0 : Row el89 w A0 xs0) (hc0 : xs0.length ≤ c0) (R1 : Row el89 w A1 xs1) (hc1 : xs1.length ≤ c1) :
    Cll Tryz.prog 22 #[(.slice A0 xs0.length c0), (.slice A1 xs1.length c1)] w (fun v_ w_ => v_ = (.bool r) ∧ Ext w w_) := by
  have H := wp.laws_eqInsS.math xs0 xs1 hp
  have hB := Ext.refl w
  refine laws_eqInsS.start ?_
  unfold laws_eqInsS.vc
  unfold wp.laws_eqInsS at H
  refine bcase_mk (fun hc52 => ?_) (fun hc52 => ?_)
  · have H := (bcase_iff.1 H).1 hc52
    obtain rfl := hr.trans H.symm
    exact ⟨rfl, hB⟩
  have H := (bcase_iff.1 H).2 hc52
  obtain ⟨J23, ⟨m50, hJ49⟩, hS24⟩ := H
  refine ⟨fun m_ z_ w_ => ∃ (i21 : Int), z_ = (i21, ()) ∧ J23 m_ (i21, ()) ∧ Ext w w_, ⟨m50, 0, rfl, hJ49, hB⟩, ?_⟩
  rintro m22 _ w26 ⟨i21, rfl, hJ51, hB⟩
  have H := hS24 m22 _ hJ51
  clear hS24 hJ51
  try dsimp only at H ⊢
  refine bcase_mk (fun hc47 => ?_) (fun hc47 => ?_)
  · have H := (bcase_iff.1 H).1 hc47
    refine ⟨(fun _ => False), ?_⟩
    obtain ⟨⟨h0_31, h1_32⟩, H⟩ := H
    obtain ⟨a29, ha30, hat28⟩ := Row.at (R0.ext hB) h0_31 h1_32
    refine ⟨h0_31, h1_32, a29, ha30, ?_⟩
    refine ⟨_, ⟨(fun h_ => h_), (hat28 0 _ rfl)⟩, ?_⟩
    refine ⟨_, ⟨(fun h_ => h_), (hat28 1 _ rfl)⟩, ?_⟩
    refine ⟨_, ⟨(fun h_ => h_), (hat28 2 _ rfl)⟩, ?_⟩
    refine ⟨_, ⟨(fun h_ => h_), (hat28 3 _ rfl)⟩, ?_⟩
    obtain ⟨⟨h0_36, h1_37⟩, H⟩ := H
    obtain ⟨a34, ha35, hat33⟩ := Row.at (R1.ext hB) h0_36 h1_37
    refine ⟨h0_36, h1_37, a34, ha35, ?_⟩
    refine ⟨_, ⟨(fun h_ => h_), (hat33 0 _ rfl)⟩, ?_⟩
    refine ⟨_, ⟨(fun h_ => h_), (hat33 1 _ rfl)⟩, ?_⟩
    refine ⟨_, ⟨(fun h_ => h_), (hat33 2 _ rfl)⟩, ?_⟩
    refine ⟨_, ⟨(fun h_ => h_), (hat33 3 _ rfl)⟩, ?_⟩
    have hS27 := Chg.refl (fun _ => False) w26
    have hB := ethen hB (Ext.drew _)
    have hS27 := hS27.then (Ext.drew _)
    obtain ⟨r38, hr39⟩ : ∃ r_, r_ = M.laws_eqIns (rd xs0 i21) (rd xs1 i21) := ⟨_, rfl⟩
    have H := H r38 hr39
    refine (laws_eqIns.con hr39 ).mono ?_
    rintro _ w41 ⟨rfl, e42⟩
    have hB := ethen hB e42
    have hS27 := hS27.then e42
    refine ⟨r38, rfl, ?_⟩
    refine ⟨sameBut_chg hS27, ?_⟩
    refine bcase_mk (fun hc46 => ?_) (fun hc46 => ?_)
    · have H := (bcase_iff.1 H).1 hc46
      obtain rfl := hr.trans H.symm
      exact ⟨rfl, hB⟩
    have H := (bcase_iff.1 H).2 hc46
    obtain ⟨m43, hm44, hJ45⟩ := H
    exact ⟨m43, hm44, (IntKind.wrap .i64 (i21 + 1)), rfl, hJ45, hB⟩
  have H := (bcase_iff.1 H).2 hc47
  obtain rfl := hr.trans H.symm
  exact ⟨rfl, hB⟩
def spec_LaneNew.vc (x0 : Int) (w : World) (K : Value → World → Prop) : Prop :=
  newK w (.cells #[(.int .i64 0), (.int .i64 0), (.slice none 0 0)] 144) fun g21 w22 => Cll Tryz.prog 67 #[(.int .i64 x0), (.int .i64 0), (.int .i64 23)] w22 fun v23 w24 => (∃ (b25 : Bool), v23 = (.bool b25) ∧ bcase (!b25) (stCells (⟨g21, 0, none⟩ : Addr) [(.int .i64 0), (.int .i64 0), (.slice none 0 0)] 0 w24 fun w26 => ∃ (n27 : Int), w26.cell? ((⟨g21, 0, none⟩ : Addr).add 0) = some (.int .i64 n27) ∧ ∃ (n28 : Int), w26.cell? ((⟨g21, 0, none⟩ : Addr).add 1) = some (.int .i64 n28) ∧ ∃ (A29 : Option Addr) (n30 : Nat) (c31 : Nat), w26.cell? ((⟨g21, 0, none⟩ : Addr).add 2) = some (.slice A29 n30 c31) ∧ K (.agg #[(.int .i64 n27), (.int .i64 n28), (.slice A29 n30 c31)]) w26) (vcMake Tryz.prog 24 4 4 w24 fun g32 w33 => stCells (⟨g21, 0, none⟩ : Addr) [(.int .i64 x0), (.int .i64 0), (.slice (some (⟨g32, 0, none⟩ : Addr)) ((4 : Int).toNat) ((4 : Int).toNat))] 0 w33 fun w34 => ∃ (n35 : Int), w34.cell? ((⟨g21, 0, none⟩ : Addr).add 0) = some (.int .i64 n35) ∧ ∃ (n36 : Int), w34.cell? ((⟨g21, 0, none⟩ : Addr).add 1) = some (.int .i64 n36) ∧ ∃ (A37 : Option Addr) (n38 : Nat) (c39 : Nat), w34.cell? ((⟨g21, 0, none⟩ : Addr).add 2) = some (.slice A37 n38 c39) ∧ K (.agg #[(.int .i64 n35), (.int .i64 n36), (.slice A37 n38 c39)]) w34))

def spec_LaneNew.ann : Ann := (.seq .l (.seq (.seq .l (.two (.seq .l .l) .l)) (.seq .l .l)))

theorem spec_LaneNew.start {x0 : Int} {w : World} {K : Value → World → Prop} (h : spec_LaneNew.vc x0 w K) : Cll Tryz.prog 209 #[(.int .i64 x0)] w K :=
  vcF_sound mixed (fn := Tryz.f209) (by kernel_rfl) (by kernel_rfl) (an := spec_LaneNew.ann) (args := [(.int .i64 x0)]) (Eq.mpr (by kernel_rfl) h)

theorem spec_LaneNew.con {x0 : Int} {r : D.Lane} {w : World} (hr : r = M.spec_LaneNew x0)  :
    Cll Tryz.prog 209 #[(.int .i64 x0)] w (fun v_ w_ => ∃ (A0_ : Option Addr) (c0_ : Nat), v_ = (.agg #[(.int .i64 r.Thread), (.int .i64 r.Pc), (.slice A0_ r.Regs.length c0_)]) ∧ Own el3 w_ w.heap.size A0_ c0_ r.Regs ∧ Ext w w_) := by
  have H := wp.spec_LaneNew.math x0
  have hB := Ext.refl w
  refine spec_LaneNew.start ?_
  unfold spec_LaneNew.vc
  unfold wp.spec_LaneNew at H
  refine newBlk (fun g1_ w21 L1 P1 e22 => ?_)
  have O1 := P1
  have L1 := Nat.le_trans hB.size L1
  have hB := ethen hB e22
  obtain ⟨r23, hr24⟩ : ∃ r_, r_ = M.spec_l01In x0 0 23 := ⟨_, rfl⟩
  have H := H r23 hr24
  refine (spec_l01In.con hr24 ).mono ?_
  rintro _ w26 ⟨rfl, e27⟩
  have O1 := O1.ext e27
  have hB := ethen hB e27
  refine ⟨r23, rfl, ?_⟩
  refine bcase_mk (fun hc37 => ?_) (fun hc37 => ?_)
  · have H := (bcase_iff.1 H).1 hc37
    refine stBlk O1 (o := 0) (cs' := #[(.int .i64 0), (.int .i64 0), (.slice none 0 0)]) rfl rfl (Nat.le_of_ble_eq_true rfl) rfl (fun w28 P1 e29 => ?_)
    have hB := echg hB e29 L1
    have O1 := P1
    refine ⟨_, (O1.at 0 rfl rfl), ?_⟩
    refine ⟨_, (O1.at 1 rfl rfl), ?_⟩
    refine ⟨_, _, _, (O1.at 2 rfl rfl), ?_⟩
    obtain rfl := hr.trans H.symm
    exact ⟨none, 0, rfl, Own.nil, hB⟩
  have H := (bcase_iff.1 H).2 hc37
  obtain ⟨⟨h0_33, h1_34⟩, H⟩ := H
  refine makeOwn slt24 h0_33 h1_34 (fun g30 w31 P2 e32 => ?_)
  have N2_1 := P2.apart_old O1.lt
  have O1 := O1.ext e32
  have O2 := P2.mono hB.size
  have hB := ethen hB e32
  refine stBlk O1 (o := 0) (cs' := #[(.int .i64 x0), (.int .i64 0), (.slice (some (⟨g30, 0, none⟩ : Addr)) ((4 : Int).toNat) ((4 : Int).toNat))]) rfl rfl (Nat.le_of_ble_eq_true rfl) rfl (fun w35 P1 e36 => ?_)
  have O2_ := O2.chg e36 N2_1
  have O2 := O2_
  have hB := echg hB e36 L1
  have O1 := P1
  refine ⟨_, (O1.at 0 rfl rfl), ?_⟩
  refine ⟨_, (O1.at 1 rfl rfl), ?_⟩
  refine ⟨_, _, _, (O1.at 2 rfl rfl), ?_⟩
  obtain rfl := hr.trans H.symm
  exact ⟨(some (⟨g30, 0, none⟩ : Addr)), ((4 : Int).toNat), (by first | rfl | (simp; done) | (simp; omega) | (simp [*]; done)), (by first | exact O2 | (simp only [List.length_set]; exact O2)), hB⟩
def spec_l10Copy.vc (x0_0 : Int) (x0_1 : Int) (A0_2 : Option Addr) (n0_2 : Nat) (c0_2 : Nat) (w : World) (K : Value → World → Prop) : Prop :=
  newK w (.cells #[(.int .i64 x0_0), (.int .i64 x0_1), (.slice A0_2 n0_2 c0_2)] 144) fun g21 w22 => newK w22 (.cells #[(.int .i64 0), (.int .i64 0), (.slice none 0 0)] 144) fun g23 w24 => (∃ M25 : Nat → Prop, ∃ (n26 : Int), (¬ M25 (((⟨g21, 0, none⟩ : Addr).add 0)).block ∧ w24.cell? (((⟨g21, 0, none⟩ : Addr).add 0).add 0) = some (.int .i64 n26)) ∧ ∃ (n27 : Int), (¬ M25 (((⟨g21, 0, none⟩ : Addr).add 1)).block ∧ w24.cell? (((⟨g21, 0, none⟩ : Addr).add 1).add 0) = some (.int .i64 n27)) ∧ ∃ (A28 : Option Addr) (n29 : Nat) (c30 : Nat), (¬ M25 (((⟨g21, 0, none⟩ : Addr).add 2)).block ∧ w24.cell? (((⟨g21, 0, none⟩ : Addr).add 2).add 0) = some (.slice A28 n29 c30)) ∧ Run Tryz.prog (Instr.buildSlice 24 0 #[]) w24.drew fun v31 w32 => ∃ (A33 : Option Addr) (n34 c35 : Nat), v31 = .slice A33 n34 c35 ∧ SameBut M25 w24 w32 ∧ Run Tryz.prog (Builtin.append_ #[24, 24] 24 #[(.slice A33 n34 c35), (.slice A28 n29 c30)]) w32 fun v36 w37 => ∃ (A38 : Option Addr) (n39 c40 : Nat), v36 = .slice A38 n39 c40 ∧ SameBut M25 w24 w37 ∧ stCells (⟨g23, 0, none⟩ : Addr) [(.int .i64 n26), (.int .i64 n27), (.slice A38 n39 c40)] 0 w37 fun w41 => ∃ (n42 : Int), w41.cell? ((⟨g23, 0, none⟩ : Addr).add 0) = some (.int .i64 n42) ∧ ∃ (n43 : Int), w41.cell? ((⟨g23, 0, none⟩ : Addr).add 1) = some (.int .i64 n43) ∧ ∃ (A44 : Option Addr) (n45 : Nat) (c46 : Nat), w41.cell? ((⟨g23, 0, none⟩ : Addr).add 2) = some (.slice A44 n45 c46) ∧ K (.agg #[(.int .i64 n42), (.int .i64 n43), (.slice A44 n45 c46)]) w41)

def spec_l10Copy.ann : Ann := (.seq .l (.seq .l .l))

theorem spec_l10Copy.start {x0_0 : Int} {x0_1 : Int} {A0_2 : Option Addr} {n0_2 : Nat} {c0_2 : Nat} {w : World} {K : Value → World → Prop} (h : spec_l10Copy.vc x0_0 x0_1 A0_2 n0_2 c0_2 w K) : Cll Tryz.prog 243 #[(.agg #[(.int .i64 x0_0), (.int .i64 x0_1), (.slice A0_2 n0_2 c0_2)])] w K :=
  vcF_sound mixed (fn := Tryz.f243) (by kernel_rfl) (by kernel_rfl) (an := spec_l10Copy.ann) (args := [(.agg #[(.int .i64 x0_0), (.int .i64 x0_1), (.slice A0_2 n0_2 c0_2)])]) (Eq.mpr (by kernel_rfl) h)

theorem spec_l10Copy.con {s0 : D.Lane} {A0_2 : Option Addr} {c0_2 : Nat} {r : D.Lane} {w : World} (hp : M.spec_l10Copy_pre s0) (hr : r = M.spec_l10Copy s0) (R0_2 : Row el3 w A0_2 s0.Regs) (hc0_2 : s0.Regs.length ≤ c0_2) :
    Cll Tryz.prog 243 #[(.agg #[(.int .i64 s0.Thread), (.int .i64 s0.Pc), (.slice A0_2 s0.Regs.length c0_2)])] w (fun v_ w_ => ∃ (A0_ : Option Addr) (c0_ : Nat), v_ = (.agg #[(.int .i64 r.Thread), (.int .i64 r.Pc), (.slice A0_ r.Regs.length c0_)]) ∧ Own el3 w_ w.heap.size A0_ c0_ r.Regs ∧ Ext w w_) := by
  have H := wp.spec_l10Copy.math s0 hp
  have hB := Ext.refl w
  refine spec_l10Copy.start ?_
  unfold spec_l10Copy.vc
  unfold wp.spec_l10Copy at H
  refine newBlk (fun g2_ w21 L2 P2 e22 => ?_)
  have O2 := P2
  have L2 := Nat.le_trans hB.size L2
  have hB := ethen hB e22
  refine newBlk (fun g3_ w23 L3 P3 e24 => ?_)
  have N2_3 := O2.ne L3
  have O2 := O2.ext e24
  have O3 := P3
  have L3 := Nat.le_trans hB.size L3
  have hB := ethen hB e24
  refine ⟨(fun _ => False), ?_⟩
  refine ⟨_, ⟨(fun h_ => h_), (O2.at 0 rfl rfl)⟩, ?_⟩
  refine ⟨_, ⟨(fun h_ => h_), (O2.at 1 rfl rfl)⟩, ?_⟩
  refine ⟨_, _, _, ⟨(fun h_ => h_), (O2.at 2 rfl rfl)⟩, ?_⟩
  have hS25 := Chg.refl (fun _ => False) w23
  have O2 := O2.ext (Ext.drew _)
  have O3 := O3.ext (Ext.drew _)
  have hB := ethen hB (Ext.drew _)
  have hS25 := hS25.then (Ext.drew _)
  refine buildOwn el3 ([] : List Int) (fun _ => by kernel_rfl) rfl (fun A26 w27 P4 e28 => ?_)
  have N4_2 := P4.apart_old O2.lt
  have N4_3 := P4.apart_old O3.lt
  have O2 := O2.ext e28
  have O3 := O3.ext e28
  have LB4 := (P4.mono hS25.size).low
  have O4 := P4.mono hB.size
  have hB := ethen hB e28
  have hS25 := hS25.then e28
  refine ⟨sameBut_chg hS25, ?_⟩
  obtain ⟨hl33, H⟩ := H
  refine appOwn slt24 slt24.under O4 (R0_2.ext hB) hB.size (by first | rfl | omega | (simp; done) | (simp; omega)) rfl hl33 (fun A29 c30 w31 P4 e32 => ?_)
  have N4_2_ := Apart.app N4_2 e32 O2.lt
  have O2 := O2.app e32 N4_2
  have N4_3_ := Apart.app N4_3 e32 O3.lt
  have O3 := O3.app e32 N4_3
  have N4_2 := N4_2_
  have N4_3 := N4_3_
  have hsz4_ := hS25.size
  have hS25 := hS25.app e32 (fun g h_ => (Or.inl (LB4 g h_)))
  have LB4 := e32.low LB4 hsz4_
  have hB := eapp hB e32 O4
  have O4 := P4
  refine ⟨sameBut_chg hS25, ?_⟩
  refine stBlk O3 (o := 0) (cs' := #[(.int .i64 s0.Thread), (.int .i64 s0.Pc), (.slice A29 (((([] : List Int) ++ s0.Regs)).length) c30)]) rfl rfl (Nat.le_of_ble_eq_true rfl) rfl (fun w34 P3 e35 => ?_)
  have O2_ := O2.chg e35 N2_3
  have O4_ := O4.chg e35 N4_3
  have O2 := O2_
  have O4 := O4_
  have hB := echg hB e35 L3
  have O3 := P3
  refine ⟨_, (O3.at 0 rfl rfl), ?_⟩
  refine ⟨_, (O3.at 1 rfl rfl), ?_⟩
  refine ⟨_, _, _, (O3.at 2 rfl rfl), ?_⟩
  obtain rfl := hr.trans H.symm
  exact ⟨A29, c30, rfl, O4, hB⟩
def spec_IsLocal.vc (x0_0 : Int) (x0_1 : Int) (x0_2 : Int) (x0_3 : Int) (w : World) (K : Value → World → Prop) : Prop :=
  newK w (.cells #[(.int .i64 x0_0), (.int .i64 x0_1), (.int .i64 x0_2), (.int .i64 x0_3)] 89) fun g21 w22 => ∃ (n23 : Int), w22.cell? (((⟨g21, 0, none⟩ : Addr).add 0).add 0) = some (.int .i64 n23) ∧ Cll Tryz.prog 67 #[(.int .i64 n23), (.int .i64 0), (.int .i64 12)] w22 fun v24 w25 => (∃ (b26 : Bool), v24 = (.bool b26) ∧ K (.bool b26) w25)

def spec_IsLocal.ann : Ann := (.seq .l (.seq .l .l))

theorem spec_IsLocal.start {x0_0 : Int} {x0_1 : Int} {x0_2 : Int} {x0_3 : Int} {w : World} {K : Value → World → Prop} (h : spec_IsLocal.vc x0_0 x0_1 x0_2 x0_3 w K) : Cll Tryz.prog 133 #[(.agg #[(.int .i64 x0_0), (.int .i64 x0_1), (.int .i64 x0_2), (.int .i64 x0_3)])] w K :=
  vcF_sound mixed (fn := Tryz.f133) (by kernel_rfl) (by kernel_rfl) (an := spec_IsLocal.ann) (args := [(.agg #[(.int .i64 x0_0), (.int .i64 x0_1), (.int .i64 x0_2), (.int .i64 x0_3)])]) (Eq.mpr (by kernel_rfl) h)

theorem spec_IsLocal.con {s0 : D.Ins} {r : Bool} {w : World} (hr : r = M.spec_IsLocal s0)  :
    Cll Tryz.prog 133 #[(.agg #[(.int .i64 s0.Op), (.int .i64 s0.A), (.int .i64 s0.B), (.int .i64 s0.C)])] w (fun v_ w_ => v_ = (.bool r) ∧ Ext w w_) := by
  have H := wp.spec_IsLocal.math s0
  have hB := Ext.refl w
  refine spec_IsLocal.start ?_
  unfold spec_IsLocal.vc
  unfold wp.spec_IsLocal at H
  refine newBlk (fun g1_ w21 L1 P1 e22 => ?_)
  have O1 := P1
  have L1 := Nat.le_trans hB.size L1
  have hB := ethen hB e22
  refine ⟨_, (O1.at 0 rfl rfl), ?_⟩
  obtain ⟨r23, hr24⟩ : ∃ r_, r_ = M.spec_l01In s0.Op 0 12 := ⟨_, rfl⟩
  have H := H r23 hr24
  refine (spec_l01In.con hr24 ).mono ?_
  rintro _ w26 ⟨rfl, e27⟩
  have O1 := O1.ext e27
  have hB := ethen hB e27
  refine ⟨r23, rfl, ?_⟩
  obtain rfl := hr.trans H.symm
  exact ⟨rfl, hB⟩
def spec_l04Reg.vc (x0 : Int) (w : World) (K : Value → World → Prop) : Prop :=
  Cll Tryz.prog 67 #[(.int .i64 x0), (.int .i64 0), (.int .i64 3)] w fun v21 w22 => (∃ (b23 : Bool), v21 = (.bool b23) ∧ K (.bool b23) w22)

def spec_l04Reg.ann : Ann := (.seq .l (.seq .l .l))

theorem spec_l04Reg.start {x0 : Int} {w : World} {K : Value → World → Prop} (h : spec_l04Reg.vc x0 w K) : Cll Tryz.prog 202 #[(.int .i64 x0)] w K :=
  vcF_sound mixed (fn := Tryz.f202) (by kernel_rfl) (by kernel_rfl) (an := spec_l04Reg.ann) (args := [(.int .i64 x0)]) (Eq.mpr (by kernel_rfl) h)

theorem spec_l04Reg.con {x0 : Int} {r : Bool} {w : World} (hr : r = M.spec_l04Reg x0)  :
    Cll Tryz.prog 202 #[(.int .i64 x0)] w (fun v_ w_ => v_ = (.bool r) ∧ Ext w w_) := by
  have H := wp.spec_l04Reg.math x0
  have hB := Ext.refl w
  refine spec_l04Reg.start ?_
  unfold spec_l04Reg.vc
  unfold wp.spec_l04Reg at H
  obtain ⟨r21, hr22⟩ : ∃ r_, r_ = M.spec_l01In x0 0 3 := ⟨_, rfl⟩
  have H := H r21 hr22
  refine (spec_l01In.con hr22 ).mono ?_
  rintro _ w24 ⟨rfl, e25⟩
  have hB := ethen hB e25
  refine ⟨r21, rfl, ?_⟩
  obtain rfl := hr.trans H.symm
  exact ⟨rfl, hB⟩
def spec_InsOk.vc (x0_0 : Int) (x0_1 : Int) (x0_2 : Int) (x0_3 : Int) (x1 : Int) (w : World) (K : Value → World → Prop) : Prop :=
  newK w (.cells #[(.int .i64 x0_0), (.int .i64 x0_1), (.int .i64 x0_2), (.int .i64 x0_3)] 89) fun g21 w22 => Cll Tryz.prog 67 #[(.int .i64 x1), (.int .i64 0), (.int .i64 32)] w22 fun v23 w24 => (∃ (b25 : Bool), v23 = (.bool b25) ∧ bcase (!b25) (K (.bool false) w24) (∃ (n27 : Int), w24.cell? (((⟨g21, 0, none⟩ : Addr).add 0).add 0) = some (.int .i64 n27) ∧ JoinT (σ := Bool × Unit) (fun J28 => bcase (n27 == 0) (J28 (true, ()) w24) (bcase (n27 == 12) (J28 (true, ()) w24) (J28 ((n27 == 16), ()) w24))) fun z29 w30 => bcase z29.1 (∃ (n31 : Int), w30.cell? (((⟨g21, 0, none⟩ : Addr).add 1).add 0) = some (.int .i64 n31) ∧ bcase (n31 == 0) (∃ (n32 : Int), w30.cell? (((⟨g21, 0, none⟩ : Addr).add 2).add 0) = some (.int .i64 n32) ∧ bcase (n32 == 0) (∃ (n33 : Int), w30.cell? (((⟨g21, 0, none⟩ : Addr).add 3).add 0) = some (.int .i64 n33) ∧ K (.bool (n33 == 0)) w30) (K (.bool false) w30)) (K (.bool false) w30)) (bcase (n27 == 1) (∃ (n34 : Int), w30.cell? (((⟨g21, 0, none⟩ : Addr).add 1).add 0) = some (.int .i64 n34) ∧ Cll Tryz.prog 202 #[(.int .i64 n34)] w30 fun v35 w36 => (∃ (b37 : Bool), v35 = (.bool b37) ∧ bcase b37 (∃ (n38 : Int), w36.cell? (((⟨g21, 0, none⟩ : Addr).add 2).add 0) = some (.int .i64 n38) ∧ Cll Tryz.prog 193 #[(.int .i64 n38)] w36 fun v39 w40 => (∃ (b41 : Bool), v39 = (.bool b41) ∧ bcase b41 (∃ (n42 : Int), w40.cell? (((⟨g21, 0, none⟩ : Addr).add 3).add 0) = some (.int .i64 n42) ∧ K (.bool (n42 == 0)) w40) (K (.bool false) w40))) (K (.bool false) w36))) (JoinT (σ := Bool × Unit) (fun J43 => bcase (n27 == 2) (J43 (true, ()) w30) (bcase (n27 == 13) (J43 (true, ()) w30) (bcase (n27 == 14) (J43 (true, ()) w30) (J43 ((n27 == 15), ()) w30)))) fun z44 w45 => bcase z44.1 (∃ (n46 : Int), w45.cell? (((⟨g21, 0, none⟩ : Addr).add 1).add 0) = some (.int .i64 n46) ∧ Cll Tryz.prog 202 #[(.int .i64 n46)] w45 fun v47 w48 => (∃ (b49 : Bool), v47 = (.bool b49) ∧ bcase b49 (∃ (n50 : Int), w48.cell? (((⟨g21, 0, none⟩ : Addr).add 2).add 0) = some (.int .i64 n50) ∧ Cll Tryz.prog 202 #[(.int .i64 n50)] w48 fun v51 w52 => (∃ (b53 : Bool), v51 = (.bool b53) ∧ bcase b53 (∃ (n54 : Int), w52.cell? (((⟨g21, 0, none⟩ : Addr).add 3).add 0) = some (.int .i64 n54) ∧ K (.bool (n54 == 0)) w52) (K (.bool false) w52))) (K (.bool false) w48))) (bcase (n27 == 8) (∃ (n55 : Int), w45.cell? (((⟨g21, 0, none⟩ : Addr).add 1).add 0) = some (.int .i64 n55) ∧ Cll Tryz.prog 202 #[(.int .i64 n55)] w45 fun v56 w57 => (∃ (b58 : Bool), v56 = (.bool b58) ∧ bcase b58 (∃ (n59 : Int), w57.cell? (((⟨g21, 0, none⟩ : Addr).add 2).add 0) = some (.int .i64 n59) ∧ bcase (n59 == 0) (∃ (n60 : Int), w57.cell? (((⟨g21, 0, none⟩ : Addr).add 3).add 0) = some (.int .i64 n60) ∧ K (.bool (n60 == 0)) w57) (K (.bool false) w57)) (K (.bool false) w57))) (bcase (n27 == 10) (∃ (n61 : Int), w45.cell? (((⟨g21, 0, none⟩ : Addr).add 1).add 0) = some (.int .i64 n61) ∧ Cll Tryz.prog 202 #[(.int .i64 n61)] w45 fun v62 w63 => (∃ (b64 : Bool), v62 = (.bool b64) ∧ bcase b64 (∃ (n65 : Int), w63.cell? (((⟨g21, 0, none⟩ : Addr).add 2).add 0) = some (.int .i64 n65) ∧ Cll Tryz.prog 67 #[(.int .i64 n65), (.int .i64 0), (.int .i64 x1)] w63 fun v66 w67 => (∃ (b68 : Bool), v66 = (.bool b68) ∧ bcase b68 (∃ (n69 : Int), w67.cell? (((⟨g21, 0, none⟩ : Addr).add 3).add 0) = some (.int .i64 n69) ∧ K (.bool (n69 == 0)) w67) (K (.bool false) w67))) (K (.bool false) w63))) (bcase (n27 == 11) (∃ (n70 : Int), w45.cell? (((⟨g21, 0, none⟩ : Addr).add 1).add 0) = some (.int .i64 n70) ∧ bcase (n70 == 0) (∃ (n71 : Int), w45.cell? (((⟨g21, 0, none⟩ : Addr).add 2).add 0) = some (.int .i64 n71) ∧ Cll Tryz.prog 67 #[(.int .i64 n71), (.int .i64 0), (.int .i64 x1)] w45 fun v72 w73 => (∃ (b74 : Bool), v72 = (.bool b74) ∧ bcase b74 (∃ (n75 : Int), w73.cell? (((⟨g21, 0, none⟩ : Addr).add 3).add 0) = some (.int .i64 n75) ∧ K (.bool (n75 == 0)) w73) (K (.bool false) w73))) (K (.bool false) w45)) (∃ (n76 : Int), w45.cell? (((⟨g21, 0, none⟩ : Addr).add 0).add 0) = some (.int .i64 n76) ∧ Cll Tryz.prog 67 #[(.int .i64 n76), (.int .i64 3), (.int .i64 9)] w45 fun v77 w78 => (∃ (b79 : Bool), v77 = (.bool b79) ∧ bcase b79 (∃ (n80 : Int), w78.cell? (((⟨g21, 0, none⟩ : Addr).add 1).add 0) = some (.int .i64 n80) ∧ Cll Tryz.prog 202 #[(.int .i64 n80)] w78 fun v81 w82 => (∃ (b83 : Bool), v81 = (.bool b83) ∧ bcase b83 (∃ (n84 : Int), w82.cell? (((⟨g21, 0, none⟩ : Addr).add 2).add 0) = some (.int .i64 n84) ∧ Cll Tryz.prog 202 #[(.int .i64 n84)] w82 fun v85 w86 => (∃ (b87 : Bool), v85 = (.bool b87) ∧ bcase b87 (∃ (n88 : Int), w86.cell? (((⟨g21, 0, none⟩ : Addr).add 3).add 0) = some (.int .i64 n88) ∧ Cll Tryz.prog 202 #[(.int .i64 n88)] w86 fun v89 w90 => (∃ (b91 : Bool), v89 = (.bool b91) ∧ K (.bool b91) w90)) (K (.bool false) w86))) (K (.bool false) w82))) (K (.bool false) w78))))))))))

def spec_InsOk.ann : Ann := (.seq .l (.seq (.seq .l (.two (.seq .l .l) .l)) (.seq (.seq .l (.one (.cut [(10, .bool)] (.seq .l (.two .l (.seq .l (.two .l .l)))) (.two (.seq .l .l) (.seq .l (.two (.seq .l .l) (.cut [(42, .bool)] (.seq .l (.two .l (.seq .l (.two .l (.seq .l (.two .l .l)))))) (.two (.seq .l .l) (.seq .l (.two (.seq .l .l) (.seq .l (.two (.seq .l .l) (.seq .l (.two (.seq .l .l) .l)))))))))))))) (.seq .l .l))))

theorem spec_InsOk.start {x0_0 : Int} {x0_1 : Int} {x0_2 : Int} {x0_3 : Int} {x1 : Int} {w : World} {K : Value → World → Prop} (h : spec_InsOk.vc x0_0 x0_1 x0_2 x0_3 x1 w K) : Cll Tryz.prog 192 #[(.agg #[(.int .i64 x0_0), (.int .i64 x0_1), (.int .i64 x0_2), (.int .i64 x0_3)]), (.int .i64 x1)] w K :=
  vcF_sound mixed (fn := Tryz.f192) (by kernel_rfl) (by kernel_rfl) (an := spec_InsOk.ann) (args := [(.agg #[(.int .i64 x0_0), (.int .i64 x0_1), (.int .i64 x0_2), (.int .i64 x0_3)]), (.int .i64 x1)]) (Eq.mpr (by kernel_rfl) h)

theorem spec_InsOk.con {s0 : D.Ins} {x1 : Int} {r : Bool} {w : World} (hr : r = M.spec_InsOk s0 x1)  :
    Cll Tryz.prog 192 #[(.agg #[(.int .i64 s0.Op), (.int .i64 s0.A), (.int .i64 s0.B), (.int .i64 s0.C)]), (.int .i64 x1)] w (fun v_ w_ => v_ = (.bool r) ∧ Ext w w_) := by
  have H := wp.spec_InsOk.math s0 x1
  have hB := Ext.refl w
  refine spec_InsOk.start ?_
  unfold spec_InsOk.vc
  unfold wp.spec_InsOk at H
  refine newBlk (fun g1_ w21 L1 P1 e22 => ?_)
  have O1 := P1
  have L1 := Nat.le_trans hB.size L1
  have hB := ethen hB e22
  obtain ⟨r23, hr24⟩ : ∃ r_, r_ = M.spec_l01In x1 0 32 := ⟨_, rfl⟩
  have H := H r23 hr24
  refine (spec_l01In.con hr24 ).mono ?_
  rintro _ w26 ⟨rfl, e27⟩
  have O1 := O1.ext e27
  have hB := ethen hB e27
  refine ⟨r23, rfl, ?_⟩
  refine bcase_mk (fun hc126 => ?_) (fun hc126 => ?_)
  · have H := (bcase_iff.1 H).1 hc126
    obtain rfl := hr.trans H.symm
    exact ⟨rfl, hB⟩
  have H := (bcase_iff.1 H).2 hc126
  refine ⟨_, (O1.at 0 rfl rfl), ?_⟩
  obtain ⟨K125, hKK125, H⟩ := joinP_out H
  refine ⟨fun z_ w_ => ∃ (b28 : Bool), z_ = (b28, ()) ∧ K125 (b28, ()) ∧ Ext w w_ ∧ Blk w_ g1_ 89 #[(.int .i64 s0.Op), (.int .i64 s0.A), (.int .i64 s0.B), (.int .i64 s0.C)], ?_, ?_⟩
  · refine bcase_mk (fun hc33 => ?_) (fun hc33 => ?_)
    · have H := (bcase_iff.1 H).1 hc33
      exact ⟨true, rfl, H, hB, O1⟩
    have H := (bcase_iff.1 H).2 hc33
    refine bcase_mk (fun hc32 => ?_) (fun hc32 => ?_)
    · have H := (bcase_iff.1 H).1 hc32
      exact ⟨true, rfl, H, hB, O1⟩
    have H := (bcase_iff.1 H).2 hc32
    exact ⟨(s0.Op == 16), rfl, H, hB, O1⟩
  rintro _ w30 ⟨b28, rfl, H, hB, O1⟩
  have H := hKK125 _ H
  try dsimp only at H ⊢
  refine bcase_mk (fun hc123 => ?_) (fun hc123 => ?_)
  · have H := (bcase_iff.1 H).1 hc123
    refine ⟨_, (O1.at 1 rfl rfl), ?_⟩
    refine bcase_mk (fun hc35 => ?_) (fun hc35 => ?_)
    · have H := (bcase_iff.1 H).1 hc35
      refine ⟨_, (O1.at 2 rfl rfl), ?_⟩
      refine bcase_mk (fun hc34 => ?_) (fun hc34 => ?_)
      · have H := (bcase_iff.1 H).1 hc34
        refine ⟨_, (O1.at 3 rfl rfl), ?_⟩
        obtain rfl := hr.trans H.symm
        exact ⟨rfl, hB⟩
      have H := (bcase_iff.1 H).2 hc34
      obtain rfl := hr.trans H.symm
      exact ⟨rfl, hB⟩
    have H := (bcase_iff.1 H).2 hc35
    obtain rfl := hr.trans H.symm
    exact ⟨rfl, hB⟩
  have H := (bcase_iff.1 H).2 hc123
  refine bcase_mk (fun hc122 => ?_) (fun hc122 => ?_)
  · have H := (bcase_iff.1 H).1 hc122
    refine ⟨_, (O1.at 1 rfl rfl), ?_⟩
    obtain ⟨r36, hr37⟩ : ∃ r_, r_ = M.spec_l04Reg s0.A := ⟨_, rfl⟩
    have H := H r36 hr37
    refine (spec_l04Reg.con hr37 ).mono ?_
    rintro _ w39 ⟨rfl, e40⟩
    have O1 := O1.ext e40
    have hB := ethen hB e40
    refine ⟨r36, rfl, ?_⟩
    refine bcase_mk (fun hc47 => ?_) (fun hc47 => ?_)
    · have H := (bcase_iff.1 H).1 hc47
      refine ⟨_, (O1.at 2 rfl rfl), ?_⟩
      obtain ⟨r41, hr42⟩ : ∃ r_, r_ = M.spec_IsWord s0.B := ⟨_, rfl⟩
      have H := H r41 hr42
      refine (spec_IsWord.con hr42 ).mono ?_
      rintro _ w44 ⟨rfl, e45⟩
      have O1 := O1.ext e45
      have hB := ethen hB e45
      refine ⟨r41, rfl, ?_⟩
      refine bcase_mk (fun hc46 => ?_) (fun hc46 => ?_)
      · have H := (bcase_iff.1 H).1 hc46
        refine ⟨_, (O1.at 3 rfl rfl), ?_⟩
        obtain rfl := hr.trans H.symm
        exact ⟨rfl, hB⟩
      have H := (bcase_iff.1 H).2 hc46
      obtain rfl := hr.trans H.symm
      exact ⟨rfl, hB⟩
    have H := (bcase_iff.1 H).2 hc47
    obtain rfl := hr.trans H.symm
    exact ⟨rfl, hB⟩
  have H := (bcase_iff.1 H).2 hc122
  obtain ⟨K121, hKK121, H⟩ := joinP_out H
  refine ⟨fun z_ w_ => ∃ (b48 : Bool), z_ = (b48, ()) ∧ K121 (b48, ()) ∧ Ext w w_ ∧ Blk w_ g1_ 89 #[(.int .i64 s0.Op), (.int .i64 s0.A), (.int .i64 s0.B), (.int .i64 s0.C)], ?_, ?_⟩
  · refine bcase_mk (fun hc54 => ?_) (fun hc54 => ?_)
    · have H := (bcase_iff.1 H).1 hc54
      exact ⟨true, rfl, H, hB, O1⟩
    have H := (bcase_iff.1 H).2 hc54
    refine bcase_mk (fun hc53 => ?_) (fun hc53 => ?_)
    · have H := (bcase_iff.1 H).1 hc53
      exact ⟨true, rfl, H, hB, O1⟩
    have H := (bcase_iff.1 H).2 hc53
    refine bcase_mk (fun hc52 => ?_) (fun hc52 => ?_)
    · have H := (bcase_iff.1 H).1 hc52
      exact ⟨true, rfl, H, hB, O1⟩
    have H := (bcase_iff.1 H).2 hc52
    exact ⟨(s0.Op == 15), rfl, H, hB, O1⟩
  rintro _ w50 ⟨b48, rfl, H, hB, O1⟩
  have H := hKK121 _ H
  try dsimp only at H ⊢
  refine bcase_mk (fun hc119 => ?_) (fun hc119 => ?_)
  · have H := (bcase_iff.1 H).1 hc119
    refine ⟨_, (O1.at 1 rfl rfl), ?_⟩
    obtain ⟨r55, hr56⟩ : ∃ r_, r_ = M.spec_l04Reg s0.A := ⟨_, rfl⟩
    have H := H r55 hr56
    refine (spec_l04Reg.con hr56 ).mono ?_
    rintro _ w58 ⟨rfl, e59⟩
    have O1 := O1.ext e59
    have hB := ethen hB e59
    refine ⟨r55, rfl, ?_⟩
    refine bcase_mk (fun hc66 => ?_) (fun hc66 => ?_)
    · have H := (bcase_iff.1 H).1 hc66
      refine ⟨_, (O1.at 2 rfl rfl), ?_⟩
      obtain ⟨r60, hr61⟩ : ∃ r_, r_ = M.spec_l04Reg s0.B := ⟨_, rfl⟩
      have H := H r60 hr61
      refine (spec_l04Reg.con hr61 ).mono ?_
      rintro _ w63 ⟨rfl, e64⟩
      have O1 := O1.ext e64
      have hB := ethen hB e64
      refine ⟨r60, rfl, ?_⟩
      refine bcase_mk (fun hc65 => ?_) (fun hc65 => ?_)
      · have H := (bcase_iff.1 H).1 hc65
        refine ⟨_, (O1.at 3 rfl rfl), ?_⟩
        obtain rfl := hr.trans H.symm
        exact ⟨rfl, hB⟩
      have H := (bcase_iff.1 H).2 hc65
      obtain rfl := hr.trans H.symm
      exact ⟨rfl, hB⟩
    have H := (bcase_iff.1 H).2 hc66
    obtain rfl := hr.trans H.symm
    exact ⟨rfl, hB⟩
  have H := (bcase_iff.1 H).2 hc119
  refine bcase_mk (fun hc118 => ?_) (fun hc118 => ?_)
  · have H := (bcase_iff.1 H).1 hc118
    refine ⟨_, (O1.at 1 rfl rfl), ?_⟩
    obtain ⟨r67, hr68⟩ : ∃ r_, r_ = M.spec_l04Reg s0.A := ⟨_, rfl⟩
    have H := H r67 hr68
    refine (spec_l04Reg.con hr68 ).mono ?_
    rintro _ w70 ⟨rfl, e71⟩
    have O1 := O1.ext e71
    have hB := ethen hB e71
    refine ⟨r67, rfl, ?_⟩
    refine bcase_mk (fun hc73 => ?_) (fun hc73 => ?_)
    · have H := (bcase_iff.1 H).1 hc73
      refine ⟨_, (O1.at 2 rfl rfl), ?_⟩
      refine bcase_mk (fun hc72 => ?_) (fun hc72 => ?_)
      · have H := (bcase_iff.1 H).1 hc72
        refine ⟨_, (O1.at 3 rfl rfl), ?_⟩
        obtain rfl := hr.trans H.symm
        exact ⟨rfl, hB⟩
      have H := (bcase_iff.1 H).2 hc72
      obtain rfl := hr.trans H.symm
      exact ⟨rfl, hB⟩
    have H := (bcase_iff.1 H).2 hc73
    obtain rfl := hr.trans H.symm
    exact ⟨rfl, hB⟩
  have H := (bcase_iff.1 H).2 hc118
  refine bcase_mk (fun hc117 => ?_) (fun hc117 => ?_)
  · have H := (bcase_iff.1 H).1 hc117
    refine ⟨_, (O1.at 1 rfl rfl), ?_⟩
    obtain ⟨r74, hr75⟩ : ∃ r_, r_ = M.spec_l04Reg s0.A := ⟨_, rfl⟩
    have H := H r74 hr75
    refine (spec_l04Reg.con hr75 ).mono ?_
    rintro _ w77 ⟨rfl, e78⟩
    have O1 := O1.ext e78
    have hB := ethen hB e78
    refine ⟨r74, rfl, ?_⟩
    refine bcase_mk (fun hc85 => ?_) (fun hc85 => ?_)
    · have H := (bcase_iff.1 H).1 hc85
      refine ⟨_, (O1.at 2 rfl rfl), ?_⟩
      obtain ⟨r79, hr80⟩ : ∃ r_, r_ = M.spec_l01In s0.B 0 x1 := ⟨_, rfl⟩
      have H := H r79 hr80
      refine (spec_l01In.con hr80 ).mono ?_
      rintro _ w82 ⟨rfl, e83⟩
      have O1 := O1.ext e83
      have hB := ethen hB e83
      refine ⟨r79, rfl, ?_⟩
      refine bcase_mk (fun hc84 => ?_) (fun hc84 => ?_)
      · have H := (bcase_iff.1 H).1 hc84
        refine ⟨_, (O1.at 3 rfl rfl), ?_⟩
        obtain rfl := hr.trans H.symm
        exact ⟨rfl, hB⟩
      have H := (bcase_iff.1 H).2 hc84
      obtain rfl := hr.trans H.symm
      exact ⟨rfl, hB⟩
    have H := (bcase_iff.1 H).2 hc85
    obtain rfl := hr.trans H.symm
    exact ⟨rfl, hB⟩
  have H := (bcase_iff.1 H).2 hc117
  refine bcase_mk (fun hc116 => ?_) (fun hc116 => ?_)
  · have H := (bcase_iff.1 H).1 hc116
    refine ⟨_, (O1.at 1 rfl rfl), ?_⟩
    refine bcase_mk (fun hc92 => ?_) (fun hc92 => ?_)
    · have H := (bcase_iff.1 H).1 hc92
      refine ⟨_, (O1.at 2 rfl rfl), ?_⟩
      obtain ⟨r86, hr87⟩ : ∃ r_, r_ = M.spec_l01In s0.B 0 x1 := ⟨_, rfl⟩
      have H := H r86 hr87
      refine (spec_l01In.con hr87 ).mono ?_
      rintro _ w89 ⟨rfl, e90⟩
      have O1 := O1.ext e90
      have hB := ethen hB e90
      refine ⟨r86, rfl, ?_⟩
      refine bcase_mk (fun hc91 => ?_) (fun hc91 => ?_)
      · have H := (bcase_iff.1 H).1 hc91
        refine ⟨_, (O1.at 3 rfl rfl), ?_⟩
        obtain rfl := hr.trans H.symm
        exact ⟨rfl, hB⟩
      have H := (bcase_iff.1 H).2 hc91
      obtain rfl := hr.trans H.symm
      exact ⟨rfl, hB⟩
    have H := (bcase_iff.1 H).2 hc92
    obtain rfl := hr.trans H.symm
    exact ⟨rfl, hB⟩
  have H := (bcase_iff.1 H).2 hc116
  refine ⟨_, (O1.at 0 rfl rfl), ?_⟩
  obtain ⟨r93, hr94⟩ : ∃ r_, r_ = M.spec_l01In s0.Op 3 9 := ⟨_, rfl⟩
  have H := H r93 hr94
  refine (spec_l01In.con hr94 ).mono ?_
  rintro _ w96 ⟨rfl, e97⟩
  have O1 := O1.ext e97
  have hB := ethen hB e97
  refine ⟨r93, rfl, ?_⟩
  refine bcase_mk (fun hc115 => ?_) (fun hc115 => ?_)
  · have H := (bcase_iff.1 H).1 hc115
    refine ⟨_, (O1.at 1 rfl rfl), ?_⟩
    obtain ⟨r98, hr99⟩ : ∃ r_, r_ = M.spec_l04Reg s0.A := ⟨_, rfl⟩
    have H := H r98 hr99
    refine (spec_l04Reg.con hr99 ).mono ?_
    rintro _ w101 ⟨rfl, e102⟩
    have O1 := O1.ext e102
    have hB := ethen hB e102
    refine ⟨r98, rfl, ?_⟩
    refine bcase_mk (fun hc114 => ?_) (fun hc114 => ?_)
    · have H := (bcase_iff.1 H).1 hc114
      refine ⟨_, (O1.at 2 rfl rfl), ?_⟩
      obtain ⟨r103, hr104⟩ : ∃ r_, r_ = M.spec_l04Reg s0.B := ⟨_, rfl⟩
      have H := H r103 hr104
      refine (spec_l04Reg.con hr104 ).mono ?_
      rintro _ w106 ⟨rfl, e107⟩
      have O1 := O1.ext e107
      have hB := ethen hB e107
      refine ⟨r103, rfl, ?_⟩
      refine bcase_mk (fun hc113 => ?_) (fun hc113 => ?_)
      · have H := (bcase_iff.1 H).1 hc113
        refine ⟨_, (O1.at 3 rfl rfl), ?_⟩
        obtain ⟨r108, hr109⟩ : ∃ r_, r_ = M.spec_l04Reg s0.C := ⟨_, rfl⟩
        have H := H r108 hr109
        refine (spec_l04Reg.con hr109 ).mono ?_
        rintro _ w111 ⟨rfl, e112⟩
        have O1 := O1.ext e112
        have hB := ethen hB e112
        refine ⟨r108, rfl, ?_⟩
        obtain rfl := hr.trans H.symm
        exact ⟨rfl, hB⟩
      have H := (bcase_iff.1 H).2 hc113
      obtain rfl := hr.trans H.symm
      exact ⟨rfl, hB⟩
    have H := (bcase_iff.1 H).2 hc114
    obtain rfl := hr.trans H.symm
    exact ⟨rfl, hB⟩
  have H := (bcase_iff.1 H).2 hc115
  obtain rfl := hr.trans H.symm
  exact ⟨rfl, hB⟩
def spec_ProgramOk.vc (A0 : Option Addr) (n0 : Nat) (c0 : Nat) (w : World) (K : Value → World → Prop) : Prop :=
  LoopT (σ := Int × Unit) (fun z21 w22 next23 => bcase (decide (z21.1 < ((n0 : Nat) : Int))) (((0 : Int) ≤ z21.1 ∧ z21.1 < ((n0 : Nat) : Int) ∧ ∃ a24 : Addr, A0 = some a24 ∧ ∃ (n25 : Int), w22.cell? ((a24.add ((z21.1.toNat) * 4)).add 0) = some (.int .i64 n25) ∧ ∃ (n26 : Int), w22.cell? ((a24.add ((z21.1.toNat) * 4)).add 1) = some (.int .i64 n26) ∧ ∃ (n27 : Int), w22.cell? ((a24.add ((z21.1.toNat) * 4)).add 2) = some (.int .i64 n27) ∧ ∃ (n28 : Int), w22.cell? ((a24.add ((z21.1.toNat) * 4)).add 3) = some (.int .i64 n28) ∧ Cll Tryz.prog 192 #[(.agg #[(.int .i64 n25), (.int .i64 n26), (.int .i64 n27), (.int .i64 n28)]), (.int .i64 ((n0 : Nat) : Int))] w22 fun v29 w30 => (∃ (b31 : Bool), v29 = (.bool b31) ∧ bcase (!b31) (K (.bool false) w30) (next23 ((IntKind.wrap .i64 (z21.1 + 1)), ()) w30)))) (K (.bool (decide (((n0 : Nat) : Int) ≤ 32))) w22)) (0, ()) w

def spec_ProgramOk.ann : Ann := (.seq .l (.seq (.seq .l (.one (.loop [(3, .int .i64)] (.seq (.seq .l (.two .l .l)) (.seq (.one (.seq .l (.two (.seq .l .l) .l))) .l))))) (.seq .l .l)))

theorem spec_ProgramOk.start {A0 : Option Addr} {n0 : Nat} {c0 : Nat} {w : World} {K : Value → World → Prop} (h : spec_ProgramOk.vc A0 n0 c0 w K) : Cll Tryz.prog 134 #[(.slice A0 n0 c0)] w K :=
  vcF_sound mixed (fn := Tryz.f134) (by kernel_rfl) (by kernel_rfl) (an := spec_ProgramOk.ann) (args := [(.slice A0 n0 c0)]) (Eq.mpr (by kernel_rfl) h)

theorem spec_ProgramOk.con {xs0 : List D.Ins} {A0 : Option Addr} {c0 : Nat} {r : Bool} {w : World} (hp : M.spec_ProgramOk_pre xs0) (hr : r = M.spec_ProgramOk xs0) (R0 : Row el89 w A0 xs0) (hc0 : xs0.length ≤ c0) :
    Cll Tryz.prog 134 #[(.slice A0 xs0.length c0)] w (fun v_ w_ => v_ = (.bool r) ∧ Ext w w_) := by
  have H := wp.spec_ProgramOk.math xs0 hp
  have hB := Ext.refl w
  refine spec_ProgramOk.start ?_
  unfold spec_ProgramOk.vc
  unfold wp.spec_ProgramOk at H
  obtain ⟨J23, ⟨m44, hJ43⟩, hS24⟩ := H
  refine ⟨fun m_ z_ w_ => ∃ (i21 : Int), z_ = (i21, ()) ∧ J23 m_ (i21, ()) ∧ Ext w w_, ⟨m44, 0, rfl, hJ43, hB⟩, ?_⟩
  rintro m22 _ w26 ⟨i21, rfl, hJ45, hB⟩
  have H := hS24 m22 _ hJ45
  clear hS24 hJ45
  try dsimp only at H ⊢
  refine bcase_mk (fun hc41 => ?_) (fun hc41 => ?_)
  · have H := (bcase_iff.1 H).1 hc41
    obtain ⟨⟨h0_30, h1_31⟩, H⟩ := H
    obtain ⟨a28, ha29, hat27⟩ := Row.at (R0.ext hB) h0_30 h1_31
    refine ⟨h0_30, h1_31, a28, ha29, ?_⟩
    refine ⟨_, (hat27 0 _ rfl), ?_⟩
    refine ⟨_, (hat27 1 _ rfl), ?_⟩
    refine ⟨_, (hat27 2 _ rfl), ?_⟩
    refine ⟨_, (hat27 3 _ rfl), ?_⟩
    obtain ⟨r32, hr33⟩ : ∃ r_, r_ = M.spec_InsOk (rd xs0 i21) ((xs0.length : Nat) : Int) := ⟨_, rfl⟩
    have H := H r32 hr33
    refine (spec_InsOk.con hr33 ).mono ?_
    rintro _ w35 ⟨rfl, e36⟩
    have hB := ethen hB e36
    refine ⟨r32, rfl, ?_⟩
    refine bcase_mk (fun hc40 => ?_) (fun hc40 => ?_)
    · have H := (bcase_iff.1 H).1 hc40
      obtain rfl := hr.trans H.symm
      exact ⟨rfl, hB⟩
    have H := (bcase_iff.1 H).2 hc40
    obtain ⟨m37, hm38, hJ39⟩ := H
    exact ⟨m37, hm38, (IntKind.wrap .i64 (i21 + 1)), rfl, hJ39, hB⟩
  have H := (bcase_iff.1 H).2 hc41
  obtain rfl := hr.trans H.symm
  exact ⟨rfl, hB⟩
def spec_IsQuiet.vc (A0 : Option Addr) (n0 : Nat) (c0 : Nat) (w : World) (K : Value → World → Prop) : Prop :=
  LoopT (σ := Int × Unit) (fun z21 w22 next23 => bcase (decide (z21.1 < ((n0 : Nat) : Int))) (((0 : Int) ≤ z21.1 ∧ z21.1 < ((n0 : Nat) : Int) ∧ ∃ a24 : Addr, A0 = some a24 ∧ ∃ (n25 : Int), w22.cell? ((a24.add ((z21.1.toNat) * 4)).add 0) = some (.int .i64 n25) ∧ ∃ (n26 : Int), w22.cell? ((a24.add ((z21.1.toNat) * 4)).add 1) = some (.int .i64 n26) ∧ ∃ (n27 : Int), w22.cell? ((a24.add ((z21.1.toNat) * 4)).add 2) = some (.int .i64 n27) ∧ ∃ (n28 : Int), w22.cell? ((a24.add ((z21.1.toNat) * 4)).add 3) = some (.int .i64 n28) ∧ Cll Tryz.prog 133 #[(.agg #[(.int .i64 n25), (.int .i64 n26), (.int .i64 n27), (.int .i64 n28)])] w22 fun v29 w30 => (∃ (b31 : Bool), v29 = (.bool b31) ∧ bcase (!b31) (K (.bool false) w30) (next23 ((IntKind.wrap .i64 (z21.1 + 1)), ()) w30)))) (Cll Tryz.prog 134 #[(.slice A0 n0 c0)] w22 fun v32 w33 => (∃ (b34 : Bool), v32 = (.bool b34) ∧ K (.bool b34) w33))) (0, ()) w

def spec_IsQuiet.ann : Ann := (.seq .l (.seq (.seq .l (.one (.loop [(3, .int .i64)] (.seq (.seq .l (.two .l .l)) (.seq (.one (.seq .l (.two (.seq .l .l) .l))) .l))))) (.seq .l .l)))

theorem spec_IsQuiet.start {A0 : Option Addr} {n0 : Nat} {c0 : Nat} {w : World} {K : Value → World → Prop} (h : spec_IsQuiet.vc A0 n0 c0 w K) : Cll Tryz.prog 65 #[(.slice A0 n0 c0)] w K :=
  vcF_sound mixed (fn := Tryz.f65) (by kernel_rfl) (by kernel_rfl) (an := spec_IsQuiet.ann) (args := [(.slice A0 n0 c0)]) (Eq.mpr (by kernel_rfl) h)

theorem spec_IsQuiet.con {xs0 : List D.Ins} {A0 : Option Addr} {c0 : Nat} {r : Bool} {w : World} (hp : M.spec_IsQuiet_pre xs0) (hr : r = M.spec_IsQuiet xs0) (R0 : Row el89 w A0 xs0) (hc0 : xs0.length ≤ c0) :
    Cll Tryz.prog 65 #[(.slice A0 xs0.length c0)] w (fun v_ w_ => v_ = (.bool r) ∧ Ext w w_) := by
  have H := wp.spec_IsQuiet.math xs0 hp
  have hB := Ext.refl w
  refine spec_IsQuiet.start ?_
  unfold spec_IsQuiet.vc
  unfold wp.spec_IsQuiet at H
  obtain ⟨J23, ⟨m49, hJ48⟩, hS24⟩ := H
  refine ⟨fun m_ z_ w_ => ∃ (i21 : Int), z_ = (i21, ()) ∧ J23 m_ (i21, ()) ∧ Ext w w_, ⟨m49, 0, rfl, hJ48, hB⟩, ?_⟩
  rintro m22 _ w26 ⟨i21, rfl, hJ50, hB⟩
  have H := hS24 m22 _ hJ50
  clear hS24 hJ50
  try dsimp only at H ⊢
  refine bcase_mk (fun hc46 => ?_) (fun hc46 => ?_)
  · have H := (bcase_iff.1 H).1 hc46
    obtain ⟨⟨h0_30, h1_31⟩, H⟩ := H
    obtain ⟨a28, ha29, hat27⟩ := Row.at (R0.ext hB) h0_30 h1_31
    refine ⟨h0_30, h1_31, a28, ha29, ?_⟩
    refine ⟨_, (hat27 0 _ rfl), ?_⟩
    refine ⟨_, (hat27 1 _ rfl), ?_⟩
    refine ⟨_, (hat27 2 _ rfl), ?_⟩
    refine ⟨_, (hat27 3 _ rfl), ?_⟩
    obtain ⟨r32, hr33⟩ : ∃ r_, r_ = M.spec_IsLocal (rd xs0 i21) := ⟨_, rfl⟩
    have H := H r32 hr33
    refine (spec_IsLocal.con hr33 ).mono ?_
    rintro _ w35 ⟨rfl, e36⟩
    have hB := ethen hB e36
    refine ⟨r32, rfl, ?_⟩
    refine bcase_mk (fun hc40 => ?_) (fun hc40 => ?_)
    · have H := (bcase_iff.1 H).1 hc40
      obtain rfl := hr.trans H.symm
      exact ⟨rfl, hB⟩
    have H := (bcase_iff.1 H).2 hc40
    obtain ⟨m37, hm38, hJ39⟩ := H
    exact ⟨m37, hm38, (IntKind.wrap .i64 (i21 + 1)), rfl, hJ39, hB⟩
  have H := (bcase_iff.1 H).2 hc46
  obtain ⟨hp43, H⟩ := H
  obtain ⟨r41, hr42⟩ : ∃ r_, r_ = M.spec_ProgramOk xs0 := ⟨_, rfl⟩
  have H := H r41 hr42
  refine (spec_ProgramOk.con hp43 hr42 (R0.ext hB) hc0).mono ?_
  rintro _ w44 ⟨rfl, e45⟩
  have hB := ethen hB e45
  refine ⟨r41, rfl, ?_⟩
  obtain rfl := hr.trans H.symm
  exact ⟨rfl, hB⟩
def spec_LaneOk.vc (A0 : Option Addr) (n0 : Nat) (c0 : Nat) (x1_0 : Int) (x1_1 : Int) (A1_2 : Option Addr) (n1_2 : Nat) (c1_2 : Nat) (w : World) (K : Value → World → Prop) : Prop :=
  newK w (.cells #[(.int .i64 x1_0), (.int .i64 x1_1), (.slice A1_2 n1_2 c1_2)] 144) fun g21 w22 => Cll Tryz.prog 134 #[(.slice A0 n0 c0)] w22 fun v23 w24 => (∃ (b25 : Bool), v23 = (.bool b25) ∧ bcase b25 (∃ (n26 : Int), w24.cell? (((⟨g21, 0, none⟩ : Addr).add 0).add 0) = some (.int .i64 n26) ∧ Cll Tryz.prog 67 #[(.int .i64 n26), (.int .i64 0), (.int .i64 23)] w24 fun v27 w28 => (∃ (b29 : Bool), v27 = (.bool b29) ∧ bcase b29 (∃ (n30 : Int), w28.cell? (((⟨g21, 0, none⟩ : Addr).add 1).add 0) = some (.int .i64 n30) ∧ Cll Tryz.prog 67 #[(.int .i64 n30), (.int .i64 0), (.int .i64 ((n0 : Nat) : Int))] w28 fun v31 w32 => (∃ (b33 : Bool), v31 = (.bool b33) ∧ bcase b33 (∃ (A34 : Option Addr) (n35 : Nat) (c36 : Nat), w32.cell? (((⟨g21, 0, none⟩ : Addr).add 2).add 0) = some (.slice A34 n35 c36) ∧ bcase (((n35 : Nat) : Int) == 4) (∃ (A37 : Option Addr) (n38 : Nat) (c39 : Nat), w32.cell? (((⟨g21, 0, none⟩ : Addr).add 2).add 0) = some (.slice A37 n38 c39) ∧ Cll Tryz.prog 135 #[(.slice A37 n38 c39)] w32 fun v40 w41 => (∃ (b42 : Bool), v40 = (.bool b42) ∧ K (.bool b42) w41)) (K (.bool false) w32)) (K (.bool false) w32))) (K (.bool false) w28))) (K (.bool false) w24))

def spec_LaneOk.ann : Ann := (.seq .l (.seq .l .l))

theorem spec_LaneOk.start {A0 : Option Addr} {n0 : Nat} {c0 : Nat} {x1_0 : Int} {x1_1 : Int} {A1_2 : Option Addr} {n1_2 : Nat} {c1_2 : Nat} {w : World} {K : Value → World → Prop} (h : spec_LaneOk.vc A0 n0 c0 x1_0 x1_1 A1_2 n1_2 c1_2 w K) : Cll Tryz.prog 244 #[(.slice A0 n0 c0), (.agg #[(.int .i64 x1_0), (.int .i64 x1_1), (.slice A1_2 n1_2 c1_2)])] w K :=
  vcF_sound mixed (fn := Tryz.f244) (by kernel_rfl) (by kernel_rfl) (an := spec_LaneOk.ann) (args := [(.slice A0 n0 c0), (.agg #[(.int .i64 x1_0), (.int .i64 x1_1), (.slice A1_2 n1_2 c1_2)])]) (Eq.mpr (by kernel_rfl) h)

theorem spec_LaneOk.con {xs0 : List D.Ins} {A0 : Option Addr} {c0 : Nat} {s1 : D.Lane} {A1_2 : Option Addr} {c1_2 : Nat} {r : Bool} {w : World} (hp : M.spec_LaneOk_pre xs0 s1) (hr : r = M.spec_LaneOk xs0 s1) (R0 : Row el89 w A0 xs0) (hc0 : xs0.length ≤ c0) (R1_2 : Row el3 w A1_2 s1.Regs) (hc1_2 : s1.Regs.length ≤ c1_2) :
    Cll Tryz.prog 244 #[(.slice A0 xs0.length c0), (.agg #[(.int .i64 s1.Thread), (.int .i64 s1.Pc), (.slice A1_2 s1.Regs.length c1_2)])] w (fun v_ w_ => v_ = (.bool r) ∧ Ext w w_) := by
  have H := wp.spec_LaneOk.math xs0 s1 hp
  have hB := Ext.refl w
  refine spec_LaneOk.start ?_
  unfold spec_LaneOk.vc
  unfold wp.spec_LaneOk at H
  refine newBlk (fun g3_ w21 L3 P3 e22 => ?_)
  have O3 := P3
  have L3 := Nat.le_trans hB.size L3
  have hB := ethen hB e22
  obtain ⟨hp25, H⟩ := H
  obtain ⟨r23, hr24⟩ : ∃ r_, r_ = M.spec_ProgramOk xs0 := ⟨_, rfl⟩
  have H := H r23 hr24
  refine (spec_ProgramOk.con hp25 hr24 (R0.ext hB) hc0).mono ?_
  rintro _ w26 ⟨rfl, e27⟩
  have O3 := O3.ext e27
  have hB := ethen hB e27
  refine ⟨r23, rfl, ?_⟩
  refine bcase_mk (fun hc46 => ?_) (fun hc46 => ?_)
  · have H := (bcase_iff.1 H).1 hc46
    refine ⟨_, (O3.at 0 rfl rfl), ?_⟩
    obtain ⟨r28, hr29⟩ : ∃ r_, r_ = M.spec_l01In s1.Thread 0 23 := ⟨_, rfl⟩
    have H := H r28 hr29
    refine (spec_l01In.con hr29 ).mono ?_
    rintro _ w31 ⟨rfl, e32⟩
    have O3 := O3.ext e32
    have hB := ethen hB e32
    refine ⟨r28, rfl, ?_⟩
    refine bcase_mk (fun hc45 => ?_) (fun hc45 => ?_)
    · have H := (bcase_iff.1 H).1 hc45
      refine ⟨_, (O3.at 1 rfl rfl), ?_⟩
      obtain ⟨r33, hr34⟩ : ∃ r_, r_ = M.spec_l01In s1.Pc 0 ((xs0.length : Nat) : Int) := ⟨_, rfl⟩
      have H := H r33 hr34
      refine (spec_l01In.con hr34 ).mono ?_
      rintro _ w36 ⟨rfl, e37⟩
      have O3 := O3.ext e37
      have hB := ethen hB e37
      refine ⟨r33, rfl, ?_⟩
      refine bcase_mk (fun hc44 => ?_) (fun hc44 => ?_)
      · have H := (bcase_iff.1 H).1 hc44
        refine ⟨_, _, _, (O3.at 2 rfl rfl), ?_⟩
        refine bcase_mk (fun hc43 => ?_) (fun hc43 => ?_)
        · have H := (bcase_iff.1 H).1 hc43
          refine ⟨_, _, _, (O3.at 2 rfl rfl), ?_⟩
          obtain ⟨hp40, H⟩ := H
          obtain ⟨r38, hr39⟩ : ∃ r_, r_ = M.spec_AreWords s1.Regs := ⟨_, rfl⟩
          have H := H r38 hr39
          refine (spec_AreWords.con hp40 hr39 (R1_2.ext hB) hc1_2).mono ?_
          rintro _ w41 ⟨rfl, e42⟩
          have O3 := O3.ext e42
          have hB := ethen hB e42
          refine ⟨r38, rfl, ?_⟩
          obtain rfl := hr.trans H.symm
          exact ⟨rfl, hB⟩
        have H := (bcase_iff.1 H).2 hc43
        obtain rfl := hr.trans H.symm
        exact ⟨rfl, hB⟩
      have H := (bcase_iff.1 H).2 hc44
      obtain rfl := hr.trans H.symm
      exact ⟨rfl, hB⟩
    have H := (bcase_iff.1 H).2 hc45
    obtain rfl := hr.trans H.symm
    exact ⟨rfl, hB⟩
  have H := (bcase_iff.1 H).2 hc46
  obtain rfl := hr.trans H.symm
  exact ⟨rfl, hB⟩
def spec_l10Next.vc (A0 : Option Addr) (n0 : Nat) (c0 : Nat) (x1 : Int) (A2 : Option Addr) (n2 : Nat) (c2 : Nat) (w : World) (K : Value → World → Prop) : Prop :=
  ((0 : Int) ≤ x1 ∧ x1 < ((n0 : Nat) : Int) ∧ ∃ a21 : Addr, A0 = some a21 ∧ ∃ (n22 : Int), w.cell? (((a21.add ((x1.toNat) * 4)).add 0).add 0) = some (.int .i64 n22) ∧ bcase (n22 == 12) (K (.int .i64 ((n0 : Nat) : Int)) w) (bcase (n22 == 11) (((0 : Int) ≤ x1 ∧ x1 < ((n0 : Nat) : Int) ∧ ∃ a23 : Addr, A0 = some a23 ∧ ∃ (n24 : Int), w.cell? (((a23.add ((x1.toNat) * 4)).add 2).add 0) = some (.int .i64 n24) ∧ K (.int .i64 n24) w)) (bcase (n22 == 10) (((0 : Int) ≤ x1 ∧ x1 < ((n0 : Nat) : Int) ∧ ∃ a25 : Addr, A0 = some a25 ∧ ∃ (n26 : Int), w.cell? (((a25.add ((x1.toNat) * 4)).add 1).add 0) = some (.int .i64 n26) ∧ ((0 : Int) ≤ n26 ∧ n26 < ((n2 : Nat) : Int) ∧ ∃ a27 : Addr, A2 = some a27 ∧ ∃ (n28 : Int), w.cell? ((a27.add ((n26.toNat) * 1)).add 0) = some (.int .i64 n28) ∧ bcase (n28 == 0) (((0 : Int) ≤ x1 ∧ x1 < ((n0 : Nat) : Int) ∧ ∃ a29 : Addr, A0 = some a29 ∧ ∃ (n30 : Int), w.cell? (((a29.add ((x1.toNat) * 4)).add 2).add 0) = some (.int .i64 n30) ∧ K (.int .i64 n30) w)) (K (.int .i64 (IntKind.wrap .i64 (x1 + 1))) w)))) (K (.int .i64 (IntKind.wrap .i64 (x1 + 1))) w))))

def spec_l10Next.ann : Ann := (.seq .l (.seq (.seq .l (.one (.seq .l (.two (.seq .l .l) (.seq .l (.two (.seq .l .l) (.seq .l (.two (.seq .l (.two (.seq .l .l) .l)) .l)))))))) (.seq .l .l)))

theorem spec_l10Next.start {A0 : Option Addr} {n0 : Nat} {c0 : Nat} {x1 : Int} {A2 : Option Addr} {n2 : Nat} {c2 : Nat} {w : World} {K : Value → World → Prop} (h : spec_l10Next.vc A0 n0 c0 x1 A2 n2 c2 w K) : Cll Tryz.prog 277 #[(.slice A0 n0 c0), (.int .i64 x1), (.slice A2 n2 c2)] w K :=
  vcF_sound mixed (fn := Tryz.f277) (by kernel_rfl) (by kernel_rfl) (an := spec_l10Next.ann) (args := [(.slice A0 n0 c0), (.int .i64 x1), (.slice A2 n2 c2)]) (Eq.mpr (by kernel_rfl) h)

theorem spec_l10Next.con {xs0 : List D.Ins} {A0 : Option Addr} {c0 : Nat} {x1 : Int} {xs2 : List Int} {A2 : Option Addr} {c2 : Nat} {r : Int} {w : World} (hp : M.spec_l10Next_pre xs0 x1 xs2) (hr : r = M.spec_l10Next xs0 x1 xs2) (R0 : Row el89 w A0 xs0) (hc0 : xs0.length ≤ c0) (R2 : Row el3 w A2 xs2) (hc2 : xs2.length ≤ c2) :
    Cll Tryz.prog 277 #[(.slice A0 xs0.length c0), (.int .i64 x1), (.slice A2 xs2.length c2)] w (fun v_ w_ => v_ = (.int .i64 r) ∧ Ext w w_) := by
  have H := wp.spec_l10Next.math xs0 x1 xs2 hp
  have hB := Ext.refl w
  refine spec_l10Next.start ?_
  unfold spec_l10Next.vc
  unfold wp.spec_l10Next at H
  obtain ⟨⟨h0_24, h1_25⟩, H⟩ := H
  obtain ⟨a22, ha23, hat21⟩ := Row.at (R0.ext hB) h0_24 h1_25
  refine ⟨h0_24, h1_25, a22, ha23, ?_⟩
  refine ⟨_, (hat21 0 _ rfl), ?_⟩
  refine bcase_mk (fun hc49 => ?_) (fun hc49 => ?_)
  · have H := (bcase_iff.1 H).1 hc49
    obtain rfl := hr.trans H.symm
    exact ⟨rfl, hB⟩
  have H := (bcase_iff.1 H).2 hc49
  refine bcase_mk (fun hc48 => ?_) (fun hc48 => ?_)
  · have H := (bcase_iff.1 H).1 hc48
    obtain ⟨⟨h0_29, h1_30⟩, H⟩ := H
    obtain ⟨a27, ha28, hat26⟩ := Row.at (R0.ext hB) h0_29 h1_30
    refine ⟨h0_29, h1_30, a27, ha28, ?_⟩
    refine ⟨_, (hat26 2 _ rfl), ?_⟩
    obtain rfl := hr.trans H.symm
    exact ⟨rfl, hB⟩
  have H := (bcase_iff.1 H).2 hc48
  refine bcase_mk (fun hc47 => ?_) (fun hc47 => ?_)
  · have H := (bcase_iff.1 H).1 hc47
    obtain ⟨⟨h0_34, h1_35⟩, H⟩ := H
    obtain ⟨a32, ha33, hat31⟩ := Row.at (R0.ext hB) h0_34 h1_35
    refine ⟨h0_34, h1_35, a32, ha33, ?_⟩
    refine ⟨_, (hat31 1 _ rfl), ?_⟩
    obtain ⟨⟨h0_39, h1_40⟩, H⟩ := H
    obtain ⟨a37, ha38, hat36⟩ := Row.at (R2.ext hB) h0_39 h1_40
    refine ⟨h0_39, h1_40, a37, ha38, ?_⟩
    refine ⟨_, (hat36 0 _ rfl), ?_⟩
    refine bcase_mk (fun hc46 => ?_) (fun hc46 => ?_)
    · have H := (bcase_iff.1 H).1 hc46
      obtain ⟨⟨h0_44, h1_45⟩, H⟩ := H
      obtain ⟨a42, ha43, hat41⟩ := Row.at (R0.ext hB) h0_44 h1_45
      refine ⟨h0_44, h1_45, a42, ha43, ?_⟩
      refine ⟨_, (hat41 2 _ rfl), ?_⟩
      obtain rfl := hr.trans H.symm
      exact ⟨rfl, hB⟩
    have H := (bcase_iff.1 H).2 hc46
    obtain rfl := hr.trans H.symm
    exact ⟨rfl, hB⟩
  have H := (bcase_iff.1 H).2 hc47
  obtain rfl := hr.trans H.symm
  exact ⟨rfl, hB⟩
def spec_SubWords.vc (x0 : Int) (x1 : Int) (w : World) (K : Value → World → Prop) : Prop :=
  Cll Tryz.prog 193 #[(.int .i64 x0)] w fun v21 w22 => (∃ (b23 : Bool), v21 = (.bool b23) ∧ bcase (!b23) (K (.int .i64 0) w22) (Cll Tryz.prog 193 #[(.int .i64 x1)] w22 fun v24 w25 => (∃ (b26 : Bool), v24 = (.bool b26) ∧ bcase (!b26) (K (.int .i64 0) w25) (Cll Tryz.prog 261 #[(.int .i64 (IntKind.wrap .i64 (x0 - x1)))] w25 fun v27 w28 => (∃ (n29 : Int), v27 = (.int .i64 n29) ∧ K (.int .i64 n29) w28)))))

def spec_SubWords.ann : Ann := (.seq .l (.seq (.seq .l (.two (.seq .l .l) .l)) (.seq .l .l)))

theorem spec_SubWords.start {x0 : Int} {x1 : Int} {w : World} {K : Value → World → Prop} (h : spec_SubWords.vc x0 x1 w K) : Cll Tryz.prog 240 #[(.int .i64 x0), (.int .i64 x1)] w K :=
  vcF_sound mixed (fn := Tryz.f240) (by kernel_rfl) (by kernel_rfl) (an := spec_SubWords.ann) (args := [(.int .i64 x0), (.int .i64 x1)]) (Eq.mpr (by kernel_rfl) h)

theorem spec_SubWords.con {x0 : Int} {x1 : Int} {r : Int} {w : World} (hr : r = M.spec_SubWords x0 x1)  :
    Cll Tryz.prog 240 #[(.int .i64 x0), (.int .i64 x1)] w (fun v_ w_ => v_ = (.int .i64 r) ∧ Ext w w_) := by
  have H := wp.spec_SubWords.math x0 x1
  have hB := Ext.refl w
  refine spec_SubWords.start ?_
  unfold spec_SubWords.vc
  unfold wp.spec_SubWords at H
  obtain ⟨r21, hr22⟩ : ∃ r_, r_ = M.spec_IsWord x0 := ⟨_, rfl⟩
  have H := H r21 hr22
  refine (spec_IsWord.con hr22 ).mono ?_
  rintro _ w24 ⟨rfl, e25⟩
  have hB := ethen hB e25
  refine ⟨r21, rfl, ?_⟩
  refine bcase_mk (fun hc37 => ?_) (fun hc37 => ?_)
  · have H := (bcase_iff.1 H).1 hc37
    obtain rfl := hr.trans H.symm
    exact ⟨rfl, hB⟩
  have H := (bcase_iff.1 H).2 hc37
  obtain ⟨r26, hr27⟩ : ∃ r_, r_ = M.spec_IsWord x1 := ⟨_, rfl⟩
  have H := H r26 hr27
  refine (spec_IsWord.con hr27 ).mono ?_
  rintro _ w29 ⟨rfl, e30⟩
  have hB := ethen hB e30
  refine ⟨r26, rfl, ?_⟩
  refine bcase_mk (fun hc36 => ?_) (fun hc36 => ?_)
  · have H := (bcase_iff.1 H).1 hc36
    obtain rfl := hr.trans H.symm
    exact ⟨rfl, hB⟩
  have H := (bcase_iff.1 H).2 hc36
  obtain ⟨r31, hr32⟩ : ∃ r_, r_ = M.spec_WrapWord (IntKind.wrap .i64 (x0 - x1)) := ⟨_, rfl⟩
  have H := H r31 hr32
  refine (spec_WrapWord.con hr32 ).mono ?_
  rintro _ w34 ⟨rfl, e35⟩
  have hB := ethen hB e35
  refine ⟨r31, rfl, ?_⟩
  obtain rfl := hr.trans H.symm
  exact ⟨rfl, hB⟩
def spec_MulWords.vc (x0 : Int) (x1 : Int) (w : World) (K : Value → World → Prop) : Prop :=
  Cll Tryz.prog 193 #[(.int .i64 x0)] w fun v21 w22 => (∃ (b23 : Bool), v21 = (.bool b23) ∧ bcase (!b23) (K (.int .i64 0) w22) (Cll Tryz.prog 193 #[(.int .i64 x1)] w22 fun v24 w25 => (∃ (b26 : Bool), v24 = (.bool b26) ∧ bcase (!b26) (K (.int .i64 0) w25) (Cll Tryz.prog 261 #[(.int .i64 (IntKind.wrap .i64 (x0 * x1)))] w25 fun v27 w28 => (∃ (n29 : Int), v27 = (.int .i64 n29) ∧ K (.int .i64 n29) w28)))))

def spec_MulWords.ann : Ann := (.seq .l (.seq (.seq .l (.two (.seq .l .l) .l)) (.seq .l .l)))

theorem spec_MulWords.start {x0 : Int} {x1 : Int} {w : World} {K : Value → World → Prop} (h : spec_MulWords.vc x0 x1 w K) : Cll Tryz.prog 241 #[(.int .i64 x0), (.int .i64 x1)] w K :=
  vcF_sound mixed (fn := Tryz.f241) (by kernel_rfl) (by kernel_rfl) (an := spec_MulWords.ann) (args := [(.int .i64 x0), (.int .i64 x1)]) (Eq.mpr (by kernel_rfl) h)

theorem spec_MulWords.con {x0 : Int} {x1 : Int} {r : Int} {w : World} (hr : r = M.spec_MulWords x0 x1)  :
    Cll Tryz.prog 241 #[(.int .i64 x0), (.int .i64 x1)] w (fun v_ w_ => v_ = (.int .i64 r) ∧ Ext w w_) := by
  have H := wp.spec_MulWords.math x0 x1
  have hB := Ext.refl w
  refine spec_MulWords.start ?_
  unfold spec_MulWords.vc
  unfold wp.spec_MulWords at H
  obtain ⟨r21, hr22⟩ : ∃ r_, r_ = M.spec_IsWord x0 := ⟨_, rfl⟩
  have H := H r21 hr22
  refine (spec_IsWord.con hr22 ).mono ?_
  rintro _ w24 ⟨rfl, e25⟩
  have hB := ethen hB e25
  refine ⟨r21, rfl, ?_⟩
  refine bcase_mk (fun hc37 => ?_) (fun hc37 => ?_)
  · have H := (bcase_iff.1 H).1 hc37
    obtain rfl := hr.trans H.symm
    exact ⟨rfl, hB⟩
  have H := (bcase_iff.1 H).2 hc37
  obtain ⟨r26, hr27⟩ : ∃ r_, r_ = M.spec_IsWord x1 := ⟨_, rfl⟩
  have H := H r26 hr27
  refine (spec_IsWord.con hr27 ).mono ?_
  rintro _ w29 ⟨rfl, e30⟩
  have hB := ethen hB e30
  refine ⟨r26, rfl, ?_⟩
  refine bcase_mk (fun hc36 => ?_) (fun hc36 => ?_)
  · have H := (bcase_iff.1 H).1 hc36
    obtain rfl := hr.trans H.symm
    exact ⟨rfl, hB⟩
  have H := (bcase_iff.1 H).2 hc36
  obtain ⟨r31, hr32⟩ : ∃ r_, r_ = M.spec_WrapWord (IntKind.wrap .i64 (x0 * x1)) := ⟨_, rfl⟩
  have H := H r31 hr32
  refine (spec_WrapWord.con hr32 ).mono ?_
  rintro _ w34 ⟨rfl, e35⟩
  have hB := ethen hB e35
  refine ⟨r31, rfl, ?_⟩
  obtain rfl := hr.trans H.symm
  exact ⟨rfl, hB⟩
def spec_LessWords.vc (x0 : Int) (x1 : Int) (w : World) (K : Value → World → Prop) : Prop :=
  Cll Tryz.prog 193 #[(.int .i64 x0)] w fun v21 w22 => (∃ (b23 : Bool), v21 = (.bool b23) ∧ bcase b23 (Cll Tryz.prog 193 #[(.int .i64 x1)] w22 fun v24 w25 => (∃ (b26 : Bool), v24 = (.bool b26) ∧ bcase b26 (bcase (decide (x0 < x1)) (K (.int .i64 1) w25) (K (.int .i64 0) w25)) (K (.int .i64 0) w25))) (K (.int .i64 0) w22))

def spec_LessWords.ann : Ann := (.seq .l (.seq (.seq .l (.two (.seq .l .l) .l)) (.seq .l .l)))

theorem spec_LessWords.start {x0 : Int} {x1 : Int} {w : World} {K : Value → World → Prop} (h : spec_LessWords.vc x0 x1 w K) : Cll Tryz.prog 242 #[(.int .i64 x0), (.int .i64 x1)] w K :=
  vcF_sound mixed (fn := Tryz.f242) (by kernel_rfl) (by kernel_rfl) (an := spec_LessWords.ann) (args := [(.int .i64 x0), (.int .i64 x1)]) (Eq.mpr (by kernel_rfl) h)

theorem spec_LessWords.con {x0 : Int} {x1 : Int} {r : Int} {w : World} (hr : r = M.spec_LessWords x0 x1)  :
    Cll Tryz.prog 242 #[(.int .i64 x0), (.int .i64 x1)] w (fun v_ w_ => v_ = (.int .i64 r) ∧ Ext w w_) := by
  have H := wp.spec_LessWords.math x0 x1
  have hB := Ext.refl w
  refine spec_LessWords.start ?_
  unfold spec_LessWords.vc
  unfold wp.spec_LessWords at H
  obtain ⟨r21, hr22⟩ : ∃ r_, r_ = M.spec_IsWord x0 := ⟨_, rfl⟩
  have H := H r21 hr22
  refine (spec_IsWord.con hr22 ).mono ?_
  rintro _ w24 ⟨rfl, e25⟩
  have hB := ethen hB e25
  refine ⟨r21, rfl, ?_⟩
  refine bcase_mk (fun hc33 => ?_) (fun hc33 => ?_)
  · have H := (bcase_iff.1 H).1 hc33
    obtain ⟨r26, hr27⟩ : ∃ r_, r_ = M.spec_IsWord x1 := ⟨_, rfl⟩
    have H := H r26 hr27
    refine (spec_IsWord.con hr27 ).mono ?_
    rintro _ w29 ⟨rfl, e30⟩
    have hB := ethen hB e30
    refine ⟨r26, rfl, ?_⟩
    refine bcase_mk (fun hc32 => ?_) (fun hc32 => ?_)
    · have H := (bcase_iff.1 H).1 hc32
      refine bcase_mk (fun hc31 => ?_) (fun hc31 => ?_)
      · have H := (bcase_iff.1 H).1 hc31
        obtain rfl := hr.trans H.symm
        exact ⟨rfl, hB⟩
      have H := (bcase_iff.1 H).2 hc31
      obtain rfl := hr.trans H.symm
      exact ⟨rfl, hB⟩
    have H := (bcase_iff.1 H).2 hc32
    obtain rfl := hr.trans H.symm
    exact ⟨rfl, hB⟩
  have H := (bcase_iff.1 H).2 hc33
  obtain rfl := hr.trans H.symm
  exact ⟨rfl, hB⟩
def spec_l10Apply.vc (x0_0 : Int) (x0_1 : Int) (x0_2 : Int) (x0_3 : Int) (x1 : Int) (A2 : Option Addr) (n2 : Nat) (c2 : Nat) (w : World) (K : Value → World → Prop) : Prop :=
  newK w (.cells #[(.int .i64 x0_0), (.int .i64 x0_1), (.int .i64 x0_2), (.int .i64 x0_3)] 89) fun g21 w22 => Run Tryz.prog (Instr.buildSlice 24 0 #[]) w22 fun v23 w24 => ∃ (A25 : Option Addr) (n26 c27 : Nat), v23 = .slice A25 n26 c27 ∧ Run Tryz.prog (Builtin.append_ #[24, 24] 24 #[(.slice A25 n26 c27), (.slice A2 n2 c2)]) w24 fun v28 w29 => ∃ (A30 : Option Addr) (n31 c32 : Nat), v28 = .slice A30 n31 c32 ∧ ∃ (n33 : Int), w29.cell? (((⟨g21, 0, none⟩ : Addr).add 0).add 0) = some (.int .i64 n33) ∧ bcase (n33 == 1) (∃ (n34 : Int), w29.cell? (((⟨g21, 0, none⟩ : Addr).add 1).add 0) = some (.int .i64 n34) ∧ ∃ (n35 : Int), w29.cell? (((⟨g21, 0, none⟩ : Addr).add 2).add 0) = some (.int .i64 n35) ∧ ((0 : Int) ≤ n34 ∧ n34 < ((n31 : Nat) : Int) ∧ ∃ a36 : Addr, A30 = some a36 ∧ stCells (a36.add ((n34.toNat) * 1)) [(.int .i64 n35)] 0 w29 fun w37 => K (.slice A30 n31 c32) w37)) (bcase (n33 == 2) ((∃ M38 : Nat → Prop, ∃ (n39 : Int), (¬ M38 (((⟨g21, 0, none⟩ : Addr).add 1)).block ∧ w29.cell? (((⟨g21, 0, none⟩ : Addr).add 1).add 0) = some (.int .i64 n39)) ∧ ∃ (n40 : Int), (¬ M38 (((⟨g21, 0, none⟩ : Addr).add 2)).block ∧ w29.cell? (((⟨g21, 0, none⟩ : Addr).add 2).add 0) = some (.int .i64 n40)) ∧ ((0 : Int) ≤ n40 ∧ n40 < ((n2 : Nat) : Int) ∧ ∃ a41 : Addr, A2 = some a41 ∧ ∃ (n42 : Int), (¬ M38 ((a41.add ((n40.toNat) * 1))).block ∧ w29.cell? ((a41.add ((n40.toNat) * 1)).add 0) = some (.int .i64 n42)) ∧ ((0 : Int) ≤ n39 ∧ n39 < ((n31 : Nat) : Int) ∧ ∃ a43 : Addr, A30 = some a43 ∧ stCells (a43.add ((n39.toNat) * 1)) [(.int .i64 n42)] 0 w29.drew fun w44 => K (.slice A30 n31 c32) w44)))) (bcase (n33 == 3) ((∃ M45 : Nat → Prop, ∃ (n46 : Int), (¬ M45 (((⟨g21, 0, none⟩ : Addr).add 1)).block ∧ w29.cell? (((⟨g21, 0, none⟩ : Addr).add 1).add 0) = some (.int .i64 n46)) ∧ ∃ (n47 : Int), (¬ M45 (((⟨g21, 0, none⟩ : Addr).add 2)).block ∧ w29.cell? (((⟨g21, 0, none⟩ : Addr).add 2).add 0) = some (.int .i64 n47)) ∧ ((0 : Int) ≤ n47 ∧ n47 < ((n2 : Nat) : Int) ∧ ∃ a48 : Addr, A2 = some a48 ∧ ∃ (n49 : Int), (¬ M45 ((a48.add ((n47.toNat) * 1))).block ∧ w29.cell? ((a48.add ((n47.toNat) * 1)).add 0) = some (.int .i64 n49)) ∧ ∃ (n50 : Int), (¬ M45 (((⟨g21, 0, none⟩ : Addr).add 3)).block ∧ w29.cell? (((⟨g21, 0, none⟩ : Addr).add 3).add 0) = some (.int .i64 n50)) ∧ ((0 : Int) ≤ n50 ∧ n50 < ((n2 : Nat) : Int) ∧ ∃ a51 : Addr, A2 = some a51 ∧ ∃ (n52 : Int), (¬ M45 ((a51.add ((n50.toNat) * 1))).block ∧ w29.cell? ((a51.add ((n50.toNat) * 1)).add 0) = some (.int .i64 n52)) ∧ Cll Tryz.prog 217 #[(.int .i64 n49), (.int .i64 n52)] w29.drew fun v53 w54 => (∃ (n55 : Int), v53 = (.int .i64 n55) ∧ SameBut M45 w29 w54 ∧ ((0 : Int) ≤ n46 ∧ n46 < ((n31 : Nat) : Int) ∧ ∃ a56 : Addr, A30 = some a56 ∧ stCells (a56.add ((n46.toNat) * 1)) [(.int .i64 n55)] 0 w54 fun w57 => K (.slice A30 n31 c32) w57)))))) (bcase (n33 == 4) ((∃ M58 : Nat → Prop, ∃ (n59 : Int), (¬ M58 (((⟨g21, 0, none⟩ : Addr).add 1)).block ∧ w29.cell? (((⟨g21, 0, none⟩ : Addr).add 1).add 0) = some (.int .i64 n59)) ∧ ∃ (n60 : Int), (¬ M58 (((⟨g21, 0, none⟩ : Addr).add 2)).block ∧ w29.cell? (((⟨g21, 0, none⟩ : Addr).add 2).add 0) = some (.int .i64 n60)) ∧ ((0 : Int) ≤ n60 ∧ n60 < ((n2 : Nat) : Int) ∧ ∃ a61 : Addr, A2 = some a61 ∧ ∃ (n62 : Int), (¬ M58 ((a61.add ((n60.toNat) * 1))).block ∧ w29.cell? ((a61.add ((n60.toNat) * 1)).add 0) = some (.int .i64 n62)) ∧ ∃ (n63 : Int), (¬ M58 (((⟨g21, 0, none⟩ : Addr).add 3)).block ∧ w29.cell? (((⟨g21, 0, none⟩ : Addr).add 3).add 0) = some (.int .i64 n63)) ∧ ((0 : Int) ≤ n63 ∧ n63 < ((n2 : Nat) : Int) ∧ ∃ a64 : Addr, A2 = some a64 ∧ ∃ (n65 : Int), (¬ M58 ((a64.add ((n63.toNat) * 1))).block ∧ w29.cell? ((a64.add ((n63.toNat) * 1)).add 0) = some (.int .i64 n65)) ∧ Cll Tryz.prog 240 #[(.int .i64 n62), (.int .i64 n65)] w29.drew fun v66 w67 => (∃ (n68 : Int), v66 = (.int .i64 n68) ∧ SameBut M58 w29 w67 ∧ ((0 : Int) ≤ n59 ∧ n59 < ((n31 : Nat) : Int) ∧ ∃ a69 : Addr, A30 = some a69 ∧ stCells (a69.add ((n59.toNat) * 1)) [(.int .i64 n68)] 0 w67 fun w70 => K (.slice A30 n31 c32) w70)))))) (bcase (n33 == 5) ((∃ M71 : Nat → Prop, ∃ (n72 : Int), (¬ M71 (((⟨g21, 0, none⟩ : Addr).add 1)).block ∧ w29.cell? (((⟨g21, 0, none⟩ : Addr).add 1).add 0) = some (.int .i64 n72)) ∧ ∃ (n73 : Int), (¬ M71 (((⟨g21, 0, none⟩ : Addr).add 2)).block ∧ w29.cell? (((⟨g21, 0, none⟩ : Addr).add 2).add 0) = some (.int .i64 n73)) ∧ ((0 : Int) ≤ n73 ∧ n73 < ((n2 : Nat) : Int) ∧ ∃ a74 : Addr, A2 = some a74 ∧ ∃ (n75 : Int), (¬ M71 ((a74.add ((n73.toNat) * 1))).block ∧ w29.cell? ((a74.add ((n73.toNat) * 1)).add 0) = some (.int .i64 n75)) ∧ ∃ (n76 : Int), (¬ M71 (((⟨g21, 0, none⟩ : Addr).add 3)).block ∧ w29.cell? (((⟨g21, 0, none⟩ : Addr).add 3).add 0) = some (.int .i64 n76)) ∧ ((0 : Int) ≤ n76 ∧ n76 < ((n2 : Nat) : Int) ∧ ∃ a77 : Addr, A2 = some a77 ∧ ∃ (n78 : Int), (¬ M71 ((a77.add ((n76.toNat) * 1))).block ∧ w29.cell? ((a77.add ((n76.toNat) * 1)).add 0) = some (.int .i64 n78)) ∧ Cll Tryz.prog 241 #[(.int .i64 n75), (.int .i64 n78)] w29.drew fun v79 w80 => (∃ (n81 : Int), v79 = (.int .i64 n81) ∧ SameBut M71 w29 w80 ∧ ((0 : Int) ≤ n72 ∧ n72 < ((n31 : Nat) : Int) ∧ ∃ a82 : Addr, A30 = some a82 ∧ stCells (a82.add ((n72.toNat) * 1)) [(.int .i64 n81)] 0 w80 fun w83 => K (.slice A30 n31 c32) w83)))))) (bcase (n33 == 6) ((∃ M84 : Nat → Prop, ∃ (n85 : Int), (¬ M84 (((⟨g21, 0, none⟩ : Addr).add 1)).block ∧ w29.cell? (((⟨g21, 0, none⟩ : Addr).add 1).add 0) = some (.int .i64 n85)) ∧ ∃ (n86 : Int), (¬ M84 (((⟨g21, 0, none⟩ : Addr).add 2)).block ∧ w29.cell? (((⟨g21, 0, none⟩ : Addr).add 2).add 0) = some (.int .i64 n86)) ∧ ((0 : Int) ≤ n86 ∧ n86 < ((n2 : Nat) : Int) ∧ ∃ a87 : Addr, A2 = some a87 ∧ ∃ (n88 : Int), (¬ M84 ((a87.add ((n86.toNat) * 1))).block ∧ w29.cell? ((a87.add ((n86.toNat) * 1)).add 0) = some (.int .i64 n88)) ∧ ∃ (n89 : Int), (¬ M84 (((⟨g21, 0, none⟩ : Addr).add 3)).block ∧ w29.cell? (((⟨g21, 0, none⟩ : Addr).add 3).add 0) = some (.int .i64 n89)) ∧ ((0 : Int) ≤ n89 ∧ n89 < ((n2 : Nat) : Int) ∧ ∃ a90 : Addr, A2 = some a90 ∧ ∃ (n91 : Int), (¬ M84 ((a90.add ((n89.toNat) * 1))).block ∧ w29.cell? ((a90.add ((n89.toNat) * 1)).add 0) = some (.int .i64 n91)) ∧ ((0 : Int) ≤ n85 ∧ n85 < ((n31 : Nat) : Int) ∧ ∃ a92 : Addr, A30 = some a92 ∧ stCells (a92.add ((n85.toNat) * 1)) [(.int .i64 (bitXor .i64 n88 n91))] 0 w29.drew fun w93 => K (.slice A30 n31 c32) w93))))) (bcase (n33 == 7) ((∃ M94 : Nat → Prop, ∃ (n95 : Int), (¬ M94 (((⟨g21, 0, none⟩ : Addr).add 1)).block ∧ w29.cell? (((⟨g21, 0, none⟩ : Addr).add 1).add 0) = some (.int .i64 n95)) ∧ ∃ (n96 : Int), (¬ M94 (((⟨g21, 0, none⟩ : Addr).add 2)).block ∧ w29.cell? (((⟨g21, 0, none⟩ : Addr).add 2).add 0) = some (.int .i64 n96)) ∧ ((0 : Int) ≤ n96 ∧ n96 < ((n2 : Nat) : Int) ∧ ∃ a97 : Addr, A2 = some a97 ∧ ∃ (n98 : Int), (¬ M94 ((a97.add ((n96.toNat) * 1))).block ∧ w29.cell? ((a97.add ((n96.toNat) * 1)).add 0) = some (.int .i64 n98)) ∧ ∃ (n99 : Int), (¬ M94 (((⟨g21, 0, none⟩ : Addr).add 3)).block ∧ w29.cell? (((⟨g21, 0, none⟩ : Addr).add 3).add 0) = some (.int .i64 n99)) ∧ ((0 : Int) ≤ n99 ∧ n99 < ((n2 : Nat) : Int) ∧ ∃ a100 : Addr, A2 = some a100 ∧ ∃ (n101 : Int), (¬ M94 ((a100.add ((n99.toNat) * 1))).block ∧ w29.cell? ((a100.add ((n99.toNat) * 1)).add 0) = some (.int .i64 n101)) ∧ Cll Tryz.prog 242 #[(.int .i64 n98), (.int .i64 n101)] w29.drew fun v102 w103 => (∃ (n104 : Int), v102 = (.int .i64 n104) ∧ SameBut M94 w29 w103 ∧ ((0 : Int) ≤ n95 ∧ n95 < ((n31 : Nat) : Int) ∧ ∃ a105 : Addr, A30 = some a105 ∧ stCells (a105.add ((n95.toNat) * 1)) [(.int .i64 n104)] 0 w103 fun w106 => K (.slice A30 n31 c32) w106)))))) (bcase (n33 == 8) (∃ (n107 : Int), w29.cell? (((⟨g21, 0, none⟩ : Addr).add 1).add 0) = some (.int .i64 n107) ∧ ((0 : Int) ≤ n107 ∧ n107 < ((n31 : Nat) : Int) ∧ ∃ a108 : Addr, A30 = some a108 ∧ stCells (a108.add ((n107.toNat) * 1)) [(.int .i64 x1)] 0 w29 fun w109 => K (.slice A30 n31 c32) w109)) (bcase (n33 == 9) (∃ (n110 : Int), w29.cell? (((⟨g21, 0, none⟩ : Addr).add 3).add 0) = some (.int .i64 n110) ∧ ((0 : Int) ≤ n110 ∧ n110 < ((n2 : Nat) : Int) ∧ ∃ a111 : Addr, A2 = some a111 ∧ ∃ (n112 : Int), w29.cell? ((a111.add ((n110.toNat) * 1)).add 0) = some (.int .i64 n112) ∧ bcase (n112 != 0) ((∃ M113 : Nat → Prop, ∃ (n114 : Int), (¬ M113 (((⟨g21, 0, none⟩ : Addr).add 1)).block ∧ w29.cell? (((⟨g21, 0, none⟩ : Addr).add 1).add 0) = some (.int .i64 n114)) ∧ ∃ (n115 : Int), (¬ M113 (((⟨g21, 0, none⟩ : Addr).add 2)).block ∧ w29.cell? (((⟨g21, 0, none⟩ : Addr).add 2).add 0) = some (.int .i64 n115)) ∧ ((0 : Int) ≤ n115 ∧ n115 < ((n2 : Nat) : Int) ∧ ∃ a116 : Addr, A2 = some a116 ∧ ∃ (n117 : Int), (¬ M113 ((a116.add ((n115.toNat) * 1))).block ∧ w29.cell? ((a116.add ((n115.toNat) * 1)).add 0) = some (.int .i64 n117)) ∧ ((0 : Int) ≤ n114 ∧ n114 < ((n31 : Nat) : Int) ∧ ∃ a118 : Addr, A30 = some a118 ∧ stCells (a118.add ((n114.toNat) * 1)) [(.int .i64 n117)] 0 w29.drew fun w119 => K (.slice A30 n31 c32) w119)))) (K (.slice A30 n31 c32) w29))) (K (.slice A30 n31 c32) w29)))))))))

def spec_l10Apply.ann : Ann := (.seq .l (.seq .l (.seq (.seq .l (.one (.seq .l (.two .l (.seq .l (.two .l (.seq .l (.two .l (.seq .l (.two .l (.seq .l (.two .l (.seq .l (.two .l (.seq .l (.two .l (.seq .l (.two .l (.seq .l (.two (.seq .l (.two .l .l)) .l)))))))))))))))))))) (.seq .l .l))))

theorem spec_l10Apply.start {x0_0 : Int} {x0_1 : Int} {x0_2 : Int} {x0_3 : Int} {x1 : Int} {A2 : Option Addr} {n2 : Nat} {c2 : Nat} {w : World} {K : Value → World → Prop} (h : spec_l10Apply.vc x0_0 x0_1 x0_2 x0_3 x1 A2 n2 c2 w K) : Cll Tryz.prog 205 #[(.agg #[(.int .i64 x0_0), (.int .i64 x0_1), (.int .i64 x0_2), (.int .i64 x0_3)]), (.int .i64 x1), (.slice A2 n2 c2)] w K :=
  vcF_sound mixed (fn := Tryz.f205) (by kernel_rfl) (by kernel_rfl) (an := spec_l10Apply.ann) (args := [(.agg #[(.int .i64 x0_0), (.int .i64 x0_1), (.int .i64 x0_2), (.int .i64 x0_3)]), (.int .i64 x1), (.slice A2 n2 c2)]) (Eq.mpr (by kernel_rfl) h)

theorem spec_l10Apply.con {s0 : D.Ins} {x1 : Int} {xs2 : List Int} {A2 : Option Addr} {c2 : Nat} {r : List Int} {w : World} (hp : M.spec_l10Apply_pre s0 x1 xs2) (hr : r = M.spec_l10Apply s0 x1 xs2) (R2 : Row el3 w A2 xs2) (hc2 : xs2.length ≤ c2) :
    Cll Tryz.prog 205 #[(.agg #[(.int .i64 s0.Op), (.int .i64 s0.A), (.int .i64 s0.B), (.int .i64 s0.C)]), (.int .i64 x1), (.slice A2 xs2.length c2)] w (fun v_ w_ => ∃ (A0_ : Option Addr) (c0_ : Nat), v_ = (.slice A0_ r.length c0_) ∧ Own el3 w_ w.heap.size A0_ c0_ r ∧ Ext w w_) := by
  have H := wp.spec_l10Apply.math s0 x1 xs2 hp
  have hB := Ext.refl w
  refine spec_l10Apply.start ?_
  unfold spec_l10Apply.vc
  unfold wp.spec_l10Apply at H
  refine newBlk (fun g2_ w21 L2 P2 e22 => ?_)
  have O2 := P2
  have L2 := Nat.le_trans hB.size L2
  have hB := ethen hB e22
  refine buildOwn el3 ([] : List Int) (fun _ => by kernel_rfl) rfl (fun A23 w24 P3 e25 => ?_)
  have N3_2 := P3.apart_old O2.lt
  have O2 := O2.ext e25
  have O3 := P3.mono hB.size
  have hB := ethen hB e25
  obtain ⟨hl30, H⟩ := H
  refine appOwn slt24 slt24.under O3 (R2.ext hB) hB.size (by first | rfl | omega | (simp; done) | (simp; omega)) rfl hl30 (fun A26 c27 w28 P3 e29 => ?_)
  have N3_2_ := Apart.app N3_2 e29 O2.lt
  have O2 := O2.app e29 N3_2
  have N3_2 := N3_2_
  have hB := eapp hB e29 O3
  have O3 := P3
  refine ⟨_, (O2.at 0 rfl rfl), ?_⟩
  refine bcase_mk (fun hc284 => ?_) (fun hc284 => ?_)
  · have H := (bcase_iff.1 H).1 hc284
    refine ⟨_, (O2.at 1 rfl rfl), ?_⟩
    refine ⟨_, (O2.at 2 rfl rfl), ?_⟩
    obtain ⟨⟨h0_34, h1_35⟩, H⟩ := H
    obtain ⟨a32, ha33, hat31⟩ := Row.at O3.row h0_34 h1_35
    refine ⟨h0_34, h1_35, a32, ha33, ?_⟩
    refine Own.storeAt O3 ha33 h0_34 h1_35 0 [(.int .i64 s0.B)] s0.B rfl (Nat.le_of_ble_eq_true rfl) rfl (fun w36 P3 e37 hb38 => ?_)
    have O2_ := O2.chg e37 (fun h_ => (N3_2) _ ha33 h_.symm)
    have O2 := O2_
    have hB := echg hB e37 hb38
    have O3 := P3
    obtain rfl := hr.trans H.symm
    exact ⟨A26, c27, (by first | rfl | (simp; done) | (simp; omega) | (simp [*]; done)), (by first | exact O3 | (simp only [List.length_set]; exact O3)), hB⟩
  have H := (bcase_iff.1 H).2 hc284
  refine bcase_mk (fun hc283 => ?_) (fun hc283 => ?_)
  · have H := (bcase_iff.1 H).1 hc283
    refine ⟨(fun _ => False), ?_⟩
    refine ⟨_, ⟨(fun h_ => h_), (O2.at 1 rfl rfl)⟩, ?_⟩
    refine ⟨_, ⟨(fun h_ => h_), (O2.at 2 rfl rfl)⟩, ?_⟩
    obtain ⟨⟨h0_43, h1_44⟩, H⟩ := H
    obtain ⟨a41, ha42, hat40⟩ := Row.at (R2.ext hB) h0_43 h1_44
    refine ⟨h0_43, h1_44, a41, ha42, ?_⟩
    refine ⟨_, ⟨(fun h_ => h_), (hat40 0 _ rfl)⟩, ?_⟩
    obtain ⟨⟨h0_48, h1_49⟩, H⟩ := H
    obtain ⟨a46, ha47, hat45⟩ := Row.at O3.row h0_48 h1_49
    refine ⟨h0_48, h1_49, a46, ha47, ?_⟩
    have hS39 := Chg.refl (fun _ => False) w28
    have O2 := O2.ext (Ext.drew _)
    have O3 := O3.ext (Ext.drew _)
    have hB := ethen hB (Ext.drew _)
    have hS39 := hS39.then (Ext.drew _)
    refine Own.storeAt O3 ha47 h0_48 h1_49 0 [(.int .i64 (rd xs2 s0.B))] (rd xs2 s0.B) rfl (Nat.le_of_ble_eq_true rfl) rfl (fun w50 P3 e51 hb52 => ?_)
    have O2_ := O2.chg e51 (fun h_ => (N3_2) _ ha47 h_.symm)
    have O2 := O2_
    have hB := echg hB e51 hb52
    have O3 := P3
    obtain rfl := hr.trans H.symm
    exact ⟨A26, c27, (by first | rfl | (simp; done) | (simp; omega) | (simp [*]; done)), (by first | exact O3 | (simp only [List.length_set]; exact O3)), hB⟩
  have H := (bcase_iff.1 H).2 hc283
  refine bcase_mk (fun hc282 => ?_) (fun hc282 => ?_)
  · have H := (bcase_iff.1 H).1 hc282
    refine ⟨(fun _ => False), ?_⟩
    have hBz := hB
    have Z2 := O2
    have Z3 := O3
    refine ⟨_, ⟨(fun h_ => h_), (O2.at 1 rfl rfl)⟩, ?_⟩
    refine ⟨_, ⟨(fun h_ => h_), (O2.at 2 rfl rfl)⟩, ?_⟩
    obtain ⟨⟨h0_77, h1_78⟩, H⟩ := H
    obtain ⟨a75, ha76, hat74⟩ := Row.at (R2.ext hB) h0_77 h1_78
    refine ⟨h0_77, h1_78, a75, ha76, ?_⟩
    refine ⟨_, ⟨(fun h_ => h_), (hat74 0 _ rfl)⟩, ?_⟩
    refine ⟨_, ⟨(fun h_ => h_), (O2.at 3 rfl rfl)⟩, ?_⟩
    obtain ⟨⟨h0_82, h1_83⟩, H⟩ := H
    obtain ⟨a80, ha81, hat79⟩ := Row.at (R2.ext hB) h0_82 h1_83
    refine ⟨h0_82, h1_83, a80, ha81, ?_⟩
    refine ⟨_, ⟨(fun h_ => h_), (hat79 0 _ rfl)⟩, ?_⟩
    have hS53 := Chg.refl (fun _ => False) w28
    have O2 := O2.ext (Ext.drew _)
    have O3 := O3.ext (Ext.drew _)
    have hB := ethen hB (Ext.drew _)
    have hS53 := hS53.then (Ext.drew _)
    obtain ⟨r84, hr85⟩ : ∃ r_, r_ = M.spec_AddWords (rd xs2 s0.B) (rd xs2 s0.C) := ⟨_, rfl⟩
    have H := H r84 hr85
    refine (spec_AddWords.con hr85 ).mono ?_
    rintro _ w87 ⟨rfl, e88⟩
    have O2 := O2.ext e88
    have O3 := O3.ext e88
    have hB := ethen hB e88
    have hS53 := hS53.then e88
    refine ⟨r84, rfl, ?_⟩
    refine ⟨sameBut_chg hS53, ?_⟩
    obtain ⟨⟨h0_92, h1_93⟩, H⟩ := H
    obtain ⟨a90, ha91, hat89⟩ := Row.at Z3.row h0_92 h1_93
    refine ⟨h0_92, h1_93, a90, ha91, ?_⟩
    refine Own.storeAt O3 ha91 h0_92 h1_93 0 [(.int .i64 r84)] r84 rfl (Nat.le_of_ble_eq_true rfl) rfl (fun w94 P3 e95 hb96 => ?_)
    have O2_ := O2.chg e95 (fun h_ => (N3_2) _ ha91 h_.symm)
    have O2 := O2_
    have hB := echg hB e95 hb96
    have O3 := P3
    obtain rfl := hr.trans H.symm
    exact ⟨A26, c27, (by first | rfl | (simp; done) | (simp; omega) | (simp [*]; done)), (by first | exact O3 | (simp only [List.length_set]; exact O3)), hB⟩
  have H := (bcase_iff.1 H).2 hc282
  refine bcase_mk (fun hc281 => ?_) (fun hc281 => ?_)
  · have H := (bcase_iff.1 H).1 hc281
    refine ⟨(fun _ => False), ?_⟩
    have hBz := hB
    have Z2 := O2
    have Z3 := O3
    refine ⟨_, ⟨(fun h_ => h_), (O2.at 1 rfl rfl)⟩, ?_⟩
    refine ⟨_, ⟨(fun h_ => h_), (O2.at 2 rfl rfl)⟩, ?_⟩
    obtain ⟨⟨h0_121, h1_122⟩, H⟩ := H
    obtain ⟨a119, ha120, hat118⟩ := Row.at (R2.ext hB) h0_121 h1_122
    refine ⟨h0_121, h1_122, a119, ha120, ?_⟩
    refine ⟨_, ⟨(fun h_ => h_), (hat118 0 _ rfl)⟩, ?_⟩
    refine ⟨_, ⟨(fun h_ => h_), (O2.at 3 rfl rfl)⟩, ?_⟩
    obtain ⟨⟨h0_126, h1_127⟩, H⟩ := H
    obtain ⟨a124, ha125, hat123⟩ := Row.at (R2.ext hB) h0_126 h1_127
    refine ⟨h0_126, h1_127, a124, ha125, ?_⟩
    refine ⟨_, ⟨(fun h_ => h_), (hat123 0 _ rfl)⟩, ?_⟩
    have hS97 := Chg.refl (fun _ => False) w28
    have O2 := O2.ext (Ext.drew _)
    have O3 := O3.ext (Ext.drew _)
    have hB := ethen hB (Ext.drew _)
    have hS97 := hS97.then (Ext.drew _)
    obtain ⟨r128, hr129⟩ : ∃ r_, r_ = M.spec_SubWords (rd xs2 s0.B) (rd xs2 s0.C) := ⟨_, rfl⟩
    have H := H r128 hr129
    refine (spec_SubWords.con hr129 ).mono ?_
    rintro _ w131 ⟨rfl, e132⟩
    have O2 := O2.ext e132
    have O3 := O3.ext e132
    have hB := ethen hB e132
    have hS97 := hS97.then e132
    refine ⟨r128, rfl, ?_⟩
    refine ⟨sameBut_chg hS97, ?_⟩
    obtain ⟨⟨h0_136, h1_137⟩, H⟩ := H
    obtain ⟨a134, ha135, hat133⟩ := Row.at Z3.row h0_136 h1_137
    refine ⟨h0_136, h1_137, a134, ha135, ?_⟩
    refine Own.storeAt O3 ha135 h0_136 h1_137 0 [(.int .i64 r128)] r128 rfl (Nat.le_of_ble_eq_true rfl) rfl (fun w138 P3 e139 hb140 => ?_)
    have O2_ := O2.chg e139 (fun h_ => (N3_2) _ ha135 h_.symm)
    have O2 := O2_
    have hB := echg hB e139 hb140
    have O3 := P3
    obtain rfl := hr.trans H.symm
    exact ⟨A26, c27, (by first | rfl | (simp; done) | (simp; omega) | (simp [*]; done)), (by first | exact O3 | (simp only [List.length_set]; exact O3)), hB⟩
  have H := (bcase_iff.1 H).2 hc281
  refine bcase_mk (fun hc280 => ?_) (fun hc280 => ?_)
  · have H := (bcase_iff.1 H).1 hc280
    refine ⟨(fun _ => False), ?_⟩
    have hBz := hB
    have Z2 := O2
    have Z3 := O3
    refine ⟨_, ⟨(fun h_ => h_), (O2.at 1 rfl rfl)⟩, ?_⟩
    refine ⟨_, ⟨(fun h_ => h_), (O2.at 2 rfl rfl)⟩, ?_⟩
    obtain ⟨⟨h0_165, h1_166⟩, H⟩ := H
    obtain ⟨a163, ha164, hat162⟩ := Row.at (R2.ext hB) h0_165 h1_166
    refine ⟨h0_165, h1_166, a163, ha164, ?_⟩
    refine ⟨_, ⟨(fun h_ => h_), (hat162 0 _ rfl)⟩, ?_⟩
    refine ⟨_, ⟨(fun h_ => h_), (O2.at 3 rfl rfl)⟩, ?_⟩
    obtain ⟨⟨h0_170, h1_171⟩, H⟩ := H
    obtain ⟨a168, ha169, hat167⟩ := Row.at (R2.ext hB) h0_170 h1_171
    refine ⟨h0_170, h1_171, a168, ha169, ?_⟩
    refine ⟨_, ⟨(fun h_ => h_), (hat167 0 _ rfl)⟩, ?_⟩
    have hS141 := Chg.refl (fun _ => False) w28
    have O2 := O2.ext (Ext.drew _)
    have O3 := O3.ext (Ext.drew _)
    have hB := ethen hB (Ext.drew _)
    have hS141 := hS141.then (Ext.drew _)
    obtain ⟨r172, hr173⟩ : ∃ r_, r_ = M.spec_MulWords (rd xs2 s0.B) (rd xs2 s0.C) := ⟨_, rfl⟩
    have H := H r172 hr173
    refine (spec_MulWords.con hr173 ).mono ?_
    rintro _ w175 ⟨rfl, e176⟩
    have O2 := O2.ext e176
    have O3 := O3.ext e176
    have hB := ethen hB e176
    have hS141 := hS141.then e176
    refine ⟨r172, rfl, ?_⟩
    refine ⟨sameBut_chg hS141, ?_⟩
    obtain ⟨⟨h0_180, h1_181⟩, H⟩ := H
    obtain ⟨a178, ha179, hat177⟩ := Row.at Z3.row h0_180 h1_181
    refine ⟨h0_180, h1_181, a178, ha179, ?_⟩
    refine Own.storeAt O3 ha179 h0_180 h1_181 0 [(.int .i64 r172)] r172 rfl (Nat.le_of_ble_eq_true rfl) rfl (fun w182 P3 e183 hb184 => ?_)
    have O2_ := O2.chg e183 (fun h_ => (N3_2) _ ha179 h_.symm)
    have O2 := O2_
    have hB := echg hB e183 hb184
    have O3 := P3
    obtain rfl := hr.trans H.symm
    exact ⟨A26, c27, (by first | rfl | (simp; done) | (simp; omega) | (simp [*]; done)), (by first | exact O3 | (simp only [List.length_set]; exact O3)), hB⟩
  have H := (bcase_iff.1 H).2 hc280
  refine bcase_mk (fun hc279 => ?_) (fun hc279 => ?_)
  · have H := (bcase_iff.1 H).1 hc279
    refine ⟨(fun _ => False), ?_⟩
    refine ⟨_, ⟨(fun h_ => h_), (O2.at 1 rfl rfl)⟩, ?_⟩
    refine ⟨_, ⟨(fun h_ => h_), (O2.at 2 rfl rfl)⟩, ?_⟩
    obtain ⟨⟨h0_189, h1_190⟩, H⟩ := H
    obtain ⟨a187, ha188, hat186⟩ := Row.at (R2.ext hB) h0_189 h1_190
    refine ⟨h0_189, h1_190, a187, ha188, ?_⟩
    refine ⟨_, ⟨(fun h_ => h_), (hat186 0 _ rfl)⟩, ?_⟩
    refine ⟨_, ⟨(fun h_ => h_), (O2.at 3 rfl rfl)⟩, ?_⟩
    obtain ⟨⟨h0_194, h1_195⟩, H⟩ := H
    obtain ⟨a192, ha193, hat191⟩ := Row.at (R2.ext hB) h0_194 h1_195
    refine ⟨h0_194, h1_195, a192, ha193, ?_⟩
    refine ⟨_, ⟨(fun h_ => h_), (hat191 0 _ rfl)⟩, ?_⟩
    obtain ⟨⟨h0_199, h1_200⟩, H⟩ := H
    obtain ⟨a197, ha198, hat196⟩ := Row.at O3.row h0_199 h1_200
    refine ⟨h0_199, h1_200, a197, ha198, ?_⟩
    have hS185 := Chg.refl (fun _ => False) w28
    have O2 := O2.ext (Ext.drew _)
    have O3 := O3.ext (Ext.drew _)
    have hB := ethen hB (Ext.drew _)
    have hS185 := hS185.then (Ext.drew _)
    refine Own.storeAt O3 ha198 h0_199 h1_200 0 [(.int .i64 (bitXor .i64 (rd xs2 s0.B) (rd xs2 s0.C)))] (bitXor .i64 (rd xs2 s0.B) (rd xs2 s0.C)) rfl (Nat.le_of_ble_eq_true rfl) rfl (fun w201 P3 e202 hb203 => ?_)
    have O2_ := O2.chg e202 (fun h_ => (N3_2) _ ha198 h_.symm)
    have O2 := O2_
    have hB := echg hB e202 hb203
    have O3 := P3
    obtain rfl := hr.trans H.symm
    exact ⟨A26, c27, (by first | rfl | (simp; done) | (simp; omega) | (simp [*]; done)), (by first | exact O3 | (simp only [List.length_set]; exact O3)), hB⟩
  have H := (bcase_iff.1 H).2 hc279
  refine bcase_mk (fun hc278 => ?_) (fun hc278 => ?_)
  · have H := (bcase_iff.1 H).1 hc278
    refine ⟨(fun _ => False), ?_⟩
    have hBz := hB
    have Z2 := O2
    have Z3 := O3
    refine ⟨_, ⟨(fun h_ => h_), (O2.at 1 rfl rfl)⟩, ?_⟩
    refine ⟨_, ⟨(fun h_ => h_), (O2.at 2 rfl rfl)⟩, ?_⟩
    obtain ⟨⟨h0_228, h1_229⟩, H⟩ := H
    obtain ⟨a226, ha227, hat225⟩ := Row.at (R2.ext hB) h0_228 h1_229
    refine ⟨h0_228, h1_229, a226, ha227, ?_⟩
    refine ⟨_, ⟨(fun h_ => h_), (hat225 0 _ rfl)⟩, ?_⟩
    refine ⟨_, ⟨(fun h_ => h_), (O2.at 3 rfl rfl)⟩, ?_⟩
    obtain ⟨⟨h0_233, h1_234⟩, H⟩ := H
    obtain ⟨a231, ha232, hat230⟩ := Row.at (R2.ext hB) h0_233 h1_234
    refine ⟨h0_233, h1_234, a231, ha232, ?_⟩
    refine ⟨_, ⟨(fun h_ => h_), (hat230 0 _ rfl)⟩, ?_⟩
    have hS204 := Chg.refl (fun _ => False) w28
    have O2 := O2.ext (Ext.drew _)
    have O3 := O3.ext (Ext.drew _)
    have hB := ethen hB (Ext.drew _)
    have hS204 := hS204.then (Ext.drew _)
    obtain ⟨r235, hr236⟩ : ∃ r_, r_ = M.spec_LessWords (rd xs2 s0.B) (rd xs2 s0.C) := ⟨_, rfl⟩
    have H := H r235 hr236
    refine (spec_LessWords.con hr236 ).mono ?_
    rintro _ w238 ⟨rfl, e239⟩
    have O2 := O2.ext e239
    have O3 := O3.ext e239
    have hB := ethen hB e239
    have hS204 := hS204.then e239
    refine ⟨r235, rfl, ?_⟩
    refine ⟨sameBut_chg hS204, ?_⟩
    obtain ⟨⟨h0_243, h1_244⟩, H⟩ := H
    obtain ⟨a241, ha242, hat240⟩ := Row.at Z3.row h0_243 h1_244
    refine ⟨h0_243, h1_244, a241, ha242, ?_⟩
    refine Own.storeAt O3 ha242 h0_243 h1_244 0 [(.int .i64 r235)] r235 rfl (Nat.le_of_ble_eq_true rfl) rfl (fun w245 P3 e246 hb247 => ?_)
    have O2_ := O2.chg e246 (fun h_ => (N3_2) _ ha242 h_.symm)
    have O2 := O2_
    have hB := echg hB e246 hb247
    have O3 := P3
    obtain rfl := hr.trans H.symm
    exact ⟨A26, c27, (by first | rfl | (simp; done) | (simp; omega) | (simp [*]; done)), (by first | exact O3 | (simp only [List.length_set]; exact O3)), hB⟩
  have H := (bcase_iff.1 H).2 hc278
  refine bcase_mk (fun hc277 => ?_) (fun hc277 => ?_)
  · have H := (bcase_iff.1 H).1 hc277
    refine ⟨_, (O2.at 1 rfl rfl), ?_⟩
    obtain ⟨⟨h0_251, h1_252⟩, H⟩ := H
    obtain ⟨a249, ha250, hat248⟩ := Row.at O3.row h0_251 h1_252
    refine ⟨h0_251, h1_252, a249, ha250, ?_⟩
    refine Own.storeAt O3 ha250 h0_251 h1_252 0 [(.int .i64 x1)] x1 rfl (Nat.le_of_ble_eq_true rfl) rfl (fun w253 P3 e254 hb255 => ?_)
    have O2_ := O2.chg e254 (fun h_ => (N3_2) _ ha250 h_.symm)
    have O2 := O2_
    have hB := echg hB e254 hb255
    have O3 := P3
    obtain rfl := hr.trans H.symm
    exact ⟨A26, c27, (by first | rfl | (simp; done) | (simp; omega) | (simp [*]; done)), (by first | exact O3 | (simp only [List.length_set]; exact O3)), hB⟩
  have H := (bcase_iff.1 H).2 hc277
  refine bcase_mk (fun hc276 => ?_) (fun hc276 => ?_)
  · have H := (bcase_iff.1 H).1 hc276
    refine ⟨_, (O2.at 3 rfl rfl), ?_⟩
    obtain ⟨⟨h0_259, h1_260⟩, H⟩ := H
    obtain ⟨a257, ha258, hat256⟩ := Row.at (R2.ext hB) h0_259 h1_260
    refine ⟨h0_259, h1_260, a257, ha258, ?_⟩
    refine ⟨_, (hat256 0 _ rfl), ?_⟩
    refine bcase_mk (fun hc275 => ?_) (fun hc275 => ?_)
    · have H := (bcase_iff.1 H).1 hc275
      refine ⟨(fun _ => False), ?_⟩
      refine ⟨_, ⟨(fun h_ => h_), (O2.at 1 rfl rfl)⟩, ?_⟩
      refine ⟨_, ⟨(fun h_ => h_), (O2.at 2 rfl rfl)⟩, ?_⟩
      obtain ⟨⟨h0_265, h1_266⟩, H⟩ := H
      obtain ⟨a263, ha264, hat262⟩ := Row.at (R2.ext hB) h0_265 h1_266
      refine ⟨h0_265, h1_266, a263, ha264, ?_⟩
      refine ⟨_, ⟨(fun h_ => h_), (hat262 0 _ rfl)⟩, ?_⟩
      obtain ⟨⟨h0_270, h1_271⟩, H⟩ := H
      obtain ⟨a268, ha269, hat267⟩ := Row.at O3.row h0_270 h1_271
      refine ⟨h0_270, h1_271, a268, ha269, ?_⟩
      have hS261 := Chg.refl (fun _ => False) w28
      have O2 := O2.ext (Ext.drew _)
      have O3 := O3.ext (Ext.drew _)
      have hB := ethen hB (Ext.drew _)
      have hS261 := hS261.then (Ext.drew _)
      refine Own.storeAt O3 ha269 h0_270 h1_271 0 [(.int .i64 (rd xs2 s0.B))] (rd xs2 s0.B) rfl (Nat.le_of_ble_eq_true rfl) rfl (fun w272 P3 e273 hb274 => ?_)
      have O2_ := O2.chg e273 (fun h_ => (N3_2) _ ha269 h_.symm)
      have O2 := O2_
      have hB := echg hB e273 hb274
      have O3 := P3
      obtain rfl := hr.trans H.symm
      exact ⟨A26, c27, (by first | rfl | (simp; done) | (simp; omega) | (simp [*]; done)), (by first | exact O3 | (simp only [List.length_set]; exact O3)), hB⟩
    have H := (bcase_iff.1 H).2 hc275
    obtain rfl := hr.trans H.symm
    exact ⟨A26, c27, rfl, O3, hB⟩
  have H := (bcase_iff.1 H).2 hc276
  obtain rfl := hr.trans H.symm
  exact ⟨A26, c27, rfl, O3, hB⟩
def spec_l10Step.vc (A0 : Option Addr) (n0 : Nat) (c0 : Nat) (x1_0 : Int) (x1_1 : Int) (A1_2 : Option Addr) (n1_2 : Nat) (c1_2 : Nat) (w : World) (K : Value → World → Prop) : Prop :=
  newK w (.cells #[(.int .i64 x1_0), (.int .i64 x1_1), (.slice A1_2 n1_2 c1_2)] 144) fun g21 w22 => newK w22 (.cells #[(.int .i64 0), (.int .i64 0), (.slice none 0 0)] 144) fun g23 w24 => (∃ M25 : Nat → Prop, ∃ (n26 : Int), (¬ M25 (((⟨g21, 0, none⟩ : Addr).add 0)).block ∧ w24.cell? (((⟨g21, 0, none⟩ : Addr).add 0).add 0) = some (.int .i64 n26)) ∧ ∃ (n27 : Int), (¬ M25 (((⟨g21, 0, none⟩ : Addr).add 1)).block ∧ w24.cell? (((⟨g21, 0, none⟩ : Addr).add 1).add 0) = some (.int .i64 n27)) ∧ ∃ (A28 : Option Addr) (n29 : Nat) (c30 : Nat), (¬ M25 (((⟨g21, 0, none⟩ : Addr).add 2)).block ∧ w24.cell? (((⟨g21, 0, none⟩ : Addr).add 2).add 0) = some (.slice A28 n29 c30)) ∧ ∃ (n31 : Int), (¬ M25 (((⟨g21, 0, none⟩ : Addr).add 1)).block ∧ w24.cell? (((⟨g21, 0, none⟩ : Addr).add 1).add 0) = some (.int .i64 n31)) ∧ ((0 : Int) ≤ n31 ∧ n31 < ((n0 : Nat) : Int) ∧ ∃ a32 : Addr, A0 = some a32 ∧ ∃ (n33 : Int), (¬ M25 ((a32.add ((n31.toNat) * 4))).block ∧ w24.cell? ((a32.add ((n31.toNat) * 4)).add 0) = some (.int .i64 n33)) ∧ ∃ (n34 : Int), (¬ M25 ((a32.add ((n31.toNat) * 4))).block ∧ w24.cell? ((a32.add ((n31.toNat) * 4)).add 1) = some (.int .i64 n34)) ∧ ∃ (n35 : Int), (¬ M25 ((a32.add ((n31.toNat) * 4))).block ∧ w24.cell? ((a32.add ((n31.toNat) * 4)).add 2) = some (.int .i64 n35)) ∧ ∃ (n36 : Int), (¬ M25 ((a32.add ((n31.toNat) * 4))).block ∧ w24.cell? ((a32.add ((n31.toNat) * 4)).add 3) = some (.int .i64 n36)) ∧ ∃ (n37 : Int), (¬ M25 (((⟨g21, 0, none⟩ : Addr).add 0)).block ∧ w24.cell? (((⟨g21, 0, none⟩ : Addr).add 0).add 0) = some (.int .i64 n37)) ∧ ∃ (A38 : Option Addr) (n39 : Nat) (c40 : Nat), (¬ M25 (((⟨g21, 0, none⟩ : Addr).add 2)).block ∧ w24.cell? (((⟨g21, 0, none⟩ : Addr).add 2).add 0) = some (.slice A38 n39 c40)) ∧ Cll Tryz.prog 277 #[(.slice A0 n0 c0), (.int .i64 n27), (.slice A28 n29 c30)] w24.drew fun v41 w42 => (∃ (n43 : Int), v41 = (.int .i64 n43) ∧ SameBut M25 w24 w42 ∧ Cll Tryz.prog 205 #[(.agg #[(.int .i64 n33), (.int .i64 n34), (.int .i64 n35), (.int .i64 n36)]), (.int .i64 n37), (.slice A38 n39 c40)] w42 fun v44 w45 => (∃ (A46 : Option Addr) (n47 : Nat) (c48 : Nat), v44 = (.slice A46 n47 c48) ∧ SameBut M25 w24 w45 ∧ stCells (⟨g23, 0, none⟩ : Addr) [(.int .i64 n26), (.int .i64 n43), (.slice A46 n47 c48)] 0 w45 fun w49 => ∃ (n50 : Int), w49.cell? ((⟨g23, 0, none⟩ : Addr).add 0) = some (.int .i64 n50) ∧ ∃ (n51 : Int), w49.cell? ((⟨g23, 0, none⟩ : Addr).add 1) = some (.int .i64 n51) ∧ ∃ (A52 : Option Addr) (n53 : Nat) (c54 : Nat), w49.cell? ((⟨g23, 0, none⟩ : Addr).add 2) = some (.slice A52 n53 c54) ∧ K (.agg #[(.int .i64 n50), (.int .i64 n51), (.slice A52 n53 c54)]) w49))))

def spec_l10Step.ann : Ann := (.seq .l (.seq .l .l))

theorem spec_l10Step.start {A0 : Option Addr} {n0 : Nat} {c0 : Nat} {x1_0 : Int} {x1_1 : Int} {A1_2 : Option Addr} {n1_2 : Nat} {c1_2 : Nat} {w : World} {K : Value → World → Prop} (h : spec_l10Step.vc A0 n0 c0 x1_0 x1_1 A1_2 n1_2 c1_2 w K) : Cll Tryz.prog 245 #[(.slice A0 n0 c0), (.agg #[(.int .i64 x1_0), (.int .i64 x1_1), (.slice A1_2 n1_2 c1_2)])] w K :=
  vcF_sound mixed (fn := Tryz.f245) (by kernel_rfl) (by kernel_rfl) (an := spec_l10Step.ann) (args := [(.slice A0 n0 c0), (.agg #[(.int .i64 x1_0), (.int .i64 x1_1), (.slice A1_2 n1_2 c1_2)])]) (Eq.mpr (by kernel_rfl) h)

theorem spec_l10Step.con {xs0 : List D.Ins} {A0 : Option Addr} {c0 : Nat} {s1 : D.Lane} {A1_2 : Option Addr} {c1_2 : Nat} {r : D.Lane} {w : World} (hp : M.spec_l10Step_pre xs0 s1) (hr : r = M.spec_l10Step xs0 s1) (R0 : Row el89 w A0 xs0) (hc0 : xs0.length ≤ c0) (R1_2 : Row el3 w A1_2 s1.Regs) (hc1_2 : s1.Regs.length ≤ c1_2) :
    Cll Tryz.prog 245 #[(.slice A0 xs0.length c0), (.agg #[(.int .i64 s1.Thread), (.int .i64 s1.Pc), (.slice A1_2 s1.Regs.length c1_2)])] w (fun v_ w_ => ∃ (A0_ : Option Addr) (c0_ : Nat), v_ = (.agg #[(.int .i64 r.Thread), (.int .i64 r.Pc), (.slice A0_ r.Regs.length c0_)]) ∧ Own el3 w_ w.heap.size A0_ c0_ r.Regs ∧ Ext w w_) := by
  have H := wp.spec_l10Step.math xs0 s1 hp
  have hB := Ext.refl w
  refine spec_l10Step.start ?_
  unfold spec_l10Step.vc
  unfold wp.spec_l10Step at H
  refine newBlk (fun g3_ w21 L3 P3 e22 => ?_)
  have O3 := P3
  have L3 := Nat.le_trans hB.size L3
  have hB := ethen hB e22
  refine newBlk (fun g4_ w23 L4 P4 e24 => ?_)
  have N3_4 := O3.ne L4
  have O3 := O3.ext e24
  have O4 := P4
  have L4 := Nat.le_trans hB.size L4
  have hB := ethen hB e24
  refine ⟨(fun _ => False), ?_⟩
  refine ⟨_, ⟨(fun h_ => h_), (O3.at 0 rfl rfl)⟩, ?_⟩
  refine ⟨_, ⟨(fun h_ => h_), (O3.at 1 rfl rfl)⟩, ?_⟩
  refine ⟨_, _, _, ⟨(fun h_ => h_), (O3.at 2 rfl rfl)⟩, ?_⟩
  refine ⟨_, ⟨(fun h_ => h_), (O3.at 1 rfl rfl)⟩, ?_⟩
  obtain ⟨⟨h0_29, h1_30⟩, H⟩ := H
  obtain ⟨a27, ha28, hat26⟩ := Row.at (R0.ext hB) h0_29 h1_30
  refine ⟨h0_29, h1_30, a27, ha28, ?_⟩
  refine ⟨_, ⟨(fun h_ => h_), (hat26 0 _ rfl)⟩, ?_⟩
  refine ⟨_, ⟨(fun h_ => h_), (hat26 1 _ rfl)⟩, ?_⟩
  refine ⟨_, ⟨(fun h_ => h_), (hat26 2 _ rfl)⟩, ?_⟩
  refine ⟨_, ⟨(fun h_ => h_), (hat26 3 _ rfl)⟩, ?_⟩
  refine ⟨_, ⟨(fun h_ => h_), (O3.at 0 rfl rfl)⟩, ?_⟩
  refine ⟨_, _, _, ⟨(fun h_ => h_), (O3.at 2 rfl rfl)⟩, ?_⟩
  have hS25 := Chg.refl (fun _ => False) w23
  have O3 := O3.ext (Ext.drew _)
  have O4 := O4.ext (Ext.drew _)
  have hB := ethen hB (Ext.drew _)
  have hS25 := hS25.then (Ext.drew _)
  obtain ⟨hp33, H⟩ := H
  obtain ⟨r31, hr32⟩ : ∃ r_, r_ = M.spec_l10Next xs0 s1.Pc s1.Regs := ⟨_, rfl⟩
  have H := H r31 hr32
  refine (spec_l10Next.con hp33 hr32 (R0.ext hB) hc0 (R1_2.ext hB) hc1_2).mono ?_
  rintro _ w34 ⟨rfl, e35⟩
  have O3 := O3.ext e35
  have O4 := O4.ext e35
  have hB := ethen hB e35
  have hS25 := hS25.then e35
  refine ⟨r31, rfl, ?_⟩
  refine ⟨sameBut_chg hS25, ?_⟩
  obtain ⟨hp38, H⟩ := H
  obtain ⟨r36, hr37⟩ : ∃ r_, r_ = M.spec_l10Apply (rd xs0 s1.Pc) s1.Thread s1.Regs := ⟨_, rfl⟩
  have H := H r36 hr37
  refine (spec_l10Apply.con hp38 hr37 (R1_2.ext hB) hc1_2).mono ?_
  rintro _ w39 ⟨A41, c42, rfl, P5, e40⟩
  have N5_3 := P5.apart_old O3.lt
  have N5_4 := P5.apart_old O4.lt
  have O3 := O3.ext e40
  have O4 := O4.ext e40
  have LB5 := (P5.mono hS25.size).low
  have O5 := P5.mono hB.size
  have hB := ethen hB e40
  have hS25 := hS25.then e40
  refine ⟨A41, r36.length, c42, rfl, ?_⟩
  refine ⟨sameBut_chg hS25, ?_⟩
  refine stBlk O4 (o := 0) (cs' := #[(.int .i64 s1.Thread), (.int .i64 r31), (.slice A41 r36.length c42)]) rfl rfl (Nat.le_of_ble_eq_true rfl) rfl (fun w43 P4 e44 => ?_)
  have O3_ := O3.chg e44 N3_4
  have O5_ := O5.chg e44 N5_4
  have O3 := O3_
  have O5 := O5_
  have hB := echg hB e44 L4
  have O4 := P4
  refine ⟨_, (O4.at 0 rfl rfl), ?_⟩
  refine ⟨_, (O4.at 1 rfl rfl), ?_⟩
  refine ⟨_, _, _, (O4.at 2 rfl rfl), ?_⟩
  obtain rfl := hr.trans H.symm
  exact ⟨A41, c42, rfl, O5, hB⟩
def spec_RunLane.vc (A0 : Option Addr) (n0 : Nat) (c0 : Nat) (x1_0 : Int) (x1_1 : Int) (A1_2 : Option Addr) (n1_2 : Nat) (c1_2 : Nat) (x2 : Int) (w : World) (K : Value → World → Prop) : Prop :=
  newK w (.cells #[(.int .i64 x1_0), (.int .i64 x1_1), (.slice A1_2 n1_2 c1_2)] 144) fun g21 w22 => newK w22 (.cells #[(.int .i64 0), (.int .i64 0), (.slice none 0 0)] 144) fun g23 w24 => ∃ (n25 : Int), w24.cell? ((⟨g21, 0, none⟩ : Addr).add 0) = some (.int .i64 n25) ∧ ∃ (n26 : Int), w24.cell? ((⟨g21, 0, none⟩ : Addr).add 1) = some (.int .i64 n26) ∧ ∃ (A27 : Option Addr) (n28 : Nat) (c29 : Nat), w24.cell? ((⟨g21, 0, none⟩ : Addr).add 2) = some (.slice A27 n28 c29) ∧ Cll Tryz.prog 243 #[(.agg #[(.int .i64 n25), (.int .i64 n26), (.slice A27 n28 c29)])] w24 fun v30 w31 => (∃ (n32 : Int), True ∧ ∃ (n33 : Int), True ∧ ∃ (A34 : Option Addr) (n35 : Nat) (c36 : Nat), True ∧ v30 = (.agg #[(.int .i64 n32), (.int .i64 n33), (.slice A34 n35 c36)]) ∧ newK w31 (.cells #[(.int .i64 0), (.int .i64 0), (.slice none 0 0)] 144) fun g37 w38 => stCells (⟨g37, 0, none⟩ : Addr) [(.int .i64 n32), (.int .i64 n33), (.slice A34 n35 c36)] 0 w38 fun w39 => Cll Tryz.prog 65 #[(.slice A0 n0 c0)] w39 fun v41 w42 => (∃ (b43 : Bool), v41 = (.bool b43) ∧ bcase (!b43) (∃ (n44 : Int), w42.cell? ((⟨g37, 0, none⟩ : Addr).add 0) = some (.int .i64 n44) ∧ ∃ (n45 : Int), w42.cell? ((⟨g37, 0, none⟩ : Addr).add 1) = some (.int .i64 n45) ∧ ∃ (A46 : Option Addr) (n47 : Nat) (c48 : Nat), w42.cell? ((⟨g37, 0, none⟩ : Addr).add 2) = some (.slice A46 n47 c48) ∧ stCells (⟨g23, 0, none⟩ : Addr) [(.int .i64 n44), (.int .i64 n45), (.slice A46 n47 c48)] 0 w42 fun w49 => ∃ (n50 : Int), w49.cell? ((⟨g23, 0, none⟩ : Addr).add 0) = some (.int .i64 n50) ∧ ∃ (n51 : Int), w49.cell? ((⟨g23, 0, none⟩ : Addr).add 1) = some (.int .i64 n51) ∧ ∃ (A52 : Option Addr) (n53 : Nat) (c54 : Nat), w49.cell? ((⟨g23, 0, none⟩ : Addr).add 2) = some (.slice A52 n53 c54) ∧ K (.tuple #[(.agg #[(.int .i64 n50), (.int .i64 n51), (.slice A52 n53 c54)]), (.int .i64 (-1))]) w49) (∃ (n55 : Int), w42.cell? ((⟨g21, 0, none⟩ : Addr).add 0) = some (.int .i64 n55) ∧ ∃ (n56 : Int), w42.cell? ((⟨g21, 0, none⟩ : Addr).add 1) = some (.int .i64 n56) ∧ ∃ (A57 : Option Addr) (n58 : Nat) (c59 : Nat), w42.cell? ((⟨g21, 0, none⟩ : Addr).add 2) = some (.slice A57 n58 c59) ∧ Cll Tryz.prog 244 #[(.slice A0 n0 c0), (.agg #[(.int .i64 n55), (.int .i64 n56), (.slice A57 n58 c59)])] w42 fun v60 w61 => (∃ (b62 : Bool), v60 = (.bool b62) ∧ bcase (!b62) (∃ (n63 : Int), w61.cell? ((⟨g37, 0, none⟩ : Addr).add 0) = some (.int .i64 n63) ∧ ∃ (n64 : Int), w61.cell? ((⟨g37, 0, none⟩ : Addr).add 1) = some (.int .i64 n64) ∧ ∃ (A65 : Option Addr) (n66 : Nat) (c67 : Nat), w61.cell? ((⟨g37, 0, none⟩ : Addr).add 2) = some (.slice A65 n66 c67) ∧ stCells (⟨g23, 0, none⟩ : Addr) [(.int .i64 n63), (.int .i64 n64), (.slice A65 n66 c67)] 0 w61 fun w68 => ∃ (n69 : Int), w68.cell? ((⟨g23, 0, none⟩ : Addr).add 0) = some (.int .i64 n69) ∧ ∃ (n70 : Int), w68.cell? ((⟨g23, 0, none⟩ : Addr).add 1) = some (.int .i64 n70) ∧ ∃ (A71 : Option Addr) (n72 : Nat) (c73 : Nat), w68.cell? ((⟨g23, 0, none⟩ : Addr).add 2) = some (.slice A71 n72 c73) ∧ K (.tuple #[(.agg #[(.int .i64 n69), (.int .i64 n70), (.slice A71 n72 c73)]), (.int .i64 (-1))]) w68) (Cll Tryz.prog 67 #[(.int .i64 x2), (.int .i64 0), (.int .i64 1000)] w61 fun v74 w75 => (∃ (b76 : Bool), v74 = (.bool b76) ∧ bcase (!b76) (∃ (n77 : Int), w75.cell? ((⟨g37, 0, none⟩ : Addr).add 0) = some (.int .i64 n77) ∧ ∃ (n78 : Int), w75.cell? ((⟨g37, 0, none⟩ : Addr).add 1) = some (.int .i64 n78) ∧ ∃ (A79 : Option Addr) (n80 : Nat) (c81 : Nat), w75.cell? ((⟨g37, 0, none⟩ : Addr).add 2) = some (.slice A79 n80 c81) ∧ stCells (⟨g23, 0, none⟩ : Addr) [(.int .i64 n77), (.int .i64 n78), (.slice A79 n80 c81)] 0 w75 fun w82 => ∃ (n83 : Int), w82.cell? ((⟨g23, 0, none⟩ : Addr).add 0) = some (.int .i64 n83) ∧ ∃ (n84 : Int), w82.cell? ((⟨g23, 0, none⟩ : Addr).add 1) = some (.int .i64 n84) ∧ ∃ (A85 : Option Addr) (n86 : Nat) (c87 : Nat), w82.cell? ((⟨g23, 0, none⟩ : Addr).add 2) = some (.slice A85 n86 c87) ∧ K (.tuple #[(.agg #[(.int .i64 n83), (.int .i64 n84), (.slice A85 n86 c87)]), (.int .i64 (-1))]) w82) (LoopT (σ := Int × Unit) (fun z88 w89 next90 => bcase (decide (z88.1 < x2)) (∃ (n92 : Int), w89.cell? (((⟨g37, 0, none⟩ : Addr).add 1).add 0) = some (.int .i64 n92) ∧ bcase (decide (n92 < ((n0 : Nat) : Int))) (∃ (n93 : Int), w89.cell? ((⟨g37, 0, none⟩ : Addr).add 0) = some (.int .i64 n93) ∧ ∃ (n94 : Int), w89.cell? ((⟨g37, 0, none⟩ : Addr).add 1) = some (.int .i64 n94) ∧ ∃ (A95 : Option Addr) (n96 : Nat) (c97 : Nat), w89.cell? ((⟨g37, 0, none⟩ : Addr).add 2) = some (.slice A95 n96 c97) ∧ Cll Tryz.prog 245 #[(.slice A0 n0 c0), (.agg #[(.int .i64 n93), (.int .i64 n94), (.slice A95 n96 c97)])] w89 fun v98 w99 => (∃ (n100 : Int), True ∧ ∃ (n101 : Int), True ∧ ∃ (A102 : Option Addr) (n103 : Nat) (c104 : Nat), True ∧ v98 = (.agg #[(.int .i64 n100), (.int .i64 n101), (.slice A102 n103 c104)]) ∧ stCells (⟨g37, 0, none⟩ : Addr) [(.int .i64 n100), (.int .i64 n101), (.slice A102 n103 c104)] 0 w99 fun w105 => next90 ((IntKind.wrap .i64 (z88.1 + 1)), ()) w105)) (∃ (n106 : Int), w89.cell? ((⟨g37, 0, none⟩ : Addr).add 0) = some (.int .i64 n106) ∧ ∃ (n107 : Int), w89.cell? ((⟨g37, 0, none⟩ : Addr).add 1) = some (.int .i64 n107) ∧ ∃ (A108 : Option Addr) (n109 : Nat) (c110 : Nat), w89.cell? ((⟨g37, 0, none⟩ : Addr).add 2) = some (.slice A108 n109 c110) ∧ stCells (⟨g23, 0, none⟩ : Addr) [(.int .i64 n106), (.int .i64 n107), (.slice A108 n109 c110)] 0 w89 fun w111 => ∃ (n112 : Int), w111.cell? ((⟨g23, 0, none⟩ : Addr).add 0) = some (.int .i64 n112) ∧ ∃ (n113 : Int), w111.cell? ((⟨g23, 0, none⟩ : Addr).add 1) = some (.int .i64 n113) ∧ ∃ (A114 : Option Addr) (n115 : Nat) (c116 : Nat), w111.cell? ((⟨g23, 0, none⟩ : Addr).add 2) = some (.slice A114 n115 c116) ∧ K (.tuple #[(.agg #[(.int .i64 n112), (.int .i64 n113), (.slice A114 n115 c116)]), (.int .i64 z88.1)]) w111)) (∃ (n117 : Int), w89.cell? ((⟨g37, 0, none⟩ : Addr).add 0) = some (.int .i64 n117) ∧ ∃ (n118 : Int), w89.cell? ((⟨g37, 0, none⟩ : Addr).add 1) = some (.int .i64 n118) ∧ ∃ (A119 : Option Addr) (n120 : Nat) (c121 : Nat), w89.cell? ((⟨g37, 0, none⟩ : Addr).add 2) = some (.slice A119 n120 c121) ∧ stCells (⟨g23, 0, none⟩ : Addr) [(.int .i64 n117), (.int .i64 n118), (.slice A119 n120 c121)] 0 w89 fun w122 => ∃ (n123 : Int), w122.cell? ((⟨g23, 0, none⟩ : Addr).add 0) = some (.int .i64 n123) ∧ ∃ (n124 : Int), w122.cell? ((⟨g23, 0, none⟩ : Addr).add 1) = some (.int .i64 n124) ∧ ∃ (A125 : Option Addr) (n126 : Nat) (c127 : Nat), w122.cell? ((⟨g23, 0, none⟩ : Addr).add 2) = some (.slice A125 n126 c127) ∧ K (.tuple #[(.agg #[(.int .i64 n123), (.int .i64 n124), (.slice A125 n126 c127)]), (.int .i64 z88.1)]) w122)) (0, ()) w75)))))))

def spec_RunLane.ann : Ann := (.seq .l (.seq .l (.seq (.seq .l (.two (.seq .l .l) .l)) (.seq .l (.seq (.one (.loop [(9, .int .i64)] (.seq (.seq .l (.two .l .l)) (.one (.seq .l .l))))) (.seq .l .l))))))

theorem spec_RunLane.start {A0 : Option Addr} {n0 : Nat} {c0 : Nat} {x1_0 : Int} {x1_1 : Int} {A1_2 : Option Addr} {n1_2 : Nat} {c1_2 : Nat} {x2 : Int} {w : World} {K : Value → World → Prop} (h : spec_RunLane.vc A0 n0 c0 x1_0 x1_1 A1_2 n1_2 c1_2 x2 w K) : Cll Tryz.prog 208 #[(.slice A0 n0 c0), (.agg #[(.int .i64 x1_0), (.int .i64 x1_1), (.slice A1_2 n1_2 c1_2)]), (.int .i64 x2)] w K :=
  vcF_sound mixed (fn := Tryz.f208) (by kernel_rfl) (by kernel_rfl) (an := spec_RunLane.ann) (args := [(.slice A0 n0 c0), (.agg #[(.int .i64 x1_0), (.int .i64 x1_1), (.slice A1_2 n1_2 c1_2)]), (.int .i64 x2)]) (Eq.mpr (by kernel_rfl) h)

theorem spec_RunLane.con {xs0 : List D.Ins} {A0 : Option Addr} {c0 : Nat} {s1 : D.Lane} {A1_2 : Option Addr} {c1_2 : Nat} {x2 : Int} {r : D.Lane × Int} {w : World} (hp : M.spec_RunLane_pre xs0 s1 x2) (hr : r = M.spec_RunLane xs0 s1 x2) (R0 : Row el89 w A0 xs0) (hc0 : xs0.length ≤ c0) (R1_2 : Row el3 w A1_2 s1.Regs) (hc1_2 : s1.Regs.length ≤ c1_2) :
    Cll Tryz.prog 208 #[(.slice A0 xs0.length c0), (.agg #[(.int .i64 s1.Thread), (.int .i64 s1.Pc), (.slice A1_2 s1.Regs.length c1_2)]), (.int .i64 x2)] w (fun v_ w_ => ∃ (A0_ : Option Addr) (c0_ : Nat), v_ = (.tuple #[(.agg #[(.int .i64 r.1.Thread), (.int .i64 r.1.Pc), (.slice A0_ r.1.Regs.length c0_)]), (.int .i64 r.2)]) ∧ Own el3 w_ w.heap.size A0_ c0_ r.1.Regs ∧ Ext w w_) := by
  have H := wp.spec_RunLane.math xs0 s1 x2 hp
  have hB := Ext.refl w
  refine spec_RunLane.start ?_
  unfold spec_RunLane.vc
  unfold wp.spec_RunLane at H
  refine newBlk (fun g3_ w21 L3 P3 e22 => ?_)
  have O3 := P3
  have L3 := Nat.le_trans hB.size L3
  have hB := ethen hB e22
  refine newBlk (fun g4_ w23 L4 P4 e24 => ?_)
  have N3_4 := O3.ne L4
  have O3 := O3.ext e24
  have O4 := P4
  have L4 := Nat.le_trans hB.size L4
  have hB := ethen hB e24
  refine ⟨_, (O3.at 0 rfl rfl), ?_⟩
  refine ⟨_, (O3.at 1 rfl rfl), ?_⟩
  refine ⟨_, _, _, (O3.at 2 rfl rfl), ?_⟩
  obtain ⟨hp27, H⟩ := H
  obtain ⟨r25, hr26⟩ : ∃ r_, r_ = M.spec_l10Copy s1 := ⟨_, rfl⟩
  have H := H r25 hr26
  refine (spec_l10Copy.con hp27 hr26 (R1_2.ext hB) hc1_2).mono ?_
  rintro _ w28 ⟨A30, c31, rfl, P5, e29⟩
  have N5_3 := P5.apart_old O3.lt
  have N5_4 := P5.apart_old O4.lt
  have O3 := O3.ext e29
  have O4 := O4.ext e29
  have O5 := P5.mono hB.size
  have hB := ethen hB e29
  refine ⟨r25.Thread, trivial, ?_⟩
  refine ⟨r25.Pc, trivial, ?_⟩
  refine ⟨A30, r25.Regs.length, c31, trivial, ?_⟩
  refine ⟨rfl, ?_⟩
  refine newBlk (fun g6_ w32 L6 P6 e33 => ?_)
  have N3_6 := O3.ne L6
  have N4_6 := O4.ne L6
  have N5_6 := O5.apart_new L6
  have O3 := O3.ext e33
  have O4 := O4.ext e33
  have O5 := O5.ext e33
  have O6 := P6
  have L6 := Nat.le_trans hB.size L6
  have hB := ethen hB e33
  refine stBlk O6 (o := 0) (cs' := #[(.int .i64 r25.Thread), (.int .i64 r25.Pc), (.slice A30 r25.Regs.length c31)]) rfl rfl (Nat.le_of_ble_eq_true rfl) rfl (fun w34 P6 e35 => ?_)
  have O3_ := O3.chg e35 N3_6
  have O4_ := O4.chg e35 N4_6
  have O5_ := O5.chg e35 N5_6
  have O3 := O3_
  have O4 := O4_
  have O5 := O5_
  have hB := echg hB e35 L6
  have O6 := P6
  obtain ⟨hp38, H⟩ := H
  obtain ⟨r36, hr37⟩ : ∃ r_, r_ = M.spec_IsQuiet xs0 := ⟨_, rfl⟩
  have H := H r36 hr37
  refine (spec_IsQuiet.con hp38 hr37 (R0.ext hB) hc0).mono ?_
  rintro _ w39 ⟨rfl, e40⟩
  have O3 := O3.ext e40
  have O4 := O4.ext e40
  have O5 := O5.ext e40
  have O6 := O6.ext e40
  have hB := ethen hB e40
  refine ⟨r36, rfl, ?_⟩
  refine bcase_mk (fun hc107 => ?_) (fun hc107 => ?_)
  · have H := (bcase_iff.1 H).1 hc107
    refine ⟨_, (O6.at 0 rfl rfl), ?_⟩
    refine ⟨_, (O6.at 1 rfl rfl), ?_⟩
    refine ⟨_, _, _, (O6.at 2 rfl rfl), ?_⟩
    refine stBlk O4 (o := 0) (cs' := #[(.int .i64 r25.Thread), (.int .i64 r25.Pc), (.slice A30 r25.Regs.length c31)]) rfl rfl (Nat.le_of_ble_eq_true rfl) rfl (fun w41 P4 e42 => ?_)
    have O5_ := O5.chg e42 N5_4
    have O6_ := O6.chg e42 (N4_6).symm
    have O5 := O5_
    have O6 := O6_
    have hB := echg hB e42 L4
    have O4 := P4
    refine ⟨_, (O4.at 0 rfl rfl), ?_⟩
    refine ⟨_, (O4.at 1 rfl rfl), ?_⟩
    refine ⟨_, _, _, (O4.at 2 rfl rfl), ?_⟩
    obtain rfl := hr.trans H.symm
    exact ⟨A30, c31, rfl, O5, hB⟩
  have H := (bcase_iff.1 H).2 hc107
  refine ⟨_, (O3.at 0 rfl rfl), ?_⟩
  refine ⟨_, (O3.at 1 rfl rfl), ?_⟩
  refine ⟨_, _, _, (O3.at 2 rfl rfl), ?_⟩
  obtain ⟨hp45, H⟩ := H
  obtain ⟨r43, hr44⟩ : ∃ r_, r_ = M.spec_LaneOk xs0 s1 := ⟨_, rfl⟩
  have H := H r43 hr44
  refine (spec_LaneOk.con hp45 hr44 (R0.ext hB) hc0 (R1_2.ext hB) hc1_2).mono ?_
  rintro _ w46 ⟨rfl, e47⟩
  have O3 := O3.ext e47
  have O4 := O4.ext e47
  have O5 := O5.ext e47
  have O6 := O6.ext e47
  have hB := ethen hB e47
  refine ⟨r43, rfl, ?_⟩
  refine bcase_mk (fun hc106 => ?_) (fun hc106 => ?_)
  · have H := (bcase_iff.1 H).1 hc106
    refine ⟨_, (O6.at 0 rfl rfl), ?_⟩
    refine ⟨_, (O6.at 1 rfl rfl), ?_⟩
    refine ⟨_, _, _, (O6.at 2 rfl rfl), ?_⟩
    refine stBlk O4 (o := 0) (cs' := #[(.int .i64 r25.Thread), (.int .i64 r25.Pc), (.slice A30 r25.Regs.length c31)]) rfl rfl (Nat.le_of_ble_eq_true rfl) rfl (fun w48 P4 e49 => ?_)
    have O5_ := O5.chg e49 N5_4
    have O6_ := O6.chg e49 (N4_6).symm
    have O5 := O5_
    have O6 := O6_
    have hB := echg hB e49 L4
    have O4 := P4
    refine ⟨_, (O4.at 0 rfl rfl), ?_⟩
    refine ⟨_, (O4.at 1 rfl rfl), ?_⟩
    refine ⟨_, _, _, (O4.at 2 rfl rfl), ?_⟩
    obtain rfl := hr.trans H.symm
    exact ⟨A30, c31, rfl, O5, hB⟩
  have H := (bcase_iff.1 H).2 hc106
  obtain ⟨r50, hr51⟩ : ∃ r_, r_ = M.spec_l01In x2 0 1000 := ⟨_, rfl⟩
  have H := H r50 hr51
  refine (spec_l01In.con hr51 ).mono ?_
  rintro _ w53 ⟨rfl, e54⟩
  have O3 := O3.ext e54
  have O4 := O4.ext e54
  have O5 := O5.ext e54
  have O6 := O6.ext e54
  have hB := ethen hB e54
  refine ⟨r50, rfl, ?_⟩
  refine bcase_mk (fun hc105 => ?_) (fun hc105 => ?_)
  · have H := (bcase_iff.1 H).1 hc105
    refine ⟨_, (O6.at 0 rfl rfl), ?_⟩
    refine ⟨_, (O6.at 1 rfl rfl), ?_⟩
    refine ⟨_, _, _, (O6.at 2 rfl rfl), ?_⟩
    refine stBlk O4 (o := 0) (cs' := #[(.int .i64 r25.Thread), (.int .i64 r25.Pc), (.slice A30 r25.Regs.length c31)]) rfl rfl (Nat.le_of_ble_eq_true rfl) rfl (fun w55 P4 e56 => ?_)
    have O5_ := O5.chg e56 N5_4
    have O6_ := O6.chg e56 (N4_6).symm
    have O5 := O5_
    have O6 := O6_
    have hB := echg hB e56 L4
    have O4 := P4
    refine ⟨_, (O4.at 0 rfl rfl), ?_⟩
    refine ⟨_, (O4.at 1 rfl rfl), ?_⟩
    refine ⟨_, _, _, (O4.at 2 rfl rfl), ?_⟩
    obtain rfl := hr.trans H.symm
    exact ⟨A30, c31, rfl, O5, hB⟩
  have H := (bcase_iff.1 H).2 hc105
  obtain ⟨J79, ⟨m103, hJ102⟩, hS80⟩ := H
  refine ⟨fun m_ z_ w_ => ∃ (i72 : Int) (i73 : Int) (i74 : Int) (xs75 : List Int) (A76 : Option Addr) (c77 : Nat), z_ = (i72, ()) ∧ J79 m_ (i72, i73, i74, xs75, ()) ∧ Ext w w_ ∧ Blk w_ g6_ 144 #[(.int .i64 i73), (.int .i64 i74), (.slice A76 xs75.length c77)] ∧ Own el3 w_ w.heap.size A76 c77 xs75 ∧ Blk w_ g4_ 144 #[(.int .i64 0), (.int .i64 0), (.slice none 0 0)], ⟨m103, 0, r25.Thread, r25.Pc, r25.Regs, A30, c31, rfl, hJ102, hB, O6, O5, O4⟩, ?_⟩
  rintro m78 _ w82 ⟨i72, i73, i74, xs75, A76, c77, rfl, hJ104, hB, O6, O8, O4⟩
  have H := hS80 m78 _ hJ104
  clear hS80 hJ104
  try dsimp only at H ⊢
  refine bcase_mk (fun hc100 => ?_) (fun hc100 => ?_)
  · have H := (bcase_iff.1 H).1 hc100
    refine ⟨_, (O6.at 1 rfl rfl), ?_⟩
    refine bcase_mk (fun hc97 => ?_) (fun hc97 => ?_)
    · have H := (bcase_iff.1 H).1 hc97
      refine ⟨_, (O6.at 0 rfl rfl), ?_⟩
      refine ⟨_, (O6.at 1 rfl rfl), ?_⟩
      refine ⟨_, _, _, (O6.at 2 rfl rfl), ?_⟩
      obtain ⟨hp85, H⟩ := H
      obtain ⟨r83, hr84⟩ : ∃ r_, r_ = M.spec_l10Step xs0 (⟨i73, i74, xs75⟩ : D.Lane) := ⟨_, rfl⟩
      have H := H r83 hr84
      refine (spec_l10Step.con hp85 hr84 (R0.ext hB) hc0 O8.row O8.le).mono ?_
      rintro _ w86 ⟨A88, c89, rfl, P9, e87⟩
      have N9_4 := P9.apart_old O4.lt
      have N9_6 := P9.apart_old O6.lt
      have N8_9 := Own.apart2_new O8 P9 (Nat.le_refl _)
      have O4 := O4.ext e87
      have O6 := O6.ext e87
      have O8 := O8.ext e87
      have O9 := P9.mono hB.size
      have hB := ethen hB e87
      refine ⟨r83.Thread, trivial, ?_⟩
      refine ⟨r83.Pc, trivial, ?_⟩
      refine ⟨A88, r83.Regs.length, c89, trivial, ?_⟩
      refine ⟨rfl, ?_⟩
      refine stBlk O6 (o := 0) (cs' := #[(.int .i64 r83.Thread), (.int .i64 r83.Pc), (.slice A88 r83.Regs.length c89)]) rfl rfl (Nat.le_of_ble_eq_true rfl) rfl (fun w90 P6 e91 => ?_)
      have O4_ := O4.chg e91 N4_6
      have O8_ := O8.chg e91 (O8.apart_type O6 (by decide))
      have O9_ := O9.chg e91 N9_6
      have O4 := O4_
      have O8 := O8_
      have O9 := O9_
      have hB := echg hB e91 L6
      have O6 := P6
      obtain ⟨m92, hm93, hJ94⟩ := H
      exact ⟨m92, hm93, (IntKind.wrap .i64 (i72 + 1)), r83.Thread, r83.Pc, r83.Regs, A88, c89, rfl, hJ94, hB, O6, O9, O4⟩
    have H := (bcase_iff.1 H).2 hc97
    refine ⟨_, (O6.at 0 rfl rfl), ?_⟩
    refine ⟨_, (O6.at 1 rfl rfl), ?_⟩
    refine ⟨_, _, _, (O6.at 2 rfl rfl), ?_⟩
    refine stBlk O4 (o := 0) (cs' := #[(.int .i64 i73), (.int .i64 i74), (.slice A76 xs75.length c77)]) rfl rfl (Nat.le_of_ble_eq_true rfl) rfl (fun w95 P4 e96 => ?_)
    have O6_ := O6.chg e96 (N4_6).symm
    have O8_ := O8.chg e96 (O8.apart_type O4 (by decide))
    have O6 := O6_
    have O8 := O8_
    have hB := echg hB e96 L4
    have O4 := P4
    refine ⟨_, (O4.at 0 rfl rfl), ?_⟩
    refine ⟨_, (O4.at 1 rfl rfl), ?_⟩
    refine ⟨_, _, _, (O4.at 2 rfl rfl), ?_⟩
    obtain rfl := hr.trans H.symm
    exact ⟨A76, c77, rfl, O8, hB⟩
  have H := (bcase_iff.1 H).2 hc100
  refine ⟨_, (O6.at 0 rfl rfl), ?_⟩
  refine ⟨_, (O6.at 1 rfl rfl), ?_⟩
  refine ⟨_, _, _, (O6.at 2 rfl rfl), ?_⟩
  refine stBlk O4 (o := 0) (cs' := #[(.int .i64 i73), (.int .i64 i74), (.slice A76 xs75.length c77)]) rfl rfl (Nat.le_of_ble_eq_true rfl) rfl (fun w98 P4 e99 => ?_)
  have O6_ := O6.chg e99 (N4_6).symm
  have O8_ := O8.chg e99 (O8.apart_type O4 (by decide))
  have O6 := O6_
  have O8 := O8_
  have hB := echg hB e99 L4
  have O4 := P4
  refine ⟨_, (O4.at 0 rfl rfl), ?_⟩
  refine ⟨_, (O4.at 1 rfl rfl), ?_⟩
  refine ⟨_, _, _, (O4.at 2 rfl rfl), ?_⟩
  obtain rfl := hr.trans H.symm
  exact ⟨A76, c77, rfl, O8, hB⟩
def impl_isThread.vc (x0 : Int) (w : World) (K : Value → World → Prop) : Prop :=
  Cll Tryz.prog 75 #[(.int .i64 x0), (.int .i64 0), (.int .i64 23)] w fun v21 w22 => (∃ (b23 : Bool), v21 = (.bool b23) ∧ K (.bool b23) w22)

def impl_isThread.ann : Ann := (.seq .l (.seq .l .l))

theorem impl_isThread.start {x0 : Int} {w : World} {K : Value → World → Prop} (h : impl_isThread.vc x0 w K) : Cll Tryz.prog 157 #[(.int .i64 x0)] w K :=
  vcF_sound mixed (fn := Tryz.f157) (by kernel_rfl) (by kernel_rfl) (an := impl_isThread.ann) (args := [(.int .i64 x0)]) (Eq.mpr (by kernel_rfl) h)

theorem impl_isThread.con {x0 : Int} {r : Bool} {w : World} (hr : r = M.impl_isThread x0)  :
    Cll Tryz.prog 157 #[(.int .i64 x0)] w (fun v_ w_ => v_ = (.bool r) ∧ Ext w w_) := by
  have H := wp.impl_isThread.math x0
  have hB := Ext.refl w
  refine impl_isThread.start ?_
  unfold impl_isThread.vc
  unfold wp.impl_isThread at H
  obtain ⟨r21, hr22⟩ : ∃ r_, r_ = M.impl_within x0 0 23 := ⟨_, rfl⟩
  have H := H r21 hr22
  refine (impl_within.con hr22 ).mono ?_
  rintro _ w24 ⟨rfl, e25⟩
  have hB := ethen hB e25
  refine ⟨r21, rfl, ?_⟩
  obtain rfl := hr.trans H.symm
  exact ⟨rfl, hB⟩
def impl_LaneNew.vc (x0 : Int) (w : World) (K : Value → World → Prop) : Prop :=
  newK w (.cells #[(.int .i64 0), (.int .i64 0), (.slice none 0 0)] 144) fun g21 w22 => Cll Tryz.prog 157 #[(.int .i64 x0)] w22 fun v23 w24 => (∃ (b25 : Bool), v23 = (.bool b25) ∧ bcase (!b25) (stCells (⟨g21, 0, none⟩ : Addr) [(.int .i64 0), (.int .i64 0), (.slice none 0 0)] 0 w24 fun w26 => ∃ (n27 : Int), w26.cell? ((⟨g21, 0, none⟩ : Addr).add 0) = some (.int .i64 n27) ∧ ∃ (n28 : Int), w26.cell? ((⟨g21, 0, none⟩ : Addr).add 1) = some (.int .i64 n28) ∧ ∃ (A29 : Option Addr) (n30 : Nat) (c31 : Nat), w26.cell? ((⟨g21, 0, none⟩ : Addr).add 2) = some (.slice A29 n30 c31) ∧ K (.agg #[(.int .i64 n27), (.int .i64 n28), (.slice A29 n30 c31)]) w26) (vcMake Tryz.prog 24 4 4 w24 fun g32 w33 => stCells (⟨g21, 0, none⟩ : Addr) [(.int .i64 x0), (.int .i64 0), (.slice (some (⟨g32, 0, none⟩ : Addr)) ((4 : Int).toNat) ((4 : Int).toNat))] 0 w33 fun w34 => ∃ (n35 : Int), w34.cell? ((⟨g21, 0, none⟩ : Addr).add 0) = some (.int .i64 n35) ∧ ∃ (n36 : Int), w34.cell? ((⟨g21, 0, none⟩ : Addr).add 1) = some (.int .i64 n36) ∧ ∃ (A37 : Option Addr) (n38 : Nat) (c39 : Nat), w34.cell? ((⟨g21, 0, none⟩ : Addr).add 2) = some (.slice A37 n38 c39) ∧ K (.agg #[(.int .i64 n35), (.int .i64 n36), (.slice A37 n38 c39)]) w34))

def impl_LaneNew.ann : Ann := (.seq .l (.seq (.seq .l (.two (.seq .l .l) .l)) (.seq .l .l)))

theorem impl_LaneNew.start {x0 : Int} {w : World} {K : Value → World → Prop} (h : impl_LaneNew.vc x0 w K) : Cll Tryz.prog 247 #[(.int .i64 x0)] w K :=
  vcF_sound mixed (fn := Tryz.f247) (by kernel_rfl) (by kernel_rfl) (an := impl_LaneNew.ann) (args := [(.int .i64 x0)]) (Eq.mpr (by kernel_rfl) h)

theorem impl_LaneNew.con {x0 : Int} {r : D.Lane} {w : World} (hr : r = M.impl_LaneNew x0)  :
    Cll Tryz.prog 247 #[(.int .i64 x0)] w (fun v_ w_ => ∃ (A0_ : Option Addr) (c0_ : Nat), v_ = (.agg #[(.int .i64 r.Thread), (.int .i64 r.Pc), (.slice A0_ r.Regs.length c0_)]) ∧ Own el3 w_ w.heap.size A0_ c0_ r.Regs ∧ Ext w w_) := by
  have H := wp.impl_LaneNew.math x0
  have hB := Ext.refl w
  refine impl_LaneNew.start ?_
  unfold impl_LaneNew.vc
  unfold wp.impl_LaneNew at H
  refine newBlk (fun g1_ w21 L1 P1 e22 => ?_)
  have O1 := P1
  have L1 := Nat.le_trans hB.size L1
  have hB := ethen hB e22
  obtain ⟨r23, hr24⟩ : ∃ r_, r_ = M.impl_isThread x0 := ⟨_, rfl⟩
  have H := H r23 hr24
  refine (impl_isThread.con hr24 ).mono ?_
  rintro _ w26 ⟨rfl, e27⟩
  have O1 := O1.ext e27
  have hB := ethen hB e27
  refine ⟨r23, rfl, ?_⟩
  refine bcase_mk (fun hc37 => ?_) (fun hc37 => ?_)
  · have H := (bcase_iff.1 H).1 hc37
    refine stBlk O1 (o := 0) (cs' := #[(.int .i64 0), (.int .i64 0), (.slice none 0 0)]) rfl rfl (Nat.le_of_ble_eq_true rfl) rfl (fun w28 P1 e29 => ?_)
    have hB := echg hB e29 L1
    have O1 := P1
    refine ⟨_, (O1.at 0 rfl rfl), ?_⟩
    refine ⟨_, (O1.at 1 rfl rfl), ?_⟩
    refine ⟨_, _, _, (O1.at 2 rfl rfl), ?_⟩
    obtain rfl := hr.trans H.symm
    exact ⟨none, 0, rfl, Own.nil, hB⟩
  have H := (bcase_iff.1 H).2 hc37
  obtain ⟨⟨h0_33, h1_34⟩, H⟩ := H
  refine makeOwn slt24 h0_33 h1_34 (fun g30 w31 P2 e32 => ?_)
  have N2_1 := P2.apart_old O1.lt
  have O1 := O1.ext e32
  have O2 := P2.mono hB.size
  have hB := ethen hB e32
  refine stBlk O1 (o := 0) (cs' := #[(.int .i64 x0), (.int .i64 0), (.slice (some (⟨g30, 0, none⟩ : Addr)) ((4 : Int).toNat) ((4 : Int).toNat))]) rfl rfl (Nat.le_of_ble_eq_true rfl) rfl (fun w35 P1 e36 => ?_)
  have O2_ := O2.chg e36 N2_1
  have O2 := O2_
  have hB := echg hB e36 L1
  have O1 := P1
  refine ⟨_, (O1.at 0 rfl rfl), ?_⟩
  refine ⟨_, (O1.at 1 rfl rfl), ?_⟩
  refine ⟨_, _, _, (O1.at 2 rfl rfl), ?_⟩
  obtain rfl := hr.trans H.symm
  exact ⟨(some (⟨g30, 0, none⟩ : Addr)), ((4 : Int).toNat), (by first | rfl | (simp; done) | (simp; omega) | (simp [*]; done)), (by first | exact O2 | (simp only [List.length_set]; exact O2)), hB⟩
def slices_Clone_int_int.vc (A0 : Option Addr) (n0 : Nat) (c0 : Nat) (w : World) (K : Value → World → Prop) : Prop :=
  bcase (Option.isNone A0) (K (.slice none 0 0) w) (Run Tryz.prog (Instr.buildSlice 24 0 #[]) w fun v21 w22 => ∃ (A23 : Option Addr) (n24 c25 : Nat), v21 = .slice A23 n24 c25 ∧ Run Tryz.prog (Builtin.append_ #[24, 24] 24 #[(.slice A23 n24 c25), (.slice A0 n0 c0)]) w22 fun v26 w27 => ∃ (A28 : Option Addr) (n29 c30 : Nat), v26 = .slice A28 n29 c30 ∧ K (.slice A28 n29 c30) w27)

def slices_Clone_int_int.ann : Ann := (.seq .l (.seq (.seq .l (.two (.seq .l .l) .l)) (.seq .l .l)))

theorem slices_Clone_int_int.start {A0 : Option Addr} {n0 : Nat} {c0 : Nat} {w : World} {K : Value → World → Prop} (h : slices_Clone_int_int.vc A0 n0 c0 w K) : Cll Tryz.prog 128 #[(.slice A0 n0 c0)] w K :=
  vcF_sound mixed (fn := Tryz.f128) (by kernel_rfl) (by kernel_rfl) (an := slices_Clone_int_int.ann) (args := [(.slice A0 n0 c0)]) (Eq.mpr (by kernel_rfl) h)

theorem slices_Clone_int_int.con {xs0 : List Int} {A0 : Option Addr} {c0 : Nat} {r : List Int} {w : World} (hp : M.slices_Clone_int_int_pre xs0) (hr : r = M.slices_Clone_int_int xs0) (R0 : Row el3 w A0 xs0) (hc0 : xs0.length ≤ c0) :
    Cll Tryz.prog 128 #[(.slice A0 xs0.length c0)] w (fun v_ w_ => ∃ (A0_ : Option Addr) (c0_ : Nat), v_ = (.slice A0_ r.length c0_) ∧ Own el3 w_ w.heap.size A0_ c0_ r ∧ Ext w w_) := by
  have H := wp.slices_Clone_int_int.math xs0 hp
  have hB := Ext.refl w
  refine slices_Clone_int_int.start ?_
  unfold slices_Clone_int_int.vc
  unfold wp.slices_Clone_int_int at H
  obtain ⟨b21, hb22⟩ : ∃ b_, b_ = Option.isNone A0 := ⟨_, rfl⟩
  have H := H b21 (fun h_ => Row.isNone (R0.ext hB) (hb22.symm.trans h_))
  rw [← hb22]
  refine bcase_mk (fun hc31 => ?_) (fun hc31 => ?_)
  · have H := (bcase_iff.1 H).1 hc31
    obtain rfl := hr.trans H.symm
    exact ⟨none, 0, rfl, Own.nil, hB⟩
  have H := (bcase_iff.1 H).2 hc31
  refine buildOwn el3 ([] : List Int) (fun _ => by kernel_rfl) rfl (fun A23 w24 P2 e25 => ?_)
  have O2 := P2.mono hB.size
  have hB := ethen hB e25
  obtain ⟨hl30, H⟩ := H
  refine appOwn slt24 slt24.under O2 (R0.ext hB) hB.size (by first | rfl | omega | (simp; done) | (simp; omega)) rfl hl30 (fun A26 c27 w28 P2 e29 => ?_)
  have hB := eapp hB e29 O2
  have O2 := P2
  obtain rfl := hr.trans H.symm
  exact ⟨A26, c27, rfl, O2, hB⟩
def impl_copyLane.vc (x0_0 : Int) (x0_1 : Int) (A0_2 : Option Addr) (n0_2 : Nat) (c0_2 : Nat) (w : World) (K : Value → World → Prop) : Prop :=
  newK w (.cells #[(.int .i64 x0_0), (.int .i64 x0_1), (.slice A0_2 n0_2 c0_2)] 144) fun g21 w22 => newK w22 (.cells #[(.int .i64 0), (.int .i64 0), (.slice none 0 0)] 144) fun g23 w24 => ∃ (A25 : Option Addr) (n26 : Nat) (c27 : Nat), w24.cell? (((⟨g21, 0, none⟩ : Addr).add 2).add 0) = some (.slice A25 n26 c27) ∧ Cll Tryz.prog 128 #[(.slice A25 n26 c27)] w24 fun v28 w29 => (∃ (A30 : Option Addr) (n31 : Nat) (c32 : Nat), v28 = (.slice A30 n31 c32) ∧ stCells ((⟨g21, 0, none⟩ : Addr).add 2) [(.slice A30 n31 c32)] 0 w29 fun w33 => ∃ (n34 : Int), w33.cell? ((⟨g21, 0, none⟩ : Addr).add 0) = some (.int .i64 n34) ∧ ∃ (n35 : Int), w33.cell? ((⟨g21, 0, none⟩ : Addr).add 1) = some (.int .i64 n35) ∧ ∃ (A36 : Option Addr) (n37 : Nat) (c38 : Nat), w33.cell? ((⟨g21, 0, none⟩ : Addr).add 2) = some (.slice A36 n37 c38) ∧ stCells (⟨g23, 0, none⟩ : Addr) [(.int .i64 n34), (.int .i64 n35), (.slice A36 n37 c38)] 0 w33 fun w39 => ∃ (n40 : Int), w39.cell? ((⟨g23, 0, none⟩ : Addr).add 0) = some (.int .i64 n40) ∧ ∃ (n41 : Int), w39.cell? ((⟨g23, 0, none⟩ : Addr).add 1) = some (.int .i64 n41) ∧ ∃ (A42 : Option Addr) (n43 : Nat) (c44 : Nat), w39.cell? ((⟨g23, 0, none⟩ : Addr).add 2) = some (.slice A42 n43 c44) ∧ K (.agg #[(.int .i64 n40), (.int .i64 n41), (.slice A42 n43 c44)]) w39)

def impl_copyLane.ann : Ann := (.seq .l (.seq .l (.seq .l .l)))

theorem impl_copyLane.start {x0_0 : Int} {x0_1 : Int} {A0_2 : Option Addr} {n0_2 : Nat} {c0_2 : Nat} {w : World} {K : Value → World → Prop} (h : impl_copyLane.vc x0_0 x0_1 A0_2 n0_2 c0_2 w K) : Cll Tryz.prog 278 #[(.agg #[(.int .i64 x0_0), (.int .i64 x0_1), (.slice A0_2 n0_2 c0_2)])] w K :=
  vcF_sound mixed (fn := Tryz.f278) (by kernel_rfl) (by kernel_rfl) (an := impl_copyLane.ann) (args := [(.agg #[(.int .i64 x0_0), (.int .i64 x0_1), (.slice A0_2 n0_2 c0_2)])]) (Eq.mpr (by kernel_rfl) h)

theorem impl_copyLane.con {s0 : D.Lane} {A0_2 : Option Addr} {c0_2 : Nat} {r : D.Lane} {w : World} (hp : M.impl_copyLane_pre s0) (hr : r = M.impl_copyLane s0) (R0_2 : Row el3 w A0_2 s0.Regs) (hc0_2 : s0.Regs.length ≤ c0_2) :
    Cll Tryz.prog 278 #[(.agg #[(.int .i64 s0.Thread), (.int .i64 s0.Pc), (.slice A0_2 s0.Regs.length c0_2)])] w (fun v_ w_ => ∃ (A0_ : Option Addr) (c0_ : Nat), v_ = (.agg #[(.int .i64 r.Thread), (.int .i64 r.Pc), (.slice A0_ r.Regs.length c0_)]) ∧ Own el3 w_ w.heap.size A0_ c0_ r.Regs ∧ Ext w w_) := by
  have H := wp.impl_copyLane.math s0 hp
  have hB := Ext.refl w
  refine impl_copyLane.start ?_
  unfold impl_copyLane.vc
  unfold wp.impl_copyLane at H
  refine newBlk (fun g2_ w21 L2 P2 e22 => ?_)
  have O2 := P2
  have L2 := Nat.le_trans hB.size L2
  have hB := ethen hB e22
  refine newBlk (fun g3_ w23 L3 P3 e24 => ?_)
  have N2_3 := O2.ne L3
  have O2 := O2.ext e24
  have O3 := P3
  have L3 := Nat.le_trans hB.size L3
  have hB := ethen hB e24
  refine ⟨_, _, _, (O2.at 2 rfl rfl), ?_⟩
  obtain ⟨hp27, H⟩ := H
  obtain ⟨r25, hr26⟩ : ∃ r_, r_ = M.slices_Clone_int_int s0.Regs := ⟨_, rfl⟩
  have H := H r25 hr26
  refine (slices_Clone_int_int.con hp27 hr26 (R0_2.ext hB) hc0_2).mono ?_
  rintro _ w28 ⟨A30, c31, rfl, P4, e29⟩
  have N4_2 := P4.apart_old O2.lt
  have N4_3 := P4.apart_old O3.lt
  have O2 := O2.ext e29
  have O3 := O3.ext e29
  have O4 := P4.mono hB.size
  have hB := ethen hB e29
  refine ⟨A30, r25.length, c31, rfl, ?_⟩
  refine stBlk O2 (o := 2) (cs' := #[(.int .i64 s0.Thread), (.int .i64 s0.Pc), (.slice A30 r25.length c31)]) rfl rfl (Nat.le_of_ble_eq_true rfl) rfl (fun w32 P2 e33 => ?_)
  have O3_ := O3.chg e33 (N2_3).symm
  have O4_ := O4.chg e33 N4_2
  have O3 := O3_
  have O4 := O4_
  have hB := echg hB e33 L2
  have O2 := P2
  refine ⟨_, (O2.at 0 rfl rfl), ?_⟩
  refine ⟨_, (O2.at 1 rfl rfl), ?_⟩
  refine ⟨_, _, _, (O2.at 2 rfl rfl), ?_⟩
  refine stBlk O3 (o := 0) (cs' := #[(.int .i64 s0.Thread), (.int .i64 s0.Pc), (.slice A30 r25.length c31)]) rfl rfl (Nat.le_of_ble_eq_true rfl) rfl (fun w34 P3 e35 => ?_)
  have O2_ := O2.chg e35 N2_3
  have O4_ := O4.chg e35 N4_3
  have O2 := O2_
  have O4 := O4_
  have hB := echg hB e35 L3
  have O3 := P3
  refine ⟨_, (O3.at 0 rfl rfl), ?_⟩
  refine ⟨_, (O3.at 1 rfl rfl), ?_⟩
  refine ⟨_, _, _, (O3.at 2 rfl rfl), ?_⟩
  obtain rfl := hr.trans H.symm
  exact ⟨A30, c31, rfl, O4, hB⟩
def impl_formOf.vc (x0 : Int) (w : World) (K : Value → World → Prop) : Prop :=
  Cll Tryz.prog 75 #[(.int .i64 x0), (.int .i64 0), (.int .i64 16)] w fun v21 w22 => (∃ (b23 : Bool), v21 = (.bool b23) ∧ bcase (!b23) (K (.string (⟨#[]⟩)) w22) (Run Tryz.prog (Instr.buildSlice 210 17 #[(0, (.string (⟨#[45, 45, 45]⟩))), (1, (.string (⟨#[82, 87, 45]⟩))), (2, (.string (⟨#[82, 82, 45]⟩))), (3, (.string (⟨#[82, 82, 82]⟩))), (4, (.string (⟨#[82, 82, 82]⟩))), (5, (.string (⟨#[82, 82, 82]⟩))), (6, (.string (⟨#[82, 82, 82]⟩))), (7, (.string (⟨#[82, 82, 82]⟩))), (8, (.string (⟨#[82, 45, 45]⟩))), (9, (.string (⟨#[82, 82, 82]⟩))), (10, (.string (⟨#[82, 84, 45]⟩))), (11, (.string (⟨#[45, 84, 45]⟩))), (12, (.string (⟨#[45, 45, 45]⟩))), (13, (.string (⟨#[82, 82, 45]⟩))), (14, (.string (⟨#[82, 82, 45]⟩))), (15, (.string (⟨#[82, 82, 45]⟩))), (16, (.string (⟨#[45, 45, 45]⟩)))]) w22 fun v24 w25 => ∃ (A26 : Option Addr) (n27 c28 : Nat), v24 = .slice A26 n27 c28 ∧ ((0 : Int) ≤ x0 ∧ x0 < ((n27 : Nat) : Int) ∧ ∃ a29 : Addr, A26 = some a29 ∧ ∃ (s30 : ByteArray), w25.cell? ((a29.add ((x0.toNat) * 1)).add 0) = some (.string s30) ∧ K (.string s30) w25)))

def impl_formOf.ann : Ann := (.seq .l (.seq (.seq .l (.two (.seq .l .l) .l)) (.seq .l .l)))

theorem impl_formOf.start {x0 : Int} {w : World} {K : Value → World → Prop} (h : impl_formOf.vc x0 w K) : Cll Tryz.prog 223 #[(.int .i64 x0)] w K :=
  vcF_sound mixed (fn := Tryz.f223) (by kernel_rfl) (by kernel_rfl) (an := impl_formOf.ann) (args := [(.int .i64 x0)]) (Eq.mpr (by kernel_rfl) h)

theorem impl_formOf.con {x0 : Int} {r : ByteArray} {w : World} (hr : r = M.impl_formOf x0)  :
    Cll Tryz.prog 223 #[(.int .i64 x0)] w (fun v_ w_ => v_ = (.string r) ∧ Ext w w_) := by
  have H := wp.impl_formOf.math x0
  have hB := Ext.refl w
  refine impl_formOf.start ?_
  unfold impl_formOf.vc
  unfold wp.impl_formOf at H
  obtain ⟨r21, hr22⟩ : ∃ r_, r_ = M.impl_within x0 0 16 := ⟨_, rfl⟩
  have H := H r21 hr22
  refine (impl_within.con hr22 ).mono ?_
  rintro _ w24 ⟨rfl, e25⟩
  have hB := ethen hB e25
  refine ⟨r21, rfl, ?_⟩
  refine bcase_mk (fun hc34 => ?_) (fun hc34 => ?_)
  · have H := (bcase_iff.1 H).1 hc34
    obtain rfl := hr.trans H.symm
    exact ⟨rfl, hB⟩
  have H := (bcase_iff.1 H).2 hc34
  refine buildOwn el9 ([⟨#[45, 45, 45]⟩, ⟨#[82, 87, 45]⟩, ⟨#[82, 82, 45]⟩, ⟨#[82, 82, 82]⟩, ⟨#[82, 82, 82]⟩, ⟨#[82, 82, 82]⟩, ⟨#[82, 82, 82]⟩, ⟨#[82, 82, 82]⟩, ⟨#[82, 45, 45]⟩, ⟨#[82, 82, 82]⟩, ⟨#[82, 84, 45]⟩, ⟨#[45, 84, 45]⟩, ⟨#[45, 45, 45]⟩, ⟨#[82, 82, 45]⟩, ⟨#[82, 82, 45]⟩, ⟨#[82, 82, 45]⟩, ⟨#[45, 45, 45]⟩] : List ByteArray) (fun _ => by kernel_rfl) rfl (fun A26 w27 P1 e28 => ?_)
  have O1 := P1.mono hB.size
  have hB := ethen hB e28
  obtain ⟨⟨h0_32, h1_33⟩, H⟩ := H
  obtain ⟨a30, ha31, hat29⟩ := Row.at O1.row h0_32 h1_33
  refine ⟨h0_32, (by first | exact h1_33 | omega | (simp at h1_33 ⊢; omega)), a30, ha31, ?_⟩
  refine ⟨_, (hat29 0 _ rfl), ?_⟩
  obtain rfl := hr.trans H.symm
  exact ⟨rfl, hB⟩
def impl_isReg.vc (x0 : Int) (w : World) (K : Value → World → Prop) : Prop :=
  Cll Tryz.prog 75 #[(.int .i64 x0), (.int .i64 0), (.int .i64 3)] w fun v21 w22 => (∃ (b23 : Bool), v21 = (.bool b23) ∧ K (.bool b23) w22)

def impl_isReg.ann : Ann := (.seq .l (.seq .l .l))

theorem impl_isReg.start {x0 : Int} {w : World} {K : Value → World → Prop} (h : impl_isReg.vc x0 w K) : Cll Tryz.prog 264 #[(.int .i64 x0)] w K :=
  vcF_sound mixed (fn := Tryz.f264) (by kernel_rfl) (by kernel_rfl) (an := impl_isReg.ann) (args := [(.int .i64 x0)]) (Eq.mpr (by kernel_rfl) h)

theorem impl_isReg.con {x0 : Int} {r : Bool} {w : World} (hr : r = M.impl_isReg x0)  :
    Cll Tryz.prog 264 #[(.int .i64 x0)] w (fun v_ w_ => v_ = (.bool r) ∧ Ext w w_) := by
  have H := wp.impl_isReg.math x0
  have hB := Ext.refl w
  refine impl_isReg.start ?_
  unfold impl_isReg.vc
  unfold wp.impl_isReg at H
  obtain ⟨r21, hr22⟩ : ∃ r_, r_ = M.impl_within x0 0 3 := ⟨_, rfl⟩
  have H := H r21 hr22
  refine (impl_within.con hr22 ).mono ?_
  rintro _ w24 ⟨rfl, e25⟩
  have hB := ethen hB e25
  refine ⟨r21, rfl, ?_⟩
  obtain rfl := hr.trans H.symm
  exact ⟨rfl, hB⟩
def impl_isField.vc (x0 : Int) (x1 : Int) (x2 : Int) (w : World) (K : Value → World → Prop) : Prop :=
  bcase (x0 == 82) (Cll Tryz.prog 264 #[(.int .i64 x1)] w fun v21 w22 => (∃ (b23 : Bool), v21 = (.bool b23) ∧ K (.bool b23) w22)) (bcase (x0 == 87) (Cll Tryz.prog 227 #[(.int .i64 x1)] w fun v24 w25 => (∃ (b26 : Bool), v24 = (.bool b26) ∧ K (.bool b26) w25)) (bcase (x0 == 84) (Cll Tryz.prog 75 #[(.int .i64 x1), (.int .i64 0), (.int .i64 x2)] w fun v27 w28 => (∃ (b29 : Bool), v27 = (.bool b29) ∧ K (.bool b29) w28)) (K (.bool (x1 == 0)) w)))

def impl_isField.ann : Ann := (.seq .l (.seq (.seq .l (.one (.seq .l (.two (.seq .l .l) (.seq .l (.two (.seq .l .l) (.seq .l (.two (.seq .l .l) .l)))))))) (.seq .l .l)))

theorem impl_isField.start {x0 : Int} {x1 : Int} {x2 : Int} {w : World} {K : Value → World → Prop} (h : impl_isField.vc x0 x1 x2 w K) : Cll Tryz.prog 224 #[(.int .u8 x0), (.int .i64 x1), (.int .i64 x2)] w K :=
  vcF_sound mixed (fn := Tryz.f224) (by kernel_rfl) (by kernel_rfl) (an := impl_isField.ann) (args := [(.int .u8 x0), (.int .i64 x1), (.int .i64 x2)]) (Eq.mpr (by kernel_rfl) h)

theorem impl_isField.con {x0 : Int} {x1 : Int} {x2 : Int} {r : Bool} {w : World} (hp : M.impl_isField_pre x0 x1 x2) (hr : r = M.impl_isField x0 x1 x2)  :
    Cll Tryz.prog 224 #[(.int .u8 x0), (.int .i64 x1), (.int .i64 x2)] w (fun v_ w_ => v_ = (.bool r) ∧ Ext w w_) := by
  have H := wp.impl_isField.math x0 x1 x2 hp
  have hB := Ext.refl w
  refine impl_isField.start ?_
  unfold impl_isField.vc
  unfold wp.impl_isField at H
  refine bcase_mk (fun hc38 => ?_) (fun hc38 => ?_)
  · have H := (bcase_iff.1 H).1 hc38
    obtain ⟨r21, hr22⟩ : ∃ r_, r_ = M.impl_isReg x1 := ⟨_, rfl⟩
    have H := H r21 hr22
    refine (impl_isReg.con hr22 ).mono ?_
    rintro _ w24 ⟨rfl, e25⟩
    have hB := ethen hB e25
    refine ⟨r21, rfl, ?_⟩
    obtain rfl := hr.trans H.symm
    exact ⟨rfl, hB⟩
  have H := (bcase_iff.1 H).2 hc38
  refine bcase_mk (fun hc37 => ?_) (fun hc37 => ?_)
  · have H := (bcase_iff.1 H).1 hc37
    obtain ⟨r26, hr27⟩ : ∃ r_, r_ = M.impl_IsWord x1 := ⟨_, rfl⟩
    have H := H r26 hr27
    refine (impl_IsWord.con hr27 ).mono ?_
    rintro _ w29 ⟨rfl, e30⟩
    have hB := ethen hB e30
    refine ⟨r26, rfl, ?_⟩
    obtain rfl := hr.trans H.symm
    exact ⟨rfl, hB⟩
  have H := (bcase_iff.1 H).2 hc37
  refine bcase_mk (fun hc36 => ?_) (fun hc36 => ?_)
  · have H := (bcase_iff.1 H).1 hc36
    obtain ⟨r31, hr32⟩ : ∃ r_, r_ = M.impl_within x1 0 x2 := ⟨_, rfl⟩
    have H := H r31 hr32
    refine (impl_within.con hr32 ).mono ?_
    rintro _ w34 ⟨rfl, e35⟩
    have hB := ethen hB e35
    refine ⟨r31, rfl, ?_⟩
    obtain rfl := hr.trans H.symm
    exact ⟨rfl, hB⟩
  have H := (bcase_iff.1 H).2 hc36
  obtain rfl := hr.trans H.symm
  exact ⟨rfl, hB⟩
def impl_InsOk.vc (x0_0 : Int) (x0_1 : Int) (x0_2 : Int) (x0_3 : Int) (x1 : Int) (w : World) (K : Value → World → Prop) : Prop :=
  newK w (.cells #[(.int .i64 x0_0), (.int .i64 x0_1), (.int .i64 x0_2), (.int .i64 x0_3)] 89) fun g21 w22 => ∃ (n23 : Int), w22.cell? (((⟨g21, 0, none⟩ : Addr).add 0).add 0) = some (.int .i64 n23) ∧ Cll Tryz.prog 223 #[(.int .i64 n23)] w22 fun v24 w25 => (∃ (s26 : ByteArray), v24 = (.string s26) ∧ bcase (!(ByteArray.toList s26 == ByteArray.toList (⟨#[]⟩))) (((Cll Tryz.prog 75 #[(.int .i64 x1), (.int .i64 0), (.int .i64 32)] w25.drew fun v27 w28 => (∃ (b29 : Bool), v27 = (.bool b29) ∧ bcase b29 (((0 : Int) ≤ 0 ∧ ∃ y30 : UInt8, (s26 : ByteArray)[((0 : Int).toNat)]? = some y30 ∧ ((∃ (n31 : Int), w28.cell? (((⟨g21, 0, none⟩ : Addr).add 1).add 0) = some (.int .i64 n31) ∧ ((Cll Tryz.prog 224 #[(.int .u8 ((y30.toNat : Nat) : Int)), (.int .i64 n31), (.int .i64 x1)] w28 fun v32 w33 => (∃ (b34 : Bool), v32 = (.bool b34) ∧ bcase b34 (((0 : Int) ≤ 1 ∧ ∃ y35 : UInt8, (s26 : ByteArray)[((1 : Int).toNat)]? = some y35 ∧ ((∃ (n36 : Int), w33.cell? (((⟨g21, 0, none⟩ : Addr).add 2).add 0) = some (.int .i64 n36) ∧ ((Cll Tryz.prog 224 #[(.int .u8 ((y35.toNat : Nat) : Int)), (.int .i64 n36), (.int .i64 x1)] w33 fun v37 w38 => (∃ (b39 : Bool), v37 = (.bool b39) ∧ bcase b39 (((0 : Int) ≤ 2 ∧ ∃ y40 : UInt8, (s26 : ByteArray)[((2 : Int).toNat)]? = some y40 ∧ ((∃ (n41 : Int), w38.cell? (((⟨g21, 0, none⟩ : Addr).add 3).add 0) = some (.int .i64 n41) ∧ ((Cll Tryz.prog 224 #[(.int .u8 ((y40.toNat : Nat) : Int)), (.int .i64 n41), (.int .i64 x1)] w38 fun v42 w43 => (∃ (b44 : Bool), v42 = (.bool b44) ∧ K (.bool b44) w43)) ∧ True)) ∧ True))) (((((K (.bool false) w38) ∧ True)) ∧ True)))) ∧ True)) ∧ True))) (((((((((K (.bool false) w33) ∧ True)) ∧ True)) ∧ True)) ∧ True)))) ∧ True)) ∧ True))) (((((((((((((K (.bool false) w28) ∧ True)) ∧ True)) ∧ True)) ∧ True)) ∧ True)) ∧ True)))) ∧ True)) (((((((((((((((K (.bool false) w25.drew) ∧ True)) ∧ True)) ∧ True)) ∧ True)) ∧ True)) ∧ True)) ∧ True)))

def impl_InsOk.ann : Ann := (.seq .l (.seq .l (.seq .each .l)))

theorem impl_InsOk.start {x0_0 : Int} {x0_1 : Int} {x0_2 : Int} {x0_3 : Int} {x1 : Int} {w : World} {K : Value → World → Prop} (h : impl_InsOk.vc x0_0 x0_1 x0_2 x0_3 x1 w K) : Cll Tryz.prog 195 #[(.agg #[(.int .i64 x0_0), (.int .i64 x0_1), (.int .i64 x0_2), (.int .i64 x0_3)]), (.int .i64 x1)] w K :=
  vcF_sound mixed (fn := Tryz.f195) (by kernel_rfl) (by kernel_rfl) (an := impl_InsOk.ann) (args := [(.agg #[(.int .i64 x0_0), (.int .i64 x0_1), (.int .i64 x0_2), (.int .i64 x0_3)]), (.int .i64 x1)]) (Eq.mpr (by kernel_rfl) h)

theorem impl_InsOk.con {s0 : D.Ins} {x1 : Int} {r : Bool} {w : World} (hr : r = M.impl_InsOk s0 x1)  :
    Cll Tryz.prog 195 #[(.agg #[(.int .i64 s0.Op), (.int .i64 s0.A), (.int .i64 s0.B), (.int .i64 s0.C)]), (.int .i64 x1)] w (fun v_ w_ => v_ = (.bool r) ∧ Ext w w_) := by
  have H := wp.impl_InsOk.math s0 x1
  have hB := Ext.refl w
  refine impl_InsOk.start ?_
  unfold impl_InsOk.vc
  unfold wp.impl_InsOk at H
  refine newBlk (fun g1_ w21 L1 P1 e22 => ?_)
  have O1 := P1
  have L1 := Nat.le_trans hB.size L1
  have hB := ethen hB e22
  refine ⟨_, (O1.at 0 rfl rfl), ?_⟩
  obtain ⟨r23, hr24⟩ : ∃ r_, r_ = M.impl_formOf s0.Op := ⟨_, rfl⟩
  have H := H r23 hr24
  refine (impl_formOf.con hr24 ).mono ?_
  rintro _ w26 ⟨rfl, e27⟩
  have O1 := O1.ext e27
  have hB := ethen hB e27
  refine ⟨r23, rfl, ?_⟩
  have O1 := O1.ext (Ext.drew _)
  have hB := ethen hB (Ext.drew _)
  refine bcase_mk (fun hc66 => ?_) (fun hc66 => ?_)
  · have H := (bcase_iff.1 H).1 hc66
    refine and_t ?_
    obtain ⟨r28, hr29⟩ : ∃ r_, r_ = M.impl_within x1 0 32 := ⟨_, rfl⟩
    have H := H r28 hr29
    refine (impl_within.con hr29 ).mono ?_
    rintro _ w31 ⟨rfl, e32⟩
    have O1 := O1.ext e32
    have hB := ethen hB e32
    refine ⟨r28, rfl, ?_⟩
    refine bcase_mk (fun hc65 => ?_) (fun hc65 => ?_)
    · have H := (bcase_iff.1 H).1 hc65
      obtain ⟨⟨h0_36, h1_37⟩, H⟩ := H
      obtain ⟨y33, hy34, hyb35⟩ := strAt h0_36 h1_37
      refine ⟨h0_36, y33, hy34, ?_⟩
      rw [hyb35]
      refine and_t ?_
      refine ⟨_, (O1.at 1 rfl rfl), ?_⟩
      refine and_t ?_
      obtain ⟨hp40, H⟩ := H
      obtain ⟨r38, hr39⟩ : ∃ r_, r_ = M.impl_isField (bt r23 0) s0.A x1 := ⟨_, rfl⟩
      have H := H r38 hr39
      refine (impl_isField.con hp40 hr39 ).mono ?_
      rintro _ w41 ⟨rfl, e42⟩
      have O1 := O1.ext e42
      have hB := ethen hB e42
      refine ⟨r38, rfl, ?_⟩
      refine bcase_mk (fun hc64 => ?_) (fun hc64 => ?_)
      · have H := (bcase_iff.1 H).1 hc64
        obtain ⟨⟨h0_46, h1_47⟩, H⟩ := H
        obtain ⟨y43, hy44, hyb45⟩ := strAt h0_46 h1_47
        refine ⟨h0_46, y43, hy44, ?_⟩
        rw [hyb45]
        refine and_t ?_
        refine ⟨_, (O1.at 2 rfl rfl), ?_⟩
        refine and_t ?_
        obtain ⟨hp50, H⟩ := H
        obtain ⟨r48, hr49⟩ : ∃ r_, r_ = M.impl_isField (bt r23 1) s0.B x1 := ⟨_, rfl⟩
        have H := H r48 hr49
        refine (impl_isField.con hp50 hr49 ).mono ?_
        rintro _ w51 ⟨rfl, e52⟩
        have O1 := O1.ext e52
        have hB := ethen hB e52
        refine ⟨r48, rfl, ?_⟩
        refine bcase_mk (fun hc63 => ?_) (fun hc63 => ?_)
        · have H := (bcase_iff.1 H).1 hc63
          obtain ⟨⟨h0_56, h1_57⟩, H⟩ := H
          obtain ⟨y53, hy54, hyb55⟩ := strAt h0_56 h1_57
          refine ⟨h0_56, y53, hy54, ?_⟩
          rw [hyb55]
          refine and_t ?_
          refine ⟨_, (O1.at 3 rfl rfl), ?_⟩
          refine and_t ?_
          obtain ⟨hp60, H⟩ := H
          obtain ⟨r58, hr59⟩ : ∃ r_, r_ = M.impl_isField (bt r23 2) s0.C x1 := ⟨_, rfl⟩
          have H := H r58 hr59
          refine (impl_isField.con hp60 hr59 ).mono ?_
          rintro _ w61 ⟨rfl, e62⟩
          have O1 := O1.ext e62
          have hB := ethen hB e62
          refine ⟨r58, rfl, ?_⟩
          obtain rfl := hr.trans H.symm
          exact ⟨rfl, hB⟩
        have H := (bcase_iff.1 H).2 hc63
        refine and_t ?_
        refine and_t ?_
        obtain rfl := hr.trans H.symm
        exact ⟨rfl, hB⟩
      have H := (bcase_iff.1 H).2 hc64
      refine and_t ?_
      refine and_t ?_
      refine and_t ?_
      refine and_t ?_
      obtain rfl := hr.trans H.symm
      exact ⟨rfl, hB⟩
    have H := (bcase_iff.1 H).2 hc65
    refine and_t ?_
    refine and_t ?_
    refine and_t ?_
    refine and_t ?_
    refine and_t ?_
    refine and_t ?_
    obtain rfl := hr.trans H.symm
    exact ⟨rfl, hB⟩
  have H := (bcase_iff.1 H).2 hc66
  refine and_t ?_
  refine and_t ?_
  refine and_t ?_
  refine and_t ?_
  refine and_t ?_
  refine and_t ?_
  refine and_t ?_
  obtain rfl := hr.trans H.symm
  exact ⟨rfl, hB⟩
def impl_ProgramOk_1.vc (x0_0 : Int) (x0_1 : Int) (x0_2 : Int) (x0_3 : Int) (p1 : Addr) (w : World) (K : Value → World → Prop) : Prop :=
  newK w (.cells #[(.int .i64 x0_0), (.int .i64 x0_1), (.int .i64 x0_2), (.int .i64 x0_3)] 89) fun g21 w22 => ∃ (n23 : Int), w22.cell? ((⟨g21, 0, none⟩ : Addr).add 0) = some (.int .i64 n23) ∧ ∃ (n24 : Int), w22.cell? ((⟨g21, 0, none⟩ : Addr).add 1) = some (.int .i64 n24) ∧ ∃ (n25 : Int), w22.cell? ((⟨g21, 0, none⟩ : Addr).add 2) = some (.int .i64 n25) ∧ ∃ (n26 : Int), w22.cell? ((⟨g21, 0, none⟩ : Addr).add 3) = some (.int .i64 n26) ∧ ∃ (A27 : Option Addr) (n28 : Nat) (c29 : Nat), w22.cell? (p1.add 0) = some (.slice A27 n28 c29) ∧ Cll Tryz.prog 195 #[(.agg #[(.int .i64 n23), (.int .i64 n24), (.int .i64 n25), (.int .i64 n26)]), (.int .i64 ((n28 : Nat) : Int))] w22 fun v30 w31 => (∃ (b32 : Bool), v30 = (.bool b32) ∧ K (.bool (!b32)) w31)

def impl_ProgramOk_1.ann : Ann := (.seq .l (.seq .l .l))

theorem impl_ProgramOk_1.start {x0_0 : Int} {x0_1 : Int} {x0_2 : Int} {x0_3 : Int} {p1 : Addr} {w : World} {K : Value → World → Prop} (h : impl_ProgramOk_1.vc x0_0 x0_1 x0_2 x0_3 p1 w K) : Cll Tryz.prog 194 #[(.agg #[(.int .i64 x0_0), (.int .i64 x0_1), (.int .i64 x0_2), (.int .i64 x0_3)]), (.pointer (some p1))] w K :=
  vcF_sound mixed (fn := Tryz.f194) (by kernel_rfl) (by kernel_rfl) (an := impl_ProgramOk_1.ann) (args := [(.agg #[(.int .i64 x0_0), (.int .i64 x0_1), (.int .i64 x0_2), (.int .i64 x0_3)]), (.pointer (some p1))]) (Eq.mpr (by kernel_rfl) h)

theorem impl_ProgramOk_1.con {s0 : D.Ins} {xs1 : List D.Ins} {g1_ : Nat} {A1_0 : Option Addr} {c1_0 : Nat} {r : Bool} {w : World} (hr : r = M.impl_ProgramOk_1 s0 xs1) (O1 : Blk w g1_ 34 #[(.slice A1_0 xs1.length c1_0)]) (R1_0 : Row el89 w A1_0 xs1) (hc1_0 : xs1.length ≤ c1_0) :
    Cll Tryz.prog 194 #[(.agg #[(.int .i64 s0.Op), (.int .i64 s0.A), (.int .i64 s0.B), (.int .i64 s0.C)]), (.pointer (some (⟨g1_, 0, none⟩ : Addr)))] w (fun v_ w_ => v_ = (.bool r) ∧ Ext w w_) := by
  have H := wp.impl_ProgramOk_1.math s0 xs1
  have hB := Ext.refl w
  refine impl_ProgramOk_1.start ?_
  unfold impl_ProgramOk_1.vc
  unfold wp.impl_ProgramOk_1 at H
  refine newBlk (fun g3_ w21 L3 P3 e22 => ?_)
  have N1_3 := O1.ne L3
  have O1 := O1.ext e22
  have O3 := P3
  have L3 := Nat.le_trans hB.size L3
  have hB := ethen hB e22
  refine ⟨_, (O3.at 0 rfl rfl), ?_⟩
  refine ⟨_, (O3.at 1 rfl rfl), ?_⟩
  refine ⟨_, (O3.at 2 rfl rfl), ?_⟩
  refine ⟨_, (O3.at 3 rfl rfl), ?_⟩
  refine ⟨_, _, _, (O1.at 0 rfl rfl), ?_⟩
  obtain ⟨r23, hr24⟩ : ∃ r_, r_ = M.impl_InsOk s0 ((xs1.length : Nat) : Int) := ⟨_, rfl⟩
  have H := H r23 hr24
  refine (impl_InsOk.con hr24 ).mono ?_
  rintro _ w26 ⟨rfl, e27⟩
  have O1 := O1.ext e27
  have O3 := O3.ext e27
  have hB := ethen hB e27
  refine ⟨r23, rfl, ?_⟩
  obtain rfl := hr.trans H.symm
  exact ⟨rfl, hB⟩
def slices_IndexFunc_impl_Ins_impl_Ins.vc (A0 : Option Addr) (n0 : Nat) (c0 : Nat) (f1 : Nat) (cap1 : Array Value) (w : World) (K : Value → World → Prop) : Prop :=
  LoopT (σ := Int × Unit) (fun z21 w22 next23 => bcase (decide (z21.1 < ((n0 : Nat) : Int))) (((0 : Int) ≤ z21.1 ∧ z21.1 < ((n0 : Nat) : Int) ∧ ∃ a24 : Addr, A0 = some a24 ∧ ∃ (n25 : Int), w22.cell? ((a24.add ((z21.1.toNat) * 4)).add 0) = some (.int .i64 n25) ∧ ∃ (n26 : Int), w22.cell? ((a24.add ((z21.1.toNat) * 4)).add 1) = some (.int .i64 n26) ∧ ∃ (n27 : Int), w22.cell? ((a24.add ((z21.1.toNat) * 4)).add 2) = some (.int .i64 n27) ∧ ∃ (n28 : Int), w22.cell? ((a24.add ((z21.1.toNat) * 4)).add 3) = some (.int .i64 n28) ∧ Cll Tryz.prog f1 (#[(.agg #[(.int .i64 n25), (.int .i64 n26), (.int .i64 n27), (.int .i64 n28)])] ++ cap1) w22 fun v29 w30 => (∃ (b31 : Bool), v29 = (.bool b31) ∧ bcase b31 (K (.int .i64 z21.1) w30) (next23 ((IntKind.wrap .i64 (z21.1 + 1)), ()) w30)))) (K (.int .i64 (-1)) w22)) (0, ()) w

def slices_IndexFunc_impl_Ins_impl_Ins.ann : Ann := (.seq .l (.seq (.seq .l (.one (.loop [(8, .int .i64)] (.seq .l (.seq (.two .l .l) (.seq (.one (.seq .l (.seq .l (.two (.seq .l .l) .l)))) .l)))))) (.seq .l .l)))

theorem slices_IndexFunc_impl_Ins_impl_Ins.start {A0 : Option Addr} {n0 : Nat} {c0 : Nat} {f1 : Nat} {cap1 : Array Value} {w : World} {K : Value → World → Prop} (h : slices_IndexFunc_impl_Ins_impl_Ins.vc A0 n0 c0 f1 cap1 w K) : Cll Tryz.prog 196 #[(.slice A0 n0 c0), (.func (.func f1) #[] cap1)] w K :=
  vcF_sound mixed (fn := Tryz.f196) (by kernel_rfl) (by kernel_rfl) (an := slices_IndexFunc_impl_Ins_impl_Ins.ann) (args := [(.slice A0 n0 c0), (.func (.func f1) #[] cap1)]) (Eq.mpr (by kernel_rfl) h)

theorem slices_IndexFunc_impl_Ins_impl_Ins.con {xs0 : List D.Ins} {A0 : Option Addr} {c0 : Nat} {f1 : Nat} {cap1 : Array Value} {g1 : D.Ins → Bool} {D1 : D.Ins → Prop} {r : Int} {w : World} (hp : M.slices_IndexFunc_impl_Ins_impl_Ins_pre xs0 g1 D1) (hr : r = M.slices_IndexFunc_impl_Ins_impl_Ins xs0 g1) (R0 : Row el89 w A0 xs0) (hc0 : xs0.length ≤ c0) (F1 : ∀ (z0_ : D.Ins), D1 z0_ → ∀ w_ : World, Ext w w_ → Cll Tryz.prog f1 (#[(.agg #[(.int .i64 z0_.Op), (.int .i64 z0_.A), (.int .i64 z0_.B), (.int .i64 z0_.C)])] ++ cap1) w_ (fun v_ w1_ => v_ = (.bool (g1 z0_)) ∧ Ext w_ w1_)) :
    Cll Tryz.prog 196 #[(.slice A0 xs0.length c0), (.func (.func f1) #[] cap1)] w (fun v_ w_ => v_ = (.int .i64 r) ∧ Ext w w_) := by
  have H := wp.slices_IndexFunc_impl_Ins_impl_Ins.math xs0 g1 D1 hp
  have hB := Ext.refl w
  refine slices_IndexFunc_impl_Ins_impl_Ins.start ?_
  unfold slices_IndexFunc_impl_Ins_impl_Ins.vc
  unfold wp.slices_IndexFunc_impl_Ins_impl_Ins at H
  obtain ⟨J23, ⟨m44, hJ43⟩, hS24⟩ := H
  refine ⟨fun m_ z_ w_ => ∃ (i21 : Int), z_ = (i21, ()) ∧ J23 m_ (i21, ()) ∧ Ext w w_, ⟨m44, 0, rfl, hJ43, hB⟩, ?_⟩
  rintro m22 _ w26 ⟨i21, rfl, hJ45, hB⟩
  have H := hS24 m22 _ hJ45
  clear hS24 hJ45
  try dsimp only at H ⊢
  refine bcase_mk (fun hc41 => ?_) (fun hc41 => ?_)
  · have H := (bcase_iff.1 H).1 hc41
    obtain ⟨⟨h0_30, h1_31⟩, H⟩ := H
    obtain ⟨a28, ha29, hat27⟩ := Row.at (R0.ext hB) h0_30 h1_31
    refine ⟨h0_30, h1_31, a28, ha29, ?_⟩
    refine ⟨_, (hat27 0 _ rfl), ?_⟩
    refine ⟨_, (hat27 1 _ rfl), ?_⟩
    refine ⟨_, (hat27 2 _ rfl), ?_⟩
    refine ⟨_, (hat27 3 _ rfl), ?_⟩
    obtain ⟨hd34, H⟩ := H
    obtain ⟨r32, hr33⟩ : ∃ r_, r_ = g1 (rd xs0 i21) := ⟨_, rfl⟩
    have H := H r32 hr33
    refine (F1 (rd xs0 i21) hd34 _ hB).mono ?_
    rintro _ w35 ⟨rfl, e36⟩
    rw [← hr33]
    have hB := ethen hB e36
    refine ⟨r32, rfl, ?_⟩
    refine bcase_mk (fun hc40 => ?_) (fun hc40 => ?_)
    · have H := (bcase_iff.1 H).1 hc40
      obtain rfl := hr.trans H.symm
      exact ⟨rfl, hB⟩
    have H := (bcase_iff.1 H).2 hc40
    obtain ⟨m37, hm38, hJ39⟩ := H
    exact ⟨m37, hm38, (IntKind.wrap .i64 (i21 + 1)), rfl, hJ39, hB⟩
  have H := (bcase_iff.1 H).2 hc41
  obtain rfl := hr.trans H.symm
  exact ⟨rfl, hB⟩
def slices_ContainsFunc_impl_Ins_impl_Ins.vc (A0 : Option Addr) (n0 : Nat) (c0 : Nat) (f1 : Nat) (cap1 : Array Value) (w : World) (K : Value → World → Prop) : Prop :=
  Cll Tryz.prog 196 #[(.slice A0 n0 c0), (.func (.func f1) #[] cap1)] w fun v21 w22 => (∃ (n23 : Int), v21 = (.int .i64 n23) ∧ K (.bool (decide (n23 ≥ 0))) w22)

def slices_ContainsFunc_impl_Ins_impl_Ins.ann : Ann := (.seq .l (.seq .l .l))

theorem slices_ContainsFunc_impl_Ins_impl_Ins.start {A0 : Option Addr} {n0 : Nat} {c0 : Nat} {f1 : Nat} {cap1 : Array Value} {w : World} {K : Value → World → Prop} (h : slices_ContainsFunc_impl_Ins_impl_Ins.vc A0 n0 c0 f1 cap1 w K) : Cll Tryz.prog 141 #[(.slice A0 n0 c0), (.func (.func f1) #[] cap1)] w K :=
  vcF_sound mixed (fn := Tryz.f141) (by kernel_rfl) (by kernel_rfl) (an := slices_ContainsFunc_impl_Ins_impl_Ins.ann) (args := [(.slice A0 n0 c0), (.func (.func f1) #[] cap1)]) (Eq.mpr (by kernel_rfl) h)

theorem slices_ContainsFunc_impl_Ins_impl_Ins.con {xs0 : List D.Ins} {A0 : Option Addr} {c0 : Nat} {f1 : Nat} {cap1 : Array Value} {g1 : D.Ins → Bool} {D1 : D.Ins → Prop} {r : Bool} {w : World} (hp : M.slices_ContainsFunc_impl_Ins_impl_Ins_pre xs0 g1 D1) (hr : r = M.slices_ContainsFunc_impl_Ins_impl_Ins xs0 g1) (R0 : Row el89 w A0 xs0) (hc0 : xs0.length ≤ c0) (F1 : ∀ (z0_ : D.Ins), D1 z0_ → ∀ w_ : World, Ext w w_ → Cll Tryz.prog f1 (#[(.agg #[(.int .i64 z0_.Op), (.int .i64 z0_.A), (.int .i64 z0_.B), (.int .i64 z0_.C)])] ++ cap1) w_ (fun v_ w1_ => v_ = (.bool (g1 z0_)) ∧ Ext w_ w1_)) :
    Cll Tryz.prog 141 #[(.slice A0 xs0.length c0), (.func (.func f1) #[] cap1)] w (fun v_ w_ => v_ = (.bool r) ∧ Ext w w_) := by
  have H := wp.slices_ContainsFunc_impl_Ins_impl_Ins.math xs0 g1 D1 hp
  have hB := Ext.refl w
  refine slices_ContainsFunc_impl_Ins_impl_Ins.start ?_
  unfold slices_ContainsFunc_impl_Ins_impl_Ins.vc
  unfold wp.slices_ContainsFunc_impl_Ins_impl_Ins at H
  obtain ⟨hp23, H⟩ := H
  obtain ⟨r21, hr22⟩ : ∃ r_, r_ = M.slices_IndexFunc_impl_Ins_impl_Ins xs0 g1 := ⟨_, rfl⟩
  have H := H r21 hr22
  refine (slices_IndexFunc_impl_Ins_impl_Ins.con hp23 hr22 (R0.ext hB) hc0 (fun z0_  h_ w_ e_ => F1 z0_  h_ w_ (ethen hB e_))).mono ?_
  rintro _ w24 ⟨rfl, e25⟩
  have hB := ethen hB e25
  refine ⟨r21, rfl, ?_⟩
  obtain rfl := hr.trans H.symm
  exact ⟨rfl, hB⟩
def impl_ProgramOk.vc (A0 : Option Addr) (n0 : Nat) (c0 : Nat) (w : World) (K : Value → World → Prop) : Prop :=
  newK w (.cells #[(.slice A0 n0 c0)] 34) fun g21 w22 => ∃ (A23 : Option Addr) (n24 : Nat) (c25 : Nat), w22.cell? ((⟨g21, 0, none⟩ : Addr).add 0) = some (.slice A23 n24 c25) ∧ bcase (decide (((n24 : Nat) : Int) ≤ 32)) (∃ (A26 : Option Addr) (n27 : Nat) (c28 : Nat), w22.cell? ((⟨g21, 0, none⟩ : Addr).add 0) = some (.slice A26 n27 c28) ∧ Cll Tryz.prog 141 #[(.slice A26 n27 c28), (.func (.func 194) #[] #[(.pointer (some (⟨g21, 0, none⟩ : Addr)))])] w22 fun v29 w30 => (∃ (b31 : Bool), v29 = (.bool b31) ∧ K (.bool (!b31)) w30)) (K (.bool false) w22)

def impl_ProgramOk.ann : Ann := (.seq .l (.seq .l .l))

theorem impl_ProgramOk.start {A0 : Option Addr} {n0 : Nat} {c0 : Nat} {w : World} {K : Value → World → Prop} (h : impl_ProgramOk.vc A0 n0 c0 w K) : Cll Tryz.prog 140 #[(.slice A0 n0 c0)] w K :=
  vcF_sound mixed (fn := Tryz.f140) (by kernel_rfl) (by kernel_rfl) (an := impl_ProgramOk.ann) (args := [(.slice A0 n0 c0)]) (Eq.mpr (by kernel_rfl) h)

theorem impl_ProgramOk.con {xs0 : List D.Ins} {A0 : Option Addr} {c0 : Nat} {r : Bool} {w : World} (hp : M.impl_ProgramOk_pre xs0) (hr : r = M.impl_ProgramOk xs0) (R0 : Row el89 w A0 xs0) (hc0 : xs0.length ≤ c0) :
    Cll Tryz.prog 140 #[(.slice A0 xs0.length c0)] w (fun v_ w_ => v_ = (.bool r) ∧ Ext w w_) := by
  have H := wp.impl_ProgramOk.math xs0 hp
  have hB := Ext.refl w
  refine impl_ProgramOk.start ?_
  unfold impl_ProgramOk.vc
  unfold wp.impl_ProgramOk at H
  refine newBlk (fun g2_ w21 L2 P2 e22 => ?_)
  have O2 := P2
  have L2 := Nat.le_trans hB.size L2
  have hB := ethen hB e22
  refine ⟨_, _, _, (O2.at 0 rfl rfl), ?_⟩
  refine bcase_mk (fun hc28 => ?_) (fun hc28 => ?_)
  · have H := (bcase_iff.1 H).1 hc28
    refine ⟨_, _, _, (O2.at 0 rfl rfl), ?_⟩
    obtain ⟨hp25, H⟩ := H
    obtain ⟨r23, hr24⟩ : ∃ r_, r_ = M.slices_ContainsFunc_impl_Ins_impl_Ins xs0 (fun z0_ => M.impl_ProgramOk_1 z0_ xs0) := ⟨_, rfl⟩
    have H := H r23 hr24
    refine (slices_ContainsFunc_impl_Ins_impl_Ins.con hp25 hr24 (R0.ext hB) hc0 (fun z0_ h_ w_ e_ => cllApp (l1 := [_]) (l2 := [_]) (impl_ProgramOk_1.con rfl (O2.ext e_) (R0.ext (ethen hB e_)) hc0))).mono ?_
    rintro _ w26 ⟨rfl, e27⟩
    have O2 := O2.ext e27
    have hB := ethen hB e27
    refine ⟨r23, rfl, ?_⟩
    obtain rfl := hr.trans H.symm
    exact ⟨rfl, hB⟩
  have H := (bcase_iff.1 H).2 hc28
  obtain rfl := hr.trans H.symm
  exact ⟨rfl, hB⟩
def impl_IsLocal.vc (x0_0 : Int) (x0_1 : Int) (x0_2 : Int) (x0_3 : Int) (w : World) (K : Value → World → Prop) : Prop :=
  newK w (.cells #[(.int .i64 x0_0), (.int .i64 x0_1), (.int .i64 x0_2), (.int .i64 x0_3)] 89) fun g21 w22 => ∃ (n23 : Int), w22.cell? (((⟨g21, 0, none⟩ : Addr).add 0).add 0) = some (.int .i64 n23) ∧ Cll Tryz.prog 75 #[(.int .i64 n23), (.int .i64 0), (.int .i64 12)] w22 fun v24 w25 => (∃ (b26 : Bool), v24 = (.bool b26) ∧ K (.bool b26) w25)

def impl_IsLocal.ann : Ann := (.seq .l (.seq .l .l))

theorem impl_IsLocal.start {x0_0 : Int} {x0_1 : Int} {x0_2 : Int} {x0_3 : Int} {w : World} {K : Value → World → Prop} (h : impl_IsLocal.vc x0_0 x0_1 x0_2 x0_3 w K) : Cll Tryz.prog 143 #[(.agg #[(.int .i64 x0_0), (.int .i64 x0_1), (.int .i64 x0_2), (.int .i64 x0_3)])] w K :=
  vcF_sound mixed (fn := Tryz.f143) (by kernel_rfl) (by kernel_rfl) (an := impl_IsLocal.ann) (args := [(.agg #[(.int .i64 x0_0), (.int .i64 x0_1), (.int .i64 x0_2), (.int .i64 x0_3)])]) (Eq.mpr (by kernel_rfl) h)

theorem impl_IsLocal.con {s0 : D.Ins} {r : Bool} {w : World} (hr : r = M.impl_IsLocal s0)  :
    Cll Tryz.prog 143 #[(.agg #[(.int .i64 s0.Op), (.int .i64 s0.A), (.int .i64 s0.B), (.int .i64 s0.C)])] w (fun v_ w_ => v_ = (.bool r) ∧ Ext w w_) := by
  have H := wp.impl_IsLocal.math s0
  have hB := Ext.refl w
  refine impl_IsLocal.start ?_
  unfold impl_IsLocal.vc
  unfold wp.impl_IsLocal at H
  refine newBlk (fun g1_ w21 L1 P1 e22 => ?_)
  have O1 := P1
  have L1 := Nat.le_trans hB.size L1
  have hB := ethen hB e22
  refine ⟨_, (O1.at 0 rfl rfl), ?_⟩
  obtain ⟨r23, hr24⟩ : ∃ r_, r_ = M.impl_within s0.Op 0 12 := ⟨_, rfl⟩
  have H := H r23 hr24
  refine (impl_within.con hr24 ).mono ?_
  rintro _ w26 ⟨rfl, e27⟩
  have O1 := O1.ext e27
  have hB := ethen hB e27
  refine ⟨r23, rfl, ?_⟩
  obtain rfl := hr.trans H.symm
  exact ⟨rfl, hB⟩
def impl_IsQuiet_1.vc (x0_0 : Int) (x0_1 : Int) (x0_2 : Int) (x0_3 : Int) (w : World) (K : Value → World → Prop) : Prop :=
  newK w (.cells #[(.int .i64 x0_0), (.int .i64 x0_1), (.int .i64 x0_2), (.int .i64 x0_3)] 89) fun g21 w22 => ∃ (n23 : Int), w22.cell? ((⟨g21, 0, none⟩ : Addr).add 0) = some (.int .i64 n23) ∧ ∃ (n24 : Int), w22.cell? ((⟨g21, 0, none⟩ : Addr).add 1) = some (.int .i64 n24) ∧ ∃ (n25 : Int), w22.cell? ((⟨g21, 0, none⟩ : Addr).add 2) = some (.int .i64 n25) ∧ ∃ (n26 : Int), w22.cell? ((⟨g21, 0, none⟩ : Addr).add 3) = some (.int .i64 n26) ∧ Cll Tryz.prog 143 #[(.agg #[(.int .i64 n23), (.int .i64 n24), (.int .i64 n25), (.int .i64 n26)])] w22 fun v27 w28 => (∃ (b29 : Bool), v27 = (.bool b29) ∧ K (.bool (!b29)) w28)

def impl_IsQuiet_1.ann : Ann := (.seq .l (.seq .l .l))

theorem impl_IsQuiet_1.start {x0_0 : Int} {x0_1 : Int} {x0_2 : Int} {x0_3 : Int} {w : World} {K : Value → World → Prop} (h : impl_IsQuiet_1.vc x0_0 x0_1 x0_2 x0_3 w K) : Cll Tryz.prog 142 #[(.agg #[(.int .i64 x0_0), (.int .i64 x0_1), (.int .i64 x0_2), (.int .i64 x0_3)])] w K :=
  vcF_sound mixed (fn := Tryz.f142) (by kernel_rfl) (by kernel_rfl) (an := impl_IsQuiet_1.ann) (args := [(.agg #[(.int .i64 x0_0), (.int .i64 x0_1), (.int .i64 x0_2), (.int .i64 x0_3)])]) (Eq.mpr (by kernel_rfl) h)

theorem impl_IsQuiet_1.con {s0 : D.Ins} {r : Bool} {w : World} (hr : r = M.impl_IsQuiet_1 s0)  :
    Cll Tryz.prog 142 #[(.agg #[(.int .i64 s0.Op), (.int .i64 s0.A), (.int .i64 s0.B), (.int .i64 s0.C)])] w (fun v_ w_ => v_ = (.bool r) ∧ Ext w w_) := by
  have H := wp.impl_IsQuiet_1.math s0
  have hB := Ext.refl w
  refine impl_IsQuiet_1.start ?_
  unfold impl_IsQuiet_1.vc
  unfold wp.impl_IsQuiet_1 at H
  refine newBlk (fun g1_ w21 L1 P1 e22 => ?_)
  have O1 := P1
  have L1 := Nat.le_trans hB.size L1
  have hB := ethen hB e22
  refine ⟨_, (O1.at 0 rfl rfl), ?_⟩
  refine ⟨_, (O1.at 1 rfl rfl), ?_⟩
  refine ⟨_, (O1.at 2 rfl rfl), ?_⟩
  refine ⟨_, (O1.at 3 rfl rfl), ?_⟩
  obtain ⟨r23, hr24⟩ : ∃ r_, r_ = M.impl_IsLocal s0 := ⟨_, rfl⟩
  have H := H r23 hr24
  refine (impl_IsLocal.con hr24 ).mono ?_
  rintro _ w26 ⟨rfl, e27⟩
  have O1 := O1.ext e27
  have hB := ethen hB e27
  refine ⟨r23, rfl, ?_⟩
  obtain rfl := hr.trans H.symm
  exact ⟨rfl, hB⟩
def impl_IsQuiet.vc (A0 : Option Addr) (n0 : Nat) (c0 : Nat) (w : World) (K : Value → World → Prop) : Prop :=
  Cll Tryz.prog 140 #[(.slice A0 n0 c0)] w fun v21 w22 => (∃ (b23 : Bool), v21 = (.bool b23) ∧ bcase b23 (Cll Tryz.prog 141 #[(.slice A0 n0 c0), (.func (.func 142) #[] #[])] w22 fun v24 w25 => (∃ (b26 : Bool), v24 = (.bool b26) ∧ K (.bool (!b26)) w25)) (K (.bool false) w22))

def impl_IsQuiet.ann : Ann := (.seq .l (.seq .l .l))

theorem impl_IsQuiet.start {A0 : Option Addr} {n0 : Nat} {c0 : Nat} {w : World} {K : Value → World → Prop} (h : impl_IsQuiet.vc A0 n0 c0 w K) : Cll Tryz.prog 73 #[(.slice A0 n0 c0)] w K :=
  vcF_sound mixed (fn := Tryz.f73) (by kernel_rfl) (by kernel_rfl) (an := impl_IsQuiet.ann) (args := [(.slice A0 n0 c0)]) (Eq.mpr (by kernel_rfl) h)

theorem impl_IsQuiet.con {xs0 : List D.Ins} {A0 : Option Addr} {c0 : Nat} {r : Bool} {w : World} (hp : M.impl_IsQuiet_pre xs0) (hr : r = M.impl_IsQuiet xs0) (R0 : Row el89 w A0 xs0) (hc0 : xs0.length ≤ c0) :
    Cll Tryz.prog 73 #[(.slice A0 xs0.length c0)] w (fun v_ w_ => v_ = (.bool r) ∧ Ext w w_) := by
  have H := wp.impl_IsQuiet.math xs0 hp
  have hB := Ext.refl w
  refine impl_IsQuiet.start ?_
  unfold impl_IsQuiet.vc
  unfold wp.impl_IsQuiet at H
  obtain ⟨hp23, H⟩ := H
  obtain ⟨r21, hr22⟩ : ∃ r_, r_ = M.impl_ProgramOk xs0 := ⟨_, rfl⟩
  have H := H r21 hr22
  refine (impl_ProgramOk.con hp23 hr22 (R0.ext hB) hc0).mono ?_
  rintro _ w24 ⟨rfl, e25⟩
  have hB := ethen hB e25
  refine ⟨r21, rfl, ?_⟩
  refine bcase_mk (fun hc31 => ?_) (fun hc31 => ?_)
  · have H := (bcase_iff.1 H).1 hc31
    obtain ⟨hp28, H⟩ := H
    obtain ⟨r26, hr27⟩ : ∃ r_, r_ = M.slices_ContainsFunc_impl_Ins_impl_Ins xs0 (fun z0_ => M.impl_IsQuiet_1 z0_) := ⟨_, rfl⟩
    have H := H r26 hr27
    refine (slices_ContainsFunc_impl_Ins_impl_Ins.con hp28 hr27 (R0.ext hB) hc0 (fun z0_ h_ w_ e_ => cllApp (l1 := [_]) (l2 := []) (impl_IsQuiet_1.con rfl))).mono ?_
    rintro _ w29 ⟨rfl, e30⟩
    have hB := ethen hB e30
    refine ⟨r26, rfl, ?_⟩
    obtain rfl := hr.trans H.symm
    exact ⟨rfl, hB⟩
  have H := (bcase_iff.1 H).2 hc31
  obtain rfl := hr.trans H.symm
  exact ⟨rfl, hB⟩
def impl_areRegs.vc (A0 : Option Addr) (n0 : Nat) (c0 : Nat) (w : World) (K : Value → World → Prop) : Prop :=
  bcase (((n0 : Nat) : Int) == 4) (Cll Tryz.prog 198 #[(.slice A0 n0 c0)] w fun v21 w22 => (∃ (b23 : Bool), v21 = (.bool b23) ∧ K (.bool b23) w22)) (K (.bool false) w)

def impl_areRegs.ann : Ann := (.seq .l (.seq .l .l))

theorem impl_areRegs.start {A0 : Option Addr} {n0 : Nat} {c0 : Nat} {w : World} {K : Value → World → Prop} (h : impl_areRegs.vc A0 n0 c0 w K) : Cll Tryz.prog 304 #[(.slice A0 n0 c0)] w K :=
  vcF_sound mixed (fn := Tryz.f304) (by kernel_rfl) (by kernel_rfl) (an := impl_areRegs.ann) (args := [(.slice A0 n0 c0)]) (Eq.mpr (by kernel_rfl) h)

theorem impl_areRegs.con {xs0 : List Int} {A0 : Option Addr} {c0 : Nat} {r : Bool} {w : World} (hr : r = M.impl_areRegs xs0) (R0 : Row el3 w A0 xs0) (hc0 : xs0.length ≤ c0) :
    Cll Tryz.prog 304 #[(.slice A0 xs0.length c0)] w (fun v_ w_ => v_ = (.bool r) ∧ Ext w w_) := by
  have H := wp.impl_areRegs.math xs0
  have hB := Ext.refl w
  refine impl_areRegs.start ?_
  unfold impl_areRegs.vc
  unfold wp.impl_areRegs at H
  refine bcase_mk (fun hc26 => ?_) (fun hc26 => ?_)
  · have H := (bcase_iff.1 H).1 hc26
    obtain ⟨hp23, H⟩ := H
    obtain ⟨r21, hr22⟩ : ∃ r_, r_ = M.impl_AreWords xs0 := ⟨_, rfl⟩
    have H := H r21 hr22
    refine (impl_AreWords.con hp23 hr22 (R0.ext hB) hc0).mono ?_
    rintro _ w24 ⟨rfl, e25⟩
    have hB := ethen hB e25
    refine ⟨r21, rfl, ?_⟩
    obtain rfl := hr.trans H.symm
    exact ⟨rfl, hB⟩
  have H := (bcase_iff.1 H).2 hc26
  obtain rfl := hr.trans H.symm
  exact ⟨rfl, hB⟩
def impl_isLaneOf.vc (A0 : Option Addr) (n0 : Nat) (c0 : Nat) (x1_0 : Int) (x1_1 : Int) (A1_2 : Option Addr) (n1_2 : Nat) (c1_2 : Nat) (w : World) (K : Value → World → Prop) : Prop :=
  newK w (.cells #[(.int .i64 x1_0), (.int .i64 x1_1), (.slice A1_2 n1_2 c1_2)] 144) fun g21 w22 => ∃ (n23 : Int), w22.cell? (((⟨g21, 0, none⟩ : Addr).add 0).add 0) = some (.int .i64 n23) ∧ Cll Tryz.prog 157 #[(.int .i64 n23)] w22 fun v24 w25 => (∃ (b26 : Bool), v24 = (.bool b26) ∧ bcase b26 (∃ (n27 : Int), w25.cell? (((⟨g21, 0, none⟩ : Addr).add 1).add 0) = some (.int .i64 n27) ∧ Cll Tryz.prog 75 #[(.int .i64 n27), (.int .i64 0), (.int .i64 ((n0 : Nat) : Int))] w25 fun v28 w29 => (∃ (b30 : Bool), v28 = (.bool b30) ∧ bcase b30 (∃ (A31 : Option Addr) (n32 : Nat) (c33 : Nat), w29.cell? (((⟨g21, 0, none⟩ : Addr).add 2).add 0) = some (.slice A31 n32 c33) ∧ Cll Tryz.prog 304 #[(.slice A31 n32 c33)] w29 fun v34 w35 => (∃ (b36 : Bool), v34 = (.bool b36) ∧ K (.bool b36) w35)) (K (.bool false) w29))) (K (.bool false) w25))

def impl_isLaneOf.ann : Ann := (.seq .l (.seq .l .l))

theorem impl_isLaneOf.start {A0 : Option Addr} {n0 : Nat} {c0 : Nat} {x1_0 : Int} {x1_1 : Int} {A1_2 : Option Addr} {n1_2 : Nat} {c1_2 : Nat} {w : World} {K : Value → World → Prop} (h : impl_isLaneOf.vc A0 n0 c0 x1_0 x1_1 A1_2 n1_2 c1_2 w K) : Cll Tryz.prog 292 #[(.slice A0 n0 c0), (.agg #[(.int .i64 x1_0), (.int .i64 x1_1), (.slice A1_2 n1_2 c1_2)])] w K :=
  vcF_sound mixed (fn := Tryz.f292) (by kernel_rfl) (by kernel_rfl) (an := impl_isLaneOf.ann) (args := [(.slice A0 n0 c0), (.agg #[(.int .i64 x1_0), (.int .i64 x1_1), (.slice A1_2 n1_2 c1_2)])]) (Eq.mpr (by kernel_rfl) h)

theorem impl_isLaneOf.con {xs0 : List D.Ins} {A0 : Option Addr} {c0 : Nat} {s1 : D.Lane} {A1_2 : Option Addr} {c1_2 : Nat} {r : Bool} {w : World} (hp : M.impl_isLaneOf_pre xs0 s1) (hr : r = M.impl_isLaneOf xs0 s1) (R0 : Row el89 w A0 xs0) (hc0 : xs0.length ≤ c0) (R1_2 : Row el3 w A1_2 s1.Regs) (hc1_2 : s1.Regs.length ≤ c1_2) :
    Cll Tryz.prog 292 #[(.slice A0 xs0.length c0), (.agg #[(.int .i64 s1.Thread), (.int .i64 s1.Pc), (.slice A1_2 s1.Regs.length c1_2)])] w (fun v_ w_ => v_ = (.bool r) ∧ Ext w w_) := by
  have H := wp.impl_isLaneOf.math xs0 s1 hp
  have hB := Ext.refl w
  refine impl_isLaneOf.start ?_
  unfold impl_isLaneOf.vc
  unfold wp.impl_isLaneOf at H
  refine newBlk (fun g3_ w21 L3 P3 e22 => ?_)
  have O3 := P3
  have L3 := Nat.le_trans hB.size L3
  have hB := ethen hB e22
  refine ⟨_, (O3.at 0 rfl rfl), ?_⟩
  obtain ⟨r23, hr24⟩ : ∃ r_, r_ = M.impl_isThread s1.Thread := ⟨_, rfl⟩
  have H := H r23 hr24
  refine (impl_isThread.con hr24 ).mono ?_
  rintro _ w26 ⟨rfl, e27⟩
  have O3 := O3.ext e27
  have hB := ethen hB e27
  refine ⟨r23, rfl, ?_⟩
  refine bcase_mk (fun hc39 => ?_) (fun hc39 => ?_)
  · have H := (bcase_iff.1 H).1 hc39
    refine ⟨_, (O3.at 1 rfl rfl), ?_⟩
    obtain ⟨r28, hr29⟩ : ∃ r_, r_ = M.impl_within s1.Pc 0 ((xs0.length : Nat) : Int) := ⟨_, rfl⟩
    have H := H r28 hr29
    refine (impl_within.con hr29 ).mono ?_
    rintro _ w31 ⟨rfl, e32⟩
    have O3 := O3.ext e32
    have hB := ethen hB e32
    refine ⟨r28, rfl, ?_⟩
    refine bcase_mk (fun hc38 => ?_) (fun hc38 => ?_)
    · have H := (bcase_iff.1 H).1 hc38
      refine ⟨_, _, _, (O3.at 2 rfl rfl), ?_⟩
      obtain ⟨r33, hr34⟩ : ∃ r_, r_ = M.impl_areRegs s1.Regs := ⟨_, rfl⟩
      have H := H r33 hr34
      refine (impl_areRegs.con hr34 (R1_2.ext hB) hc1_2).mono ?_
      rintro _ w36 ⟨rfl, e37⟩
      have O3 := O3.ext e37
      have hB := ethen hB e37
      refine ⟨r33, rfl, ?_⟩
      obtain rfl := hr.trans H.symm
      exact ⟨rfl, hB⟩
    have H := (bcase_iff.1 H).2 hc38
    obtain rfl := hr.trans H.symm
    exact ⟨rfl, hB⟩
  have H := (bcase_iff.1 H).2 hc39
  obtain rfl := hr.trans H.symm
  exact ⟨rfl, hB⟩
def impl_LaneOk.vc (A0 : Option Addr) (n0 : Nat) (c0 : Nat) (x1_0 : Int) (x1_1 : Int) (A1_2 : Option Addr) (n1_2 : Nat) (c1_2 : Nat) (w : World) (K : Value → World → Prop) : Prop :=
  newK w (.cells #[(.int .i64 x1_0), (.int .i64 x1_1), (.slice A1_2 n1_2 c1_2)] 144) fun g21 w22 => Cll Tryz.prog 140 #[(.slice A0 n0 c0)] w22 fun v23 w24 => (∃ (b25 : Bool), v23 = (.bool b25) ∧ bcase b25 (∃ (n26 : Int), w24.cell? ((⟨g21, 0, none⟩ : Addr).add 0) = some (.int .i64 n26) ∧ ∃ (n27 : Int), w24.cell? ((⟨g21, 0, none⟩ : Addr).add 1) = some (.int .i64 n27) ∧ ∃ (A28 : Option Addr) (n29 : Nat) (c30 : Nat), w24.cell? ((⟨g21, 0, none⟩ : Addr).add 2) = some (.slice A28 n29 c30) ∧ Cll Tryz.prog 292 #[(.slice A0 n0 c0), (.agg #[(.int .i64 n26), (.int .i64 n27), (.slice A28 n29 c30)])] w24 fun v31 w32 => (∃ (b33 : Bool), v31 = (.bool b33) ∧ K (.bool b33) w32)) (K (.bool false) w24))

def impl_LaneOk.ann : Ann := (.seq .l (.seq .l .l))

theorem impl_LaneOk.start {A0 : Option Addr} {n0 : Nat} {c0 : Nat} {x1_0 : Int} {x1_1 : Int} {A1_2 : Option Addr} {n1_2 : Nat} {c1_2 : Nat} {w : World} {K : Value → World → Prop} (h : impl_LaneOk.vc A0 n0 c0 x1_0 x1_1 A1_2 n1_2 c1_2 w K) : Cll Tryz.prog 279 #[(.slice A0 n0 c0), (.agg #[(.int .i64 x1_0), (.int .i64 x1_1), (.slice A1_2 n1_2 c1_2)])] w K :=
  vcF_sound mixed (fn := Tryz.f279) (by kernel_rfl) (by kernel_rfl) (an := impl_LaneOk.ann) (args := [(.slice A0 n0 c0), (.agg #[(.int .i64 x1_0), (.int .i64 x1_1), (.slice A1_2 n1_2 c1_2)])]) (Eq.mpr (by kernel_rfl) h)

theorem impl_LaneOk.con {xs0 : List D.Ins} {A0 : Option Addr} {c0 : Nat} {s1 : D.Lane} {A1_2 : Option Addr} {c1_2 : Nat} {r : Bool} {w : World} (hp : M.impl_LaneOk_pre xs0 s1) (hr : r = M.impl_LaneOk xs0 s1) (R0 : Row el89 w A0 xs0) (hc0 : xs0.length ≤ c0) (R1_2 : Row el3 w A1_2 s1.Regs) (hc1_2 : s1.Regs.length ≤ c1_2) :
    Cll Tryz.prog 279 #[(.slice A0 xs0.length c0), (.agg #[(.int .i64 s1.Thread), (.int .i64 s1.Pc), (.slice A1_2 s1.Regs.length c1_2)])] w (fun v_ w_ => v_ = (.bool r) ∧ Ext w w_) := by
  have H := wp.impl_LaneOk.math xs0 s1 hp
  have hB := Ext.refl w
  refine impl_LaneOk.start ?_
  unfold impl_LaneOk.vc
  unfold wp.impl_LaneOk at H
  refine newBlk (fun g3_ w21 L3 P3 e22 => ?_)
  have O3 := P3
  have L3 := Nat.le_trans hB.size L3
  have hB := ethen hB e22
  obtain ⟨hp25, H⟩ := H
  obtain ⟨r23, hr24⟩ : ∃ r_, r_ = M.impl_ProgramOk xs0 := ⟨_, rfl⟩
  have H := H r23 hr24
  refine (impl_ProgramOk.con hp25 hr24 (R0.ext hB) hc0).mono ?_
  rintro _ w26 ⟨rfl, e27⟩
  have O3 := O3.ext e27
  have hB := ethen hB e27
  refine ⟨r23, rfl, ?_⟩
  refine bcase_mk (fun hc33 => ?_) (fun hc33 => ?_)
  · have H := (bcase_iff.1 H).1 hc33
    refine ⟨_, (O3.at 0 rfl rfl), ?_⟩
    refine ⟨_, (O3.at 1 rfl rfl), ?_⟩
    refine ⟨_, _, _, (O3.at 2 rfl rfl), ?_⟩
    obtain ⟨hp30, H⟩ := H
    obtain ⟨r28, hr29⟩ : ∃ r_, r_ = M.impl_isLaneOf xs0 s1 := ⟨_, rfl⟩
    have H := H r28 hr29
    refine (impl_isLaneOf.con hp30 hr29 (R0.ext hB) hc0 (R1_2.ext hB) hc1_2).mono ?_
    rintro _ w31 ⟨rfl, e32⟩
    have O3 := O3.ext e32
    have hB := ethen hB e32
    refine ⟨r28, rfl, ?_⟩
    obtain rfl := hr.trans H.symm
    exact ⟨rfl, hB⟩
  have H := (bcase_iff.1 H).2 hc33
  obtain rfl := hr.trans H.symm
  exact ⟨rfl, hB⟩
def impl_SubWords.vc (x0 : Int) (x1 : Int) (w : World) (K : Value → World → Prop) : Prop :=
  Cll Tryz.prog 262 #[(.int .i64 x0), (.int .i64 x1), (.int .i64 (IntKind.wrap .i64 (x0 - x1)))] w fun v21 w22 => (∃ (n23 : Int), v21 = (.int .i64 n23) ∧ K (.int .i64 n23) w22)

def impl_SubWords.ann : Ann := (.seq .l (.seq .l .l))

theorem impl_SubWords.start {x0 : Int} {x1 : Int} {w : World} {K : Value → World → Prop} (h : impl_SubWords.vc x0 x1 w K) : Cll Tryz.prog 232 #[(.int .i64 x0), (.int .i64 x1)] w K :=
  vcF_sound mixed (fn := Tryz.f232) (by kernel_rfl) (by kernel_rfl) (an := impl_SubWords.ann) (args := [(.int .i64 x0), (.int .i64 x1)]) (Eq.mpr (by kernel_rfl) h)

theorem impl_SubWords.con {x0 : Int} {x1 : Int} {r : Int} {w : World} (hr : r = M.impl_SubWords x0 x1)  :
    Cll Tryz.prog 232 #[(.int .i64 x0), (.int .i64 x1)] w (fun v_ w_ => v_ = (.int .i64 r) ∧ Ext w w_) := by
  have H := wp.impl_SubWords.math x0 x1
  have hB := Ext.refl w
  refine impl_SubWords.start ?_
  unfold impl_SubWords.vc
  unfold wp.impl_SubWords at H
  obtain ⟨r21, hr22⟩ : ∃ r_, r_ = M.impl_wrapped x0 x1 (IntKind.wrap .i64 (x0 - x1)) := ⟨_, rfl⟩
  have H := H r21 hr22
  refine (impl_wrapped.con hr22 ).mono ?_
  rintro _ w24 ⟨rfl, e25⟩
  have hB := ethen hB e25
  refine ⟨r21, rfl, ?_⟩
  obtain rfl := hr.trans H.symm
  exact ⟨rfl, hB⟩
def impl_MulWords.vc (x0 : Int) (x1 : Int) (w : World) (K : Value → World → Prop) : Prop :=
  Cll Tryz.prog 262 #[(.int .i64 x0), (.int .i64 x1), (.int .i64 (IntKind.wrap .i64 (x0 * x1)))] w fun v21 w22 => (∃ (n23 : Int), v21 = (.int .i64 n23) ∧ K (.int .i64 n23) w22)

def impl_MulWords.ann : Ann := (.seq .l (.seq .l .l))

theorem impl_MulWords.start {x0 : Int} {x1 : Int} {w : World} {K : Value → World → Prop} (h : impl_MulWords.vc x0 x1 w K) : Cll Tryz.prog 233 #[(.int .i64 x0), (.int .i64 x1)] w K :=
  vcF_sound mixed (fn := Tryz.f233) (by kernel_rfl) (by kernel_rfl) (an := impl_MulWords.ann) (args := [(.int .i64 x0), (.int .i64 x1)]) (Eq.mpr (by kernel_rfl) h)

theorem impl_MulWords.con {x0 : Int} {x1 : Int} {r : Int} {w : World} (hr : r = M.impl_MulWords x0 x1)  :
    Cll Tryz.prog 233 #[(.int .i64 x0), (.int .i64 x1)] w (fun v_ w_ => v_ = (.int .i64 r) ∧ Ext w w_) := by
  have H := wp.impl_MulWords.math x0 x1
  have hB := Ext.refl w
  refine impl_MulWords.start ?_
  unfold impl_MulWords.vc
  unfold wp.impl_MulWords at H
  obtain ⟨r21, hr22⟩ : ∃ r_, r_ = M.impl_wrapped x0 x1 (IntKind.wrap .i64 (x0 * x1)) := ⟨_, rfl⟩
  have H := H r21 hr22
  refine (impl_wrapped.con hr22 ).mono ?_
  rintro _ w24 ⟨rfl, e25⟩
  have hB := ethen hB e25
  refine ⟨r21, rfl, ?_⟩
  obtain rfl := hr.trans H.symm
  exact ⟨rfl, hB⟩
def impl_LessWords.vc (x0 : Int) (x1 : Int) (w : World) (K : Value → World → Prop) : Prop :=
  Cll Tryz.prog 227 #[(.int .i64 x0)] w fun v21 w22 => (∃ (b23 : Bool), v21 = (.bool b23) ∧ bcase b23 (Cll Tryz.prog 227 #[(.int .i64 x1)] w22 fun v24 w25 => (∃ (b26 : Bool), v24 = (.bool b26) ∧ bcase b26 (bcase (decide (x0 < x1)) (K (.int .i64 1) w25) (K (.int .i64 0) w25)) (K (.int .i64 0) w25))) (K (.int .i64 0) w22))

def impl_LessWords.ann : Ann := (.seq .l (.seq (.seq .l (.two (.seq .l .l) .l)) (.seq .l .l)))

theorem impl_LessWords.start {x0 : Int} {x1 : Int} {w : World} {K : Value → World → Prop} (h : impl_LessWords.vc x0 x1 w K) : Cll Tryz.prog 234 #[(.int .i64 x0), (.int .i64 x1)] w K :=
  vcF_sound mixed (fn := Tryz.f234) (by kernel_rfl) (by kernel_rfl) (an := impl_LessWords.ann) (args := [(.int .i64 x0), (.int .i64 x1)]) (Eq.mpr (by kernel_rfl) h)

theorem impl_LessWords.con {x0 : Int} {x1 : Int} {r : Int} {w : World} (hr : r = M.impl_LessWords x0 x1)  :
    Cll Tryz.prog 234 #[(.int .i64 x0), (.int .i64 x1)] w (fun v_ w_ => v_ = (.int .i64 r) ∧ Ext w w_) := by
  have H := wp.impl_LessWords.math x0 x1
  have hB := Ext.refl w
  refine impl_LessWords.start ?_
  unfold impl_LessWords.vc
  unfold wp.impl_LessWords at H
  obtain ⟨r21, hr22⟩ : ∃ r_, r_ = M.impl_IsWord x0 := ⟨_, rfl⟩
  have H := H r21 hr22
  refine (impl_IsWord.con hr22 ).mono ?_
  rintro _ w24 ⟨rfl, e25⟩
  have hB := ethen hB e25
  refine ⟨r21, rfl, ?_⟩
  refine bcase_mk (fun hc33 => ?_) (fun hc33 => ?_)
  · have H := (bcase_iff.1 H).1 hc33
    obtain ⟨r26, hr27⟩ : ∃ r_, r_ = M.impl_IsWord x1 := ⟨_, rfl⟩
    have H := H r26 hr27
    refine (impl_IsWord.con hr27 ).mono ?_
    rintro _ w29 ⟨rfl, e30⟩
    have hB := ethen hB e30
    refine ⟨r26, rfl, ?_⟩
    refine bcase_mk (fun hc32 => ?_) (fun hc32 => ?_)
    · have H := (bcase_iff.1 H).1 hc32
      refine bcase_mk (fun hc31 => ?_) (fun hc31 => ?_)
      · have H := (bcase_iff.1 H).1 hc31
        obtain rfl := hr.trans H.symm
        exact ⟨rfl, hB⟩
      have H := (bcase_iff.1 H).2 hc31
      obtain rfl := hr.trans H.symm
      exact ⟨rfl, hB⟩
    have H := (bcase_iff.1 H).2 hc32
    obtain rfl := hr.trans H.symm
    exact ⟨rfl, hB⟩
  have H := (bcase_iff.1 H).2 hc33
  obtain rfl := hr.trans H.symm
  exact ⟨rfl, hB⟩
def impl_apply.vc (x0_0 : Int) (x0_1 : Int) (x0_2 : Int) (x0_3 : Int) (x1 : Int) (A2 : Option Addr) (n2 : Nat) (c2 : Nat) (w : World) (K : Value → World → Prop) : Prop :=
  newK w (.cells #[(.int .i64 x0_0), (.int .i64 x0_1), (.int .i64 x0_2), (.int .i64 x0_3)] 89) fun g21 w22 => ∃ (n23 : Int), w22.cell? (((⟨g21, 0, none⟩ : Addr).add 0).add 0) = some (.int .i64 n23) ∧ bcase (n23 == 1) (∃ (n24 : Int), w22.cell? (((⟨g21, 0, none⟩ : Addr).add 1).add 0) = some (.int .i64 n24) ∧ ∃ (n25 : Int), w22.cell? (((⟨g21, 0, none⟩ : Addr).add 2).add 0) = some (.int .i64 n25) ∧ ((0 : Int) ≤ n24 ∧ n24 < ((n2 : Nat) : Int) ∧ ∃ a26 : Addr, A2 = some a26 ∧ stCells (a26.add ((n24.toNat) * 1)) [(.int .i64 n25)] 0 w22 fun w27 => K (.tuple #[]) w27)) (bcase (n23 == 2) ((∃ M28 : Nat → Prop, ∃ (n29 : Int), (¬ M28 (((⟨g21, 0, none⟩ : Addr).add 1)).block ∧ w22.cell? (((⟨g21, 0, none⟩ : Addr).add 1).add 0) = some (.int .i64 n29)) ∧ ∃ (n30 : Int), (¬ M28 (((⟨g21, 0, none⟩ : Addr).add 2)).block ∧ w22.cell? (((⟨g21, 0, none⟩ : Addr).add 2).add 0) = some (.int .i64 n30)) ∧ ((0 : Int) ≤ n30 ∧ n30 < ((n2 : Nat) : Int) ∧ ∃ a31 : Addr, A2 = some a31 ∧ ∃ (n32 : Int), (¬ M28 ((a31.add ((n30.toNat) * 1))).block ∧ w22.cell? ((a31.add ((n30.toNat) * 1)).add 0) = some (.int .i64 n32)) ∧ ((0 : Int) ≤ n29 ∧ n29 < ((n2 : Nat) : Int) ∧ ∃ a33 : Addr, A2 = some a33 ∧ stCells (a33.add ((n29.toNat) * 1)) [(.int .i64 n32)] 0 w22.drew fun w34 => K (.tuple #[]) w34)))) (bcase (n23 == 3) ((∃ M35 : Nat → Prop, ∃ (n36 : Int), (¬ M35 (((⟨g21, 0, none⟩ : Addr).add 1)).block ∧ w22.cell? (((⟨g21, 0, none⟩ : Addr).add 1).add 0) = some (.int .i64 n36)) ∧ ∃ (n37 : Int), (¬ M35 (((⟨g21, 0, none⟩ : Addr).add 2)).block ∧ w22.cell? (((⟨g21, 0, none⟩ : Addr).add 2).add 0) = some (.int .i64 n37)) ∧ ((0 : Int) ≤ n37 ∧ n37 < ((n2 : Nat) : Int) ∧ ∃ a38 : Addr, A2 = some a38 ∧ ∃ (n39 : Int), (¬ M35 ((a38.add ((n37.toNat) * 1))).block ∧ w22.cell? ((a38.add ((n37.toNat) * 1)).add 0) = some (.int .i64 n39)) ∧ ∃ (n40 : Int), (¬ M35 (((⟨g21, 0, none⟩ : Addr).add 3)).block ∧ w22.cell? (((⟨g21, 0, none⟩ : Addr).add 3).add 0) = some (.int .i64 n40)) ∧ ((0 : Int) ≤ n40 ∧ n40 < ((n2 : Nat) : Int) ∧ ∃ a41 : Addr, A2 = some a41 ∧ ∃ (n42 : Int), (¬ M35 ((a41.add ((n40.toNat) * 1))).block ∧ w22.cell? ((a41.add ((n40.toNat) * 1)).add 0) = some (.int .i64 n42)) ∧ Cll Tryz.prog 218 #[(.int .i64 n39), (.int .i64 n42)] w22.drew fun v43 w44 => (∃ (n45 : Int), v43 = (.int .i64 n45) ∧ SameBut M35 w22 w44 ∧ ((0 : Int) ≤ n36 ∧ n36 < ((n2 : Nat) : Int) ∧ ∃ a46 : Addr, A2 = some a46 ∧ stCells (a46.add ((n36.toNat) * 1)) [(.int .i64 n45)] 0 w44 fun w47 => K (.tuple #[]) w47)))))) (bcase (n23 == 4) ((∃ M48 : Nat → Prop, ∃ (n49 : Int), (¬ M48 (((⟨g21, 0, none⟩ : Addr).add 1)).block ∧ w22.cell? (((⟨g21, 0, none⟩ : Addr).add 1).add 0) = some (.int .i64 n49)) ∧ ∃ (n50 : Int), (¬ M48 (((⟨g21, 0, none⟩ : Addr).add 2)).block ∧ w22.cell? (((⟨g21, 0, none⟩ : Addr).add 2).add 0) = some (.int .i64 n50)) ∧ ((0 : Int) ≤ n50 ∧ n50 < ((n2 : Nat) : Int) ∧ ∃ a51 : Addr, A2 = some a51 ∧ ∃ (n52 : Int), (¬ M48 ((a51.add ((n50.toNat) * 1))).block ∧ w22.cell? ((a51.add ((n50.toNat) * 1)).add 0) = some (.int .i64 n52)) ∧ ∃ (n53 : Int), (¬ M48 (((⟨g21, 0, none⟩ : Addr).add 3)).block ∧ w22.cell? (((⟨g21, 0, none⟩ : Addr).add 3).add 0) = some (.int .i64 n53)) ∧ ((0 : Int) ≤ n53 ∧ n53 < ((n2 : Nat) : Int) ∧ ∃ a54 : Addr, A2 = some a54 ∧ ∃ (n55 : Int), (¬ M48 ((a54.add ((n53.toNat) * 1))).block ∧ w22.cell? ((a54.add ((n53.toNat) * 1)).add 0) = some (.int .i64 n55)) ∧ Cll Tryz.prog 232 #[(.int .i64 n52), (.int .i64 n55)] w22.drew fun v56 w57 => (∃ (n58 : Int), v56 = (.int .i64 n58) ∧ SameBut M48 w22 w57 ∧ ((0 : Int) ≤ n49 ∧ n49 < ((n2 : Nat) : Int) ∧ ∃ a59 : Addr, A2 = some a59 ∧ stCells (a59.add ((n49.toNat) * 1)) [(.int .i64 n58)] 0 w57 fun w60 => K (.tuple #[]) w60)))))) (bcase (n23 == 5) ((∃ M61 : Nat → Prop, ∃ (n62 : Int), (¬ M61 (((⟨g21, 0, none⟩ : Addr).add 1)).block ∧ w22.cell? (((⟨g21, 0, none⟩ : Addr).add 1).add 0) = some (.int .i64 n62)) ∧ ∃ (n63 : Int), (¬ M61 (((⟨g21, 0, none⟩ : Addr).add 2)).block ∧ w22.cell? (((⟨g21, 0, none⟩ : Addr).add 2).add 0) = some (.int .i64 n63)) ∧ ((0 : Int) ≤ n63 ∧ n63 < ((n2 : Nat) : Int) ∧ ∃ a64 : Addr, A2 = some a64 ∧ ∃ (n65 : Int), (¬ M61 ((a64.add ((n63.toNat) * 1))).block ∧ w22.cell? ((a64.add ((n63.toNat) * 1)).add 0) = some (.int .i64 n65)) ∧ ∃ (n66 : Int), (¬ M61 (((⟨g21, 0, none⟩ : Addr).add 3)).block ∧ w22.cell? (((⟨g21, 0, none⟩ : Addr).add 3).add 0) = some (.int .i64 n66)) ∧ ((0 : Int) ≤ n66 ∧ n66 < ((n2 : Nat) : Int) ∧ ∃ a67 : Addr, A2 = some a67 ∧ ∃ (n68 : Int), (¬ M61 ((a67.add ((n66.toNat) * 1))).block ∧ w22.cell? ((a67.add ((n66.toNat) * 1)).add 0) = some (.int .i64 n68)) ∧ Cll Tryz.prog 233 #[(.int .i64 n65), (.int .i64 n68)] w22.drew fun v69 w70 => (∃ (n71 : Int), v69 = (.int .i64 n71) ∧ SameBut M61 w22 w70 ∧ ((0 : Int) ≤ n62 ∧ n62 < ((n2 : Nat) : Int) ∧ ∃ a72 : Addr, A2 = some a72 ∧ stCells (a72.add ((n62.toNat) * 1)) [(.int .i64 n71)] 0 w70 fun w73 => K (.tuple #[]) w73)))))) (bcase (n23 == 6) ((∃ M74 : Nat → Prop, ∃ (n75 : Int), (¬ M74 (((⟨g21, 0, none⟩ : Addr).add 1)).block ∧ w22.cell? (((⟨g21, 0, none⟩ : Addr).add 1).add 0) = some (.int .i64 n75)) ∧ ∃ (n76 : Int), (¬ M74 (((⟨g21, 0, none⟩ : Addr).add 2)).block ∧ w22.cell? (((⟨g21, 0, none⟩ : Addr).add 2).add 0) = some (.int .i64 n76)) ∧ ((0 : Int) ≤ n76 ∧ n76 < ((n2 : Nat) : Int) ∧ ∃ a77 : Addr, A2 = some a77 ∧ ∃ (n78 : Int), (¬ M74 ((a77.add ((n76.toNat) * 1))).block ∧ w22.cell? ((a77.add ((n76.toNat) * 1)).add 0) = some (.int .i64 n78)) ∧ ∃ (n79 : Int), (¬ M74 (((⟨g21, 0, none⟩ : Addr).add 3)).block ∧ w22.cell? (((⟨g21, 0, none⟩ : Addr).add 3).add 0) = some (.int .i64 n79)) ∧ ((0 : Int) ≤ n79 ∧ n79 < ((n2 : Nat) : Int) ∧ ∃ a80 : Addr, A2 = some a80 ∧ ∃ (n81 : Int), (¬ M74 ((a80.add ((n79.toNat) * 1))).block ∧ w22.cell? ((a80.add ((n79.toNat) * 1)).add 0) = some (.int .i64 n81)) ∧ ((0 : Int) ≤ n75 ∧ n75 < ((n2 : Nat) : Int) ∧ ∃ a82 : Addr, A2 = some a82 ∧ stCells (a82.add ((n75.toNat) * 1)) [(.int .i64 (bitXor .i64 n78 n81))] 0 w22.drew fun w83 => K (.tuple #[]) w83))))) (bcase (n23 == 7) ((∃ M84 : Nat → Prop, ∃ (n85 : Int), (¬ M84 (((⟨g21, 0, none⟩ : Addr).add 1)).block ∧ w22.cell? (((⟨g21, 0, none⟩ : Addr).add 1).add 0) = some (.int .i64 n85)) ∧ ∃ (n86 : Int), (¬ M84 (((⟨g21, 0, none⟩ : Addr).add 2)).block ∧ w22.cell? (((⟨g21, 0, none⟩ : Addr).add 2).add 0) = some (.int .i64 n86)) ∧ ((0 : Int) ≤ n86 ∧ n86 < ((n2 : Nat) : Int) ∧ ∃ a87 : Addr, A2 = some a87 ∧ ∃ (n88 : Int), (¬ M84 ((a87.add ((n86.toNat) * 1))).block ∧ w22.cell? ((a87.add ((n86.toNat) * 1)).add 0) = some (.int .i64 n88)) ∧ ∃ (n89 : Int), (¬ M84 (((⟨g21, 0, none⟩ : Addr).add 3)).block ∧ w22.cell? (((⟨g21, 0, none⟩ : Addr).add 3).add 0) = some (.int .i64 n89)) ∧ ((0 : Int) ≤ n89 ∧ n89 < ((n2 : Nat) : Int) ∧ ∃ a90 : Addr, A2 = some a90 ∧ ∃ (n91 : Int), (¬ M84 ((a90.add ((n89.toNat) * 1))).block ∧ w22.cell? ((a90.add ((n89.toNat) * 1)).add 0) = some (.int .i64 n91)) ∧ Cll Tryz.prog 234 #[(.int .i64 n88), (.int .i64 n91)] w22.drew fun v92 w93 => (∃ (n94 : Int), v92 = (.int .i64 n94) ∧ SameBut M84 w22 w93 ∧ ((0 : Int) ≤ n85 ∧ n85 < ((n2 : Nat) : Int) ∧ ∃ a95 : Addr, A2 = some a95 ∧ stCells (a95.add ((n85.toNat) * 1)) [(.int .i64 n94)] 0 w93 fun w96 => K (.tuple #[]) w96)))))) (bcase (n23 == 8) (∃ (n97 : Int), w22.cell? (((⟨g21, 0, none⟩ : Addr).add 1).add 0) = some (.int .i64 n97) ∧ ((0 : Int) ≤ n97 ∧ n97 < ((n2 : Nat) : Int) ∧ ∃ a98 : Addr, A2 = some a98 ∧ stCells (a98.add ((n97.toNat) * 1)) [(.int .i64 x1)] 0 w22 fun w99 => K (.tuple #[]) w99)) (bcase (n23 == 9) (∃ (n100 : Int), w22.cell? (((⟨g21, 0, none⟩ : Addr).add 3).add 0) = some (.int .i64 n100) ∧ ((0 : Int) ≤ n100 ∧ n100 < ((n2 : Nat) : Int) ∧ ∃ a101 : Addr, A2 = some a101 ∧ ∃ (n102 : Int), w22.cell? ((a101.add ((n100.toNat) * 1)).add 0) = some (.int .i64 n102) ∧ bcase (n102 != 0) ((∃ M103 : Nat → Prop, ∃ (n104 : Int), (¬ M103 (((⟨g21, 0, none⟩ : Addr).add 1)).block ∧ w22.cell? (((⟨g21, 0, none⟩ : Addr).add 1).add 0) = some (.int .i64 n104)) ∧ ∃ (n105 : Int), (¬ M103 (((⟨g21, 0, none⟩ : Addr).add 2)).block ∧ w22.cell? (((⟨g21, 0, none⟩ : Addr).add 2).add 0) = some (.int .i64 n105)) ∧ ((0 : Int) ≤ n105 ∧ n105 < ((n2 : Nat) : Int) ∧ ∃ a106 : Addr, A2 = some a106 ∧ ∃ (n107 : Int), (¬ M103 ((a106.add ((n105.toNat) * 1))).block ∧ w22.cell? ((a106.add ((n105.toNat) * 1)).add 0) = some (.int .i64 n107)) ∧ ((0 : Int) ≤ n104 ∧ n104 < ((n2 : Nat) : Int) ∧ ∃ a108 : Addr, A2 = some a108 ∧ stCells (a108.add ((n104.toNat) * 1)) [(.int .i64 n107)] 0 w22.drew fun w109 => K (.tuple #[]) w109)))) (K (.tuple #[]) w22))) (K (.tuple #[]) w22)))))))))

def impl_apply.ann : Ann := (.seq .l (.seq .l (.one (.seq .l (.two .l (.seq .l (.two .l (.seq .l (.two .l (.seq .l (.two .l (.seq .l (.two .l (.seq .l (.two .l (.seq .l (.two .l (.seq .l (.two .l (.seq .l (.two (.seq .l (.two .l .l)) .l)))))))))))))))))))))

theorem impl_apply.start {x0_0 : Int} {x0_1 : Int} {x0_2 : Int} {x0_3 : Int} {x1 : Int} {A2 : Option Addr} {n2 : Nat} {c2 : Nat} {w : World} {K : Value → World → Prop} (h : impl_apply.vc x0_0 x0_1 x0_2 x0_3 x1 A2 n2 c2 w K) : Cll Tryz.prog 201 #[(.agg #[(.int .i64 x0_0), (.int .i64 x0_1), (.int .i64 x0_2), (.int .i64 x0_3)]), (.int .i64 x1), (.slice A2 n2 c2)] w K :=
  vcF_sound mixed (fn := Tryz.f201) (by kernel_rfl) (by kernel_rfl) (an := impl_apply.ann) (args := [(.agg #[(.int .i64 x0_0), (.int .i64 x0_1), (.int .i64 x0_2), (.int .i64 x0_3)]), (.int .i64 x1), (.slice A2 n2 c2)]) (Eq.mpr (by kernel_rfl) h)

theorem impl_apply.con {s0 : D.Ins} {x1 : Int} {xs2 : List Int} {A2 : Option Addr} {c2 : Nat} {r : (List Int)} {w : World} (hp : M.impl_apply_pre s0 x1 xs2) (hr : r = M.impl_apply s0 x1 xs2) (O1 : Own el3 w 0 A2 c2 xs2) :
    Cll Tryz.prog 201 #[(.agg #[(.int .i64 s0.Op), (.int .i64 s0.A), (.int .i64 s0.B), (.int .i64 s0.C)]), (.int .i64 x1), (.slice A2 xs2.length c2)] w (fun v_ w_ => v_ = (.tuple #[]) ∧ Own el3 w_ 0 A2 c2 r ∧ r.length = xs2.length ∧ Chg (InB A2) w w_) := by
  have H := wp.impl_apply.math s0 x1 xs2 hp
  have hB := Chg.refl (InB A2) w
  refine impl_apply.start ?_
  unfold impl_apply.vc
  unfold wp.impl_apply at H
  refine newBlk (fun g2_ w21 L2 P2 e22 => ?_)
  have N1_2 := O1.apart_new L2
  have O1 := O1.ext e22
  have O2 := P2
  have L2 := Nat.le_trans hB.size L2
  have hB := hB.then e22
  refine ⟨_, (O2.at 0 rfl rfl), ?_⟩
  refine bcase_mk (fun hc276 => ?_) (fun hc276 => ?_)
  · have H := (bcase_iff.1 H).1 hc276
    refine ⟨_, (O2.at 1 rfl rfl), ?_⟩
    refine ⟨_, (O2.at 2 rfl rfl), ?_⟩
    obtain ⟨⟨h0_26, h1_27⟩, H⟩ := H
    obtain ⟨a24, ha25, hat23⟩ := Row.at O1.row h0_26 h1_27
    refine ⟨h0_26, h1_27, a24, ha25, ?_⟩
    refine Own.storeAt O1 ha25 h0_26 h1_27 0 [(.int .i64 s0.B)] s0.B rfl (Nat.le_of_ble_eq_true rfl) rfl (fun w28 P1 e29 hb30 => ?_)
    have O2_ := O2.chg e29 (fun h_ => (N1_2) _ ha25 h_.symm)
    have O2 := O2_
    have hB := hB.chgb e29 (Or.inr ⟨_, ha25, rfl⟩)
    have O1 := P1
    obtain rfl := hr.trans H.symm
    exact ⟨rfl, O1, (by first | (simp only [List.length_set]; done) | (simp only [List.length_set, List.length_set]; done) | (simp; done) | (simp; omega) | omega), hB⟩
  have H := (bcase_iff.1 H).2 hc276
  refine bcase_mk (fun hc275 => ?_) (fun hc275 => ?_)
  · have H := (bcase_iff.1 H).1 hc275
    refine ⟨(fun _ => False), ?_⟩
    refine ⟨_, ⟨(fun h_ => h_), (O2.at 1 rfl rfl)⟩, ?_⟩
    refine ⟨_, ⟨(fun h_ => h_), (O2.at 2 rfl rfl)⟩, ?_⟩
    obtain ⟨⟨h0_35, h1_36⟩, H⟩ := H
    obtain ⟨a33, ha34, hat32⟩ := Row.at O1.row h0_35 h1_36
    refine ⟨h0_35, h1_36, a33, ha34, ?_⟩
    refine ⟨_, ⟨(fun h_ => h_), (hat32 0 _ rfl)⟩, ?_⟩
    obtain ⟨⟨h0_40, h1_41⟩, H⟩ := H
    obtain ⟨a38, ha39, hat37⟩ := Row.at O1.row h0_40 h1_41
    refine ⟨h0_40, h1_41, a38, ha39, ?_⟩
    have hS31 := Chg.refl (fun _ => False) w21
    have O1 := O1.ext (Ext.drew _)
    have O2 := O2.ext (Ext.drew _)
    have hB := hB.then (Ext.drew _)
    have hS31 := hS31.then (Ext.drew _)
    refine Own.storeAt O1 ha39 h0_40 h1_41 0 [(.int .i64 (rd xs2 s0.B))] (rd xs2 s0.B) rfl (Nat.le_of_ble_eq_true rfl) rfl (fun w42 P1 e43 hb44 => ?_)
    have O2_ := O2.chg e43 (fun h_ => (N1_2) _ ha39 h_.symm)
    have O2 := O2_
    have hB := hB.chgb e43 (Or.inr ⟨_, ha39, rfl⟩)
    have O1 := P1
    obtain rfl := hr.trans H.symm
    exact ⟨rfl, O1, (by first | (simp only [List.length_set]; done) | (simp only [List.length_set, List.length_set]; done) | (simp; done) | (simp; omega) | omega), hB⟩
  have H := (bcase_iff.1 H).2 hc275
  refine bcase_mk (fun hc274 => ?_) (fun hc274 => ?_)
  · have H := (bcase_iff.1 H).1 hc274
    refine ⟨(fun _ => False), ?_⟩
    have hBz := hB
    have Z1 := O1
    have Z2 := O2
    refine ⟨_, ⟨(fun h_ => h_), (O2.at 1 rfl rfl)⟩, ?_⟩
    refine ⟨_, ⟨(fun h_ => h_), (O2.at 2 rfl rfl)⟩, ?_⟩
    obtain ⟨⟨h0_69, h1_70⟩, H⟩ := H
    obtain ⟨a67, ha68, hat66⟩ := Row.at O1.row h0_69 h1_70
    refine ⟨h0_69, h1_70, a67, ha68, ?_⟩
    refine ⟨_, ⟨(fun h_ => h_), (hat66 0 _ rfl)⟩, ?_⟩
    refine ⟨_, ⟨(fun h_ => h_), (O2.at 3 rfl rfl)⟩, ?_⟩
    obtain ⟨⟨h0_74, h1_75⟩, H⟩ := H
    obtain ⟨a72, ha73, hat71⟩ := Row.at O1.row h0_74 h1_75
    refine ⟨h0_74, h1_75, a72, ha73, ?_⟩
    refine ⟨_, ⟨(fun h_ => h_), (hat71 0 _ rfl)⟩, ?_⟩
    have hS45 := Chg.refl (fun _ => False) w21
    have O1 := O1.ext (Ext.drew _)
    have O2 := O2.ext (Ext.drew _)
    have hB := hB.then (Ext.drew _)
    have hS45 := hS45.then (Ext.drew _)
    obtain ⟨r76, hr77⟩ : ∃ r_, r_ = M.impl_AddWords (rd xs2 s0.B) (rd xs2 s0.C) := ⟨_, rfl⟩
    have H := H r76 hr77
    refine (impl_AddWords.con hr77 ).mono ?_
    rintro _ w79 ⟨rfl, e80⟩
    have O1 := O1.ext e80
    have O2 := O2.ext e80
    have hB := hB.then e80
    have hS45 := hS45.then e80
    refine ⟨r76, rfl, ?_⟩
    refine ⟨sameBut_chg hS45, ?_⟩
    obtain ⟨⟨h0_84, h1_85⟩, H⟩ := H
    obtain ⟨a82, ha83, hat81⟩ := Row.at Z1.row h0_84 h1_85
    refine ⟨h0_84, h1_85, a82, ha83, ?_⟩
    refine Own.storeAt O1 ha83 h0_84 h1_85 0 [(.int .i64 r76)] r76 rfl (Nat.le_of_ble_eq_true rfl) rfl (fun w86 P1 e87 hb88 => ?_)
    have O2_ := O2.chg e87 (fun h_ => (N1_2) _ ha83 h_.symm)
    have O2 := O2_
    have hB := hB.chgb e87 (Or.inr ⟨_, ha83, rfl⟩)
    have O1 := P1
    obtain rfl := hr.trans H.symm
    exact ⟨rfl, O1, (by first | (simp only [List.length_set]; done) | (simp only [List.length_set, List.length_set]; done) | (simp; done) | (simp; omega) | omega), hB⟩
  have H := (bcase_iff.1 H).2 hc274
  refine bcase_mk (fun hc273 => ?_) (fun hc273 => ?_)
  · have H := (bcase_iff.1 H).1 hc273
    refine ⟨(fun _ => False), ?_⟩
    have hBz := hB
    have Z1 := O1
    have Z2 := O2
    refine ⟨_, ⟨(fun h_ => h_), (O2.at 1 rfl rfl)⟩, ?_⟩
    refine ⟨_, ⟨(fun h_ => h_), (O2.at 2 rfl rfl)⟩, ?_⟩
    obtain ⟨⟨h0_113, h1_114⟩, H⟩ := H
    obtain ⟨a111, ha112, hat110⟩ := Row.at O1.row h0_113 h1_114
    refine ⟨h0_113, h1_114, a111, ha112, ?_⟩
    refine ⟨_, ⟨(fun h_ => h_), (hat110 0 _ rfl)⟩, ?_⟩
    refine ⟨_, ⟨(fun h_ => h_), (O2.at 3 rfl rfl)⟩, ?_⟩
    obtain ⟨⟨h0_118, h1_119⟩, H⟩ := H
    obtain ⟨a116, ha117, hat115⟩ := Row.at O1.row h0_118 h1_119
    refine ⟨h0_118, h1_119, a116, ha117, ?_⟩
    refine ⟨_, ⟨(fun h_ => h_), (hat115 0 _ rfl)⟩, ?_⟩
    have hS89 := Chg.refl (fun _ => False) w21
    have O1 := O1.ext (Ext.drew _)
    have O2 := O2.ext (Ext.drew _)
    have hB := hB.then (Ext.drew _)
    have hS89 := hS89.then (Ext.drew _)
    obtain ⟨r120, hr121⟩ : ∃ r_, r_ = M.impl_SubWords (rd xs2 s0.B) (rd xs2 s0.C) := ⟨_, rfl⟩
    have H := H r120 hr121
    refine (impl_SubWords.con hr121 ).mono ?_
    rintro _ w123 ⟨rfl, e124⟩
    have O1 := O1.ext e124
    have O2 := O2.ext e124
    have hB := hB.then e124
    have hS89 := hS89.then e124
    refine ⟨r120, rfl, ?_⟩
    refine ⟨sameBut_chg hS89, ?_⟩
    obtain ⟨⟨h0_128, h1_129⟩, H⟩ := H
    obtain ⟨a126, ha127, hat125⟩ := Row.at Z1.row h0_128 h1_129
    refine ⟨h0_128, h1_129, a126, ha127, ?_⟩
    refine Own.storeAt O1 ha127 h0_128 h1_129 0 [(.int .i64 r120)] r120 rfl (Nat.le_of_ble_eq_true rfl) rfl (fun w130 P1 e131 hb132 => ?_)
    have O2_ := O2.chg e131 (fun h_ => (N1_2) _ ha127 h_.symm)
    have O2 := O2_
    have hB := hB.chgb e131 (Or.inr ⟨_, ha127, rfl⟩)
    have O1 := P1
    obtain rfl := hr.trans H.symm
    exact ⟨rfl, O1, (by first | (simp only [List.length_set]; done) | (simp only [List.length_set, List.length_set]; done) | (simp; done) | (simp; omega) | omega), hB⟩
  have H := (bcase_iff.1 H).2 hc273
  refine bcase_mk (fun hc272 => ?_) (fun hc272 => ?_)
  · have H := (bcase_iff.1 H).1 hc272
    refine ⟨(fun _ => False), ?_⟩
    have hBz := hB
    have Z1 := O1
    have Z2 := O2
    refine ⟨_, ⟨(fun h_ => h_), (O2.at 1 rfl rfl)⟩, ?_⟩
    refine ⟨_, ⟨(fun h_ => h_), (O2.at 2 rfl rfl)⟩, ?_⟩
    obtain ⟨⟨h0_157, h1_158⟩, H⟩ := H
    obtain ⟨a155, ha156, hat154⟩ := Row.at O1.row h0_157 h1_158
    refine ⟨h0_157, h1_158, a155, ha156, ?_⟩
    refine ⟨_, ⟨(fun h_ => h_), (hat154 0 _ rfl)⟩, ?_⟩
    refine ⟨_, ⟨(fun h_ => h_), (O2.at 3 rfl rfl)⟩, ?_⟩
    obtain ⟨⟨h0_162, h1_163⟩, H⟩ := H
    obtain ⟨a160, ha161, hat159⟩ := Row.at O1.row h0_162 h1_163
    refine ⟨h0_162, h1_163, a160, ha161, ?_⟩
    refine ⟨_, ⟨(fun h_ => h_), (hat159 0 _ rfl)⟩, ?_⟩
    have hS133 := Chg.refl (fun _ => False) w21
    have O1 := O1.ext (Ext.drew _)
    have O2 := O2.ext (Ext.drew _)
    have hB := hB.then (Ext.drew _)
    have hS133 := hS133.then (Ext.drew _)
    obtain ⟨r164, hr165⟩ : ∃ r_, r_ = M.impl_MulWords (rd xs2 s0.B) (rd xs2 s0.C) := ⟨_, rfl⟩
    have H := H r164 hr165
    refine (impl_MulWords.con hr165 ).mono ?_
    rintro _ w167 ⟨rfl, e168⟩
    have O1 := O1.ext e168
    have O2 := O2.ext e168
    have hB := hB.then e168
    have hS133 := hS133.then e168
    refine ⟨r164, rfl, ?_⟩
    refine ⟨sameBut_chg hS133, ?_⟩
    obtain ⟨⟨h0_172, h1_173⟩, H⟩ := H
    obtain ⟨a170, ha171, hat169⟩ := Row.at Z1.row h0_172 h1_173
    refine ⟨h0_172, h1_173, a170, ha171, ?_⟩
    refine Own.storeAt O1 ha171 h0_172 h1_173 0 [(.int .i64 r164)] r164 rfl (Nat.le_of_ble_eq_true rfl) rfl (fun w174 P1 e175 hb176 => ?_)
    have O2_ := O2.chg e175 (fun h_ => (N1_2) _ ha171 h_.symm)
    have O2 := O2_
    have hB := hB.chgb e175 (Or.inr ⟨_, ha171, rfl⟩)
    have O1 := P1
    obtain rfl := hr.trans H.symm
    exact ⟨rfl, O1, (by first | (simp only [List.length_set]; done) | (simp only [List.length_set, List.length_set]; done) | (simp; done) | (simp; omega) | omega), hB⟩
  have H := (bcase_iff.1 H).2 hc272
  refine bcase_mk (fun hc271 => ?_) (fun hc271 => ?_)
  · have H := (bcase_iff.1 H).1 hc271
    refine ⟨(fun _ => False), ?_⟩
    refine ⟨_, ⟨(fun h_ => h_), (O2.at 1 rfl rfl)⟩, ?_⟩
    refine ⟨_, ⟨(fun h_ => h_), (O2.at 2 rfl rfl)⟩, ?_⟩
    obtain ⟨⟨h0_181, h1_182⟩, H⟩ := H
    obtain ⟨a179, ha180, hat178⟩ := Row.at O1.row h0_181 h1_182
    refine ⟨h0_181, h1_182, a179, ha180, ?_⟩
    refine ⟨_, ⟨(fun h_ => h_), (hat178 0 _ rfl)⟩, ?_⟩
    refine ⟨_, ⟨(fun h_ => h_), (O2.at 3 rfl rfl)⟩, ?_⟩
    obtain ⟨⟨h0_186, h1_187⟩, H⟩ := H
    obtain ⟨a184, ha185, hat183⟩ := Row.at O1.row h0_186 h1_187
    refine ⟨h0_186, h1_187, a184, ha185, ?_⟩
    refine ⟨_, ⟨(fun h_ => h_), (hat183 0 _ rfl)⟩, ?_⟩
    obtain ⟨⟨h0_191, h1_192⟩, H⟩ := H
    obtain ⟨a189, ha190, hat188⟩ := Row.at O1.row h0_191 h1_192
    refine ⟨h0_191, h1_192, a189, ha190, ?_⟩
    have hS177 := Chg.refl (fun _ => False) w21
    have O1 := O1.ext (Ext.drew _)
    have O2 := O2.ext (Ext.drew _)
    have hB := hB.then (Ext.drew _)
    have hS177 := hS177.then (Ext.drew _)
    refine Own.storeAt O1 ha190 h0_191 h1_192 0 [(.int .i64 (bitXor .i64 (rd xs2 s0.B) (rd xs2 s0.C)))] (bitXor .i64 (rd xs2 s0.B) (rd xs2 s0.C)) rfl (Nat.le_of_ble_eq_true rfl) rfl (fun w193 P1 e194 hb195 => ?_)
    have O2_ := O2.chg e194 (fun h_ => (N1_2) _ ha190 h_.symm)
    have O2 := O2_
    have hB := hB.chgb e194 (Or.inr ⟨_, ha190, rfl⟩)
    have O1 := P1
    obtain rfl := hr.trans H.symm
    exact ⟨rfl, O1, (by first | (simp only [List.length_set]; done) | (simp only [List.length_set, List.length_set]; done) | (simp; done) | (simp; omega) | omega), hB⟩
  have H := (bcase_iff.1 H).2 hc271
  refine bcase_mk (fun hc270 => ?_) (fun hc270 => ?_)
  · have H := (bcase_iff.1 H).1 hc270
    refine ⟨(fun _ => False), ?_⟩
    have hBz := hB
    have Z1 := O1
    have Z2 := O2
    refine ⟨_, ⟨(fun h_ => h_), (O2.at 1 rfl rfl)⟩, ?_⟩
    refine ⟨_, ⟨(fun h_ => h_), (O2.at 2 rfl rfl)⟩, ?_⟩
    obtain ⟨⟨h0_220, h1_221⟩, H⟩ := H
    obtain ⟨a218, ha219, hat217⟩ := Row.at O1.row h0_220 h1_221
    refine ⟨h0_220, h1_221, a218, ha219, ?_⟩
    refine ⟨_, ⟨(fun h_ => h_), (hat217 0 _ rfl)⟩, ?_⟩
    refine ⟨_, ⟨(fun h_ => h_), (O2.at 3 rfl rfl)⟩, ?_⟩
    obtain ⟨⟨h0_225, h1_226⟩, H⟩ := H
    obtain ⟨a223, ha224, hat222⟩ := Row.at O1.row h0_225 h1_226
    refine ⟨h0_225, h1_226, a223, ha224, ?_⟩
    refine ⟨_, ⟨(fun h_ => h_), (hat222 0 _ rfl)⟩, ?_⟩
    have hS196 := Chg.refl (fun _ => False) w21
    have O1 := O1.ext (Ext.drew _)
    have O2 := O2.ext (Ext.drew _)
    have hB := hB.then (Ext.drew _)
    have hS196 := hS196.then (Ext.drew _)
    obtain ⟨r227, hr228⟩ : ∃ r_, r_ = M.impl_LessWords (rd xs2 s0.B) (rd xs2 s0.C) := ⟨_, rfl⟩
    have H := H r227 hr228
    refine (impl_LessWords.con hr228 ).mono ?_
    rintro _ w230 ⟨rfl, e231⟩
    have O1 := O1.ext e231
    have O2 := O2.ext e231
    have hB := hB.then e231
    have hS196 := hS196.then e231
    refine ⟨r227, rfl, ?_⟩
    refine ⟨sameBut_chg hS196, ?_⟩
    obtain ⟨⟨h0_235, h1_236⟩, H⟩ := H
    obtain ⟨a233, ha234, hat232⟩ := Row.at Z1.row h0_235 h1_236
    refine ⟨h0_235, h1_236, a233, ha234, ?_⟩
    refine Own.storeAt O1 ha234 h0_235 h1_236 0 [(.int .i64 r227)] r227 rfl (Nat.le_of_ble_eq_true rfl) rfl (fun w237 P1 e238 hb239 => ?_)
    have O2_ := O2.chg e238 (fun h_ => (N1_2) _ ha234 h_.symm)
    have O2 := O2_
    have hB := hB.chgb e238 (Or.inr ⟨_, ha234, rfl⟩)
    have O1 := P1
    obtain rfl := hr.trans H.symm
    exact ⟨rfl, O1, (by first | (simp only [List.length_set]; done) | (simp only [List.length_set, List.length_set]; done) | (simp; done) | (simp; omega) | omega), hB⟩
  have H := (bcase_iff.1 H).2 hc270
  refine bcase_mk (fun hc269 => ?_) (fun hc269 => ?_)
  · have H := (bcase_iff.1 H).1 hc269
    refine ⟨_, (O2.at 1 rfl rfl), ?_⟩
    obtain ⟨⟨h0_243, h1_244⟩, H⟩ := H
    obtain ⟨a241, ha242, hat240⟩ := Row.at O1.row h0_243 h1_244
    refine ⟨h0_243, h1_244, a241, ha242, ?_⟩
    refine Own.storeAt O1 ha242 h0_243 h1_244 0 [(.int .i64 x1)] x1 rfl (Nat.le_of_ble_eq_true rfl) rfl (fun w245 P1 e246 hb247 => ?_)
    have O2_ := O2.chg e246 (fun h_ => (N1_2) _ ha242 h_.symm)
    have O2 := O2_
    have hB := hB.chgb e246 (Or.inr ⟨_, ha242, rfl⟩)
    have O1 := P1
    obtain rfl := hr.trans H.symm
    exact ⟨rfl, O1, (by first | (simp only [List.length_set]; done) | (simp only [List.length_set, List.length_set]; done) | (simp; done) | (simp; omega) | omega), hB⟩
  have H := (bcase_iff.1 H).2 hc269
  refine bcase_mk (fun hc268 => ?_) (fun hc268 => ?_)
  · have H := (bcase_iff.1 H).1 hc268
    refine ⟨_, (O2.at 3 rfl rfl), ?_⟩
    obtain ⟨⟨h0_251, h1_252⟩, H⟩ := H
    obtain ⟨a249, ha250, hat248⟩ := Row.at O1.row h0_251 h1_252
    refine ⟨h0_251, h1_252, a249, ha250, ?_⟩
    refine ⟨_, (hat248 0 _ rfl), ?_⟩
    refine bcase_mk (fun hc267 => ?_) (fun hc267 => ?_)
    · have H := (bcase_iff.1 H).1 hc267
      refine ⟨(fun _ => False), ?_⟩
      refine ⟨_, ⟨(fun h_ => h_), (O2.at 1 rfl rfl)⟩, ?_⟩
      refine ⟨_, ⟨(fun h_ => h_), (O2.at 2 rfl rfl)⟩, ?_⟩
      obtain ⟨⟨h0_257, h1_258⟩, H⟩ := H
      obtain ⟨a255, ha256, hat254⟩ := Row.at O1.row h0_257 h1_258
      refine ⟨h0_257, h1_258, a255, ha256, ?_⟩
      refine ⟨_, ⟨(fun h_ => h_), (hat254 0 _ rfl)⟩, ?_⟩
      obtain ⟨⟨h0_262, h1_263⟩, H⟩ := H
      obtain ⟨a260, ha261, hat259⟩ := Row.at O1.row h0_262 h1_263
      refine ⟨h0_262, h1_263, a260, ha261, ?_⟩
      have hS253 := Chg.refl (fun _ => False) w21
      have O1 := O1.ext (Ext.drew _)
      have O2 := O2.ext (Ext.drew _)
      have hB := hB.then (Ext.drew _)
      have hS253 := hS253.then (Ext.drew _)
      refine Own.storeAt O1 ha261 h0_262 h1_263 0 [(.int .i64 (rd xs2 s0.B))] (rd xs2 s0.B) rfl (Nat.le_of_ble_eq_true rfl) rfl (fun w264 P1 e265 hb266 => ?_)
      have O2_ := O2.chg e265 (fun h_ => (N1_2) _ ha261 h_.symm)
      have O2 := O2_
      have hB := hB.chgb e265 (Or.inr ⟨_, ha261, rfl⟩)
      have O1 := P1
      obtain rfl := hr.trans H.symm
      exact ⟨rfl, O1, (by first | (simp only [List.length_set]; done) | (simp only [List.length_set, List.length_set]; done) | (simp; done) | (simp; omega) | omega), hB⟩
    have H := (bcase_iff.1 H).2 hc267
    obtain rfl := hr.trans H.symm
    exact ⟨rfl, O1, rfl, hB⟩
  have H := (bcase_iff.1 H).2 hc268
  obtain rfl := hr.trans H.symm
  exact ⟨rfl, O1, rfl, hB⟩
def impl_Lane_pass.vc (p0 : Addr) (A1 : Option Addr) (n1 : Nat) (c1 : Nat) (w : World) (K : Value → World → Prop) : Prop :=
  ∃ (n22 : Int), w.cell? ((p0.add 1).add 0) = some (.int .i64 n22) ∧ bcase (n22 == ((n1 : Nat) : Int)) (K (.bool false) w) (∃ (n23 : Int), w.cell? ((p0.add 1).add 0) = some (.int .i64 n23) ∧ ((0 : Int) ≤ n23 ∧ n23 < ((n1 : Nat) : Int) ∧ ∃ a24 : Addr, A1 = some a24 ∧ ∃ (n25 : Int), w.cell? ((a24.add ((n23.toNat) * 4)).add 0) = some (.int .i64 n25) ∧ ∃ (n26 : Int), w.cell? ((a24.add ((n23.toNat) * 4)).add 1) = some (.int .i64 n26) ∧ ∃ (n27 : Int), w.cell? ((a24.add ((n23.toNat) * 4)).add 2) = some (.int .i64 n27) ∧ ∃ (n28 : Int), w.cell? ((a24.add ((n23.toNat) * 4)).add 3) = some (.int .i64 n28) ∧ Cll Tryz.prog 143 #[(.agg #[(.int .i64 n25), (.int .i64 n26), (.int .i64 n27), (.int .i64 n28)])] w fun v29 w30 => (∃ (b31 : Bool), v29 = (.bool b31) ∧ bcase (!b31) (K (.bool false) w30) (∃ (n32 : Int), w30.cell? ((p0.add 1).add 0) = some (.int .i64 n32) ∧ ((0 : Int) ≤ n32 ∧ n32 < ((n1 : Nat) : Int) ∧ ∃ a33 : Addr, A1 = some a33 ∧ ∃ (n34 : Int), w30.cell? ((a33.add ((n32.toNat) * 4)).add 0) = some (.int .i64 n34) ∧ ∃ (n35 : Int), w30.cell? ((a33.add ((n32.toNat) * 4)).add 1) = some (.int .i64 n35) ∧ ∃ (n36 : Int), w30.cell? ((a33.add ((n32.toNat) * 4)).add 2) = some (.int .i64 n36) ∧ ∃ (n37 : Int), w30.cell? ((a33.add ((n32.toNat) * 4)).add 3) = some (.int .i64 n37) ∧ newK w30 (.cells #[(.int .i64 0), (.int .i64 0), (.int .i64 0), (.int .i64 0)] 89) fun g38 w39 => stCells (⟨g38, 0, none⟩ : Addr) [(.int .i64 n34), (.int .i64 n35), (.int .i64 n36), (.int .i64 n37)] 0 w39 fun w40 => ∃ (n41 : Int), w40.cell? (((⟨g38, 0, none⟩ : Addr).add 0).add 0) = some (.int .i64 n41) ∧ bcase (n41 == 12) (stCells (p0.add 1) [(.int .i64 ((n1 : Nat) : Int))] 0 w40 fun w42 => K (.bool true) w42) (JoinT (σ := Bool × Unit) (fun J43 => ∃ (n44 : Int), w40.cell? (((⟨g38, 0, none⟩ : Addr).add 0).add 0) = some (.int .i64 n44) ∧ bcase (n44 == 11) (J43 (true, ()) w40.drew) (∃ (n45 : Int), w40.cell? (((⟨g38, 0, none⟩ : Addr).add 0).add 0) = some (.int .i64 n45) ∧ bcase (n45 == 10) (∃ (A46 : Option Addr) (n47 : Nat) (c48 : Nat), w40.cell? ((p0.add 2).add 0) = some (.slice A46 n47 c48) ∧ ∃ (n49 : Int), w40.cell? (((⟨g38, 0, none⟩ : Addr).add 1).add 0) = some (.int .i64 n49) ∧ ((0 : Int) ≤ n49 ∧ n49 < ((n47 : Nat) : Int) ∧ ∃ a50 : Addr, A46 = some a50 ∧ ∃ (n51 : Int), w40.cell? ((a50.add ((n49.toNat) * 1)).add 0) = some (.int .i64 n51) ∧ J43 ((n51 == 0), ()) w40.drew)) (J43 (false, ()) w40.drew))) fun z52 w53 => bcase z52.1 (∃ (n54 : Int), w53.cell? (((⟨g38, 0, none⟩ : Addr).add 2).add 0) = some (.int .i64 n54) ∧ stCells (p0.add 1) [(.int .i64 n54)] 0 w53 fun w55 => K (.bool true) w55) ((∃ M56 : Nat → Prop, ∃ (n57 : Int), (¬ M56 ((⟨g38, 0, none⟩ : Addr)).block ∧ w53.cell? ((⟨g38, 0, none⟩ : Addr).add 0) = some (.int .i64 n57)) ∧ ∃ (n58 : Int), (¬ M56 ((⟨g38, 0, none⟩ : Addr)).block ∧ w53.cell? ((⟨g38, 0, none⟩ : Addr).add 1) = some (.int .i64 n58)) ∧ ∃ (n59 : Int), (¬ M56 ((⟨g38, 0, none⟩ : Addr)).block ∧ w53.cell? ((⟨g38, 0, none⟩ : Addr).add 2) = some (.int .i64 n59)) ∧ ∃ (n60 : Int), (¬ M56 ((⟨g38, 0, none⟩ : Addr)).block ∧ w53.cell? ((⟨g38, 0, none⟩ : Addr).add 3) = some (.int .i64 n60)) ∧ ∃ (n61 : Int), (¬ M56 ((p0.add 0)).block ∧ w53.cell? ((p0.add 0).add 0) = some (.int .i64 n61)) ∧ ∃ (A62 : Option Addr) (n63 : Nat) (c64 : Nat), (¬ M56 ((p0.add 2)).block ∧ w53.cell? ((p0.add 2).add 0) = some (.slice A62 n63 c64)) ∧ Cll Tryz.prog 201 #[(.agg #[(.int .i64 n57), (.int .i64 n58), (.int .i64 n59), (.int .i64 n60)]), (.int .i64 n61), (.slice A62 n63 c64)] w53.drew fun v65 w66 => (v65 = (.tuple #[]) ∧ SameBut M56 w53 w66 ∧ ∃ (n67 : Int), w66.cell? ((p0.add 1).add 0) = some (.int .i64 n67) ∧ stCells (p0.add 1) [(.int .i64 (IntKind.wrap .i64 (n67 + 1)))] 0 w66 fun w68 => K (.bool true) w68)))))))))

def impl_Lane_pass.ann : Ann := (.seq .l (.seq (.seq .l (.two (.seq .l .l) .l)) (.seq .l (.seq (.one (.seq .l (.two .l (.cut [(57, .bool)] .l (.two .l (.seq .l .l)))))) (.seq .l .l)))))

theorem impl_Lane_pass.start {p0 : Addr} {A1 : Option Addr} {n1 : Nat} {c1 : Nat} {w : World} {K : Value → World → Prop} (h : impl_Lane_pass.vc p0 A1 n1 c1 w K) : Cll Tryz.prog 280 #[(.pointer (some p0)), (.slice A1 n1 c1)] w K :=
  vcF_sound mixed (fn := Tryz.f280) (by kernel_rfl) (by kernel_rfl) (an := impl_Lane_pass.ann) (args := [(.pointer (some p0)), (.slice A1 n1 c1)]) (Eq.mpr (by kernel_rfl) h)

theorem impl_Lane_pass.con {s0 : D.Lane} {g1_ : Nat} {A0_2 : Option Addr} {c0_2 : Nat} {xs1 : List D.Ins} {A1 : Option Addr} {c1 : Nat} {r : Bool × D.Lane} {w : World} (hp : M.impl_Lane_pass_pre s0 xs1) (hr : r = M.impl_Lane_pass s0 xs1) (O1 : Blk w g1_ 144 #[(.int .i64 s0.Thread), (.int .i64 s0.Pc), (.slice A0_2 s0.Regs.length c0_2)]) (O2 : Own el3 w 0 A0_2 c0_2 s0.Regs) (R1 : Row el89 w A1 xs1) (hc1 : xs1.length ≤ c1) (D1 : xs1 ≠ [] → ∀ g, InB A1 g → ¬ (fun k_ => InB A0_2 k_ ∨ k_ = g1_) g) :
    Cll Tryz.prog 280 #[(.pointer (some (⟨g1_, 0, none⟩ : Addr))), (.slice A1 xs1.length c1)] w (fun v_ w_ => ∃ (A0_ : Option Addr) (c0_ : Nat), v_ = (.bool r.1) ∧ Blk w_ g1_ 144 #[(.int .i64 r.2.Thread), (.int .i64 r.2.Pc), (.slice A0_ r.2.Regs.length c0_)] ∧ Own el3 w_ 0 A0_ c0_ r.2.Regs ∧ Mov w A0_2 A0_ ∧ Chg (fun k_ => InB A0_2 k_ ∨ k_ = g1_) w w_) := by
  have H := wp.impl_Lane_pass.math s0 xs1 hp
  have hB := Chg.refl (fun k_ => InB A0_2 k_ ∨ k_ = g1_) w
  refine impl_Lane_pass.start ?_
  unfold impl_Lane_pass.vc
  unfold wp.impl_Lane_pass at H
  refine ⟨_, (O1.at 1 rfl rfl), ?_⟩
  refine bcase_mk (fun hc76 => ?_) (fun hc76 => ?_)
  · have H := (bcase_iff.1 H).1 hc76
    obtain rfl := hr.trans H.symm
    exact ⟨A0_2, c0_2, rfl, O1, (O2.mono (Nat.zero_le _)), (Mov.same _ _), hB⟩
  have H := (bcase_iff.1 H).2 hc76
  refine ⟨_, (O1.at 1 rfl rfl), ?_⟩
  obtain ⟨⟨h0_24, h1_25⟩, H⟩ := H
  obtain ⟨a22, ha23, hat21⟩ := Row.at (R1.chgS hB D1) h0_24 h1_25
  refine ⟨h0_24, h1_25, a22, ha23, ?_⟩
  refine ⟨_, (hat21 0 _ rfl), ?_⟩
  refine ⟨_, (hat21 1 _ rfl), ?_⟩
  refine ⟨_, (hat21 2 _ rfl), ?_⟩
  refine ⟨_, (hat21 3 _ rfl), ?_⟩
  obtain ⟨r26, hr27⟩ : ∃ r_, r_ = M.impl_IsLocal (rd xs1 s0.Pc) := ⟨_, rfl⟩
  have H := H r26 hr27
  refine (impl_IsLocal.con hr27 ).mono ?_
  rintro _ w29 ⟨rfl, e30⟩
  have O1 := O1.ext e30
  have O2 := O2.ext e30
  have hB := hB.then e30
  refine ⟨r26, rfl, ?_⟩
  refine bcase_mk (fun hc75 => ?_) (fun hc75 => ?_)
  · have H := (bcase_iff.1 H).1 hc75
    obtain rfl := hr.trans H.symm
    exact ⟨A0_2, c0_2, rfl, O1, (O2.mono (Nat.zero_le _)), (Mov.same _ _), hB⟩
  have H := (bcase_iff.1 H).2 hc75
  refine ⟨_, (O1.at 1 rfl rfl), ?_⟩
  obtain ⟨⟨h0_34, h1_35⟩, H⟩ := H
  obtain ⟨a32, ha33, hat31⟩ := Row.at (R1.chgS hB D1) h0_34 h1_35
  refine ⟨h0_34, h1_35, a32, ha33, ?_⟩
  refine ⟨_, (hat31 0 _ rfl), ?_⟩
  refine ⟨_, (hat31 1 _ rfl), ?_⟩
  refine ⟨_, (hat31 2 _ rfl), ?_⟩
  refine ⟨_, (hat31 3 _ rfl), ?_⟩
  refine newBlk (fun g4_ w36 L4 P4 e37 => ?_)
  have N1_4 := O1.ne L4
  have N2_4 := O2.apart_new L4
  have O1 := O1.ext e37
  have O2 := O2.ext e37
  have O4 := P4
  have L4 := Nat.le_trans hB.size L4
  have hB := hB.then e37
  refine stBlk O4 (o := 0) (cs' := #[(.int .i64 ((rd xs1 s0.Pc).Op)), (.int .i64 ((rd xs1 s0.Pc).A)), (.int .i64 ((rd xs1 s0.Pc).B)), (.int .i64 ((rd xs1 s0.Pc).C))]) rfl rfl (Nat.le_of_ble_eq_true rfl) rfl (fun w38 P4 e39 => ?_)
  have O1_ := O1.chg e39 N1_4
  have O2_ := O2.chg e39 N2_4
  have O1 := O1_
  have O2 := O2_
  have hB := hB.chgb e39 (Or.inl L4)
  have O4 := P4
  refine ⟨_, (O4.at 0 rfl rfl), ?_⟩
  refine bcase_mk (fun hc74 => ?_) (fun hc74 => ?_)
  · have H := (bcase_iff.1 H).1 hc74
    refine stBlk O1 (o := 1) (cs' := #[(.int .i64 s0.Thread), (.int .i64 ((xs1.length : Nat) : Int)), (.slice A0_2 s0.Regs.length c0_2)]) rfl rfl (Nat.le_of_ble_eq_true rfl) rfl (fun w40 P1 e41 => ?_)
    have O2_ := O2.chg e41 (O2.apart_type O1 (by decide))
    have O4_ := O4.chg e41 (N1_4).symm
    have O2 := O2_
    have O4 := O4_
    have hB := hB.chgb e41 (Or.inr (Or.inr rfl))
    have O1 := P1
    obtain rfl := hr.trans H.symm
    exact ⟨A0_2, c0_2, rfl, O1, (O2.mono (Nat.zero_le _)), (Mov.same _ _), hB⟩
  have H := (bcase_iff.1 H).2 hc74
  obtain ⟨K73, hKK73, H⟩ := joinP_out H
  refine ⟨fun z_ w_ => ∃ (b42 : Bool), z_ = (b42, ()) ∧ K73 (b42, ()) ∧ Chg (fun k_ => InB A0_2 k_ ∨ k_ = g1_) w w_ ∧ Blk w_ g1_ 144 #[(.int .i64 s0.Thread), (.int .i64 s0.Pc), (.slice A0_2 s0.Regs.length c0_2)] ∧ Own el3 w_ 0 A0_2 c0_2 s0.Regs ∧ Blk w_ g4_ 89 #[(.int .i64 ((rd xs1 s0.Pc).Op)), (.int .i64 ((rd xs1 s0.Pc).A)), (.int .i64 ((rd xs1 s0.Pc).B)), (.int .i64 ((rd xs1 s0.Pc).C))], ?_, ?_⟩
  · refine ⟨_, (O4.at 0 rfl rfl), ?_⟩
    refine bcase_mk (fun hc53 => ?_) (fun hc53 => ?_)
    · have H := (bcase_iff.1 H).1 hc53
      have O1 := O1.ext (Ext.drew _)
      have O2 := O2.ext (Ext.drew _)
      have O4 := O4.ext (Ext.drew _)
      have hB := hB.then (Ext.drew _)
      exact ⟨true, rfl, H, hB, O1, O2, O4⟩
    have H := (bcase_iff.1 H).2 hc53
    refine ⟨_, (O4.at 0 rfl rfl), ?_⟩
    refine bcase_mk (fun hc52 => ?_) (fun hc52 => ?_)
    · have H := (bcase_iff.1 H).1 hc52
      refine ⟨_, _, _, (O1.at 2 rfl rfl), ?_⟩
      refine ⟨_, (O4.at 1 rfl rfl), ?_⟩
      obtain ⟨⟨h0_50, h1_51⟩, H⟩ := H
      obtain ⟨a48, ha49, hat47⟩ := Row.at O2.row h0_50 h1_51
      refine ⟨h0_50, h1_51, a48, ha49, ?_⟩
      refine ⟨_, (hat47 0 _ rfl), ?_⟩
      have O1 := O1.ext (Ext.drew _)
      have O2 := O2.ext (Ext.drew _)
      have O4 := O4.ext (Ext.drew _)
      have hB := hB.then (Ext.drew _)
      exact ⟨((rd s0.Regs ((rd xs1 s0.Pc).A)) == 0), rfl, H, hB, O1, O2, O4⟩
    have H := (bcase_iff.1 H).2 hc52
    have O1 := O1.ext (Ext.drew _)
    have O2 := O2.ext (Ext.drew _)
    have O4 := O4.ext (Ext.drew _)
    have hB := hB.then (Ext.drew _)
    exact ⟨false, rfl, H, hB, O1, O2, O4⟩
  rintro _ w44 ⟨b42, rfl, H, hB, O1, O2, O4⟩
  have H := hKK73 _ H
  try dsimp only at H ⊢
  refine bcase_mk (fun hc71 => ?_) (fun hc71 => ?_)
  · have H := (bcase_iff.1 H).1 hc71
    refine ⟨_, (O4.at 2 rfl rfl), ?_⟩
    refine stBlk O1 (o := 1) (cs' := #[(.int .i64 s0.Thread), (.int .i64 ((rd xs1 s0.Pc).B)), (.slice A0_2 s0.Regs.length c0_2)]) rfl rfl (Nat.le_of_ble_eq_true rfl) rfl (fun w54 P1 e55 => ?_)
    have O2_ := O2.chg e55 (O2.apart_type O1 (by decide))
    have O4_ := O4.chg e55 (N1_4).symm
    have O2 := O2_
    have O4 := O4_
    have hB := hB.chgb e55 (Or.inr (Or.inr rfl))
    have O1 := P1
    obtain rfl := hr.trans H.symm
    exact ⟨A0_2, c0_2, rfl, O1, (O2.mono (Nat.zero_le _)), (Mov.same _ _), hB⟩
  have H := (bcase_iff.1 H).2 hc71
  refine ⟨(InB A0_2), ?_⟩
  refine ⟨_, ⟨(notM1 (N2_4).inb (by first | rfl | (simp only [blk_add]))), (O4.at 0 rfl rfl)⟩, ?_⟩
  refine ⟨_, ⟨(notM1 (N2_4).inb (by first | rfl | (simp only [blk_add]))), (O4.at 1 rfl rfl)⟩, ?_⟩
  refine ⟨_, ⟨(notM1 (N2_4).inb (by first | rfl | (simp only [blk_add]))), (O4.at 2 rfl rfl)⟩, ?_⟩
  refine ⟨_, ⟨(notM1 (N2_4).inb (by first | rfl | (simp only [blk_add]))), (O4.at 3 rfl rfl)⟩, ?_⟩
  refine ⟨_, ⟨(notM1 ((O2.apart_type O1 (by decide))).inb (by first | rfl | (simp only [blk_add]))), (O1.at 0 rfl rfl)⟩, ?_⟩
  refine ⟨_, _, _, ⟨(notM1 ((O2.apart_type O1 (by decide))).inb (by first | rfl | (simp only [blk_add]))), (O1.at 2 rfl rfl)⟩, ?_⟩
  have hS56 := Chg.refl (InB A0_2) w44
  have O1 := O1.ext (Ext.drew _)
  have O2 := O2.ext (Ext.drew _)
  have O4 := O4.ext (Ext.drew _)
  have hB := hB.then (Ext.drew _)
  have hS56 := hS56.then (Ext.drew _)
  obtain ⟨hp65, H⟩ := H
  obtain ⟨r63, hr64⟩ : ∃ r_, r_ = M.impl_apply (rd xs1 s0.Pc) s0.Thread s0.Regs := ⟨_, rfl⟩
  have H := H r63 hr64
  refine (impl_apply.con hp65 hr64 (O2.mono (Nat.zero_le _))).mono ?_
  rintro _ w66 ⟨rfl, Q2, hl68, e67⟩
  have O1 := O1.chgS e67 ((O2.apart_type O1 (by decide))).inb
  have O4 := O4.chgS e67 (N2_4).inb
  have hS56 := hS56.chg e67 (fun g => (fun h_ => (Or.inr h_)))
  have hB := hB.chg e67 (fun g h_ => (Or.inr (Or.inl h_)))
  have O2 := Q2
  refine ⟨rfl, ?_⟩
  refine ⟨sameBut_chg hS56, ?_⟩
  refine ⟨_, (O1.at 1 rfl rfl), ?_⟩
  refine stBlk O1 (o := 1) (cs' := #[(.int .i64 s0.Thread), (.int .i64 (IntKind.wrap .i64 (s0.Pc + 1))), (.slice A0_2 s0.Regs.length c0_2)]) rfl rfl (Nat.le_of_ble_eq_true rfl) rfl (fun w69 P1 e70 => ?_)
  have O2_ := O2.chg e70 (O2.apart_type O1 (by decide))
  have O2 := O2_
  have hB := hB.chgb e70 (Or.inr (Or.inr rfl))
  have O1 := P1
  obtain rfl := hr.trans H.symm
  exact ⟨A0_2, c0_2, rfl, (by first | exact O1 | (simp only [List.length_set, hl68]; exact O1)), (O2.mono (Nat.zero_le _)), (Mov.same _ _), hB⟩
end Go.V
