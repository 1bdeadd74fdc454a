import Derived.Test.YtkacokecjojkoaaGreatKWpMath2
import Derived.Test.YtkacokecjojkoaaGreatSeat
import Derived.Test.YtkacokecjojkoaaGreatVPlc
namespace Go.V
open Go.Proofs
set_option linter.unusedVariables false
set_option linter.unusedSimpArgs false
set_option maxRecDepth 100000
def impl_within.vc (x0 : Int) (x1 : Int) (x2 : Int) (w : World) (K : Value → World → Prop) : Prop :=
  bcase (decide (x0 ≥ x1)) (K (.bool (decide (x0 ≤ x2))) w) (K (.bool false) w)

def impl_within.ann : Ann := (.seq .l (.seq .l .l))

theorem impl_within.start {x0 : Int} {x1 : Int} {x2 : Int} {w : World} {K : Value → World → Prop} (h : impl_within.vc x0 x1 x2 w K) : Cll Tryz.prog 75 #[(.int .i64 x0), (.int .i64 x1), (.int .i64 x2)] w K :=
  vcF_sound mixed (fn := Tryz.f75) (by kernel_rfl) (by kernel_rfl) (an := impl_within.ann) (args := [(.int .i64 x0), (.int .i64 x1), (.int .i64 x2)]) (Eq.mpr (by kernel_rfl) h)

theorem impl_within.con {x0 : Int} {x1 : Int} {x2 : Int} {r : Bool} {w : World} (hr : r = M.impl_within x0 x1 x2)  :
    Cll Tryz.prog 75 #[(.int .i64 x0), (.int .i64 x1), (.int .i64 x2)] w (fun v_ w_ => v_ = (.bool r) ∧ Ext w w_) := by
  have H := wp.impl_within.math x0 x1 x2
  have hB := Ext.refl w
  refine impl_within.start ?_
  unfold impl_within.vc
  unfold wp.impl_within at H
  refine bcase_mk (fun hc21 => ?_) (fun hc21 => ?_)
  · have H := (bcase_iff.1 H).1 hc21
    obtain rfl := hr.trans H.symm
    exact ⟨rfl, hB⟩
  have H := (bcase_iff.1 H).2 hc21
  obtain rfl := hr.trans H.symm
  exact ⟨rfl, hB⟩
def spec_l01In.vc (x0 : Int) (x1 : Int) (x2 : Int) (w : World) (K : Value → World → Prop) : Prop :=
  bcase (decide (x0 ≥ x1)) (K (.bool (decide (x0 ≤ x2))) w) (K (.bool false) w)

def spec_l01In.ann : Ann := (.seq .l (.seq .l .l))

theorem spec_l01In.start {x0 : Int} {x1 : Int} {x2 : Int} {w : World} {K : Value → World → Prop} (h : spec_l01In.vc x0 x1 x2 w K) : Cll Tryz.prog 67 #[(.int .i64 x0), (.int .i64 x1), (.int .i64 x2)] w K :=
  vcF_sound mixed (fn := Tryz.f67) (by kernel_rfl) (by kernel_rfl) (an := spec_l01In.ann) (args := [(.int .i64 x0), (.int .i64 x1), (.int .i64 x2)]) (Eq.mpr (by kernel_rfl) h)

theorem spec_l01In.con {x0 : Int} {x1 : Int} {x2 : Int} {r : Bool} {w : World} (hr : r = M.spec_l01In x0 x1 x2)  :
    Cll Tryz.prog 67 #[(.int .i64 x0), (.int .i64 x1), (.int .i64 x2)] w (fun v_ w_ => v_ = (.bool r) ∧ Ext w w_) := by
  have H := wp.spec_l01In.math x0 x1 x2
  have hB := Ext.refl w
  refine spec_l01In.start ?_
  unfold spec_l01In.vc
  unfold wp.spec_l01In at H
  refine bcase_mk (fun hc21 => ?_) (fun hc21 => ?_)
  · have H := (bcase_iff.1 H).1 hc21
    obtain rfl := hr.trans H.symm
    exact ⟨rfl, hB⟩
  have H := (bcase_iff.1 H).2 hc21
  obtain rfl := hr.trans H.symm
  exact ⟨rfl, hB⟩
def impl_IsWord.vc (x0 : Int) (w : World) (K : Value → World → Prop) : Prop :=
  Cll Tryz.prog 75 #[(.int .i64 x0), (.int .i64 0), (.int .i64 65535)] w fun v21 w22 => (∃ (b23 : Bool), v21 = (.bool b23) ∧ K (.bool b23) w22)

def impl_IsWord.ann : Ann := (.seq .l (.seq .l .l))

theorem impl_IsWord.start {x0 : Int} {w : World} {K : Value → World → Prop} (h : impl_IsWord.vc x0 w K) : Cll Tryz.prog 227 #[(.int .i64 x0)] w K :=
  vcF_sound mixed (fn := Tryz.f227) (by kernel_rfl) (by kernel_rfl) (an := impl_IsWord.ann) (args := [(.int .i64 x0)]) (Eq.mpr (by kernel_rfl) h)

theorem impl_IsWord.con {x0 : Int} {r : Bool} {w : World} (hr : r = M.impl_IsWord x0)  :
    Cll Tryz.prog 227 #[(.int .i64 x0)] w (fun v_ w_ => v_ = (.bool r) ∧ Ext w w_) := by
  have H := wp.impl_IsWord.math x0
  have hB := Ext.refl w
  refine impl_IsWord.start ?_
  unfold impl_IsWord.vc
  unfold wp.impl_IsWord at H
  obtain ⟨r21, hr22⟩ : ∃ r_, r_ = M.impl_within x0 0 65535 := ⟨_, rfl⟩
  have H := H r21 hr22
  refine (impl_within.con hr22 ).mono ?_
  rintro _ w24 ⟨rfl, e25⟩
  have hB := ethen hB e25
  refine ⟨r21, rfl, ?_⟩
  obtain rfl := hr.trans H.symm
  exact ⟨rfl, hB⟩
def spec_IsWord.vc (x0 : Int) (w : World) (K : Value → World → Prop) : Prop :=
  Cll Tryz.prog 67 #[(.int .i64 x0), (.int .i64 0), (.int .i64 65535)] w fun v21 w22 => (∃ (b23 : Bool), v21 = (.bool b23) ∧ K (.bool b23) w22)

def spec_IsWord.ann : Ann := (.seq .l (.seq .l .l))

theorem spec_IsWord.start {x0 : Int} {w : World} {K : Value → World → Prop} (h : spec_IsWord.vc x0 w K) : Cll Tryz.prog 193 #[(.int .i64 x0)] w K :=
  vcF_sound mixed (fn := Tryz.f193) (by kernel_rfl) (by kernel_rfl) (an := spec_IsWord.ann) (args := [(.int .i64 x0)]) (Eq.mpr (by kernel_rfl) h)

theorem spec_IsWord.con {x0 : Int} {r : Bool} {w : World} (hr : r = M.spec_IsWord x0)  :
    Cll Tryz.prog 193 #[(.int .i64 x0)] w (fun v_ w_ => v_ = (.bool r) ∧ Ext w w_) := by
  have H := wp.spec_IsWord.math x0
  have hB := Ext.refl w
  refine spec_IsWord.start ?_
  unfold spec_IsWord.vc
  unfold wp.spec_IsWord at H
  obtain ⟨r21, hr22⟩ : ∃ r_, r_ = M.spec_l01In x0 0 65535 := ⟨_, rfl⟩
  have H := H r21 hr22
  refine (spec_l01In.con hr22 ).mono ?_
  rintro _ w24 ⟨rfl, e25⟩
  have hB := ethen hB e25
  refine ⟨r21, rfl, ?_⟩
  obtain rfl := hr.trans H.symm
  exact ⟨rfl, hB⟩
def impl_IsMask.vc (x0 : Int) (w : World) (K : Value → World → Prop) : Prop :=
  Cll Tryz.prog 75 #[(.int .i64 x0), (.int .i64 0), (.int .i64 255)] w fun v21 w22 => (∃ (b23 : Bool), v21 = (.bool b23) ∧ K (.bool b23) w22)

def impl_IsMask.ann : Ann := (.seq .l (.seq .l .l))

theorem impl_IsMask.start {x0 : Int} {w : World} {K : Value → World → Prop} (h : impl_IsMask.vc x0 w K) : Cll Tryz.prog 153 #[(.int .i64 x0)] w K :=
  vcF_sound mixed (fn := Tryz.f153) (by kernel_rfl) (by kernel_rfl) (an := impl_IsMask.ann) (args := [(.int .i64 x0)]) (Eq.mpr (by kernel_rfl) h)

theorem impl_IsMask.con {x0 : Int} {r : Bool} {w : World} (hr : r = M.impl_IsMask x0)  :
    Cll Tryz.prog 153 #[(.int .i64 x0)] w (fun v_ w_ => v_ = (.bool r) ∧ Ext w w_) := by
  have H := wp.impl_IsMask.math x0
  have hB := Ext.refl w
  refine impl_IsMask.start ?_
  unfold impl_IsMask.vc
  unfold wp.impl_IsMask at H
  obtain ⟨r21, hr22⟩ : ∃ r_, r_ = M.impl_within x0 0 255 := ⟨_, rfl⟩
  have H := H r21 hr22
  refine (impl_within.con hr22 ).mono ?_
  rintro _ w24 ⟨rfl, e25⟩
  have hB := ethen hB e25
  refine ⟨r21, rfl, ?_⟩
  obtain rfl := hr.trans H.symm
  exact ⟨rfl, hB⟩
def impl_isLane.vc (x0 : Int) (w : World) (K : Value → World → Prop) : Prop :=
  Cll Tryz.prog 75 #[(.int .i64 x0), (.int .i64 0), (.int .i64 7)] w fun v21 w22 => (∃ (b23 : Bool), v21 = (.bool b23) ∧ K (.bool b23) w22)

def impl_isLane.ann : Ann := (.seq .l (.seq .l .l))

theorem impl_isLane.start {x0 : Int} {w : World} {K : Value → World → Prop} (h : impl_isLane.vc x0 w K) : Cll Tryz.prog 250 #[(.int .i64 x0)] w K :=
  vcF_sound mixed (fn := Tryz.f250) (by kernel_rfl) (by kernel_rfl) (an := impl_isLane.ann) (args := [(.int .i64 x0)]) (Eq.mpr (by kernel_rfl) h)

theorem impl_isLane.con {x0 : Int} {r : Bool} {w : World} (hr : r = M.impl_isLane x0)  :
    Cll Tryz.prog 250 #[(.int .i64 x0)] w (fun v_ w_ => v_ = (.bool r) ∧ Ext w w_) := by
  have H := wp.impl_isLane.math x0
  have hB := Ext.refl w
  refine impl_isLane.start ?_
  unfold impl_isLane.vc
  unfold wp.impl_isLane at H
  obtain ⟨r21, hr22⟩ : ∃ r_, r_ = M.impl_within x0 0 7 := ⟨_, rfl⟩
  have H := H r21 hr22
  refine (impl_within.con hr22 ).mono ?_
  rintro _ w24 ⟨rfl, e25⟩
  have hB := ethen hB e25
  refine ⟨r21, rfl, ?_⟩
  obtain rfl := hr.trans H.symm
  exact ⟨rfl, hB⟩
def impl_HasLane.vc (x0 : Int) (x1 : Int) (w : World) (K : Value → World → Prop) : Prop :=
  Cll Tryz.prog 153 #[(.int .i64 x0)] w fun v21 w22 => (∃ (b23 : Bool), v21 = (.bool b23) ∧ bcase b23 (Cll Tryz.prog 250 #[(.int .i64 x1)] w22 fun v24 w25 => (∃ (b26 : Bool), v24 = (.bool b26) ∧ bcase b26 (((0 : Int) ≤ x1 ∧ K (.bool ((bitAnd .i64 (Int.fdiv x0 (2 ^ (min (x1.toNat) (IntKind.bits .i64)))) 1) == 1)) w25)) (K (.bool false) w25))) (K (.bool false) w22))

def impl_HasLane.ann : Ann := (.seq .l (.seq .l .l))

theorem impl_HasLane.start {x0 : Int} {x1 : Int} {w : World} {K : Value → World → Prop} (h : impl_HasLane.vc x0 x1 w K) : Cll Tryz.prog 213 #[(.int .i64 x0), (.int .i64 x1)] w K :=
  vcF_sound mixed (fn := Tryz.f213) (by kernel_rfl) (by kernel_rfl) (an := impl_HasLane.ann) (args := [(.int .i64 x0), (.int .i64 x1)]) (Eq.mpr (by kernel_rfl) h)

theorem impl_HasLane.con {x0 : Int} {x1 : Int} {r : Bool} {w : World} (hr : r = M.impl_HasLane x0 x1)  :
    Cll Tryz.prog 213 #[(.int .i64 x0), (.int .i64 x1)] w (fun v_ w_ => v_ = (.bool r) ∧ Ext w w_) := by
  have H := wp.impl_HasLane.math x0 x1
  have hB := Ext.refl w
  refine impl_HasLane.start ?_
  unfold impl_HasLane.vc
  unfold wp.impl_HasLane at H
  obtain ⟨r21, hr22⟩ : ∃ r_, r_ = M.impl_IsMask x0 := ⟨_, rfl⟩
  have H := H r21 hr22
  refine (impl_IsMask.con hr22 ).mono ?_
  rintro _ w24 ⟨rfl, e25⟩
  have hB := ethen hB e25
  refine ⟨r21, rfl, ?_⟩
  refine bcase_mk (fun hc33 => ?_) (fun hc33 => ?_)
  · have H := (bcase_iff.1 H).1 hc33
    obtain ⟨r26, hr27⟩ : ∃ r_, r_ = M.impl_isLane x1 := ⟨_, rfl⟩
    have H := H r26 hr27
    refine (impl_isLane.con hr27 ).mono ?_
    rintro _ w29 ⟨rfl, e30⟩
    have hB := ethen hB e30
    refine ⟨r26, rfl, ?_⟩
    refine bcase_mk (fun hc32 => ?_) (fun hc32 => ?_)
    · have H := (bcase_iff.1 H).1 hc32
      obtain ⟨hc31, H⟩ := H
      refine ⟨hc31, ?_⟩
      obtain rfl := hr.trans H.symm
      exact ⟨rfl, hB⟩
    have H := (bcase_iff.1 H).2 hc32
    obtain rfl := hr.trans H.symm
    exact ⟨rfl, hB⟩
  have H := (bcase_iff.1 H).2 hc33
  obtain rfl := hr.trans H.symm
  exact ⟨rfl, hB⟩
def impl_LanesOf.vc (x0 : Int) (w : World) (K : Value → World → Prop) : Prop :=
  Run Tryz.prog (Instr.buildSlice 24 0 #[]) w fun v21 w22 => ∃ (A23 : Option Addr) (n24 c25 : Nat), v21 = .slice A23 n24 c25 ∧ LoopT (σ := (Option Addr × Nat × Nat) × Int × Unit) (fun z26 w27 next28 => bcase (decide (z26.2.1 < 8)) (Cll Tryz.prog 213 #[(.int .i64 x0), (.int .i64 z26.2.1)] w27 fun v29 w30 => (∃ (b31 : Bool), v29 = (.bool b31) ∧ bcase b31 (Run Tryz.prog (Instr.buildSlice 24 1 #[(0, (.int .i64 z26.2.1))]) w30 fun v32 w33 => ∃ (A34 : Option Addr) (n35 c36 : Nat), v32 = .slice A34 n35 c36 ∧ Run Tryz.prog (Builtin.append_ #[24, 24] 24 #[(.slice z26.1.1 z26.1.2.1 z26.1.2.2), (.slice A34 n35 c36)]) w33 fun v37 w38 => ∃ (A39 : Option Addr) (n40 c41 : Nat), v37 = .slice A39 n40 c41 ∧ next28 ((A39, n40, c41), (IntKind.wrap .i64 (z26.2.1 + 1)), ()) w38) (next28 ((z26.1.1, z26.1.2.1, z26.1.2.2), (IntKind.wrap .i64 (z26.2.1 + 1)), ()) w30))) (K (.slice z26.1.1 z26.1.2.1 z26.1.2.2) w27)) ((A23, n24, c25), 0, ()) w22

def impl_LanesOf.ann : Ann := (.seq .l (.seq .l (.seq (.seq .l (.one (.loop [(3, .sl), (6, .int .i64)] (.seq .l (.seq (.two .l .l) (.seq (.one (.seq .l (.seq .l (.two .l .l)))) .l)))))) (.seq .l .l))))

theorem impl_LanesOf.start {x0 : Int} {w : World} {K : Value → World → Prop} (h : impl_LanesOf.vc x0 w K) : Cll Tryz.prog 170 #[(.int .i64 x0)] w K :=
  vcF_sound mixed (fn := Tryz.f170) (by kernel_rfl) (by kernel_rfl) (an := impl_LanesOf.ann) (args := [(.int .i64 x0)]) (Eq.mpr (by kernel_rfl) h)

theorem impl_LanesOf.con {x0 : Int} {r : List Int} {w : World} (hr : r = M.impl_LanesOf x0)  :
    Cll Tryz.prog 170 #[(.int .i64 x0)] w (fun v_ w_ => ∃ (A0_ : Option Addr) (c0_ : Nat), v_ = (.slice A0_ r.length c0_) ∧ Own el3 w_ w.heap.size A0_ c0_ r ∧ Ext w w_) := by
  have H := wp.impl_LanesOf.math x0
  have hB := Ext.refl w
  refine impl_LanesOf.start ?_
  unfold impl_LanesOf.vc
  unfold wp.impl_LanesOf at H
  refine buildOwn el3 ([] : List Int) (fun _ => by kernel_rfl) rfl (fun A21 w22 P1 e23 => ?_)
  have O1 := P1.mono hB.size
  have hB := ethen hB e23
  obtain ⟨J29, ⟨m56, hJ55⟩, hS30⟩ := H
  refine ⟨fun m_ z_ w_ => ∃ (xs24 : List Int) (i27 : Int) (A25 : Option Addr) (c26 : Nat), z_ = ((A25, xs24.length, c26), i27, ()) ∧ J29 m_ (xs24, i27, ()) ∧ Ext w w_ ∧ Own el3 w_ w.heap.size A25 c26 xs24, ⟨m56, ([] : List Int), 0, A21, 0, rfl, hJ55, hB, O1⟩, ?_⟩
  rintro m28 _ w32 ⟨xs24, i27, A25, c26, rfl, hJ57, hB, O2⟩
  have H := hS30 m28 _ hJ57
  clear hS30 hJ57
  try dsimp only at H ⊢
  refine bcase_mk (fun hc53 => ?_) (fun hc53 => ?_)
  · have H := (bcase_iff.1 H).1 hc53
    obtain ⟨r33, hr34⟩ : ∃ r_, r_ = M.impl_HasLane x0 i27 := ⟨_, rfl⟩
    have H := H r33 hr34
    refine (impl_HasLane.con hr34 ).mono ?_
    rintro _ w36 ⟨rfl, e37⟩
    have O2 := O2.ext e37
    have hB := ethen hB e37
    refine ⟨r33, rfl, ?_⟩
    refine bcase_mk (fun hc52 => ?_) (fun hc52 => ?_)
    · have H := (bcase_iff.1 H).1 hc52
      refine buildOwn el3 ([i27] : List Int) (fun _ => by kernel_rfl) rfl (fun A38 w39 P3 e40 => ?_)
      have N2_3 := Own.apart2_new O2 P3 (Nat.le_refl _)
      have O2 := O2.ext e40
      have O3 := P3.mono hB.size
      have hB := ethen hB e40
      obtain ⟨hl45, H⟩ := H
      refine appOwn slt24 slt24.under O2 O3.row hB.size rfl (by first | rfl | omega | (simp; done) | (simp; omega)) hl45 (fun A41 c42 w43 P2 e44 => ?_)
      have N3_2_ := Apart2.app (N2_3).symm e44 O3
      have O3 := O3.app e44 (N2_3).symm
      have N3_2 := N3_2_
      have hB := eapp hB e44 O2
      have O2 := P2
      obtain ⟨m46, hm47, hJ48⟩ := H
      exact ⟨m46, hm47, (xs24 ++ ([i27] : List Int)), (IntKind.wrap .i64 (i27 + 1)), A41, c42, rfl, hJ48, hB, O2⟩
    have H := (bcase_iff.1 H).2 hc52
    obtain ⟨m49, hm50, hJ51⟩ := H
    exact ⟨m49, hm50, xs24, (IntKind.wrap .i64 (i27 + 1)), A25, c26, rfl, hJ51, hB, O2⟩
  have H := (bcase_iff.1 H).2 hc53
  obtain rfl := hr.trans H.symm
  exact ⟨A25, c26, rfl, O2, hB⟩
def spec_WrapWord.vc (x0 : Int) (w : World) (K : Value → World → Prop) : Prop :=
  ((65536 : Int) ≠ 0 ∧ ((65536 : Int) ≠ 0 ∧ K (.int .i64 (Int.tmod (IntKind.wrap .i64 ((Int.tmod x0 65536) + 65536)) 65536)) w))

def spec_WrapWord.ann : Ann := (.seq .l (.seq .l .l))

theorem spec_WrapWord.start {x0 : Int} {w : World} {K : Value → World → Prop} (h : spec_WrapWord.vc x0 w K) : Cll Tryz.prog 261 #[(.int .i64 x0)] w K :=
  vcF_sound mixed (fn := Tryz.f261) (by kernel_rfl) (by kernel_rfl) (an := spec_WrapWord.ann) (args := [(.int .i64 x0)]) (Eq.mpr (by kernel_rfl) h)

theorem spec_WrapWord.con {x0 : Int} {r : Int} {w : World} (hr : r = M.spec_WrapWord x0)  :
    Cll Tryz.prog 261 #[(.int .i64 x0)] w (fun v_ w_ => v_ = (.int .i64 r) ∧ Ext w w_) := by
  have H := wp.spec_WrapWord.math x0
  have hB := Ext.refl w
  refine spec_WrapWord.start ?_
  unfold spec_WrapWord.vc
  unfold wp.spec_WrapWord at H
  refine ⟨by decide, ?_⟩
  refine ⟨by decide, ?_⟩
  obtain rfl := hr.trans H.symm
  exact ⟨rfl, hB⟩
def spec_AddWords.vc (x0 : Int) (x1 : Int) (w : World) (K : Value → World → Prop) : Prop :=
  Cll Tryz.prog 193 #[(.int .i64 x0)] w fun v21 w22 => (∃ (b23 : Bool), v21 = (.bool b23) ∧ bcase (!b23) (K (.int .i64 0) w22) (Cll Tryz.prog 193 #[(.int .i64 x1)] w22 fun v24 w25 => (∃ (b26 : Bool), v24 = (.bool b26) ∧ bcase (!b26) (K (.int .i64 0) w25) (Cll Tryz.prog 261 #[(.int .i64 (IntKind.wrap .i64 (x0 + x1)))] w25 fun v27 w28 => (∃ (n29 : Int), v27 = (.int .i64 n29) ∧ K (.int .i64 n29) w28)))))

def spec_AddWords.ann : Ann := (.seq .l (.seq (.seq .l (.two (.seq .l .l) .l)) (.seq .l .l)))

theorem spec_AddWords.start {x0 : Int} {x1 : Int} {w : World} {K : Value → World → Prop} (h : spec_AddWords.vc x0 x1 w K) : Cll Tryz.prog 217 #[(.int .i64 x0), (.int .i64 x1)] w K :=
  vcF_sound mixed (fn := Tryz.f217) (by kernel_rfl) (by kernel_rfl) (an := spec_AddWords.ann) (args := [(.int .i64 x0), (.int .i64 x1)]) (Eq.mpr (by kernel_rfl) h)

theorem spec_AddWords.con {x0 : Int} {x1 : Int} {r : Int} {w : World} (hr : r = M.spec_AddWords x0 x1)  :
    Cll Tryz.prog 217 #[(.int .i64 x0), (.int .i64 x1)] w (fun v_ w_ => v_ = (.int .i64 r) ∧ Ext w w_) := by
  have H := wp.spec_AddWords.math x0 x1
  have hB := Ext.refl w
  refine spec_AddWords.start ?_
  unfold spec_AddWords.vc
  unfold wp.spec_AddWords at H
  obtain ⟨r21, hr22⟩ : ∃ r_, r_ = M.spec_IsWord x0 := ⟨_, rfl⟩
  have H := H r21 hr22
  refine (spec_IsWord.con hr22 ).mono ?_
  rintro _ w24 ⟨rfl, e25⟩
  have hB := ethen hB e25
  refine ⟨r21, rfl, ?_⟩
  refine bcase_mk (fun hc37 => ?_) (fun hc37 => ?_)
  · have H := (bcase_iff.1 H).1 hc37
    obtain rfl := hr.trans H.symm
    exact ⟨rfl, hB⟩
  have H := (bcase_iff.1 H).2 hc37
  obtain ⟨r26, hr27⟩ : ∃ r_, r_ = M.spec_IsWord x1 := ⟨_, rfl⟩
  have H := H r26 hr27
  refine (spec_IsWord.con hr27 ).mono ?_
  rintro _ w29 ⟨rfl, e30⟩
  have hB := ethen hB e30
  refine ⟨r26, rfl, ?_⟩
  refine bcase_mk (fun hc36 => ?_) (fun hc36 => ?_)
  · have H := (bcase_iff.1 H).1 hc36
    obtain rfl := hr.trans H.symm
    exact ⟨rfl, hB⟩
  have H := (bcase_iff.1 H).2 hc36
  obtain ⟨r31, hr32⟩ : ∃ r_, r_ = M.spec_WrapWord (IntKind.wrap .i64 (x0 + x1)) := ⟨_, rfl⟩
  have H := H r31 hr32
  refine (spec_WrapWord.con hr32 ).mono ?_
  rintro _ w34 ⟨rfl, e35⟩
  have hB := ethen hB e35
  refine ⟨r31, rfl, ?_⟩
  obtain rfl := hr.trans H.symm
  exact ⟨rfl, hB⟩
def slices_IndexFunc_int_int.vc (A0 : Option Addr) (n0 : Nat) (c0 : Nat) (f1 : Nat) (cap1 : Array Value) (w : World) (K : Value → World → Prop) : Prop :=
  LoopT (σ := Int × Unit) (fun z21 w22 next23 => bcase (decide (z21.1 < ((n0 : Nat) : Int))) (((0 : Int) ≤ z21.1 ∧ z21.1 < ((n0 : Nat) : Int) ∧ ∃ a24 : Addr, A0 = some a24 ∧ ∃ (n25 : Int), w22.cell? ((a24.add ((z21.1.toNat) * 1)).add 0) = some (.int .i64 n25) ∧ Cll Tryz.prog f1 (#[(.int .i64 n25)] ++ cap1) w22 fun v26 w27 => (∃ (b28 : Bool), v26 = (.bool b28) ∧ bcase b28 (K (.int .i64 z21.1) w27) (next23 ((IntKind.wrap .i64 (z21.1 + 1)), ()) w27)))) (K (.int .i64 (-1)) w22)) (0, ()) w

def slices_IndexFunc_int_int.ann : Ann := (.seq .l (.seq (.seq .l (.one (.loop [(8, .int .i64)] (.seq .l (.seq (.two .l .l) (.seq (.one (.seq .l (.seq .l (.two (.seq .l .l) .l)))) .l)))))) (.seq .l .l)))

theorem slices_IndexFunc_int_int.start {A0 : Option Addr} {n0 : Nat} {c0 : Nat} {f1 : Nat} {cap1 : Array Value} {w : World} {K : Value → World → Prop} (h : slices_IndexFunc_int_int.vc A0 n0 c0 f1 cap1 w K) : Cll Tryz.prog 265 #[(.slice A0 n0 c0), (.func (.func f1) #[] cap1)] w K :=
  vcF_sound mixed (fn := Tryz.f265) (by kernel_rfl) (by kernel_rfl) (an := slices_IndexFunc_int_int.ann) (args := [(.slice A0 n0 c0), (.func (.func f1) #[] cap1)]) (Eq.mpr (by kernel_rfl) h)

theorem slices_IndexFunc_int_int.con {xs0 : List Int} {A0 : Option Addr} {c0 : Nat} {f1 : Nat} {cap1 : Array Value} {g1 : Int → Bool} {D1 : Int → Prop} {r : Int} {w : World} (hp : M.slices_IndexFunc_int_int_pre xs0 g1 D1) (hr : r = M.slices_IndexFunc_int_int xs0 g1) (R0 : Row el3 w A0 xs0) (hc0 : xs0.length ≤ c0) (F1 : ∀ (z0_ : Int), D1 z0_ → ∀ w_ : World, Ext w w_ → Cll Tryz.prog f1 (#[(.int .i64 z0_)] ++ cap1) w_ (fun v_ w1_ => v_ = (.bool (g1 z0_)) ∧ Ext w_ w1_)) :
    Cll Tryz.prog 265 #[(.slice A0 xs0.length c0), (.func (.func f1) #[] cap1)] w (fun v_ w_ => v_ = (.int .i64 r) ∧ Ext w w_) := by
  have H := wp.slices_IndexFunc_int_int.math xs0 g1 D1 hp
  have hB := Ext.refl w
  refine slices_IndexFunc_int_int.start ?_
  unfold slices_IndexFunc_int_int.vc
  unfold wp.slices_IndexFunc_int_int at H
  obtain ⟨J23, ⟨m44, hJ43⟩, hS24⟩ := H
  refine ⟨fun m_ z_ w_ => ∃ (i21 : Int), z_ = (i21, ()) ∧ J23 m_ (i21, ()) ∧ Ext w w_, ⟨m44, 0, rfl, hJ43, hB⟩, ?_⟩
  rintro m22 _ w26 ⟨i21, rfl, hJ45, hB⟩
  have H := hS24 m22 _ hJ45
  clear hS24 hJ45
  try dsimp only at H ⊢
  refine bcase_mk (fun hc41 => ?_) (fun hc41 => ?_)
  · have H := (bcase_iff.1 H).1 hc41
    obtain ⟨⟨h0_30, h1_31⟩, H⟩ := H
    obtain ⟨a28, ha29, hat27⟩ := Row.at (R0.ext hB) h0_30 h1_31
    refine ⟨h0_30, h1_31, a28, ha29, ?_⟩
    refine ⟨_, (hat27 0 _ rfl), ?_⟩
    obtain ⟨hd34, H⟩ := H
    obtain ⟨r32, hr33⟩ : ∃ r_, r_ = g1 (rd xs0 i21) := ⟨_, rfl⟩
    have H := H r32 hr33
    refine (F1 (rd xs0 i21) hd34 _ hB).mono ?_
    rintro _ w35 ⟨rfl, e36⟩
    rw [← hr33]
    have hB := ethen hB e36
    refine ⟨r32, rfl, ?_⟩
    refine bcase_mk (fun hc40 => ?_) (fun hc40 => ?_)
    · have H := (bcase_iff.1 H).1 hc40
      obtain rfl := hr.trans H.symm
      exact ⟨rfl, hB⟩
    have H := (bcase_iff.1 H).2 hc40
    obtain ⟨m37, hm38, hJ39⟩ := H
    exact ⟨m37, hm38, (IntKind.wrap .i64 (i21 + 1)), rfl, hJ39, hB⟩
  have H := (bcase_iff.1 H).2 hc41
  obtain rfl := hr.trans H.symm
  exact ⟨rfl, hB⟩
def slices_ContainsFunc_int_int.vc (A0 : Option Addr) (n0 : Nat) (c0 : Nat) (f1 : Nat) (cap1 : Array Value) (w : World) (K : Value → World → Prop) : Prop :=
  Cll Tryz.prog 265 #[(.slice A0 n0 c0), (.func (.func f1) #[] cap1)] w fun v21 w22 => (∃ (n23 : Int), v21 = (.int .i64 n23) ∧ K (.bool (decide (n23 ≥ 0))) w22)

def slices_ContainsFunc_int_int.ann : Ann := (.seq .l (.seq .l .l))

theorem slices_ContainsFunc_int_int.start {A0 : Option Addr} {n0 : Nat} {c0 : Nat} {f1 : Nat} {cap1 : Array Value} {w : World} {K : Value → World → Prop} (h : slices_ContainsFunc_int_int.vc A0 n0 c0 f1 cap1 w K) : Cll Tryz.prog 225 #[(.slice A0 n0 c0), (.func (.func f1) #[] cap1)] w K :=
  vcF_sound mixed (fn := Tryz.f225) (by kernel_rfl) (by kernel_rfl) (an := slices_ContainsFunc_int_int.ann) (args := [(.slice A0 n0 c0), (.func (.func f1) #[] cap1)]) (Eq.mpr (by kernel_rfl) h)

theorem slices_ContainsFunc_int_int.con {xs0 : List Int} {A0 : Option Addr} {c0 : Nat} {f1 : Nat} {cap1 : Array Value} {g1 : Int → Bool} {D1 : Int → Prop} {r : Bool} {w : World} (hp : M.slices_ContainsFunc_int_int_pre xs0 g1 D1) (hr : r = M.slices_ContainsFunc_int_int xs0 g1) (R0 : Row el3 w A0 xs0) (hc0 : xs0.length ≤ c0) (F1 : ∀ (z0_ : Int), D1 z0_ → ∀ w_ : World, Ext w w_ → Cll Tryz.prog f1 (#[(.int .i64 z0_)] ++ cap1) w_ (fun v_ w1_ => v_ = (.bool (g1 z0_)) ∧ Ext w_ w1_)) :
    Cll Tryz.prog 225 #[(.slice A0 xs0.length c0), (.func (.func f1) #[] cap1)] w (fun v_ w_ => v_ = (.bool r) ∧ Ext w w_) := by
  have H := wp.slices_ContainsFunc_int_int.math xs0 g1 D1 hp
  have hB := Ext.refl w
  refine slices_ContainsFunc_int_int.start ?_
  unfold slices_ContainsFunc_int_int.vc
  unfold wp.slices_ContainsFunc_int_int at H
  obtain ⟨hp23, H⟩ := H
  obtain ⟨r21, hr22⟩ : ∃ r_, r_ = M.slices_IndexFunc_int_int xs0 g1 := ⟨_, rfl⟩
  have H := H r21 hr22
  refine (slices_IndexFunc_int_int.con hp23 hr22 (R0.ext hB) hc0 (fun z0_  h_ w_ e_ => F1 z0_  h_ w_ (ethen hB e_))).mono ?_
  rintro _ w24 ⟨rfl, e25⟩
  have hB := ethen hB e25
  refine ⟨r21, rfl, ?_⟩
  obtain rfl := hr.trans H.symm
  exact ⟨rfl, hB⟩
def impl_AreWords_1.vc (x0 : Int) (w : World) (K : Value → World → Prop) : Prop :=
  Cll Tryz.prog 227 #[(.int .i64 x0)] w fun v21 w22 => (∃ (b23 : Bool), v21 = (.bool b23) ∧ K (.bool (!b23)) w22)

def impl_AreWords_1.ann : Ann := (.seq .l (.seq .l .l))

theorem impl_AreWords_1.start {x0 : Int} {w : World} {K : Value → World → Prop} (h : impl_AreWords_1.vc x0 w K) : Cll Tryz.prog 226 #[(.int .i64 x0)] w K :=
  vcF_sound mixed (fn := Tryz.f226) (by kernel_rfl) (by kernel_rfl) (an := impl_AreWords_1.ann) (args := [(.int .i64 x0)]) (Eq.mpr (by kernel_rfl) h)

theorem impl_AreWords_1.con {x0 : Int} {r : Bool} {w : World} (hr : r = M.impl_AreWords_1 x0)  :
    Cll Tryz.prog 226 #[(.int .i64 x0)] w (fun v_ w_ => v_ = (.bool r) ∧ Ext w w_) := by
  have H := wp.impl_AreWords_1.math x0
  have hB := Ext.refl w
  refine impl_AreWords_1.start ?_
  unfold impl_AreWords_1.vc
  unfold wp.impl_AreWords_1 at H
  obtain ⟨r21, hr22⟩ : ∃ r_, r_ = M.impl_IsWord x0 := ⟨_, rfl⟩
  have H := H r21 hr22
  refine (impl_IsWord.con hr22 ).mono ?_
  rintro _ w24 ⟨rfl, e25⟩
  have hB := ethen hB e25
  refine ⟨r21, rfl, ?_⟩
  obtain rfl := hr.trans H.symm
  exact ⟨rfl, hB⟩
def impl_AreWords.vc (A0 : Option Addr) (n0 : Nat) (c0 : Nat) (w : World) (K : Value → World → Prop) : Prop :=
  Cll Tryz.prog 225 #[(.slice A0 n0 c0), (.func (.func 226) #[] #[])] w fun v21 w22 => (∃ (b23 : Bool), v21 = (.bool b23) ∧ K (.bool (!b23)) w22)

def impl_AreWords.ann : Ann := (.seq .l (.seq .l .l))

theorem impl_AreWords.start {A0 : Option Addr} {n0 : Nat} {c0 : Nat} {w : World} {K : Value → World → Prop} (h : impl_AreWords.vc A0 n0 c0 w K) : Cll Tryz.prog 198 #[(.slice A0 n0 c0)] w K :=
  vcF_sound mixed (fn := Tryz.f198) (by kernel_rfl) (by kernel_rfl) (an := impl_AreWords.ann) (args := [(.slice A0 n0 c0)]) (Eq.mpr (by kernel_rfl) h)

theorem impl_AreWords.con {xs0 : List Int} {A0 : Option Addr} {c0 : Nat} {r : Bool} {w : World} (hp : M.impl_AreWords_pre xs0) (hr : r = M.impl_AreWords xs0) (R0 : Row el3 w A0 xs0) (hc0 : xs0.length ≤ c0) :
    Cll Tryz.prog 198 #[(.slice A0 xs0.length c0)] w (fun v_ w_ => v_ = (.bool r) ∧ Ext w w_) := by
  have H := wp.impl_AreWords.math xs0 hp
  have hB := Ext.refl w
  refine impl_AreWords.start ?_
  unfold impl_AreWords.vc
  unfold wp.impl_AreWords at H
  obtain ⟨hp23, H⟩ := H
  obtain ⟨r21, hr22⟩ : ∃ r_, r_ = M.slices_ContainsFunc_int_int xs0 (fun z0_ => M.impl_AreWords_1 z0_) := ⟨_, rfl⟩
  have H := H r21 hr22
  refine (slices_ContainsFunc_int_int.con hp23 hr22 (R0.ext hB) hc0 (fun z0_ h_ w_ e_ => cllApp (l1 := [_]) (l2 := []) (impl_AreWords_1.con rfl))).mono ?_
  rintro _ w24 ⟨rfl, e25⟩
  have hB := ethen hB e25
  refine ⟨r21, rfl, ?_⟩
  obtain rfl := hr.trans H.symm
  exact ⟨rfl, hB⟩
def impl_WrapWord.vc (x0 : Int) (w : World) (K : Value → World → Prop) : Prop :=
  K (.int .i64 (bitAnd .i64 x0 65535)) w

def impl_WrapWord.ann : Ann := (.seq .l (.seq .l .l))

theorem impl_WrapWord.start {x0 : Int} {w : World} {K : Value → World → Prop} (h : impl_WrapWord.vc x0 w K) : Cll Tryz.prog 286 #[(.int .i64 x0)] w K :=
  vcF_sound mixed (fn := Tryz.f286) (by kernel_rfl) (by kernel_rfl) (an := impl_WrapWord.ann) (args := [(.int .i64 x0)]) (Eq.mpr (by kernel_rfl) h)

theorem impl_WrapWord.con {x0 : Int} {r : Int} {w : World} (hr : r = M.impl_WrapWord x0)  :
    Cll Tryz.prog 286 #[(.int .i64 x0)] w (fun v_ w_ => v_ = (.int .i64 r) ∧ Ext w w_) := by
  have H := wp.impl_WrapWord.math x0
  have hB := Ext.refl w
  refine impl_WrapWord.start ?_
  unfold impl_WrapWord.vc
  unfold wp.impl_WrapWord at H
  obtain rfl := hr.trans H.symm
  exact ⟨rfl, hB⟩
def impl_wrapped.vc (x0 : Int) (x1 : Int) (x2 : Int) (w : World) (K : Value → World → Prop) : Prop :=
  Cll Tryz.prog 227 #[(.int .i64 x0)] w fun v21 w22 => (∃ (b23 : Bool), v21 = (.bool b23) ∧ bcase (!b23) (K (.int .i64 0) w22) (Cll Tryz.prog 227 #[(.int .i64 x1)] w22 fun v24 w25 => (∃ (b26 : Bool), v24 = (.bool b26) ∧ bcase (!b26) (K (.int .i64 0) w25) (Cll Tryz.prog 286 #[(.int .i64 x2)] w25 fun v27 w28 => (∃ (n29 : Int), v27 = (.int .i64 n29) ∧ K (.int .i64 n29) w28)))))

def impl_wrapped.ann : Ann := (.seq .l (.seq (.seq .l (.two (.seq .l .l) .l)) (.seq .l .l)))

theorem impl_wrapped.start {x0 : Int} {x1 : Int} {x2 : Int} {w : World} {K : Value → World → Prop} (h : impl_wrapped.vc x0 x1 x2 w K) : Cll Tryz.prog 262 #[(.int .i64 x0), (.int .i64 x1), (.int .i64 x2)] w K :=
  vcF_sound mixed (fn := Tryz.f262) (by kernel_rfl) (by kernel_rfl) (an := impl_wrapped.ann) (args := [(.int .i64 x0), (.int .i64 x1), (.int .i64 x2)]) (Eq.mpr (by kernel_rfl) h)

theorem impl_wrapped.con {x0 : Int} {x1 : Int} {x2 : Int} {r : Int} {w : World} (hr : r = M.impl_wrapped x0 x1 x2)  :
    Cll Tryz.prog 262 #[(.int .i64 x0), (.int .i64 x1), (.int .i64 x2)] w (fun v_ w_ => v_ = (.int .i64 r) ∧ Ext w w_) := by
  have H := wp.impl_wrapped.math x0 x1 x2
  have hB := Ext.refl w
  refine impl_wrapped.start ?_
  unfold impl_wrapped.vc
  unfold wp.impl_wrapped at H
  obtain ⟨r21, hr22⟩ : ∃ r_, r_ = M.impl_IsWord x0 := ⟨_, rfl⟩
  have H := H r21 hr22
  refine (impl_IsWord.con hr22 ).mono ?_
  rintro _ w24 ⟨rfl, e25⟩
  have hB := ethen hB e25
  refine ⟨r21, rfl, ?_⟩
  refine bcase_mk (fun hc37 => ?_) (fun hc37 => ?_)
  · have H := (bcase_iff.1 H).1 hc37
    obtain rfl := hr.trans H.symm
    exact ⟨rfl, hB⟩
  have H := (bcase_iff.1 H).2 hc37
  obtain ⟨r26, hr27⟩ : ∃ r_, r_ = M.impl_IsWord x1 := ⟨_, rfl⟩
  have H := H r26 hr27
  refine (impl_IsWord.con hr27 ).mono ?_
  rintro _ w29 ⟨rfl, e30⟩
  have hB := ethen hB e30
  refine ⟨r26, rfl, ?_⟩
  refine bcase_mk (fun hc36 => ?_) (fun hc36 => ?_)
  · have H := (bcase_iff.1 H).1 hc36
    obtain rfl := hr.trans H.symm
    exact ⟨rfl, hB⟩
  have H := (bcase_iff.1 H).2 hc36
  obtain ⟨r31, hr32⟩ : ∃ r_, r_ = M.impl_WrapWord x2 := ⟨_, rfl⟩
  have H := H r31 hr32
  refine (impl_WrapWord.con hr32 ).mono ?_
  rintro _ w34 ⟨rfl, e35⟩
  have hB := ethen hB e35
  refine ⟨r31, rfl, ?_⟩
  obtain rfl := hr.trans H.symm
  exact ⟨rfl, hB⟩
def impl_AddWords.vc (x0 : Int) (x1 : Int) (w : World) (K : Value → World → Prop) : Prop :=
  Cll Tryz.prog 262 #[(.int .i64 x0), (.int .i64 x1), (.int .i64 (IntKind.wrap .i64 (x0 + x1)))] w fun v21 w22 => (∃ (n23 : Int), v21 = (.int .i64 n23) ∧ K (.int .i64 n23) w22)

def impl_AddWords.ann : Ann := (.seq .l (.seq .l .l))

theorem impl_AddWords.start {x0 : Int} {x1 : Int} {w : World} {K : Value → World → Prop} (h : impl_AddWords.vc x0 x1 w K) : Cll Tryz.prog 218 #[(.int .i64 x0), (.int .i64 x1)] w K :=
  vcF_sound mixed (fn := Tryz.f218) (by kernel_rfl) (by kernel_rfl) (an := impl_AddWords.ann) (args := [(.int .i64 x0), (.int .i64 x1)]) (Eq.mpr (by kernel_rfl) h)

theorem impl_AddWords.con {x0 : Int} {x1 : Int} {r : Int} {w : World} (hr : r = M.impl_AddWords x0 x1)  :
    Cll Tryz.prog 218 #[(.int .i64 x0), (.int .i64 x1)] w (fun v_ w_ => v_ = (.int .i64 r) ∧ Ext w w_) := by
  have H := wp.impl_AddWords.math x0 x1
  have hB := Ext.refl w
  refine impl_AddWords.start ?_
  unfold impl_AddWords.vc
  unfold wp.impl_AddWords at H
  obtain ⟨r21, hr22⟩ : ∃ r_, r_ = M.impl_wrapped x0 x1 (IntKind.wrap .i64 (x0 + x1)) := ⟨_, rfl⟩
  have H := H r21 hr22
  refine (impl_wrapped.con hr22 ).mono ?_
  rintro _ w24 ⟨rfl, e25⟩
  have hB := ethen hB e25
  refine ⟨r21, rfl, ?_⟩
  obtain rfl := hr.trans H.symm
  exact ⟨rfl, hB⟩
def spec_IsMask.vc (x0 : Int) (w : World) (K : Value → World → Prop) : Prop :=
  Cll Tryz.prog 67 #[(.int .i64 x0), (.int .i64 0), (.int .i64 255)] w fun v21 w22 => (∃ (b23 : Bool), v21 = (.bool b23) ∧ K (.bool b23) w22)

def spec_IsMask.ann : Ann := (.seq .l (.seq .l .l))

theorem spec_IsMask.start {x0 : Int} {w : World} {K : Value → World → Prop} (h : spec_IsMask.vc x0 w K) : Cll Tryz.prog 136 #[(.int .i64 x0)] w K :=
  vcF_sound mixed (fn := Tryz.f136) (by kernel_rfl) (by kernel_rfl) (an := spec_IsMask.ann) (args := [(.int .i64 x0)]) (Eq.mpr (by kernel_rfl) h)

theorem spec_IsMask.con {x0 : Int} {r : Bool} {w : World} (hr : r = M.spec_IsMask x0)  :
    Cll Tryz.prog 136 #[(.int .i64 x0)] w (fun v_ w_ => v_ = (.bool r) ∧ Ext w w_) := by
  have H := wp.spec_IsMask.math x0
  have hB := Ext.refl w
  refine spec_IsMask.start ?_
  unfold spec_IsMask.vc
  unfold wp.spec_IsMask at H
  obtain ⟨r21, hr22⟩ : ∃ r_, r_ = M.spec_l01In x0 0 255 := ⟨_, rfl⟩
  have H := H r21 hr22
  refine (spec_l01In.con hr22 ).mono ?_
  rintro _ w24 ⟨rfl, e25⟩
  have hB := ethen hB e25
  refine ⟨r21, rfl, ?_⟩
  obtain rfl := hr.trans H.symm
  exact ⟨rfl, hB⟩
def spec_HasLane.vc (x0 : Int) (x1 : Int) (w : World) (K : Value → World → Prop) : Prop :=
  Cll Tryz.prog 136 #[(.int .i64 x0)] w fun v21 w22 => (∃ (b23 : Bool), v21 = (.bool b23) ∧ bcase b23 (Cll Tryz.prog 67 #[(.int .i64 x1), (.int .i64 0), (.int .i64 7)] w22 fun v24 w25 => (∃ (b26 : Bool), v24 = (.bool b26) ∧ bcase b26 (((0 : Int) ≤ x1 ∧ K (.bool ((bitAnd .i64 (Int.fdiv x0 (2 ^ (min (x1.toNat) (IntKind.bits .i64)))) 1) == 1)) w25)) (K (.bool false) w25))) (K (.bool false) w22))

def spec_HasLane.ann : Ann := (.seq .l (.seq .l .l))

theorem spec_HasLane.start {x0 : Int} {x1 : Int} {w : World} {K : Value → World → Prop} (h : spec_HasLane.vc x0 x1 w K) : Cll Tryz.prog 165 #[(.int .i64 x0), (.int .i64 x1)] w K :=
  vcF_sound mixed (fn := Tryz.f165) (by kernel_rfl) (by kernel_rfl) (an := spec_HasLane.ann) (args := [(.int .i64 x0), (.int .i64 x1)]) (Eq.mpr (by kernel_rfl) h)

theorem spec_HasLane.con {x0 : Int} {x1 : Int} {r : Bool} {w : World} (hr : r = M.spec_HasLane x0 x1)  :
    Cll Tryz.prog 165 #[(.int .i64 x0), (.int .i64 x1)] w (fun v_ w_ => v_ = (.bool r) ∧ Ext w w_) := by
  have H := wp.spec_HasLane.math x0 x1
  have hB := Ext.refl w
  refine spec_HasLane.start ?_
  unfold spec_HasLane.vc
  unfold wp.spec_HasLane at H
  obtain ⟨r21, hr22⟩ : ∃ r_, r_ = M.spec_IsMask x0 := ⟨_, rfl⟩
  have H := H r21 hr22
  refine (spec_IsMask.con hr22 ).mono ?_
  rintro _ w24 ⟨rfl, e25⟩
  have hB := ethen hB e25
  refine ⟨r21, rfl, ?_⟩
  refine bcase_mk (fun hc33 => ?_) (fun hc33 => ?_)
  · have H := (bcase_iff.1 H).1 hc33
    obtain ⟨r26, hr27⟩ : ∃ r_, r_ = M.spec_l01In x1 0 7 := ⟨_, rfl⟩
    have H := H r26 hr27
    refine (spec_l01In.con hr27 ).mono ?_
    rintro _ w29 ⟨rfl, e30⟩
    have hB := ethen hB e30
    refine ⟨r26, rfl, ?_⟩
    refine bcase_mk (fun hc32 => ?_) (fun hc32 => ?_)
    · have H := (bcase_iff.1 H).1 hc32
      obtain ⟨hc31, H⟩ := H
      refine ⟨hc31, ?_⟩
      obtain rfl := hr.trans H.symm
      exact ⟨rfl, hB⟩
    have H := (bcase_iff.1 H).2 hc32
    obtain rfl := hr.trans H.symm
    exact ⟨rfl, hB⟩
  have H := (bcase_iff.1 H).2 hc33
  obtain rfl := hr.trans H.symm
  exact ⟨rfl, hB⟩
def spec_IsLocal.vc (x0_0 : Int) (x0_1 : Int) (x0_2 : Int) (x0_3 : Int) (w : World) (K : Value → World → Prop) : Prop :=
  newK w (.cells #[(.int .i64 x0_0), (.int .i64 x0_1), (.int .i64 x0_2), (.int .i64 x0_3)] 89) fun g21 w22 => ∃ (n23 : Int), w22.cell? (((⟨g21, 0, none⟩ : Addr).add 0).add 0) = some (.int .i64 n23) ∧ Cll Tryz.prog 67 #[(.int .i64 n23), (.int .i64 0), (.int .i64 12)] w22 fun v24 w25 => (∃ (b26 : Bool), v24 = (.bool b26) ∧ K (.bool b26) w25)

def spec_IsLocal.ann : Ann := (.seq .l (.seq .l .l))

theorem spec_IsLocal.start {x0_0 : Int} {x0_1 : Int} {x0_2 : Int} {x0_3 : Int} {w : World} {K : Value → World → Prop} (h : spec_IsLocal.vc x0_0 x0_1 x0_2 x0_3 w K) : Cll Tryz.prog 133 #[(.agg #[(.int .i64 x0_0), (.int .i64 x0_1), (.int .i64 x0_2), (.int .i64 x0_3)])] w K :=
  vcF_sound mixed (fn := Tryz.f133) (by kernel_rfl) (by kernel_rfl) (an := spec_IsLocal.ann) (args := [(.agg #[(.int .i64 x0_0), (.int .i64 x0_1), (.int .i64 x0_2), (.int .i64 x0_3)])]) (Eq.mpr (by kernel_rfl) h)

theorem spec_IsLocal.con {s0 : D.Ins} {r : Bool} {w : World} (hr : r = M.spec_IsLocal s0)  :
    Cll Tryz.prog 133 #[(.agg #[(.int .i64 s0.Op), (.int .i64 s0.A), (.int .i64 s0.B), (.int .i64 s0.C)])] w (fun v_ w_ => v_ = (.bool r) ∧ Ext w w_) := by
  have H := wp.spec_IsLocal.math s0
  have hB := Ext.refl w
  refine spec_IsLocal.start ?_
  unfold spec_IsLocal.vc
  unfold wp.spec_IsLocal at H
  refine newBlk (fun g1_ w21 L1 P1 e22 => ?_)
  have O1 := P1
  have L1 := Nat.le_trans hB.size L1
  have hB := ethen hB e22
  refine ⟨_, (O1.at 0 rfl rfl), ?_⟩
  obtain ⟨r23, hr24⟩ : ∃ r_, r_ = M.spec_l01In s0.Op 0 12 := ⟨_, rfl⟩
  have H := H r23 hr24
  refine (spec_l01In.con hr24 ).mono ?_
  rintro _ w26 ⟨rfl, e27⟩
  have O1 := O1.ext e27
  have hB := ethen hB e27
  refine ⟨r23, rfl, ?_⟩
  obtain rfl := hr.trans H.symm
  exact ⟨rfl, hB⟩
def spec_l04Reg.vc (x0 : Int) (w : World) (K : Value → World → Prop) : Prop :=
  Cll Tryz.prog 67 #[(.int .i64 x0), (.int .i64 0), (.int .i64 3)] w fun v21 w22 => (∃ (b23 : Bool), v21 = (.bool b23) ∧ K (.bool b23) w22)

def spec_l04Reg.ann : Ann := (.seq .l (.seq .l .l))

theorem spec_l04Reg.start {x0 : Int} {w : World} {K : Value → World → Prop} (h : spec_l04Reg.vc x0 w K) : Cll Tryz.prog 202 #[(.int .i64 x0)] w K :=
  vcF_sound mixed (fn := Tryz.f202) (by kernel_rfl) (by kernel_rfl) (an := spec_l04Reg.ann) (args := [(.int .i64 x0)]) (Eq.mpr (by kernel_rfl) h)

theorem spec_l04Reg.con {x0 : Int} {r : Bool} {w : World} (hr : r = M.spec_l04Reg x0)  :
    Cll Tryz.prog 202 #[(.int .i64 x0)] w (fun v_ w_ => v_ = (.bool r) ∧ Ext w w_) := by
  have H := wp.spec_l04Reg.math x0
  have hB := Ext.refl w
  refine spec_l04Reg.start ?_
  unfold spec_l04Reg.vc
  unfold wp.spec_l04Reg at H
  obtain ⟨r21, hr22⟩ : ∃ r_, r_ = M.spec_l01In x0 0 3 := ⟨_, rfl⟩
  have H := H r21 hr22
  refine (spec_l01In.con hr22 ).mono ?_
  rintro _ w24 ⟨rfl, e25⟩
  have hB := ethen hB e25
  refine ⟨r21, rfl, ?_⟩
  obtain rfl := hr.trans H.symm
  exact ⟨rfl, hB⟩
def spec_InsOk.vc (x0_0 : Int) (x0_1 : Int) (x0_2 : Int) (x0_3 : Int) (x1 : Int) (w : World) (K : Value → World → Prop) : Prop :=
  newK w (.cells #[(.int .i64 x0_0), (.int .i64 x0_1), (.int .i64 x0_2), (.int .i64 x0_3)] 89) fun g21 w22 => Cll Tryz.prog 67 #[(.int .i64 x1), (.int .i64 0), (.int .i64 32)] w22 fun v23 w24 => (∃ (b25 : Bool), v23 = (.bool b25) ∧ bcase (!b25) (K (.bool false) w24) (∃ (n27 : Int), w24.cell? (((⟨g21, 0, none⟩ : Addr).add 0).add 0) = some (.int .i64 n27) ∧ JoinT (σ := Bool × Unit) (fun J28 => bcase (n27 == 0) (J28 (true, ()) w24) (bcase (n27 == 12) (J28 (true, ()) w24) (J28 ((n27 == 16), ()) w24))) fun z29 w30 => bcase z29.1 (∃ (n31 : Int), w30.cell? (((⟨g21, 0, none⟩ : Addr).add 1).add 0) = some (.int .i64 n31) ∧ bcase (n31 == 0) (∃ (n32 : Int), w30.cell? (((⟨g21, 0, none⟩ : Addr).add 2).add 0) = some (.int .i64 n32) ∧ bcase (n32 == 0) (∃ (n33 : Int), w30.cell? (((⟨g21, 0, none⟩ : Addr).add 3).add 0) = some (.int .i64 n33) ∧ K (.bool (n33 == 0)) w30) (K (.bool false) w30)) (K (.bool false) w30)) (bcase (n27 == 1) (∃ (n34 : Int), w30.cell? (((⟨g21, 0, none⟩ : Addr).add 1).add 0) = some (.int .i64 n34) ∧ Cll Tryz.prog 202 #[(.int .i64 n34)] w30 fun v35 w36 => (∃ (b37 : Bool), v35 = (.bool b37) ∧ bcase b37 (∃ (n38 : Int), w36.cell? (((⟨g21, 0, none⟩ : Addr).add 2).add 0) = some (.int .i64 n38) ∧ Cll Tryz.prog 193 #[(.int .i64 n38)] w36 fun v39 w40 => (∃ (b41 : Bool), v39 = (.bool b41) ∧ bcase b41 (∃ (n42 : Int), w40.cell? (((⟨g21, 0, none⟩ : Addr).add 3).add 0) = some (.int .i64 n42) ∧ K (.bool (n42 == 0)) w40) (K (.bool false) w40))) (K (.bool false) w36))) (JoinT (σ := Bool × Unit) (fun J43 => bcase (n27 == 2) (J43 (true, ()) w30) (bcase (n27 == 13) (J43 (true, ()) w30) (bcase (n27 == 14) (J43 (true, ()) w30) (J43 ((n27 == 15), ()) w30)))) fun z44 w45 => bcase z44.1 (∃ (n46 : Int), w45.cell? (((⟨g21, 0, none⟩ : Addr).add 1).add 0) = some (.int .i64 n46) ∧ Cll Tryz.prog 202 #[(.int .i64 n46)] w45 fun v47 w48 => (∃ (b49 : Bool), v47 = (.bool b49) ∧ bcase b49 (∃ (n50 : Int), w48.cell? (((⟨g21, 0, none⟩ : Addr).add 2).add 0) = some (.int .i64 n50) ∧ Cll Tryz.prog 202 #[(.int .i64 n50)] w48 fun v51 w52 => (∃ (b53 : Bool), v51 = (.bool b53) ∧ bcase b53 (∃ (n54 : Int), w52.cell? (((⟨g21, 0, none⟩ : Addr).add 3).add 0) = some (.int .i64 n54) ∧ K (.bool (n54 == 0)) w52) (K (.bool false) w52))) (K (.bool false) w48))) (bcase (n27 == 8) (∃ (n55 : Int), w45.cell? (((⟨g21, 0, none⟩ : Addr).add 1).add 0) = some (.int .i64 n55) ∧ Cll Tryz.prog 202 #[(.int .i64 n55)] w45 fun v56 w57 => (∃ (b58 : Bool), v56 = (.bool b58) ∧ bcase b58 (∃ (n59 : Int), w57.cell? (((⟨g21, 0, none⟩ : Addr).add 2).add 0) = some (.int .i64 n59) ∧ bcase (n59 == 0) (∃ (n60 : Int), w57.cell? (((⟨g21, 0, none⟩ : Addr).add 3).add 0) = some (.int .i64 n60) ∧ K (.bool (n60 == 0)) w57) (K (.bool false) w57)) (K (.bool false) w57))) (bcase (n27 == 10) (∃ (n61 : Int), w45.cell? (((⟨g21, 0, none⟩ : Addr).add 1).add 0) = some (.int .i64 n61) ∧ Cll Tryz.prog 202 #[(.int .i64 n61)] w45 fun v62 w63 => (∃ (b64 : Bool), v62 = (.bool b64) ∧ bcase b64 (∃ (n65 : Int), w63.cell? (((⟨g21, 0, none⟩ : Addr).add 2).add 0) = some (.int .i64 n65) ∧ Cll Tryz.prog 67 #[(.int .i64 n65), (.int .i64 0), (.int .i64 x1)] w63 fun v66 w67 => (∃ (b68 : Bool), v66 = (.bool b68) ∧ bcase b68 (∃ (n69 : Int), w67.cell? (((⟨g21, 0, none⟩ : Addr).add 3).add 0) = some (.int .i64 n69) ∧ K (.bool (n69 == 0)) w67) (K (.bool false) w67))) (K (.bool false) w63))) (bcase (n27 == 11) (∃ (n70 : Int), w45.cell? (((⟨g21, 0, none⟩ : Addr).add 1).add 0) = some (.int .i64 n70) ∧ bcase (n70 == 0) (∃ (n71 : Int), w45.cell? (((⟨g21, 0, none⟩ : Addr).add 2).add 0) = some (.int .i64 n71) ∧ Cll Tryz.prog 67 #[(.int .i64 n71), (.int .i64 0), (.int .i64 x1)] w45 fun v72 w73 => (∃ (b74 : Bool), v72 = (.bool b74) ∧ bcase b74 (∃ (n75 : Int), w73.cell? (((⟨g21, 0, none⟩ : Addr).add 3).add 0) = some (.int .i64 n75) ∧ K (.bool (n75 == 0)) w73) (K (.bool false) w73))) (K (.bool false) w45)) (∃ (n76 : Int), w45.cell? (((⟨g21, 0, none⟩ : Addr).add 0).add 0) = some (.int .i64 n76) ∧ Cll Tryz.prog 67 #[(.int .i64 n76), (.int .i64 3), (.int .i64 9)] w45 fun v77 w78 => (∃ (b79 : Bool), v77 = (.bool b79) ∧ bcase b79 (∃ (n80 : Int), w78.cell? (((⟨g21, 0, none⟩ : Addr).add 1).add 0) = some (.int .i64 n80) ∧ Cll Tryz.prog 202 #[(.int .i64 n80)] w78 fun v81 w82 => (∃ (b83 : Bool), v81 = (.bool b83) ∧ bcase b83 (∃ (n84 : Int), w82.cell? (((⟨g21, 0, none⟩ : Addr).add 2).add 0) = some (.int .i64 n84) ∧ Cll Tryz.prog 202 #[(.int .i64 n84)] w82 fun v85 w86 => (∃ (b87 : Bool), v85 = (.bool b87) ∧ bcase b87 (∃ (n88 : Int), w86.cell? (((⟨g21, 0, none⟩ : Addr).add 3).add 0) = some (.int .i64 n88) ∧ Cll Tryz.prog 202 #[(.int .i64 n88)] w86 fun v89 w90 => (∃ (b91 : Bool), v89 = (.bool b91) ∧ K (.bool b91) w90)) (K (.bool false) w86))) (K (.bool false) w82))) (K (.bool false) w78))))))))))

def spec_InsOk.ann : Ann := (.seq .l (.seq (.seq .l (.two (.seq .l .l) .l)) (.seq (.seq .l (.one (.cut [(10, .bool)] (.seq .l (.two .l (.seq .l (.two .l .l)))) (.two (.seq .l .l) (.seq .l (.two (.seq .l .l) (.cut [(42, .bool)] (.seq .l (.two .l (.seq .l (.two .l (.seq .l (.two .l .l)))))) (.two (.seq .l .l) (.seq .l (.two (.seq .l .l) (.seq .l (.two (.seq .l .l) (.seq .l (.two (.seq .l .l) .l)))))))))))))) (.seq .l .l))))

theorem spec_InsOk.start {x0_0 : Int} {x0_1 : Int} {x0_2 : Int} {x0_3 : Int} {x1 : Int} {w : World} {K : Value → World → Prop} (h : spec_InsOk.vc x0_0 x0_1 x0_2 x0_3 x1 w K) : Cll Tryz.prog 192 #[(.agg #[(.int .i64 x0_0), (.int .i64 x0_1), (.int .i64 x0_2), (.int .i64 x0_3)]), (.int .i64 x1)] w K :=
  vcF_sound mixed (fn := Tryz.f192) (by kernel_rfl) (by kernel_rfl) (an := spec_InsOk.ann) (args := [(.agg #[(.int .i64 x0_0), (.int .i64 x0_1), (.int .i64 x0_2), (.int .i64 x0_3)]), (.int .i64 x1)]) (Eq.mpr (by kernel_rfl) h)

theorem spec_InsOk.con {s0 : D.Ins} {x1 : Int} {r : Bool} {w : World} (hr : r = M.spec_InsOk s0 x1)  :
    Cll Tryz.prog 192 #[(.agg #[(.int .i64 s0.Op), (.int .i64 s0.A), (.int .i64 s0.B), (.int .i64 s0.C)]), (.int .i64 x1)] w (fun v_ w_ => v_ = (.bool r) ∧ Ext w w_) := by
  have H := wp.spec_InsOk.math s0 x1
  have hB := Ext.refl w
  refine spec_InsOk.start ?_
  unfold spec_InsOk.vc
  unfold wp.spec_InsOk at H
  refine newBlk (fun g1_ w21 L1 P1 e22 => ?_)
  have O1 := P1
  have L1 := Nat.le_trans hB.size L1
  have hB := ethen hB e22
  obtain ⟨r23, hr24⟩ : ∃ r_, r_ = M.spec_l01In x1 0 32 := ⟨_, rfl⟩
  have H := H r23 hr24
  refine (spec_l01In.con hr24 ).mono ?_
  rintro _ w26 ⟨rfl, e27⟩
  have O1 := O1.ext e27
  have hB := ethen hB e27
  refine ⟨r23, rfl, ?_⟩
  refine bcase_mk (fun hc126 => ?_) (fun hc126 => ?_)
  · have H := (bcase_iff.1 H).1 hc126
    obtain rfl := hr.trans H.symm
    exact ⟨rfl, hB⟩
  have H := (bcase_iff.1 H).2 hc126
  refine ⟨_, (O1.at 0 rfl rfl), ?_⟩
  obtain ⟨K125, hKK125, H⟩ := joinP_out H
  refine ⟨fun z_ w_ => ∃ (b28 : Bool), z_ = (b28, ()) ∧ K125 (b28, ()) ∧ Ext w w_ ∧ Blk w_ g1_ 89 #[(.int .i64 s0.Op), (.int .i64 s0.A), (.int .i64 s0.B), (.int .i64 s0.C)], ?_, ?_⟩
  · refine bcase_mk (fun hc33 => ?_) (fun hc33 => ?_)
    · have H := (bcase_iff.1 H).1 hc33
      exact ⟨true, rfl, H, hB, O1⟩
    have H := (bcase_iff.1 H).2 hc33
    refine bcase_mk (fun hc32 => ?_) (fun hc32 => ?_)
    · have H := (bcase_iff.1 H).1 hc32
      exact ⟨true, rfl, H, hB, O1⟩
    have H := (bcase_iff.1 H).2 hc32
    exact ⟨(s0.Op == 16), rfl, H, hB, O1⟩
  rintro _ w30 ⟨b28, rfl, H, hB, O1⟩
  have H := hKK125 _ H
  try dsimp only at H ⊢
  refine bcase_mk (fun hc123 => ?_) (fun hc123 => ?_)
  · have H := (bcase_iff.1 H).1 hc123
    refine ⟨_, (O1.at 1 rfl rfl), ?_⟩
    refine bcase_mk (fun hc35 => ?_) (fun hc35 => ?_)
    · have H := (bcase_iff.1 H).1 hc35
      refine ⟨_, (O1.at 2 rfl rfl), ?_⟩
      refine bcase_mk (fun hc34 => ?_) (fun hc34 => ?_)
      · have H := (bcase_iff.1 H).1 hc34
        refine ⟨_, (O1.at 3 rfl rfl), ?_⟩
        obtain rfl := hr.trans H.symm
        exact ⟨rfl, hB⟩
      have H := (bcase_iff.1 H).2 hc34
      obtain rfl := hr.trans H.symm
      exact ⟨rfl, hB⟩
    have H := (bcase_iff.1 H).2 hc35
    obtain rfl := hr.trans H.symm
    exact ⟨rfl, hB⟩
  have H := (bcase_iff.1 H).2 hc123
  refine bcase_mk (fun hc122 => ?_) (fun hc122 => ?_)
  · have H := (bcase_iff.1 H).1 hc122
    refine ⟨_, (O1.at 1 rfl rfl), ?_⟩
    obtain ⟨r36, hr37⟩ : ∃ r_, r_ = M.spec_l04Reg s0.A := ⟨_, rfl⟩
    have H := H r36 hr37
    refine (spec_l04Reg.con hr37 ).mono ?_
    rintro _ w39 ⟨rfl, e40⟩
    have O1 := O1.ext e40
    have hB := ethen hB e40
    refine ⟨r36, rfl, ?_⟩
    refine bcase_mk (fun hc47 => ?_) (fun hc47 => ?_)
    · have H := (bcase_iff.1 H).1 hc47
      refine ⟨_, (O1.at 2 rfl rfl), ?_⟩
      obtain ⟨r41, hr42⟩ : ∃ r_, r_ = M.spec_IsWord s0.B := ⟨_, rfl⟩
      have H := H r41 hr42
      refine (spec_IsWord.con hr42 ).mono ?_
      rintro _ w44 ⟨rfl, e45⟩
      have O1 := O1.ext e45
      have hB := ethen hB e45
      refine ⟨r41, rfl, ?_⟩
      refine bcase_mk (fun hc46 => ?_) (fun hc46 => ?_)
      · have H := (bcase_iff.1 H).1 hc46
        refine ⟨_, (O1.at 3 rfl rfl), ?_⟩
        obtain rfl := hr.trans H.symm
        exact ⟨rfl, hB⟩
      have H := (bcase_iff.1 H).2 hc46
      obtain rfl := hr.trans H.symm
      exact ⟨rfl, hB⟩
    have H := (bcase_iff.1 H).2 hc47
    obtain rfl := hr.trans H.symm
    exact ⟨rfl, hB⟩
  have H := (bcase_iff.1 H).2 hc122
  obtain ⟨K121, hKK121, H⟩ := joinP_out H
  refine ⟨fun z_ w_ => ∃ (b48 : Bool), z_ = (b48, ()) ∧ K121 (b48, ()) ∧ Ext w w_ ∧ Blk w_ g1_ 89 #[(.int .i64 s0.Op), (.int .i64 s0.A), (.int .i64 s0.B), (.int .i64 s0.C)], ?_, ?_⟩
  · refine bcase_mk (fun hc54 => ?_) (fun hc54 => ?_)
    · have H := (bcase_iff.1 H).1 hc54
      exact ⟨true, rfl, H, hB, O1⟩
    have H := (bcase_iff.1 H).2 hc54
    refine bcase_mk (fun hc53 => ?_) (fun hc53 => ?_)
    · have H := (bcase_iff.1 H).1 hc53
      exact ⟨true, rfl, H, hB, O1⟩
    have H := (bcase_iff.1 H).2 hc53
    refine bcase_mk (fun hc52 => ?_) (fun hc52 => ?_)
    · have H := (bcase_iff.1 H).1 hc52
      exact ⟨true, rfl, H, hB, O1⟩
    have H := (bcase_iff.1 H).2 hc52
    exact ⟨(s0.Op == 15), rfl, H, hB, O1⟩
  rintro _ w50 ⟨b48, rfl, H, hB, O1⟩
  have H := hKK121 _ H
  try dsimp only at H ⊢
  refine bcase_mk (fun hc119 => ?_) (fun hc119 => ?_)
  · have H := (bcase_iff.1 H).1 hc119
    refine ⟨_, (O1.at 1 rfl rfl), ?_⟩
    obtain ⟨r55, hr56⟩ : ∃ r_, r_ = M.spec_l04Reg s0.A := ⟨_, rfl⟩
    have H := H r55 hr56
    refine (spec_l04Reg.con hr56 ).mono ?_
    rintro _ w58 ⟨rfl, e59⟩
    have O1 := O1.ext e59
    have hB := ethen hB e59
    refine ⟨r55, rfl, ?_⟩
    refine bcase_mk (fun hc66 => ?_) (fun hc66 => ?_)
    · have H := (bcase_iff.1 H).1 hc66
      refine ⟨_, (O1.at 2 rfl rfl), ?_⟩
      obtain ⟨r60, hr61⟩ : ∃ r_, r_ = M.spec_l04Reg s0.B := ⟨_, rfl⟩
      have H := H r60 hr61
      refine (spec_l04Reg.con hr61 ).mono ?_
      rintro _ w63 ⟨rfl, e64⟩
      have O1 := O1.ext e64
      have hB := ethen hB e64
      refine ⟨r60, rfl, ?_⟩
      refine bcase_mk (fun hc65 => ?_) (fun hc65 => ?_)
      · have H := (bcase_iff.1 H).1 hc65
        refine ⟨_, (O1.at 3 rfl rfl), ?_⟩
        obtain rfl := hr.trans H.symm
        exact ⟨rfl, hB⟩
      have H := (bcase_iff.1 H).2 hc65
      obtain rfl := hr.trans H.symm
      exact ⟨rfl, hB⟩
    have H := (bcase_iff.1 H).2 hc66
    obtain rfl := hr.trans H.symm
    exact ⟨rfl, hB⟩
  have H := (bcase_iff.1 H).2 hc119
  refine bcase_mk (fun hc118 => ?_) (fun hc118 => ?_)
  · have H := (bcase_iff.1 H).1 hc118
    refine ⟨_, (O1.at 1 rfl rfl), ?_⟩
    obtain ⟨r67, hr68⟩ : ∃ r_, r_ = M.spec_l04Reg s0.A := ⟨_, rfl⟩
    have H := H r67 hr68
    refine (spec_l04Reg.con hr68 ).mono ?_
    rintro _ w70 ⟨rfl, e71⟩
    have O1 := O1.ext e71
    have hB := ethen hB e71
    refine ⟨r67, rfl, ?_⟩
    refine bcase_mk (fun hc73 => ?_) (fun hc73 => ?_)
    · have H := (bcase_iff.1 H).1 hc73
      refine ⟨_, (O1.at 2 rfl rfl), ?_⟩
      refine bcase_mk (fun hc72 => ?_) (fun hc72 => ?_)
      · have H := (bcase_iff.1 H).1 hc72
        refine ⟨_, (O1.at 3 rfl rfl), ?_⟩
        obtain rfl := hr.trans H.symm
        exact ⟨rfl, hB⟩
      have H := (bcase_iff.1 H).2 hc72
      obtain rfl := hr.trans H.symm
      exact ⟨rfl, hB⟩
    have H := (bcase_iff.1 H).2 hc73
    obtain rfl := hr.trans H.symm
    exact ⟨rfl, hB⟩
  have H := (bcase_iff.1 H).2 hc118
  refine bcase_mk (fun hc117 => ?_) (fun hc117 => ?_)
  · have H := (bcase_iff.1 H).1 hc117
    refine ⟨_, (O1.at 1 rfl rfl), ?_⟩
    obtain ⟨r74, hr75⟩ : ∃ r_, r_ = M.spec_l04Reg s0.A := ⟨_, rfl⟩
    have H := H r74 hr75
    refine (spec_l04Reg.con hr75 ).mono ?_
    rintro _ w77 ⟨rfl, e78⟩
    have O1 := O1.ext e78
    have hB := ethen hB e78
    refine ⟨r74, rfl, ?_⟩
    refine bcase_mk (fun hc85 => ?_) (fun hc85 => ?_)
    · have H := (bcase_iff.1 H).1 hc85
      refine ⟨_, (O1.at 2 rfl rfl), ?_⟩
      obtain ⟨r79, hr80⟩ : ∃ r_, r_ = M.spec_l01In s0.B 0 x1 := ⟨_, rfl⟩
      have H := H r79 hr80
      refine (spec_l01In.con hr80 ).mono ?_
      rintro _ w82 ⟨rfl, e83⟩
      have O1 := O1.ext e83
      have hB := ethen hB e83
      refine ⟨r79, rfl, ?_⟩
      refine bcase_mk (fun hc84 => ?_) (fun hc84 => ?_)
      · have H := (bcase_iff.1 H).1 hc84
        refine ⟨_, (O1.at 3 rfl rfl), ?_⟩
        obtain rfl := hr.trans H.symm
        exact ⟨rfl, hB⟩
      have H := (bcase_iff.1 H).2 hc84
      obtain rfl := hr.trans H.symm
      exact ⟨rfl, hB⟩
    have H := (bcase_iff.1 H).2 hc85
    obtain rfl := hr.trans H.symm
    exact ⟨rfl, hB⟩
  have H := (bcase_iff.1 H).2 hc117
  refine bcase_mk (fun hc116 => ?_) (fun hc116 => ?_)
  · have H := (bcase_iff.1 H).1 hc116
    refine ⟨_, (O1.at 1 rfl rfl), ?_⟩
    refine bcase_mk (fun hc92 => ?_) (fun hc92 => ?_)
    · have H := (bcase_iff.1 H).1 hc92
      refine ⟨_, (O1.at 2 rfl rfl), ?_⟩
      obtain ⟨r86, hr87⟩ : ∃ r_, r_ = M.spec_l01In s0.B 0 x1 := ⟨_, rfl⟩
      have H := H r86 hr87
      refine (spec_l01In.con hr87 ).mono ?_
      rintro _ w89 ⟨rfl, e90⟩
      have O1 := O1.ext e90
      have hB := ethen hB e90
      refine ⟨r86, rfl, ?_⟩
      refine bcase_mk (fun hc91 => ?_) (fun hc91 => ?_)
      · have H := (bcase_iff.1 H).1 hc91
        refine ⟨_, (O1.at 3 rfl rfl), ?_⟩
        obtain rfl := hr.trans H.symm
        exact ⟨rfl, hB⟩
      have H := (bcase_iff.1 H).2 hc91
      obtain rfl := hr.trans H.symm
      exact ⟨rfl, hB⟩
    have H := (bcase_iff.1 H).2 hc92
    obtain rfl := hr.trans H.symm
    exact ⟨rfl, hB⟩
  have H := (bcase_iff.1 H).2 hc116
  refine ⟨_, (O1.at 0 rfl rfl), ?_⟩
  obtain ⟨r93, hr94⟩ : ∃ r_, r_ = M.spec_l01In s0.Op 3 9 := ⟨_, rfl⟩
  have H := H r93 hr94
  refine (spec_l01In.con hr94 ).mono ?_
  rintro _ w96 ⟨rfl, e97⟩
  have O1 := O1.ext e97
  have hB := ethen hB e97
  refine ⟨r93, rfl, ?_⟩
  refine bcase_mk (fun hc115 => ?_) (fun hc115 => ?_)
  · have H := (bcase_iff.1 H).1 hc115
    refine ⟨_, (O1.at 1 rfl rfl), ?_⟩
    obtain ⟨r98, hr99⟩ : ∃ r_, r_ = M.spec_l04Reg s0.A := ⟨_, rfl⟩
    have H := H r98 hr99
    refine (spec_l04Reg.con hr99 ).mono ?_
    rintro _ w101 ⟨rfl, e102⟩
    have O1 := O1.ext e102
    have hB := ethen hB e102
    refine ⟨r98, rfl, ?_⟩
    refine bcase_mk (fun hc114 => ?_) (fun hc114 => ?_)
    · have H := (bcase_iff.1 H).1 hc114
      refine ⟨_, (O1.at 2 rfl rfl), ?_⟩
      obtain ⟨r103, hr104⟩ : ∃ r_, r_ = M.spec_l04Reg s0.B := ⟨_, rfl⟩
      have H := H r103 hr104
      refine (spec_l04Reg.con hr104 ).mono ?_
      rintro _ w106 ⟨rfl, e107⟩
      have O1 := O1.ext e107
      have hB := ethen hB e107
      refine ⟨r103, rfl, ?_⟩
      refine bcase_mk (fun hc113 => ?_) (fun hc113 => ?_)
      · have H := (bcase_iff.1 H).1 hc113
        refine ⟨_, (O1.at 3 rfl rfl), ?_⟩
        obtain ⟨r108, hr109⟩ : ∃ r_, r_ = M.spec_l04Reg s0.C := ⟨_, rfl⟩
        have H := H r108 hr109
        refine (spec_l04Reg.con hr109 ).mono ?_
        rintro _ w111 ⟨rfl, e112⟩
        have O1 := O1.ext e112
        have hB := ethen hB e112
        refine ⟨r108, rfl, ?_⟩
        obtain rfl := hr.trans H.symm
        exact ⟨rfl, hB⟩
      have H := (bcase_iff.1 H).2 hc113
      obtain rfl := hr.trans H.symm
      exact ⟨rfl, hB⟩
    have H := (bcase_iff.1 H).2 hc114
    obtain rfl := hr.trans H.symm
    exact ⟨rfl, hB⟩
  have H := (bcase_iff.1 H).2 hc115
  obtain rfl := hr.trans H.symm
  exact ⟨rfl, hB⟩
def spec_ProgramOk.vc (A0 : Option Addr) (n0 : Nat) (c0 : Nat) (w : World) (K : Value → World → Prop) : Prop :=
  LoopT (σ := Int × Unit) (fun z21 w22 next23 => bcase (decide (z21.1 < ((n0 : Nat) : Int))) (((0 : Int) ≤ z21.1 ∧ z21.1 < ((n0 : Nat) : Int) ∧ ∃ a24 : Addr, A0 = some a24 ∧ ∃ (n25 : Int), w22.cell? ((a24.add ((z21.1.toNat) * 4)).add 0) = some (.int .i64 n25) ∧ ∃ (n26 : Int), w22.cell? ((a24.add ((z21.1.toNat) * 4)).add 1) = some (.int .i64 n26) ∧ ∃ (n27 : Int), w22.cell? ((a24.add ((z21.1.toNat) * 4)).add 2) = some (.int .i64 n27) ∧ ∃ (n28 : Int), w22.cell? ((a24.add ((z21.1.toNat) * 4)).add 3) = some (.int .i64 n28) ∧ Cll Tryz.prog 192 #[(.agg #[(.int .i64 n25), (.int .i64 n26), (.int .i64 n27), (.int .i64 n28)]), (.int .i64 ((n0 : Nat) : Int))] w22 fun v29 w30 => (∃ (b31 : Bool), v29 = (.bool b31) ∧ bcase (!b31) (K (.bool false) w30) (next23 ((IntKind.wrap .i64 (z21.1 + 1)), ()) w30)))) (K (.bool (decide (((n0 : Nat) : Int) ≤ 32))) w22)) (0, ()) w

def spec_ProgramOk.ann : Ann := (.seq .l (.seq (.seq .l (.one (.loop [(3, .int .i64)] (.seq (.seq .l (.two .l .l)) (.seq (.one (.seq .l (.two (.seq .l .l) .l))) .l))))) (.seq .l .l)))

theorem spec_ProgramOk.start {A0 : Option Addr} {n0 : Nat} {c0 : Nat} {w : World} {K : Value → World → Prop} (h : spec_ProgramOk.vc A0 n0 c0 w K) : Cll Tryz.prog 134 #[(.slice A0 n0 c0)] w K :=
  vcF_sound mixed (fn := Tryz.f134) (by kernel_rfl) (by kernel_rfl) (an := spec_ProgramOk.ann) (args := [(.slice A0 n0 c0)]) (Eq.mpr (by kernel_rfl) h)

theorem spec_ProgramOk.con {xs0 : List D.Ins} {A0 : Option Addr} {c0 : Nat} {r : Bool} {w : World} (hp : M.spec_ProgramOk_pre xs0) (hr : r = M.spec_ProgramOk xs0) (R0 : Row el89 w A0 xs0) (hc0 : xs0.length ≤ c0) :
    Cll Tryz.prog 134 #[(.slice A0 xs0.length c0)] w (fun v_ w_ => v_ = (.bool r) ∧ Ext w w_) := by
  have H := wp.spec_ProgramOk.math xs0 hp
  have hB := Ext.refl w
  refine spec_ProgramOk.start ?_
  unfold spec_ProgramOk.vc
  unfold wp.spec_ProgramOk at H
  obtain ⟨J23, ⟨m44, hJ43⟩, hS24⟩ := H
  refine ⟨fun m_ z_ w_ => ∃ (i21 : Int), z_ = (i21, ()) ∧ J23 m_ (i21, ()) ∧ Ext w w_, ⟨m44, 0, rfl, hJ43, hB⟩, ?_⟩
  rintro m22 _ w26 ⟨i21, rfl, hJ45, hB⟩
  have H := hS24 m22 _ hJ45
  clear hS24 hJ45
  try dsimp only at H ⊢
  refine bcase_mk (fun hc41 => ?_) (fun hc41 => ?_)
  · have H := (bcase_iff.1 H).1 hc41
    obtain ⟨⟨h0_30, h1_31⟩, H⟩ := H
    obtain ⟨a28, ha29, hat27⟩ := Row.at (R0.ext hB) h0_30 h1_31
    refine ⟨h0_30, h1_31, a28, ha29, ?_⟩
    refine ⟨_, (hat27 0 _ rfl), ?_⟩
    refine ⟨_, (hat27 1 _ rfl), ?_⟩
    refine ⟨_, (hat27 2 _ rfl), ?_⟩
    refine ⟨_, (hat27 3 _ rfl), ?_⟩
    obtain ⟨r32, hr33⟩ : ∃ r_, r_ = M.spec_InsOk (rd xs0 i21) ((xs0.length : Nat) : Int) := ⟨_, rfl⟩
    have H := H r32 hr33
    refine (spec_InsOk.con hr33 ).mono ?_
    rintro _ w35 ⟨rfl, e36⟩
    have hB := ethen hB e36
    refine ⟨r32, rfl, ?_⟩
    refine bcase_mk (fun hc40 => ?_) (fun hc40 => ?_)
    · have H := (bcase_iff.1 H).1 hc40
      obtain rfl := hr.trans H.symm
      exact ⟨rfl, hB⟩
    have H := (bcase_iff.1 H).2 hc40
    obtain ⟨m37, hm38, hJ39⟩ := H
    exact ⟨m37, hm38, (IntKind.wrap .i64 (i21 + 1)), rfl, hJ39, hB⟩
  have H := (bcase_iff.1 H).2 hc41
  obtain rfl := hr.trans H.symm
  exact ⟨rfl, hB⟩
def spec_SubWords.vc (x0 : Int) (x1 : Int) (w : World) (K : Value → World → Prop) : Prop :=
  Cll Tryz.prog 193 #[(.int .i64 x0)] w fun v21 w22 => (∃ (b23 : Bool), v21 = (.bool b23) ∧ bcase (!b23) (K (.int .i64 0) w22) (Cll Tryz.prog 193 #[(.int .i64 x1)] w22 fun v24 w25 => (∃ (b26 : Bool), v24 = (.bool b26) ∧ bcase (!b26) (K (.int .i64 0) w25) (Cll Tryz.prog 261 #[(.int .i64 (IntKind.wrap .i64 (x0 - x1)))] w25 fun v27 w28 => (∃ (n29 : Int), v27 = (.int .i64 n29) ∧ K (.int .i64 n29) w28)))))

def spec_SubWords.ann : Ann := (.seq .l (.seq (.seq .l (.two (.seq .l .l) .l)) (.seq .l .l)))

theorem spec_SubWords.start {x0 : Int} {x1 : Int} {w : World} {K : Value → World → Prop} (h : spec_SubWords.vc x0 x1 w K) : Cll Tryz.prog 240 #[(.int .i64 x0), (.int .i64 x1)] w K :=
  vcF_sound mixed (fn := Tryz.f240) (by kernel_rfl) (by kernel_rfl) (an := spec_SubWords.ann) (args := [(.int .i64 x0), (.int .i64 x1)]) (Eq.mpr (by kernel_rfl) h)

theorem spec_SubWords.con {x0 : Int} {x1 : Int} {r : Int} {w : World} (hr : r = M.spec_SubWords x0 x1)  :
    Cll Tryz.prog 240 #[(.int .i64 x0), (.int .i64 x1)] w (fun v_ w_ => v_ = (.int .i64 r) ∧ Ext w w_) := by
  have H := wp.spec_SubWords.math x0 x1
  have hB := Ext.refl w
  refine spec_SubWords.start ?_
  unfold spec_SubWords.vc
  unfold wp.spec_SubWords at H
  obtain ⟨r21, hr22⟩ : ∃ r_, r_ = M.spec_IsWord x0 := ⟨_, rfl⟩
  have H := H r21 hr22
  refine (spec_IsWord.con hr22 ).mono ?_
  rintro _ w24 ⟨rfl, e25⟩
  have hB := ethen hB e25
  refine ⟨r21, rfl, ?_⟩
  refine bcase_mk (fun hc37 => ?_) (fun hc37 => ?_)
  · have H := (bcase_iff.1 H).1 hc37
    obtain rfl := hr.trans H.symm
    exact ⟨rfl, hB⟩
  have H := (bcase_iff.1 H).2 hc37
  obtain ⟨r26, hr27⟩ : ∃ r_, r_ = M.spec_IsWord x1 := ⟨_, rfl⟩
  have H := H r26 hr27
  refine (spec_IsWord.con hr27 ).mono ?_
  rintro _ w29 ⟨rfl, e30⟩
  have hB := ethen hB e30
  refine ⟨r26, rfl, ?_⟩
  refine bcase_mk (fun hc36 => ?_) (fun hc36 => ?_)
  · have H := (bcase_iff.1 H).1 hc36
    obtain rfl := hr.trans H.symm
    exact ⟨rfl, hB⟩
  have H := (bcase_iff.1 H).2 hc36
  obtain ⟨r31, hr32⟩ : ∃ r_, r_ = M.spec_WrapWord (IntKind.wrap .i64 (x0 - x1)) := ⟨_, rfl⟩
  have H := H r31 hr32
  refine (spec_WrapWord.con hr32 ).mono ?_
  rintro _ w34 ⟨rfl, e35⟩
  have hB := ethen hB e35
  refine ⟨r31, rfl, ?_⟩
  obtain rfl := hr.trans H.symm
  exact ⟨rfl, hB⟩
def spec_MulWords.vc (x0 : Int) (x1 : Int) (w : World) (K : Value → World → Prop) : Prop :=
  Cll Tryz.prog 193 #[(.int .i64 x0)] w fun v21 w22 => (∃ (b23 : Bool), v21 = (.bool b23) ∧ bcase (!b23) (K (.int .i64 0) w22) (Cll Tryz.prog 193 #[(.int .i64 x1)] w22 fun v24 w25 => (∃ (b26 : Bool), v24 = (.bool b26) ∧ bcase (!b26) (K (.int .i64 0) w25) (Cll Tryz.prog 261 #[(.int .i64 (IntKind.wrap .i64 (x0 * x1)))] w25 fun v27 w28 => (∃ (n29 : Int), v27 = (.int .i64 n29) ∧ K (.int .i64 n29) w28)))))

def spec_MulWords.ann : Ann := (.seq .l (.seq (.seq .l (.two (.seq .l .l) .l)) (.seq .l .l)))

theorem spec_MulWords.start {x0 : Int} {x1 : Int} {w : World} {K : Value → World → Prop} (h : spec_MulWords.vc x0 x1 w K) : Cll Tryz.prog 241 #[(.int .i64 x0), (.int .i64 x1)] w K :=
  vcF_sound mixed (fn := Tryz.f241) (by kernel_rfl) (by kernel_rfl) (an := spec_MulWords.ann) (args := [(.int .i64 x0), (.int .i64 x1)]) (Eq.mpr (by kernel_rfl) h)

theorem spec_MulWords.con {x0 : Int} {x1 : Int} {r : Int} {w : World} (hr : r = M.spec_MulWords x0 x1)  :
    Cll Tryz.prog 241 #[(.int .i64 x0), (.int .i64 x1)] w (fun v_ w_ => v_ = (.int .i64 r) ∧ Ext w w_) := by
  have H := wp.spec_MulWords.math x0 x1
  have hB := Ext.refl w
  refine spec_MulWords.start ?_
  unfold spec_MulWords.vc
  unfold wp.spec_MulWords at H
  obtain ⟨r21, hr22⟩ : ∃ r_, r_ = M.spec_IsWord x0 := ⟨_, rfl⟩
  have H := H r21 hr22
  refine (spec_IsWord.con hr22 ).mono ?_
  rintro _ w24 ⟨rfl, e25⟩
  have hB := ethen hB e25
  refine ⟨r21, rfl, ?_⟩
  refine bcase_mk (fun hc37 => ?_) (fun hc37 => ?_)
  · have H := (bcase_iff.1 H).1 hc37
    obtain rfl := hr.trans H.symm
    exact ⟨rfl, hB⟩
  have H := (bcase_iff.1 H).2 hc37
  obtain ⟨r26, hr27⟩ : ∃ r_, r_ = M.spec_IsWord x1 := ⟨_, rfl⟩
  have H := H r26 hr27
  refine (spec_IsWord.con hr27 ).mono ?_
  rintro _ w29 ⟨rfl, e30⟩
  have hB := ethen hB e30
  refine ⟨r26, rfl, ?_⟩
  refine bcase_mk (fun hc36 => ?_) (fun hc36 => ?_)
  · have H := (bcase_iff.1 H).1 hc36
    obtain rfl := hr.trans H.symm
    exact ⟨rfl, hB⟩
  have H := (bcase_iff.1 H).2 hc36
  obtain ⟨r31, hr32⟩ : ∃ r_, r_ = M.spec_WrapWord (IntKind.wrap .i64 (x0 * x1)) := ⟨_, rfl⟩
  have H := H r31 hr32
  refine (spec_WrapWord.con hr32 ).mono ?_
  rintro _ w34 ⟨rfl, e35⟩
  have hB := ethen hB e35
  refine ⟨r31, rfl, ?_⟩
  obtain rfl := hr.trans H.symm
  exact ⟨rfl, hB⟩
def spec_LessWords.vc (x0 : Int) (x1 : Int) (w : World) (K : Value → World → Prop) : Prop :=
  Cll Tryz.prog 193 #[(.int .i64 x0)] w fun v21 w22 => (∃ (b23 : Bool), v21 = (.bool b23) ∧ bcase b23 (Cll Tryz.prog 193 #[(.int .i64 x1)] w22 fun v24 w25 => (∃ (b26 : Bool), v24 = (.bool b26) ∧ bcase b26 (bcase (decide (x0 < x1)) (K (.int .i64 1) w25) (K (.int .i64 0) w25)) (K (.int .i64 0) w25))) (K (.int .i64 0) w22))

def spec_LessWords.ann : Ann := (.seq .l (.seq (.seq .l (.two (.seq .l .l) .l)) (.seq .l .l)))

theorem spec_LessWords.start {x0 : Int} {x1 : Int} {w : World} {K : Value → World → Prop} (h : spec_LessWords.vc x0 x1 w K) : Cll Tryz.prog 242 #[(.int .i64 x0), (.int .i64 x1)] w K :=
  vcF_sound mixed (fn := Tryz.f242) (by kernel_rfl) (by kernel_rfl) (an := spec_LessWords.ann) (args := [(.int .i64 x0), (.int .i64 x1)]) (Eq.mpr (by kernel_rfl) h)

theorem spec_LessWords.con {x0 : Int} {x1 : Int} {r : Int} {w : World} (hr : r = M.spec_LessWords x0 x1)  :
    Cll Tryz.prog 242 #[(.int .i64 x0), (.int .i64 x1)] w (fun v_ w_ => v_ = (.int .i64 r) ∧ Ext w w_) := by
  have H := wp.spec_LessWords.math x0 x1
  have hB := Ext.refl w
  refine spec_LessWords.start ?_
  unfold spec_LessWords.vc
  unfold wp.spec_LessWords at H
  obtain ⟨r21, hr22⟩ : ∃ r_, r_ = M.spec_IsWord x0 := ⟨_, rfl⟩
  have H := H r21 hr22
  refine (spec_IsWord.con hr22 ).mono ?_
  rintro _ w24 ⟨rfl, e25⟩
  have hB := ethen hB e25
  refine ⟨r21, rfl, ?_⟩
  refine bcase_mk (fun hc33 => ?_) (fun hc33 => ?_)
  · have H := (bcase_iff.1 H).1 hc33
    obtain ⟨r26, hr27⟩ : ∃ r_, r_ = M.spec_IsWord x1 := ⟨_, rfl⟩
    have H := H r26 hr27
    refine (spec_IsWord.con hr27 ).mono ?_
    rintro _ w29 ⟨rfl, e30⟩
    have hB := ethen hB e30
    refine ⟨r26, rfl, ?_⟩
    refine bcase_mk (fun hc32 => ?_) (fun hc32 => ?_)
    · have H := (bcase_iff.1 H).1 hc32
      refine bcase_mk (fun hc31 => ?_) (fun hc31 => ?_)
      · have H := (bcase_iff.1 H).1 hc31
        obtain rfl := hr.trans H.symm
        exact ⟨rfl, hB⟩
      have H := (bcase_iff.1 H).2 hc31
      obtain rfl := hr.trans H.symm
      exact ⟨rfl, hB⟩
    have H := (bcase_iff.1 H).2 hc32
    obtain rfl := hr.trans H.symm
    exact ⟨rfl, hB⟩
  have H := (bcase_iff.1 H).2 hc33
  obtain rfl := hr.trans H.symm
  exact ⟨rfl, hB⟩
def spec_l10Apply.vc (x0_0 : Int) (x0_1 : Int) (x0_2 : Int) (x0_3 : Int) (x1 : Int) (A2 : Option Addr) (n2 : Nat) (c2 : Nat) (w : World) (K : Value → World → Prop) : Prop :=
  newK w (.cells #[(.int .i64 x0_0), (.int .i64 x0_1), (.int .i64 x0_2), (.int .i64 x0_3)] 89) fun g21 w22 => Run Tryz.prog (Instr.buildSlice 24 0 #[]) w22 fun v23 w24 => ∃ (A25 : Option Addr) (n26 c27 : Nat), v23 = .slice A25 n26 c27 ∧ Run Tryz.prog (Builtin.append_ #[24, 24] 24 #[(.slice A25 n26 c27), (.slice A2 n2 c2)]) w24 fun v28 w29 => ∃ (A30 : Option Addr) (n31 c32 : Nat), v28 = .slice A30 n31 c32 ∧ ∃ (n33 : Int), w29.cell? (((⟨g21, 0, none⟩ : Addr).add 0).add 0) = some (.int .i64 n33) ∧ bcase (n33 == 1) (∃ (n34 : Int), w29.cell? (((⟨g21, 0, none⟩ : Addr).add 1).add 0) = some (.int .i64 n34) ∧ ∃ (n35 : Int), w29.cell? (((⟨g21, 0, none⟩ : Addr).add 2).add 0) = some (.int .i64 n35) ∧ ((0 : Int) ≤ n34 ∧ n34 < ((n31 : Nat) : Int) ∧ ∃ a36 : Addr, A30 = some a36 ∧ stCells (a36.add ((n34.toNat) * 1)) [(.int .i64 n35)] 0 w29 fun w37 => K (.slice A30 n31 c32) w37)) (bcase (n33 == 2) ((∃ M38 : Nat → Prop, ∃ (n39 : Int), (¬ M38 (((⟨g21, 0, none⟩ : Addr).add 1)).block ∧ w29.cell? (((⟨g21, 0, none⟩ : Addr).add 1).add 0) = some (.int .i64 n39)) ∧ ∃ (n40 : Int), (¬ M38 (((⟨g21, 0, none⟩ : Addr).add 2)).block ∧ w29.cell? (((⟨g21, 0, none⟩ : Addr).add 2).add 0) = some (.int .i64 n40)) ∧ ((0 : Int) ≤ n40 ∧ n40 < ((n2 : Nat) : Int) ∧ ∃ a41 : Addr, A2 = some a41 ∧ ∃ (n42 : Int), (¬ M38 ((a41.add ((n40.toNat) * 1))).block ∧ w29.cell? ((a41.add ((n40.toNat) * 1)).add 0) = some (.int .i64 n42)) ∧ ((0 : Int) ≤ n39 ∧ n39 < ((n31 : Nat) : Int) ∧ ∃ a43 : Addr, A30 = some a43 ∧ stCells (a43.add ((n39.toNat) * 1)) [(.int .i64 n42)] 0 w29.drew fun w44 => K (.slice A30 n31 c32) w44)))) (bcase (n33 == 3) ((∃ M45 : Nat → Prop, ∃ (n46 : Int), (¬ M45 (((⟨g21, 0, none⟩ : Addr).add 1)).block ∧ w29.cell? (((⟨g21, 0, none⟩ : Addr).add 1).add 0) = some (.int .i64 n46)) ∧ ∃ (n47 : Int), (¬ M45 (((⟨g21, 0, none⟩ : Addr).add 2)).block ∧ w29.cell? (((⟨g21, 0, none⟩ : Addr).add 2).add 0) = some (.int .i64 n47)) ∧ ((0 : Int) ≤ n47 ∧ n47 < ((n2 : Nat) : Int) ∧ ∃ a48 : Addr, A2 = some a48 ∧ ∃ (n49 : Int), (¬ M45 ((a48.add ((n47.toNat) * 1))).block ∧ w29.cell? ((a48.add ((n47.toNat) * 1)).add 0) = some (.int .i64 n49)) ∧ ∃ (n50 : Int), (¬ M45 (((⟨g21, 0, none⟩ : Addr).add 3)).block ∧ w29.cell? (((⟨g21, 0, none⟩ : Addr).add 3).add 0) = some (.int .i64 n50)) ∧ ((0 : Int) ≤ n50 ∧ n50 < ((n2 : Nat) : Int) ∧ ∃ a51 : Addr, A2 = some a51 ∧ ∃ (n52 : Int), (¬ M45 ((a51.add ((n50.toNat) * 1))).block ∧ w29.cell? ((a51.add ((n50.toNat) * 1)).add 0) = some (.int .i64 n52)) ∧ Cll Tryz.prog 217 #[(.int .i64 n49), (.int .i64 n52)] w29.drew fun v53 w54 => (∃ (n55 : Int), v53 = (.int .i64 n55) ∧ SameBut M45 w29 w54 ∧ ((0 : Int) ≤ n46 ∧ n46 < ((n31 : Nat) : Int) ∧ ∃ a56 : Addr, A30 = some a56 ∧ stCells (a56.add ((n46.toNat) * 1)) [(.int .i64 n55)] 0 w54 fun w57 => K (.slice A30 n31 c32) w57)))))) (bcase (n33 == 4) ((∃ M58 : Nat → Prop, ∃ (n59 : Int), (¬ M58 (((⟨g21, 0, none⟩ : Addr).add 1)).block ∧ w29.cell? (((⟨g21, 0, none⟩ : Addr).add 1).add 0) = some (.int .i64 n59)) ∧ ∃ (n60 : Int), (¬ M58 (((⟨g21, 0, none⟩ : Addr).add 2)).block ∧ w29.cell? (((⟨g21, 0, none⟩ : Addr).add 2).add 0) = some (.int .i64 n60)) ∧ ((0 : Int) ≤ n60 ∧ n60 < ((n2 : Nat) : Int) ∧ ∃ a61 : Addr, A2 = some a61 ∧ ∃ (n62 : Int), (¬ M58 ((a61.add ((n60.toNat) * 1))).block ∧ w29.cell? ((a61.add ((n60.toNat) * 1)).add 0) = some (.int .i64 n62)) ∧ ∃ (n63 : Int), (¬ M58 (((⟨g21, 0, none⟩ : Addr).add 3)).block ∧ w29.cell? (((⟨g21, 0, none⟩ : Addr).add 3).add 0) = some (.int .i64 n63)) ∧ ((0 : Int) ≤ n63 ∧ n63 < ((n2 : Nat) : Int) ∧ ∃ a64 : Addr, A2 = some a64 ∧ ∃ (n65 : Int), (¬ M58 ((a64.add ((n63.toNat) * 1))).block ∧ w29.cell? ((a64.add ((n63.toNat) * 1)).add 0) = some (.int .i64 n65)) ∧ Cll Tryz.prog 240 #[(.int .i64 n62), (.int .i64 n65)] w29.drew fun v66 w67 => (∃ (n68 : Int), v66 = (.int .i64 n68) ∧ SameBut M58 w29 w67 ∧ ((0 : Int) ≤ n59 ∧ n59 < ((n31 : Nat) : Int) ∧ ∃ a69 : Addr, A30 = some a69 ∧ stCells (a69.add ((n59.toNat) * 1)) [(.int .i64 n68)] 0 w67 fun w70 => K (.slice A30 n31 c32) w70)))))) (bcase (n33 == 5) ((∃ M71 : Nat → Prop, ∃ (n72 : Int), (¬ M71 (((⟨g21, 0, none⟩ : Addr).add 1)).block ∧ w29.cell? (((⟨g21, 0, none⟩ : Addr).add 1).add 0) = some (.int .i64 n72)) ∧ ∃ (n73 : Int), (¬ M71 (((⟨g21, 0, none⟩ : Addr).add 2)).block ∧ w29.cell? (((⟨g21, 0, none⟩ : Addr).add 2).add 0) = some (.int .i64 n73)) ∧ ((0 : Int) ≤ n73 ∧ n73 < ((n2 : Nat) : Int) ∧ ∃ a74 : Addr, A2 = some a74 ∧ ∃ (n75 : Int), (¬ M71 ((a74.add ((n73.toNat) * 1))).block ∧ w29.cell? ((a74.add ((n73.toNat) * 1)).add 0) = some (.int .i64 n75)) ∧ ∃ (n76 : Int), (¬ M71 (((⟨g21, 0, none⟩ : Addr).add 3)).block ∧ w29.cell? (((⟨g21, 0, none⟩ : Addr).add 3).add 0) = some (.int .i64 n76)) ∧ ((0 : Int) ≤ n76 ∧ n76 < ((n2 : Nat) : Int) ∧ ∃ a77 : Addr, A2 = some a77 ∧ ∃ (n78 : Int), (¬ M71 ((a77.add ((n76.toNat) * 1))).block ∧ w29.cell? ((a77.add ((n76.toNat) * 1)).add 0) = some (.int .i64 n78)) ∧ Cll Tryz.prog 241 #[(.int .i64 n75), (.int .i64 n78)] w29.drew fun v79 w80 => (∃ (n81 : Int), v79 = (.int .i64 n81) ∧ SameBut M71 w29 w80 ∧ ((0 : Int) ≤ n72 ∧ n72 < ((n31 : Nat) : Int) ∧ ∃ a82 : Addr, A30 = some a82 ∧ stCells (a82.add ((n72.toNat) * 1)) [(.int .i64 n81)] 0 w80 fun w83 => K (.slice A30 n31 c32) w83)))))) (bcase (n33 == 6) ((∃ M84 : Nat → Prop, ∃ (n85 : Int), (¬ M84 (((⟨g21, 0, none⟩ : Addr).add 1)).block ∧ w29.cell? (((⟨g21, 0, none⟩ : Addr).add 1).add 0) = some (.int .i64 n85)) ∧ ∃ (n86 : Int), (¬ M84 (((⟨g21, 0, none⟩ : Addr).add 2)).block ∧ w29.cell? (((⟨g21, 0, none⟩ : Addr).add 2).add 0) = some (.int .i64 n86)) ∧ ((0 : Int) ≤ n86 ∧ n86 < ((n2 : Nat) : Int) ∧ ∃ a87 : Addr, A2 = some a87 ∧ ∃ (n88 : Int), (¬ M84 ((a87.add ((n86.toNat) * 1))).block ∧ w29.cell? ((a87.add ((n86.toNat) * 1)).add 0) = some (.int .i64 n88)) ∧ ∃ (n89 : Int), (¬ M84 (((⟨g21, 0, none⟩ : Addr).add 3)).block ∧ w29.cell? (((⟨g21, 0, none⟩ : Addr).add 3).add 0) = some (.int .i64 n89)) ∧ ((0 : Int) ≤ n89 ∧ n89 < ((n2 : Nat) : Int) ∧ ∃ a90 : Addr, A2 = some a90 ∧ ∃ (n91 : Int), (¬ M84 ((a90.add ((n89.toNat) * 1))).block ∧ w29.cell? ((a90.add ((n89.toNat) * 1)).add 0) = some (.int .i64 n91)) ∧ ((0 : Int) ≤ n85 ∧ n85 < ((n31 : Nat) : Int) ∧ ∃ a92 : Addr, A30 = some a92 ∧ stCells (a92.add ((n85.toNat) * 1)) [(.int .i64 (bitXor .i64 n88 n91))] 0 w29.drew fun w93 => K (.slice A30 n31 c32) w93))))) (bcase (n33 == 7) ((∃ M94 : Nat → Prop, ∃ (n95 : Int), (¬ M94 (((⟨g21, 0, none⟩ : Addr).add 1)).block ∧ w29.cell? (((⟨g21, 0, none⟩ : Addr).add 1).add 0) = some (.int .i64 n95)) ∧ ∃ (n96 : Int), (¬ M94 (((⟨g21, 0, none⟩ : Addr).add 2)).block ∧ w29.cell? (((⟨g21, 0, none⟩ : Addr).add 2).add 0) = some (.int .i64 n96)) ∧ ((0 : Int) ≤ n96 ∧ n96 < ((n2 : Nat) : Int) ∧ ∃ a97 : Addr, A2 = some a97 ∧ ∃ (n98 : Int), (¬ M94 ((a97.add ((n96.toNat) * 1))).block ∧ w29.cell? ((a97.add ((n96.toNat) * 1)).add 0) = some (.int .i64 n98)) ∧ ∃ (n99 : Int), (¬ M94 (((⟨g21, 0, none⟩ : Addr).add 3)).block ∧ w29.cell? (((⟨g21, 0, none⟩ : Addr).add 3).add 0) = some (.int .i64 n99)) ∧ ((0 : Int) ≤ n99 ∧ n99 < ((n2 : Nat) : Int) ∧ ∃ a100 : Addr, A2 = some a100 ∧ ∃ (n101 : Int), (¬ M94 ((a100.add ((n99.toNat) * 1))).block ∧ w29.cell? ((a100.add ((n99.toNat) * 1)).add 0) = some (.int .i64 n101)) ∧ Cll Tryz.prog 242 #[(.int .i64 n98), (.int .i64 n101)] w29.drew fun v102 w103 => (∃ (n104 : Int), v102 = (.int .i64 n104) ∧ SameBut M94 w29 w103 ∧ ((0 : Int) ≤ n95 ∧ n95 < ((n31 : Nat) : Int) ∧ ∃ a105 : Addr, A30 = some a105 ∧ stCells (a105.add ((n95.toNat) * 1)) [(.int .i64 n104)] 0 w103 fun w106 => K (.slice A30 n31 c32) w106)))))) (bcase (n33 == 8) (∃ (n107 : Int), w29.cell? (((⟨g21, 0, none⟩ : Addr).add 1).add 0) = some (.int .i64 n107) ∧ ((0 : Int) ≤ n107 ∧ n107 < ((n31 : Nat) : Int) ∧ ∃ a108 : Addr, A30 = some a108 ∧ stCells (a108.add ((n107.toNat) * 1)) [(.int .i64 x1)] 0 w29 fun w109 => K (.slice A30 n31 c32) w109)) (bcase (n33 == 9) (∃ (n110 : Int), w29.cell? (((⟨g21, 0, none⟩ : Addr).add 3).add 0) = some (.int .i64 n110) ∧ ((0 : Int) ≤ n110 ∧ n110 < ((n2 : Nat) : Int) ∧ ∃ a111 : Addr, A2 = some a111 ∧ ∃ (n112 : Int), w29.cell? ((a111.add ((n110.toNat) * 1)).add 0) = some (.int .i64 n112) ∧ bcase (n112 != 0) ((∃ M113 : Nat → Prop, ∃ (n114 : Int), (¬ M113 (((⟨g21, 0, none⟩ : Addr).add 1)).block ∧ w29.cell? (((⟨g21, 0, none⟩ : Addr).add 1).add 0) = some (.int .i64 n114)) ∧ ∃ (n115 : Int), (¬ M113 (((⟨g21, 0, none⟩ : Addr).add 2)).block ∧ w29.cell? (((⟨g21, 0, none⟩ : Addr).add 2).add 0) = some (.int .i64 n115)) ∧ ((0 : Int) ≤ n115 ∧ n115 < ((n2 : Nat) : Int) ∧ ∃ a116 : Addr, A2 = some a116 ∧ ∃ (n117 : Int), (¬ M113 ((a116.add ((n115.toNat) * 1))).block ∧ w29.cell? ((a116.add ((n115.toNat) * 1)).add 0) = some (.int .i64 n117)) ∧ ((0 : Int) ≤ n114 ∧ n114 < ((n31 : Nat) : Int) ∧ ∃ a118 : Addr, A30 = some a118 ∧ stCells (a118.add ((n114.toNat) * 1)) [(.int .i64 n117)] 0 w29.drew fun w119 => K (.slice A30 n31 c32) w119)))) (K (.slice A30 n31 c32) w29))) (K (.slice A30 n31 c32) w29)))))))))

def spec_l10Apply.ann : Ann := (.seq .l (.seq .l (.seq (.seq .l (.one (.seq .l (.two .l (.seq .l (.two .l (.seq .l (.two .l (.seq .l (.two .l (.seq .l (.two .l (.seq .l (.two .l (.seq .l (.two .l (.seq .l (.two .l (.seq .l (.two (.seq .l (.two .l .l)) .l)))))))))))))))))))) (.seq .l .l))))

theorem spec_l10Apply.start {x0_0 : Int} {x0_1 : Int} {x0_2 : Int} {x0_3 : Int} {x1 : Int} {A2 : Option Addr} {n2 : Nat} {c2 : Nat} {w : World} {K : Value → World → Prop} (h : spec_l10Apply.vc x0_0 x0_1 x0_2 x0_3 x1 A2 n2 c2 w K) : Cll Tryz.prog 205 #[(.agg #[(.int .i64 x0_0), (.int .i64 x0_1), (.int .i64 x0_2), (.int .i64 x0_3)]), (.int .i64 x1), (.slice A2 n2 c2)] w K :=
  vcF_sound mixed (fn := Tryz.f205) (by kernel_rfl) (by kernel_rfl) (an := spec_l10Apply.ann) (args := [(.agg #[(.int .i64 x0_0), (.int .i64 x0_1), (.int .i64 x0_2), (.int .i64 x0_3)]), (.int .i64 x1), (.slice A2 n2 c2)]) (Eq.mpr (by kernel_rfl) h)

theorem spec_l10Apply.con {s0 : D.Ins} {x1 : Int} {xs2 : List Int} {A2 : Option Addr} {c2 : Nat} {r : List Int} {w : World} (hp : M.spec_l10Apply_pre s0 x1 xs2) (hr : r = M.spec_l10Apply s0 x1 xs2) (R2 : Row el3 w A2 xs2) (hc2 : xs2.length ≤ c2) :
    Cll Tryz.prog 205 #[(.agg #[(.int .i64 s0.Op), (.int .i64 s0.A), (.int .i64 s0.B), (.int .i64 s0.C)]), (.int .i64 x1), (.slice A2 xs2.length c2)] w (fun v_ w_ => ∃ (A0_ : Option Addr) (c0_ : Nat), v_ = (.slice A0_ r.length c0_) ∧ Own el3 w_ w.heap.size A0_ c0_ r ∧ Ext w w_) := by
  have H := wp.spec_l10Apply.math s0 x1 xs2 hp
  have hB := Ext.refl w
  refine spec_l10Apply.start ?_
  unfold spec_l10Apply.vc
  unfold wp.spec_l10Apply at H
  refine newBlk (fun g2_ w21 L2 P2 e22 => ?_)
  have O2 := P2
  have L2 := Nat.le_trans hB.size L2
  have hB := ethen hB e22
  refine buildOwn el3 ([] : List Int) (fun _ => by kernel_rfl) rfl (fun A23 w24 P3 e25 => ?_)
  have N3_2 := P3.apart_old O2.lt
  have O2 := O2.ext e25
  have O3 := P3.mono hB.size
  have hB := ethen hB e25
  obtain ⟨hl30, H⟩ := H
  refine appOwn slt24 slt24.under O3 (R2.ext hB) hB.size (by first | rfl | omega | (simp; done) | (simp; omega)) rfl hl30 (fun A26 c27 w28 P3 e29 => ?_)
  have N3_2_ := Apart.app N3_2 e29 O2.lt
  have O2 := O2.app e29 N3_2
  have N3_2 := N3_2_
  have hB := eapp hB e29 O3
  have O3 := P3
  refine ⟨_, (O2.at 0 rfl rfl), ?_⟩
  refine bcase_mk (fun hc284 => ?_) (fun hc284 => ?_)
  · have H := (bcase_iff.1 H).1 hc284
    refine ⟨_, (O2.at 1 rfl rfl), ?_⟩
    refine ⟨_, (O2.at 2 rfl rfl), ?_⟩
    obtain ⟨⟨h0_34, h1_35⟩, H⟩ := H
    obtain ⟨a32, ha33, hat31⟩ := Row.at O3.row h0_34 h1_35
    refine ⟨h0_34, h1_35, a32, ha33, ?_⟩
    refine Own.storeAt O3 ha33 h0_34 h1_35 0 [(.int .i64 s0.B)] s0.B rfl (Nat.le_of_ble_eq_true rfl) rfl (fun w36 P3 e37 hb38 => ?_)
    have O2_ := O2.chg e37 (fun h_ => (N3_2) _ ha33 h_.symm)
    have O2 := O2_
    have hB := echg hB e37 hb38
    have O3 := P3
    obtain rfl := hr.trans H.symm
    exact ⟨A26, c27, (by first | rfl | (simp; done) | (simp; omega) | (simp [*]; done)), (by first | exact O3 | (simp only [List.length_set]; exact O3)), hB⟩
  have H := (bcase_iff.1 H).2 hc284
  refine bcase_mk (fun hc283 => ?_) (fun hc283 => ?_)
  · have H := (bcase_iff.1 H).1 hc283
    refine ⟨(fun _ => False), ?_⟩
    refine ⟨_, ⟨(fun h_ => h_), (O2.at 1 rfl rfl)⟩, ?_⟩
    refine ⟨_, ⟨(fun h_ => h_), (O2.at 2 rfl rfl)⟩, ?_⟩
    obtain ⟨⟨h0_43, h1_44⟩, H⟩ := H
    obtain ⟨a41, ha42, hat40⟩ := Row.at (R2.ext hB) h0_43 h1_44
    refine ⟨h0_43, h1_44, a41, ha42, ?_⟩
    refine ⟨_, ⟨(fun h_ => h_), (hat40 0 _ rfl)⟩, ?_⟩
    obtain ⟨⟨h0_48, h1_49⟩, H⟩ := H
    obtain ⟨a46, ha47, hat45⟩ := Row.at O3.row h0_48 h1_49
    refine ⟨h0_48, h1_49, a46, ha47, ?_⟩
    have hS39 := Chg.refl (fun _ => False) w28
    have O2 := O2.ext (Ext.drew _)
    have O3 := O3.ext (Ext.drew _)
    have hB := ethen hB (Ext.drew _)
    have hS39 := hS39.then (Ext.drew _)
    refine Own.storeAt O3 ha47 h0_48 h1_49 0 [(.int .i64 (rd xs2 s0.B))] (rd xs2 s0.B) rfl (Nat.le_of_ble_eq_true rfl) rfl (fun w50 P3 e51 hb52 => ?_)
    have O2_ := O2.chg e51 (fun h_ => (N3_2) _ ha47 h_.symm)
    have O2 := O2_
    have hB := echg hB e51 hb52
    have O3 := P3
    obtain rfl := hr.trans H.symm
    exact ⟨A26, c27, (by first | rfl | (simp; done) | (simp; omega) | (simp [*]; done)), (by first | exact O3 | (simp only [List.length_set]; exact O3)), hB⟩
  have H := (bcase_iff.1 H).2 hc283
  refine bcase_mk (fun hc282 => ?_) (fun hc282 => ?_)
  · have H := (bcase_iff.1 H).1 hc282
    refine ⟨(fun _ => False), ?_⟩
    have hBz := hB
    have Z2 := O2
    have Z3 := O3
    refine ⟨_, ⟨(fun h_ => h_), (O2.at 1 rfl rfl)⟩, ?_⟩
    refine ⟨_, ⟨(fun h_ => h_), (O2.at 2 rfl rfl)⟩, ?_⟩
    obtain ⟨⟨h0_77, h1_78⟩, H⟩ := H
    obtain ⟨a75, ha76, hat74⟩ := Row.at (R2.ext hB) h0_77 h1_78
    refine ⟨h0_77, h1_78, a75, ha76, ?_⟩
    refine ⟨_, ⟨(fun h_ => h_), (hat74 0 _ rfl)⟩, ?_⟩
    refine ⟨_, ⟨(fun h_ => h_), (O2.at 3 rfl rfl)⟩, ?_⟩
    obtain ⟨⟨h0_82, h1_83⟩, H⟩ := H
    obtain ⟨a80, ha81, hat79⟩ := Row.at (R2.ext hB) h0_82 h1_83
    refine ⟨h0_82, h1_83, a80, ha81, ?_⟩
    refine ⟨_, ⟨(fun h_ => h_), (hat79 0 _ rfl)⟩, ?_⟩
    have hS53 := Chg.refl (fun _ => False) w28
    have O2 := O2.ext (Ext.drew _)
    have O3 := O3.ext (Ext.drew _)
    have hB := ethen hB (Ext.drew _)
    have hS53 := hS53.then (Ext.drew _)
    obtain ⟨r84, hr85⟩ : ∃ r_, r_ = M.spec_AddWords (rd xs2 s0.B) (rd xs2 s0.C) := ⟨_, rfl⟩
    have H := H r84 hr85
    refine (spec_AddWords.con hr85 ).mono ?_
    rintro _ w87 ⟨rfl, e88⟩
    have O2 := O2.ext e88
    have O3 := O3.ext e88
    have hB := ethen hB e88
    have hS53 := hS53.then e88
    refine ⟨r84, rfl, ?_⟩
    refine ⟨sameBut_chg hS53, ?_⟩
    obtain ⟨⟨h0_92, h1_93⟩, H⟩ := H
    obtain ⟨a90, ha91, hat89⟩ := Row.at Z3.row h0_92 h1_93
    refine ⟨h0_92, h1_93, a90, ha91, ?_⟩
    refine Own.storeAt O3 ha91 h0_92 h1_93 0 [(.int .i64 r84)] r84 rfl (Nat.le_of_ble_eq_true rfl) rfl (fun w94 P3 e95 hb96 => ?_)
    have O2_ := O2.chg e95 (fun h_ => (N3_2) _ ha91 h_.symm)
    have O2 := O2_
    have hB := echg hB e95 hb96
    have O3 := P3
    obtain rfl := hr.trans H.symm
    exact ⟨A26, c27, (by first | rfl | (simp; done) | (simp; omega) | (simp [*]; done)), (by first | exact O3 | (simp only [List.length_set]; exact O3)), hB⟩
  have H := (bcase_iff.1 H).2 hc282
  refine bcase_mk (fun hc281 => ?_) (fun hc281 => ?_)
  · have H := (bcase_iff.1 H).1 hc281
    refine ⟨(fun _ => False), ?_⟩
    have hBz := hB
    have Z2 := O2
    have Z3 := O3
    refine ⟨_, ⟨(fun h_ => h_), (O2.at 1 rfl rfl)⟩, ?_⟩
    refine ⟨_, ⟨(fun h_ => h_), (O2.at 2 rfl rfl)⟩, ?_⟩
    obtain ⟨⟨h0_121, h1_122⟩, H⟩ := H
    obtain ⟨a119, ha120, hat118⟩ := Row.at (R2.ext hB) h0_121 h1_122
    refine ⟨h0_121, h1_122, a119, ha120, ?_⟩
    refine ⟨_, ⟨(fun h_ => h_), (hat118 0 _ rfl)⟩, ?_⟩
    refine ⟨_, ⟨(fun h_ => h_), (O2.at 3 rfl rfl)⟩, ?_⟩
    obtain ⟨⟨h0_126, h1_127⟩, H⟩ := H
    obtain ⟨a124, ha125, hat123⟩ := Row.at (R2.ext hB) h0_126 h1_127
    refine ⟨h0_126, h1_127, a124, ha125, ?_⟩
    refine ⟨_, ⟨(fun h_ => h_), (hat123 0 _ rfl)⟩, ?_⟩
    have hS97 := Chg.refl (fun _ => False) w28
    have O2 := O2.ext (Ext.drew _)
    have O3 := O3.ext (Ext.drew _)
    have hB := ethen hB (Ext.drew _)
    have hS97 := hS97.then (Ext.drew _)
    obtain ⟨r128, hr129⟩ : ∃ r_, r_ = M.spec_SubWords (rd xs2 s0.B) (rd xs2 s0.C) := ⟨_, rfl⟩
    have H := H r128 hr129
    refine (spec_SubWords.con hr129 ).mono ?_
    rintro _ w131 ⟨rfl, e132⟩
    have O2 := O2.ext e132
    have O3 := O3.ext e132
    have hB := ethen hB e132
    have hS97 := hS97.then e132
    refine ⟨r128, rfl, ?_⟩
    refine ⟨sameBut_chg hS97, ?_⟩
    obtain ⟨⟨h0_136, h1_137⟩, H⟩ := H
    obtain ⟨a134, ha135, hat133⟩ := Row.at Z3.row h0_136 h1_137
    refine ⟨h0_136, h1_137, a134, ha135, ?_⟩
    refine Own.storeAt O3 ha135 h0_136 h1_137 0 [(.int .i64 r128)] r128 rfl (Nat.le_of_ble_eq_true rfl) rfl (fun w138 P3 e139 hb140 => ?_)
    have O2_ := O2.chg e139 (fun h_ => (N3_2) _ ha135 h_.symm)
    have O2 := O2_
    have hB := echg hB e139 hb140
    have O3 := P3
    obtain rfl := hr.trans H.symm
    exact ⟨A26, c27, (by first | rfl | (simp; done) | (simp; omega) | (simp [*]; done)), (by first | exact O3 | (simp only [List.length_set]; exact O3)), hB⟩
  have H := (bcase_iff.1 H).2 hc281
  refine bcase_mk (fun hc280 => ?_) (fun hc280 => ?_)
  · have H := (bcase_iff.1 H).1 hc280
    refine ⟨(fun _ => False), ?_⟩
    have hBz := hB
    have Z2 := O2
    have Z3 := O3
    refine ⟨_, ⟨(fun h_ => h_), (O2.at 1 rfl rfl)⟩, ?_⟩
    refine ⟨_, ⟨(fun h_ => h_), (O2.at 2 rfl rfl)⟩, ?_⟩
    obtain ⟨⟨h0_165, h1_166⟩, H⟩ := H
    obtain ⟨a163, ha164, hat162⟩ := Row.at (R2.ext hB) h0_165 h1_166
    refine ⟨h0_165, h1_166, a163, ha164, ?_⟩
    refine ⟨_, ⟨(fun h_ => h_), (hat162 0 _ rfl)⟩, ?_⟩
    refine ⟨_, ⟨(fun h_ => h_), (O2.at 3 rfl rfl)⟩, ?_⟩
    obtain ⟨⟨h0_170, h1_171⟩, H⟩ := H
    obtain ⟨a168, ha169, hat167⟩ := Row.at (R2.ext hB) h0_170 h1_171
    refine ⟨h0_170, h1_171, a168, ha169, ?_⟩
    refine ⟨_, ⟨(fun h_ => h_), (hat167 0 _ rfl)⟩, ?_⟩
    have hS141 := Chg.refl (fun _ => False) w28
    have O2 := O2.ext (Ext.drew _)
    have O3 := O3.ext (Ext.drew _)
    have hB := ethen hB (Ext.drew _)
    have hS141 := hS141.then (Ext.drew _)
    obtain ⟨r172, hr173⟩ : ∃ r_, r_ = M.spec_MulWords (rd xs2 s0.B) (rd xs2 s0.C) := ⟨_, rfl⟩
    have H := H r172 hr173
    refine (spec_MulWords.con hr173 ).mono ?_
    rintro _ w175 ⟨rfl, e176⟩
    have O2 := O2.ext e176
    have O3 := O3.ext e176
    have hB := ethen hB e176
    have hS141 := hS141.then e176
    refine ⟨r172, rfl, ?_⟩
    refine ⟨sameBut_chg hS141, ?_⟩
    obtain ⟨⟨h0_180, h1_181⟩, H⟩ := H
    obtain ⟨a178, ha179, hat177⟩ := Row.at Z3.row h0_180 h1_181
    refine ⟨h0_180, h1_181, a178, ha179, ?_⟩
    refine Own.storeAt O3 ha179 h0_180 h1_181 0 [(.int .i64 r172)] r172 rfl (Nat.le_of_ble_eq_true rfl) rfl (fun w182 P3 e183 hb184 => ?_)
    have O2_ := O2.chg e183 (fun h_ => (N3_2) _ ha179 h_.symm)
    have O2 := O2_
    have hB := echg hB e183 hb184
    have O3 := P3
    obtain rfl := hr.trans H.symm
    exact ⟨A26, c27, (by first | rfl | (simp; done) | (simp; omega) | (simp [*]; done)), (by first | exact O3 | (simp only [List.length_set]; exact O3)), hB⟩
  have H := (bcase_iff.1 H).2 hc280
  refine bcase_mk (fun hc279 => ?_) (fun hc279 => ?_)
  · have H := (bcase_iff.1 H).1 hc279
    refine ⟨(fun _ => False), ?_⟩
    refine ⟨_, ⟨(fun h_ => h_), (O2.at 1 rfl rfl)⟩, ?_⟩
    refine ⟨_, ⟨(fun h_ => h_), (O2.at 2 rfl rfl)⟩, ?_⟩
    obtain ⟨⟨h0_189, h1_190⟩, H⟩ := H
    obtain ⟨a187, ha188, hat186⟩ := Row.at (R2.ext hB) h0_189 h1_190
    refine ⟨h0_189, h1_190, a187, ha188, ?_⟩
    refine ⟨_, ⟨(fun h_ => h_), (hat186 0 _ rfl)⟩, ?_⟩
    refine ⟨_, ⟨(fun h_ => h_), (O2.at 3 rfl rfl)⟩, ?_⟩
    obtain ⟨⟨h0_194, h1_195⟩, H⟩ := H
    obtain ⟨a192, ha193, hat191⟩ := Row.at (R2.ext hB) h0_194 h1_195
    refine ⟨h0_194, h1_195, a192, ha193, ?_⟩
    refine ⟨_, ⟨(fun h_ => h_), (hat191 0 _ rfl)⟩, ?_⟩
    obtain ⟨⟨h0_199, h1_200⟩, H⟩ := H
    obtain ⟨a197, ha198, hat196⟩ := Row.at O3.row h0_199 h1_200
    refine ⟨h0_199, h1_200, a197, ha198, ?_⟩
    have hS185 := Chg.refl (fun _ => False) w28
    have O2 := O2.ext (Ext.drew _)
    have O3 := O3.ext (Ext.drew _)
    have hB := ethen hB (Ext.drew _)
    have hS185 := hS185.then (Ext.drew _)
    refine Own.storeAt O3 ha198 h0_199 h1_200 0 [(.int .i64 (bitXor .i64 (rd xs2 s0.B) (rd xs2 s0.C)))] (bitXor .i64 (rd xs2 s0.B) (rd xs2 s0.C)) rfl (Nat.le_of_ble_eq_true rfl) rfl (fun w201 P3 e202 hb203 => ?_)
    have O2_ := O2.chg e202 (fun h_ => (N3_2) _ ha198 h_.symm)
    have O2 := O2_
    have hB := echg hB e202 hb203
    have O3 := P3
    obtain rfl := hr.trans H.symm
    exact ⟨A26, c27, (by first | rfl | (simp; done) | (simp; omega) | (simp [*]; done)), (by first | exact O3 | (simp only [List.length_set]; exact O3)), hB⟩
  have H := (bcase_iff.1 H).2 hc279
  refine bcase_mk (fun hc278 => ?_) (fun hc278 => ?_)
  · have H := (bcase_iff.1 H).1 hc278
    refine ⟨(fun _ => False), ?_⟩
    have hBz := hB
    have Z2 := O2
    have Z3 := O3
    refine ⟨_, ⟨(fun h_ => h_), (O2.at 1 rfl rfl)⟩, ?_⟩
    refine ⟨_, ⟨(fun h_ => h_), (O2.at 2 rfl rfl)⟩, ?_⟩
    obtain ⟨⟨h0_228, h1_229⟩, H⟩ := H
    obtain ⟨a226, ha227, hat225⟩ := Row.at (R2.ext hB) h0_228 h1_229
    refine ⟨h0_228, h1_229, a226, ha227, ?_⟩
    refine ⟨_, ⟨(fun h_ => h_), (hat225 0 _ rfl)⟩, ?_⟩
    refine ⟨_, ⟨(fun h_ => h_), (O2.at 3 rfl rfl)⟩, ?_⟩
    obtain ⟨⟨h0_233, h1_234⟩, H⟩ := H
    obtain ⟨a231, ha232, hat230⟩ := Row.at (R2.ext hB) h0_233 h1_234
    refine ⟨h0_233, h1_234, a231, ha232, ?_⟩
    refine ⟨_, ⟨(fun h_ => h_), (hat230 0 _ rfl)⟩, ?_⟩
    have hS204 := Chg.refl (fun _ => False) w28
    have O2 := O2.ext (Ext.drew _)
    have O3 := O3.ext (Ext.drew _)
    have hB := ethen hB (Ext.drew _)
    have hS204 := hS204.then (Ext.drew _)
    obtain ⟨r235, hr236⟩ : ∃ r_, r_ = M.spec_LessWords (rd xs2 s0.B) (rd xs2 s0.C) := ⟨_, rfl⟩
    have H := H r235 hr236
    refine (spec_LessWords.con hr236 ).mono ?_
    rintro _ w238 ⟨rfl, e239⟩
    have O2 := O2.ext e239
    have O3 := O3.ext e239
    have hB := ethen hB e239
    have hS204 := hS204.then e239
    refine ⟨r235, rfl, ?_⟩
    refine ⟨sameBut_chg hS204, ?_⟩
    obtain ⟨⟨h0_243, h1_244⟩, H⟩ := H
    obtain ⟨a241, ha242, hat240⟩ := Row.at Z3.row h0_243 h1_244
    refine ⟨h0_243, h1_244, a241, ha242, ?_⟩
    refine Own.storeAt O3 ha242 h0_243 h1_244 0 [(.int .i64 r235)] r235 rfl (Nat.le_of_ble_eq_true rfl) rfl (fun w245 P3 e246 hb247 => ?_)
    have O2_ := O2.chg e246 (fun h_ => (N3_2) _ ha242 h_.symm)
    have O2 := O2_
    have hB := echg hB e246 hb247
    have O3 := P3
    obtain rfl := hr.trans H.symm
    exact ⟨A26, c27, (by first | rfl | (simp; done) | (simp; omega) | (simp [*]; done)), (by first | exact O3 | (simp only [List.length_set]; exact O3)), hB⟩
  have H := (bcase_iff.1 H).2 hc278
  refine bcase_mk (fun hc277 => ?_) (fun hc277 => ?_)
  · have H := (bcase_iff.1 H).1 hc277
    refine ⟨_, (O2.at 1 rfl rfl), ?_⟩
    obtain ⟨⟨h0_251, h1_252⟩, H⟩ := H
    obtain ⟨a249, ha250, hat248⟩ := Row.at O3.row h0_251 h1_252
    refine ⟨h0_251, h1_252, a249, ha250, ?_⟩
    refine Own.storeAt O3 ha250 h0_251 h1_252 0 [(.int .i64 x1)] x1 rfl (Nat.le_of_ble_eq_true rfl) rfl (fun w253 P3 e254 hb255 => ?_)
    have O2_ := O2.chg e254 (fun h_ => (N3_2) _ ha250 h_.symm)
    have O2 := O2_
    have hB := echg hB e254 hb255
    have O3 := P3
    obtain rfl := hr.trans H.symm
    exact ⟨A26, c27, (by first | rfl | (simp; done) | (simp; omega) | (simp [*]; done)), (by first | exact O3 | (simp only [List.length_set]; exact O3)), hB⟩
  have H := (bcase_iff.1 H).2 hc277
  refine bcase_mk (fun hc276 => ?_) (fun hc276 => ?_)
  · have H := (bcase_iff.1 H).1 hc276
    refine ⟨_, (O2.at 3 rfl rfl), ?_⟩
    obtain ⟨⟨h0_259, h1_260⟩, H⟩ := H
    obtain ⟨a257, ha258, hat256⟩ := Row.at (R2.ext hB) h0_259 h1_260
    refine ⟨h0_259, h1_260, a257, ha258, ?_⟩
    refine ⟨_, (hat256 0 _ rfl), ?_⟩
    refine bcase_mk (fun hc275 => ?_) (fun hc275 => ?_)
    · have H := (bcase_iff.1 H).1 hc275
      refine ⟨(fun _ => False), ?_⟩
      refine ⟨_, ⟨(fun h_ => h_), (O2.at 1 rfl rfl)⟩, ?_⟩
      refine ⟨_, ⟨(fun h_ => h_), (O2.at 2 rfl rfl)⟩, ?_⟩
      obtain ⟨⟨h0_265, h1_266⟩, H⟩ := H
      obtain ⟨a263, ha264, hat262⟩ := Row.at (R2.ext hB) h0_265 h1_266
      refine ⟨h0_265, h1_266, a263, ha264, ?_⟩
      refine ⟨_, ⟨(fun h_ => h_), (hat262 0 _ rfl)⟩, ?_⟩
      obtain ⟨⟨h0_270, h1_271⟩, H⟩ := H
      obtain ⟨a268, ha269, hat267⟩ := Row.at O3.row h0_270 h1_271
      refine ⟨h0_270, h1_271, a268, ha269, ?_⟩
      have hS261 := Chg.refl (fun _ => False) w28
      have O2 := O2.ext (Ext.drew _)
      have O3 := O3.ext (Ext.drew _)
      have hB := ethen hB (Ext.drew _)
      have hS261 := hS261.then (Ext.drew _)
      refine Own.storeAt O3 ha269 h0_270 h1_271 0 [(.int .i64 (rd xs2 s0.B))] (rd xs2 s0.B) rfl (Nat.le_of_ble_eq_true rfl) rfl (fun w272 P3 e273 hb274 => ?_)
      have O2_ := O2.chg e273 (fun h_ => (N3_2) _ ha269 h_.symm)
      have O2 := O2_
      have hB := echg hB e273 hb274
      have O3 := P3
      obtain rfl := hr.trans H.symm
      exact ⟨A26, c27, (by first | rfl | (simp; done) | (simp; omega) | (simp [*]; done)), (by first | exact O3 | (simp only [List.length_set]; exact O3)), hB⟩
    have H := (bcase_iff.1 H).2 hc275
    obtain rfl := hr.trans H.symm
    exact ⟨A26, c27, rfl, O3, hB⟩
  have H := (bcase_iff.1 H).2 hc276
  obtain rfl := hr.trans H.symm
  exact ⟨A26, c27, rfl, O3, hB⟩
def slices_Clone_int_int.vc (A0 : Option Addr) (n0 : Nat) (c0 : Nat) (w : World) (K : Value → World → Prop) : Prop :=
  bcase (Option.isNone A0) (K (.slice none 0 0) w) (Run Tryz.prog (Instr.buildSlice 24 0 #[]) w fun v21 w22 => ∃ (A23 : Option Addr) (n24 c25 : Nat), v21 = .slice A23 n24 c25 ∧ Run Tryz.prog (Builtin.append_ #[24, 24] 24 #[(.slice A23 n24 c25), (.slice A0 n0 c0)]) w22 fun v26 w27 => ∃ (A28 : Option Addr) (n29 c30 : Nat), v26 = .slice A28 n29 c30 ∧ K (.slice A28 n29 c30) w27)

def slices_Clone_int_int.ann : Ann := (.seq .l (.seq (.seq .l (.two (.seq .l .l) .l)) (.seq .l .l)))

theorem slices_Clone_int_int.start {A0 : Option Addr} {n0 : Nat} {c0 : Nat} {w : World} {K : Value → World → Prop} (h : slices_Clone_int_int.vc A0 n0 c0 w K) : Cll Tryz.prog 128 #[(.slice A0 n0 c0)] w K :=
  vcF_sound mixed (fn := Tryz.f128) (by kernel_rfl) (by kernel_rfl) (an := slices_Clone_int_int.ann) (args := [(.slice A0 n0 c0)]) (Eq.mpr (by kernel_rfl) h)

theorem slices_Clone_int_int.con {xs0 : List Int} {A0 : Option Addr} {c0 : Nat} {r : List Int} {w : World} (hp : M.slices_Clone_int_int_pre xs0) (hr : r = M.slices_Clone_int_int xs0) (R0 : Row el3 w A0 xs0) (hc0 : xs0.length ≤ c0) :
    Cll Tryz.prog 128 #[(.slice A0 xs0.length c0)] w (fun v_ w_ => ∃ (A0_ : Option Addr) (c0_ : Nat), v_ = (.slice A0_ r.length c0_) ∧ Own el3 w_ w.heap.size A0_ c0_ r ∧ Ext w w_) := by
  have H := wp.slices_Clone_int_int.math xs0 hp
  have hB := Ext.refl w
  refine slices_Clone_int_int.start ?_
  unfold slices_Clone_int_int.vc
  unfold wp.slices_Clone_int_int at H
  obtain ⟨b21, hb22⟩ : ∃ b_, b_ = Option.isNone A0 := ⟨_, rfl⟩
  have H := H b21 (fun h_ => Row.isNone (R0.ext hB) (hb22.symm.trans h_))
  rw [← hb22]
  refine bcase_mk (fun hc31 => ?_) (fun hc31 => ?_)
  · have H := (bcase_iff.1 H).1 hc31
    obtain rfl := hr.trans H.symm
    exact ⟨none, 0, rfl, Own.nil, hB⟩
  have H := (bcase_iff.1 H).2 hc31
  refine buildOwn el3 ([] : List Int) (fun _ => by kernel_rfl) rfl (fun A23 w24 P2 e25 => ?_)
  have O2 := P2.mono hB.size
  have hB := ethen hB e25
  obtain ⟨hl30, H⟩ := H
  refine appOwn slt24 slt24.under O2 (R0.ext hB) hB.size (by first | rfl | omega | (simp; done) | (simp; omega)) rfl hl30 (fun A26 c27 w28 P2 e29 => ?_)
  have hB := eapp hB e29 O2
  have O2 := P2
  obtain rfl := hr.trans H.symm
  exact ⟨A26, c27, rfl, O2, hB⟩
def impl_formOf.vc (x0 : Int) (w : World) (K : Value → World → Prop) : Prop :=
  Cll Tryz.prog 75 #[(.int .i64 x0), (.int .i64 0), (.int .i64 16)] w fun v21 w22 => (∃ (b23 : Bool), v21 = (.bool b23) ∧ bcase (!b23) (K (.string (⟨#[]⟩)) w22) (Run Tryz.prog (Instr.buildSlice 210 17 #[(0, (.string (⟨#[45, 45, 45]⟩))), (1, (.string (⟨#[82, 87, 45]⟩))), (2, (.string (⟨#[82, 82, 45]⟩))), (3, (.string (⟨#[82, 82, 82]⟩))), (4, (.string (⟨#[82, 82, 82]⟩))), (5, (.string (⟨#[82, 82, 82]⟩))), (6, (.string (⟨#[82, 82, 82]⟩))), (7, (.string (⟨#[82, 82, 82]⟩))), (8, (.string (⟨#[82, 45, 45]⟩))), (9, (.string (⟨#[82, 82, 82]⟩))), (10, (.string (⟨#[82, 84, 45]⟩))), (11, (.string (⟨#[45, 84, 45]⟩))), (12, (.string (⟨#[45, 45, 45]⟩))), (13, (.string (⟨#[82, 82, 45]⟩))), (14, (.string (⟨#[82, 82, 45]⟩))), (15, (.string (⟨#[82, 82, 45]⟩))), (16, (.string (⟨#[45, 45, 45]⟩)))]) w22 fun v24 w25 => ∃ (A26 : Option Addr) (n27 c28 : Nat), v24 = .slice A26 n27 c28 ∧ ((0 : Int) ≤ x0 ∧ x0 < ((n27 : Nat) : Int) ∧ ∃ a29 : Addr, A26 = some a29 ∧ ∃ (s30 : ByteArray), w25.cell? ((a29.add ((x0.toNat) * 1)).add 0) = some (.string s30) ∧ K (.string s30) w25)))

def impl_formOf.ann : Ann := (.seq .l (.seq (.seq .l (.two (.seq .l .l) .l)) (.seq .l .l)))

theorem impl_formOf.start {x0 : Int} {w : World} {K : Value → World → Prop} (h : impl_formOf.vc x0 w K) : Cll Tryz.prog 223 #[(.int .i64 x0)] w K :=
  vcF_sound mixed (fn := Tryz.f223) (by kernel_rfl) (by kernel_rfl) (an := impl_formOf.ann) (args := [(.int .i64 x0)]) (Eq.mpr (by kernel_rfl) h)

theorem impl_formOf.con {x0 : Int} {r : ByteArray} {w : World} (hr : r = M.impl_formOf x0)  :
    Cll Tryz.prog 223 #[(.int .i64 x0)] w (fun v_ w_ => v_ = (.string r) ∧ Ext w w_) := by
  have H := wp.impl_formOf.math x0
  have hB := Ext.refl w
  refine impl_formOf.start ?_
  unfold impl_formOf.vc
  unfold wp.impl_formOf at H
  obtain ⟨r21, hr22⟩ : ∃ r_, r_ = M.impl_within x0 0 16 := ⟨_, rfl⟩
  have H := H r21 hr22
  refine (impl_within.con hr22 ).mono ?_
  rintro _ w24 ⟨rfl, e25⟩
  have hB := ethen hB e25
  refine ⟨r21, rfl, ?_⟩
  refine bcase_mk (fun hc34 => ?_) (fun hc34 => ?_)
  · have H := (bcase_iff.1 H).1 hc34
    obtain rfl := hr.trans H.symm
    exact ⟨rfl, hB⟩
  have H := (bcase_iff.1 H).2 hc34
  refine buildOwn el9 ([⟨#[45, 45, 45]⟩, ⟨#[82, 87, 45]⟩, ⟨#[82, 82, 45]⟩, ⟨#[82, 82, 82]⟩, ⟨#[82, 82, 82]⟩, ⟨#[82, 82, 82]⟩, ⟨#[82, 82, 82]⟩, ⟨#[82, 82, 82]⟩, ⟨#[82, 45, 45]⟩, ⟨#[82, 82, 82]⟩, ⟨#[82, 84, 45]⟩, ⟨#[45, 84, 45]⟩, ⟨#[45, 45, 45]⟩, ⟨#[82, 82, 45]⟩, ⟨#[82, 82, 45]⟩, ⟨#[82, 82, 45]⟩, ⟨#[45, 45, 45]⟩] : List ByteArray) (fun _ => by kernel_rfl) rfl (fun A26 w27 P1 e28 => ?_)
  have O1 := P1.mono hB.size
  have hB := ethen hB e28
  obtain ⟨⟨h0_32, h1_33⟩, H⟩ := H
  obtain ⟨a30, ha31, hat29⟩ := Row.at O1.row h0_32 h1_33
  refine ⟨h0_32, (by first | exact h1_33 | omega | (simp at h1_33 ⊢; omega)), a30, ha31, ?_⟩
  refine ⟨_, (hat29 0 _ rfl), ?_⟩
  obtain rfl := hr.trans H.symm
  exact ⟨rfl, hB⟩
def impl_isReg.vc (x0 : Int) (w : World) (K : Value → World → Prop) : Prop :=
  Cll Tryz.prog 75 #[(.int .i64 x0), (.int .i64 0), (.int .i64 3)] w fun v21 w22 => (∃ (b23 : Bool), v21 = (.bool b23) ∧ K (.bool b23) w22)

def impl_isReg.ann : Ann := (.seq .l (.seq .l .l))

theorem impl_isReg.start {x0 : Int} {w : World} {K : Value → World → Prop} (h : impl_isReg.vc x0 w K) : Cll Tryz.prog 264 #[(.int .i64 x0)] w K :=
  vcF_sound mixed (fn := Tryz.f264) (by kernel_rfl) (by kernel_rfl) (an := impl_isReg.ann) (args := [(.int .i64 x0)]) (Eq.mpr (by kernel_rfl) h)

theorem impl_isReg.con {x0 : Int} {r : Bool} {w : World} (hr : r = M.impl_isReg x0)  :
    Cll Tryz.prog 264 #[(.int .i64 x0)] w (fun v_ w_ => v_ = (.bool r) ∧ Ext w w_) := by
  have H := wp.impl_isReg.math x0
  have hB := Ext.refl w
  refine impl_isReg.start ?_
  unfold impl_isReg.vc
  unfold wp.impl_isReg at H
  obtain ⟨r21, hr22⟩ : ∃ r_, r_ = M.impl_within x0 0 3 := ⟨_, rfl⟩
  have H := H r21 hr22
  refine (impl_within.con hr22 ).mono ?_
  rintro _ w24 ⟨rfl, e25⟩
  have hB := ethen hB e25
  refine ⟨r21, rfl, ?_⟩
  obtain rfl := hr.trans H.symm
  exact ⟨rfl, hB⟩
def impl_isField.vc (x0 : Int) (x1 : Int) (x2 : Int) (w : World) (K : Value → World → Prop) : Prop :=
  bcase (x0 == 82) (Cll Tryz.prog 264 #[(.int .i64 x1)] w fun v21 w22 => (∃ (b23 : Bool), v21 = (.bool b23) ∧ K (.bool b23) w22)) (bcase (x0 == 87) (Cll Tryz.prog 227 #[(.int .i64 x1)] w fun v24 w25 => (∃ (b26 : Bool), v24 = (.bool b26) ∧ K (.bool b26) w25)) (bcase (x0 == 84) (Cll Tryz.prog 75 #[(.int .i64 x1), (.int .i64 0), (.int .i64 x2)] w fun v27 w28 => (∃ (b29 : Bool), v27 = (.bool b29) ∧ K (.bool b29) w28)) (K (.bool (x1 == 0)) w)))

def impl_isField.ann : Ann := (.seq .l (.seq (.seq .l (.one (.seq .l (.two (.seq .l .l) (.seq .l (.two (.seq .l .l) (.seq .l (.two (.seq .l .l) .l)))))))) (.seq .l .l)))

theorem impl_isField.start {x0 : Int} {x1 : Int} {x2 : Int} {w : World} {K : Value → World → Prop} (h : impl_isField.vc x0 x1 x2 w K) : Cll Tryz.prog 224 #[(.int .u8 x0), (.int .i64 x1), (.int .i64 x2)] w K :=
  vcF_sound mixed (fn := Tryz.f224) (by kernel_rfl) (by kernel_rfl) (an := impl_isField.ann) (args := [(.int .u8 x0), (.int .i64 x1), (.int .i64 x2)]) (Eq.mpr (by kernel_rfl) h)

theorem impl_isField.con {x0 : Int} {x1 : Int} {x2 : Int} {r : Bool} {w : World} (hp : M.impl_isField_pre x0 x1 x2) (hr : r = M.impl_isField x0 x1 x2)  :
    Cll Tryz.prog 224 #[(.int .u8 x0), (.int .i64 x1), (.int .i64 x2)] w (fun v_ w_ => v_ = (.bool r) ∧ Ext w w_) := by
  have H := wp.impl_isField.math x0 x1 x2 hp
  have hB := Ext.refl w
  refine impl_isField.start ?_
  unfold impl_isField.vc
  unfold wp.impl_isField at H
  refine bcase_mk (fun hc38 => ?_) (fun hc38 => ?_)
  · have H := (bcase_iff.1 H).1 hc38
    obtain ⟨r21, hr22⟩ : ∃ r_, r_ = M.impl_isReg x1 := ⟨_, rfl⟩
    have H := H r21 hr22
    refine (impl_isReg.con hr22 ).mono ?_
    rintro _ w24 ⟨rfl, e25⟩
    have hB := ethen hB e25
    refine ⟨r21, rfl, ?_⟩
    obtain rfl := hr.trans H.symm
    exact ⟨rfl, hB⟩
  have H := (bcase_iff.1 H).2 hc38
  refine bcase_mk (fun hc37 => ?_) (fun hc37 => ?_)
  · have H := (bcase_iff.1 H).1 hc37
    obtain ⟨r26, hr27⟩ : ∃ r_, r_ = M.impl_IsWord x1 := ⟨_, rfl⟩
    have H := H r26 hr27
    refine (impl_IsWord.con hr27 ).mono ?_
    rintro _ w29 ⟨rfl, e30⟩
    have hB := ethen hB e30
    refine ⟨r26, rfl, ?_⟩
    obtain rfl := hr.trans H.symm
    exact ⟨rfl, hB⟩
  have H := (bcase_iff.1 H).2 hc37
  refine bcase_mk (fun hc36 => ?_) (fun hc36 => ?_)
  · have H := (bcase_iff.1 H).1 hc36
    obtain ⟨r31, hr32⟩ : ∃ r_, r_ = M.impl_within x1 0 x2 := ⟨_, rfl⟩
    have H := H r31 hr32
    refine (impl_within.con hr32 ).mono ?_
    rintro _ w34 ⟨rfl, e35⟩
    have hB := ethen hB e35
    refine ⟨r31, rfl, ?_⟩
    obtain rfl := hr.trans H.symm
    exact ⟨rfl, hB⟩
  have H := (bcase_iff.1 H).2 hc36
  obtain rfl := hr.trans H.symm
  exact ⟨rfl, hB⟩
def impl_InsOk.vc (x0_0 : Int) (x0_1 : Int) (x0_2 : Int) (x0_3 : Int) (x1 : Int) (w : World) (K : Value → World → Prop) : Prop :=
  newK w (.cells #[(.int .i64 x0_0), (.int .i64 x0_1), (.int .i64 x0_2), (.int .i64 x0_3)] 89) fun g21 w22 => ∃ (n23 : Int), w22.cell? (((⟨g21, 0, none⟩ : Addr).add 0).add 0) = some (.int .i64 n23) ∧ Cll Tryz.prog 223 #[(.int .i64 n23)] w22 fun v24 w25 => (∃ (s26 : ByteArray), v24 = (.string s26) ∧ bcase (!(ByteArray.toList s26 == ByteArray.toList (⟨#[]⟩))) (((Cll Tryz.prog 75 #[(.int .i64 x1), (.int .i64 0), (.int .i64 32)] w25.drew fun v27 w28 => (∃ (b29 : Bool), v27 = (.bool b29) ∧ bcase b29 (((0 : Int) ≤ 0 ∧ ∃ y30 : UInt8, (s26 : ByteArray)[((0 : Int).toNat)]? = some y30 ∧ ((∃ (n31 : Int), w28.cell? (((⟨g21, 0, none⟩ : Addr).add 1).add 0) = some (.int .i64 n31) ∧ ((Cll Tryz.prog 224 #[(.int .u8 ((y30.toNat : Nat) : Int)), (.int .i64 n31), (.int .i64 x1)] w28 fun v32 w33 => (∃ (b34 : Bool), v32 = (.bool b34) ∧ bcase b34 (((0 : Int) ≤ 1 ∧ ∃ y35 : UInt8, (s26 : ByteArray)[((1 : Int).toNat)]? = some y35 ∧ ((∃ (n36 : Int), w33.cell? (((⟨g21, 0, none⟩ : Addr).add 2).add 0) = some (.int .i64 n36) ∧ ((Cll Tryz.prog 224 #[(.int .u8 ((y35.toNat : Nat) : Int)), (.int .i64 n36), (.int .i64 x1)] w33 fun v37 w38 => (∃ (b39 : Bool), v37 = (.bool b39) ∧ bcase b39 (((0 : Int) ≤ 2 ∧ ∃ y40 : UInt8, (s26 : ByteArray)[((2 : Int).toNat)]? = some y40 ∧ ((∃ (n41 : Int), w38.cell? (((⟨g21, 0, none⟩ : Addr).add 3).add 0) = some (.int .i64 n41) ∧ ((Cll Tryz.prog 224 #[(.int .u8 ((y40.toNat : Nat) : Int)), (.int .i64 n41), (.int .i64 x1)] w38 fun v42 w43 => (∃ (b44 : Bool), v42 = (.bool b44) ∧ K (.bool b44) w43)) ∧ True)) ∧ True))) (((((K (.bool false) w38) ∧ True)) ∧ True)))) ∧ True)) ∧ True))) (((((((((K (.bool false) w33) ∧ True)) ∧ True)) ∧ True)) ∧ True)))) ∧ True)) ∧ True))) (((((((((((((K (.bool false) w28) ∧ True)) ∧ True)) ∧ True)) ∧ True)) ∧ True)) ∧ True)))) ∧ True)) (((((((((((((((K (.bool false) w25.drew) ∧ True)) ∧ True)) ∧ True)) ∧ True)) ∧ True)) ∧ True)) ∧ True)))

def impl_InsOk.ann : Ann := (.seq .l (.seq .l (.seq .each .l)))

theorem impl_InsOk.start {x0_0 : Int} {x0_1 : Int} {x0_2 : Int} {x0_3 : Int} {x1 : Int} {w : World} {K : Value → World → Prop} (h : impl_InsOk.vc x0_0 x0_1 x0_2 x0_3 x1 w K) : Cll Tryz.prog 195 #[(.agg #[(.int .i64 x0_0), (.int .i64 x0_1), (.int .i64 x0_2), (.int .i64 x0_3)]), (.int .i64 x1)] w K :=
  vcF_sound mixed (fn := Tryz.f195) (by kernel_rfl) (by kernel_rfl) (an := impl_InsOk.ann) (args := [(.agg #[(.int .i64 x0_0), (.int .i64 x0_1), (.int .i64 x0_2), (.int .i64 x0_3)]), (.int .i64 x1)]) (Eq.mpr (by kernel_rfl) h)

theorem impl_InsOk.con {s0 : D.Ins} {x1 : Int} {r : Bool} {w : World} (hr : r = M.impl_InsOk s0 x1)  :
    Cll Tryz.prog 195 #[(.agg #[(.int .i64 s0.Op), (.int .i64 s0.A), (.int .i64 s0.B), (.int .i64 s0.C)]), (.int .i64 x1)] w (fun v_ w_ => v_ = (.bool r) ∧ Ext w w_) := by
  have H := wp.impl_InsOk.math s0 x1
  have hB := Ext.refl w
  refine impl_InsOk.start ?_
  unfold impl_InsOk.vc
  unfold wp.impl_InsOk at H
  refine newBlk (fun g1_ w21 L1 P1 e22 => ?_)
  have O1 := P1
  have L1 := Nat.le_trans hB.size L1
  have hB := ethen hB e22
  refine ⟨_, (O1.at 0 rfl rfl), ?_⟩
  obtain ⟨r23, hr24⟩ : ∃ r_, r_ = M.impl_formOf s0.Op := ⟨_, rfl⟩
  have H := H r23 hr24
  refine (impl_formOf.con hr24 ).mono ?_
  rintro _ w26 ⟨rfl, e27⟩
  have O1 := O1.ext e27
  have hB := ethen hB e27
  refine ⟨r23, rfl, ?_⟩
  have O1 := O1.ext (Ext.drew _)
  have hB := ethen hB (Ext.drew _)
  refine bcase_mk (fun hc66 => ?_) (fun hc66 => ?_)
  · have H := (bcase_iff.1 H).1 hc66
    refine and_t ?_
    obtain ⟨r28, hr29⟩ : ∃ r_, r_ = M.impl_within x1 0 32 := ⟨_, rfl⟩
    have H := H r28 hr29
    refine (impl_within.con hr29 ).mono ?_
    rintro _ w31 ⟨rfl, e32⟩
    have O1 := O1.ext e32
    have hB := ethen hB e32
    refine ⟨r28, rfl, ?_⟩
    refine bcase_mk (fun hc65 => ?_) (fun hc65 => ?_)
    · have H := (bcase_iff.1 H).1 hc65
      obtain ⟨⟨h0_36, h1_37⟩, H⟩ := H
      obtain ⟨y33, hy34, hyb35⟩ := strAt h0_36 h1_37
      refine ⟨h0_36, y33, hy34, ?_⟩
      rw [hyb35]
      refine and_t ?_
      refine ⟨_, (O1.at 1 rfl rfl), ?_⟩
      refine and_t ?_
      obtain ⟨hp40, H⟩ := H
      obtain ⟨r38, hr39⟩ : ∃ r_, r_ = M.impl_isField (bt r23 0) s0.A x1 := ⟨_, rfl⟩
      have H := H r38 hr39
      refine (impl_isField.con hp40 hr39 ).mono ?_
      rintro _ w41 ⟨rfl, e42⟩
      have O1 := O1.ext e42
      have hB := ethen hB e42
      refine ⟨r38, rfl, ?_⟩
      refine bcase_mk (fun hc64 => ?_) (fun hc64 => ?_)
      · have H := (bcase_iff.1 H).1 hc64
        obtain ⟨⟨h0_46, h1_47⟩, H⟩ := H
        obtain ⟨y43, hy44, hyb45⟩ := strAt h0_46 h1_47
        refine ⟨h0_46, y43, hy44, ?_⟩
        rw [hyb45]
        refine and_t ?_
        refine ⟨_, (O1.at 2 rfl rfl), ?_⟩
        refine and_t ?_
        obtain ⟨hp50, H⟩ := H
        obtain ⟨r48, hr49⟩ : ∃ r_, r_ = M.impl_isField (bt r23 1) s0.B x1 := ⟨_, rfl⟩
        have H := H r48 hr49
        refine (impl_isField.con hp50 hr49 ).mono ?_
        rintro _ w51 ⟨rfl, e52⟩
        have O1 := O1.ext e52
        have hB := ethen hB e52
        refine ⟨r48, rfl, ?_⟩
        refine bcase_mk (fun hc63 => ?_) (fun hc63 => ?_)
        · have H := (bcase_iff.1 H).1 hc63
          obtain ⟨⟨h0_56, h1_57⟩, H⟩ := H
          obtain ⟨y53, hy54, hyb55⟩ := strAt h0_56 h1_57
          refine ⟨h0_56, y53, hy54, ?_⟩
          rw [hyb55]
          refine and_t ?_
          refine ⟨_, (O1.at 3 rfl rfl), ?_⟩
          refine and_t ?_
          obtain ⟨hp60, H⟩ := H
          obtain ⟨r58, hr59⟩ : ∃ r_, r_ = M.impl_isField (bt r23 2) s0.C x1 := ⟨_, rfl⟩
          have H := H r58 hr59
          refine (impl_isField.con hp60 hr59 ).mono ?_
          rintro _ w61 ⟨rfl, e62⟩
          have O1 := O1.ext e62
          have hB := ethen hB e62
          refine ⟨r58, rfl, ?_⟩
          obtain rfl := hr.trans H.symm
          exact ⟨rfl, hB⟩
        have H := (bcase_iff.1 H).2 hc63
        refine and_t ?_
        refine and_t ?_
        obtain rfl := hr.trans H.symm
        exact ⟨rfl, hB⟩
      have H := (bcase_iff.1 H).2 hc64
      refine and_t ?_
      refine and_t ?_
      refine and_t ?_
      refine and_t ?_
      obtain rfl := hr.trans H.symm
      exact ⟨rfl, hB⟩
    have H := (bcase_iff.1 H).2 hc65
    refine and_t ?_
    refine and_t ?_
    refine and_t ?_
    refine and_t ?_
    refine and_t ?_
    refine and_t ?_
    obtain rfl := hr.trans H.symm
    exact ⟨rfl, hB⟩
  have H := (bcase_iff.1 H).2 hc66
  refine and_t ?_
  refine and_t ?_
  refine and_t ?_
  refine and_t ?_
  refine and_t ?_
  refine and_t ?_
  refine and_t ?_
  obtain rfl := hr.trans H.symm
  exact ⟨rfl, hB⟩
def impl_ProgramOk_1.vc (x0_0 : Int) (x0_1 : Int) (x0_2 : Int) (x0_3 : Int) (p1 : Addr) (w : World) (K : Value → World → Prop) : Prop :=
  newK w (.cells #[(.int .i64 x0_0), (.int .i64 x0_1), (.int .i64 x0_2), (.int .i64 x0_3)] 89) fun g21 w22 => ∃ (n23 : Int), w22.cell? ((⟨g21, 0, none⟩ : Addr).add 0) = some (.int .i64 n23) ∧ ∃ (n24 : Int), w22.cell? ((⟨g21, 0, none⟩ : Addr).add 1) = some (.int .i64 n24) ∧ ∃ (n25 : Int), w22.cell? ((⟨g21, 0, none⟩ : Addr).add 2) = some (.int .i64 n25) ∧ ∃ (n26 : Int), w22.cell? ((⟨g21, 0, none⟩ : Addr).add 3) = some (.int .i64 n26) ∧ ∃ (A27 : Option Addr) (n28 : Nat) (c29 : Nat), w22.cell? (p1.add 0) = some (.slice A27 n28 c29) ∧ Cll Tryz.prog 195 #[(.agg #[(.int .i64 n23), (.int .i64 n24), (.int .i64 n25), (.int .i64 n26)]), (.int .i64 ((n28 : Nat) : Int))] w22 fun v30 w31 => (∃ (b32 : Bool), v30 = (.bool b32) ∧ K (.bool (!b32)) w31)

def impl_ProgramOk_1.ann : Ann := (.seq .l (.seq .l .l))

theorem impl_ProgramOk_1.start {x0_0 : Int} {x0_1 : Int} {x0_2 : Int} {x0_3 : Int} {p1 : Addr} {w : World} {K : Value → World → Prop} (h : impl_ProgramOk_1.vc x0_0 x0_1 x0_2 x0_3 p1 w K) : Cll Tryz.prog 194 #[(.agg #[(.int .i64 x0_0), (.int .i64 x0_1), (.int .i64 x0_2), (.int .i64 x0_3)]), (.pointer (some p1))] w K :=
  vcF_sound mixed (fn := Tryz.f194) (by kernel_rfl) (by kernel_rfl) (an := impl_ProgramOk_1.ann) (args := [(.agg #[(.int .i64 x0_0), (.int .i64 x0_1), (.int .i64 x0_2), (.int .i64 x0_3)]), (.pointer (some p1))]) (Eq.mpr (by kernel_rfl) h)

theorem impl_ProgramOk_1.con {s0 : D.Ins} {xs1 : List D.Ins} {g1_ : Nat} {A1_0 : Option Addr} {c1_0 : Nat} {r : Bool} {w : World} (hr : r = M.impl_ProgramOk_1 s0 xs1) (O1 : Blk w g1_ 34 #[(.slice A1_0 xs1.length c1_0)]) (R1_0 : Row el89 w A1_0 xs1) (hc1_0 : xs1.length ≤ c1_0) :
    Cll Tryz.prog 194 #[(.agg #[(.int .i64 s0.Op), (.int .i64 s0.A), (.int .i64 s0.B), (.int .i64 s0.C)]), (.pointer (some (⟨g1_, 0, none⟩ : Addr)))] w (fun v_ w_ => v_ = (.bool r) ∧ Ext w w_) := by
  have H := wp.impl_ProgramOk_1.math s0 xs1
  have hB := Ext.refl w
  refine impl_ProgramOk_1.start ?_
  unfold impl_ProgramOk_1.vc
  unfold wp.impl_ProgramOk_1 at H
  refine newBlk (fun g3_ w21 L3 P3 e22 => ?_)
  have N1_3 := O1.ne L3
  have O1 := O1.ext e22
  have O3 := P3
  have L3 := Nat.le_trans hB.size L3
  have hB := ethen hB e22
  refine ⟨_, (O3.at 0 rfl rfl), ?_⟩
  refine ⟨_, (O3.at 1 rfl rfl), ?_⟩
  refine ⟨_, (O3.at 2 rfl rfl), ?_⟩
  refine ⟨_, (O3.at 3 rfl rfl), ?_⟩
  refine ⟨_, _, _, (O1.at 0 rfl rfl), ?_⟩
  obtain ⟨r23, hr24⟩ : ∃ r_, r_ = M.impl_InsOk s0 ((xs1.length : Nat) : Int) := ⟨_, rfl⟩
  have H := H r23 hr24
  refine (impl_InsOk.con hr24 ).mono ?_
  rintro _ w26 ⟨rfl, e27⟩
  have O1 := O1.ext e27
  have O3 := O3.ext e27
  have hB := ethen hB e27
  refine ⟨r23, rfl, ?_⟩
  obtain rfl := hr.trans H.symm
  exact ⟨rfl, hB⟩
def slices_IndexFunc_impl_Ins_impl_Ins.vc (A0 : Option Addr) (n0 : Nat) (c0 : Nat) (f1 : Nat) (cap1 : Array Value) (w : World) (K : Value → World → Prop) : Prop :=
  LoopT (σ := Int × Unit) (fun z21 w22 next23 => bcase (decide (z21.1 < ((n0 : Nat) : Int))) (((0 : Int) ≤ z21.1 ∧ z21.1 < ((n0 : Nat) : Int) ∧ ∃ a24 : Addr, A0 = some a24 ∧ ∃ (n25 : Int), w22.cell? ((a24.add ((z21.1.toNat) * 4)).add 0) = some (.int .i64 n25) ∧ ∃ (n26 : Int), w22.cell? ((a24.add ((z21.1.toNat) * 4)).add 1) = some (.int .i64 n26) ∧ ∃ (n27 : Int), w22.cell? ((a24.add ((z21.1.toNat) * 4)).add 2) = some (.int .i64 n27) ∧ ∃ (n28 : Int), w22.cell? ((a24.add ((z21.1.toNat) * 4)).add 3) = some (.int .i64 n28) ∧ Cll Tryz.prog f1 (#[(.agg #[(.int .i64 n25), (.int .i64 n26), (.int .i64 n27), (.int .i64 n28)])] ++ cap1) w22 fun v29 w30 => (∃ (b31 : Bool), v29 = (.bool b31) ∧ bcase b31 (K (.int .i64 z21.1) w30) (next23 ((IntKind.wrap .i64 (z21.1 + 1)), ()) w30)))) (K (.int .i64 (-1)) w22)) (0, ()) w

def slices_IndexFunc_impl_Ins_impl_Ins.ann : Ann := (.seq .l (.seq (.seq .l (.one (.loop [(8, .int .i64)] (.seq .l (.seq (.two .l .l) (.seq (.one (.seq .l (.seq .l (.two (.seq .l .l) .l)))) .l)))))) (.seq .l .l)))

theorem slices_IndexFunc_impl_Ins_impl_Ins.start {A0 : Option Addr} {n0 : Nat} {c0 : Nat} {f1 : Nat} {cap1 : Array Value} {w : World} {K : Value → World → Prop} (h : slices_IndexFunc_impl_Ins_impl_Ins.vc A0 n0 c0 f1 cap1 w K) : Cll Tryz.prog 196 #[(.slice A0 n0 c0), (.func (.func f1) #[] cap1)] w K :=
  vcF_sound mixed (fn := Tryz.f196) (by kernel_rfl) (by kernel_rfl) (an := slices_IndexFunc_impl_Ins_impl_Ins.ann) (args := [(.slice A0 n0 c0), (.func (.func f1) #[] cap1)]) (Eq.mpr (by kernel_rfl) h)

theorem slices_IndexFunc_impl_Ins_impl_Ins.con {xs0 : List D.Ins} {A0 : Option Addr} {c0 : Nat} {f1 : Nat} {cap1 : Array Value} {g1 : D.Ins → Bool} {D1 : D.Ins → Prop} {r : Int} {w : World} (hp : M.slices_IndexFunc_impl_Ins_impl_Ins_pre xs0 g1 D1) (hr : r = M.slices_IndexFunc_impl_Ins_impl_Ins xs0 g1) (R0 : Row el89 w A0 xs0) (hc0 : xs0.length ≤ c0) (F1 : ∀ (z0_ : D.Ins), D1 z0_ → ∀ w_ : World, Ext w w_ → Cll Tryz.prog f1 (#[(.agg #[(.int .i64 z0_.Op), (.int .i64 z0_.A), (.int .i64 z0_.B), (.int .i64 z0_.C)])] ++ cap1) w_ (fun v_ w1_ => v_ = (.bool (g1 z0_)) ∧ Ext w_ w1_)) :
    Cll Tryz.prog 196 #[(.slice A0 xs0.length c0), (.func (.func f1) #[] cap1)] w (fun v_ w_ => v_ = (.int .i64 r) ∧ Ext w w_) := by
  have H := wp.slices_IndexFunc_impl_Ins_impl_Ins.math xs0 g1 D1 hp
  have hB := Ext.refl w
  refine slices_IndexFunc_impl_Ins_impl_Ins.start ?_
  unfold slices_IndexFunc_impl_Ins_impl_Ins.vc
  unfold wp.slices_IndexFunc_impl_Ins_impl_Ins at H
  obtain ⟨J23, ⟨m44, hJ43⟩, hS24⟩ := H
  refine ⟨fun m_ z_ w_ => ∃ (i21 : Int), z_ = (i21, ()) ∧ J23 m_ (i21, ()) ∧ Ext w w_, ⟨m44, 0, rfl, hJ43, hB⟩, ?_⟩
  rintro m22 _ w26 ⟨i21, rfl, hJ45, hB⟩
  have H := hS24 m22 _ hJ45
  clear hS24 hJ45
  try dsimp only at H ⊢
  refine bcase_mk (fun hc41 => ?_) (fun hc41 => ?_)
  · have H := (bcase_iff.1 H).1 hc41
    obtain ⟨⟨h0_30, h1_31⟩, H⟩ := H
    obtain ⟨a28, ha29, hat27⟩ := Row.at (R0.ext hB) h0_30 h1_31
    refine ⟨h0_30, h1_31, a28, ha29, ?_⟩
    refine ⟨_, (hat27 0 _ rfl), ?_⟩
    refine ⟨_, (hat27 1 _ rfl), ?_⟩
    refine ⟨_, (hat27 2 _ rfl), ?_⟩
    refine ⟨_, (hat27 3 _ rfl), ?_⟩
    obtain ⟨hd34, H⟩ := H
    obtain ⟨r32, hr33⟩ : ∃ r_, r_ = g1 (rd xs0 i21) := ⟨_, rfl⟩
    have H := H r32 hr33
    refine (F1 (rd xs0 i21) hd34 _ hB).mono ?_
    rintro _ w35 ⟨rfl, e36⟩
    rw [← hr33]
    have hB := ethen hB e36
    refine ⟨r32, rfl, ?_⟩
    refine bcase_mk (fun hc40 => ?_) (fun hc40 => ?_)
    · have H := (bcase_iff.1 H).1 hc40
      obtain rfl := hr.trans H.symm
      exact ⟨rfl, hB⟩
    have H := (bcase_iff.1 H).2 hc40
    obtain ⟨m37, hm38, hJ39⟩ := H
    exact ⟨m37, hm38, (IntKind.wrap .i64 (i21 + 1)), rfl, hJ39, hB⟩
  have H := (bcase_iff.1 H).2 hc41
  obtain rfl := hr.trans H.symm
  exact ⟨rfl, hB⟩
def slices_ContainsFunc_impl_Ins_impl_Ins.vc (A0 : Option Addr) (n0 : Nat) (c0 : Nat) (f1 : Nat) (cap1 : Array Value) (w : World) (K : Value → World → Prop) : Prop :=
  Cll Tryz.prog 196 #[(.slice A0 n0 c0), (.func (.func f1) #[] cap1)] w fun v21 w22 => (∃ (n23 : Int), v21 = (.int .i64 n23) ∧ K (.bool (decide (n23 ≥ 0))) w22)

def slices_ContainsFunc_impl_Ins_impl_Ins.ann : Ann := (.seq .l (.seq .l .l))

theorem slices_ContainsFunc_impl_Ins_impl_Ins.start {A0 : Option Addr} {n0 : Nat} {c0 : Nat} {f1 : Nat} {cap1 : Array Value} {w : World} {K : Value → World → Prop} (h : slices_ContainsFunc_impl_Ins_impl_Ins.vc A0 n0 c0 f1 cap1 w K) : Cll Tryz.prog 141 #[(.slice A0 n0 c0), (.func (.func f1) #[] cap1)] w K :=
  vcF_sound mixed (fn := Tryz.f141) (by kernel_rfl) (by kernel_rfl) (an := slices_ContainsFunc_impl_Ins_impl_Ins.ann) (args := [(.slice A0 n0 c0), (.func (.func f1) #[] cap1)]) (Eq.mpr (by kernel_rfl) h)

theorem slices_ContainsFunc_impl_Ins_impl_Ins.con {xs0 : List D.Ins} {A0 : Option Addr} {c0 : Nat} {f1 : Nat} {cap1 : Array Value} {g1 : D.Ins → Bool} {D1 : D.Ins → Prop} {r : Bool} {w : World} (hp : M.slices_ContainsFunc_impl_Ins_impl_Ins_pre xs0 g1 D1) (hr : r = M.slices_ContainsFunc_impl_Ins_impl_Ins xs0 g1) (R0 : Row el89 w A0 xs0) (hc0 : xs0.length ≤ c0) (F1 : ∀ (z0_ : D.Ins), D1 z0_ → ∀ w_ : World, Ext w w_ → Cll Tryz.prog f1 (#[(.agg #[(.int .i64 z0_.Op), (.int .i64 z0_.A), (.int .i64 z0_.B), (.int .i64 z0_.C)])] ++ cap1) w_ (fun v_ w1_ => v_ = (.bool (g1 z0_)) ∧ Ext w_ w1_)) :
    Cll Tryz.prog 141 #[(.slice A0 xs0.length c0), (.func (.func f1) #[] cap1)] w (fun v_ w_ => v_ = (.bool r) ∧ Ext w w_) := by
  have H := wp.slices_ContainsFunc_impl_Ins_impl_Ins.math xs0 g1 D1 hp
  have hB := Ext.refl w
  refine slices_ContainsFunc_impl_Ins_impl_Ins.start ?_
  unfold slices_ContainsFunc_impl_Ins_impl_Ins.vc
  unfold wp.slices_ContainsFunc_impl_Ins_impl_Ins at H
  obtain ⟨hp23, H⟩ := H
  obtain ⟨r21, hr22⟩ : ∃ r_, r_ = M.slices_IndexFunc_impl_Ins_impl_Ins xs0 g1 := ⟨_, rfl⟩
  have H := H r21 hr22
  refine (slices_IndexFunc_impl_Ins_impl_Ins.con hp23 hr22 (R0.ext hB) hc0 (fun z0_  h_ w_ e_ => F1 z0_  h_ w_ (ethen hB e_))).mono ?_
  rintro _ w24 ⟨rfl, e25⟩
  have hB := ethen hB e25
  refine ⟨r21, rfl, ?_⟩
  obtain rfl := hr.trans H.symm
  exact ⟨rfl, hB⟩
def impl_ProgramOk.vc (A0 : Option Addr) (n0 : Nat) (c0 : Nat) (w : World) (K : Value → World → Prop) : Prop :=
  newK w (.cells #[(.slice A0 n0 c0)] 34) fun g21 w22 => ∃ (A23 : Option Addr) (n24 : Nat) (c25 : Nat), w22.cell? ((⟨g21, 0, none⟩ : Addr).add 0) = some (.slice A23 n24 c25) ∧ bcase (decide (((n24 : Nat) : Int) ≤ 32)) (∃ (A26 : Option Addr) (n27 : Nat) (c28 : Nat), w22.cell? ((⟨g21, 0, none⟩ : Addr).add 0) = some (.slice A26 n27 c28) ∧ Cll Tryz.prog 141 #[(.slice A26 n27 c28), (.func (.func 194) #[] #[(.pointer (some (⟨g21, 0, none⟩ : Addr)))])] w22 fun v29 w30 => (∃ (b31 : Bool), v29 = (.bool b31) ∧ K (.bool (!b31)) w30)) (K (.bool false) w22)

def impl_ProgramOk.ann : Ann := (.seq .l (.seq .l .l))

theorem impl_ProgramOk.start {A0 : Option Addr} {n0 : Nat} {c0 : Nat} {w : World} {K : Value → World → Prop} (h : impl_ProgramOk.vc A0 n0 c0 w K) : Cll Tryz.prog 140 #[(.slice A0 n0 c0)] w K :=
  vcF_sound mixed (fn := Tryz.f140) (by kernel_rfl) (by kernel_rfl) (an := impl_ProgramOk.ann) (args := [(.slice A0 n0 c0)]) (Eq.mpr (by kernel_rfl) h)

theorem impl_ProgramOk.con {xs0 : List D.Ins} {A0 : Option Addr} {c0 : Nat} {r : Bool} {w : World} (hp : M.impl_ProgramOk_pre xs0) (hr : r = M.impl_ProgramOk xs0) (R0 : Row el89 w A0 xs0) (hc0 : xs0.length ≤ c0) :
    Cll Tryz.prog 140 #[(.slice A0 xs0.length c0)] w (fun v_ w_ => v_ = (.bool r) ∧ Ext w w_) := by
  have H := wp.impl_ProgramOk.math xs0 hp
  have hB := Ext.refl w
  refine impl_ProgramOk.start ?_
  unfold impl_ProgramOk.vc
  unfold wp.impl_ProgramOk at H
  refine newBlk (fun g2_ w21 L2 P2 e22 => ?_)
  have O2 := P2
  have L2 := Nat.le_trans hB.size L2
  have hB := ethen hB e22
  refine ⟨_, _, _, (O2.at 0 rfl rfl), ?_⟩
  refine bcase_mk (fun hc28 => ?_) (fun hc28 => ?_)
  · have H := (bcase_iff.1 H).1 hc28
    refine ⟨_, _, _, (O2.at 0 rfl rfl), ?_⟩
    obtain ⟨hp25, H⟩ := H
    obtain ⟨r23, hr24⟩ : ∃ r_, r_ = M.slices_ContainsFunc_impl_Ins_impl_Ins xs0 (fun z0_ => M.impl_ProgramOk_1 z0_ xs0) := ⟨_, rfl⟩
    have H := H r23 hr24
    refine (slices_ContainsFunc_impl_Ins_impl_Ins.con hp25 hr24 (R0.ext hB) hc0 (fun z0_ h_ w_ e_ => cllApp (l1 := [_]) (l2 := [_]) (impl_ProgramOk_1.con rfl (O2.ext e_) (R0.ext (ethen hB e_)) hc0))).mono ?_
    rintro _ w26 ⟨rfl, e27⟩
    have O2 := O2.ext e27
    have hB := ethen hB e27
    refine ⟨r23, rfl, ?_⟩
    obtain rfl := hr.trans H.symm
    exact ⟨rfl, hB⟩
  have H := (bcase_iff.1 H).2 hc28
  obtain rfl := hr.trans H.symm
  exact ⟨rfl, hB⟩
def impl_IsLocal.vc (x0_0 : Int) (x0_1 : Int) (x0_2 : Int) (x0_3 : Int) (w : World) (K : Value → World → Prop) : Prop :=
  newK w (.cells #[(.int .i64 x0_0), (.int .i64 x0_1), (.int .i64 x0_2), (.int .i64 x0_3)] 89) fun g21 w22 => ∃ (n23 : Int), w22.cell? (((⟨g21, 0, none⟩ : Addr).add 0).add 0) = some (.int .i64 n23) ∧ Cll Tryz.prog 75 #[(.int .i64 n23), (.int .i64 0), (.int .i64 12)] w22 fun v24 w25 => (∃ (b26 : Bool), v24 = (.bool b26) ∧ K (.bool b26) w25)

def impl_IsLocal.ann : Ann := (.seq .l (.seq .l .l))

theorem impl_IsLocal.start {x0_0 : Int} {x0_1 : Int} {x0_2 : Int} {x0_3 : Int} {w : World} {K : Value → World → Prop} (h : impl_IsLocal.vc x0_0 x0_1 x0_2 x0_3 w K) : Cll Tryz.prog 143 #[(.agg #[(.int .i64 x0_0), (.int .i64 x0_1), (.int .i64 x0_2), (.int .i64 x0_3)])] w K :=
  vcF_sound mixed (fn := Tryz.f143) (by kernel_rfl) (by kernel_rfl) (an := impl_IsLocal.ann) (args := [(.agg #[(.int .i64 x0_0), (.int .i64 x0_1), (.int .i64 x0_2), (.int .i64 x0_3)])]) (Eq.mpr (by kernel_rfl) h)

theorem impl_IsLocal.con {s0 : D.Ins} {r : Bool} {w : World} (hr : r = M.impl_IsLocal s0)  :
    Cll Tryz.prog 143 #[(.agg #[(.int .i64 s0.Op), (.int .i64 s0.A), (.int .i64 s0.B), (.int .i64 s0.C)])] w (fun v_ w_ => v_ = (.bool r) ∧ Ext w w_) := by
  have H := wp.impl_IsLocal.math s0
  have hB := Ext.refl w
  refine impl_IsLocal.start ?_
  unfold impl_IsLocal.vc
  unfold wp.impl_IsLocal at H
  refine newBlk (fun g1_ w21 L1 P1 e22 => ?_)
  have O1 := P1
  have L1 := Nat.le_trans hB.size L1
  have hB := ethen hB e22
  refine ⟨_, (O1.at 0 rfl rfl), ?_⟩
  obtain ⟨r23, hr24⟩ : ∃ r_, r_ = M.impl_within s0.Op 0 12 := ⟨_, rfl⟩
  have H := H r23 hr24
  refine (impl_within.con hr24 ).mono ?_
  rintro _ w26 ⟨rfl, e27⟩
  have O1 := O1.ext e27
  have hB := ethen hB e27
  refine ⟨r23, rfl, ?_⟩
  obtain rfl := hr.trans H.symm
  exact ⟨rfl, hB⟩
def impl_IsQuiet_1.vc (x0_0 : Int) (x0_1 : Int) (x0_2 : Int) (x0_3 : Int) (w : World) (K : Value → World → Prop) : Prop :=
  newK w (.cells #[(.int .i64 x0_0), (.int .i64 x0_1), (.int .i64 x0_2), (.int .i64 x0_3)] 89) fun g21 w22 => ∃ (n23 : Int), w22.cell? ((⟨g21, 0, none⟩ : Addr).add 0) = some (.int .i64 n23) ∧ ∃ (n24 : Int), w22.cell? ((⟨g21, 0, none⟩ : Addr).add 1) = some (.int .i64 n24) ∧ ∃ (n25 : Int), w22.cell? ((⟨g21, 0, none⟩ : Addr).add 2) = some (.int .i64 n25) ∧ ∃ (n26 : Int), w22.cell? ((⟨g21, 0, none⟩ : Addr).add 3) = some (.int .i64 n26) ∧ Cll Tryz.prog 143 #[(.agg #[(.int .i64 n23), (.int .i64 n24), (.int .i64 n25), (.int .i64 n26)])] w22 fun v27 w28 => (∃ (b29 : Bool), v27 = (.bool b29) ∧ K (.bool (!b29)) w28)

def impl_IsQuiet_1.ann : Ann := (.seq .l (.seq .l .l))

theorem impl_IsQuiet_1.start {x0_0 : Int} {x0_1 : Int} {x0_2 : Int} {x0_3 : Int} {w : World} {K : Value → World → Prop} (h : impl_IsQuiet_1.vc x0_0 x0_1 x0_2 x0_3 w K) : Cll Tryz.prog 142 #[(.agg #[(.int .i64 x0_0), (.int .i64 x0_1), (.int .i64 x0_2), (.int .i64 x0_3)])] w K :=
  vcF_sound mixed (fn := Tryz.f142) (by kernel_rfl) (by kernel_rfl) (an := impl_IsQuiet_1.ann) (args := [(.agg #[(.int .i64 x0_0), (.int .i64 x0_1), (.int .i64 x0_2), (.int .i64 x0_3)])]) (Eq.mpr (by kernel_rfl) h)

theorem impl_IsQuiet_1.con {s0 : D.Ins} {r : Bool} {w : World} (hr : r = M.impl_IsQuiet_1 s0)  :
    Cll Tryz.prog 142 #[(.agg #[(.int .i64 s0.Op), (.int .i64 s0.A), (.int .i64 s0.B), (.int .i64 s0.C)])] w (fun v_ w_ => v_ = (.bool r) ∧ Ext w w_) := by
  have H := wp.impl_IsQuiet_1.math s0
  have hB := Ext.refl w
  refine impl_IsQuiet_1.start ?_
  unfold impl_IsQuiet_1.vc
  unfold wp.impl_IsQuiet_1 at H
  refine newBlk (fun g1_ w21 L1 P1 e22 => ?_)
  have O1 := P1
  have L1 := Nat.le_trans hB.size L1
  have hB := ethen hB e22
  refine ⟨_, (O1.at 0 rfl rfl), ?_⟩
  refine ⟨_, (O1.at 1 rfl rfl), ?_⟩
  refine ⟨_, (O1.at 2 rfl rfl), ?_⟩
  refine ⟨_, (O1.at 3 rfl rfl), ?_⟩
  obtain ⟨r23, hr24⟩ : ∃ r_, r_ = M.impl_IsLocal s0 := ⟨_, rfl⟩
  have H := H r23 hr24
  refine (impl_IsLocal.con hr24 ).mono ?_
  rintro _ w26 ⟨rfl, e27⟩
  have O1 := O1.ext e27
  have hB := ethen hB e27
  refine ⟨r23, rfl, ?_⟩
  obtain rfl := hr.trans H.symm
  exact ⟨rfl, hB⟩
def impl_IsQuiet.vc (A0 : Option Addr) (n0 : Nat) (c0 : Nat) (w : World) (K : Value → World → Prop) : Prop :=
  Cll Tryz.prog 140 #[(.slice A0 n0 c0)] w fun v21 w22 => (∃ (b23 : Bool), v21 = (.bool b23) ∧ bcase b23 (Cll Tryz.prog 141 #[(.slice A0 n0 c0), (.func (.func 142) #[] #[])] w22 fun v24 w25 => (∃ (b26 : Bool), v24 = (.bool b26) ∧ K (.bool (!b26)) w25)) (K (.bool false) w22))

def impl_IsQuiet.ann : Ann := (.seq .l (.seq .l .l))

theorem impl_IsQuiet.start {A0 : Option Addr} {n0 : Nat} {c0 : Nat} {w : World} {K : Value → World → Prop} (h : impl_IsQuiet.vc A0 n0 c0 w K) : Cll Tryz.prog 73 #[(.slice A0 n0 c0)] w K :=
  vcF_sound mixed (fn := Tryz.f73) (by kernel_rfl) (by kernel_rfl) (an := impl_IsQuiet.ann) (args := [(.slice A0 n0 c0)]) (Eq.mpr (by kernel_rfl) h)

theorem impl_IsQuiet.con {xs0 : List D.Ins} {A0 : Option Addr} {c0 : Nat} {r : Bool} {w : World} (hp : M.impl_IsQuiet_pre xs0) (hr : r = M.impl_IsQuiet xs0) (R0 : Row el89 w A0 xs0) (hc0 : xs0.length ≤ c0) :
    Cll Tryz.prog 73 #[(.slice A0 xs0.length c0)] w (fun v_ w_ => v_ = (.bool r) ∧ Ext w w_) := by
  have H := wp.impl_IsQuiet.math xs0 hp
  have hB := Ext.refl w
  refine impl_IsQuiet.start ?_
  unfold impl_IsQuiet.vc
  unfold wp.impl_IsQuiet at H
  obtain ⟨hp23, H⟩ := H
  obtain ⟨r21, hr22⟩ : ∃ r_, r_ = M.impl_ProgramOk xs0 := ⟨_, rfl⟩
  have H := H r21 hr22
  refine (impl_ProgramOk.con hp23 hr22 (R0.ext hB) hc0).mono ?_
  rintro _ w24 ⟨rfl, e25⟩
  have hB := ethen hB e25
  refine ⟨r21, rfl, ?_⟩
  refine bcase_mk (fun hc31 => ?_) (fun hc31 => ?_)
  · have H := (bcase_iff.1 H).1 hc31
    obtain ⟨hp28, H⟩ := H
    obtain ⟨r26, hr27⟩ : ∃ r_, r_ = M.slices_ContainsFunc_impl_Ins_impl_Ins xs0 (fun z0_ => M.impl_IsQuiet_1 z0_) := ⟨_, rfl⟩
    have H := H r26 hr27
    refine (slices_ContainsFunc_impl_Ins_impl_Ins.con hp28 hr27 (R0.ext hB) hc0 (fun z0_ h_ w_ e_ => cllApp (l1 := [_]) (l2 := []) (impl_IsQuiet_1.con rfl))).mono ?_
    rintro _ w29 ⟨rfl, e30⟩
    have hB := ethen hB e30
    refine ⟨r26, rfl, ?_⟩
    obtain rfl := hr.trans H.symm
    exact ⟨rfl, hB⟩
  have H := (bcase_iff.1 H).2 hc31
  obtain rfl := hr.trans H.symm
  exact ⟨rfl, hB⟩
def impl_SubWords.vc (x0 : Int) (x1 : Int) (w : World) (K : Value → World → Prop) : Prop :=
  Cll Tryz.prog 262 #[(.int .i64 x0), (.int .i64 x1), (.int .i64 (IntKind.wrap .i64 (x0 - x1)))] w fun v21 w22 => (∃ (n23 : Int), v21 = (.int .i64 n23) ∧ K (.int .i64 n23) w22)

def impl_SubWords.ann : Ann := (.seq .l (.seq .l .l))

theorem impl_SubWords.start {x0 : Int} {x1 : Int} {w : World} {K : Value → World → Prop} (h : impl_SubWords.vc x0 x1 w K) : Cll Tryz.prog 232 #[(.int .i64 x0), (.int .i64 x1)] w K :=
  vcF_sound mixed (fn := Tryz.f232) (by kernel_rfl) (by kernel_rfl) (an := impl_SubWords.ann) (args := [(.int .i64 x0), (.int .i64 x1)]) (Eq.mpr (by kernel_rfl) h)

theorem impl_SubWords.con {x0 : Int} {x1 : Int} {r : Int} {w : World} (hr : r = M.impl_SubWords x0 x1)  :
    Cll Tryz.prog 232 #[(.int .i64 x0), (.int .i64 x1)] w (fun v_ w_ => v_ = (.int .i64 r) ∧ Ext w w_) := by
  have H := wp.impl_SubWords.math x0 x1
  have hB := Ext.refl w
  refine impl_SubWords.start ?_
  unfold impl_SubWords.vc
  unfold wp.impl_SubWords at H
  obtain ⟨r21, hr22⟩ : ∃ r_, r_ = M.impl_wrapped x0 x1 (IntKind.wrap .i64 (x0 - x1)) := ⟨_, rfl⟩
  have H := H r21 hr22
  refine (impl_wrapped.con hr22 ).mono ?_
  rintro _ w24 ⟨rfl, e25⟩
  have hB := ethen hB e25
  refine ⟨r21, rfl, ?_⟩
  obtain rfl := hr.trans H.symm
  exact ⟨rfl, hB⟩
def impl_MulWords.vc (x0 : Int) (x1 : Int) (w : World) (K : Value → World → Prop) : Prop :=
  Cll Tryz.prog 262 #[(.int .i64 x0), (.int .i64 x1), (.int .i64 (IntKind.wrap .i64 (x0 * x1)))] w fun v21 w22 => (∃ (n23 : Int), v21 = (.int .i64 n23) ∧ K (.int .i64 n23) w22)

def impl_MulWords.ann : Ann := (.seq .l (.seq .l .l))

theorem impl_MulWords.start {x0 : Int} {x1 : Int} {w : World} {K : Value → World → Prop} (h : impl_MulWords.vc x0 x1 w K) : Cll Tryz.prog 233 #[(.int .i64 x0), (.int .i64 x1)] w K :=
  vcF_sound mixed (fn := Tryz.f233) (by kernel_rfl) (by kernel_rfl) (an := impl_MulWords.ann) (args := [(.int .i64 x0), (.int .i64 x1)]) (Eq.mpr (by kernel_rfl) h)

theorem impl_MulWords.con {x0 : Int} {x1 : Int} {r : Int} {w : World} (hr : r = M.impl_MulWords x0 x1)  :
    Cll Tryz.prog 233 #[(.int .i64 x0), (.int .i64 x1)] w (fun v_ w_ => v_ = (.int .i64 r) ∧ Ext w w_) := by
  have H := wp.impl_MulWords.math x0 x1
  have hB := Ext.refl w
  refine impl_MulWords.start ?_
  unfold impl_MulWords.vc
  unfold wp.impl_MulWords at H
  obtain ⟨r21, hr22⟩ : ∃ r_, r_ = M.impl_wrapped x0 x1 (IntKind.wrap .i64 (x0 * x1)) := ⟨_, rfl⟩
  have H := H r21 hr22
  refine (impl_wrapped.con hr22 ).mono ?_
  rintro _ w24 ⟨rfl, e25⟩
  have hB := ethen hB e25
  refine ⟨r21, rfl, ?_⟩
  obtain rfl := hr.trans H.symm
  exact ⟨rfl, hB⟩
def impl_LessWords.vc (x0 : Int) (x1 : Int) (w : World) (K : Value → World → Prop) : Prop :=
  Cll Tryz.prog 227 #[(.int .i64 x0)] w fun v21 w22 => (∃ (b23 : Bool), v21 = (.bool b23) ∧ bcase b23 (Cll Tryz.prog 227 #[(.int .i64 x1)] w22 fun v24 w25 => (∃ (b26 : Bool), v24 = (.bool b26) ∧ bcase b26 (bcase (decide (x0 < x1)) (K (.int .i64 1) w25) (K (.int .i64 0) w25)) (K (.int .i64 0) w25))) (K (.int .i64 0) w22))

def impl_LessWords.ann : Ann := (.seq .l (.seq (.seq .l (.two (.seq .l .l) .l)) (.seq .l .l)))

theorem impl_LessWords.start {x0 : Int} {x1 : Int} {w : World} {K : Value → World → Prop} (h : impl_LessWords.vc x0 x1 w K) : Cll Tryz.prog 234 #[(.int .i64 x0), (.int .i64 x1)] w K :=
  vcF_sound mixed (fn := Tryz.f234) (by kernel_rfl) (by kernel_rfl) (an := impl_LessWords.ann) (args := [(.int .i64 x0), (.int .i64 x1)]) (Eq.mpr (by kernel_rfl) h)

theorem impl_LessWords.con {x0 : Int} {x1 : Int} {r : Int} {w : World} (hr : r = M.impl_LessWords x0 x1)  :
    Cll Tryz.prog 234 #[(.int .i64 x0), (.int .i64 x1)] w (fun v_ w_ => v_ = (.int .i64 r) ∧ Ext w w_) := by
  have H := wp.impl_LessWords.math x0 x1
  have hB := Ext.refl w
  refine impl_LessWords.start ?_
  unfold impl_LessWords.vc
  unfold wp.impl_LessWords at H
  obtain ⟨r21, hr22⟩ : ∃ r_, r_ = M.impl_IsWord x0 := ⟨_, rfl⟩
  have H := H r21 hr22
  refine (impl_IsWord.con hr22 ).mono ?_
  rintro _ w24 ⟨rfl, e25⟩
  have hB := ethen hB e25
  refine ⟨r21, rfl, ?_⟩
  refine bcase_mk (fun hc33 => ?_) (fun hc33 => ?_)
  · have H := (bcase_iff.1 H).1 hc33
    obtain ⟨r26, hr27⟩ : ∃ r_, r_ = M.impl_IsWord x1 := ⟨_, rfl⟩
    have H := H r26 hr27
    refine (impl_IsWord.con hr27 ).mono ?_
    rintro _ w29 ⟨rfl, e30⟩
    have hB := ethen hB e30
    refine ⟨r26, rfl, ?_⟩
    refine bcase_mk (fun hc32 => ?_) (fun hc32 => ?_)
    · have H := (bcase_iff.1 H).1 hc32
      refine bcase_mk (fun hc31 => ?_) (fun hc31 => ?_)
      · have H := (bcase_iff.1 H).1 hc31
        obtain rfl := hr.trans H.symm
        exact ⟨rfl, hB⟩
      have H := (bcase_iff.1 H).2 hc31
      obtain rfl := hr.trans H.symm
      exact ⟨rfl, hB⟩
    have H := (bcase_iff.1 H).2 hc32
    obtain rfl := hr.trans H.symm
    exact ⟨rfl, hB⟩
  have H := (bcase_iff.1 H).2 hc33
  obtain rfl := hr.trans H.symm
  exact ⟨rfl, hB⟩
def impl_isWarpNumber.vc (x0 : Int) (w : World) (K : Value → World → Prop) : Prop :=
  Cll Tryz.prog 75 #[(.int .i64 x0), (.int .i64 0), (.int .i64 2)] w fun v21 w22 => (∃ (b23 : Bool), v21 = (.bool b23) ∧ K (.bool b23) w22)

def impl_isWarpNumber.ann : Ann := (.seq .l (.seq .l .l))

theorem impl_isWarpNumber.start {x0 : Int} {w : World} {K : Value → World → Prop} (h : impl_isWarpNumber.vc x0 w K) : Cll Tryz.prog 82 #[(.int .i64 x0)] w K :=
  vcF_sound mixed (fn := Tryz.f82) (by kernel_rfl) (by kernel_rfl) (an := impl_isWarpNumber.ann) (args := [(.int .i64 x0)]) (Eq.mpr (by kernel_rfl) h)

theorem impl_isWarpNumber.con {x0 : Int} {r : Bool} {w : World} (hr : r = M.impl_isWarpNumber x0)  :
    Cll Tryz.prog 82 #[(.int .i64 x0)] w (fun v_ w_ => v_ = (.bool r) ∧ Ext w w_) := by
  have H := wp.impl_isWarpNumber.math x0
  have hB := Ext.refl w
  refine impl_isWarpNumber.start ?_
  unfold impl_isWarpNumber.vc
  unfold wp.impl_isWarpNumber at H
  obtain ⟨r21, hr22⟩ : ∃ r_, r_ = M.impl_within x0 0 2 := ⟨_, rfl⟩
  have H := H r21 hr22
  refine (impl_within.con hr22 ).mono ?_
  rintro _ w24 ⟨rfl, e25⟩
  have hB := ethen hB e25
  refine ⟨r21, rfl, ?_⟩
  obtain rfl := hr.trans H.symm
  exact ⟨rfl, hB⟩
def slices_Index_int_int.vc (A0 : Option Addr) (n0 : Nat) (c0 : Nat) (x1 : Int) (w : World) (K : Value → World → Prop) : Prop :=
  LoopT (σ := Int × Unit) (fun z21 w22 next23 => bcase (decide (z21.1 < ((n0 : Nat) : Int))) (((0 : Int) ≤ z21.1 ∧ z21.1 < ((n0 : Nat) : Int) ∧ ∃ a24 : Addr, A0 = some a24 ∧ ∃ (n25 : Int), w22.cell? ((a24.add ((z21.1.toNat) * 1)).add 0) = some (.int .i64 n25) ∧ bcase (x1 == n25) (K (.int .i64 z21.1) w22) (next23 ((IntKind.wrap .i64 (z21.1 + 1)), ()) w22))) (K (.int .i64 (-1)) w22)) (0, ()) w

def slices_Index_int_int.ann : Ann := (.seq .l (.seq (.seq .l (.one (.loop [(8, .int .i64)] (.seq .l (.seq (.two .l .l) (.seq (.one (.seq .l (.seq .l (.two (.seq .l .l) .l)))) .l)))))) (.seq .l .l)))

theorem slices_Index_int_int.start {A0 : Option Addr} {n0 : Nat} {c0 : Nat} {x1 : Int} {w : World} {K : Value → World → Prop} (h : slices_Index_int_int.vc A0 n0 c0 x1 w K) : Cll Tryz.prog 287 #[(.slice A0 n0 c0), (.int .i64 x1)] w K :=
  vcF_sound mixed (fn := Tryz.f287) (by kernel_rfl) (by kernel_rfl) (an := slices_Index_int_int.ann) (args := [(.slice A0 n0 c0), (.int .i64 x1)]) (Eq.mpr (by kernel_rfl) h)

theorem slices_Index_int_int.con {xs0 : List Int} {A0 : Option Addr} {c0 : Nat} {x1 : Int} {r : Int} {w : World} (hp : M.slices_Index_int_int_pre xs0 x1) (hr : r = M.slices_Index_int_int xs0 x1) (R0 : Row el3 w A0 xs0) (hc0 : xs0.length ≤ c0) :
    Cll Tryz.prog 287 #[(.slice A0 xs0.length c0), (.int .i64 x1)] w (fun v_ w_ => v_ = (.int .i64 r) ∧ Ext w w_) := by
  have H := wp.slices_Index_int_int.math xs0 x1 hp
  have hB := Ext.refl w
  refine slices_Index_int_int.start ?_
  unfold slices_Index_int_int.vc
  unfold wp.slices_Index_int_int at H
  obtain ⟨J23, ⟨m39, hJ38⟩, hS24⟩ := H
  refine ⟨fun m_ z_ w_ => ∃ (i21 : Int), z_ = (i21, ()) ∧ J23 m_ (i21, ()) ∧ Ext w w_, ⟨m39, 0, rfl, hJ38, hB⟩, ?_⟩
  rintro m22 _ w26 ⟨i21, rfl, hJ40, hB⟩
  have H := hS24 m22 _ hJ40
  clear hS24 hJ40
  try dsimp only at H ⊢
  refine bcase_mk (fun hc36 => ?_) (fun hc36 => ?_)
  · have H := (bcase_iff.1 H).1 hc36
    obtain ⟨⟨h0_30, h1_31⟩, H⟩ := H
    obtain ⟨a28, ha29, hat27⟩ := Row.at (R0.ext hB) h0_30 h1_31
    refine ⟨h0_30, h1_31, a28, ha29, ?_⟩
    refine ⟨_, (hat27 0 _ rfl), ?_⟩
    refine bcase_mk (fun hc35 => ?_) (fun hc35 => ?_)
    · have H := (bcase_iff.1 H).1 hc35
      obtain rfl := hr.trans H.symm
      exact ⟨rfl, hB⟩
    have H := (bcase_iff.1 H).2 hc35
    obtain ⟨m32, hm33, hJ34⟩ := H
    exact ⟨m32, hm33, (IntKind.wrap .i64 (i21 + 1)), rfl, hJ34, hB⟩
  have H := (bcase_iff.1 H).2 hc36
  obtain rfl := hr.trans H.symm
  exact ⟨rfl, hB⟩
def slices_Contains_int_int.vc (A0 : Option Addr) (n0 : Nat) (c0 : Nat) (x1 : Int) (w : World) (K : Value → World → Prop) : Prop :=
  Cll Tryz.prog 287 #[(.slice A0 n0 c0), (.int .i64 x1)] w fun v21 w22 => (∃ (n23 : Int), v21 = (.int .i64 n23) ∧ K (.bool (decide (n23 ≥ 0))) w22)

def slices_Contains_int_int.ann : Ann := (.seq .l (.seq .l .l))

theorem slices_Contains_int_int.start {A0 : Option Addr} {n0 : Nat} {c0 : Nat} {x1 : Int} {w : World} {K : Value → World → Prop} (h : slices_Contains_int_int.vc A0 n0 c0 x1 w K) : Cll Tryz.prog 266 #[(.slice A0 n0 c0), (.int .i64 x1)] w K :=
  vcF_sound mixed (fn := Tryz.f266) (by kernel_rfl) (by kernel_rfl) (an := slices_Contains_int_int.ann) (args := [(.slice A0 n0 c0), (.int .i64 x1)]) (Eq.mpr (by kernel_rfl) h)

theorem slices_Contains_int_int.con {xs0 : List Int} {A0 : Option Addr} {c0 : Nat} {x1 : Int} {r : Bool} {w : World} (hp : M.slices_Contains_int_int_pre xs0 x1) (hr : r = M.slices_Contains_int_int xs0 x1) (R0 : Row el3 w A0 xs0) (hc0 : xs0.length ≤ c0) :
    Cll Tryz.prog 266 #[(.slice A0 xs0.length c0), (.int .i64 x1)] w (fun v_ w_ => v_ = (.bool r) ∧ Ext w w_) := by
  have H := wp.slices_Contains_int_int.math xs0 x1 hp
  have hB := Ext.refl w
  refine slices_Contains_int_int.start ?_
  unfold slices_Contains_int_int.vc
  unfold wp.slices_Contains_int_int at H
  obtain ⟨hp23, H⟩ := H
  obtain ⟨r21, hr22⟩ : ∃ r_, r_ = M.slices_Index_int_int xs0 x1 := ⟨_, rfl⟩
  have H := H r21 hr22
  refine (slices_Index_int_int.con hp23 hr22 (R0.ext hB) hc0).mono ?_
  rintro _ w24 ⟨rfl, e25⟩
  have hB := ethen hB e25
  refine ⟨r21, rfl, ?_⟩
  obtain rfl := hr.trans H.symm
  exact ⟨rfl, hB⟩
def spec_l01New.vc (A0 : Option Addr) (n0 : Nat) (c0 : Nat) (w : World) (K : Value → World → Prop) : Prop :=
  LoopT (σ := Int × Int × Unit) (fun z21 w22 next23 => bcase (decide (z21.2.1 < ((n0 : Nat) : Int))) (bcase (decide (z21.2.1 < 4000)) (((0 : Int) ≤ z21.2.1 ∧ z21.2.1 < ((n0 : Nat) : Int) ∧ ∃ a25 : Addr, A0 = some a25 ∧ ∃ (n26 : Int), w22.cell? ((a25.add ((z21.2.1.toNat) * 1)).add 0) = some (.int .u8 n26) ∧ next23 ((bitAnd .i64 (IntKind.wrap .i64 ((IntKind.wrap .i64 ((IntKind.wrap .i64 (z21.1 * 131)) + (IntKind.wrap .i64 n26))) + 7)) 1073741823), (IntKind.wrap .i64 (z21.2.1 + 1)), ()) w22)) (newK w22 (.cells #[(.slice A0 n0 c0), (.int .i64 0), (.int .i64 z21.1)] 170) fun g27 w28 => K (.pointer (some (⟨g27, 0, none⟩ : Addr))) w28)) (newK w22 (.cells #[(.slice A0 n0 c0), (.int .i64 0), (.int .i64 z21.1)] 170) fun g29 w30 => K (.pointer (some (⟨g29, 0, none⟩ : Addr))) w30)) ((IntKind.wrap .i64 (98561 + ((n0 : Nat) : Int))), 0, ()) w

def spec_l01New.ann : Ann := (.seq .l (.seq .l (.seq (.seq .l (.one (.loop [(3, .int .i64), (4, .int .i64)] (.seq (.seq .l (.two .l .l)) (.seq (.one .l) .l))))) (.seq .l .l))))

theorem spec_l01New.start {A0 : Option Addr} {n0 : Nat} {c0 : Nat} {w : World} {K : Value → World → Prop} (h : spec_l01New.vc A0 n0 c0 w K) : Cll Tryz.prog 130 #[(.slice A0 n0 c0)] w K :=
  vcF_sound mixed (fn := Tryz.f130) (by kernel_rfl) (by kernel_rfl) (an := spec_l01New.ann) (args := [(.slice A0 n0 c0)]) (Eq.mpr (by kernel_rfl) h)

theorem spec_l01New.con {xs0 : List Int} {A0 : Option Addr} {c0 : Nat} {r : D.Cur} {w : World} (hp : M.spec_l01New_pre xs0) (hr : r = M.spec_l01New xs0) (R0 : Row el5 w A0 xs0) (hc0 : xs0.length ≤ c0) :
    Cll Tryz.prog 130 #[(.slice A0 xs0.length c0)] w (fun v_ w_ => ∃ (g0_ : Nat), v_ = (.pointer (some (⟨g0_, 0, none⟩ : Addr))) ∧ Blk w_ g0_ 170 #[(.slice A0 r.b.length c0), (.int .i64 r.i), (.int .i64 r.h)] ∧ r.b = xs0 ∧ w.heap.size ≤ g0_ ∧ Ext w w_) := by
  have H := wp.spec_l01New.math xs0 hp
  have hB := Ext.refl w
  refine spec_l01New.start ?_
  unfold spec_l01New.vc
  unfold wp.spec_l01New at H
  obtain ⟨J24, ⟨m44, hJ43⟩, hS25⟩ := H
  refine ⟨fun m_ z_ w_ => ∃ (i21 : Int) (i22 : Int), z_ = (i21, i22, ()) ∧ J24 m_ (i21, i22, ()) ∧ Ext w w_, ⟨m44, (IntKind.wrap .i64 (98561 + ((xs0.length : Nat) : Int))), 0, rfl, hJ43, hB⟩, ?_⟩
  rintro m23 _ w27 ⟨i21, i22, rfl, hJ45, hB⟩
  have H := hS25 m23 _ hJ45
  clear hS25 hJ45
  try dsimp only at H ⊢
  refine bcase_mk (fun hc41 => ?_) (fun hc41 => ?_)
  · have H := (bcase_iff.1 H).1 hc41
    refine bcase_mk (fun hc38 => ?_) (fun hc38 => ?_)
    · have H := (bcase_iff.1 H).1 hc38
      obtain ⟨⟨h0_31, h1_32⟩, H⟩ := H
      obtain ⟨a29, ha30, hat28⟩ := Row.at (R0.ext hB) h0_31 h1_32
      refine ⟨h0_31, h1_32, a29, ha30, ?_⟩
      refine ⟨_, (hat28 0 _ rfl), ?_⟩
      obtain ⟨m33, hm34, hJ35⟩ := H
      exact ⟨m33, hm34, (bitAnd .i64 (IntKind.wrap .i64 ((IntKind.wrap .i64 ((IntKind.wrap .i64 (i21 * 131)) + (IntKind.wrap .i64 (rd xs0 i22)))) + 7)) 1073741823), (IntKind.wrap .i64 (i22 + 1)), rfl, hJ35, hB⟩
    have H := (bcase_iff.1 H).2 hc38
    refine newBlk (fun g2_ w36 L2 P2 e37 => ?_)
    have O2 := P2
    have L2 := Nat.le_trans hB.size L2
    have hB := ethen hB e37
    obtain rfl := hr.trans H.symm
    exact ⟨g2_, rfl, O2, rfl, L2, hB⟩
  have H := (bcase_iff.1 H).2 hc41
  refine newBlk (fun g3_ w39 L3 P3 e40 => ?_)
  have O3 := P3
  have L3 := Nat.le_trans hB.size L3
  have hB := ethen hB e40
  obtain rfl := hr.trans H.symm
  exact ⟨g3_, rfl, O3, rfl, L3, hB⟩
def spec_l01Byte.vc (p0 : Addr) (w : World) (K : Value → World → Prop) : Prop :=
  ∃ (n21 : Int), w.cell? ((p0.add 2).add 0) = some (.int .i64 n21) ∧ stCells (p0.add 2) [(.int .i64 (IntKind.wrap .i64 ((IntKind.wrap .i64 (n21 * 6364136223846793005)) + 1442695040888963407)))] 0 w fun w22 => ∃ (n23 : Int), w22.cell? ((p0.add 2).add 0) = some (.int .i64 n23) ∧ ((0 : Int) ≤ 33 ∧ ∃ (n24 : Int), w22.cell? ((p0.add 2).add 0) = some (.int .i64 n24) ∧ ((0 : Int) ≤ 45 ∧ ∃ (n25 : Int), w22.drew.cell? ((p0.add 1).add 0) = some (.int .i64 n25) ∧ ∃ (A26 : Option Addr) (n27 : Nat) (c28 : Nat), w22.drew.cell? ((p0.add 0).add 0) = some (.slice A26 n27 c28) ∧ bcase (decide (n25 < ((n27 : Nat) : Int))) (∃ (A29 : Option Addr) (n30 : Nat) (c31 : Nat), w22.drew.drew.cell? ((p0.add 0).add 0) = some (.slice A29 n30 c31) ∧ ∃ (n32 : Int), w22.drew.drew.cell? ((p0.add 1).add 0) = some (.int .i64 n32) ∧ ((0 : Int) ≤ n32 ∧ n32 < ((n30 : Nat) : Int) ∧ ∃ a33 : Addr, A29 = some a33 ∧ ∃ (n34 : Int), w22.drew.drew.cell? ((a33.add ((n32.toNat) * 1)).add 0) = some (.int .u8 n34) ∧ ∃ (n35 : Int), w22.drew.drew.drew.cell? ((p0.add 1).add 0) = some (.int .i64 n35) ∧ stCells (p0.add 1) [(.int .i64 (IntKind.wrap .i64 (n35 + 1)))] 0 w22.drew.drew.drew fun w36 => K (.int .i64 (bitAnd .i64 (IntKind.wrap .i64 ((bitAnd .i64 (bitXor .i64 (Int.fdiv n23 (2 ^ (min ((33 : Int).toNat) (IntKind.bits .i64)))) (Int.fdiv n24 (2 ^ (min ((45 : Int).toNat) (IntKind.bits .i64))))) 255) + (IntKind.wrap .i64 n34))) 255)) w36)) (K (.int .i64 (bitAnd .i64 (bitXor .i64 (Int.fdiv n23 (2 ^ (min ((33 : Int).toNat) (IntKind.bits .i64)))) (Int.fdiv n24 (2 ^ (min ((45 : Int).toNat) (IntKind.bits .i64))))) 255)) w22.drew.drew)))

def spec_l01Byte.ann : Ann := (.seq .l (.seq .l (.seq .l (.seq (.seq .l (.two (.seq .l .l) .l)) (.seq .l .l)))))

theorem spec_l01Byte.start {p0 : Addr} {w : World} {K : Value → World → Prop} (h : spec_l01Byte.vc p0 w K) : Cll Tryz.prog 191 #[(.pointer (some p0))] w K :=
  vcF_sound mixed (fn := Tryz.f191) (by kernel_rfl) (by kernel_rfl) (an := spec_l01Byte.ann) (args := [(.pointer (some p0))]) (Eq.mpr (by kernel_rfl) h)

theorem spec_l01Byte.con {s0 : D.Cur} {g1_ : Nat} {A0_0 : Option Addr} {c0_0 : Nat} {r : Int × D.Cur} {w : World} (hp : M.spec_l01Byte_pre s0) (hr : r = M.spec_l01Byte s0) (O1 : Blk w g1_ 170 #[(.slice A0_0 s0.b.length c0_0), (.int .i64 s0.i), (.int .i64 s0.h)]) (R0_0 : Row el5 w A0_0 s0.b) (hc0_0 : s0.b.length ≤ c0_0) (D0_0 : s0.b ≠ [] → ∀ g, InB A0_0 g → ¬ (fun k_ => k_ = g1_) g) :
    Cll Tryz.prog 191 #[(.pointer (some (⟨g1_, 0, none⟩ : Addr)))] w (fun v_ w_ => v_ = (.int .i64 r.1) ∧ Blk w_ g1_ 170 #[(.slice A0_0 r.2.b.length c0_0), (.int .i64 r.2.i), (.int .i64 r.2.h)] ∧ r.2.b = s0.b ∧ Chg (fun k_ => k_ = g1_) w w_) := by
  have H := wp.spec_l01Byte.math s0 hp
  have hB := Chg.refl (fun k_ => k_ = g1_) w
  refine spec_l01Byte.start ?_
  unfold spec_l01Byte.vc
  unfold wp.spec_l01Byte at H
  refine ⟨_, (O1.at 2 rfl rfl), ?_⟩
  refine stBlk O1 (o := 2) (cs' := #[(.slice A0_0 s0.b.length c0_0), (.int .i64 s0.i), (.int .i64 (IntKind.wrap .i64 ((IntKind.wrap .i64 (s0.h * 6364136223846793005)) + 1442695040888963407)))]) rfl rfl (Nat.le_of_ble_eq_true rfl) rfl (fun w21 P1 e22 => ?_)
  have hB := hB.chgb e22 (Or.inr rfl)
  have O1 := P1
  refine ⟨_, (O1.at 2 rfl rfl), ?_⟩
  refine ⟨by decide, ?_⟩
  refine ⟨_, (O1.at 2 rfl rfl), ?_⟩
  refine ⟨by decide, ?_⟩
  have O1 := O1.ext (Ext.drew _)
  have hB := hB.then (Ext.drew _)
  refine ⟨_, (O1.at 1 rfl rfl), ?_⟩
  refine ⟨_, _, _, (O1.at 0 rfl rfl), ?_⟩
  have O1 := O1.ext (Ext.drew _)
  have hB := hB.then (Ext.drew _)
  refine bcase_mk (fun hc35 => ?_) (fun hc35 => ?_)
  · have H := (bcase_iff.1 H).1 hc35
    refine ⟨_, _, _, (O1.at 0 rfl rfl), ?_⟩
    refine ⟨_, (O1.at 1 rfl rfl), ?_⟩
    obtain ⟨⟨h0_31, h1_32⟩, H⟩ := H
    obtain ⟨a29, ha30, hat28⟩ := Row.at (R0_0.chgS hB D0_0) h0_31 h1_32
    refine ⟨h0_31, h1_32, a29, ha30, ?_⟩
    refine ⟨_, (hat28 0 _ rfl), ?_⟩
    have O1 := O1.ext (Ext.drew _)
    have hB := hB.then (Ext.drew _)
    refine ⟨_, (O1.at 1 rfl rfl), ?_⟩
    refine stBlk O1 (o := 1) (cs' := #[(.slice A0_0 s0.b.length c0_0), (.int .i64 (IntKind.wrap .i64 (s0.i + 1))), (.int .i64 (IntKind.wrap .i64 ((IntKind.wrap .i64 (s0.h * 6364136223846793005)) + 1442695040888963407)))]) rfl rfl (Nat.le_of_ble_eq_true rfl) rfl (fun w33 P1 e34 => ?_)
    have hB := hB.chgb e34 (Or.inr rfl)
    have O1 := P1
    obtain rfl := hr.trans H.symm
    exact ⟨rfl, O1, rfl, hB⟩
  have H := (bcase_iff.1 H).2 hc35
  obtain rfl := hr.trans H.symm
  exact ⟨rfl, O1, rfl, hB⟩
def spec_l01Below.vc (p0 : Addr) (x1 : Int) (w : World) (K : Value → World → Prop) : Prop :=
  bcase (decide (x1 ≤ 0)) (K (.int .i64 0) w) (bcase (decide (x1 ≤ 256)) (Cll Tryz.prog 191 #[(.pointer (some p0))] w fun v21 w22 => (∃ (n23 : Int), v21 = (.int .i64 n23) ∧ ((x1 : Int) ≠ 0 ∧ K (.int .i64 (Int.tmod n23 x1)) w22))) (Cll Tryz.prog 191 #[(.pointer (some p0))] w fun v24 w25 => (∃ (n26 : Int), v24 = (.int .i64 n26) ∧ Cll Tryz.prog 191 #[(.pointer (some p0))] w25 fun v27 w28 => (∃ (n29 : Int), v27 = (.int .i64 n29) ∧ Cll Tryz.prog 191 #[(.pointer (some p0))] w28 fun v30 w31 => (∃ (n32 : Int), v30 = (.int .i64 n32) ∧ Cll Tryz.prog 191 #[(.pointer (some p0))] w31 fun v33 w34 => (∃ (n35 : Int), v33 = (.int .i64 n35) ∧ ((x1 : Int) ≠ 0 ∧ K (.int .i64 (Int.tmod (IntKind.wrap .i64 ((IntKind.wrap .i64 ((IntKind.wrap .i64 ((IntKind.wrap .i64 (n26 * 16777216)) + (IntKind.wrap .i64 (n29 * 65536)))) + (IntKind.wrap .i64 (n32 * 256)))) + n35)) x1)) w34)))))))

def spec_l01Below.ann : Ann := (.seq .l (.seq (.seq .l (.two (.seq .l .l) .l)) (.seq (.seq .l (.two (.seq .l .l) .l)) (.seq .l (.seq .l (.seq .l (.seq .l (.seq .l .l))))))))

theorem spec_l01Below.start {p0 : Addr} {x1 : Int} {w : World} {K : Value → World → Prop} (h : spec_l01Below.vc p0 x1 w K) : Cll Tryz.prog 131 #[(.pointer (some p0)), (.int .i64 x1)] w K :=
  vcF_sound mixed (fn := Tryz.f131) (by kernel_rfl) (by kernel_rfl) (an := spec_l01Below.ann) (args := [(.pointer (some p0)), (.int .i64 x1)]) (Eq.mpr (by kernel_rfl) h)

theorem spec_l01Below.con {s0 : D.Cur} {g1_ : Nat} {A0_0 : Option Addr} {c0_0 : Nat} {x1 : Int} {r : Int × D.Cur} {w : World} (hp : M.spec_l01Below_pre s0 x1) (hr : r = M.spec_l01Below s0 x1) (O1 : Blk w g1_ 170 #[(.slice A0_0 s0.b.length c0_0), (.int .i64 s0.i), (.int .i64 s0.h)]) (R0_0 : Row el5 w A0_0 s0.b) (hc0_0 : s0.b.length ≤ c0_0) (D0_0 : s0.b ≠ [] → ∀ g, InB A0_0 g → ¬ (fun k_ => k_ = g1_) g) :
    Cll Tryz.prog 131 #[(.pointer (some (⟨g1_, 0, none⟩ : Addr))), (.int .i64 x1)] w (fun v_ w_ => v_ = (.int .i64 r.1) ∧ Blk w_ g1_ 170 #[(.slice A0_0 r.2.b.length c0_0), (.int .i64 r.2.i), (.int .i64 r.2.h)] ∧ r.2.b = s0.b ∧ Chg (fun k_ => k_ = g1_) w w_) := by
  have H := wp.spec_l01Below.math s0 x1 hp
  have hB := Chg.refl (fun k_ => k_ = g1_) w
  refine spec_l01Below.start ?_
  unfold spec_l01Below.vc
  unfold wp.spec_l01Below at H
  refine bcase_mk (fun hc54 => ?_) (fun hc54 => ?_)
  · have H := (bcase_iff.1 H).1 hc54
    obtain rfl := hr.trans H.symm
    exact ⟨rfl, O1, rfl, hB⟩
  have H := (bcase_iff.1 H).2 hc54
  refine bcase_mk (fun hc53 => ?_) (fun hc53 => ?_)
  · have H := (bcase_iff.1 H).1 hc53
    obtain ⟨hp23, H⟩ := H
    obtain ⟨r21, hr22⟩ : ∃ r_, r_ = M.spec_l01Byte s0 := ⟨_, rfl⟩
    have H := H r21 hr22
    refine (spec_l01Byte.con hp23 hr22 O1 (R0_0.chgS hB D0_0) hc0_0 (fun hx_ => (fun g h_ hS_ => D0_0 hx_ g h_ hS_))).mono ?_
    rintro _ w24 ⟨rfl, Q1, hq26, e25⟩
    rw [hq26] at Q1
    have hB := hB.chg e25 (fun g h_ => Or.inr h_)
    have O1 := Q1
    refine ⟨r21.1, rfl, ?_⟩
    obtain ⟨hc27, H⟩ := H
    refine ⟨hc27, ?_⟩
    obtain rfl := hr.trans H.symm
    exact ⟨rfl, O1, rfl, hB⟩
  have H := (bcase_iff.1 H).2 hc53
  obtain ⟨hp30, H⟩ := H
  obtain ⟨r28, hr29⟩ : ∃ r_, r_ = M.spec_l01Byte s0 := ⟨_, rfl⟩
  have H := H r28 hr29
  refine (spec_l01Byte.con hp30 hr29 O1 (R0_0.chgS hB D0_0) hc0_0 (fun hx_ => (fun g h_ hS_ => D0_0 hx_ g h_ hS_))).mono ?_
  rintro _ w31 ⟨rfl, Q1, hq33, e32⟩
  rw [hq33] at Q1
  have hB := hB.chg e32 (fun g h_ => Or.inr h_)
  have O1 := Q1
  refine ⟨r28.1, rfl, ?_⟩
  obtain ⟨hp36, H⟩ := H
  obtain ⟨r34, hr35⟩ : ∃ r_, r_ = M.spec_l01Byte (⟨s0.b, r28.2.i, r28.2.h⟩ : D.Cur) := ⟨_, rfl⟩
  have H := H r34 hr35
  refine (spec_l01Byte.con hp36 hr35 O1 (R0_0.chgS hB D0_0) hc0_0 (fun hx_ => (fun g h_ hS_ => D0_0 hx_ g h_ hS_))).mono ?_
  rintro _ w37 ⟨rfl, Q1, hq39, e38⟩
  rw [hq39] at Q1
  have hB := hB.chg e38 (fun g h_ => Or.inr h_)
  have O1 := Q1
  refine ⟨r34.1, rfl, ?_⟩
  obtain ⟨hp42, H⟩ := H
  obtain ⟨r40, hr41⟩ : ∃ r_, r_ = M.spec_l01Byte (⟨s0.b, r34.2.i, r34.2.h⟩ : D.Cur) := ⟨_, rfl⟩
  have H := H r40 hr41
  refine (spec_l01Byte.con hp42 hr41 O1 (R0_0.chgS hB D0_0) hc0_0 (fun hx_ => (fun g h_ hS_ => D0_0 hx_ g h_ hS_))).mono ?_
  rintro _ w43 ⟨rfl, Q1, hq45, e44⟩
  rw [hq45] at Q1
  have hB := hB.chg e44 (fun g h_ => Or.inr h_)
  have O1 := Q1
  refine ⟨r40.1, rfl, ?_⟩
  obtain ⟨hp48, H⟩ := H
  obtain ⟨r46, hr47⟩ : ∃ r_, r_ = M.spec_l01Byte (⟨s0.b, r40.2.i, r40.2.h⟩ : D.Cur) := ⟨_, rfl⟩
  have H := H r46 hr47
  refine (spec_l01Byte.con hp48 hr47 O1 (R0_0.chgS hB D0_0) hc0_0 (fun hx_ => (fun g h_ hS_ => D0_0 hx_ g h_ hS_))).mono ?_
  rintro _ w49 ⟨rfl, Q1, hq51, e50⟩
  rw [hq51] at Q1
  have hB := hB.chg e50 (fun g h_ => Or.inr h_)
  have O1 := Q1
  refine ⟨r46.1, rfl, ?_⟩
  obtain ⟨hc52, H⟩ := H
  refine ⟨hc52, ?_⟩
  obtain rfl := hr.trans H.symm
  exact ⟨rfl, O1, rfl, hB⟩
def spec_l01PickInt.vc (p0 : Addr) (A1 : Option Addr) (n1 : Nat) (c1 : Nat) (w : World) (K : Value → World → Prop) : Prop :=
  Cll Tryz.prog 131 #[(.pointer (some p0)), (.int .i64 ((n1 : Nat) : Int))] w fun v21 w22 => (∃ (n23 : Int), v21 = (.int .i64 n23) ∧ ((0 : Int) ≤ n23 ∧ n23 < ((n1 : Nat) : Int) ∧ ∃ a24 : Addr, A1 = some a24 ∧ ∃ (n25 : Int), w22.cell? ((a24.add ((n23.toNat) * 1)).add 0) = some (.int .i64 n25) ∧ K (.int .i64 n25) w22))

def spec_l01PickInt.ann : Ann := (.seq .l (.seq .l .l))

theorem spec_l01PickInt.start {p0 : Addr} {A1 : Option Addr} {n1 : Nat} {c1 : Nat} {w : World} {K : Value → World → Prop} (h : spec_l01PickInt.vc p0 A1 n1 c1 w K) : Cll Tryz.prog 263 #[(.pointer (some p0)), (.slice A1 n1 c1)] w K :=
  vcF_sound mixed (fn := Tryz.f263) (by kernel_rfl) (by kernel_rfl) (an := spec_l01PickInt.ann) (args := [(.pointer (some p0)), (.slice A1 n1 c1)]) (Eq.mpr (by kernel_rfl) h)

theorem spec_l01PickInt.con {s0 : D.Cur} {g1_ : Nat} {A0_0 : Option Addr} {c0_0 : Nat} {xs1 : List Int} {A1 : Option Addr} {c1 : Nat} {r : Int × D.Cur} {w : World} (hp : M.spec_l01PickInt_pre s0 xs1) (hr : r = M.spec_l01PickInt s0 xs1) (O1 : Blk w g1_ 170 #[(.slice A0_0 s0.b.length c0_0), (.int .i64 s0.i), (.int .i64 s0.h)]) (R0_0 : Row el5 w A0_0 s0.b) (hc0_0 : s0.b.length ≤ c0_0) (R1 : Row el3 w A1 xs1) (hc1 : xs1.length ≤ c1) (D0_0 : s0.b ≠ [] → ∀ g, InB A0_0 g → ¬ (fun k_ => k_ = g1_) g) (D1 : xs1 ≠ [] → ∀ g, InB A1 g → ¬ (fun k_ => k_ = g1_) g) :
    Cll Tryz.prog 263 #[(.pointer (some (⟨g1_, 0, none⟩ : Addr))), (.slice A1 xs1.length c1)] w (fun v_ w_ => v_ = (.int .i64 r.1) ∧ Blk w_ g1_ 170 #[(.slice A0_0 r.2.b.length c0_0), (.int .i64 r.2.i), (.int .i64 r.2.h)] ∧ r.2.b = s0.b ∧ Chg (fun k_ => k_ = g1_) w w_) := by
  have H := wp.spec_l01PickInt.math s0 xs1 hp
  have hB := Chg.refl (fun k_ => k_ = g1_) w
  refine spec_l01PickInt.start ?_
  unfold spec_l01PickInt.vc
  unfold wp.spec_l01PickInt at H
  obtain ⟨hp23, H⟩ := H
  obtain ⟨r21, hr22⟩ : ∃ r_, r_ = M.spec_l01Below s0 ((xs1.length : Nat) : Int) := ⟨_, rfl⟩
  have H := H r21 hr22
  refine (spec_l01Below.con hp23 hr22 O1 (R0_0.chgS hB D0_0) hc0_0 (fun hx_ => (fun g h_ hS_ => D0_0 hx_ g h_ hS_))).mono ?_
  rintro _ w24 ⟨rfl, Q1, hq26, e25⟩
  rw [hq26] at Q1
  have hB := hB.chg e25 (fun g h_ => Or.inr h_)
  have O1 := Q1
  refine ⟨r21.1, rfl, ?_⟩
  obtain ⟨⟨h0_30, h1_31⟩, H⟩ := H
  obtain ⟨a28, ha29, hat27⟩ := Row.at (R1.chgS hB D1) h0_30 h1_31
  refine ⟨h0_30, h1_31, a28, ha29, ?_⟩
  refine ⟨_, (hat27 0 _ rfl), ?_⟩
  obtain rfl := hr.trans H.symm
  exact ⟨rfl, O1, rfl, hB⟩
def spec_l04Plain.vc (p0 : Addr) (w : World) (K : Value → World → Prop) : Prop :=
  newK w (.cells #[(.int .i64 0), (.int .i64 0), (.int .i64 0), (.int .i64 0)] 89) fun g21 w22 => Cll Tryz.prog 131 #[(.pointer (some p0)), (.int .i64 9)] w22 fun v23 w24 => (∃ (n25 : Int), v23 = (.int .i64 n25) ∧ Cll Tryz.prog 131 #[(.pointer (some p0)), (.int .i64 4)] w24 fun v26 w27 => (∃ (n28 : Int), v26 = (.int .i64 n28) ∧ newK w27 (.cells #[(.int .i64 0), (.int .i64 0), (.int .i64 0), (.int .i64 0)] 89) fun g29 w30 => stCells (⟨g29, 0, none⟩ : Addr) [(.int .i64 (IntKind.wrap .i64 (1 + n25))), (.int .i64 n28), (.int .i64 0), (.int .i64 0)] 0 w30 fun w31 => ∃ (n32 : Int), w31.cell? (((⟨g29, 0, none⟩ : Addr).add 0).add 0) = some (.int .i64 n32) ∧ bcase (n32 == 1) (Cll Tryz.prog 131 #[(.pointer (some p0)), (.int .i64 6)] w31 fun v33 w34 => (∃ (n35 : Int), v33 = (.int .i64 n35) ∧ stCells ((⟨g29, 0, none⟩ : Addr).add 2) [(.int .i64 n35)] 0 w34 fun w36 => ∃ (n37 : Int), w36.cell? ((⟨g29, 0, none⟩ : Addr).add 0) = some (.int .i64 n37) ∧ ∃ (n38 : Int), w36.cell? ((⟨g29, 0, none⟩ : Addr).add 1) = some (.int .i64 n38) ∧ ∃ (n39 : Int), w36.cell? ((⟨g29, 0, none⟩ : Addr).add 2) = some (.int .i64 n39) ∧ ∃ (n40 : Int), w36.cell? ((⟨g29, 0, none⟩ : Addr).add 3) = some (.int .i64 n40) ∧ stCells (⟨g21, 0, none⟩ : Addr) [(.int .i64 n37), (.int .i64 n38), (.int .i64 n39), (.int .i64 n40)] 0 w36 fun w41 => ∃ (n42 : Int), w41.cell? ((⟨g21, 0, none⟩ : Addr).add 0) = some (.int .i64 n42) ∧ ∃ (n43 : Int), w41.cell? ((⟨g21, 0, none⟩ : Addr).add 1) = some (.int .i64 n43) ∧ ∃ (n44 : Int), w41.cell? ((⟨g21, 0, none⟩ : Addr).add 2) = some (.int .i64 n44) ∧ ∃ (n45 : Int), w41.cell? ((⟨g21, 0, none⟩ : Addr).add 3) = some (.int .i64 n45) ∧ K (.agg #[(.int .i64 n42), (.int .i64 n43), (.int .i64 n44), (.int .i64 n45)]) w41)) (bcase (n32 == 8) (∃ (n46 : Int), w31.cell? ((⟨g29, 0, none⟩ : Addr).add 0) = some (.int .i64 n46) ∧ ∃ (n47 : Int), w31.cell? ((⟨g29, 0, none⟩ : Addr).add 1) = some (.int .i64 n47) ∧ ∃ (n48 : Int), w31.cell? ((⟨g29, 0, none⟩ : Addr).add 2) = some (.int .i64 n48) ∧ ∃ (n49 : Int), w31.cell? ((⟨g29, 0, none⟩ : Addr).add 3) = some (.int .i64 n49) ∧ stCells (⟨g21, 0, none⟩ : Addr) [(.int .i64 n46), (.int .i64 n47), (.int .i64 n48), (.int .i64 n49)] 0 w31 fun w50 => ∃ (n51 : Int), w50.cell? ((⟨g21, 0, none⟩ : Addr).add 0) = some (.int .i64 n51) ∧ ∃ (n52 : Int), w50.cell? ((⟨g21, 0, none⟩ : Addr).add 1) = some (.int .i64 n52) ∧ ∃ (n53 : Int), w50.cell? ((⟨g21, 0, none⟩ : Addr).add 2) = some (.int .i64 n53) ∧ ∃ (n54 : Int), w50.cell? ((⟨g21, 0, none⟩ : Addr).add 3) = some (.int .i64 n54) ∧ K (.agg #[(.int .i64 n51), (.int .i64 n52), (.int .i64 n53), (.int .i64 n54)]) w50) (bcase (n32 == 2) (Cll Tryz.prog 131 #[(.pointer (some p0)), (.int .i64 4)] w31 fun v55 w56 => (∃ (n57 : Int), v55 = (.int .i64 n57) ∧ stCells ((⟨g29, 0, none⟩ : Addr).add 2) [(.int .i64 n57)] 0 w56 fun w58 => ∃ (n59 : Int), w58.cell? ((⟨g29, 0, none⟩ : Addr).add 0) = some (.int .i64 n59) ∧ ∃ (n60 : Int), w58.cell? ((⟨g29, 0, none⟩ : Addr).add 1) = some (.int .i64 n60) ∧ ∃ (n61 : Int), w58.cell? ((⟨g29, 0, none⟩ : Addr).add 2) = some (.int .i64 n61) ∧ ∃ (n62 : Int), w58.cell? ((⟨g29, 0, none⟩ : Addr).add 3) = some (.int .i64 n62) ∧ stCells (⟨g21, 0, none⟩ : Addr) [(.int .i64 n59), (.int .i64 n60), (.int .i64 n61), (.int .i64 n62)] 0 w58 fun w63 => ∃ (n64 : Int), w63.cell? ((⟨g21, 0, none⟩ : Addr).add 0) = some (.int .i64 n64) ∧ ∃ (n65 : Int), w63.cell? ((⟨g21, 0, none⟩ : Addr).add 1) = some (.int .i64 n65) ∧ ∃ (n66 : Int), w63.cell? ((⟨g21, 0, none⟩ : Addr).add 2) = some (.int .i64 n66) ∧ ∃ (n67 : Int), w63.cell? ((⟨g21, 0, none⟩ : Addr).add 3) = some (.int .i64 n67) ∧ K (.agg #[(.int .i64 n64), (.int .i64 n65), (.int .i64 n66), (.int .i64 n67)]) w63)) (Cll Tryz.prog 131 #[(.pointer (some p0)), (.int .i64 4)] w31 fun v68 w69 => (∃ (n70 : Int), v68 = (.int .i64 n70) ∧ stCells ((⟨g29, 0, none⟩ : Addr).add 2) [(.int .i64 n70)] 0 w69 fun w71 => Cll Tryz.prog 131 #[(.pointer (some p0)), (.int .i64 4)] w71 fun v72 w73 => (∃ (n74 : Int), v72 = (.int .i64 n74) ∧ stCells ((⟨g29, 0, none⟩ : Addr).add 3) [(.int .i64 n74)] 0 w73 fun w75 => ∃ (n76 : Int), w75.cell? ((⟨g29, 0, none⟩ : Addr).add 0) = some (.int .i64 n76) ∧ ∃ (n77 : Int), w75.cell? ((⟨g29, 0, none⟩ : Addr).add 1) = some (.int .i64 n77) ∧ ∃ (n78 : Int), w75.cell? ((⟨g29, 0, none⟩ : Addr).add 2) = some (.int .i64 n78) ∧ ∃ (n79 : Int), w75.cell? ((⟨g29, 0, none⟩ : Addr).add 3) = some (.int .i64 n79) ∧ stCells (⟨g21, 0, none⟩ : Addr) [(.int .i64 n76), (.int .i64 n77), (.int .i64 n78), (.int .i64 n79)] 0 w75 fun w80 => ∃ (n81 : Int), w80.cell? ((⟨g21, 0, none⟩ : Addr).add 0) = some (.int .i64 n81) ∧ ∃ (n82 : Int), w80.cell? ((⟨g21, 0, none⟩ : Addr).add 1) = some (.int .i64 n82) ∧ ∃ (n83 : Int), w80.cell? ((⟨g21, 0, none⟩ : Addr).add 2) = some (.int .i64 n83) ∧ ∃ (n84 : Int), w80.cell? ((⟨g21, 0, none⟩ : Addr).add 3) = some (.int .i64 n84) ∧ K (.agg #[(.int .i64 n81), (.int .i64 n82), (.int .i64 n83), (.int .i64 n84)]) w80)))))))

def spec_l04Plain.ann : Ann := (.seq .l (.seq .l (.seq (.seq .l (.one (.seq .l (.two .l (.seq .l (.two .l (.seq .l (.two .l (.seq .l .l))))))))) (.seq .l .l))))

theorem spec_l04Plain.start {p0 : Addr} {w : World} {K : Value → World → Prop} (h : spec_l04Plain.vc p0 w K) : Cll Tryz.prog 221 #[(.pointer (some p0))] w K :=
  vcF_sound mixed (fn := Tryz.f221) (by kernel_rfl) (by kernel_rfl) (an := spec_l04Plain.ann) (args := [(.pointer (some p0))]) (Eq.mpr (by kernel_rfl) h)

theorem spec_l04Plain.con {s0 : D.Cur} {g1_ : Nat} {A0_0 : Option Addr} {c0_0 : Nat} {r : D.Ins × D.Cur} {w : World} (hp : M.spec_l04Plain_pre s0) (hr : r = M.spec_l04Plain s0) (O1 : Blk w g1_ 170 #[(.slice A0_0 s0.b.length c0_0), (.int .i64 s0.i), (.int .i64 s0.h)]) (R0_0 : Row el5 w A0_0 s0.b) (hc0_0 : s0.b.length ≤ c0_0) (D0_0 : s0.b ≠ [] → ∀ g, InB A0_0 g → ¬ (fun k_ => k_ = g1_) g) :
    Cll Tryz.prog 221 #[(.pointer (some (⟨g1_, 0, none⟩ : Addr)))] w (fun v_ w_ => v_ = (.agg #[(.int .i64 r.1.Op), (.int .i64 r.1.A), (.int .i64 r.1.B), (.int .i64 r.1.C)]) ∧ Blk w_ g1_ 170 #[(.slice A0_0 r.2.b.length c0_0), (.int .i64 r.2.i), (.int .i64 r.2.h)] ∧ r.2.b = s0.b ∧ Chg (fun k_ => k_ = g1_) w w_) := by
  have H := wp.spec_l04Plain.math s0 hp
  have hB := Chg.refl (fun k_ => k_ = g1_) w
  refine spec_l04Plain.start ?_
  unfold spec_l04Plain.vc
  unfold wp.spec_l04Plain at H
  refine newBlk (fun g3_ w21 L3 P3 e22 => ?_)
  have N1_3 := O1.ne L3
  have O1 := O1.ext e22
  have O3 := P3
  have L3 := Nat.le_trans hB.size L3
  have hB := hB.then e22
  obtain ⟨hp25, H⟩ := H
  obtain ⟨r23, hr24⟩ : ∃ r_, r_ = M.spec_l01Below s0 9 := ⟨_, rfl⟩
  have H := H r23 hr24
  refine (spec_l01Below.con hp25 hr24 O1 (R0_0.chgS hB D0_0) hc0_0 (fun hx_ => (fun g h_ hS_ => D0_0 hx_ g h_ hS_))).mono ?_
  rintro _ w26 ⟨rfl, Q1, hq28, e27⟩
  rw [hq28] at Q1
  have O3 := O3.chgS e27 ((N1_3).symm)
  have hB := hB.chg e27 (fun g h_ => Or.inr h_)
  have O1 := Q1
  refine ⟨r23.1, rfl, ?_⟩
  obtain ⟨hp31, H⟩ := H
  obtain ⟨r29, hr30⟩ : ∃ r_, r_ = M.spec_l01Below (⟨s0.b, r23.2.i, r23.2.h⟩ : D.Cur) 4 := ⟨_, rfl⟩
  have H := H r29 hr30
  refine (spec_l01Below.con hp31 hr30 O1 (R0_0.chgS hB D0_0) hc0_0 (fun hx_ => (fun g h_ hS_ => D0_0 hx_ g h_ hS_))).mono ?_
  rintro _ w32 ⟨rfl, Q1, hq34, e33⟩
  rw [hq34] at Q1
  have O3 := O3.chgS e33 ((N1_3).symm)
  have hB := hB.chg e33 (fun g h_ => Or.inr h_)
  have O1 := Q1
  refine ⟨r29.1, rfl, ?_⟩
  refine newBlk (fun g4_ w35 L4 P4 e36 => ?_)
  have N1_4 := O1.ne L4
  have N3_4 := O3.ne L4
  have O1 := O1.ext e36
  have O3 := O3.ext e36
  have O4 := P4
  have L4 := Nat.le_trans hB.size L4
  have hB := hB.then e36
  refine stBlk O4 (o := 0) (cs' := #[(.int .i64 (IntKind.wrap .i64 (1 + r23.1))), (.int .i64 r29.1), (.int .i64 0), (.int .i64 0)]) rfl rfl (Nat.le_of_ble_eq_true rfl) rfl (fun w37 P4 e38 => ?_)
  have O1_ := O1.chg e38 N1_4
  have O3_ := O3.chg e38 N3_4
  have O1 := O1_
  have O3 := O3_
  have hB := hB.chgb e38 (Or.inl L4)
  have O4 := P4
  refine ⟨_, (O4.at 0 rfl rfl), ?_⟩
  refine bcase_mk (fun hc81 => ?_) (fun hc81 => ?_)
  · have H := (bcase_iff.1 H).1 hc81
    obtain ⟨hp41, H⟩ := H
    obtain ⟨r39, hr40⟩ : ∃ r_, r_ = M.spec_l01Below (⟨s0.b, r29.2.i, r29.2.h⟩ : D.Cur) 6 := ⟨_, rfl⟩
    have H := H r39 hr40
    refine (spec_l01Below.con hp41 hr40 O1 (R0_0.chgS hB D0_0) hc0_0 (fun hx_ => (fun g h_ hS_ => D0_0 hx_ g h_ hS_))).mono ?_
    rintro _ w42 ⟨rfl, Q1, hq44, e43⟩
    rw [hq44] at Q1
    have O3 := O3.chgS e43 ((N1_3).symm)
    have O4 := O4.chgS e43 ((N1_4).symm)
    have hB := hB.chg e43 (fun g h_ => Or.inr h_)
    have O1 := Q1
    refine ⟨r39.1, rfl, ?_⟩
    refine stBlk O4 (o := 2) (cs' := #[(.int .i64 (IntKind.wrap .i64 (1 + r23.1))), (.int .i64 r29.1), (.int .i64 r39.1), (.int .i64 0)]) rfl rfl (Nat.le_of_ble_eq_true rfl) rfl (fun w45 P4 e46 => ?_)
    have O1_ := O1.chg e46 N1_4
    have O3_ := O3.chg e46 N3_4
    have O1 := O1_
    have O3 := O3_
    have hB := hB.chgb e46 (Or.inl L4)
    have O4 := P4
    refine ⟨_, (O4.at 0 rfl rfl), ?_⟩
    refine ⟨_, (O4.at 1 rfl rfl), ?_⟩
    refine ⟨_, (O4.at 2 rfl rfl), ?_⟩
    refine ⟨_, (O4.at 3 rfl rfl), ?_⟩
    refine stBlk O3 (o := 0) (cs' := #[(.int .i64 (IntKind.wrap .i64 (1 + r23.1))), (.int .i64 r29.1), (.int .i64 r39.1), (.int .i64 0)]) rfl rfl (Nat.le_of_ble_eq_true rfl) rfl (fun w47 P3 e48 => ?_)
    have O1_ := O1.chg e48 N1_3
    have O4_ := O4.chg e48 (N3_4).symm
    have O1 := O1_
    have O4 := O4_
    have hB := hB.chgb e48 (Or.inl L3)
    have O3 := P3
    refine ⟨_, (O3.at 0 rfl rfl), ?_⟩
    refine ⟨_, (O3.at 1 rfl rfl), ?_⟩
    refine ⟨_, (O3.at 2 rfl rfl), ?_⟩
    refine ⟨_, (O3.at 3 rfl rfl), ?_⟩
    obtain rfl := hr.trans H.symm
    exact ⟨rfl, O1, rfl, hB⟩
  have H := (bcase_iff.1 H).2 hc81
  refine bcase_mk (fun hc80 => ?_) (fun hc80 => ?_)
  · have H := (bcase_iff.1 H).1 hc80
    refine ⟨_, (O4.at 0 rfl rfl), ?_⟩
    refine ⟨_, (O4.at 1 rfl rfl), ?_⟩
    refine ⟨_, (O4.at 2 rfl rfl), ?_⟩
    refine ⟨_, (O4.at 3 rfl rfl), ?_⟩
    refine stBlk O3 (o := 0) (cs' := #[(.int .i64 (IntKind.wrap .i64 (1 + r23.1))), (.int .i64 r29.1), (.int .i64 0), (.int .i64 0)]) rfl rfl (Nat.le_of_ble_eq_true rfl) rfl (fun w49 P3 e50 => ?_)
    have O1_ := O1.chg e50 N1_3
    have O4_ := O4.chg e50 (N3_4).symm
    have O1 := O1_
    have O4 := O4_
    have hB := hB.chgb e50 (Or.inl L3)
    have O3 := P3
    refine ⟨_, (O3.at 0 rfl rfl), ?_⟩
    refine ⟨_, (O3.at 1 rfl rfl), ?_⟩
    refine ⟨_, (O3.at 2 rfl rfl), ?_⟩
    refine ⟨_, (O3.at 3 rfl rfl), ?_⟩
    obtain rfl := hr.trans H.symm
    exact ⟨rfl, O1, rfl, hB⟩
  have H := (bcase_iff.1 H).2 hc80
  refine bcase_mk (fun hc79 => ?_) (fun hc79 => ?_)
  · have H := (bcase_iff.1 H).1 hc79
    obtain ⟨hp53, H⟩ := H
    obtain ⟨r51, hr52⟩ : ∃ r_, r_ = M.spec_l01Below (⟨s0.b, r29.2.i, r29.2.h⟩ : D.Cur) 4 := ⟨_, rfl⟩
    have H := H r51 hr52
    refine (spec_l01Below.con hp53 hr52 O1 (R0_0.chgS hB D0_0) hc0_0 (fun hx_ => (fun g h_ hS_ => D0_0 hx_ g h_ hS_))).mono ?_
    rintro _ w54 ⟨rfl, Q1, hq56, e55⟩
    rw [hq56] at Q1
    have O3 := O3.chgS e55 ((N1_3).symm)
    have O4 := O4.chgS e55 ((N1_4).symm)
    have hB := hB.chg e55 (fun g h_ => Or.inr h_)
    have O1 := Q1
    refine ⟨r51.1, rfl, ?_⟩
    refine stBlk O4 (o := 2) (cs' := #[(.int .i64 (IntKind.wrap .i64 (1 + r23.1))), (.int .i64 r29.1), (.int .i64 r51.1), (.int .i64 0)]) rfl rfl (Nat.le_of_ble_eq_true rfl) rfl (fun w57 P4 e58 => ?_)
    have O1_ := O1.chg e58 N1_4
    have O3_ := O3.chg e58 N3_4
    have O1 := O1_
    have O3 := O3_
    have hB := hB.chgb e58 (Or.inl L4)
    have O4 := P4
    refine ⟨_, (O4.at 0 rfl rfl), ?_⟩
    refine ⟨_, (O4.at 1 rfl rfl), ?_⟩
    refine ⟨_, (O4.at 2 rfl rfl), ?_⟩
    refine ⟨_, (O4.at 3 rfl rfl), ?_⟩
    refine stBlk O3 (o := 0) (cs' := #[(.int .i64 (IntKind.wrap .i64 (1 + r23.1))), (.int .i64 r29.1), (.int .i64 r51.1), (.int .i64 0)]) rfl rfl (Nat.le_of_ble_eq_true rfl) rfl (fun w59 P3 e60 => ?_)
    have O1_ := O1.chg e60 N1_3
    have O4_ := O4.chg e60 (N3_4).symm
    have O1 := O1_
    have O4 := O4_
    have hB := hB.chgb e60 (Or.inl L3)
    have O3 := P3
    refine ⟨_, (O3.at 0 rfl rfl), ?_⟩
    refine ⟨_, (O3.at 1 rfl rfl), ?_⟩
    refine ⟨_, (O3.at 2 rfl rfl), ?_⟩
    refine ⟨_, (O3.at 3 rfl rfl), ?_⟩
    obtain rfl := hr.trans H.symm
    exact ⟨rfl, O1, rfl, hB⟩
  have H := (bcase_iff.1 H).2 hc79
  obtain ⟨hp63, H⟩ := H
  obtain ⟨r61, hr62⟩ : ∃ r_, r_ = M.spec_l01Below (⟨s0.b, r29.2.i, r29.2.h⟩ : D.Cur) 4 := ⟨_, rfl⟩
  have H := H r61 hr62
  refine (spec_l01Below.con hp63 hr62 O1 (R0_0.chgS hB D0_0) hc0_0 (fun hx_ => (fun g h_ hS_ => D0_0 hx_ g h_ hS_))).mono ?_
  rintro _ w64 ⟨rfl, Q1, hq66, e65⟩
  rw [hq66] at Q1
  have O3 := O3.chgS e65 ((N1_3).symm)
  have O4 := O4.chgS e65 ((N1_4).symm)
  have hB := hB.chg e65 (fun g h_ => Or.inr h_)
  have O1 := Q1
  refine ⟨r61.1, rfl, ?_⟩
  refine stBlk O4 (o := 2) (cs' := #[(.int .i64 (IntKind.wrap .i64 (1 + r23.1))), (.int .i64 r29.1), (.int .i64 r61.1), (.int .i64 0)]) rfl rfl (Nat.le_of_ble_eq_true rfl) rfl (fun w67 P4 e68 => ?_)
  have O1_ := O1.chg e68 N1_4
  have O3_ := O3.chg e68 N3_4
  have O1 := O1_
  have O3 := O3_
  have hB := hB.chgb e68 (Or.inl L4)
  have O4 := P4
  obtain ⟨hp71, H⟩ := H
  obtain ⟨r69, hr70⟩ : ∃ r_, r_ = M.spec_l01Below (⟨s0.b, r61.2.i, r61.2.h⟩ : D.Cur) 4 := ⟨_, rfl⟩
  have H := H r69 hr70
  refine (spec_l01Below.con hp71 hr70 O1 (R0_0.chgS hB D0_0) hc0_0 (fun hx_ => (fun g h_ hS_ => D0_0 hx_ g h_ hS_))).mono ?_
  rintro _ w72 ⟨rfl, Q1, hq74, e73⟩
  rw [hq74] at Q1
  have O3 := O3.chgS e73 ((N1_3).symm)
  have O4 := O4.chgS e73 ((N1_4).symm)
  have hB := hB.chg e73 (fun g h_ => Or.inr h_)
  have O1 := Q1
  refine ⟨r69.1, rfl, ?_⟩
  refine stBlk O4 (o := 3) (cs' := #[(.int .i64 (IntKind.wrap .i64 (1 + r23.1))), (.int .i64 r29.1), (.int .i64 r61.1), (.int .i64 r69.1)]) rfl rfl (Nat.le_of_ble_eq_true rfl) rfl (fun w75 P4 e76 => ?_)
  have O1_ := O1.chg e76 N1_4
  have O3_ := O3.chg e76 N3_4
  have O1 := O1_
  have O3 := O3_
  have hB := hB.chgb e76 (Or.inl L4)
  have O4 := P4
  refine ⟨_, (O4.at 0 rfl rfl), ?_⟩
  refine ⟨_, (O4.at 1 rfl rfl), ?_⟩
  refine ⟨_, (O4.at 2 rfl rfl), ?_⟩
  refine ⟨_, (O4.at 3 rfl rfl), ?_⟩
  refine stBlk O3 (o := 0) (cs' := #[(.int .i64 (IntKind.wrap .i64 (1 + r23.1))), (.int .i64 r29.1), (.int .i64 r61.1), (.int .i64 r69.1)]) rfl rfl (Nat.le_of_ble_eq_true rfl) rfl (fun w77 P3 e78 => ?_)
  have O1_ := O1.chg e78 N1_3
  have O4_ := O4.chg e78 (N3_4).symm
  have O1 := O1_
  have O4 := O4_
  have hB := hB.chgb e78 (Or.inl L3)
  have O3 := P3
  refine ⟨_, (O3.at 0 rfl rfl), ?_⟩
  refine ⟨_, (O3.at 1 rfl rfl), ?_⟩
  refine ⟨_, (O3.at 2 rfl rfl), ?_⟩
  refine ⟨_, (O3.at 3 rfl rfl), ?_⟩
  obtain rfl := hr.trans H.symm
  exact ⟨rfl, O1, rfl, hB⟩
def spec_l07Wild.vc (p0 : Addr) (w : World) (K : Value → World → Prop) : Prop :=
  Run Tryz.prog (Instr.buildSlice 34 0 #[]) w fun v21 w22 => ∃ (A23 : Option Addr) (n24 c25 : Nat), v21 = .slice A23 n24 c25 ∧ Cll Tryz.prog 131 #[(.pointer (some p0)), (.int .i64 9)] w22 fun v26 w27 => (∃ (n28 : Int), v26 = (.int .i64 n28) ∧ LoopT (σ := (Option Addr × Nat × Nat) × Int × Unit) (fun z29 w30 next31 => bcase (decide (z29.2.1 < n28)) (Cll Tryz.prog 131 #[(.pointer (some p0)), (.int .i64 6)] w30 fun v32 w33 => (∃ (n34 : Int), v32 = (.int .i64 n34) ∧ JoinT (σ := Bool × Unit) (fun J35 => bcase (n34 == 0) (J35 (true, ()) w33) (J35 ((n34 == 1), ()) w33)) fun z36 w37 => bcase z36.1 (Cll Tryz.prog 131 #[(.pointer (some p0)), (.int .i64 4)] w37 fun v38 w39 => (∃ (n40 : Int), v38 = (.int .i64 n40) ∧ Cll Tryz.prog 131 #[(.pointer (some p0)), (.int .i64 (IntKind.wrap .i64 (n28 + 1)))] w39 fun v41 w42 => (∃ (n43 : Int), v41 = (.int .i64 n43) ∧ Run Tryz.prog (Instr.buildSlice 34 1 #[(0, (.agg #[(.int .i64 10), (.int .i64 n40), (.int .i64 n43), (.int .i64 0)]))]) w42 fun v44 w45 => ∃ (A46 : Option Addr) (n47 c48 : Nat), v44 = .slice A46 n47 c48 ∧ Run Tryz.prog (Builtin.append_ #[34, 34] 34 #[(.slice z29.1.1 z29.1.2.1 z29.1.2.2), (.slice A46 n47 c48)]) w45 fun v49 w50 => ∃ (A51 : Option Addr) (n52 c53 : Nat), v49 = .slice A51 n52 c53 ∧ next31 ((A51, n52, c53), (IntKind.wrap .i64 (z29.2.1 + 1)), ()) w50))) (bcase (n34 == 2) (Cll Tryz.prog 131 #[(.pointer (some p0)), (.int .i64 (IntKind.wrap .i64 (n28 + 1)))] w37 fun v54 w55 => (∃ (n56 : Int), v54 = (.int .i64 n56) ∧ Run Tryz.prog (Instr.buildSlice 34 1 #[(0, (.agg #[(.int .i64 11), (.int .i64 0), (.int .i64 n56), (.int .i64 0)]))]) w55 fun v57 w58 => ∃ (A59 : Option Addr) (n60 c61 : Nat), v57 = .slice A59 n60 c61 ∧ Run Tryz.prog (Builtin.append_ #[34, 34] 34 #[(.slice z29.1.1 z29.1.2.1 z29.1.2.2), (.slice A59 n60 c61)]) w58 fun v62 w63 => ∃ (A64 : Option Addr) (n65 c66 : Nat), v62 = .slice A64 n65 c66 ∧ next31 ((A64, n65, c66), (IntKind.wrap .i64 (z29.2.1 + 1)), ()) w63)) (bcase (n34 == 3) (Run Tryz.prog (Instr.buildSlice 34 1 #[(0, (.agg #[(.int .i64 12), (.int .i64 0), (.int .i64 0), (.int .i64 0)]))]) w37 fun v67 w68 => ∃ (A69 : Option Addr) (n70 c71 : Nat), v67 = .slice A69 n70 c71 ∧ Run Tryz.prog (Builtin.append_ #[34, 34] 34 #[(.slice z29.1.1 z29.1.2.1 z29.1.2.2), (.slice A69 n70 c71)]) w68 fun v72 w73 => ∃ (A74 : Option Addr) (n75 c76 : Nat), v72 = .slice A74 n75 c76 ∧ next31 ((A74, n75, c76), (IntKind.wrap .i64 (z29.2.1 + 1)), ()) w73) (Cll Tryz.prog 221 #[(.pointer (some p0))] w37 fun v77 w78 => (∃ (n79 : Int), True ∧ ∃ (n80 : Int), True ∧ ∃ (n81 : Int), True ∧ ∃ (n82 : Int), True ∧ v77 = (.agg #[(.int .i64 n79), (.int .i64 n80), (.int .i64 n81), (.int .i64 n82)]) ∧ Run Tryz.prog (Instr.buildSlice 34 1 #[(0, (.agg #[(.int .i64 n79), (.int .i64 n80), (.int .i64 n81), (.int .i64 n82)]))]) w78 fun v83 w84 => ∃ (A85 : Option Addr) (n86 c87 : Nat), v83 = .slice A85 n86 c87 ∧ Run Tryz.prog (Builtin.append_ #[34, 34] 34 #[(.slice z29.1.1 z29.1.2.1 z29.1.2.2), (.slice A85 n86 c87)]) w84 fun v88 w89 => ∃ (A90 : Option Addr) (n91 c92 : Nat), v88 = .slice A90 n91 c92 ∧ next31 ((A90, n91, c92), (IntKind.wrap .i64 (z29.2.1 + 1)), ()) w89)))))) (K (.slice z29.1.1 z29.1.2.1 z29.1.2.2) w30)) ((A23, n24, c25), 0, ()) w27)

def spec_l07Wild.ann : Ann := (.seq .l (.seq .l (.seq .l (.seq (.seq .l (.one (.loop [(3, .sl), (5, .int .i64)] (.seq (.seq .l (.two .l .l)) (.seq (.one (.seq .l (.one (.cut [(21, .bool)] (.seq .l (.two .l .l)) (.two .l (.seq .l (.two .l (.seq .l (.two .l .l))))))))) .l))))) (.seq .l .l)))))

theorem spec_l07Wild.start {p0 : Addr} {w : World} {K : Value → World → Prop} (h : spec_l07Wild.vc p0 w K) : Cll Tryz.prog 189 #[(.pointer (some p0))] w K :=
  vcF_sound mixed (fn := Tryz.f189) (by kernel_rfl) (by kernel_rfl) (an := spec_l07Wild.ann) (args := [(.pointer (some p0))]) (Eq.mpr (by kernel_rfl) h)

theorem spec_l07Wild.con {s0 : D.Cur} {g1_ : Nat} {A0_0 : Option Addr} {c0_0 : Nat} {r : (List D.Ins) × D.Cur} {w : World} (hp : M.spec_l07Wild_pre s0) (hr : r = M.spec_l07Wild s0) (O1 : Blk w g1_ 170 #[(.slice A0_0 s0.b.length c0_0), (.int .i64 s0.i), (.int .i64 s0.h)]) (R0_0 : Row el5 w A0_0 s0.b) (hc0_0 : s0.b.length ≤ c0_0) (D0_0 : s0.b ≠ [] → ∀ g, InB A0_0 g → ¬ (fun k_ => k_ = g1_) g) :
    Cll Tryz.prog 189 #[(.pointer (some (⟨g1_, 0, none⟩ : Addr)))] w (fun v_ w_ => ∃ (A0_ : Option Addr) (c0_ : Nat), v_ = (.slice A0_ r.1.length c0_) ∧ Own el89 w_ w.heap.size A0_ c0_ r.1 ∧ Blk w_ g1_ 170 #[(.slice A0_0 r.2.b.length c0_0), (.int .i64 r.2.i), (.int .i64 r.2.h)] ∧ r.2.b = s0.b ∧ Chg (fun k_ => k_ = g1_) w w_) := by
  have H := wp.spec_l07Wild.math s0 hp
  have hB := Chg.refl (fun k_ => k_ = g1_) w
  refine spec_l07Wild.start ?_
  unfold spec_l07Wild.vc
  unfold wp.spec_l07Wild at H
  refine buildOwn el89 ([] : List D.Ins) (fun _ => by kernel_rfl) rfl (fun A21 w22 P3 e23 => ?_)
  have N3_1 := P3.apart_old O1.lt
  have O1 := O1.ext e23
  have O3 := P3.mono hB.size
  have hB := hB.then e23
  obtain ⟨hp26, H⟩ := H
  obtain ⟨r24, hr25⟩ : ∃ r_, r_ = M.spec_l01Below s0 9 := ⟨_, rfl⟩
  have H := H r24 hr25
  refine (spec_l01Below.con hp26 hr25 O1 (R0_0.chgS hB D0_0) hc0_0 (fun hx_ => (fun g h_ hS_ => D0_0 hx_ g h_ hS_))).mono ?_
  rintro _ w27 ⟨rfl, Q1, hq29, e28⟩
  rw [hq29] at Q1
  have O3 := O3.chgS e28 (box_inb N3_1)
  have hB := hB.chg e28 (fun g h_ => Or.inr h_)
  have O1 := Q1
  refine ⟨r24.1, rfl, ?_⟩
  obtain ⟨J77, ⟨m168, hJ167⟩, hS78⟩ := H
  refine ⟨fun m_ z_ w_ => ∃ (xs70 : List D.Ins) (i73 : Int) (i74 : Int) (i75 : Int) (A71 : Option Addr) (c72 : Nat), z_ = ((A71, xs70.length, c72), i73, ()) ∧ J77 m_ (xs70, i73, i74, i75, ()) ∧ Chg (fun k_ => k_ = g1_) w w_ ∧ Own el89 w_ w.heap.size A71 c72 xs70 ∧ Blk w_ g1_ 170 #[(.slice A0_0 s0.b.length c0_0), (.int .i64 i74), (.int .i64 i75)], ⟨m168, ([] : List D.Ins), 0, r24.2.i, r24.2.h, A21, 0, rfl, hJ167, hB, O3, O1⟩, ?_⟩
  rintro m76 _ w80 ⟨xs70, i73, i74, i75, A71, c72, rfl, hJ169, hB, O6, O1⟩
  have H := hS78 m76 _ hJ169
  clear hS78 hJ169
  try dsimp only at H ⊢
  refine bcase_mk (fun hc165 => ?_) (fun hc165 => ?_)
  · have H := (bcase_iff.1 H).1 hc165
    obtain ⟨hp83, H⟩ := H
    obtain ⟨r81, hr82⟩ : ∃ r_, r_ = M.spec_l01Below (⟨s0.b, i74, i75⟩ : D.Cur) 6 := ⟨_, rfl⟩
    have H := H r81 hr82
    refine (spec_l01Below.con hp83 hr82 O1 (R0_0.chgS hB D0_0) hc0_0 (fun hx_ => (fun g h_ hS_ => D0_0 hx_ g h_ hS_))).mono ?_
    rintro _ w84 ⟨rfl, Q1, hq86, e85⟩
    rw [hq86] at Q1
    have O6 := O6.chgS e85 (box_inb (O6.apart_type O1 (by decide)))
    have hB := hB.chg e85 (fun g h_ => Or.inr h_)
    have O1 := Q1
    refine ⟨r81.1, rfl, ?_⟩
    obtain ⟨K164, hKK164, H⟩ := joinP_out H
    refine ⟨fun z_ w_ => ∃ (b87 : Bool), z_ = (b87, ()) ∧ K164 (b87, ()) ∧ Chg (fun k_ => k_ = g1_) w w_ ∧ Blk w_ g1_ 170 #[(.slice A0_0 s0.b.length c0_0), (.int .i64 r81.2.i), (.int .i64 r81.2.h)] ∧ Own el89 w_ w.heap.size A71 c72 xs70, ?_, ?_⟩
    · refine bcase_mk (fun hc91 => ?_) (fun hc91 => ?_)
      · have H := (bcase_iff.1 H).1 hc91
        exact ⟨true, rfl, H, hB, O1, O6⟩
      have H := (bcase_iff.1 H).2 hc91
      exact ⟨(r81.1 == 1), rfl, H, hB, O1, O6⟩
    rintro _ w89 ⟨b87, rfl, H, hB, O1, O6⟩
    have H := hKK164 _ H
    try dsimp only at H ⊢
    refine bcase_mk (fun hc162 => ?_) (fun hc162 => ?_)
    · have H := (bcase_iff.1 H).1 hc162
      obtain ⟨hp94, H⟩ := H
      obtain ⟨r92, hr93⟩ : ∃ r_, r_ = M.spec_l01Below (⟨s0.b, r81.2.i, r81.2.h⟩ : D.Cur) 4 := ⟨_, rfl⟩
      have H := H r92 hr93
      refine (spec_l01Below.con hp94 hr93 O1 (R0_0.chgS hB D0_0) hc0_0 (fun hx_ => (fun g h_ hS_ => D0_0 hx_ g h_ hS_))).mono ?_
      rintro _ w95 ⟨rfl, Q1, hq97, e96⟩
      rw [hq97] at Q1
      have O6 := O6.chgS e96 (box_inb (O6.apart_type O1 (by decide)))
      have hB := hB.chg e96 (fun g h_ => Or.inr h_)
      have O1 := Q1
      refine ⟨r92.1, rfl, ?_⟩
      obtain ⟨hp100, H⟩ := H
      obtain ⟨r98, hr99⟩ : ∃ r_, r_ = M.spec_l01Below (⟨s0.b, r92.2.i, r92.2.h⟩ : D.Cur) (IntKind.wrap .i64 (r24.1 + 1)) := ⟨_, rfl⟩
      have H := H r98 hr99
      refine (spec_l01Below.con hp100 hr99 O1 (R0_0.chgS hB D0_0) hc0_0 (fun hx_ => (fun g h_ hS_ => D0_0 hx_ g h_ hS_))).mono ?_
      rintro _ w101 ⟨rfl, Q1, hq103, e102⟩
      rw [hq103] at Q1
      have O6 := O6.chgS e102 (box_inb (O6.apart_type O1 (by decide)))
      have hB := hB.chg e102 (fun g h_ => Or.inr h_)
      have O1 := Q1
      refine ⟨r98.1, rfl, ?_⟩
      refine buildOwn el89 ([(⟨10, r92.1, r98.1, 0⟩ : D.Ins)] : List D.Ins) (fun _ => by kernel_rfl) rfl (fun A104 w105 P7 e106 => ?_)
      have N7_1 := P7.apart_old O1.lt
      have N6_7 := Own.apart2_new O6 P7 (Nat.le_refl _)
      have O1 := O1.ext e106
      have O6 := O6.ext e106
      have O7 := P7.mono hB.size
      have hB := hB.then e106
      obtain ⟨hl111, H⟩ := H
      refine appOwn slt34 slt34.under O6 O7.row hB.size rfl (by first | rfl | omega | (simp; done) | (simp; omega)) hl111 (fun A107 c108 w109 P6 e110 => ?_)
      have N6_1_ := Apart.app (O6.apart_type O1 (by decide)) e110 O1.lt
      have O1 := O1.app e110 (O6.apart_type O1 (by decide))
      have N7_6_ := Apart2.app (N6_7).symm e110 O7
      have O7 := O7.app e110 (N6_7).symm
      have N6_1 := N6_1_
      have N7_6 := N7_6_
      have hB := hB.app e110 (fun g h_ => Or.inl (O6.low g h_))
      have O6 := P6
      obtain ⟨m112, hm113, hJ114⟩ := H
      exact ⟨m112, hm113, (xs70 ++ ([(⟨10, r92.1, r98.1, 0⟩ : D.Ins)] : List D.Ins)), (IntKind.wrap .i64 (i73 + 1)), r98.2.i, r98.2.h, A107, c108, rfl, hJ114, hB, O6, O1⟩
    have H := (bcase_iff.1 H).2 hc162
    refine bcase_mk (fun hc161 => ?_) (fun hc161 => ?_)
    · have H := (bcase_iff.1 H).1 hc161
      obtain ⟨hp117, H⟩ := H
      obtain ⟨r115, hr116⟩ : ∃ r_, r_ = M.spec_l01Below (⟨s0.b, r81.2.i, r81.2.h⟩ : D.Cur) (IntKind.wrap .i64 (r24.1 + 1)) := ⟨_, rfl⟩
      have H := H r115 hr116
      refine (spec_l01Below.con hp117 hr116 O1 (R0_0.chgS hB D0_0) hc0_0 (fun hx_ => (fun g h_ hS_ => D0_0 hx_ g h_ hS_))).mono ?_
      rintro _ w118 ⟨rfl, Q1, hq120, e119⟩
      rw [hq120] at Q1
      have O6 := O6.chgS e119 (box_inb (O6.apart_type O1 (by decide)))
      have hB := hB.chg e119 (fun g h_ => Or.inr h_)
      have O1 := Q1
      refine ⟨r115.1, rfl, ?_⟩
      refine buildOwn el89 ([(⟨11, 0, r115.1, 0⟩ : D.Ins)] : List D.Ins) (fun _ => by kernel_rfl) rfl (fun A121 w122 P8 e123 => ?_)
      have N8_1 := P8.apart_old O1.lt
      have N6_8 := Own.apart2_new O6 P8 (Nat.le_refl _)
      have O1 := O1.ext e123
      have O6 := O6.ext e123
      have O8 := P8.mono hB.size
      have hB := hB.then e123
      obtain ⟨hl128, H⟩ := H
      refine appOwn slt34 slt34.under O6 O8.row hB.size rfl (by first | rfl | omega | (simp; done) | (simp; omega)) hl128 (fun A124 c125 w126 P6 e127 => ?_)
      have N6_1_ := Apart.app (O6.apart_type O1 (by decide)) e127 O1.lt
      have O1 := O1.app e127 (O6.apart_type O1 (by decide))
      have N8_6_ := Apart2.app (N6_8).symm e127 O8
      have O8 := O8.app e127 (N6_8).symm
      have N6_1 := N6_1_
      have N8_6 := N8_6_
      have hB := hB.app e127 (fun g h_ => Or.inl (O6.low g h_))
      have O6 := P6
      obtain ⟨m129, hm130, hJ131⟩ := H
      exact ⟨m129, hm130, (xs70 ++ ([(⟨11, 0, r115.1, 0⟩ : D.Ins)] : List D.Ins)), (IntKind.wrap .i64 (i73 + 1)), r115.2.i, r115.2.h, A124, c125, rfl, hJ131, hB, O6, O1⟩
    have H := (bcase_iff.1 H).2 hc161
    refine bcase_mk (fun hc160 => ?_) (fun hc160 => ?_)
    · have H := (bcase_iff.1 H).1 hc160
      refine buildOwn el89 ([(⟨12, 0, 0, 0⟩ : D.Ins)] : List D.Ins) (fun _ => by kernel_rfl) rfl (fun A132 w133 P9 e134 => ?_)
      have N9_1 := P9.apart_old O1.lt
      have N6_9 := Own.apart2_new O6 P9 (Nat.le_refl _)
      have O1 := O1.ext e134
      have O6 := O6.ext e134
      have O9 := P9.mono hB.size
      have hB := hB.then e134
      obtain ⟨hl139, H⟩ := H
      refine appOwn slt34 slt34.under O6 O9.row hB.size rfl (by first | rfl | omega | (simp; done) | (simp; omega)) hl139 (fun A135 c136 w137 P6 e138 => ?_)
      have N6_1_ := Apart.app (O6.apart_type O1 (by decide)) e138 O1.lt
      have O1 := O1.app e138 (O6.apart_type O1 (by decide))
      have N9_6_ := Apart2.app (N6_9).symm e138 O9
      have O9 := O9.app e138 (N6_9).symm
      have N6_1 := N6_1_
      have N9_6 := N9_6_
      have hB := hB.app e138 (fun g h_ => Or.inl (O6.low g h_))
      have O6 := P6
      obtain ⟨m140, hm141, hJ142⟩ := H
      exact ⟨m140, hm141, (xs70 ++ ([(⟨12, 0, 0, 0⟩ : D.Ins)] : List D.Ins)), (IntKind.wrap .i64 (i73 + 1)), r81.2.i, r81.2.h, A135, c136, rfl, hJ142, hB, O6, O1⟩
    have H := (bcase_iff.1 H).2 hc160
    obtain ⟨hp145, H⟩ := H
    obtain ⟨r143, hr144⟩ : ∃ r_, r_ = M.spec_l04Plain (⟨s0.b, r81.2.i, r81.2.h⟩ : D.Cur) := ⟨_, rfl⟩
    have H := H r143 hr144
    refine (spec_l04Plain.con hp145 hr144 O1 (R0_0.chgS hB D0_0) hc0_0 (fun hx_ => (fun g h_ hS_ => D0_0 hx_ g h_ hS_))).mono ?_
    rintro _ w146 ⟨rfl, Q1, hq148, e147⟩
    rw [hq148] at Q1
    have O6 := O6.chgS e147 (box_inb (O6.apart_type O1 (by decide)))
    have hB := hB.chg e147 (fun g h_ => Or.inr h_)
    have O1 := Q1
    refine ⟨r143.1.Op, trivial, ?_⟩
    refine ⟨r143.1.A, trivial, ?_⟩
    refine ⟨r143.1.B, trivial, ?_⟩
    refine ⟨r143.1.C, trivial, ?_⟩
    refine ⟨rfl, ?_⟩
    refine buildOwn el89 ([r143.1] : List D.Ins) (fun _ => by kernel_rfl) rfl (fun A149 w150 P10 e151 => ?_)
    have N10_1 := P10.apart_old O1.lt
    have N6_10 := Own.apart2_new O6 P10 (Nat.le_refl _)
    have O1 := O1.ext e151
    have O6 := O6.ext e151
    have O10 := P10.mono hB.size
    have hB := hB.then e151
    obtain ⟨hl156, H⟩ := H
    refine appOwn slt34 slt34.under O6 O10.row hB.size rfl (by first | rfl | omega | (simp; done) | (simp; omega)) hl156 (fun A152 c153 w154 P6 e155 => ?_)
    have N6_1_ := Apart.app (O6.apart_type O1 (by decide)) e155 O1.lt
    have O1 := O1.app e155 (O6.apart_type O1 (by decide))
    have N10_6_ := Apart2.app (N6_10).symm e155 O10
    have O10 := O10.app e155 (N6_10).symm
    have N6_1 := N6_1_
    have N10_6 := N10_6_
    have hB := hB.app e155 (fun g h_ => Or.inl (O6.low g h_))
    have O6 := P6
    obtain ⟨m157, hm158, hJ159⟩ := H
    exact ⟨m157, hm158, (xs70 ++ ([r143.1] : List D.Ins)), (IntKind.wrap .i64 (i73 + 1)), r143.2.i, r143.2.h, A152, c153, rfl, hJ159, hB, O6, O1⟩
  have H := (bcase_iff.1 H).2 hc165
  obtain rfl := hr.trans H.symm
  exact ⟨A71, c72, rfl, O6, O1, rfl, hB⟩
def spec_l02Word.vc (p0 : Addr) (w : World) (K : Value → World → Prop) : Prop :=
  Cll Tryz.prog 131 #[(.pointer (some p0)), (.int .i64 9)] w fun v21 w22 => (∃ (n23 : Int), v21 = (.int .i64 n23) ∧ Cll Tryz.prog 131 #[(.pointer (some p0)), (.int .i64 9000)] w22 fun v24 w25 => (∃ (n26 : Int), v24 = (.int .i64 n26) ∧ Run Tryz.prog (Instr.buildSlice 24 9 #[(0, (.int .i64 0)), (1, (.int .i64 1)), (2, (.int .i64 2)), (3, (.int .i64 7)), (4, (.int .i64 100)), (5, (.int .i64 65535)), (6, (.int .i64 32768)), (7, (.int .i64 n23)), (8, (.int .i64 n26))]) w25 fun v27 w28 => ∃ (A29 : Option Addr) (n30 c31 : Nat), v27 = .slice A29 n30 c31 ∧ Cll Tryz.prog 263 #[(.pointer (some p0)), (.slice A29 n30 c31)] w28 fun v32 w33 => (∃ (n34 : Int), v32 = (.int .i64 n34) ∧ K (.int .i64 n34) w33)))

def spec_l02Word.ann : Ann := (.seq .l (.seq .l .l))

theorem spec_l02Word.start {p0 : Addr} {w : World} {K : Value → World → Prop} (h : spec_l02Word.vc p0 w K) : Cll Tryz.prog 222 #[(.pointer (some p0))] w K :=
  vcF_sound mixed (fn := Tryz.f222) (by kernel_rfl) (by kernel_rfl) (an := spec_l02Word.ann) (args := [(.pointer (some p0))]) (Eq.mpr (by kernel_rfl) h)

theorem spec_l02Word.con {s0 : D.Cur} {g1_ : Nat} {A0_0 : Option Addr} {c0_0 : Nat} {r : Int × D.Cur} {w : World} (hp : M.spec_l02Word_pre s0) (hr : r = M.spec_l02Word s0) (O1 : Blk w g1_ 170 #[(.slice A0_0 s0.b.length c0_0), (.int .i64 s0.i), (.int .i64 s0.h)]) (R0_0 : Row el5 w A0_0 s0.b) (hc0_0 : s0.b.length ≤ c0_0) (D0_0 : s0.b ≠ [] → ∀ g, InB A0_0 g → ¬ (fun k_ => k_ = g1_) g) :
    Cll Tryz.prog 222 #[(.pointer (some (⟨g1_, 0, none⟩ : Addr)))] w (fun v_ w_ => v_ = (.int .i64 r.1) ∧ Blk w_ g1_ 170 #[(.slice A0_0 r.2.b.length c0_0), (.int .i64 r.2.i), (.int .i64 r.2.h)] ∧ r.2.b = s0.b ∧ Chg (fun k_ => k_ = g1_) w w_) := by
  have H := wp.spec_l02Word.math s0 hp
  have hB := Chg.refl (fun k_ => k_ = g1_) w
  refine spec_l02Word.start ?_
  unfold spec_l02Word.vc
  unfold wp.spec_l02Word at H
  obtain ⟨hp23, H⟩ := H
  obtain ⟨r21, hr22⟩ : ∃ r_, r_ = M.spec_l01Below s0 9 := ⟨_, rfl⟩
  have H := H r21 hr22
  refine (spec_l01Below.con hp23 hr22 O1 (R0_0.chgS hB D0_0) hc0_0 (fun hx_ => (fun g h_ hS_ => D0_0 hx_ g h_ hS_))).mono ?_
  rintro _ w24 ⟨rfl, Q1, hq26, e25⟩
  rw [hq26] at Q1
  have hB := hB.chg e25 (fun g h_ => Or.inr h_)
  have O1 := Q1
  refine ⟨r21.1, rfl, ?_⟩
  obtain ⟨hp29, H⟩ := H
  obtain ⟨r27, hr28⟩ : ∃ r_, r_ = M.spec_l01Below (⟨s0.b, r21.2.i, r21.2.h⟩ : D.Cur) 9000 := ⟨_, rfl⟩
  have H := H r27 hr28
  refine (spec_l01Below.con hp29 hr28 O1 (R0_0.chgS hB D0_0) hc0_0 (fun hx_ => (fun g h_ hS_ => D0_0 hx_ g h_ hS_))).mono ?_
  rintro _ w30 ⟨rfl, Q1, hq32, e31⟩
  rw [hq32] at Q1
  have hB := hB.chg e31 (fun g h_ => Or.inr h_)
  have O1 := Q1
  refine ⟨r27.1, rfl, ?_⟩
  refine buildOwn el3 ([0, 1, 2, 7, 100, 65535, 32768, r21.1, r27.1] : List Int) (fun _ => by kernel_rfl) rfl (fun A33 w34 P3 e35 => ?_)
  have N3_1 := P3.apart_old O1.lt
  have O1 := O1.ext e35
  have O3 := P3.mono hB.size
  have hB := hB.then e35
  obtain ⟨hp38, H⟩ := H
  obtain ⟨r36, hr37⟩ : ∃ r_, r_ = M.spec_l01PickInt (⟨s0.b, r27.2.i, r27.2.h⟩ : D.Cur) ([0, 1, 2, 7, 100, 65535, 32768, r21.1, r27.1] : List Int) := ⟨_, rfl⟩
  have H := H r36 hr37
  refine (cllArgs (by first | (simp only [List.length_set]; done) | (simp; done)) (spec_l01PickInt.con hp38 hr37 O1 (R0_0.chgS hB D0_0) hc0_0 O3.row O3.le (fun hx_ => (fun g h_ hS_ => D0_0 hx_ g h_ hS_)) (fun _ => (box_inb N3_1)))).mono ?_
  rintro _ w39 ⟨rfl, Q1, hq41, e40⟩
  rw [hq41] at Q1
  have O3 := O3.chgS e40 (box_inb N3_1)
  have hB := hB.chg e40 (fun g h_ => Or.inr h_)
  have O1 := Q1
  refine ⟨r36.1, rfl, ?_⟩
  obtain rfl := hr.trans H.symm
  exact ⟨rfl, O1, rfl, hB⟩
def spec_l02Words.vc (p0 : Addr) (x1 : Int) (w : World) (K : Value → World → Prop) : Prop :=
  Run Tryz.prog (Instr.buildSlice 24 0 #[]) w fun v21 w22 => ∃ (A23 : Option Addr) (n24 c25 : Nat), v21 = .slice A23 n24 c25 ∧ LoopT (σ := (Option Addr × Nat × Nat) × Int × Unit) (fun z26 w27 next28 => bcase (decide (z26.2.1 < x1)) (Cll Tryz.prog 222 #[(.pointer (some p0))] w27 fun v29 w30 => (∃ (n31 : Int), v29 = (.int .i64 n31) ∧ Run Tryz.prog (Instr.buildSlice 24 1 #[(0, (.int .i64 n31))]) w30 fun v32 w33 => ∃ (A34 : Option Addr) (n35 c36 : Nat), v32 = .slice A34 n35 c36 ∧ Run Tryz.prog (Builtin.append_ #[24, 24] 24 #[(.slice z26.1.1 z26.1.2.1 z26.1.2.2), (.slice A34 n35 c36)]) w33 fun v37 w38 => ∃ (A39 : Option Addr) (n40 c41 : Nat), v37 = .slice A39 n40 c41 ∧ next28 ((A39, n40, c41), (IntKind.wrap .i64 (z26.2.1 + 1)), ()) w38)) (K (.slice z26.1.1 z26.1.2.1 z26.1.2.2) w27)) ((A23, n24, c25), 0, ()) w22

def spec_l02Words.ann : Ann := (.seq .l (.seq .l (.seq (.seq .l (.one (.loop [(5, .sl), (6, .int .i64)] (.seq (.seq .l (.two .l .l)) (.seq (.one .l) .l))))) (.seq .l .l))))

theorem spec_l02Words.start {p0 : Addr} {x1 : Int} {w : World} {K : Value → World → Prop} (h : spec_l02Words.vc p0 x1 w K) : Cll Tryz.prog 190 #[(.pointer (some p0)), (.int .i64 x1)] w K :=
  vcF_sound mixed (fn := Tryz.f190) (by kernel_rfl) (by kernel_rfl) (an := spec_l02Words.ann) (args := [(.pointer (some p0)), (.int .i64 x1)]) (Eq.mpr (by kernel_rfl) h)

theorem spec_l02Words.con {s0 : D.Cur} {g1_ : Nat} {A0_0 : Option Addr} {c0_0 : Nat} {x1 : Int} {r : (List Int) × D.Cur} {w : World} (hp : M.spec_l02Words_pre s0 x1) (hr : r = M.spec_l02Words s0 x1) (O1 : Blk w g1_ 170 #[(.slice A0_0 s0.b.length c0_0), (.int .i64 s0.i), (.int .i64 s0.h)]) (R0_0 : Row el5 w A0_0 s0.b) (hc0_0 : s0.b.length ≤ c0_0) (D0_0 : s0.b ≠ [] → ∀ g, InB A0_0 g → ¬ (fun k_ => k_ = g1_) g) :
    Cll Tryz.prog 190 #[(.pointer (some (⟨g1_, 0, none⟩ : Addr))), (.int .i64 x1)] w (fun v_ w_ => ∃ (A0_ : Option Addr) (c0_ : Nat), v_ = (.slice A0_ r.1.length c0_) ∧ Own el3 w_ w.heap.size A0_ c0_ r.1 ∧ Blk w_ g1_ 170 #[(.slice A0_0 r.2.b.length c0_0), (.int .i64 r.2.i), (.int .i64 r.2.h)] ∧ r.2.b = s0.b ∧ Chg (fun k_ => k_ = g1_) w w_) := by
  have H := wp.spec_l02Words.math s0 x1 hp
  have hB := Chg.refl (fun k_ => k_ = g1_) w
  refine spec_l02Words.start ?_
  unfold spec_l02Words.vc
  unfold wp.spec_l02Words at H
  refine buildOwn el3 ([] : List Int) (fun _ => by kernel_rfl) rfl (fun A21 w22 P3 e23 => ?_)
  have N3_1 := P3.apart_old O1.lt
  have O1 := O1.ext e23
  have O3 := P3.mono hB.size
  have hB := hB.then e23
  obtain ⟨J54, ⟨m78, hJ77⟩, hS55⟩ := H
  refine ⟨fun m_ z_ w_ => ∃ (xs47 : List Int) (i50 : Int) (i51 : Int) (i52 : Int) (A48 : Option Addr) (c49 : Nat), z_ = ((A48, xs47.length, c49), i50, ()) ∧ J54 m_ (xs47, i50, i51, i52, ()) ∧ Chg (fun k_ => k_ = g1_) w w_ ∧ Own el3 w_ w.heap.size A48 c49 xs47 ∧ Blk w_ g1_ 170 #[(.slice A0_0 s0.b.length c0_0), (.int .i64 i51), (.int .i64 i52)], ⟨m78, ([] : List Int), 0, s0.i, s0.h, A21, 0, rfl, hJ77, hB, O3, O1⟩, ?_⟩
  rintro m53 _ w57 ⟨xs47, i50, i51, i52, A48, c49, rfl, hJ79, hB, O6, O1⟩
  have H := hS55 m53 _ hJ79
  clear hS55 hJ79
  try dsimp only at H ⊢
  refine bcase_mk (fun hc75 => ?_) (fun hc75 => ?_)
  · have H := (bcase_iff.1 H).1 hc75
    obtain ⟨hp60, H⟩ := H
    obtain ⟨r58, hr59⟩ : ∃ r_, r_ = M.spec_l02Word (⟨s0.b, i51, i52⟩ : D.Cur) := ⟨_, rfl⟩
    have H := H r58 hr59
    refine (spec_l02Word.con hp60 hr59 O1 (R0_0.chgS hB D0_0) hc0_0 (fun hx_ => (fun g h_ hS_ => D0_0 hx_ g h_ hS_))).mono ?_
    rintro _ w61 ⟨rfl, Q1, hq63, e62⟩
    rw [hq63] at Q1
    have O6 := O6.chgS e62 (box_inb (O6.apart_type O1 (by decide)))
    have hB := hB.chg e62 (fun g h_ => Or.inr h_)
    have O1 := Q1
    refine ⟨r58.1, rfl, ?_⟩
    refine buildOwn el3 ([r58.1] : List Int) (fun _ => by kernel_rfl) rfl (fun A64 w65 P7 e66 => ?_)
    have N7_1 := P7.apart_old O1.lt
    have N6_7 := Own.apart2_new O6 P7 (Nat.le_refl _)
    have O1 := O1.ext e66
    have O6 := O6.ext e66
    have O7 := P7.mono hB.size
    have hB := hB.then e66
    obtain ⟨hl71, H⟩ := H
    refine appOwn slt24 slt24.under O6 O7.row hB.size rfl (by first | rfl | omega | (simp; done) | (simp; omega)) hl71 (fun A67 c68 w69 P6 e70 => ?_)
    have N6_1_ := Apart.app (O6.apart_type O1 (by decide)) e70 O1.lt
    have O1 := O1.app e70 (O6.apart_type O1 (by decide))
    have N7_6_ := Apart2.app (N6_7).symm e70 O7
    have O7 := O7.app e70 (N6_7).symm
    have N6_1 := N6_1_
    have N7_6 := N7_6_
    have hB := hB.app e70 (fun g h_ => Or.inl (O6.low g h_))
    have O6 := P6
    obtain ⟨m72, hm73, hJ74⟩ := H
    exact ⟨m72, hm73, (xs47 ++ ([r58.1] : List Int)), (IntKind.wrap .i64 (i50 + 1)), r58.2.i, r58.2.h, A67, c68, rfl, hJ74, hB, O6, O1⟩
  have H := (bcase_iff.1 H).2 hc75
  obtain rfl := hr.trans H.symm
  exact ⟨A48, c49, rfl, O6, O1, rfl, hB⟩
def spec_DrawPlaces.vc (A0 : Option Addr) (n0 : Nat) (c0 : Nat) (w : World) (K : Value → World → Prop) : Prop :=
  Cll Tryz.prog 130 #[(.slice A0 n0 c0)] w fun v21 w22 => (∃ (p23 : Addr), v21 = (.pointer (some p23)) ∧ Run Tryz.prog (Instr.buildSlice 24 0 #[]) w22 fun v24 w25 => ∃ (A26 : Option Addr) (n27 c28 : Nat), v24 = .slice A26 n27 c28 ∧ LoopT (σ := (Option Addr × Nat × Nat) × Int × Unit) (fun z29 w30 next31 => bcase (decide (z29.2.1 < 12)) (Cll Tryz.prog 131 #[(.pointer (some p23)), (.int .i64 10000)] w30 fun v32 w33 => (∃ (n34 : Int), v32 = (.int .i64 n34) ∧ Run Tryz.prog (Instr.buildSlice 24 1 #[(0, (.int .i64 n34))]) w33 fun v35 w36 => ∃ (A37 : Option Addr) (n38 c39 : Nat), v35 = .slice A37 n38 c39 ∧ Run Tryz.prog (Builtin.append_ #[24, 24] 24 #[(.slice z29.1.1 z29.1.2.1 z29.1.2.2), (.slice A37 n38 c39)]) w36 fun v40 w41 => ∃ (A42 : Option Addr) (n43 c44 : Nat), v40 = .slice A42 n43 c44 ∧ next31 ((A42, n43, c44), (IntKind.wrap .i64 (z29.2.1 + 1)), ()) w41)) (K (.slice z29.1.1 z29.1.2.1 z29.1.2.2) w30)) ((A26, n27, c28), 0, ()) w25)

def spec_DrawPlaces.ann : Ann := (.seq .l (.seq .l (.seq .l (.seq (.seq .l (.one (.loop [(4, .sl), (5, .int .i64)] (.seq (.seq .l (.two .l .l)) (.seq (.one .l) .l))))) (.seq .l .l)))))

theorem spec_DrawPlaces.start {A0 : Option Addr} {n0 : Nat} {c0 : Nat} {w : World} {K : Value → World → Prop} (h : spec_DrawPlaces.vc A0 n0 c0 w K) : Cll Tryz.prog 61 #[(.slice A0 n0 c0)] w K :=
  vcF_sound mixed (fn := Tryz.f61) (by kernel_rfl) (by kernel_rfl) (an := spec_DrawPlaces.ann) (args := [(.slice A0 n0 c0)]) (Eq.mpr (by kernel_rfl) h)

theorem spec_DrawPlaces.con {xs0 : List Int} {A0 : Option Addr} {c0 : Nat} {r : List Int} {w : World} (hp : M.spec_DrawPlaces_pre xs0) (hr : r = M.spec_DrawPlaces xs0) (R0 : Row el5 w A0 xs0) (hc0 : xs0.length ≤ c0) :
    Cll Tryz.prog 61 #[(.slice A0 xs0.length c0)] w (fun v_ w_ => ∃ (A0_ : Option Addr) (c0_ : Nat), v_ = (.slice A0_ r.length c0_) ∧ Own el3 w_ w.heap.size A0_ c0_ r ∧ Ext w w_) := by
  have H := wp.spec_DrawPlaces.math xs0 hp
  have hB := Ext.refl w
  refine spec_DrawPlaces.start ?_
  unfold spec_DrawPlaces.vc
  unfold wp.spec_DrawPlaces at H
  obtain ⟨hp23, H⟩ := H
  obtain ⟨r21, hr22⟩ : ∃ r_, r_ = M.spec_l01New xs0 := ⟨_, rfl⟩
  have H := H r21 hr22
  refine (spec_l01New.con hp23 hr22 (R0.ext hB) hc0).mono ?_
  rintro _ w24 ⟨g2_, rfl, P2, hq26, L2, e25⟩
  rw [hq26] at P2
  have L2 := Nat.le_trans hB.size L2
  have O2 := P2
  have hB := ethen hB e25
  refine ⟨(⟨g2_, 0, none⟩ : Addr), rfl, ?_⟩
  refine buildOwn el3 ([] : List Int) (fun _ => by kernel_rfl) rfl (fun A27 w28 P3 e29 => ?_)
  have N3_2 := P3.apart_old O2.lt
  have O2 := O2.ext e29
  have O3 := P3.mono hB.size
  have hB := ethen hB e29
  obtain ⟨J60, ⟨m84, hJ83⟩, hS61⟩ := H
  refine ⟨fun m_ z_ w_ => ∃ (xs53 : List Int) (i56 : Int) (i57 : Int) (i58 : Int) (A54 : Option Addr) (c55 : Nat), z_ = ((A54, xs53.length, c55), i56, ()) ∧ J60 m_ (xs53, i56, i57, i58, ()) ∧ Ext w w_ ∧ Own el3 w_ w.heap.size A54 c55 xs53 ∧ Blk w_ g2_ 170 #[(.slice A0 xs0.length c0), (.int .i64 i57), (.int .i64 i58)], ⟨m84, ([] : List Int), 0, r21.i, r21.h, A27, 0, rfl, hJ83, hB, O3, O2⟩, ?_⟩
  rintro m59 _ w63 ⟨xs53, i56, i57, i58, A54, c55, rfl, hJ85, hB, O6, O2⟩
  have H := hS61 m59 _ hJ85
  clear hS61 hJ85
  try dsimp only at H ⊢
  refine bcase_mk (fun hc81 => ?_) (fun hc81 => ?_)
  · have H := (bcase_iff.1 H).1 hc81
    obtain ⟨hp66, H⟩ := H
    obtain ⟨r64, hr65⟩ : ∃ r_, r_ = M.spec_l01Below (⟨xs0, i57, i58⟩ : D.Cur) 10000 := ⟨_, rfl⟩
    have H := H r64 hr65
    refine (spec_l01Below.con hp66 hr65 O2 (R0.ext hB) hc0 (fun hx_ => (fun g h_ hS_ => Nat.not_le.2 (R0.old hx_ g h_) (box_low L2 _ hS_)))).mono ?_
    rintro _ w67 ⟨rfl, Q2, hq69, e68⟩
    rw [hq69] at Q2
    have O6 := O6.chgS e68 (box_inb (O6.apart_type O2 (by decide)))
    have hB := Chg.ext hB e68 (box_low L2)
    have O2 := Q2
    refine ⟨r64.1, rfl, ?_⟩
    refine buildOwn el3 ([r64.1] : List Int) (fun _ => by kernel_rfl) rfl (fun A70 w71 P7 e72 => ?_)
    have N7_2 := P7.apart_old O2.lt
    have N6_7 := Own.apart2_new O6 P7 (Nat.le_refl _)
    have O2 := O2.ext e72
    have O6 := O6.ext e72
    have O7 := P7.mono hB.size
    have hB := ethen hB e72
    obtain ⟨hl77, H⟩ := H
    refine appOwn slt24 slt24.under O6 O7.row hB.size rfl (by first | rfl | omega | (simp; done) | (simp; omega)) hl77 (fun A73 c74 w75 P6 e76 => ?_)
    have N6_2_ := Apart.app (O6.apart_type O2 (by decide)) e76 O2.lt
    have O2 := O2.app e76 (O6.apart_type O2 (by decide))
    have N7_6_ := Apart2.app (N6_7).symm e76 O7
    have O7 := O7.app e76 (N6_7).symm
    have N6_2 := N6_2_
    have N7_6 := N7_6_
    have hB := eapp hB e76 O6
    have O6 := P6
    obtain ⟨m78, hm79, hJ80⟩ := H
    exact ⟨m78, hm79, (xs53 ++ ([r64.1] : List Int)), (IntKind.wrap .i64 (i56 + 1)), r64.2.i, r64.2.h, A73, c74, rfl, hJ80, hB, O6, O2⟩
  have H := (bcase_iff.1 H).2 hc81
  obtain rfl := hr.trans H.symm
  exact ⟨A54, c55, rfl, O6, hB⟩
def laws_big.vc (A0 : Option Addr) (n0 : Nat) (c0 : Nat) (w : World) (K : Value → World → Prop) : Prop :=
  K (.bool (decide (((n0 : Nat) : Int) > 1048576))) w

def laws_big.ann : Ann := (.seq .l (.seq .l .l))

theorem laws_big.start {A0 : Option Addr} {n0 : Nat} {c0 : Nat} {w : World} {K : Value → World → Prop} (h : laws_big.vc A0 n0 c0 w K) : Cll Tryz.prog 59 #[(.slice A0 n0 c0)] w K :=
  vcF_sound mixed (fn := Tryz.f59) (by kernel_rfl) (by kernel_rfl) (an := laws_big.ann) (args := [(.slice A0 n0 c0)]) (Eq.mpr (by kernel_rfl) h)

theorem laws_big.con {xs0 : List Int} {A0 : Option Addr} {c0 : Nat} {r : Bool} {w : World} (hr : r = M.laws_big xs0) (R0 : Row el5 w A0 xs0) (hc0 : xs0.length ≤ c0) :
    Cll Tryz.prog 59 #[(.slice A0 xs0.length c0)] w (fun v_ w_ => v_ = (.bool r) ∧ Ext w w_) := by
  have H := wp.laws_big.math xs0
  have hB := Ext.refl w
  refine laws_big.start ?_
  unfold laws_big.vc
  unfold wp.laws_big at H
  obtain rfl := hr.trans H.symm
  exact ⟨rfl, hB⟩
def impl_areAllRegs.vc (A0 : Option Addr) (n0 : Nat) (c0 : Nat) (w : World) (K : Value → World → Prop) : Prop :=
  K (.bool (((n0 : Nat) : Int) == 32)) w

def impl_areAllRegs.ann : Ann := (.seq .l (.seq .l .l))

theorem impl_areAllRegs.start {A0 : Option Addr} {n0 : Nat} {c0 : Nat} {w : World} {K : Value → World → Prop} (h : impl_areAllRegs.vc A0 n0 c0 w K) : Cll Tryz.prog 197 #[(.slice A0 n0 c0)] w K :=
  vcF_sound mixed (fn := Tryz.f197) (by kernel_rfl) (by kernel_rfl) (an := impl_areAllRegs.ann) (args := [(.slice A0 n0 c0)]) (Eq.mpr (by kernel_rfl) h)

theorem impl_areAllRegs.con {xs0 : List Int} {A0 : Option Addr} {c0 : Nat} {r : Bool} {w : World} (hr : r = M.impl_areAllRegs xs0) (R0 : Row el3 w A0 xs0) (hc0 : xs0.length ≤ c0) :
    Cll Tryz.prog 197 #[(.slice A0 xs0.length c0)] w (fun v_ w_ => v_ = (.bool r) ∧ Ext w w_) := by
  have H := wp.impl_areAllRegs.math xs0
  have hB := Ext.refl w
  refine impl_areAllRegs.start ?_
  unfold impl_areAllRegs.vc
  unfold wp.impl_areAllRegs at H
  obtain rfl := hr.trans H.symm
  exact ⟨rfl, hB⟩
def impl_areFrames.vc (A0 : Option Addr) (n0 : Nat) (c0 : Nat) (x1 : Int) (w : World) (K : Value → World → Prop) : Prop :=
  LoopT (σ := Int × Unit) (fun z21 w22 next23 => bcase (decide (z21.1 < ((n0 : Nat) : Int))) (((0 : Int) ≤ z21.1 ∧ z21.1 < ((n0 : Nat) : Int) ∧ ∃ a24 : Addr, A0 = some a24 ∧ ∃ (n25 : Int), w22.cell? ((a24.add ((z21.1.toNat) * 3)).add 0) = some (.int .i64 n25) ∧ ∃ (n26 : Int), w22.cell? ((a24.add ((z21.1.toNat) * 3)).add 1) = some (.int .i64 n26) ∧ ∃ (n27 : Int), w22.cell? ((a24.add ((z21.1.toNat) * 3)).add 2) = some (.int .i64 n27) ∧ newK w22 (.cells #[(.int .i64 0), (.int .i64 0), (.int .i64 0)] 130) fun g28 w29 => stCells (⟨g28, 0, none⟩ : Addr) [(.int .i64 n25), (.int .i64 n26), (.int .i64 n27)] 0 w29 fun w30 => ∃ (n31 : Int), w30.cell? (((⟨g28, 0, none⟩ : Addr).add 0).add 0) = some (.int .i64 n31) ∧ Cll Tryz.prog 75 #[(.int .i64 n31), (.int .i64 0), (.int .i64 x1)] w30 fun v32 w33 => (∃ (b34 : Bool), v32 = (.bool b34) ∧ bcase (!b34) (K (.bool false) w33) (∃ (n35 : Int), w33.cell? (((⟨g28, 0, none⟩ : Addr).add 1).add 0) = some (.int .i64 n35) ∧ Cll Tryz.prog 75 #[(.int .i64 n35), (.int .i64 0), (.int .i64 x1)] w33 fun v36 w37 => (∃ (b38 : Bool), v36 = (.bool b38) ∧ bcase (!b38) (K (.bool false) w37) (∃ (n39 : Int), w37.cell? (((⟨g28, 0, none⟩ : Addr).add 2).add 0) = some (.int .i64 n39) ∧ Cll Tryz.prog 153 #[(.int .i64 n39)] w37 fun v40 w41 => (∃ (b42 : Bool), v40 = (.bool b42) ∧ bcase (!b42) (K (.bool false) w41) (∃ (n43 : Int), w41.cell? (((⟨g28, 0, none⟩ : Addr).add 2).add 0) = some (.int .i64 n43) ∧ bcase (n43 == 0) (K (.bool false) w41) (next23 ((IntKind.wrap .i64 (z21.1 + 1)), ()) w41))))))))) (bcase (((n0 : Nat) : Int) == 0) (K (.bool true) w22) (((0 : Int) ≤ (IntKind.wrap .i64 (((n0 : Nat) : Int) - 1)) ∧ (IntKind.wrap .i64 (((n0 : Nat) : Int) - 1)) < ((n0 : Nat) : Int) ∧ ∃ a44 : Addr, A0 = some a44 ∧ ∃ (n45 : Int), w22.cell? ((a44.add (((IntKind.wrap .i64 (((n0 : Nat) : Int) - 1)).toNat) * 3)).add 0) = some (.int .i64 n45) ∧ ∃ (n46 : Int), w22.cell? ((a44.add (((IntKind.wrap .i64 (((n0 : Nat) : Int) - 1)).toNat) * 3)).add 1) = some (.int .i64 n46) ∧ ∃ (n47 : Int), w22.cell? ((a44.add (((IntKind.wrap .i64 (((n0 : Nat) : Int) - 1)).toNat) * 3)).add 2) = some (.int .i64 n47) ∧ newK w22 (.cells #[(.int .i64 0), (.int .i64 0), (.int .i64 0)] 130) fun g48 w49 => stCells (⟨g48, 0, none⟩ : Addr) [(.int .i64 n45), (.int .i64 n46), (.int .i64 n47)] 0 w49 fun w50 => bcase (decide (((n0 : Nat) : Int) ≤ 24)) (∃ (n51 : Int), w50.cell? (((⟨g48, 0, none⟩ : Addr).add 0).add 0) = some (.int .i64 n51) ∧ ∃ (n52 : Int), w50.cell? (((⟨g48, 0, none⟩ : Addr).add 1).add 0) = some (.int .i64 n52) ∧ bcase (n51 != n52) (∃ (n53 : Int), w50.cell? (((⟨g48, 0, none⟩ : Addr).add 0).add 0) = some (.int .i64 n53) ∧ bcase (n53 != x1) (((0 : Int) ≤ 0 ∧ 0 < ((n0 : Nat) : Int) ∧ ∃ a54 : Addr, A0 = some a54 ∧ ∃ (n55 : Int), w50.cell? (((a54.add (((0 : Int).toNat) * 3)).add 1).add 0) = some (.int .i64 n55) ∧ bcase (n55 == x1) (((0 : Int) ≤ 0 ∧ 0 < ((n0 : Nat) : Int) ∧ ∃ a56 : Addr, A0 = some a56 ∧ ∃ (n57 : Int), w50.cell? (((a56.add (((0 : Int).toNat) * 3)).add 2).add 0) = some (.int .i64 n57) ∧ K (.bool (n57 == 255)) w50)) (K (.bool false) w50))) (K (.bool false) w50)) (K (.bool false) w50)) (K (.bool false) w50))))) (0, ()) w

def impl_areFrames.ann : Ann := (.seq .l (.seq (.seq .l (.one (.loop [(10, .int .i64)] (.seq .l (.seq (.two .l .l) (.seq (.one (.seq .l (.seq .l (.two (.seq .l .l) .l)))) .l)))))) (.seq (.seq .l (.two (.seq .l .l) .l)) (.seq .l (.seq .l .l)))))

theorem impl_areFrames.start {A0 : Option Addr} {n0 : Nat} {c0 : Nat} {x1 : Int} {w : World} {K : Value → World → Prop} (h : impl_areFrames.vc A0 n0 c0 x1 w K) : Cll Tryz.prog 199 #[(.slice A0 n0 c0), (.int .i64 x1)] w K :=
  vcF_sound mixed (fn := Tryz.f199) (by kernel_rfl) (by kernel_rfl) (an := impl_areFrames.ann) (args := [(.slice A0 n0 c0), (.int .i64 x1)]) (Eq.mpr (by kernel_rfl) h)

theorem impl_areFrames.con {xs0 : List D.Frame} {A0 : Option Addr} {c0 : Nat} {x1 : Int} {r : Bool} {w : World} (hp : M.impl_areFrames_pre xs0 x1) (hr : r = M.impl_areFrames xs0 x1) (R0 : Row el130 w A0 xs0) (hc0 : xs0.length ≤ c0) :
    Cll Tryz.prog 199 #[(.slice A0 xs0.length c0), (.int .i64 x1)] w (fun v_ w_ => v_ = (.bool r) ∧ Ext w w_) := by
  have H := wp.impl_areFrames.math xs0 x1 hp
  have hB := Ext.refl w
  refine impl_areFrames.start ?_
  unfold impl_areFrames.vc
  unfold wp.impl_areFrames at H
  obtain ⟨J23, ⟨m85, hJ84⟩, hS24⟩ := H
  refine ⟨fun m_ z_ w_ => ∃ (i21 : Int), z_ = (i21, ()) ∧ J23 m_ (i21, ()) ∧ Ext w w_, ⟨m85, 0, rfl, hJ84, hB⟩, ?_⟩
  rintro m22 _ w26 ⟨i21, rfl, hJ86, hB⟩
  have H := hS24 m22 _ hJ86
  clear hS24 hJ86
  try dsimp only at H ⊢
  refine bcase_mk (fun hc82 => ?_) (fun hc82 => ?_)
  · have H := (bcase_iff.1 H).1 hc82
    obtain ⟨⟨h0_30, h1_31⟩, H⟩ := H
    obtain ⟨a28, ha29, hat27⟩ := Row.at (R0.ext hB) h0_30 h1_31
    refine ⟨h0_30, h1_31, a28, ha29, ?_⟩
    refine ⟨_, (hat27 0 _ rfl), ?_⟩
    refine ⟨_, (hat27 1 _ rfl), ?_⟩
    refine ⟨_, (hat27 2 _ rfl), ?_⟩
    refine newBlk (fun g2_ w32 L2 P2 e33 => ?_)
    have O2 := P2
    have L2 := Nat.le_trans hB.size L2
    have hB := ethen hB e33
    refine stBlk O2 (o := 0) (cs' := #[(.int .i64 ((rd xs0 i21).Pc)), (.int .i64 ((rd xs0 i21).Stop)), (.int .i64 ((rd xs0 i21).Mask))]) rfl rfl (Nat.le_of_ble_eq_true rfl) rfl (fun w34 P2 e35 => ?_)
    have hB := echg hB e35 L2
    have O2 := P2
    refine ⟨_, (O2.at 0 rfl rfl), ?_⟩
    obtain ⟨r36, hr37⟩ : ∃ r_, r_ = M.impl_within ((rd xs0 i21).Pc) 0 x1 := ⟨_, rfl⟩
    have H := H r36 hr37
    refine (impl_within.con hr37 ).mono ?_
    rintro _ w39 ⟨rfl, e40⟩
    have O2 := O2.ext e40
    have hB := ethen hB e40
    refine ⟨r36, rfl, ?_⟩
    refine bcase_mk (fun hc57 => ?_) (fun hc57 => ?_)
    · have H := (bcase_iff.1 H).1 hc57
      obtain rfl := hr.trans H.symm
      exact ⟨rfl, hB⟩
    have H := (bcase_iff.1 H).2 hc57
    refine ⟨_, (O2.at 1 rfl rfl), ?_⟩
    obtain ⟨r41, hr42⟩ : ∃ r_, r_ = M.impl_within ((rd xs0 i21).Stop) 0 x1 := ⟨_, rfl⟩
    have H := H r41 hr42
    refine (impl_within.con hr42 ).mono ?_
    rintro _ w44 ⟨rfl, e45⟩
    have O2 := O2.ext e45
    have hB := ethen hB e45
    refine ⟨r41, rfl, ?_⟩
    refine bcase_mk (fun hc56 => ?_) (fun hc56 => ?_)
    · have H := (bcase_iff.1 H).1 hc56
      obtain rfl := hr.trans H.symm
      exact ⟨rfl, hB⟩
    have H := (bcase_iff.1 H).2 hc56
    refine ⟨_, (O2.at 2 rfl rfl), ?_⟩
    obtain ⟨r46, hr47⟩ : ∃ r_, r_ = M.impl_IsMask ((rd xs0 i21).Mask) := ⟨_, rfl⟩
    have H := H r46 hr47
    refine (impl_IsMask.con hr47 ).mono ?_
    rintro _ w49 ⟨rfl, e50⟩
    have O2 := O2.ext e50
    have hB := ethen hB e50
    refine ⟨r46, rfl, ?_⟩
    refine bcase_mk (fun hc55 => ?_) (fun hc55 => ?_)
    · have H := (bcase_iff.1 H).1 hc55
      obtain rfl := hr.trans H.symm
      exact ⟨rfl, hB⟩
    have H := (bcase_iff.1 H).2 hc55
    refine ⟨_, (O2.at 2 rfl rfl), ?_⟩
    refine bcase_mk (fun hc54 => ?_) (fun hc54 => ?_)
    · have H := (bcase_iff.1 H).1 hc54
      obtain rfl := hr.trans H.symm
      exact ⟨rfl, hB⟩
    have H := (bcase_iff.1 H).2 hc54
    obtain ⟨m51, hm52, hJ53⟩ := H
    exact ⟨m51, hm52, (IntKind.wrap .i64 (i21 + 1)), rfl, hJ53, hB⟩
  have H := (bcase_iff.1 H).2 hc82
  refine bcase_mk (fun hc81 => ?_) (fun hc81 => ?_)
  · have H := (bcase_iff.1 H).1 hc81
    obtain rfl := hr.trans H.symm
    exact ⟨rfl, hB⟩
  have H := (bcase_iff.1 H).2 hc81
  obtain ⟨⟨h0_61, h1_62⟩, H⟩ := H
  obtain ⟨a59, ha60, hat58⟩ := Row.at (R0.ext hB) h0_61 h1_62
  refine ⟨h0_61, h1_62, a59, ha60, ?_⟩
  refine ⟨_, (hat58 0 _ rfl), ?_⟩
  refine ⟨_, (hat58 1 _ rfl), ?_⟩
  refine ⟨_, (hat58 2 _ rfl), ?_⟩
  refine newBlk (fun g3_ w63 L3 P3 e64 => ?_)
  have O3 := P3
  have L3 := Nat.le_trans hB.size L3
  have hB := ethen hB e64
  refine stBlk O3 (o := 0) (cs' := #[(.int .i64 ((rd xs0 (IntKind.wrap .i64 (((xs0.length : Nat) : Int) - 1))).Pc)), (.int .i64 ((rd xs0 (IntKind.wrap .i64 (((xs0.length : Nat) : Int) - 1))).Stop)), (.int .i64 ((rd xs0 (IntKind.wrap .i64 (((xs0.length : Nat) : Int) - 1))).Mask))]) rfl rfl (Nat.le_of_ble_eq_true rfl) rfl (fun w65 P3 e66 => ?_)
  have hB := echg hB e66 L3
  have O3 := P3
  refine bcase_mk (fun hc80 => ?_) (fun hc80 => ?_)
  · have H := (bcase_iff.1 H).1 hc80
    refine ⟨_, (O3.at 0 rfl rfl), ?_⟩
    refine ⟨_, (O3.at 1 rfl rfl), ?_⟩
    refine bcase_mk (fun hc79 => ?_) (fun hc79 => ?_)
    · have H := (bcase_iff.1 H).1 hc79
      refine ⟨_, (O3.at 0 rfl rfl), ?_⟩
      refine bcase_mk (fun hc78 => ?_) (fun hc78 => ?_)
      · have H := (bcase_iff.1 H).1 hc78
        obtain ⟨⟨h0_70, h1_71⟩, H⟩ := H
        obtain ⟨a68, ha69, hat67⟩ := Row.at (R0.ext hB) h0_70 h1_71
        refine ⟨h0_70, h1_71, a68, ha69, ?_⟩
        refine ⟨_, (hat67 1 _ rfl), ?_⟩
        refine bcase_mk (fun hc77 => ?_) (fun hc77 => ?_)
        · have H := (bcase_iff.1 H).1 hc77
          obtain ⟨⟨h0_75, h1_76⟩, H⟩ := H
          obtain ⟨a73, ha74, hat72⟩ := Row.at (R0.ext hB) h0_75 h1_76
          refine ⟨h0_75, h1_76, a73, ha74, ?_⟩
          refine ⟨_, (hat72 2 _ rfl), ?_⟩
          obtain rfl := hr.trans H.symm
          exact ⟨rfl, hB⟩
        have H := (bcase_iff.1 H).2 hc77
        obtain rfl := hr.trans H.symm
        exact ⟨rfl, hB⟩
      have H := (bcase_iff.1 H).2 hc78
      obtain rfl := hr.trans H.symm
      exact ⟨rfl, hB⟩
    have H := (bcase_iff.1 H).2 hc79
    obtain rfl := hr.trans H.symm
    exact ⟨rfl, hB⟩
  have H := (bcase_iff.1 H).2 hc80
  obtain rfl := hr.trans H.symm
  exact ⟨rfl, hB⟩
def impl_isWarpOf.vc (A0 : Option Addr) (n0 : Nat) (c0 : Nat) (x1_0 : Int) (A1_1 : Option Addr) (n1_1 : Nat) (c1_1 : Nat) (A1_2 : Option Addr) (n1_2 : Nat) (c1_2 : Nat) (w : World) (K : Value → World → Prop) : Prop :=
  newK w (.cells #[(.int .i64 x1_0), (.slice A1_1 n1_1 c1_1), (.slice A1_2 n1_2 c1_2)] 31) fun g21 w22 => ∃ (n23 : Int), w22.cell? (((⟨g21, 0, none⟩ : Addr).add 0).add 0) = some (.int .i64 n23) ∧ Cll Tryz.prog 82 #[(.int .i64 n23)] w22 fun v24 w25 => (∃ (b26 : Bool), v24 = (.bool b26) ∧ bcase b26 (∃ (A27 : Option Addr) (n28 : Nat) (c29 : Nat), w25.cell? (((⟨g21, 0, none⟩ : Addr).add 2).add 0) = some (.slice A27 n28 c29) ∧ Cll Tryz.prog 197 #[(.slice A27 n28 c29)] w25 fun v30 w31 => (∃ (b32 : Bool), v30 = (.bool b32) ∧ bcase b32 (∃ (A33 : Option Addr) (n34 : Nat) (c35 : Nat), w31.cell? (((⟨g21, 0, none⟩ : Addr).add 2).add 0) = some (.slice A33 n34 c35) ∧ Cll Tryz.prog 198 #[(.slice A33 n34 c35)] w31 fun v36 w37 => (∃ (b38 : Bool), v36 = (.bool b38) ∧ bcase b38 (∃ (A39 : Option Addr) (n40 : Nat) (c41 : Nat), w37.cell? (((⟨g21, 0, none⟩ : Addr).add 1).add 0) = some (.slice A39 n40 c41) ∧ Cll Tryz.prog 199 #[(.slice A39 n40 c41), (.int .i64 ((n0 : Nat) : Int))] w37 fun v42 w43 => (∃ (b44 : Bool), v42 = (.bool b44) ∧ K (.bool b44) w43)) (K (.bool false) w37))) (K (.bool false) w31))) (K (.bool false) w25))

def impl_isWarpOf.ann : Ann := (.seq .l (.seq .l .l))

theorem impl_isWarpOf.start {A0 : Option Addr} {n0 : Nat} {c0 : Nat} {x1_0 : Int} {A1_1 : Option Addr} {n1_1 : Nat} {c1_1 : Nat} {A1_2 : Option Addr} {n1_2 : Nat} {c1_2 : Nat} {w : World} {K : Value → World → Prop} (h : impl_isWarpOf.vc A0 n0 c0 x1_0 A1_1 n1_1 c1_1 A1_2 n1_2 c1_2 w K) : Cll Tryz.prog 144 #[(.slice A0 n0 c0), (.agg #[(.int .i64 x1_0), (.slice A1_1 n1_1 c1_1), (.slice A1_2 n1_2 c1_2)])] w K :=
  vcF_sound mixed (fn := Tryz.f144) (by kernel_rfl) (by kernel_rfl) (an := impl_isWarpOf.ann) (args := [(.slice A0 n0 c0), (.agg #[(.int .i64 x1_0), (.slice A1_1 n1_1 c1_1), (.slice A1_2 n1_2 c1_2)])]) (Eq.mpr (by kernel_rfl) h)

theorem impl_isWarpOf.con {xs0 : List D.Ins} {A0 : Option Addr} {c0 : Nat} {s1 : D.Warp} {A1_1 : Option Addr} {c1_1 : Nat} {A1_2 : Option Addr} {c1_2 : Nat} {r : Bool} {w : World} (hp : M.impl_isWarpOf_pre xs0 s1) (hr : r = M.impl_isWarpOf xs0 s1) (R0 : Row el89 w A0 xs0) (hc0 : xs0.length ≤ c0) (R1_1 : Row el130 w A1_1 s1.Frames) (hc1_1 : s1.Frames.length ≤ c1_1) (R1_2 : Row el3 w A1_2 s1.Regs) (hc1_2 : s1.Regs.length ≤ c1_2) :
    Cll Tryz.prog 144 #[(.slice A0 xs0.length c0), (.agg #[(.int .i64 s1.Number), (.slice A1_1 s1.Frames.length c1_1), (.slice A1_2 s1.Regs.length c1_2)])] w (fun v_ w_ => v_ = (.bool r) ∧ Ext w w_) := by
  have H := wp.impl_isWarpOf.math xs0 s1 hp
  have hB := Ext.refl w
  refine impl_isWarpOf.start ?_
  unfold impl_isWarpOf.vc
  unfold wp.impl_isWarpOf at H
  refine newBlk (fun g4_ w21 L4 P4 e22 => ?_)
  have O4 := P4
  have L4 := Nat.le_trans hB.size L4
  have hB := ethen hB e22
  refine ⟨_, (O4.at 0 rfl rfl), ?_⟩
  obtain ⟨r23, hr24⟩ : ∃ r_, r_ = M.impl_isWarpNumber s1.Number := ⟨_, rfl⟩
  have H := H r23 hr24
  refine (impl_isWarpNumber.con hr24 ).mono ?_
  rintro _ w26 ⟨rfl, e27⟩
  have O4 := O4.ext e27
  have hB := ethen hB e27
  refine ⟨r23, rfl, ?_⟩
  refine bcase_mk (fun hc45 => ?_) (fun hc45 => ?_)
  · have H := (bcase_iff.1 H).1 hc45
    refine ⟨_, _, _, (O4.at 2 rfl rfl), ?_⟩
    obtain ⟨r28, hr29⟩ : ∃ r_, r_ = M.impl_areAllRegs s1.Regs := ⟨_, rfl⟩
    have H := H r28 hr29
    refine (impl_areAllRegs.con hr29 (R1_2.ext hB) hc1_2).mono ?_
    rintro _ w31 ⟨rfl, e32⟩
    have O4 := O4.ext e32
    have hB := ethen hB e32
    refine ⟨r28, rfl, ?_⟩
    refine bcase_mk (fun hc44 => ?_) (fun hc44 => ?_)
    · have H := (bcase_iff.1 H).1 hc44
      refine ⟨_, _, _, (O4.at 2 rfl rfl), ?_⟩
      obtain ⟨hp35, H⟩ := H
      obtain ⟨r33, hr34⟩ : ∃ r_, r_ = M.impl_AreWords s1.Regs := ⟨_, rfl⟩
      have H := H r33 hr34
      refine (impl_AreWords.con hp35 hr34 (R1_2.ext hB) hc1_2).mono ?_
      rintro _ w36 ⟨rfl, e37⟩
      have O4 := O4.ext e37
      have hB := ethen hB e37
      refine ⟨r33, rfl, ?_⟩
      refine bcase_mk (fun hc43 => ?_) (fun hc43 => ?_)
      · have H := (bcase_iff.1 H).1 hc43
        refine ⟨_, _, _, (O4.at 1 rfl rfl), ?_⟩
        obtain ⟨hp40, H⟩ := H
        obtain ⟨r38, hr39⟩ : ∃ r_, r_ = M.impl_areFrames s1.Frames ((xs0.length : Nat) : Int) := ⟨_, rfl⟩
        have H := H r38 hr39
        refine (impl_areFrames.con hp40 hr39 (R1_1.ext hB) hc1_1).mono ?_
        rintro _ w41 ⟨rfl, e42⟩
        have O4 := O4.ext e42
        have hB := ethen hB e42
        refine ⟨r38, rfl, ?_⟩
        obtain rfl := hr.trans H.symm
        exact ⟨rfl, hB⟩
      have H := (bcase_iff.1 H).2 hc43
      obtain rfl := hr.trans H.symm
      exact ⟨rfl, hB⟩
    have H := (bcase_iff.1 H).2 hc44
    obtain rfl := hr.trans H.symm
    exact ⟨rfl, hB⟩
  have H := (bcase_iff.1 H).2 hc45
  obtain rfl := hr.trans H.symm
  exact ⟨rfl, hB⟩
def slices_Equal_impl_Frame_impl_Frame.vc (A0 : Option Addr) (n0 : Nat) (c0 : Nat) (A1 : Option Addr) (n1 : Nat) (c1 : Nat) (w : World) (K : Value → World → Prop) : Prop :=
  bcase (((n0 : Nat) : Int) != ((n1 : Nat) : Int)) (K (.bool false) w) (LoopT (σ := Int × Unit) (fun z21 w22 next23 => bcase (decide (z21.1 < ((n0 : Nat) : Int))) (((0 : Int) ≤ z21.1 ∧ z21.1 < ((n0 : Nat) : Int) ∧ ∃ a24 : Addr, A0 = some a24 ∧ ∃ (n25 : Int), w22.cell? ((a24.add ((z21.1.toNat) * 3)).add 0) = some (.int .i64 n25) ∧ ∃ (n26 : Int), w22.cell? ((a24.add ((z21.1.toNat) * 3)).add 1) = some (.int .i64 n26) ∧ ∃ (n27 : Int), w22.cell? ((a24.add ((z21.1.toNat) * 3)).add 2) = some (.int .i64 n27) ∧ ((0 : Int) ≤ z21.1 ∧ z21.1 < ((n1 : Nat) : Int) ∧ ∃ a28 : Addr, A1 = some a28 ∧ ∃ (n29 : Int), w22.cell? ((a28.add ((z21.1.toNat) * 3)).add 0) = some (.int .i64 n29) ∧ ∃ (n30 : Int), w22.cell? ((a28.add ((z21.1.toNat) * 3)).add 1) = some (.int .i64 n30) ∧ ∃ (n31 : Int), w22.cell? ((a28.add ((z21.1.toNat) * 3)).add 2) = some (.int .i64 n31) ∧ BinRun Tryz.prog .neq 130 (.agg #[(.int .i64 n25), (.int .i64 n26), (.int .i64 n27)]) (.agg #[(.int .i64 n29), (.int .i64 n30), (.int .i64 n31)]) fun b32 => bcase b32 (K (.bool false) w22.drew) (next23 ((IntKind.wrap .i64 (z21.1 + 1)), ()) w22.drew)))) (K (.bool true) w22)) (0, ()) w)

def slices_Equal_impl_Frame_impl_Frame.ann : Ann := (.seq .l (.seq (.seq .l (.two (.seq .l .l) .l)) (.seq (.seq .l (.one (.loop [(13, .int .i64)] (.seq .l (.seq (.two .l .l) (.seq (.one (.seq .l (.seq .l (.two (.seq .l .l) .l)))) .l)))))) (.seq .l .l))))

theorem slices_Equal_impl_Frame_impl_Frame.start {A0 : Option Addr} {n0 : Nat} {c0 : Nat} {A1 : Option Addr} {n1 : Nat} {c1 : Nat} {w : World} {K : Value → World → Prop} (h : slices_Equal_impl_Frame_impl_Frame.vc A0 n0 c0 A1 n1 c1 w K) : Cll Tryz.prog 132 #[(.slice A0 n0 c0), (.slice A1 n1 c1)] w K :=
  vcF_sound mixed (fn := Tryz.f132) (by kernel_rfl) (by kernel_rfl) (an := slices_Equal_impl_Frame_impl_Frame.ann) (args := [(.slice A0 n0 c0), (.slice A1 n1 c1)]) (Eq.mpr (by kernel_rfl) h)

theorem slices_Equal_impl_Frame_impl_Frame.con {xs0 : List D.Frame} {A0 : Option Addr} {c0 : Nat} {xs1 : List D.Frame} {A1 : Option Addr} {c1 : Nat} {r : Bool} {w : World} (hp : M.slices_Equal_impl_Frame_impl_Frame_pre xs0 xs1) (hr : r = M.slices_Equal_impl_Frame_impl_Frame xs0 xs1) (R0 : Row el130 w A0 xs0) (hc0 : xs0.length ≤ c0) (R1 : Row el130 w A1 xs1) (hc1 : xs1.length ≤ c1) :
    Cll Tryz.prog 132 #[(.slice A0 xs0.length c0), (.slice A1 xs1.length c1)] w (fun v_ w_ => v_ = (.bool r) ∧ Ext w w_) := by
  have H := wp.slices_Equal_impl_Frame_impl_Frame.math xs0 xs1 hp
  have hB := Ext.refl w
  refine slices_Equal_impl_Frame_impl_Frame.start ?_
  unfold slices_Equal_impl_Frame_impl_Frame.vc
  unfold wp.slices_Equal_impl_Frame_impl_Frame at H
  refine bcase_mk (fun hc47 => ?_) (fun hc47 => ?_)
  · have H := (bcase_iff.1 H).1 hc47
    obtain rfl := hr.trans H.symm
    exact ⟨rfl, hB⟩
  have H := (bcase_iff.1 H).2 hc47
  obtain ⟨J23, ⟨m45, hJ44⟩, hS24⟩ := H
  refine ⟨fun m_ z_ w_ => ∃ (i21 : Int), z_ = (i21, ()) ∧ J23 m_ (i21, ()) ∧ Ext w w_, ⟨m45, 0, rfl, hJ44, hB⟩, ?_⟩
  rintro m22 _ w26 ⟨i21, rfl, hJ46, hB⟩
  have H := hS24 m22 _ hJ46
  clear hS24 hJ46
  try dsimp only at H ⊢
  refine bcase_mk (fun hc42 => ?_) (fun hc42 => ?_)
  · have H := (bcase_iff.1 H).1 hc42
    obtain ⟨⟨h0_31, h1_32⟩, H⟩ := H
    obtain ⟨a29, ha30, hat28⟩ := Row.at (R0.ext hB) h0_31 h1_32
    refine ⟨h0_31, h1_32, a29, ha30, ?_⟩
    refine ⟨_, (hat28 0 _ rfl), ?_⟩
    refine ⟨_, (hat28 1 _ rfl), ?_⟩
    refine ⟨_, (hat28 2 _ rfl), ?_⟩
    obtain ⟨⟨h0_36, h1_37⟩, H⟩ := H
    obtain ⟨a34, ha35, hat33⟩ := Row.at (R1.ext hB) h0_36 h1_37
    refine ⟨h0_36, h1_37, a34, ha35, ?_⟩
    refine ⟨_, (hat33 0 _ rfl), ?_⟩
    refine ⟨_, (hat33 1 _ rfl), ?_⟩
    refine ⟨_, (hat33 2 _ rfl), ?_⟩
    refine ⟨_, run_neq130 ((rd xs0 i21).Pc) ((rd xs0 i21).Stop) ((rd xs0 i21).Mask) ((rd xs1 i21).Pc) ((rd xs1 i21).Stop) ((rd xs1 i21).Mask), ?_⟩
    have hB := ethen hB (Ext.drew _)
    refine bcase_mk (fun hc41 => ?_) (fun hc41 => ?_)
    · have H := (bcase_iff.1 H).1 hc41
      obtain rfl := hr.trans H.symm
      exact ⟨rfl, hB⟩
    have H := (bcase_iff.1 H).2 hc41
    obtain ⟨m38, hm39, hJ40⟩ := H
    exact ⟨m38, hm39, (IntKind.wrap .i64 (i21 + 1)), rfl, hJ40, hB⟩
  have H := (bcase_iff.1 H).2 hc42
  obtain rfl := hr.trans H.symm
  exact ⟨rfl, hB⟩
def slices_Equal_int_int.vc (A0 : Option Addr) (n0 : Nat) (c0 : Nat) (A1 : Option Addr) (n1 : Nat) (c1 : Nat) (w : World) (K : Value → World → Prop) : Prop :=
  bcase (((n0 : Nat) : Int) != ((n1 : Nat) : Int)) (K (.bool false) w) (LoopT (σ := Int × Unit) (fun z21 w22 next23 => bcase (decide (z21.1 < ((n0 : Nat) : Int))) (((0 : Int) ≤ z21.1 ∧ z21.1 < ((n0 : Nat) : Int) ∧ ∃ a24 : Addr, A0 = some a24 ∧ ∃ (n25 : Int), w22.cell? ((a24.add ((z21.1.toNat) * 1)).add 0) = some (.int .i64 n25) ∧ ((0 : Int) ≤ z21.1 ∧ z21.1 < ((n1 : Nat) : Int) ∧ ∃ a26 : Addr, A1 = some a26 ∧ ∃ (n27 : Int), w22.cell? ((a26.add ((z21.1.toNat) * 1)).add 0) = some (.int .i64 n27) ∧ bcase (n25 != n27) (K (.bool false) w22.drew) (next23 ((IntKind.wrap .i64 (z21.1 + 1)), ()) w22.drew)))) (K (.bool true) w22)) (0, ()) w)

def slices_Equal_int_int.ann : Ann := (.seq .l (.seq (.seq .l (.two (.seq .l .l) .l)) (.seq (.seq .l (.one (.loop [(13, .int .i64)] (.seq .l (.seq (.two .l .l) (.seq (.one (.seq .l (.seq .l (.two (.seq .l .l) .l)))) .l)))))) (.seq .l .l))))

theorem slices_Equal_int_int.start {A0 : Option Addr} {n0 : Nat} {c0 : Nat} {A1 : Option Addr} {n1 : Nat} {c1 : Nat} {w : World} {K : Value → World → Prop} (h : slices_Equal_int_int.vc A0 n0 c0 A1 n1 c1 w K) : Cll Tryz.prog 96 #[(.slice A0 n0 c0), (.slice A1 n1 c1)] w K :=
  vcF_sound mixed (fn := Tryz.f96) (by kernel_rfl) (by kernel_rfl) (an := slices_Equal_int_int.ann) (args := [(.slice A0 n0 c0), (.slice A1 n1 c1)]) (Eq.mpr (by kernel_rfl) h)

theorem slices_Equal_int_int.con {xs0 : List Int} {A0 : Option Addr} {c0 : Nat} {xs1 : List Int} {A1 : Option Addr} {c1 : Nat} {r : Bool} {w : World} (hp : M.slices_Equal_int_int_pre xs0 xs1) (hr : r = M.slices_Equal_int_int xs0 xs1) (R0 : Row el3 w A0 xs0) (hc0 : xs0.length ≤ c0) (R1 : Row el3 w A1 xs1) (hc1 : xs1.length ≤ c1) :
    Cll Tryz.prog 96 #[(.slice A0 xs0.length c0), (.slice A1 xs1.length c1)] w (fun v_ w_ => v_ = (.bool r) ∧ Ext w w_) := by
  have H := wp.slices_Equal_int_int.math xs0 xs1 hp
  have hB := Ext.refl w
  refine slices_Equal_int_int.start ?_
  unfold slices_Equal_int_int.vc
  unfold wp.slices_Equal_int_int at H
  refine bcase_mk (fun hc47 => ?_) (fun hc47 => ?_)
  · have H := (bcase_iff.1 H).1 hc47
    obtain rfl := hr.trans H.symm
    exact ⟨rfl, hB⟩
  have H := (bcase_iff.1 H).2 hc47
  obtain ⟨J23, ⟨m45, hJ44⟩, hS24⟩ := H
  refine ⟨fun m_ z_ w_ => ∃ (i21 : Int), z_ = (i21, ()) ∧ J23 m_ (i21, ()) ∧ Ext w w_, ⟨m45, 0, rfl, hJ44, hB⟩, ?_⟩
  rintro m22 _ w26 ⟨i21, rfl, hJ46, hB⟩
  have H := hS24 m22 _ hJ46
  clear hS24 hJ46
  try dsimp only at H ⊢
  refine bcase_mk (fun hc42 => ?_) (fun hc42 => ?_)
  · have H := (bcase_iff.1 H).1 hc42
    obtain ⟨⟨h0_31, h1_32⟩, H⟩ := H
    obtain ⟨a29, ha30, hat28⟩ := Row.at (R0.ext hB) h0_31 h1_32
    refine ⟨h0_31, h1_32, a29, ha30, ?_⟩
    refine ⟨_, (hat28 0 _ rfl), ?_⟩
    obtain ⟨⟨h0_36, h1_37⟩, H⟩ := H
    obtain ⟨a34, ha35, hat33⟩ := Row.at (R1.ext hB) h0_36 h1_37
    refine ⟨h0_36, h1_37, a34, ha35, ?_⟩
    refine ⟨_, (hat33 0 _ rfl), ?_⟩
    have hB := ethen hB (Ext.drew _)
    refine bcase_mk (fun hc41 => ?_) (fun hc41 => ?_)
    · have H := (bcase_iff.1 H).1 hc41
      obtain rfl := hr.trans H.symm
      exact ⟨rfl, hB⟩
    have H := (bcase_iff.1 H).2 hc41
    obtain ⟨m38, hm39, hJ40⟩ := H
    exact ⟨m38, hm39, (IntKind.wrap .i64 (i21 + 1)), rfl, hJ40, hB⟩
  have H := (bcase_iff.1 H).2 hc42
  obtain rfl := hr.trans H.symm
  exact ⟨rfl, hB⟩
def impl_SameWarp.vc (x0_0 : Int) (A0_1 : Option Addr) (n0_1 : Nat) (c0_1 : Nat) (A0_2 : Option Addr) (n0_2 : Nat) (c0_2 : Nat) (x1_0 : Int) (A1_1 : Option Addr) (n1_1 : Nat) (c1_1 : Nat) (A1_2 : Option Addr) (n1_2 : Nat) (c1_2 : Nat) (w : World) (K : Value → World → Prop) : Prop :=
  newK w (.cells #[(.int .i64 x0_0), (.slice A0_1 n0_1 c0_1), (.slice A0_2 n0_2 c0_2)] 31) fun g21 w22 => newK w22 (.cells #[(.int .i64 x1_0), (.slice A1_1 n1_1 c1_1), (.slice A1_2 n1_2 c1_2)] 31) fun g23 w24 => ∃ (n25 : Int), w24.cell? (((⟨g21, 0, none⟩ : Addr).add 0).add 0) = some (.int .i64 n25) ∧ ∃ (n26 : Int), w24.cell? (((⟨g23, 0, none⟩ : Addr).add 0).add 0) = some (.int .i64 n26) ∧ bcase (n25 == n26) (∃ (A27 : Option Addr) (n28 : Nat) (c29 : Nat), w24.cell? (((⟨g21, 0, none⟩ : Addr).add 1).add 0) = some (.slice A27 n28 c29) ∧ ∃ (A30 : Option Addr) (n31 : Nat) (c32 : Nat), w24.cell? (((⟨g23, 0, none⟩ : Addr).add 1).add 0) = some (.slice A30 n31 c32) ∧ Cll Tryz.prog 132 #[(.slice A27 n28 c29), (.slice A30 n31 c32)] w24 fun v33 w34 => (∃ (b35 : Bool), v33 = (.bool b35) ∧ bcase b35 (∃ (A36 : Option Addr) (n37 : Nat) (c38 : Nat), w34.cell? (((⟨g21, 0, none⟩ : Addr).add 2).add 0) = some (.slice A36 n37 c38) ∧ ∃ (A39 : Option Addr) (n40 : Nat) (c41 : Nat), w34.cell? (((⟨g23, 0, none⟩ : Addr).add 2).add 0) = some (.slice A39 n40 c41) ∧ Cll Tryz.prog 96 #[(.slice A36 n37 c38), (.slice A39 n40 c41)] w34 fun v42 w43 => (∃ (b44 : Bool), v42 = (.bool b44) ∧ K (.bool b44) w43)) (K (.bool false) w34))) (K (.bool false) w24)

def impl_SameWarp.ann : Ann := (.seq .l (.seq .l .l))

theorem impl_SameWarp.start {x0_0 : Int} {A0_1 : Option Addr} {n0_1 : Nat} {c0_1 : Nat} {A0_2 : Option Addr} {n0_2 : Nat} {c0_2 : Nat} {x1_0 : Int} {A1_1 : Option Addr} {n1_1 : Nat} {c1_1 : Nat} {A1_2 : Option Addr} {n1_2 : Nat} {c1_2 : Nat} {w : World} {K : Value → World → Prop} (h : impl_SameWarp.vc x0_0 A0_1 n0_1 c0_1 A0_2 n0_2 c0_2 x1_0 A1_1 n1_1 c1_1 A1_2 n1_2 c1_2 w K) : Cll Tryz.prog 62 #[(.agg #[(.int .i64 x0_0), (.slice A0_1 n0_1 c0_1), (.slice A0_2 n0_2 c0_2)]), (.agg #[(.int .i64 x1_0), (.slice A1_1 n1_1 c1_1), (.slice A1_2 n1_2 c1_2)])] w K :=
  vcF_sound mixed (fn := Tryz.f62) (by kernel_rfl) (by kernel_rfl) (an := impl_SameWarp.ann) (args := [(.agg #[(.int .i64 x0_0), (.slice A0_1 n0_1 c0_1), (.slice A0_2 n0_2 c0_2)]), (.agg #[(.int .i64 x1_0), (.slice A1_1 n1_1 c1_1), (.slice A1_2 n1_2 c1_2)])]) (Eq.mpr (by kernel_rfl) h)

theorem impl_SameWarp.con {s0 : D.Warp} {A0_1 : Option Addr} {c0_1 : Nat} {A0_2 : Option Addr} {c0_2 : Nat} {s1 : D.Warp} {A1_1 : Option Addr} {c1_1 : Nat} {A1_2 : Option Addr} {c1_2 : Nat} {r : Bool} {w : World} (hp : M.impl_SameWarp_pre s0 s1) (hr : r = M.impl_SameWarp s0 s1) (R0_1 : Row el130 w A0_1 s0.Frames) (hc0_1 : s0.Frames.length ≤ c0_1) (R0_2 : Row el3 w A0_2 s0.Regs) (hc0_2 : s0.Regs.length ≤ c0_2) (R1_1 : Row el130 w A1_1 s1.Frames) (hc1_1 : s1.Frames.length ≤ c1_1) (R1_2 : Row el3 w A1_2 s1.Regs) (hc1_2 : s1.Regs.length ≤ c1_2) :
    Cll Tryz.prog 62 #[(.agg #[(.int .i64 s0.Number), (.slice A0_1 s0.Frames.length c0_1), (.slice A0_2 s0.Regs.length c0_2)]), (.agg #[(.int .i64 s1.Number), (.slice A1_1 s1.Frames.length c1_1), (.slice A1_2 s1.Regs.length c1_2)])] w (fun v_ w_ => v_ = (.bool r) ∧ Ext w w_) := by
  have H := wp.impl_SameWarp.math s0 s1 hp
  have hB := Ext.refl w
  refine impl_SameWarp.start ?_
  unfold impl_SameWarp.vc
  unfold wp.impl_SameWarp at H
  refine newBlk (fun g5_ w21 L5 P5 e22 => ?_)
  have O5 := P5
  have L5 := Nat.le_trans hB.size L5
  have hB := ethen hB e22
  refine newBlk (fun g6_ w23 L6 P6 e24 => ?_)
  have N5_6 := O5.ne L6
  have O5 := O5.ext e24
  have O6 := P6
  have L6 := Nat.le_trans hB.size L6
  have hB := ethen hB e24
  refine ⟨_, (O5.at 0 rfl rfl), ?_⟩
  refine ⟨_, (O6.at 0 rfl rfl), ?_⟩
  refine bcase_mk (fun hc36 => ?_) (fun hc36 => ?_)
  · have H := (bcase_iff.1 H).1 hc36
    refine ⟨_, _, _, (O5.at 1 rfl rfl), ?_⟩
    refine ⟨_, _, _, (O6.at 1 rfl rfl), ?_⟩
    obtain ⟨hp27, H⟩ := H
    obtain ⟨r25, hr26⟩ : ∃ r_, r_ = M.slices_Equal_impl_Frame_impl_Frame s0.Frames s1.Frames := ⟨_, rfl⟩
    have H := H r25 hr26
    refine (slices_Equal_impl_Frame_impl_Frame.con hp27 hr26 (R0_1.ext hB) hc0_1 (R1_1.ext hB) hc1_1).mono ?_
    rintro _ w28 ⟨rfl, e29⟩
    have O5 := O5.ext e29
    have O6 := O6.ext e29
    have hB := ethen hB e29
    refine ⟨r25, rfl, ?_⟩
    refine bcase_mk (fun hc35 => ?_) (fun hc35 => ?_)
    · have H := (bcase_iff.1 H).1 hc35
      refine ⟨_, _, _, (O5.at 2 rfl rfl), ?_⟩
      refine ⟨_, _, _, (O6.at 2 rfl rfl), ?_⟩
      obtain ⟨hp32, H⟩ := H
      obtain ⟨r30, hr31⟩ : ∃ r_, r_ = M.slices_Equal_int_int s0.Regs s1.Regs := ⟨_, rfl⟩
      have H := H r30 hr31
      refine (slices_Equal_int_int.con hp32 hr31 (R0_2.ext hB) hc0_2 (R1_2.ext hB) hc1_2).mono ?_
      rintro _ w33 ⟨rfl, e34⟩
      have O5 := O5.ext e34
      have O6 := O6.ext e34
      have hB := ethen hB e34
      refine ⟨r30, rfl, ?_⟩
      obtain rfl := hr.trans H.symm
      exact ⟨rfl, hB⟩
    have H := (bcase_iff.1 H).2 hc35
    obtain rfl := hr.trans H.symm
    exact ⟨rfl, hB⟩
  have H := (bcase_iff.1 H).2 hc36
  obtain rfl := hr.trans H.symm
  exact ⟨rfl, hB⟩
def spec_WarpNew.vc (A0 : Option Addr) (n0 : Nat) (c0 : Nat) (x1 : Int) (w : World) (K : Value → World → Prop) : Prop :=
  newK w (.cells #[(.int .i64 0), (.slice none 0 0), (.slice none 0 0)] 31) fun g21 w22 => Cll Tryz.prog 134 #[(.slice A0 n0 c0)] w22 fun v24 w25 => (∃ (b26 : Bool), v24 = (.bool b26) ∧ bcase (!b26) (stCells (⟨g21, 0, none⟩ : Addr) [(.int .i64 0), (.slice none 0 0), (.slice none 0 0)] 0 w25 fun w27 => ∃ (n28 : Int), w27.cell? ((⟨g21, 0, none⟩ : Addr).add 0) = some (.int .i64 n28) ∧ ∃ (A29 : Option Addr) (n30 : Nat) (c31 : Nat), w27.cell? ((⟨g21, 0, none⟩ : Addr).add 1) = some (.slice A29 n30 c31) ∧ ∃ (A32 : Option Addr) (n33 : Nat) (c34 : Nat), w27.cell? ((⟨g21, 0, none⟩ : Addr).add 2) = some (.slice A32 n33 c34) ∧ K (.tuple #[(.agg #[(.int .i64 n28), (.slice A29 n30 c31), (.slice A32 n33 c34)]), (.bool false)]) w27) (Cll Tryz.prog 67 #[(.int .i64 x1), (.int .i64 0), (.int .i64 2)] w25 fun v35 w36 => (∃ (b37 : Bool), v35 = (.bool b37) ∧ bcase (!b37) (stCells (⟨g21, 0, none⟩ : Addr) [(.int .i64 0), (.slice none 0 0), (.slice none 0 0)] 0 w36 fun w38 => ∃ (n39 : Int), w38.cell? ((⟨g21, 0, none⟩ : Addr).add 0) = some (.int .i64 n39) ∧ ∃ (A40 : Option Addr) (n41 : Nat) (c42 : Nat), w38.cell? ((⟨g21, 0, none⟩ : Addr).add 1) = some (.slice A40 n41 c42) ∧ ∃ (A43 : Option Addr) (n44 : Nat) (c45 : Nat), w38.cell? ((⟨g21, 0, none⟩ : Addr).add 2) = some (.slice A43 n44 c45) ∧ K (.tuple #[(.agg #[(.int .i64 n39), (.slice A40 n41 c42), (.slice A43 n44 c45)]), (.bool false)]) w38) (vcMake Tryz.prog 24 32 32 w36 fun g46 w47 => newK w47 (.cells #[(.int .i64 0), (.slice none 0 0), (.slice none 0 0)] 31) fun g48 w49 => stCells (⟨g48, 0, none⟩ : Addr) [(.int .i64 x1), (.slice none 0 0), (.slice (some (⟨g46, 0, none⟩ : Addr)) ((32 : Int).toNat) ((32 : Int).toNat))] 0 w49 fun w50 => bcase (decide (((n0 : Nat) : Int) > 0)) (Run Tryz.prog (Instr.buildSlice 29 1 #[(0, (.agg #[(.int .i64 0), (.int .i64 ((n0 : Nat) : Int)), (.int .i64 255)]))]) w50 fun v51 w52 => ∃ (A53 : Option Addr) (n54 c55 : Nat), v51 = .slice A53 n54 c55 ∧ stCells ((⟨g48, 0, none⟩ : Addr).add 1) [(.slice A53 n54 c55)] 0 w52 fun w56 => ∃ (n57 : Int), w56.cell? ((⟨g48, 0, none⟩ : Addr).add 0) = some (.int .i64 n57) ∧ ∃ (A58 : Option Addr) (n59 : Nat) (c60 : Nat), w56.cell? ((⟨g48, 0, none⟩ : Addr).add 1) = some (.slice A58 n59 c60) ∧ ∃ (A61 : Option Addr) (n62 : Nat) (c63 : Nat), w56.cell? ((⟨g48, 0, none⟩ : Addr).add 2) = some (.slice A61 n62 c63) ∧ stCells (⟨g21, 0, none⟩ : Addr) [(.int .i64 n57), (.slice A58 n59 c60), (.slice A61 n62 c63)] 0 w56 fun w64 => ∃ (n65 : Int), w64.cell? ((⟨g21, 0, none⟩ : Addr).add 0) = some (.int .i64 n65) ∧ ∃ (A66 : Option Addr) (n67 : Nat) (c68 : Nat), w64.cell? ((⟨g21, 0, none⟩ : Addr).add 1) = some (.slice A66 n67 c68) ∧ ∃ (A69 : Option Addr) (n70 : Nat) (c71 : Nat), w64.cell? ((⟨g21, 0, none⟩ : Addr).add 2) = some (.slice A69 n70 c71) ∧ K (.tuple #[(.agg #[(.int .i64 n65), (.slice A66 n67 c68), (.slice A69 n70 c71)]), (.bool true)]) w64) (∃ (n72 : Int), w50.cell? ((⟨g48, 0, none⟩ : Addr).add 0) = some (.int .i64 n72) ∧ ∃ (A73 : Option Addr) (n74 : Nat) (c75 : Nat), w50.cell? ((⟨g48, 0, none⟩ : Addr).add 1) = some (.slice A73 n74 c75) ∧ ∃ (A76 : Option Addr) (n77 : Nat) (c78 : Nat), w50.cell? ((⟨g48, 0, none⟩ : Addr).add 2) = some (.slice A76 n77 c78) ∧ stCells (⟨g21, 0, none⟩ : Addr) [(.int .i64 n72), (.slice A73 n74 c75), (.slice A76 n77 c78)] 0 w50 fun w79 => ∃ (n80 : Int), w79.cell? ((⟨g21, 0, none⟩ : Addr).add 0) = some (.int .i64 n80) ∧ ∃ (A81 : Option Addr) (n82 : Nat) (c83 : Nat), w79.cell? ((⟨g21, 0, none⟩ : Addr).add 1) = some (.slice A81 n82 c83) ∧ ∃ (A84 : Option Addr) (n85 : Nat) (c86 : Nat), w79.cell? ((⟨g21, 0, none⟩ : Addr).add 2) = some (.slice A84 n85 c86) ∧ K (.tuple #[(.agg #[(.int .i64 n80), (.slice A81 n82 c83), (.slice A84 n85 c86)]), (.bool true)]) w79)))))

def spec_WarpNew.ann : Ann := (.seq .l (.seq (.seq .l (.two (.seq .l .l) .l)) (.seq .l (.seq (.seq .l (.two .l .l)) (.seq .l .l)))))

theorem spec_WarpNew.start {A0 : Option Addr} {n0 : Nat} {c0 : Nat} {x1 : Int} {w : World} {K : Value → World → Prop} (h : spec_WarpNew.vc A0 n0 c0 x1 w K) : Cll Tryz.prog 81 #[(.slice A0 n0 c0), (.int .i64 x1)] w K :=
  vcF_sound mixed (fn := Tryz.f81) (by kernel_rfl) (by kernel_rfl) (an := spec_WarpNew.ann) (args := [(.slice A0 n0 c0), (.int .i64 x1)]) (Eq.mpr (by kernel_rfl) h)

theorem spec_WarpNew.con {xs0 : List D.Ins} {A0 : Option Addr} {c0 : Nat} {x1 : Int} {r : D.Warp × Bool} {w : World} (hp : M.spec_WarpNew_pre xs0 x1) (hr : r = M.spec_WarpNew xs0 x1) (R0 : Row el89 w A0 xs0) (hc0 : xs0.length ≤ c0) :
    Cll Tryz.prog 81 #[(.slice A0 xs0.length c0), (.int .i64 x1)] w (fun v_ w_ => ∃ (A0_ : Option Addr) (c0_ : Nat) (A1_ : Option Addr) (c1_ : Nat), v_ = (.tuple #[(.agg #[(.int .i64 r.1.Number), (.slice A0_ r.1.Frames.length c0_), (.slice A1_ r.1.Regs.length c1_)]), (.bool r.2)]) ∧ Own el130 w_ w.heap.size A0_ c0_ r.1.Frames ∧ Own el3 w_ w.heap.size A1_ c1_ r.1.Regs ∧ Ext w w_) := by
  have H := wp.spec_WarpNew.math xs0 x1 hp
  have hB := Ext.refl w
  refine spec_WarpNew.start ?_
  unfold spec_WarpNew.vc
  unfold wp.spec_WarpNew at H
  refine newBlk (fun g2_ w21 L2 P2 e22 => ?_)
  have O2 := P2
  have L2 := Nat.le_trans hB.size L2
  have hB := ethen hB e22
  obtain ⟨hp25, H⟩ := H
  obtain ⟨r23, hr24⟩ : ∃ r_, r_ = M.spec_ProgramOk xs0 := ⟨_, rfl⟩
  have H := H r23 hr24
  refine (spec_ProgramOk.con hp25 hr24 (R0.ext hB) hc0).mono ?_
  rintro _ w26 ⟨rfl, e27⟩
  have O2 := O2.ext e27
  have hB := ethen hB e27
  refine ⟨r23, rfl, ?_⟩
  refine bcase_mk (fun hc57 => ?_) (fun hc57 => ?_)
  · have H := (bcase_iff.1 H).1 hc57
    refine stBlk O2 (o := 0) (cs' := #[(.int .i64 0), (.slice none 0 0), (.slice none 0 0)]) rfl rfl (Nat.le_of_ble_eq_true rfl) rfl (fun w28 P2 e29 => ?_)
    have hB := echg hB e29 L2
    have O2 := P2
    refine ⟨_, (O2.at 0 rfl rfl), ?_⟩
    refine ⟨_, _, _, (O2.at 1 rfl rfl), ?_⟩
    refine ⟨_, _, _, (O2.at 2 rfl rfl), ?_⟩
    obtain rfl := hr.trans H.symm
    exact ⟨none, 0, none, 0, rfl, Own.nil, Own.nil, hB⟩
  have H := (bcase_iff.1 H).2 hc57
  obtain ⟨r30, hr31⟩ : ∃ r_, r_ = M.spec_l01In x1 0 2 := ⟨_, rfl⟩
  have H := H r30 hr31
  refine (spec_l01In.con hr31 ).mono ?_
  rintro _ w33 ⟨rfl, e34⟩
  have O2 := O2.ext e34
  have hB := ethen hB e34
  refine ⟨r30, rfl, ?_⟩
  refine bcase_mk (fun hc56 => ?_) (fun hc56 => ?_)
  · have H := (bcase_iff.1 H).1 hc56
    refine stBlk O2 (o := 0) (cs' := #[(.int .i64 0), (.slice none 0 0), (.slice none 0 0)]) rfl rfl (Nat.le_of_ble_eq_true rfl) rfl (fun w35 P2 e36 => ?_)
    have hB := echg hB e36 L2
    have O2 := P2
    refine ⟨_, (O2.at 0 rfl rfl), ?_⟩
    refine ⟨_, _, _, (O2.at 1 rfl rfl), ?_⟩
    refine ⟨_, _, _, (O2.at 2 rfl rfl), ?_⟩
    obtain rfl := hr.trans H.symm
    exact ⟨none, 0, none, 0, rfl, Own.nil, Own.nil, hB⟩
  have H := (bcase_iff.1 H).2 hc56
  obtain ⟨⟨h0_40, h1_41⟩, H⟩ := H
  refine makeOwn slt24 h0_40 h1_41 (fun g37 w38 P3 e39 => ?_)
  have N3_2 := P3.apart_old O2.lt
  have O2 := O2.ext e39
  have O3 := P3.mono hB.size
  have hB := ethen hB e39
  refine newBlk (fun g4_ w42 L4 P4 e43 => ?_)
  have N2_4 := O2.ne L4
  have N3_4 := O3.apart_new L4
  have O2 := O2.ext e43
  have O3 := O3.ext e43
  have O4 := P4
  have L4 := Nat.le_trans hB.size L4
  have hB := ethen hB e43
  refine stBlk O4 (o := 0) (cs' := #[(.int .i64 x1), (.slice none 0 0), (.slice (some (⟨g37, 0, none⟩ : Addr)) ((32 : Int).toNat) ((32 : Int).toNat))]) rfl rfl (Nat.le_of_ble_eq_true rfl) rfl (fun w44 P4 e45 => ?_)
  have O2_ := O2.chg e45 N2_4
  have O3_ := O3.chg e45 N3_4
  have O2 := O2_
  have O3 := O3_
  have hB := echg hB e45 L4
  have O4 := P4
  refine bcase_mk (fun hc55 => ?_) (fun hc55 => ?_)
  · have H := (bcase_iff.1 H).1 hc55
    refine buildOwn el130 ([(⟨0, ((xs0.length : Nat) : Int), 255⟩ : D.Frame)] : List D.Frame) (fun _ => by kernel_rfl) rfl (fun A46 w47 P5 e48 => ?_)
    have N5_2 := P5.apart_old O2.lt
    have N3_5 := Own.apart2_new O3 P5 (Nat.le_refl _)
    have N5_4 := P5.apart_old O4.lt
    have O2 := O2.ext e48
    have O3 := O3.ext e48
    have O4 := O4.ext e48
    have O5 := P5.mono hB.size
    have hB := ethen hB e48
    refine stBlk O4 (o := 1) (cs' := #[(.int .i64 x1), (.slice A46 1 1), (.slice (some (⟨g37, 0, none⟩ : Addr)) ((32 : Int).toNat) ((32 : Int).toNat))]) rfl rfl (Nat.le_of_ble_eq_true rfl) rfl (fun w49 P4 e50 => ?_)
    have O2_ := O2.chg e50 N2_4
    have O3_ := O3.chg e50 N3_4
    have O5_ := O5.chg e50 N5_4
    have O2 := O2_
    have O3 := O3_
    have O5 := O5_
    have hB := echg hB e50 L4
    have O4 := P4
    refine ⟨_, (O4.at 0 rfl rfl), ?_⟩
    refine ⟨_, _, _, (O4.at 1 rfl rfl), ?_⟩
    refine ⟨_, _, _, (O4.at 2 rfl rfl), ?_⟩
    refine stBlk O2 (o := 0) (cs' := #[(.int .i64 x1), (.slice A46 1 1), (.slice (some (⟨g37, 0, none⟩ : Addr)) ((32 : Int).toNat) ((32 : Int).toNat))]) rfl rfl (Nat.le_of_ble_eq_true rfl) rfl (fun w51 P2 e52 => ?_)
    have O3_ := O3.chg e52 N3_2
    have O4_ := O4.chg e52 (N2_4).symm
    have O5_ := O5.chg e52 N5_2
    have O3 := O3_
    have O4 := O4_
    have O5 := O5_
    have hB := echg hB e52 L2
    have O2 := P2
    refine ⟨_, (O2.at 0 rfl rfl), ?_⟩
    refine ⟨_, _, _, (O2.at 1 rfl rfl), ?_⟩
    refine ⟨_, _, _, (O2.at 2 rfl rfl), ?_⟩
    obtain rfl := hr.trans H.symm
    exact ⟨A46, 1, (some (⟨g37, 0, none⟩ : Addr)), ((32 : Int).toNat), (by first | rfl | (simp; done) | (simp; omega) | (simp [*]; done)), (by first | exact O5 | (simp only [List.length_set]; exact O5)), (by first | exact O3 | (simp only [List.length_set]; exact O3)), hB⟩
  have H := (bcase_iff.1 H).2 hc55
  refine ⟨_, (O4.at 0 rfl rfl), ?_⟩
  refine ⟨_, _, _, (O4.at 1 rfl rfl), ?_⟩
  refine ⟨_, _, _, (O4.at 2 rfl rfl), ?_⟩
  refine stBlk O2 (o := 0) (cs' := #[(.int .i64 x1), (.slice none 0 0), (.slice (some (⟨g37, 0, none⟩ : Addr)) ((32 : Int).toNat) ((32 : Int).toNat))]) rfl rfl (Nat.le_of_ble_eq_true rfl) rfl (fun w53 P2 e54 => ?_)
  have O3_ := O3.chg e54 N3_2
  have O4_ := O4.chg e54 (N2_4).symm
  have O3 := O3_
  have O4 := O4_
  have hB := echg hB e54 L2
  have O2 := P2
  refine ⟨_, (O2.at 0 rfl rfl), ?_⟩
  refine ⟨_, _, _, (O2.at 1 rfl rfl), ?_⟩
  refine ⟨_, _, _, (O2.at 2 rfl rfl), ?_⟩
  obtain rfl := hr.trans H.symm
  exact ⟨none, 0, (some (⟨g37, 0, none⟩ : Addr)), ((32 : Int).toNat), (by first | rfl | (simp; done) | (simp; omega) | (simp [*]; done)), Own.nil, (by first | exact O3 | (simp only [List.length_set]; exact O3)), hB⟩
def spec_l12Copy.vc (x0_0 : Int) (A0_1 : Option Addr) (n0_1 : Nat) (c0_1 : Nat) (A0_2 : Option Addr) (n0_2 : Nat) (c0_2 : Nat) (w : World) (K : Value → World → Prop) : Prop :=
  newK w (.cells #[(.int .i64 x0_0), (.slice A0_1 n0_1 c0_1), (.slice A0_2 n0_2 c0_2)] 31) fun g21 w22 => newK w22 (.cells #[(.int .i64 0), (.slice none 0 0), (.slice none 0 0)] 31) fun g23 w24 => (∃ M25 : Nat → Prop, ∃ (n26 : Int), (¬ M25 (((⟨g21, 0, none⟩ : Addr).add 0)).block ∧ w24.cell? (((⟨g21, 0, none⟩ : Addr).add 0).add 0) = some (.int .i64 n26)) ∧ ∃ (A27 : Option Addr) (n28 : Nat) (c29 : Nat), (¬ M25 (((⟨g21, 0, none⟩ : Addr).add 1)).block ∧ w24.cell? (((⟨g21, 0, none⟩ : Addr).add 1).add 0) = some (.slice A27 n28 c29)) ∧ ∃ (A30 : Option Addr) (n31 : Nat) (c32 : Nat), (¬ M25 (((⟨g21, 0, none⟩ : Addr).add 2)).block ∧ w24.cell? (((⟨g21, 0, none⟩ : Addr).add 2).add 0) = some (.slice A30 n31 c32)) ∧ ((Run Tryz.prog (Instr.buildSlice 29 0 #[]) w24.drew fun v33 w34 => ∃ (A35 : Option Addr) (n36 c37 : Nat), v33 = .slice A35 n36 c37 ∧ SameBut M25 w24 w34 ∧ ((Run Tryz.prog (Builtin.append_ #[29, 29] 29 #[(.slice A35 n36 c37), (.slice A27 n28 c29)]) w34 fun v38 w39 => ∃ (A40 : Option Addr) (n41 c42 : Nat), v38 = .slice A40 n41 c42 ∧ SameBut M25 w24 w39 ∧ Run Tryz.prog (Instr.buildSlice 24 0 #[]) w39 fun v43 w44 => ∃ (A45 : Option Addr) (n46 c47 : Nat), v43 = .slice A45 n46 c47 ∧ SameBut M25 w24 w44 ∧ Run Tryz.prog (Builtin.append_ #[24, 24] 24 #[(.slice A45 n46 c47), (.slice A30 n31 c32)]) w44 fun v48 w49 => ∃ (A50 : Option Addr) (n51 c52 : Nat), v48 = .slice A50 n51 c52 ∧ SameBut M25 w24 w49 ∧ stCells (⟨g23, 0, none⟩ : Addr) [(.int .i64 n26), (.slice A40 n41 c42), (.slice A50 n51 c52)] 0 w49 fun w53 => ∃ (n54 : Int), w53.cell? ((⟨g23, 0, none⟩ : Addr).add 0) = some (.int .i64 n54) ∧ ∃ (A55 : Option Addr) (n56 : Nat) (c57 : Nat), w53.cell? ((⟨g23, 0, none⟩ : Addr).add 1) = some (.slice A55 n56 c57) ∧ ∃ (A58 : Option Addr) (n59 : Nat) (c60 : Nat), w53.cell? ((⟨g23, 0, none⟩ : Addr).add 2) = some (.slice A58 n59 c60) ∧ K (.agg #[(.int .i64 n54), (.slice A55 n56 c57), (.slice A58 n59 c60)]) w53) ∧ (Run Tryz.prog (Instr.buildSlice 24 0 #[]) w34 fun v61 w62 => ∃ (A63 : Option Addr) (n64 c65 : Nat), v61 = .slice A63 n64 c65 ∧ SameBut M25 w24 w62 ∧ Run Tryz.prog (Builtin.append_ #[29, 29] 29 #[(.slice A35 n36 c37), (.slice A27 n28 c29)]) w62 fun v66 w67 => ∃ (A68 : Option Addr) (n69 c70 : Nat), v66 = .slice A68 n69 c70 ∧ SameBut M25 w24 w67 ∧ Run Tryz.prog (Builtin.append_ #[24, 24] 24 #[(.slice A63 n64 c65), (.slice A30 n31 c32)]) w67 fun v71 w72 => ∃ (A73 : Option Addr) (n74 c75 : Nat), v71 = .slice A73 n74 c75 ∧ SameBut M25 w24 w72 ∧ stCells (⟨g23, 0, none⟩ : Addr) [(.int .i64 n26), (.slice A68 n69 c70), (.slice A73 n74 c75)] 0 w72 fun w76 => ∃ (n77 : Int), w76.cell? ((⟨g23, 0, none⟩ : Addr).add 0) = some (.int .i64 n77) ∧ ∃ (A78 : Option Addr) (n79 : Nat) (c80 : Nat), w76.cell? ((⟨g23, 0, none⟩ : Addr).add 1) = some (.slice A78 n79 c80) ∧ ∃ (A81 : Option Addr) (n82 : Nat) (c83 : Nat), w76.cell? ((⟨g23, 0, none⟩ : Addr).add 2) = some (.slice A81 n82 c83) ∧ K (.agg #[(.int .i64 n77), (.slice A78 n79 c80), (.slice A81 n82 c83)]) w76) ∧ True)) ∧ (Run Tryz.prog (Instr.buildSlice 24 0 #[]) w24.drew fun v84 w85 => ∃ (A86 : Option Addr) (n87 c88 : Nat), v84 = .slice A86 n87 c88 ∧ SameBut M25 w24 w85 ∧ Run Tryz.prog (Instr.buildSlice 29 0 #[]) w85 fun v89 w90 => ∃ (A91 : Option Addr) (n92 c93 : Nat), v89 = .slice A91 n92 c93 ∧ SameBut M25 w24 w90 ∧ Run Tryz.prog (Builtin.append_ #[29, 29] 29 #[(.slice A91 n92 c93), (.slice A27 n28 c29)]) w90 fun v94 w95 => ∃ (A96 : Option Addr) (n97 c98 : Nat), v94 = .slice A96 n97 c98 ∧ SameBut M25 w24 w95 ∧ Run Tryz.prog (Builtin.append_ #[24, 24] 24 #[(.slice A86 n87 c88), (.slice A30 n31 c32)]) w95 fun v99 w100 => ∃ (A101 : Option Addr) (n102 c103 : Nat), v99 = .slice A101 n102 c103 ∧ SameBut M25 w24 w100 ∧ stCells (⟨g23, 0, none⟩ : Addr) [(.int .i64 n26), (.slice A96 n97 c98), (.slice A101 n102 c103)] 0 w100 fun w104 => ∃ (n105 : Int), w104.cell? ((⟨g23, 0, none⟩ : Addr).add 0) = some (.int .i64 n105) ∧ ∃ (A106 : Option Addr) (n107 : Nat) (c108 : Nat), w104.cell? ((⟨g23, 0, none⟩ : Addr).add 1) = some (.slice A106 n107 c108) ∧ ∃ (A109 : Option Addr) (n110 : Nat) (c111 : Nat), w104.cell? ((⟨g23, 0, none⟩ : Addr).add 2) = some (.slice A109 n110 c111) ∧ K (.agg #[(.int .i64 n105), (.slice A106 n107 c108), (.slice A109 n110 c111)]) w104) ∧ True))

def spec_l12Copy.ann : Ann := (.seq .l (.seq .l .l))

theorem spec_l12Copy.start {x0_0 : Int} {A0_1 : Option Addr} {n0_1 : Nat} {c0_1 : Nat} {A0_2 : Option Addr} {n0_2 : Nat} {c0_2 : Nat} {w : World} {K : Value → World → Prop} (h : spec_l12Copy.vc x0_0 A0_1 n0_1 c0_1 A0_2 n0_2 c0_2 w K) : Cll Tryz.prog 68 #[(.agg #[(.int .i64 x0_0), (.slice A0_1 n0_1 c0_1), (.slice A0_2 n0_2 c0_2)])] w K :=
  vcF_sound mixed (fn := Tryz.f68) (by kernel_rfl) (by kernel_rfl) (an := spec_l12Copy.ann) (args := [(.agg #[(.int .i64 x0_0), (.slice A0_1 n0_1 c0_1), (.slice A0_2 n0_2 c0_2)])]) (Eq.mpr (by kernel_rfl) h)

theorem spec_l12Copy.con {s0 : D.Warp} {A0_1 : Option Addr} {c0_1 : Nat} {A0_2 : Option Addr} {c0_2 : Nat} {r : D.Warp} {w : World} (hp : M.spec_l12Copy_pre s0) (hr : r = M.spec_l12Copy s0) (R0_1 : Row el130 w A0_1 s0.Frames) (hc0_1 : s0.Frames.length ≤ c0_1) (R0_2 : Row el3 w A0_2 s0.Regs) (hc0_2 : s0.Regs.length ≤ c0_2) :
    Cll Tryz.prog 68 #[(.agg #[(.int .i64 s0.Number), (.slice A0_1 s0.Frames.length c0_1), (.slice A0_2 s0.Regs.length c0_2)])] w (fun v_ w_ => ∃ (A0_ : Option Addr) (c0_ : Nat) (A1_ : Option Addr) (c1_ : Nat), v_ = (.agg #[(.int .i64 r.Number), (.slice A0_ r.Frames.length c0_), (.slice A1_ r.Regs.length c1_)]) ∧ Own el130 w_ w.heap.size A0_ c0_ r.Frames ∧ Own el3 w_ w.heap.size A1_ c1_ r.Regs ∧ Ext w w_) := by
  have H := wp.spec_l12Copy.math s0 hp
  have hB := Ext.refl w
  refine spec_l12Copy.start ?_
  unfold spec_l12Copy.vc
  unfold wp.spec_l12Copy at H
  refine newBlk (fun g3_ w21 L3 P3 e22 => ?_)
  have O3 := P3
  have L3 := Nat.le_trans hB.size L3
  have hB := ethen hB e22
  refine newBlk (fun g4_ w23 L4 P4 e24 => ?_)
  have N3_4 := O3.ne L4
  have O3 := O3.ext e24
  have O4 := P4
  have L4 := Nat.le_trans hB.size L4
  have hB := ethen hB e24
  refine ⟨(fun _ => False), ?_⟩
  refine ⟨_, ⟨(fun h_ => h_), (O3.at 0 rfl rfl)⟩, ?_⟩
  refine ⟨_, _, _, ⟨(fun h_ => h_), (O3.at 1 rfl rfl)⟩, ?_⟩
  refine ⟨_, _, _, ⟨(fun h_ => h_), (O3.at 2 rfl rfl)⟩, ?_⟩
  refine And.intro ?_ ?_
  · have H := H.1
    have hS25 := Chg.refl (fun _ => False) w23
    have O3 := O3.ext (Ext.drew _)
    have O4 := O4.ext (Ext.drew _)
    have hB := ethen hB (Ext.drew _)
    have hS25 := hS25.then (Ext.drew _)
    refine buildOwn el130 ([] : List D.Frame) (fun _ => by kernel_rfl) rfl (fun A26 w27 P5 e28 => ?_)
    have N5_3 := P5.apart_old O3.lt
    have N5_4 := P5.apart_old O4.lt
    have O3 := O3.ext e28
    have O4 := O4.ext e28
    have LB5 := (P5.mono hS25.size).low
    have O5 := P5.mono hB.size
    have hB := ethen hB e28
    have hS25 := hS25.then e28
    refine ⟨sameBut_chg hS25, ?_⟩
    refine And.intro ?_ ?_
    · have H := H.1
      obtain ⟨hl33, H⟩ := H
      refine appOwn slt29 slt29.under O5 (R0_1.ext hB) hB.size (by first | rfl | omega | (simp; done) | (simp; omega)) rfl hl33 (fun A29 c30 w31 P5 e32 => ?_)
      have N5_3_ := Apart.app N5_3 e32 O3.lt
      have O3 := O3.app e32 N5_3
      have N5_4_ := Apart.app N5_4 e32 O4.lt
      have O4 := O4.app e32 N5_4
      have N5_3 := N5_3_
      have N5_4 := N5_4_
      have hsz5_ := hS25.size
      have hS25 := hS25.app e32 (fun g h_ => (Or.inl (LB5 g h_)))
      have LB5 := e32.low LB5 hsz5_
      have hB := eapp hB e32 O5
      have O5 := P5
      refine ⟨sameBut_chg hS25, ?_⟩
      refine buildOwn el3 ([] : List Int) (fun _ => by kernel_rfl) rfl (fun A34 w35 P6 e36 => ?_)
      have N6_3 := P6.apart_old O3.lt
      have N6_4 := P6.apart_old O4.lt
      have N5_6 := Own.apart2_new O5 P6 (Nat.le_refl _)
      have O3 := O3.ext e36
      have O4 := O4.ext e36
      have O5 := O5.ext e36
      have LB6 := (P6.mono hS25.size).low
      have O6 := P6.mono hB.size
      have hB := ethen hB e36
      have hS25 := hS25.then e36
      refine ⟨sameBut_chg hS25, ?_⟩
      obtain ⟨hl41, H⟩ := H
      refine appOwn slt24 slt24.under O6 (R0_2.ext hB) hB.size (by first | rfl | omega | (simp; done) | (simp; omega)) rfl hl41 (fun A37 c38 w39 P6 e40 => ?_)
      have N6_3_ := Apart.app N6_3 e40 O3.lt
      have O3 := O3.app e40 N6_3
      have N6_4_ := Apart.app N6_4 e40 O4.lt
      have O4 := O4.app e40 N6_4
      have N5_6_ := Apart2.app N5_6 e40 O5
      have O5 := O5.app e40 N5_6
      have N6_3 := N6_3_
      have N6_4 := N6_4_
      have N5_6 := N5_6_
      have hsz6_ := hS25.size
      have hS25 := hS25.app e40 (fun g h_ => (Or.inl (LB6 g h_)))
      have LB6 := e40.low LB6 hsz6_
      have hB := eapp hB e40 O6
      have O6 := P6
      refine ⟨sameBut_chg hS25, ?_⟩
      refine stBlk O4 (o := 0) (cs' := #[(.int .i64 s0.Number), (.slice A29 (((([] : List D.Frame) ++ s0.Frames)).length) c30), (.slice A37 (((([] : List Int) ++ s0.Regs)).length) c38)]) rfl rfl (Nat.le_of_ble_eq_true rfl) rfl (fun w42 P4 e43 => ?_)
      have O3_ := O3.chg e43 N3_4
      have O5_ := O5.chg e43 N5_4
      have O6_ := O6.chg e43 N6_4
      have O3 := O3_
      have O5 := O5_
      have O6 := O6_
      have hB := echg hB e43 L4
      have O4 := P4
      refine ⟨_, (O4.at 0 rfl rfl), ?_⟩
      refine ⟨_, _, _, (O4.at 1 rfl rfl), ?_⟩
      refine ⟨_, _, _, (O4.at 2 rfl rfl), ?_⟩
      obtain rfl := hr.trans H.symm
      exact ⟨A29, c30, A37, c38, rfl, O5, O6, hB⟩
    refine And.intro ?_ ?_
    · have H := H.2.1
      refine buildOwn el3 ([] : List Int) (fun _ => by kernel_rfl) rfl (fun A44 w45 P7 e46 => ?_)
      have N7_3 := P7.apart_old O3.lt
      have N7_4 := P7.apart_old O4.lt
      have N5_7 := Own.apart2_new O5 P7 (Nat.le_refl _)
      have O3 := O3.ext e46
      have O4 := O4.ext e46
      have O5 := O5.ext e46
      have LB7 := (P7.mono hS25.size).low
      have O7 := P7.mono hB.size
      have hB := ethen hB e46
      have hS25 := hS25.then e46
      refine ⟨sameBut_chg hS25, ?_⟩
      obtain ⟨hl51, H⟩ := H
      refine appOwn slt29 slt29.under O5 (R0_1.ext hB) hB.size (by first | rfl | omega | (simp; done) | (simp; omega)) rfl hl51 (fun A47 c48 w49 P5 e50 => ?_)
      have N5_3_ := Apart.app N5_3 e50 O3.lt
      have O3 := O3.app e50 N5_3
      have N5_4_ := Apart.app N5_4 e50 O4.lt
      have O4 := O4.app e50 N5_4
      have N7_5_ := Apart2.app (N5_7).symm e50 O7
      have O7 := O7.app e50 (N5_7).symm
      have N5_3 := N5_3_
      have N5_4 := N5_4_
      have N7_5 := N7_5_
      have hsz5_ := hS25.size
      have hS25 := hS25.app e50 (fun g h_ => (Or.inl (LB5 g h_)))
      have LB5 := e50.low LB5 hsz5_
      have hB := eapp hB e50 O5
      have O5 := P5
      refine ⟨sameBut_chg hS25, ?_⟩
      obtain ⟨hl56, H⟩ := H
      refine appOwn slt24 slt24.under O7 (R0_2.ext hB) hB.size (by first | rfl | omega | (simp; done) | (simp; omega)) rfl hl56 (fun A52 c53 w54 P7 e55 => ?_)
      have N7_3_ := Apart.app N7_3 e55 O3.lt
      have O3 := O3.app e55 N7_3
      have N7_4_ := Apart.app N7_4 e55 O4.lt
      have O4 := O4.app e55 N7_4
      have N5_7_ := Apart2.app (N7_5).symm e55 O5
      have O5 := O5.app e55 (N7_5).symm
      have N7_3 := N7_3_
      have N7_4 := N7_4_
      have N5_7 := N5_7_
      have hsz7_ := hS25.size
      have hS25 := hS25.app e55 (fun g h_ => (Or.inl (LB7 g h_)))
      have LB7 := e55.low LB7 hsz7_
      have hB := eapp hB e55 O7
      have O7 := P7
      refine ⟨sameBut_chg hS25, ?_⟩
      refine stBlk O4 (o := 0) (cs' := #[(.int .i64 s0.Number), (.slice A47 (((([] : List D.Frame) ++ s0.Frames)).length) c48), (.slice A52 (((([] : List Int) ++ s0.Regs)).length) c53)]) rfl rfl (Nat.le_of_ble_eq_true rfl) rfl (fun w57 P4 e58 => ?_)
      have O3_ := O3.chg e58 N3_4
      have O5_ := O5.chg e58 N5_4
      have O7_ := O7.chg e58 N7_4
      have O3 := O3_
      have O5 := O5_
      have O7 := O7_
      have hB := echg hB e58 L4
      have O4 := P4
      refine ⟨_, (O4.at 0 rfl rfl), ?_⟩
      refine ⟨_, _, _, (O4.at 1 rfl rfl), ?_⟩
      refine ⟨_, _, _, (O4.at 2 rfl rfl), ?_⟩
      obtain rfl := hr.trans H.symm
      exact ⟨A47, c48, A52, c53, rfl, O5, O7, hB⟩
    exact trivial
  refine And.intro ?_ ?_
  · have H := H.2.1
    have hS25 := Chg.refl (fun _ => False) w23
    have O3 := O3.ext (Ext.drew _)
    have O4 := O4.ext (Ext.drew _)
    have hB := ethen hB (Ext.drew _)
    have hS25 := hS25.then (Ext.drew _)
    refine buildOwn el3 ([] : List Int) (fun _ => by kernel_rfl) rfl (fun A59 w60 P8 e61 => ?_)
    have N8_3 := P8.apart_old O3.lt
    have N8_4 := P8.apart_old O4.lt
    have O3 := O3.ext e61
    have O4 := O4.ext e61
    have LB8 := (P8.mono hS25.size).low
    have O8 := P8.mono hB.size
    have hB := ethen hB e61
    have hS25 := hS25.then e61
    refine ⟨sameBut_chg hS25, ?_⟩
    refine buildOwn el130 ([] : List D.Frame) (fun _ => by kernel_rfl) rfl (fun A62 w63 P9 e64 => ?_)
    have N9_3 := P9.apart_old O3.lt
    have N9_4 := P9.apart_old O4.lt
    have N8_9 := Own.apart2_new O8 P9 (Nat.le_refl _)
    have O3 := O3.ext e64
    have O4 := O4.ext e64
    have O8 := O8.ext e64
    have LB9 := (P9.mono hS25.size).low
    have O9 := P9.mono hB.size
    have hB := ethen hB e64
    have hS25 := hS25.then e64
    refine ⟨sameBut_chg hS25, ?_⟩
    obtain ⟨hl69, H⟩ := H
    refine appOwn slt29 slt29.under O9 (R0_1.ext hB) hB.size (by first | rfl | omega | (simp; done) | (simp; omega)) rfl hl69 (fun A65 c66 w67 P9 e68 => ?_)
    have N9_3_ := Apart.app N9_3 e68 O3.lt
    have O3 := O3.app e68 N9_3
    have N9_4_ := Apart.app N9_4 e68 O4.lt
    have O4 := O4.app e68 N9_4
    have N8_9_ := Apart2.app N8_9 e68 O8
    have O8 := O8.app e68 N8_9
    have N9_3 := N9_3_
    have N9_4 := N9_4_
    have N8_9 := N8_9_
    have hsz9_ := hS25.size
    have hS25 := hS25.app e68 (fun g h_ => (Or.inl (LB9 g h_)))
    have LB9 := e68.low LB9 hsz9_
    have hB := eapp hB e68 O9
    have O9 := P9
    refine ⟨sameBut_chg hS25, ?_⟩
    obtain ⟨hl74, H⟩ := H
    refine appOwn slt24 slt24.under O8 (R0_2.ext hB) hB.size (by first | rfl | omega | (simp; done) | (simp; omega)) rfl hl74 (fun A70 c71 w72 P8 e73 => ?_)
    have N8_3_ := Apart.app N8_3 e73 O3.lt
    have O3 := O3.app e73 N8_3
    have N8_4_ := Apart.app N8_4 e73 O4.lt
    have O4 := O4.app e73 N8_4
    have N9_8_ := Apart2.app (N8_9).symm e73 O9
    have O9 := O9.app e73 (N8_9).symm
    have N8_3 := N8_3_
    have N8_4 := N8_4_
    have N9_8 := N9_8_
    have hsz8_ := hS25.size
    have hS25 := hS25.app e73 (fun g h_ => (Or.inl (LB8 g h_)))
    have LB8 := e73.low LB8 hsz8_
    have hB := eapp hB e73 O8
    have O8 := P8
    refine ⟨sameBut_chg hS25, ?_⟩
    refine stBlk O4 (o := 0) (cs' := #[(.int .i64 s0.Number), (.slice A65 (((([] : List D.Frame) ++ s0.Frames)).length) c66), (.slice A70 (((([] : List Int) ++ s0.Regs)).length) c71)]) rfl rfl (Nat.le_of_ble_eq_true rfl) rfl (fun w75 P4 e76 => ?_)
    have O3_ := O3.chg e76 N3_4
    have O8_ := O8.chg e76 N8_4
    have O9_ := O9.chg e76 N9_4
    have O3 := O3_
    have O8 := O8_
    have O9 := O9_
    have hB := echg hB e76 L4
    have O4 := P4
    refine ⟨_, (O4.at 0 rfl rfl), ?_⟩
    refine ⟨_, _, _, (O4.at 1 rfl rfl), ?_⟩
    refine ⟨_, _, _, (O4.at 2 rfl rfl), ?_⟩
    obtain rfl := hr.trans H.symm
    exact ⟨A65, c66, A70, c71, rfl, O9, O8, hB⟩
  exact trivial
def slices_Clone_impl_Frame_impl_Frame.vc (A0 : Option Addr) (n0 : Nat) (c0 : Nat) (w : World) (K : Value → World → Prop) : Prop :=
  bcase (Option.isNone A0) (K (.slice none 0 0) w) (Run Tryz.prog (Instr.buildSlice 29 0 #[]) w fun v21 w22 => ∃ (A23 : Option Addr) (n24 c25 : Nat), v21 = .slice A23 n24 c25 ∧ Run Tryz.prog (Builtin.append_ #[29, 29] 29 #[(.slice A23 n24 c25), (.slice A0 n0 c0)]) w22 fun v26 w27 => ∃ (A28 : Option Addr) (n29 c30 : Nat), v26 = .slice A28 n29 c30 ∧ K (.slice A28 n29 c30) w27)

def slices_Clone_impl_Frame_impl_Frame.ann : Ann := (.seq .l (.seq (.seq .l (.two (.seq .l .l) .l)) (.seq .l .l)))

theorem slices_Clone_impl_Frame_impl_Frame.start {A0 : Option Addr} {n0 : Nat} {c0 : Nat} {w : World} {K : Value → World → Prop} (h : slices_Clone_impl_Frame_impl_Frame.vc A0 n0 c0 w K) : Cll Tryz.prog 139 #[(.slice A0 n0 c0)] w K :=
  vcF_sound mixed (fn := Tryz.f139) (by kernel_rfl) (by kernel_rfl) (an := slices_Clone_impl_Frame_impl_Frame.ann) (args := [(.slice A0 n0 c0)]) (Eq.mpr (by kernel_rfl) h)

theorem slices_Clone_impl_Frame_impl_Frame.con {xs0 : List D.Frame} {A0 : Option Addr} {c0 : Nat} {r : List D.Frame} {w : World} (hp : M.slices_Clone_impl_Frame_impl_Frame_pre xs0) (hr : r = M.slices_Clone_impl_Frame_impl_Frame xs0) (R0 : Row el130 w A0 xs0) (hc0 : xs0.length ≤ c0) :
    Cll Tryz.prog 139 #[(.slice A0 xs0.length c0)] w (fun v_ w_ => ∃ (A0_ : Option Addr) (c0_ : Nat), v_ = (.slice A0_ r.length c0_) ∧ Own el130 w_ w.heap.size A0_ c0_ r ∧ Ext w w_) := by
  have H := wp.slices_Clone_impl_Frame_impl_Frame.math xs0 hp
  have hB := Ext.refl w
  refine slices_Clone_impl_Frame_impl_Frame.start ?_
  unfold slices_Clone_impl_Frame_impl_Frame.vc
  unfold wp.slices_Clone_impl_Frame_impl_Frame at H
  obtain ⟨b21, hb22⟩ : ∃ b_, b_ = Option.isNone A0 := ⟨_, rfl⟩
  have H := H b21 (fun h_ => Row.isNone (R0.ext hB) (hb22.symm.trans h_))
  rw [← hb22]
  refine bcase_mk (fun hc31 => ?_) (fun hc31 => ?_)
  · have H := (bcase_iff.1 H).1 hc31
    obtain rfl := hr.trans H.symm
    exact ⟨none, 0, rfl, Own.nil, hB⟩
  have H := (bcase_iff.1 H).2 hc31
  refine buildOwn el130 ([] : List D.Frame) (fun _ => by kernel_rfl) rfl (fun A23 w24 P2 e25 => ?_)
  have O2 := P2.mono hB.size
  have hB := ethen hB e25
  obtain ⟨hl30, H⟩ := H
  refine appOwn slt29 slt29.under O2 (R0.ext hB) hB.size (by first | rfl | omega | (simp; done) | (simp; omega)) rfl hl30 (fun A26 c27 w28 P2 e29 => ?_)
  have hB := eapp hB e29 O2
  have O2 := P2
  obtain rfl := hr.trans H.symm
  exact ⟨A26, c27, rfl, O2, hB⟩
def impl_copyWarp.vc (x0_0 : Int) (A0_1 : Option Addr) (n0_1 : Nat) (c0_1 : Nat) (A0_2 : Option Addr) (n0_2 : Nat) (c0_2 : Nat) (w : World) (K : Value → World → Prop) : Prop :=
  newK w (.cells #[(.int .i64 x0_0), (.slice A0_1 n0_1 c0_1), (.slice A0_2 n0_2 c0_2)] 31) fun g21 w22 => newK w22 (.cells #[(.int .i64 0), (.slice none 0 0), (.slice none 0 0)] 31) fun g23 w24 => ((∃ (A25 : Option Addr) (n26 : Nat) (c27 : Nat), w24.drew.cell? (((⟨g21, 0, none⟩ : Addr).add 1).add 0) = some (.slice A25 n26 c27) ∧ ((Cll Tryz.prog 139 #[(.slice A25 n26 c27)] w24.drew fun v28 w29 => (∃ (A30 : Option Addr) (n31 : Nat) (c32 : Nat), v28 = (.slice A30 n31 c32) ∧ ((∃ (A33 : Option Addr) (n34 : Nat) (c35 : Nat), w29.cell? (((⟨g21, 0, none⟩ : Addr).add 2).add 0) = some (.slice A33 n34 c35) ∧ ((Cll Tryz.prog 128 #[(.slice A33 n34 c35)] w29 fun v36 w37 => (∃ (A38 : Option Addr) (n39 : Nat) (c40 : Nat), v36 = (.slice A38 n39 c40) ∧ ((stCells ((⟨g21, 0, none⟩ : Addr).add 1) [(.slice A30 n31 c32)] 0 w37 fun w41 => ((stCells ((⟨g21, 0, none⟩ : Addr).add 2) [(.slice A38 n39 c40)] 0 w41 fun w42 => ∃ (n43 : Int), w42.cell? ((⟨g21, 0, none⟩ : Addr).add 0) = some (.int .i64 n43) ∧ ∃ (A44 : Option Addr) (n45 : Nat) (c46 : Nat), w42.cell? ((⟨g21, 0, none⟩ : Addr).add 1) = some (.slice A44 n45 c46) ∧ ∃ (A47 : Option Addr) (n48 : Nat) (c49 : Nat), w42.cell? ((⟨g21, 0, none⟩ : Addr).add 2) = some (.slice A47 n48 c49) ∧ stCells (⟨g23, 0, none⟩ : Addr) [(.int .i64 n43), (.slice A44 n45 c46), (.slice A47 n48 c49)] 0 w42 fun w50 => ∃ (n51 : Int), w50.cell? ((⟨g23, 0, none⟩ : Addr).add 0) = some (.int .i64 n51) ∧ ∃ (A52 : Option Addr) (n53 : Nat) (c54 : Nat), w50.cell? ((⟨g23, 0, none⟩ : Addr).add 1) = some (.slice A52 n53 c54) ∧ ∃ (A55 : Option Addr) (n56 : Nat) (c57 : Nat), w50.cell? ((⟨g23, 0, none⟩ : Addr).add 2) = some (.slice A55 n56 c57) ∧ K (.agg #[(.int .i64 n51), (.slice A52 n53 c54), (.slice A55 n56 c57)]) w50) ∧ True)) ∧ True))) ∧ True)) ∧ True))) ∧ (∃ (A58 : Option Addr) (n59 : Nat) (c60 : Nat), w24.drew.cell? (((⟨g21, 0, none⟩ : Addr).add 2).add 0) = some (.slice A58 n59 c60) ∧ ((Cll Tryz.prog 139 #[(.slice A25 n26 c27)] w24.drew fun v61 w62 => (∃ (A63 : Option Addr) (n64 : Nat) (c65 : Nat), v61 = (.slice A63 n64 c65) ∧ ((Cll Tryz.prog 128 #[(.slice A58 n59 c60)] w62 fun v66 w67 => (∃ (A68 : Option Addr) (n69 : Nat) (c70 : Nat), v66 = (.slice A68 n69 c70) ∧ ((stCells ((⟨g21, 0, none⟩ : Addr).add 1) [(.slice A63 n64 c65)] 0 w67 fun w71 => ((stCells ((⟨g21, 0, none⟩ : Addr).add 2) [(.slice A68 n69 c70)] 0 w71 fun w72 => ∃ (n73 : Int), w72.cell? ((⟨g21, 0, none⟩ : Addr).add 0) = some (.int .i64 n73) ∧ ∃ (A74 : Option Addr) (n75 : Nat) (c76 : Nat), w72.cell? ((⟨g21, 0, none⟩ : Addr).add 1) = some (.slice A74 n75 c76) ∧ ∃ (A77 : Option Addr) (n78 : Nat) (c79 : Nat), w72.cell? ((⟨g21, 0, none⟩ : Addr).add 2) = some (.slice A77 n78 c79) ∧ stCells (⟨g23, 0, none⟩ : Addr) [(.int .i64 n73), (.slice A74 n75 c76), (.slice A77 n78 c79)] 0 w72 fun w80 => ∃ (n81 : Int), w80.cell? ((⟨g23, 0, none⟩ : Addr).add 0) = some (.int .i64 n81) ∧ ∃ (A82 : Option Addr) (n83 : Nat) (c84 : Nat), w80.cell? ((⟨g23, 0, none⟩ : Addr).add 1) = some (.slice A82 n83 c84) ∧ ∃ (A85 : Option Addr) (n86 : Nat) (c87 : Nat), w80.cell? ((⟨g23, 0, none⟩ : Addr).add 2) = some (.slice A85 n86 c87) ∧ K (.agg #[(.int .i64 n81), (.slice A82 n83 c84), (.slice A85 n86 c87)]) w80) ∧ True)) ∧ True))) ∧ True))) ∧ True)) ∧ True)) ∧ (∃ (A88 : Option Addr) (n89 : Nat) (c90 : Nat), w24.drew.cell? (((⟨g21, 0, none⟩ : Addr).add 2).add 0) = some (.slice A88 n89 c90) ∧ ((∃ (A91 : Option Addr) (n92 : Nat) (c93 : Nat), w24.drew.cell? (((⟨g21, 0, none⟩ : Addr).add 1).add 0) = some (.slice A91 n92 c93) ∧ ((Cll Tryz.prog 139 #[(.slice A91 n92 c93)] w24.drew fun v94 w95 => (∃ (A96 : Option Addr) (n97 : Nat) (c98 : Nat), v94 = (.slice A96 n97 c98) ∧ ((Cll Tryz.prog 128 #[(.slice A88 n89 c90)] w95 fun v99 w100 => (∃ (A101 : Option Addr) (n102 : Nat) (c103 : Nat), v99 = (.slice A101 n102 c103) ∧ ((stCells ((⟨g21, 0, none⟩ : Addr).add 1) [(.slice A96 n97 c98)] 0 w100 fun w104 => ((stCells ((⟨g21, 0, none⟩ : Addr).add 2) [(.slice A101 n102 c103)] 0 w104 fun w105 => ∃ (n106 : Int), w105.cell? ((⟨g21, 0, none⟩ : Addr).add 0) = some (.int .i64 n106) ∧ ∃ (A107 : Option Addr) (n108 : Nat) (c109 : Nat), w105.cell? ((⟨g21, 0, none⟩ : Addr).add 1) = some (.slice A107 n108 c109) ∧ ∃ (A110 : Option Addr) (n111 : Nat) (c112 : Nat), w105.cell? ((⟨g21, 0, none⟩ : Addr).add 2) = some (.slice A110 n111 c112) ∧ stCells (⟨g23, 0, none⟩ : Addr) [(.int .i64 n106), (.slice A107 n108 c109), (.slice A110 n111 c112)] 0 w105 fun w113 => ∃ (n114 : Int), w113.cell? ((⟨g23, 0, none⟩ : Addr).add 0) = some (.int .i64 n114) ∧ ∃ (A115 : Option Addr) (n116 : Nat) (c117 : Nat), w113.cell? ((⟨g23, 0, none⟩ : Addr).add 1) = some (.slice A115 n116 c117) ∧ ∃ (A118 : Option Addr) (n119 : Nat) (c120 : Nat), w113.cell? ((⟨g23, 0, none⟩ : Addr).add 2) = some (.slice A118 n119 c120) ∧ K (.agg #[(.int .i64 n114), (.slice A115 n116 c117), (.slice A118 n119 c120)]) w113) ∧ True)) ∧ True))) ∧ True))) ∧ True)) ∧ True)) ∧ True)

def impl_copyWarp.ann : Ann := (.seq .l (.seq .each (.seq .l .l)))

theorem impl_copyWarp.start {x0_0 : Int} {A0_1 : Option Addr} {n0_1 : Nat} {c0_1 : Nat} {A0_2 : Option Addr} {n0_2 : Nat} {c0_2 : Nat} {w : World} {K : Value → World → Prop} (h : impl_copyWarp.vc x0_0 A0_1 n0_1 c0_1 A0_2 n0_2 c0_2 w K) : Cll Tryz.prog 72 #[(.agg #[(.int .i64 x0_0), (.slice A0_1 n0_1 c0_1), (.slice A0_2 n0_2 c0_2)])] w K :=
  vcF_sound mixed (fn := Tryz.f72) (by kernel_rfl) (by kernel_rfl) (an := impl_copyWarp.ann) (args := [(.agg #[(.int .i64 x0_0), (.slice A0_1 n0_1 c0_1), (.slice A0_2 n0_2 c0_2)])]) (Eq.mpr (by kernel_rfl) h)

theorem impl_copyWarp.con {s0 : D.Warp} {A0_1 : Option Addr} {c0_1 : Nat} {A0_2 : Option Addr} {c0_2 : Nat} {r : D.Warp} {w : World} (hp : M.impl_copyWarp_pre s0) (hr : r = M.impl_copyWarp s0) (R0_1 : Row el130 w A0_1 s0.Frames) (hc0_1 : s0.Frames.length ≤ c0_1) (R0_2 : Row el3 w A0_2 s0.Regs) (hc0_2 : s0.Regs.length ≤ c0_2) :
    Cll Tryz.prog 72 #[(.agg #[(.int .i64 s0.Number), (.slice A0_1 s0.Frames.length c0_1), (.slice A0_2 s0.Regs.length c0_2)])] w (fun v_ w_ => ∃ (A0_ : Option Addr) (c0_ : Nat) (A1_ : Option Addr) (c1_ : Nat), v_ = (.agg #[(.int .i64 r.Number), (.slice A0_ r.Frames.length c0_), (.slice A1_ r.Regs.length c1_)]) ∧ Own el130 w_ w.heap.size A0_ c0_ r.Frames ∧ Own el3 w_ w.heap.size A1_ c1_ r.Regs ∧ Ext w w_) := by
  have H := wp.impl_copyWarp.math s0 hp
  have hB := Ext.refl w
  refine impl_copyWarp.start ?_
  unfold impl_copyWarp.vc
  unfold wp.impl_copyWarp at H
  refine newBlk (fun g3_ w21 L3 P3 e22 => ?_)
  have O3 := P3
  have L3 := Nat.le_trans hB.size L3
  have hB := ethen hB e22
  refine newBlk (fun g4_ w23 L4 P4 e24 => ?_)
  have N3_4 := O3.ne L4
  have O3 := O3.ext e24
  have O4 := P4
  have L4 := Nat.le_trans hB.size L4
  have hB := ethen hB e24
  have O3 := O3.ext (Ext.drew _)
  have O4 := O4.ext (Ext.drew _)
  have hB := ethen hB (Ext.drew _)
  refine And.intro ?_ ?_
  · have H := H.1
    refine ⟨_, _, _, (O3.at 1 rfl rfl), ?_⟩
    refine And.intro ?_ ?_
    · have H := H.1
      obtain ⟨hp27, H⟩ := H
      obtain ⟨r25, hr26⟩ : ∃ r_, r_ = M.slices_Clone_impl_Frame_impl_Frame s0.Frames := ⟨_, rfl⟩
      have H := H r25 hr26
      refine (slices_Clone_impl_Frame_impl_Frame.con hp27 hr26 (R0_1.ext hB) hc0_1).mono ?_
      rintro _ w28 ⟨A30, c31, rfl, P5, e29⟩
      have N5_3 := P5.apart_old O3.lt
      have N5_4 := P5.apart_old O4.lt
      have O3 := O3.ext e29
      have O4 := O4.ext e29
      have O5 := P5.mono hB.size
      have hB := ethen hB e29
      refine ⟨A30, r25.length, c31, rfl, ?_⟩
      refine and_t ?_
      refine ⟨_, _, _, (O3.at 2 rfl rfl), ?_⟩
      refine and_t ?_
      obtain ⟨hp34, H⟩ := H
      obtain ⟨r32, hr33⟩ : ∃ r_, r_ = M.slices_Clone_int_int s0.Regs := ⟨_, rfl⟩
      have H := H r32 hr33
      refine (slices_Clone_int_int.con hp34 hr33 (R0_2.ext hB) hc0_2).mono ?_
      rintro _ w35 ⟨A37, c38, rfl, P6, e36⟩
      have N6_3 := P6.apart_old O3.lt
      have N6_4 := P6.apart_old O4.lt
      have N5_6 := Own.apart2_new O5 P6 (Nat.le_refl _)
      have O3 := O3.ext e36
      have O4 := O4.ext e36
      have O5 := O5.ext e36
      have O6 := P6.mono hB.size
      have hB := ethen hB e36
      refine ⟨A37, r32.length, c38, rfl, ?_⟩
      refine and_t ?_
      refine stBlk O3 (o := 1) (cs' := #[(.int .i64 s0.Number), (.slice A30 r25.length c31), (.slice A0_2 s0.Regs.length c0_2)]) rfl rfl (Nat.le_of_ble_eq_true rfl) rfl (fun w39 P3 e40 => ?_)
      have O4_ := O4.chg e40 (N3_4).symm
      have O5_ := O5.chg e40 N5_3
      have O6_ := O6.chg e40 N6_3
      have O4 := O4_
      have O5 := O5_
      have O6 := O6_
      have hB := echg hB e40 L3
      have O3 := P3
      refine and_t ?_
      refine stBlk O3 (o := 2) (cs' := #[(.int .i64 s0.Number), (.slice A30 r25.length c31), (.slice A37 r32.length c38)]) rfl rfl (Nat.le_of_ble_eq_true rfl) rfl (fun w41 P3 e42 => ?_)
      have O4_ := O4.chg e42 (N3_4).symm
      have O5_ := O5.chg e42 N5_3
      have O6_ := O6.chg e42 N6_3
      have O4 := O4_
      have O5 := O5_
      have O6 := O6_
      have hB := echg hB e42 L3
      have O3 := P3
      refine ⟨_, (O3.at 0 rfl rfl), ?_⟩
      refine ⟨_, _, _, (O3.at 1 rfl rfl), ?_⟩
      refine ⟨_, _, _, (O3.at 2 rfl rfl), ?_⟩
      refine stBlk O4 (o := 0) (cs' := #[(.int .i64 s0.Number), (.slice A30 r25.length c31), (.slice A37 r32.length c38)]) rfl rfl (Nat.le_of_ble_eq_true rfl) rfl (fun w43 P4 e44 => ?_)
      have O3_ := O3.chg e44 N3_4
      have O5_ := O5.chg e44 N5_4
      have O6_ := O6.chg e44 N6_4
      have O3 := O3_
      have O5 := O5_
      have O6 := O6_
      have hB := echg hB e44 L4
      have O4 := P4
      refine ⟨_, (O4.at 0 rfl rfl), ?_⟩
      refine ⟨_, _, _, (O4.at 1 rfl rfl), ?_⟩
      refine ⟨_, _, _, (O4.at 2 rfl rfl), ?_⟩
      obtain rfl := hr.trans H.symm
      exact ⟨A30, c31, A37, c38, rfl, O5, O6, hB⟩
    refine And.intro ?_ ?_
    · have H := H.2.1
      refine ⟨_, _, _, (O3.at 2 rfl rfl), ?_⟩
      refine and_t ?_
      obtain ⟨hp47, H⟩ := H
      obtain ⟨r45, hr46⟩ : ∃ r_, r_ = M.slices_Clone_impl_Frame_impl_Frame s0.Frames := ⟨_, rfl⟩
      have H := H r45 hr46
      refine (slices_Clone_impl_Frame_impl_Frame.con hp47 hr46 (R0_1.ext hB) hc0_1).mono ?_
      rintro _ w48 ⟨A50, c51, rfl, P7, e49⟩
      have N7_3 := P7.apart_old O3.lt
      have N7_4 := P7.apart_old O4.lt
      have O3 := O3.ext e49
      have O4 := O4.ext e49
      have O7 := P7.mono hB.size
      have hB := ethen hB e49
      refine ⟨A50, r45.length, c51, rfl, ?_⟩
      refine and_t ?_
      obtain ⟨hp54, H⟩ := H
      obtain ⟨r52, hr53⟩ : ∃ r_, r_ = M.slices_Clone_int_int s0.Regs := ⟨_, rfl⟩
      have H := H r52 hr53
      refine (slices_Clone_int_int.con hp54 hr53 (R0_2.ext hB) hc0_2).mono ?_
      rintro _ w55 ⟨A57, c58, rfl, P8, e56⟩
      have N8_3 := P8.apart_old O3.lt
      have N8_4 := P8.apart_old O4.lt
      have N7_8 := Own.apart2_new O7 P8 (Nat.le_refl _)
      have O3 := O3.ext e56
      have O4 := O4.ext e56
      have O7 := O7.ext e56
      have O8 := P8.mono hB.size
      have hB := ethen hB e56
      refine ⟨A57, r52.length, c58, rfl, ?_⟩
      refine and_t ?_
      refine stBlk O3 (o := 1) (cs' := #[(.int .i64 s0.Number), (.slice A50 r45.length c51), (.slice A0_2 s0.Regs.length c0_2)]) rfl rfl (Nat.le_of_ble_eq_true rfl) rfl (fun w59 P3 e60 => ?_)
      have O4_ := O4.chg e60 (N3_4).symm
      have O7_ := O7.chg e60 N7_3
      have O8_ := O8.chg e60 N8_3
      have O4 := O4_
      have O7 := O7_
      have O8 := O8_
      have hB := echg hB e60 L3
      have O3 := P3
      refine and_t ?_
      refine stBlk O3 (o := 2) (cs' := #[(.int .i64 s0.Number), (.slice A50 r45.length c51), (.slice A57 r52.length c58)]) rfl rfl (Nat.le_of_ble_eq_true rfl) rfl (fun w61 P3 e62 => ?_)
      have O4_ := O4.chg e62 (N3_4).symm
      have O7_ := O7.chg e62 N7_3
      have O8_ := O8.chg e62 N8_3
      have O4 := O4_
      have O7 := O7_
      have O8 := O8_
      have hB := echg hB e62 L3
      have O3 := P3
      refine ⟨_, (O3.at 0 rfl rfl), ?_⟩
      refine ⟨_, _, _, (O3.at 1 rfl rfl), ?_⟩
      refine ⟨_, _, _, (O3.at 2 rfl rfl), ?_⟩
      refine stBlk O4 (o := 0) (cs' := #[(.int .i64 s0.Number), (.slice A50 r45.length c51), (.slice A57 r52.length c58)]) rfl rfl (Nat.le_of_ble_eq_true rfl) rfl (fun w63 P4 e64 => ?_)
      have O3_ := O3.chg e64 N3_4
      have O7_ := O7.chg e64 N7_4
      have O8_ := O8.chg e64 N8_4
      have O3 := O3_
      have O7 := O7_
      have O8 := O8_
      have hB := echg hB e64 L4
      have O4 := P4
      refine ⟨_, (O4.at 0 rfl rfl), ?_⟩
      refine ⟨_, _, _, (O4.at 1 rfl rfl), ?_⟩
      refine ⟨_, _, _, (O4.at 2 rfl rfl), ?_⟩
      obtain rfl := hr.trans H.symm
      exact ⟨A50, c51, A57, c58, rfl, O7, O8, hB⟩
    exact trivial
  refine And.intro ?_ ?_
  · have H := H.2.1
    refine ⟨_, _, _, (O3.at 2 rfl rfl), ?_⟩
    refine and_t ?_
    refine ⟨_, _, _, (O3.at 1 rfl rfl), ?_⟩
    refine and_t ?_
    obtain ⟨hp67, H⟩ := H
    obtain ⟨r65, hr66⟩ : ∃ r_, r_ = M.slices_Clone_impl_Frame_impl_Frame s0.Frames := ⟨_, rfl⟩
    have H := H r65 hr66
    refine (slices_Clone_impl_Frame_impl_Frame.con hp67 hr66 (R0_1.ext hB) hc0_1).mono ?_
    rintro _ w68 ⟨A70, c71, rfl, P9, e69⟩
    have N9_3 := P9.apart_old O3.lt
    have N9_4 := P9.apart_old O4.lt
    have O3 := O3.ext e69
    have O4 := O4.ext e69
    have O9 := P9.mono hB.size
    have hB := ethen hB e69
    refine ⟨A70, r65.length, c71, rfl, ?_⟩
    refine and_t ?_
    obtain ⟨hp74, H⟩ := H
    obtain ⟨r72, hr73⟩ : ∃ r_, r_ = M.slices_Clone_int_int s0.Regs := ⟨_, rfl⟩
    have H := H r72 hr73
    refine (slices_Clone_int_int.con hp74 hr73 (R0_2.ext hB) hc0_2).mono ?_
    rintro _ w75 ⟨A77, c78, rfl, P10, e76⟩
    have N10_3 := P10.apart_old O3.lt
    have N10_4 := P10.apart_old O4.lt
    have N9_10 := Own.apart2_new O9 P10 (Nat.le_refl _)
    have O3 := O3.ext e76
    have O4 := O4.ext e76
    have O9 := O9.ext e76
    have O10 := P10.mono hB.size
    have hB := ethen hB e76
    refine ⟨A77, r72.length, c78, rfl, ?_⟩
    refine and_t ?_
    refine stBlk O3 (o := 1) (cs' := #[(.int .i64 s0.Number), (.slice A70 r65.length c71), (.slice A0_2 s0.Regs.length c0_2)]) rfl rfl (Nat.le_of_ble_eq_true rfl) rfl (fun w79 P3 e80 => ?_)
    have O4_ := O4.chg e80 (N3_4).symm
    have O9_ := O9.chg e80 N9_3
    have O10_ := O10.chg e80 N10_3
    have O4 := O4_
    have O9 := O9_
    have O10 := O10_
    have hB := echg hB e80 L3
    have O3 := P3
    refine and_t ?_
    refine stBlk O3 (o := 2) (cs' := #[(.int .i64 s0.Number), (.slice A70 r65.length c71), (.slice A77 r72.length c78)]) rfl rfl (Nat.le_of_ble_eq_true rfl) rfl (fun w81 P3 e82 => ?_)
    have O4_ := O4.chg e82 (N3_4).symm
    have O9_ := O9.chg e82 N9_3
    have O10_ := O10.chg e82 N10_3
    have O4 := O4_
    have O9 := O9_
    have O10 := O10_
    have hB := echg hB e82 L3
    have O3 := P3
    refine ⟨_, (O3.at 0 rfl rfl), ?_⟩
    refine ⟨_, _, _, (O3.at 1 rfl rfl), ?_⟩
    refine ⟨_, _, _, (O3.at 2 rfl rfl), ?_⟩
    refine stBlk O4 (o := 0) (cs' := #[(.int .i64 s0.Number), (.slice A70 r65.length c71), (.slice A77 r72.length c78)]) rfl rfl (Nat.le_of_ble_eq_true rfl) rfl (fun w83 P4 e84 => ?_)
    have O3_ := O3.chg e84 N3_4
    have O9_ := O9.chg e84 N9_4
    have O10_ := O10.chg e84 N10_4
    have O3 := O3_
    have O9 := O9_
    have O10 := O10_
    have hB := echg hB e84 L4
    have O4 := P4
    refine ⟨_, (O4.at 0 rfl rfl), ?_⟩
    refine ⟨_, _, _, (O4.at 1 rfl rfl), ?_⟩
    refine ⟨_, _, _, (O4.at 2 rfl rfl), ?_⟩
    obtain rfl := hr.trans H.symm
    exact ⟨A70, c71, A77, c78, rfl, O9, O10, hB⟩
  exact trivial
def impl_Warp_lane.vc (x0_0 : Int) (A0_1 : Option Addr) (n0_1 : Nat) (c0_1 : Nat) (A0_2 : Option Addr) (n0_2 : Nat) (c0_2 : Nat) (x1 : Int) (w : World) (K : Value → World → Prop) : Prop :=
  newK w (.cells #[(.int .i64 x0_0), (.slice A0_1 n0_1 c0_1), (.slice A0_2 n0_2 c0_2)] 31) fun g21 w22 => ∃ (A23 : Option Addr) (n24 : Nat) (c25 : Nat), w22.cell? (((⟨g21, 0, none⟩ : Addr).add 2).add 0) = some (.slice A23 n24 c25) ∧ ((0 : Int) ≤ (IntKind.wrap .i64 ((IntKind.wrap .i64 (x1 + 1)) * 4)) ∧ (IntKind.wrap .i64 ((IntKind.wrap .i64 (x1 + 1)) * 4)) ≤ ((c25 : Nat) : Int) ∧ ((0 : Int) ≤ (IntKind.wrap .i64 (x1 * 4)) ∧ (IntKind.wrap .i64 (x1 * 4)) ≤ ((((IntKind.wrap .i64 ((IntKind.wrap .i64 (x1 + 1)) * 4)).toNat) : Nat) : Int) ∧ K (.slice (if c25 = ((IntKind.wrap .i64 (x1 * 4)).toNat) then A23 else A23.map (·.add (((IntKind.wrap .i64 (x1 * 4)).toNat) * szOf Tryz.prog 3))) (((IntKind.wrap .i64 ((IntKind.wrap .i64 (x1 + 1)) * 4)).toNat) - ((IntKind.wrap .i64 (x1 * 4)).toNat)) (c25 - ((IntKind.wrap .i64 (x1 * 4)).toNat))) w22))

def impl_Warp_lane.ann : Ann := (.seq .l (.seq .l .l))

theorem impl_Warp_lane.vc_eq (x0_0 : Int) (A0_1 : Option Addr) (n0_1 : Nat) (c0_1 : Nat) (A0_2 : Option Addr) (n0_2 : Nat) (c0_2 : Nat) (x1 : Int) (w : World) (K : Value → World → Prop) : vcF Tryz.prog Tryz.f171 impl_Warp_lane.ann [(.agg #[(.int .i64 x0_0), (.slice A0_1 n0_1 c0_1), (.slice A0_2 n0_2 c0_2)]), (.int .i64 x1)] K w = impl_Warp_lane.vc x0_0 A0_1 n0_1 c0_1 A0_2 n0_2 c0_2 x1 w K := by kernel_rfl

theorem impl_Warp_lane.start {x0_0 : Int} {A0_1 : Option Addr} {n0_1 : Nat} {c0_1 : Nat} {A0_2 : Option Addr} {n0_2 : Nat} {c0_2 : Nat} {x1 : Int} {w : World} {K : Value → World → Prop} (h : impl_Warp_lane.vc x0_0 A0_1 n0_1 c0_1 A0_2 n0_2 c0_2 x1 w K) : Cll Tryz.prog 171 #[(.agg #[(.int .i64 x0_0), (.slice A0_1 n0_1 c0_1), (.slice A0_2 n0_2 c0_2)]), (.int .i64 x1)] w K :=
  vcF_sound mixed (fn := Tryz.f171) (by kernel_rfl) (by kernel_rfl) (an := impl_Warp_lane.ann) (args := [(.agg #[(.int .i64 x0_0), (.slice A0_1 n0_1 c0_1), (.slice A0_2 n0_2 c0_2)]), (.int .i64 x1)]) (by rw [impl_Warp_lane.vc_eq]; exact h)
end Go.V
