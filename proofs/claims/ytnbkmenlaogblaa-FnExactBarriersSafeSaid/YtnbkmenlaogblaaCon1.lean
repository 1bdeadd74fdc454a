import Derived.Test.YtnbkmenlaogblaaMath1
import Derived.Test.YtnbkmenlaogblaaSeat
namespace Go.V
open Go.Proofs
set_option linter.unusedVariables false
set_option linter.unusedSimpArgs false
set_option maxRecDepth 100000

def impl_within.vc (x0 : Int) (x1 : Int) (x2 : Int) (w : World) (K : Value → World → Prop) : Prop :=
  bcase (decide (x0 ≥ x1)) (K (.bool (decide (x0 ≤ x2))) w) (K (.bool false) w)

def impl_within.ann : Ann := (.seq .l (.seq .l .l))

theorem impl_within.vc_eq (x0 : Int) (x1 : Int) (x2 : Int) (w : World) (K : Value → World → Prop) : vcF Try.prog Try.f94 impl_within.ann [(.int .i64 x0), (.int .i64 x1), (.int .i64 x2)] K w = impl_within.vc x0 x1 x2 w K := by kernel_rfl

theorem impl_within.start {x0 : Int} {x1 : Int} {x2 : Int} {w : World} {K : Value → World → Prop} (h : impl_within.vc x0 x1 x2 w K) : Cll Try.prog 94 #[(.int .i64 x0), (.int .i64 x1), (.int .i64 x2)] w K :=
  vcF_sound mixed (fn := Try.f94) (by kernel_rfl) (by kernel_rfl) (an := impl_within.ann) (args := [(.int .i64 x0), (.int .i64 x1), (.int .i64 x2)]) (by rw [impl_within.vc_eq]; exact h)

theorem impl_within.con {x0 : Int} {x1 : Int} {x2 : Int} {r : Bool} {w : World} (hr : r = M.impl_within x0 x1 x2)  :
    Cll Try.prog 94 #[(.int .i64 x0), (.int .i64 x1), (.int .i64 x2)] w (fun v_ w_ => v_ = (.bool r) ∧ Ext w w_) := by
  have H := wp.impl_within.math x0 x1 x2
  have hB := Ext.refl w
  refine impl_within.start ?_
  unfold impl_within.vc
  unfold wp.impl_within at H
  refine bcase_mk (fun hc21 => ?_) (fun hc21 => ?_)
  · have H := (bcase_iff.1 H).1 hc21
    obtain rfl := hr.trans H.symm
    exact ⟨rfl, hB⟩
  · have H := (bcase_iff.1 H).2 hc21
    obtain rfl := hr.trans H.symm
    exact ⟨rfl, hB⟩

def spec_l01In.vc (x0 : Int) (x1 : Int) (x2 : Int) (w : World) (K : Value → World → Prop) : Prop :=
  bcase (decide (x0 ≥ x1)) (K (.bool (decide (x0 ≤ x2))) w) (K (.bool false) w)

def spec_l01In.ann : Ann := (.seq .l (.seq .l .l))

theorem spec_l01In.vc_eq (x0 : Int) (x1 : Int) (x2 : Int) (w : World) (K : Value → World → Prop) : vcF Try.prog Try.f103 spec_l01In.ann [(.int .i64 x0), (.int .i64 x1), (.int .i64 x2)] K w = spec_l01In.vc x0 x1 x2 w K := by kernel_rfl

theorem spec_l01In.start {x0 : Int} {x1 : Int} {x2 : Int} {w : World} {K : Value → World → Prop} (h : spec_l01In.vc x0 x1 x2 w K) : Cll Try.prog 103 #[(.int .i64 x0), (.int .i64 x1), (.int .i64 x2)] w K :=
  vcF_sound mixed (fn := Try.f103) (by kernel_rfl) (by kernel_rfl) (an := spec_l01In.ann) (args := [(.int .i64 x0), (.int .i64 x1), (.int .i64 x2)]) (by rw [spec_l01In.vc_eq]; exact h)

theorem spec_l01In.con {x0 : Int} {x1 : Int} {x2 : Int} {r : Bool} {w : World} (hr : r = M.spec_l01In x0 x1 x2)  :
    Cll Try.prog 103 #[(.int .i64 x0), (.int .i64 x1), (.int .i64 x2)] w (fun v_ w_ => v_ = (.bool r) ∧ Ext w w_) := by
  have H := wp.spec_l01In.math x0 x1 x2
  have hB := Ext.refl w
  refine spec_l01In.start ?_
  unfold spec_l01In.vc
  unfold wp.spec_l01In at H
  refine bcase_mk (fun hc21 => ?_) (fun hc21 => ?_)
  · have H := (bcase_iff.1 H).1 hc21
    obtain rfl := hr.trans H.symm
    exact ⟨rfl, hB⟩
  · have H := (bcase_iff.1 H).2 hc21
    obtain rfl := hr.trans H.symm
    exact ⟨rfl, hB⟩

def impl_IsWord.vc (x0 : Int) (w : World) (K : Value → World → Prop) : Prop :=
  Cll Try.prog 94 #[(.int .i64 x0), (.int .i64 0), (.int .i64 65535)] w fun v21 w22 => (∃ (b23 : Bool), v21 = (.bool b23) ∧ K (.bool b23) w22)

def impl_IsWord.ann : Ann := (.seq .l (.seq .l .l))

theorem impl_IsWord.vc_eq (x0 : Int) (w : World) (K : Value → World → Prop) : vcF Try.prog Try.f164 impl_IsWord.ann [(.int .i64 x0)] K w = impl_IsWord.vc x0 w K := by kernel_rfl

theorem impl_IsWord.start {x0 : Int} {w : World} {K : Value → World → Prop} (h : impl_IsWord.vc x0 w K) : Cll Try.prog 164 #[(.int .i64 x0)] w K :=
  vcF_sound mixed (fn := Try.f164) (by kernel_rfl) (by kernel_rfl) (an := impl_IsWord.ann) (args := [(.int .i64 x0)]) (by rw [impl_IsWord.vc_eq]; exact h)

theorem impl_IsWord.con {x0 : Int} {r : Bool} {w : World} (hr : r = M.impl_IsWord x0)  :
    Cll Try.prog 164 #[(.int .i64 x0)] w (fun v_ w_ => v_ = (.bool r) ∧ Ext w w_) := by
  have H := wp.impl_IsWord.math x0
  have hB := Ext.refl w
  refine impl_IsWord.start ?_
  unfold impl_IsWord.vc
  unfold wp.impl_IsWord at H
  obtain ⟨r21, hr22⟩ : ∃ r_, r_ = M.impl_within x0 0 65535 := ⟨_, rfl⟩
  have H := H r21 hr22
  refine (impl_within.con hr22 ).mono ?_
  rintro _ w24 ⟨rfl, e25⟩
  have hB := ethen hB e25
  refine ⟨r21, rfl, ?_⟩
  obtain rfl := hr.trans H.symm
  exact ⟨rfl, hB⟩

def spec_IsWord.vc (x0 : Int) (w : World) (K : Value → World → Prop) : Prop :=
  Cll Try.prog 103 #[(.int .i64 x0), (.int .i64 0), (.int .i64 65535)] w fun v21 w22 => (∃ (b23 : Bool), v21 = (.bool b23) ∧ K (.bool b23) w22)

def spec_IsWord.ann : Ann := (.seq .l (.seq .l .l))

theorem spec_IsWord.vc_eq (x0 : Int) (w : World) (K : Value → World → Prop) : vcF Try.prog Try.f120 spec_IsWord.ann [(.int .i64 x0)] K w = spec_IsWord.vc x0 w K := by kernel_rfl

theorem spec_IsWord.start {x0 : Int} {w : World} {K : Value → World → Prop} (h : spec_IsWord.vc x0 w K) : Cll Try.prog 120 #[(.int .i64 x0)] w K :=
  vcF_sound mixed (fn := Try.f120) (by kernel_rfl) (by kernel_rfl) (an := spec_IsWord.ann) (args := [(.int .i64 x0)]) (by rw [spec_IsWord.vc_eq]; exact h)

theorem spec_IsWord.con {x0 : Int} {r : Bool} {w : World} (hr : r = M.spec_IsWord x0)  :
    Cll Try.prog 120 #[(.int .i64 x0)] w (fun v_ w_ => v_ = (.bool r) ∧ Ext w w_) := by
  have H := wp.spec_IsWord.math x0
  have hB := Ext.refl w
  refine spec_IsWord.start ?_
  unfold spec_IsWord.vc
  unfold wp.spec_IsWord at H
  obtain ⟨r21, hr22⟩ : ∃ r_, r_ = M.spec_l01In x0 0 65535 := ⟨_, rfl⟩
  have H := H r21 hr22
  refine (spec_l01In.con hr22 ).mono ?_
  rintro _ w24 ⟨rfl, e25⟩
  have hB := ethen hB e25
  refine ⟨r21, rfl, ?_⟩
  obtain rfl := hr.trans H.symm
  exact ⟨rfl, hB⟩

def impl_IsMask.vc (x0 : Int) (w : World) (K : Value → World → Prop) : Prop :=
  Cll Try.prog 94 #[(.int .i64 x0), (.int .i64 0), (.int .i64 255)] w fun v21 w22 => (∃ (b23 : Bool), v21 = (.bool b23) ∧ K (.bool b23) w22)

def impl_IsMask.ann : Ann := (.seq .l (.seq .l .l))

theorem impl_IsMask.vc_eq (x0 : Int) (w : World) (K : Value → World → Prop) : vcF Try.prog Try.f186 impl_IsMask.ann [(.int .i64 x0)] K w = impl_IsMask.vc x0 w K := by kernel_rfl

theorem impl_IsMask.start {x0 : Int} {w : World} {K : Value → World → Prop} (h : impl_IsMask.vc x0 w K) : Cll Try.prog 186 #[(.int .i64 x0)] w K :=
  vcF_sound mixed (fn := Try.f186) (by kernel_rfl) (by kernel_rfl) (an := impl_IsMask.ann) (args := [(.int .i64 x0)]) (by rw [impl_IsMask.vc_eq]; exact h)

theorem impl_IsMask.con {x0 : Int} {r : Bool} {w : World} (hr : r = M.impl_IsMask x0)  :
    Cll Try.prog 186 #[(.int .i64 x0)] w (fun v_ w_ => v_ = (.bool r) ∧ Ext w w_) := by
  have H := wp.impl_IsMask.math x0
  have hB := Ext.refl w
  refine impl_IsMask.start ?_
  unfold impl_IsMask.vc
  unfold wp.impl_IsMask at H
  obtain ⟨r21, hr22⟩ : ∃ r_, r_ = M.impl_within x0 0 255 := ⟨_, rfl⟩
  have H := H r21 hr22
  refine (impl_within.con hr22 ).mono ?_
  rintro _ w24 ⟨rfl, e25⟩
  have hB := ethen hB e25
  refine ⟨r21, rfl, ?_⟩
  obtain rfl := hr.trans H.symm
  exact ⟨rfl, hB⟩

def impl_isLane.vc (x0 : Int) (w : World) (K : Value → World → Prop) : Prop :=
  Cll Try.prog 94 #[(.int .i64 x0), (.int .i64 0), (.int .i64 7)] w fun v21 w22 => (∃ (b23 : Bool), v21 = (.bool b23) ∧ K (.bool b23) w22)

def impl_isLane.ann : Ann := (.seq .l (.seq .l .l))

theorem impl_isLane.vc_eq (x0 : Int) (w : World) (K : Value → World → Prop) : vcF Try.prog Try.f227 impl_isLane.ann [(.int .i64 x0)] K w = impl_isLane.vc x0 w K := by kernel_rfl

theorem impl_isLane.start {x0 : Int} {w : World} {K : Value → World → Prop} (h : impl_isLane.vc x0 w K) : Cll Try.prog 227 #[(.int .i64 x0)] w K :=
  vcF_sound mixed (fn := Try.f227) (by kernel_rfl) (by kernel_rfl) (an := impl_isLane.ann) (args := [(.int .i64 x0)]) (by rw [impl_isLane.vc_eq]; exact h)

theorem impl_isLane.con {x0 : Int} {r : Bool} {w : World} (hr : r = M.impl_isLane x0)  :
    Cll Try.prog 227 #[(.int .i64 x0)] w (fun v_ w_ => v_ = (.bool r) ∧ Ext w w_) := by
  have H := wp.impl_isLane.math x0
  have hB := Ext.refl w
  refine impl_isLane.start ?_
  unfold impl_isLane.vc
  unfold wp.impl_isLane at H
  obtain ⟨r21, hr22⟩ : ∃ r_, r_ = M.impl_within x0 0 7 := ⟨_, rfl⟩
  have H := H r21 hr22
  refine (impl_within.con hr22 ).mono ?_
  rintro _ w24 ⟨rfl, e25⟩
  have hB := ethen hB e25
  refine ⟨r21, rfl, ?_⟩
  obtain rfl := hr.trans H.symm
  exact ⟨rfl, hB⟩

def impl_HasLane.vc (x0 : Int) (x1 : Int) (w : World) (K : Value → World → Prop) : Prop :=
  Cll Try.prog 186 #[(.int .i64 x0)] w fun v21 w22 => (∃ (b23 : Bool), v21 = (.bool b23) ∧ bcase b23 (Cll Try.prog 227 #[(.int .i64 x1)] w22 fun v24 w25 => (∃ (b26 : Bool), v24 = (.bool b26) ∧ bcase b26 (((0 : Int) ≤ x1 ∧ K (.bool ((bitAnd .i64 (Int.fdiv x0 (2 ^ (min (x1.toNat) (IntKind.bits .i64)))) 1) == 1)) w25)) (K (.bool false) w25))) (K (.bool false) w22))

def impl_HasLane.ann : Ann := (.seq .l (.seq .l .l))

theorem impl_HasLane.vc_eq (x0 : Int) (x1 : Int) (w : World) (K : Value → World → Prop) : vcF Try.prog Try.f212 impl_HasLane.ann [(.int .i64 x0), (.int .i64 x1)] K w = impl_HasLane.vc x0 x1 w K := by kernel_rfl

theorem impl_HasLane.start {x0 : Int} {x1 : Int} {w : World} {K : Value → World → Prop} (h : impl_HasLane.vc x0 x1 w K) : Cll Try.prog 212 #[(.int .i64 x0), (.int .i64 x1)] w K :=
  vcF_sound mixed (fn := Try.f212) (by kernel_rfl) (by kernel_rfl) (an := impl_HasLane.ann) (args := [(.int .i64 x0), (.int .i64 x1)]) (by rw [impl_HasLane.vc_eq]; exact h)

theorem impl_HasLane.con {x0 : Int} {x1 : Int} {r : Bool} {w : World} (hr : r = M.impl_HasLane x0 x1)  :
    Cll Try.prog 212 #[(.int .i64 x0), (.int .i64 x1)] w (fun v_ w_ => v_ = (.bool r) ∧ Ext w w_) := by
  have H := wp.impl_HasLane.math x0 x1
  have hB := Ext.refl w
  refine impl_HasLane.start ?_
  unfold impl_HasLane.vc
  unfold wp.impl_HasLane at H
  obtain ⟨r21, hr22⟩ : ∃ r_, r_ = M.impl_IsMask x0 := ⟨_, rfl⟩
  have H := H r21 hr22
  refine (impl_IsMask.con hr22 ).mono ?_
  rintro _ w24 ⟨rfl, e25⟩
  have hB := ethen hB e25
  refine ⟨r21, rfl, ?_⟩
  refine bcase_mk (fun hc33 => ?_) (fun hc33 => ?_)
  · have H := (bcase_iff.1 H).1 hc33
    obtain ⟨r26, hr27⟩ : ∃ r_, r_ = M.impl_isLane x1 := ⟨_, rfl⟩
    have H := H r26 hr27
    refine (impl_isLane.con hr27 ).mono ?_
    rintro _ w29 ⟨rfl, e30⟩
    have hB := ethen hB e30
    refine ⟨r26, rfl, ?_⟩
    refine bcase_mk (fun hc32 => ?_) (fun hc32 => ?_)
    · have H := (bcase_iff.1 H).1 hc32
      obtain ⟨hc31, H⟩ := H
      refine ⟨hc31, ?_⟩
      obtain rfl := hr.trans H.symm
      exact ⟨rfl, hB⟩
    · have H := (bcase_iff.1 H).2 hc32
      obtain rfl := hr.trans H.symm
      exact ⟨rfl, hB⟩
  · have H := (bcase_iff.1 H).2 hc33
    obtain rfl := hr.trans H.symm
    exact ⟨rfl, hB⟩

def impl_LanesOf.vc (x0 : Int) (w : World) (K : Value → World → Prop) : Prop :=
  Run Try.prog (Instr.buildSlice 24 0 #[]) w fun v21 w22 => ∃ (A23 : Option Addr) (n24 c25 : Nat), v21 = .slice A23 n24 c25 ∧ LoopT (σ := (Option Addr × Nat × Nat) × Int × Unit) (fun z26 w27 next28 => bcase (decide (z26.2.1 < 8)) (Cll Try.prog 212 #[(.int .i64 x0), (.int .i64 z26.2.1)] w27 fun v29 w30 => (∃ (b31 : Bool), v29 = (.bool b31) ∧ bcase b31 (Run Try.prog (Instr.buildSlice 24 1 #[(0, (.int .i64 z26.2.1))]) w30 fun v32 w33 => ∃ (A34 : Option Addr) (n35 c36 : Nat), v32 = .slice A34 n35 c36 ∧ Run Try.prog (Builtin.append_ #[24, 24] 24 #[(.slice z26.1.1 z26.1.2.1 z26.1.2.2), (.slice A34 n35 c36)]) w33 fun v37 w38 => ∃ (A39 : Option Addr) (n40 c41 : Nat), v37 = .slice A39 n40 c41 ∧ next28 ((A39, n40, c41), (IntKind.wrap .i64 (z26.2.1 + 1)), ()) w38) (next28 ((z26.1.1, z26.1.2.1, z26.1.2.2), (IntKind.wrap .i64 (z26.2.1 + 1)), ()) w30))) (K (.slice z26.1.1 z26.1.2.1 z26.1.2.2) w27)) ((A23, n24, c25), 0, ()) w22

def impl_LanesOf.ann : Ann := (.seq .l (.seq .l (.seq (.seq .l (.one (.loop [(3, .sl), (6, .int .i64)] (.seq .l (.seq (.two .l .l) (.seq (.one (.seq .l (.seq .l (.two .l .l)))) .l)))))) (.seq .l .l))))

theorem impl_LanesOf.vc_eq (x0 : Int) (w : World) (K : Value → World → Prop) : vcF Try.prog Try.f183 impl_LanesOf.ann [(.int .i64 x0)] K w = impl_LanesOf.vc x0 w K := by kernel_rfl

theorem impl_LanesOf.start {x0 : Int} {w : World} {K : Value → World → Prop} (h : impl_LanesOf.vc x0 w K) : Cll Try.prog 183 #[(.int .i64 x0)] w K :=
  vcF_sound mixed (fn := Try.f183) (by kernel_rfl) (by kernel_rfl) (an := impl_LanesOf.ann) (args := [(.int .i64 x0)]) (by rw [impl_LanesOf.vc_eq]; exact h)

theorem impl_LanesOf.con {x0 : Int} {r : List Int} {w : World} (hr : r = M.impl_LanesOf x0)  :
    Cll Try.prog 183 #[(.int .i64 x0)] w (fun v_ w_ => ∃ (A0_ : Option Addr) (c0_ : Nat), v_ = (.slice A0_ r.length c0_) ∧ Own el3 w_ w.heap.size A0_ c0_ r ∧ Ext w w_) := by
  have H := wp.impl_LanesOf.math x0
  have hB := Ext.refl w
  refine impl_LanesOf.start ?_
  unfold impl_LanesOf.vc
  unfold wp.impl_LanesOf at H
  refine buildOwn el3 ([] : List Int) (fun _ => by kernel_rfl) rfl (fun A21 w22 P1 e23 => ?_)
  have O1 := P1.mono hB.size
  have hB := ethen hB e23
  obtain ⟨J29, ⟨m56, hJ55⟩, hS30⟩ := H
  refine ⟨fun m_ z_ w_ => ∃ (xs24 : List Int) (i27 : Int) (A25 : Option Addr) (c26 : Nat), z_ = ((A25, xs24.length, c26), i27, ()) ∧ J29 m_ (xs24, i27, ()) ∧ Ext w w_ ∧ Own el3 w_ w.heap.size A25 c26 xs24, ⟨m56, ([] : List Int), 0, A21, 0, rfl, hJ55, hB, O1⟩, ?_⟩
  rintro m28 _ w32 ⟨xs24, i27, A25, c26, rfl, hJ57, hB, O2⟩
  have H := hS30 m28 _ hJ57
  clear hS30 hJ57
  dsimp only at H ⊢
  refine bcase_mk (fun hc53 => ?_) (fun hc53 => ?_)
  · have H := (bcase_iff.1 H).1 hc53
    obtain ⟨r33, hr34⟩ : ∃ r_, r_ = M.impl_HasLane x0 i27 := ⟨_, rfl⟩
    have H := H r33 hr34
    refine (impl_HasLane.con hr34 ).mono ?_
    rintro _ w36 ⟨rfl, e37⟩
    have O2 := O2.ext e37
    have hB := ethen hB e37
    refine ⟨r33, rfl, ?_⟩
    refine bcase_mk (fun hc52 => ?_) (fun hc52 => ?_)
    · have H := (bcase_iff.1 H).1 hc52
      refine buildOwn el3 ([i27] : List Int) (fun _ => by kernel_rfl) rfl (fun A38 w39 P3 e40 => ?_)
      have N2_3 := Own.apart2_new O2 P3 (Nat.le_refl _)
      have O2 := O2.ext e40
      have O3 := P3.mono hB.size
      have hB := ethen hB e40
      obtain ⟨hl45, H⟩ := H
      refine appOwn slt24 slt24.under O2 O3.row hB.size rfl (by first | rfl | omega | (simp; done) | (simp; omega)) hl45 (fun A41 c42 w43 P2 e44 => ?_)
      have N3_2_ := Apart2.app (N2_3).symm e44 O3
      have O3 := O3.app e44 (N2_3).symm
      have N3_2 := N3_2_
      have hB := eapp hB e44 O2
      have O2 := P2
      obtain ⟨m46, hm47, hJ48⟩ := H
      exact ⟨m46, hm47, (xs24 ++ ([i27] : List Int)), (IntKind.wrap .i64 (i27 + 1)), A41, c42, rfl, hJ48, hB, O2⟩
    · have H := (bcase_iff.1 H).2 hc52
      obtain ⟨m49, hm50, hJ51⟩ := H
      exact ⟨m49, hm50, xs24, (IntKind.wrap .i64 (i27 + 1)), A25, c26, rfl, hJ51, hB, O2⟩
  · have H := (bcase_iff.1 H).2 hc53
    obtain rfl := hr.trans H.symm
    exact ⟨A25, c26, rfl, O2, hB⟩

def spec_AreWords.vc (A0 : Option Addr) (n0 : Nat) (c0 : Nat) (w : World) (K : Value → World → Prop) : Prop :=
  LoopT (σ := Int × Unit) (fun z21 w22 next23 => bcase (decide (z21.1 < ((n0 : Nat) : Int))) (((0 : Int) ≤ z21.1 ∧ z21.1 < ((n0 : Nat) : Int) ∧ ∃ a24 : Addr, A0 = some a24 ∧ ∃ (n25 : Int), w22.cell? ((a24.add ((z21.1.toNat) * 1)).add 0) = some (.int .i64 n25) ∧ Cll Try.prog 120 #[(.int .i64 n25)] w22 fun v26 w27 => (∃ (b28 : Bool), v26 = (.bool b28) ∧ bcase (!b28) (K (.bool false) w27) (next23 ((IntKind.wrap .i64 (z21.1 + 1)), ()) w27)))) (K (.bool true) w22)) (0, ()) w

def spec_AreWords.ann : Ann := (.seq .l (.seq (.seq .l (.one (.loop [(3, .int .i64)] (.seq (.seq .l (.two .l .l)) (.seq (.one (.seq .l (.two (.seq .l .l) .l))) .l))))) (.seq .l .l)))

theorem spec_AreWords.vc_eq (A0 : Option Addr) (n0 : Nat) (c0 : Nat) (w : World) (K : Value → World → Prop) : vcF Try.prog Try.f63 spec_AreWords.ann [(.slice A0 n0 c0)] K w = spec_AreWords.vc A0 n0 c0 w K := by kernel_rfl

theorem spec_AreWords.start {A0 : Option Addr} {n0 : Nat} {c0 : Nat} {w : World} {K : Value → World → Prop} (h : spec_AreWords.vc A0 n0 c0 w K) : Cll Try.prog 63 #[(.slice A0 n0 c0)] w K :=
  vcF_sound mixed (fn := Try.f63) (by kernel_rfl) (by kernel_rfl) (an := spec_AreWords.ann) (args := [(.slice A0 n0 c0)]) (by rw [spec_AreWords.vc_eq]; exact h)

theorem spec_AreWords.con {xs0 : List Int} {A0 : Option Addr} {c0 : Nat} {r : Bool} {w : World} (hp : M.spec_AreWords_pre xs0) (hr : r = M.spec_AreWords xs0) (R0 : Row el3 w A0 xs0) (hc0 : xs0.length ≤ c0) :
    Cll Try.prog 63 #[(.slice A0 xs0.length c0)] w (fun v_ w_ => v_ = (.bool r) ∧ Ext w w_) := by
  have H := wp.spec_AreWords.math xs0 hp
  have hB := Ext.refl w
  refine spec_AreWords.start ?_
  unfold spec_AreWords.vc
  unfold wp.spec_AreWords at H
  obtain ⟨J23, ⟨m44, hJ43⟩, hS24⟩ := H
  refine ⟨fun m_ z_ w_ => ∃ (i21 : Int), z_ = (i21, ()) ∧ J23 m_ (i21, ()) ∧ Ext w w_, ⟨m44, 0, rfl, hJ43, hB⟩, ?_⟩
  rintro m22 _ w26 ⟨i21, rfl, hJ45, hB⟩
  have H := hS24 m22 _ hJ45
  clear hS24 hJ45
  dsimp only at H ⊢
  refine bcase_mk (fun hc41 => ?_) (fun hc41 => ?_)
  · have H := (bcase_iff.1 H).1 hc41
    obtain ⟨⟨h0_30, h1_31⟩, H⟩ := H
    obtain ⟨a28, ha29, hat27⟩ := Row.at (R0.ext hB) h0_30 h1_31
    refine ⟨h0_30, h1_31, a28, ha29, ?_⟩
    refine ⟨_, (hat27 0 _ rfl), ?_⟩
    obtain ⟨r32, hr33⟩ : ∃ r_, r_ = M.spec_IsWord (rd xs0 i21) := ⟨_, rfl⟩
    have H := H r32 hr33
    refine (spec_IsWord.con hr33 ).mono ?_
    rintro _ w35 ⟨rfl, e36⟩
    have hB := ethen hB e36
    refine ⟨r32, rfl, ?_⟩
    refine bcase_mk (fun hc40 => ?_) (fun hc40 => ?_)
    · have H := (bcase_iff.1 H).1 hc40
      obtain rfl := hr.trans H.symm
      exact ⟨rfl, hB⟩
    · have H := (bcase_iff.1 H).2 hc40
      obtain ⟨m37, hm38, hJ39⟩ := H
      exact ⟨m37, hm38, (IntKind.wrap .i64 (i21 + 1)), rfl, hJ39, hB⟩
  · have H := (bcase_iff.1 H).2 hc41
    obtain rfl := hr.trans H.symm
    exact ⟨rfl, hB⟩

def laws_eqIntS.vc (A0 : Option Addr) (n0 : Nat) (c0 : Nat) (A1 : Option Addr) (n1 : Nat) (c1 : Nat) (w : World) (K : Value → World → Prop) : Prop :=
  bcase (((n0 : Nat) : Int) != ((n1 : Nat) : Int)) (K (.bool false) w) (LoopT (σ := Int × Unit) (fun z21 w22 next23 => bcase (decide (z21.1 < ((n0 : Nat) : Int))) (((0 : Int) ≤ z21.1 ∧ z21.1 < ((n0 : Nat) : Int) ∧ ∃ a24 : Addr, A0 = some a24 ∧ ∃ (n25 : Int), w22.cell? ((a24.add ((z21.1.toNat) * 1)).add 0) = some (.int .i64 n25) ∧ ((0 : Int) ≤ z21.1 ∧ z21.1 < ((n1 : Nat) : Int) ∧ ∃ a26 : Addr, A1 = some a26 ∧ ∃ (n27 : Int), w22.cell? ((a26.add ((z21.1.toNat) * 1)).add 0) = some (.int .i64 n27) ∧ bcase (n25 != n27) (K (.bool false) w22.drew) (next23 ((IntKind.wrap .i64 (z21.1 + 1)), ()) w22.drew)))) (K (.bool true) w22)) (0, ()) w)

def laws_eqIntS.ann : Ann := (.seq .l (.seq (.seq .l (.two (.seq .l .l) .l)) (.seq (.seq .l (.one (.loop [(5, .int .i64)] (.seq (.seq .l (.two .l .l)) (.seq (.one (.seq .l (.two (.seq .l .l) .l))) .l))))) (.seq .l .l))))

theorem laws_eqIntS.vc_eq (A0 : Option Addr) (n0 : Nat) (c0 : Nat) (A1 : Option Addr) (n1 : Nat) (c1 : Nat) (w : World) (K : Value → World → Prop) : vcF Try.prog Try.f25 laws_eqIntS.ann [(.slice A0 n0 c0), (.slice A1 n1 c1)] K w = laws_eqIntS.vc A0 n0 c0 A1 n1 c1 w K := by kernel_rfl

theorem laws_eqIntS.start {A0 : Option Addr} {n0 : Nat} {c0 : Nat} {A1 : Option Addr} {n1 : Nat} {c1 : Nat} {w : World} {K : Value → World → Prop} (h : laws_eqIntS.vc A0 n0 c0 A1 n1 c1 w K) : Cll Try.prog 25 #[(.slice A0 n0 c0), (.slice A1 n1 c1)] w K :=
  vcF_sound mixed (fn := Try.f25) (by kernel_rfl) (by kernel_rfl) (an := laws_eqIntS.ann) (args := [(.slice A0 n0 c0), (.slice A1 n1 c1)]) (by rw [laws_eqIntS.vc_eq]; exact h)

theorem laws_eqIntS.con {xs0 : List Int} {A0 : Option Addr} {c0 : Nat} {xs1 : List Int} {A1 : Option Addr} {c1 : Nat} {r : Bool} {w : World} (hp : M.laws_eqIntS_pre xs0 xs1) (hr : r = M.laws_eqIntS xs0 xs1) (R0 : Row el3 w A0 xs0) (hc0 : xs0.length ≤ c0) (R1 : Row el3 w A1 xs1) (hc1 : xs1.length ≤ c1) :
    Cll Try.prog 25 #[(.slice A0 xs0.length c0), (.slice A1 xs1.length c1)] w (fun v_ w_ => v_ = (.bool r) ∧ Ext w w_) := by
  have H := wp.laws_eqIntS.math xs0 xs1 hp
  have hB := Ext.refl w
  refine laws_eqIntS.start ?_
  unfold laws_eqIntS.vc
  unfold wp.laws_eqIntS at H
  refine bcase_mk (fun hc47 => ?_) (fun hc47 => ?_)
  · have H := (bcase_iff.1 H).1 hc47
    obtain rfl := hr.trans H.symm
    exact ⟨rfl, hB⟩
  · have H := (bcase_iff.1 H).2 hc47
    obtain ⟨J23, ⟨m45, hJ44⟩, hS24⟩ := H
    refine ⟨fun m_ z_ w_ => ∃ (i21 : Int), z_ = (i21, ()) ∧ J23 m_ (i21, ()) ∧ Ext w w_, ⟨m45, 0, rfl, hJ44, hB⟩, ?_⟩
    rintro m22 _ w26 ⟨i21, rfl, hJ46, hB⟩
    have H := hS24 m22 _ hJ46
    clear hS24 hJ46
    dsimp only at H ⊢
    refine bcase_mk (fun hc42 => ?_) (fun hc42 => ?_)
    · have H := (bcase_iff.1 H).1 hc42
      obtain ⟨⟨h0_31, h1_32⟩, H⟩ := H
      obtain ⟨a29, ha30, hat28⟩ := Row.at (R0.ext hB) h0_31 h1_32
      refine ⟨h0_31, h1_32, a29, ha30, ?_⟩
      refine ⟨_, (hat28 0 _ rfl), ?_⟩
      obtain ⟨⟨h0_36, h1_37⟩, H⟩ := H
      obtain ⟨a34, ha35, hat33⟩ := Row.at (R1.ext hB) h0_36 h1_37
      refine ⟨h0_36, h1_37, a34, ha35, ?_⟩
      refine ⟨_, (hat33 0 _ rfl), ?_⟩
      have hB := ethen hB (Ext.drew _)
      refine bcase_mk (fun hc41 => ?_) (fun hc41 => ?_)
      · have H := (bcase_iff.1 H).1 hc41
        obtain rfl := hr.trans H.symm
        exact ⟨rfl, hB⟩
      · have H := (bcase_iff.1 H).2 hc41
        obtain ⟨m38, hm39, hJ40⟩ := H
        exact ⟨m38, hm39, (IntKind.wrap .i64 (i21 + 1)), rfl, hJ40, hB⟩
    · have H := (bcase_iff.1 H).2 hc42
      obtain rfl := hr.trans H.symm
      exact ⟨rfl, hB⟩

def laws_toIntS.vc (A0 : Option Addr) (n0 : Nat) (c0 : Nat) (w : World) (K : Value → World → Prop) : Prop :=
  vcMake Try.prog 24 ((n0 : Nat) : Int) ((n0 : Nat) : Int) w fun g21 w22 => LoopT (σ := Int × Unit) (fun z23 w24 next25 => bcase (decide (z23.1 < ((n0 : Nat) : Int))) (((0 : Int) ≤ z23.1 ∧ z23.1 < ((n0 : Nat) : Int) ∧ ∃ a26 : Addr, A0 = some a26 ∧ ∃ (n27 : Int), w24.cell? ((a26.add ((z23.1.toNat) * 1)).add 0) = some (.int .i64 n27) ∧ ((0 : Int) ≤ z23.1 ∧ z23.1 < (((((n0 : Nat) : Int).toNat) : Nat) : Int) ∧ ∃ a28 : Addr, (some (⟨g21, 0, none⟩ : Addr)) = some a28 ∧ stCells (a28.add ((z23.1.toNat) * 1)) [(.int .i64 n27)] 0 w24 fun w29 => next25 ((IntKind.wrap .i64 (z23.1 + 1)), ()) w29))) (K (.slice (some (⟨g21, 0, none⟩ : Addr)) (((n0 : Nat) : Int).toNat) (((n0 : Nat) : Int).toNat)) w24)) (0, ()) w22

def laws_toIntS.ann : Ann := (.seq .l (.seq .l (.seq (.seq .l (.one (.loop [(4, .int .i64)] (.seq (.seq .l (.two .l .l)) (.seq (.one .l) .l))))) (.seq .l .l))))

theorem laws_toIntS.vc_eq (A0 : Option Addr) (n0 : Nat) (c0 : Nat) (w : World) (K : Value → World → Prop) : vcF Try.prog Try.f23 laws_toIntS.ann [(.slice A0 n0 c0)] K w = laws_toIntS.vc A0 n0 c0 w K := by kernel_rfl

theorem laws_toIntS.start {A0 : Option Addr} {n0 : Nat} {c0 : Nat} {w : World} {K : Value → World → Prop} (h : laws_toIntS.vc A0 n0 c0 w K) : Cll Try.prog 23 #[(.slice A0 n0 c0)] w K :=
  vcF_sound mixed (fn := Try.f23) (by kernel_rfl) (by kernel_rfl) (an := laws_toIntS.ann) (args := [(.slice A0 n0 c0)]) (by rw [laws_toIntS.vc_eq]; exact h)

theorem laws_toIntS.con {xs0 : List Int} {A0 : Option Addr} {c0 : Nat} {r : List Int} {w : World} (hp : M.laws_toIntS_pre xs0) (hr : r = M.laws_toIntS xs0) (R0 : Row el3 w A0 xs0) (hc0 : xs0.length ≤ c0) :
    Cll Try.prog 23 #[(.slice A0 xs0.length c0)] w (fun v_ w_ => ∃ (A0_ : Option Addr) (c0_ : Nat), v_ = (.slice A0_ r.length c0_) ∧ Own el3 w_ w.heap.size A0_ c0_ r ∧ Ext w w_) := by
  have H := wp.laws_toIntS.math xs0 hp
  have hB := Ext.refl w
  refine laws_toIntS.start ?_
  unfold laws_toIntS.vc
  unfold wp.laws_toIntS at H
  obtain ⟨⟨h0_24, h1_25⟩, H⟩ := H
  refine makeOwn slt24 h0_24 h1_25 (fun g21 w22 P2 e23 => ?_)
  have O2 := P2.mono hB.size
  have hB := ethen hB e23
  obtain ⟨J49, ⟨m72, hJ71⟩, hS50⟩ := H
  refine ⟨fun m_ z_ w_ => ∃ (i45 : Int) (xs46 : List Int), z_ = (i45, ()) ∧ J49 m_ (i45, xs46, ()) ∧ Ext w w_ ∧ Own el3 w_ w.heap.size (some (⟨g21, 0, none⟩ : Addr)) (((xs0.length : Nat) : Int).toNat) xs46 ∧ (((xs0.length : Nat) : Int).toNat) = xs46.length, ⟨m72, 0, (List.replicate (((xs0.length : Nat) : Int).toNat) (default : Int)), rfl, hJ71, hB, O2, (by first | rfl | assumption | (simp; done) | (simp; omega) | (simp; assumption))⟩, ?_⟩
  rintro m48 _ w52 ⟨i45, xs46, rfl, hJ73, hB, O2, hn47⟩
  have H := hS50 m48 _ hJ73
  clear hS50 hJ73
  dsimp only at H ⊢
  refine bcase_mk (fun hc69 => ?_) (fun hc69 => ?_)
  · have H := (bcase_iff.1 H).1 hc69
    obtain ⟨⟨h0_56, h1_57⟩, H⟩ := H
    obtain ⟨a54, ha55, hat53⟩ := Row.at (R0.ext hB) h0_56 h1_57
    refine ⟨h0_56, h1_57, a54, ha55, ?_⟩
    refine ⟨_, (hat53 0 _ rfl), ?_⟩
    obtain ⟨⟨h0_61, h1_62⟩, H⟩ := H
    obtain ⟨a59, ha60, hat58⟩ := Row.at O2.row h0_61 h1_62
    refine ⟨h0_61, (by first | exact h1_62 | omega | (simp at h1_62 ⊢; omega)), a59, ha60, ?_⟩
    refine Own.storeAt O2 ha60 h0_61 h1_62 0 [(.int .i64 (rd xs0 i45))] (rd xs0 i45) rfl (Nat.le_of_ble_eq_true rfl) rfl (fun w63 P2 e64 hb65 => ?_)
    have hB := echg hB e64 hb65
    have O2 := P2
    obtain ⟨m66, hm67, hJ68⟩ := H
    exact ⟨m66, hm67, (IntKind.wrap .i64 (i45 + 1)), (List.set xs46 (i45.toNat) (rd xs0 i45)), rfl, hJ68, hB, O2, (by first | rfl | assumption | (simp; done) | (simp; omega) | (simp; assumption))⟩
  · have H := (bcase_iff.1 H).2 hc69
    obtain rfl := hr.trans H.symm
    exact ⟨(some (⟨g21, 0, none⟩ : Addr)), (((xs0.length : Nat) : Int).toNat), (by first | rfl | (simp; done) | (simp; omega) | (simp [*]; done)), (by first | exact O2 | (simp only [List.length_set]; exact O2)), hB⟩

end Go.V
