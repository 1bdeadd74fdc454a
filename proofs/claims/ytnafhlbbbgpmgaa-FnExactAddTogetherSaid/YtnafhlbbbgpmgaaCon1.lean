import Derived.Test.YtnafhlbbbgpmgaaMath1
import Derived.Test.YtnafhlbbbgpmgaaSeat
namespace Go.V
open Go.Proofs
set_option linter.unusedVariables false
set_option linter.unusedSimpArgs false
set_option maxRecDepth 100000

def impl_within.vc (x0 : Int) (x1 : Int) (x2 : Int) (w : World) (K : Value → World → Prop) : Prop :=
  bcase (decide (x0 ≥ x1)) (K (.bool (decide (x0 ≤ x2))) w) (K (.bool false) w)

def impl_within.ann : Ann := (.seq .l (.seq .l .l))

theorem impl_within.vc_eq (x0 : Int) (x1 : Int) (x2 : Int) (w : World) (K : Value → World → Prop) : vcF Try.prog Try.f79 impl_within.ann [(.int .i64 x0), (.int .i64 x1), (.int .i64 x2)] K w = impl_within.vc x0 x1 x2 w K := by kernel_rfl

theorem impl_within.start {x0 : Int} {x1 : Int} {x2 : Int} {w : World} {K : Value → World → Prop} (h : impl_within.vc x0 x1 x2 w K) : Cll Try.prog 79 #[(.int .i64 x0), (.int .i64 x1), (.int .i64 x2)] w K :=
  vcF_sound mixed (fn := Try.f79) (by kernel_rfl) (by kernel_rfl) (an := impl_within.ann) (args := [(.int .i64 x0), (.int .i64 x1), (.int .i64 x2)]) (by rw [impl_within.vc_eq]; exact h)

theorem impl_within.con {x0 : Int} {x1 : Int} {x2 : Int} {r : Bool} {w : World} (hr : r = M.impl_within x0 x1 x2)  :
    Cll Try.prog 79 #[(.int .i64 x0), (.int .i64 x1), (.int .i64 x2)] w (fun v_ w_ => v_ = (.bool r) ∧ Ext w w_) := by
  have H := wp.impl_within.math x0 x1 x2
  have hB := Ext.refl w
  refine impl_within.start ?_
  unfold impl_within.vc
  unfold wp.impl_within at H
  refine bcase_mk (fun hc1 => ?_) (fun hc1 => ?_)
  · have H := (bcase_iff.1 H).1 hc1
    obtain rfl := hr.trans H.symm
    exact ⟨rfl, hB⟩
  · have H := (bcase_iff.1 H).2 hc1
    obtain rfl := hr.trans H.symm
    exact ⟨rfl, hB⟩

def spec_l01In.vc (x0 : Int) (x1 : Int) (x2 : Int) (w : World) (K : Value → World → Prop) : Prop :=
  bcase (decide (x0 ≥ x1)) (K (.bool (decide (x0 ≤ x2))) w) (K (.bool false) w)

def spec_l01In.ann : Ann := (.seq .l (.seq .l .l))

theorem spec_l01In.vc_eq (x0 : Int) (x1 : Int) (x2 : Int) (w : World) (K : Value → World → Prop) : vcF Try.prog Try.f113 spec_l01In.ann [(.int .i64 x0), (.int .i64 x1), (.int .i64 x2)] K w = spec_l01In.vc x0 x1 x2 w K := by kernel_rfl

theorem spec_l01In.start {x0 : Int} {x1 : Int} {x2 : Int} {w : World} {K : Value → World → Prop} (h : spec_l01In.vc x0 x1 x2 w K) : Cll Try.prog 113 #[(.int .i64 x0), (.int .i64 x1), (.int .i64 x2)] w K :=
  vcF_sound mixed (fn := Try.f113) (by kernel_rfl) (by kernel_rfl) (an := spec_l01In.ann) (args := [(.int .i64 x0), (.int .i64 x1), (.int .i64 x2)]) (by rw [spec_l01In.vc_eq]; exact h)

theorem spec_l01In.con {x0 : Int} {x1 : Int} {x2 : Int} {r : Bool} {w : World} (hr : r = M.spec_l01In x0 x1 x2)  :
    Cll Try.prog 113 #[(.int .i64 x0), (.int .i64 x1), (.int .i64 x2)] w (fun v_ w_ => v_ = (.bool r) ∧ Ext w w_) := by
  have H := wp.spec_l01In.math x0 x1 x2
  have hB := Ext.refl w
  refine spec_l01In.start ?_
  unfold spec_l01In.vc
  unfold wp.spec_l01In at H
  refine bcase_mk (fun hc1 => ?_) (fun hc1 => ?_)
  · have H := (bcase_iff.1 H).1 hc1
    obtain rfl := hr.trans H.symm
    exact ⟨rfl, hB⟩
  · have H := (bcase_iff.1 H).2 hc1
    obtain rfl := hr.trans H.symm
    exact ⟨rfl, hB⟩

def impl_IsWord.vc (x0 : Int) (w : World) (K : Value → World → Prop) : Prop :=
  Cll Try.prog 79 #[(.int .i64 x0), (.int .i64 0), (.int .i64 65535)] w fun v1 w2 => (∃ (b3 : Bool), v1 = (.bool b3) ∧ K (.bool b3) w2)

def impl_IsWord.ann : Ann := (.seq .l (.seq .l .l))

theorem impl_IsWord.vc_eq (x0 : Int) (w : World) (K : Value → World → Prop) : vcF Try.prog Try.f120 impl_IsWord.ann [(.int .i64 x0)] K w = impl_IsWord.vc x0 w K := by kernel_rfl

theorem impl_IsWord.start {x0 : Int} {w : World} {K : Value → World → Prop} (h : impl_IsWord.vc x0 w K) : Cll Try.prog 120 #[(.int .i64 x0)] w K :=
  vcF_sound mixed (fn := Try.f120) (by kernel_rfl) (by kernel_rfl) (an := impl_IsWord.ann) (args := [(.int .i64 x0)]) (by rw [impl_IsWord.vc_eq]; exact h)

theorem impl_IsWord.con {x0 : Int} {r : Bool} {w : World} (hr : r = M.impl_IsWord x0)  :
    Cll Try.prog 120 #[(.int .i64 x0)] w (fun v_ w_ => v_ = (.bool r) ∧ Ext w w_) := by
  have H := wp.impl_IsWord.math x0
  have hB := Ext.refl w
  refine impl_IsWord.start ?_
  unfold impl_IsWord.vc
  unfold wp.impl_IsWord at H
  obtain ⟨r1, hr2⟩ : ∃ r_, r_ = M.impl_within x0 0 65535 := ⟨_, rfl⟩
  have H := H r1 hr2
  refine (impl_within.con hr2 ).mono ?_
  rintro _ w4 ⟨rfl, e5⟩
  have hB := ethen hB e5
  refine ⟨r1, rfl, ?_⟩
  obtain rfl := hr.trans H.symm
  exact ⟨rfl, hB⟩

def spec_IsWord.vc (x0 : Int) (w : World) (K : Value → World → Prop) : Prop :=
  Cll Try.prog 113 #[(.int .i64 x0), (.int .i64 0), (.int .i64 65535)] w fun v1 w2 => (∃ (b3 : Bool), v1 = (.bool b3) ∧ K (.bool b3) w2)

def spec_IsWord.ann : Ann := (.seq .l (.seq .l .l))

theorem spec_IsWord.vc_eq (x0 : Int) (w : World) (K : Value → World → Prop) : vcF Try.prog Try.f66 spec_IsWord.ann [(.int .i64 x0)] K w = spec_IsWord.vc x0 w K := by kernel_rfl

theorem spec_IsWord.start {x0 : Int} {w : World} {K : Value → World → Prop} (h : spec_IsWord.vc x0 w K) : Cll Try.prog 66 #[(.int .i64 x0)] w K :=
  vcF_sound mixed (fn := Try.f66) (by kernel_rfl) (by kernel_rfl) (an := spec_IsWord.ann) (args := [(.int .i64 x0)]) (by rw [spec_IsWord.vc_eq]; exact h)

theorem spec_IsWord.con {x0 : Int} {r : Bool} {w : World} (hr : r = M.spec_IsWord x0)  :
    Cll Try.prog 66 #[(.int .i64 x0)] w (fun v_ w_ => v_ = (.bool r) ∧ Ext w w_) := by
  have H := wp.spec_IsWord.math x0
  have hB := Ext.refl w
  refine spec_IsWord.start ?_
  unfold spec_IsWord.vc
  unfold wp.spec_IsWord at H
  obtain ⟨r1, hr2⟩ : ∃ r_, r_ = M.spec_l01In x0 0 65535 := ⟨_, rfl⟩
  have H := H r1 hr2
  refine (spec_l01In.con hr2 ).mono ?_
  rintro _ w4 ⟨rfl, e5⟩
  have hB := ethen hB e5
  refine ⟨r1, rfl, ?_⟩
  obtain rfl := hr.trans H.symm
  exact ⟨rfl, hB⟩

def impl_IsMask.vc (x0 : Int) (w : World) (K : Value → World → Prop) : Prop :=
  Cll Try.prog 79 #[(.int .i64 x0), (.int .i64 0), (.int .i64 255)] w fun v1 w2 => (∃ (b3 : Bool), v1 = (.bool b3) ∧ K (.bool b3) w2)

def impl_IsMask.ann : Ann := (.seq .l (.seq .l .l))

theorem impl_IsMask.vc_eq (x0 : Int) (w : World) (K : Value → World → Prop) : vcF Try.prog Try.f185 impl_IsMask.ann [(.int .i64 x0)] K w = impl_IsMask.vc x0 w K := by kernel_rfl

theorem impl_IsMask.start {x0 : Int} {w : World} {K : Value → World → Prop} (h : impl_IsMask.vc x0 w K) : Cll Try.prog 185 #[(.int .i64 x0)] w K :=
  vcF_sound mixed (fn := Try.f185) (by kernel_rfl) (by kernel_rfl) (an := impl_IsMask.ann) (args := [(.int .i64 x0)]) (by rw [impl_IsMask.vc_eq]; exact h)

theorem impl_IsMask.con {x0 : Int} {r : Bool} {w : World} (hr : r = M.impl_IsMask x0)  :
    Cll Try.prog 185 #[(.int .i64 x0)] w (fun v_ w_ => v_ = (.bool r) ∧ Ext w w_) := by
  have H := wp.impl_IsMask.math x0
  have hB := Ext.refl w
  refine impl_IsMask.start ?_
  unfold impl_IsMask.vc
  unfold wp.impl_IsMask at H
  obtain ⟨r1, hr2⟩ : ∃ r_, r_ = M.impl_within x0 0 255 := ⟨_, rfl⟩
  have H := H r1 hr2
  refine (impl_within.con hr2 ).mono ?_
  rintro _ w4 ⟨rfl, e5⟩
  have hB := ethen hB e5
  refine ⟨r1, rfl, ?_⟩
  obtain rfl := hr.trans H.symm
  exact ⟨rfl, hB⟩

def impl_isLane.vc (x0 : Int) (w : World) (K : Value → World → Prop) : Prop :=
  Cll Try.prog 79 #[(.int .i64 x0), (.int .i64 0), (.int .i64 7)] w fun v1 w2 => (∃ (b3 : Bool), v1 = (.bool b3) ∧ K (.bool b3) w2)

def impl_isLane.ann : Ann := (.seq .l (.seq .l .l))

theorem impl_isLane.vc_eq (x0 : Int) (w : World) (K : Value → World → Prop) : vcF Try.prog Try.f193 impl_isLane.ann [(.int .i64 x0)] K w = impl_isLane.vc x0 w K := by kernel_rfl

theorem impl_isLane.start {x0 : Int} {w : World} {K : Value → World → Prop} (h : impl_isLane.vc x0 w K) : Cll Try.prog 193 #[(.int .i64 x0)] w K :=
  vcF_sound mixed (fn := Try.f193) (by kernel_rfl) (by kernel_rfl) (an := impl_isLane.ann) (args := [(.int .i64 x0)]) (by rw [impl_isLane.vc_eq]; exact h)

theorem impl_isLane.con {x0 : Int} {r : Bool} {w : World} (hr : r = M.impl_isLane x0)  :
    Cll Try.prog 193 #[(.int .i64 x0)] w (fun v_ w_ => v_ = (.bool r) ∧ Ext w w_) := by
  have H := wp.impl_isLane.math x0
  have hB := Ext.refl w
  refine impl_isLane.start ?_
  unfold impl_isLane.vc
  unfold wp.impl_isLane at H
  obtain ⟨r1, hr2⟩ : ∃ r_, r_ = M.impl_within x0 0 7 := ⟨_, rfl⟩
  have H := H r1 hr2
  refine (impl_within.con hr2 ).mono ?_
  rintro _ w4 ⟨rfl, e5⟩
  have hB := ethen hB e5
  refine ⟨r1, rfl, ?_⟩
  obtain rfl := hr.trans H.symm
  exact ⟨rfl, hB⟩

def impl_HasLane.vc (x0 : Int) (x1 : Int) (w : World) (K : Value → World → Prop) : Prop :=
  Cll Try.prog 185 #[(.int .i64 x0)] w fun v1 w2 => (∃ (b3 : Bool), v1 = (.bool b3) ∧ bcase b3 (Cll Try.prog 193 #[(.int .i64 x1)] w2 fun v4 w5 => (∃ (b6 : Bool), v4 = (.bool b6) ∧ bcase b6 (((0 : Int) ≤ x1 ∧ K (.bool ((bitAnd .i64 (Int.fdiv x0 (2 ^ (min (x1.toNat) (IntKind.bits .i64)))) 1) == 1)) w5)) (K (.bool false) w5))) (K (.bool false) w2))

def impl_HasLane.ann : Ann := (.seq .l (.seq .l .l))

theorem impl_HasLane.vc_eq (x0 : Int) (x1 : Int) (w : World) (K : Value → World → Prop) : vcF Try.prog Try.f169 impl_HasLane.ann [(.int .i64 x0), (.int .i64 x1)] K w = impl_HasLane.vc x0 x1 w K := by kernel_rfl

theorem impl_HasLane.start {x0 : Int} {x1 : Int} {w : World} {K : Value → World → Prop} (h : impl_HasLane.vc x0 x1 w K) : Cll Try.prog 169 #[(.int .i64 x0), (.int .i64 x1)] w K :=
  vcF_sound mixed (fn := Try.f169) (by kernel_rfl) (by kernel_rfl) (an := impl_HasLane.ann) (args := [(.int .i64 x0), (.int .i64 x1)]) (by rw [impl_HasLane.vc_eq]; exact h)

theorem impl_HasLane.con {x0 : Int} {x1 : Int} {r : Bool} {w : World} (hr : r = M.impl_HasLane x0 x1)  :
    Cll Try.prog 169 #[(.int .i64 x0), (.int .i64 x1)] w (fun v_ w_ => v_ = (.bool r) ∧ Ext w w_) := by
  have H := wp.impl_HasLane.math x0 x1
  have hB := Ext.refl w
  refine impl_HasLane.start ?_
  unfold impl_HasLane.vc
  unfold wp.impl_HasLane at H
  obtain ⟨r1, hr2⟩ : ∃ r_, r_ = M.impl_IsMask x0 := ⟨_, rfl⟩
  have H := H r1 hr2
  refine (impl_IsMask.con hr2 ).mono ?_
  rintro _ w4 ⟨rfl, e5⟩
  have hB := ethen hB e5
  refine ⟨r1, rfl, ?_⟩
  refine bcase_mk (fun hc13 => ?_) (fun hc13 => ?_)
  · have H := (bcase_iff.1 H).1 hc13
    obtain ⟨r6, hr7⟩ : ∃ r_, r_ = M.impl_isLane x1 := ⟨_, rfl⟩
    have H := H r6 hr7
    refine (impl_isLane.con hr7 ).mono ?_
    rintro _ w9 ⟨rfl, e10⟩
    have hB := ethen hB e10
    refine ⟨r6, rfl, ?_⟩
    refine bcase_mk (fun hc12 => ?_) (fun hc12 => ?_)
    · have H := (bcase_iff.1 H).1 hc12
      obtain ⟨hc11, H⟩ := H
      refine ⟨hc11, ?_⟩
      obtain rfl := hr.trans H.symm
      exact ⟨rfl, hB⟩
    · have H := (bcase_iff.1 H).2 hc12
      obtain rfl := hr.trans H.symm
      exact ⟨rfl, hB⟩
  · have H := (bcase_iff.1 H).2 hc13
    obtain rfl := hr.trans H.symm
    exact ⟨rfl, hB⟩

def impl_LanesOf.vc (x0 : Int) (w : World) (K : Value → World → Prop) : Prop :=
  Run Try.prog (Instr.buildSlice 39 0 #[]) w fun v1 w2 => ∃ (A3 : Option Addr) (n4 c5 : Nat), v1 = .slice A3 n4 c5 ∧ LoopT (σ := (Option Addr × Nat × Nat) × Int × Unit) (fun z6 w7 next8 => bcase (decide (z6.2.1 < 8)) (Cll Try.prog 169 #[(.int .i64 x0), (.int .i64 z6.2.1)] w7 fun v9 w10 => (∃ (b11 : Bool), v9 = (.bool b11) ∧ bcase b11 (Run Try.prog (Instr.buildSlice 39 1 #[(0, (.int .i64 z6.2.1))]) w10 fun v12 w13 => ∃ (A14 : Option Addr) (n15 c16 : Nat), v12 = .slice A14 n15 c16 ∧ Run Try.prog (Builtin.append_ #[39, 39] 39 #[(.slice z6.1.1 z6.1.2.1 z6.1.2.2), (.slice A14 n15 c16)]) w13 fun v17 w18 => ∃ (A19 : Option Addr) (n20 c21 : Nat), v17 = .slice A19 n20 c21 ∧ next8 ((A19, n20, c21), (IntKind.wrap .i64 (z6.2.1 + 1)), ()) w18) (next8 ((z6.1.1, z6.1.2.1, z6.1.2.2), (IntKind.wrap .i64 (z6.2.1 + 1)), ()) w10))) (K (.slice z6.1.1 z6.1.2.1 z6.1.2.2) w7)) ((A3, n4, c5), 0, ()) w2

def impl_LanesOf.ann : Ann := (.seq .l (.seq .l (.seq (.seq .l (.one (.loop [(3, .sl), (6, .int .i64)] (.seq .l (.seq (.two .l .l) (.seq (.one (.seq .l (.seq .l (.two .l .l)))) .l)))))) (.seq .l .l))))

theorem impl_LanesOf.vc_eq (x0 : Int) (w : World) (K : Value → World → Prop) : vcF Try.prog Try.f132 impl_LanesOf.ann [(.int .i64 x0)] K w = impl_LanesOf.vc x0 w K := by kernel_rfl

theorem impl_LanesOf.start {x0 : Int} {w : World} {K : Value → World → Prop} (h : impl_LanesOf.vc x0 w K) : Cll Try.prog 132 #[(.int .i64 x0)] w K :=
  vcF_sound mixed (fn := Try.f132) (by kernel_rfl) (by kernel_rfl) (an := impl_LanesOf.ann) (args := [(.int .i64 x0)]) (by rw [impl_LanesOf.vc_eq]; exact h)

theorem impl_LanesOf.con {x0 : Int} {r : List Int} {w : World} (hr : r = M.impl_LanesOf x0)  :
    Cll Try.prog 132 #[(.int .i64 x0)] w (fun v_ w_ => ∃ (A0_ : Option Addr) (c0_ : Nat), v_ = (.slice A0_ r.length c0_) ∧ Own el3 w_ w.heap.size A0_ c0_ r ∧ Ext w w_) := by
  have H := wp.impl_LanesOf.math x0
  have hB := Ext.refl w
  refine impl_LanesOf.start ?_
  unfold impl_LanesOf.vc
  unfold wp.impl_LanesOf at H
  refine buildOwn el3 ([] : List Int) (fun _ => by kernel_rfl) rfl (fun A1 w2 P1 e3 => ?_)
  have O1 := P1.mono hB.size
  have hB := ethen hB e3
  obtain ⟨J9, ⟨m36, hJ35⟩, hS10⟩ := H
  refine ⟨fun m_ z_ w_ => ∃ (xs4 : List Int) (i7 : Int) (A5 : Option Addr) (c6 : Nat), z_ = ((A5, xs4.length, c6), i7, ()) ∧ J9 m_ (xs4, i7, ()) ∧ Ext w w_ ∧ Own el3 w_ w.heap.size A5 c6 xs4, ⟨m36, ([] : List Int), 0, A1, 0, rfl, hJ35, hB, O1⟩, ?_⟩
  rintro m8 _ w12 ⟨xs4, i7, A5, c6, rfl, hJ37, hB, O2⟩
  have H := hS10 m8 _ hJ37
  clear hS10 hJ37
  dsimp only at H ⊢
  refine bcase_mk (fun hc33 => ?_) (fun hc33 => ?_)
  · have H := (bcase_iff.1 H).1 hc33
    obtain ⟨r13, hr14⟩ : ∃ r_, r_ = M.impl_HasLane x0 i7 := ⟨_, rfl⟩
    have H := H r13 hr14
    refine (impl_HasLane.con hr14 ).mono ?_
    rintro _ w16 ⟨rfl, e17⟩
    have O2 := O2.ext e17
    have hB := ethen hB e17
    refine ⟨r13, rfl, ?_⟩
    refine bcase_mk (fun hc32 => ?_) (fun hc32 => ?_)
    · have H := (bcase_iff.1 H).1 hc32
      refine buildOwn el3 ([i7] : List Int) (fun _ => by kernel_rfl) rfl (fun A18 w19 P3 e20 => ?_)
      have N2_3 := Own.apart2_new O2 P3 (Nat.le_refl _)
      have O2 := O2.ext e20
      have O3 := P3.mono hB.size
      have hB := ethen hB e20
      obtain ⟨hl25, H⟩ := H
      refine appOwn slt39 slt39.under O2 O3.row hB.size rfl (by first | rfl | omega | (simp; done) | (simp; omega)) hl25 (fun A21 c22 w23 P2 e24 => ?_)
      have N3_2_ := Apart2.app (N2_3).symm e24 O3
      have O3 := O3.app e24 (N2_3).symm
      have N3_2 := N3_2_
      have hB := eapp hB e24 O2
      have O2 := P2
      obtain ⟨m26, hm27, hJ28⟩ := H
      exact ⟨m26, hm27, (xs4 ++ ([i7] : List Int)), (IntKind.wrap .i64 (i7 + 1)), A21, c22, rfl, hJ28, hB, O2⟩
    · have H := (bcase_iff.1 H).2 hc32
      obtain ⟨m29, hm30, hJ31⟩ := H
      exact ⟨m29, hm30, xs4, (IntKind.wrap .i64 (i7 + 1)), A5, c6, rfl, hJ31, hB, O2⟩
  · have H := (bcase_iff.1 H).2 hc33
    obtain rfl := hr.trans H.symm
    exact ⟨A5, c6, rfl, O2, hB⟩

def spec_AreWords.vc (A0 : Option Addr) (n0 : Nat) (c0 : Nat) (w : World) (K : Value → World → Prop) : Prop :=
  LoopT (σ := Int × Unit) (fun z1 w2 next3 => bcase (decide (z1.1 < ((n0 : Nat) : Int))) (((0 : Int) ≤ z1.1 ∧ z1.1 < ((n0 : Nat) : Int) ∧ ∃ a4 : Addr, A0 = some a4 ∧ ∃ (n5 : Int), w2.cell? ((a4.add ((z1.1.toNat) * 1)).add 0) = some (.int .i64 n5) ∧ Cll Try.prog 66 #[(.int .i64 n5)] w2 fun v6 w7 => (∃ (b8 : Bool), v6 = (.bool b8) ∧ bcase (!b8) (K (.bool false) w7) (next3 ((IntKind.wrap .i64 (z1.1 + 1)), ()) w7)))) (K (.bool true) w2)) (0, ()) w

def spec_AreWords.ann : Ann := (.seq .l (.seq (.seq .l (.one (.loop [(3, .int .i64)] (.seq (.seq .l (.two .l .l)) (.seq (.one (.seq .l (.two (.seq .l .l) .l))) .l))))) (.seq .l .l)))

theorem spec_AreWords.vc_eq (A0 : Option Addr) (n0 : Nat) (c0 : Nat) (w : World) (K : Value → World → Prop) : vcF Try.prog Try.f114 spec_AreWords.ann [(.slice A0 n0 c0)] K w = spec_AreWords.vc A0 n0 c0 w K := by kernel_rfl

theorem spec_AreWords.start {A0 : Option Addr} {n0 : Nat} {c0 : Nat} {w : World} {K : Value → World → Prop} (h : spec_AreWords.vc A0 n0 c0 w K) : Cll Try.prog 114 #[(.slice A0 n0 c0)] w K :=
  vcF_sound mixed (fn := Try.f114) (by kernel_rfl) (by kernel_rfl) (an := spec_AreWords.ann) (args := [(.slice A0 n0 c0)]) (by rw [spec_AreWords.vc_eq]; exact h)

theorem spec_AreWords.con {xs0 : List Int} {A0 : Option Addr} {c0 : Nat} {r : Bool} {w : World} (hp : M.spec_AreWords_pre xs0) (hr : r = M.spec_AreWords xs0) (R0 : Row el3 w A0 xs0) (hc0 : xs0.length ≤ c0) :
    Cll Try.prog 114 #[(.slice A0 xs0.length c0)] w (fun v_ w_ => v_ = (.bool r) ∧ Ext w w_) := by
  have H := wp.spec_AreWords.math xs0 hp
  have hB := Ext.refl w
  refine spec_AreWords.start ?_
  unfold spec_AreWords.vc
  unfold wp.spec_AreWords at H
  obtain ⟨J3, ⟨m24, hJ23⟩, hS4⟩ := H
  refine ⟨fun m_ z_ w_ => ∃ (i1 : Int), z_ = (i1, ()) ∧ J3 m_ (i1, ()) ∧ Ext w w_, ⟨m24, 0, rfl, hJ23, hB⟩, ?_⟩
  rintro m2 _ w6 ⟨i1, rfl, hJ25, hB⟩
  have H := hS4 m2 _ hJ25
  clear hS4 hJ25
  dsimp only at H ⊢
  refine bcase_mk (fun hc21 => ?_) (fun hc21 => ?_)
  · have H := (bcase_iff.1 H).1 hc21
    obtain ⟨⟨h0_10, h1_11⟩, H⟩ := H
    obtain ⟨a8, ha9, hat7⟩ := Row.at (R0.ext hB) h0_10 h1_11
    refine ⟨h0_10, h1_11, a8, ha9, ?_⟩
    refine ⟨_, (hat7 0 _ rfl), ?_⟩
    obtain ⟨r12, hr13⟩ : ∃ r_, r_ = M.spec_IsWord (rd xs0 i1) := ⟨_, rfl⟩
    have H := H r12 hr13
    refine (spec_IsWord.con hr13 ).mono ?_
    rintro _ w15 ⟨rfl, e16⟩
    have hB := ethen hB e16
    refine ⟨r12, rfl, ?_⟩
    refine bcase_mk (fun hc20 => ?_) (fun hc20 => ?_)
    · have H := (bcase_iff.1 H).1 hc20
      obtain rfl := hr.trans H.symm
      exact ⟨rfl, hB⟩
    · have H := (bcase_iff.1 H).2 hc20
      obtain ⟨m17, hm18, hJ19⟩ := H
      exact ⟨m17, hm18, (IntKind.wrap .i64 (i1 + 1)), rfl, hJ19, hB⟩
  · have H := (bcase_iff.1 H).2 hc21
    obtain rfl := hr.trans H.symm
    exact ⟨rfl, hB⟩

def laws_eqIntS.vc (A0 : Option Addr) (n0 : Nat) (c0 : Nat) (A1 : Option Addr) (n1 : Nat) (c1 : Nat) (w : World) (K : Value → World → Prop) : Prop :=
  bcase (((n0 : Nat) : Int) != ((n1 : Nat) : Int)) (K (.bool false) w) (LoopT (σ := Int × Unit) (fun z1 w2 next3 => bcase (decide (z1.1 < ((n0 : Nat) : Int))) (((0 : Int) ≤ z1.1 ∧ z1.1 < ((n0 : Nat) : Int) ∧ ∃ a4 : Addr, A0 = some a4 ∧ ∃ (n5 : Int), w2.cell? ((a4.add ((z1.1.toNat) * 1)).add 0) = some (.int .i64 n5) ∧ ((0 : Int) ≤ z1.1 ∧ z1.1 < ((n1 : Nat) : Int) ∧ ∃ a6 : Addr, A1 = some a6 ∧ ∃ (n7 : Int), w2.cell? ((a6.add ((z1.1.toNat) * 1)).add 0) = some (.int .i64 n7) ∧ bcase (n5 != n7) (K (.bool false) w2.drew) (next3 ((IntKind.wrap .i64 (z1.1 + 1)), ()) w2.drew)))) (K (.bool true) w2)) (0, ()) w)

def laws_eqIntS.ann : Ann := (.seq .l (.seq (.seq .l (.two (.seq .l .l) .l)) (.seq (.seq .l (.one (.loop [(5, .int .i64)] (.seq (.seq .l (.two .l .l)) (.seq (.one (.seq .l (.two (.seq .l .l) .l))) .l))))) (.seq .l .l))))

theorem laws_eqIntS.vc_eq (A0 : Option Addr) (n0 : Nat) (c0 : Nat) (A1 : Option Addr) (n1 : Nat) (c1 : Nat) (w : World) (K : Value → World → Prop) : vcF Try.prog Try.f30 laws_eqIntS.ann [(.slice A0 n0 c0), (.slice A1 n1 c1)] K w = laws_eqIntS.vc A0 n0 c0 A1 n1 c1 w K := by kernel_rfl

theorem laws_eqIntS.start {A0 : Option Addr} {n0 : Nat} {c0 : Nat} {A1 : Option Addr} {n1 : Nat} {c1 : Nat} {w : World} {K : Value → World → Prop} (h : laws_eqIntS.vc A0 n0 c0 A1 n1 c1 w K) : Cll Try.prog 30 #[(.slice A0 n0 c0), (.slice A1 n1 c1)] w K :=
  vcF_sound mixed (fn := Try.f30) (by kernel_rfl) (by kernel_rfl) (an := laws_eqIntS.ann) (args := [(.slice A0 n0 c0), (.slice A1 n1 c1)]) (by rw [laws_eqIntS.vc_eq]; exact h)

theorem laws_eqIntS.con {xs0 : List Int} {A0 : Option Addr} {c0 : Nat} {xs1 : List Int} {A1 : Option Addr} {c1 : Nat} {r : Bool} {w : World} (hp : M.laws_eqIntS_pre xs0 xs1) (hr : r = M.laws_eqIntS xs0 xs1) (R0 : Row el3 w A0 xs0) (hc0 : xs0.length ≤ c0) (R1 : Row el3 w A1 xs1) (hc1 : xs1.length ≤ c1) :
    Cll Try.prog 30 #[(.slice A0 xs0.length c0), (.slice A1 xs1.length c1)] w (fun v_ w_ => v_ = (.bool r) ∧ Ext w w_) := by
  have H := wp.laws_eqIntS.math xs0 xs1 hp
  have hB := Ext.refl w
  refine laws_eqIntS.start ?_
  unfold laws_eqIntS.vc
  unfold wp.laws_eqIntS at H
  refine bcase_mk (fun hc27 => ?_) (fun hc27 => ?_)
  · have H := (bcase_iff.1 H).1 hc27
    obtain rfl := hr.trans H.symm
    exact ⟨rfl, hB⟩
  · have H := (bcase_iff.1 H).2 hc27
    obtain ⟨J3, ⟨m25, hJ24⟩, hS4⟩ := H
    refine ⟨fun m_ z_ w_ => ∃ (i1 : Int), z_ = (i1, ()) ∧ J3 m_ (i1, ()) ∧ Ext w w_, ⟨m25, 0, rfl, hJ24, hB⟩, ?_⟩
    rintro m2 _ w6 ⟨i1, rfl, hJ26, hB⟩
    have H := hS4 m2 _ hJ26
    clear hS4 hJ26
    dsimp only at H ⊢
    refine bcase_mk (fun hc22 => ?_) (fun hc22 => ?_)
    · have H := (bcase_iff.1 H).1 hc22
      obtain ⟨⟨h0_11, h1_12⟩, H⟩ := H
      obtain ⟨a9, ha10, hat8⟩ := Row.at (R0.ext hB) h0_11 h1_12
      refine ⟨h0_11, h1_12, a9, ha10, ?_⟩
      refine ⟨_, (hat8 0 _ rfl), ?_⟩
      obtain ⟨⟨h0_16, h1_17⟩, H⟩ := H
      obtain ⟨a14, ha15, hat13⟩ := Row.at (R1.ext hB) h0_16 h1_17
      refine ⟨h0_16, h1_17, a14, ha15, ?_⟩
      refine ⟨_, (hat13 0 _ rfl), ?_⟩
      have hB := ethen hB (Ext.drew _)
      refine bcase_mk (fun hc21 => ?_) (fun hc21 => ?_)
      · have H := (bcase_iff.1 H).1 hc21
        obtain rfl := hr.trans H.symm
        exact ⟨rfl, hB⟩
      · have H := (bcase_iff.1 H).2 hc21
        obtain ⟨m18, hm19, hJ20⟩ := H
        exact ⟨m18, hm19, (IntKind.wrap .i64 (i1 + 1)), rfl, hJ20, hB⟩
    · have H := (bcase_iff.1 H).2 hc22
      obtain rfl := hr.trans H.symm
      exact ⟨rfl, hB⟩

def laws_toIntS.vc (A0 : Option Addr) (n0 : Nat) (c0 : Nat) (w : World) (K : Value → World → Prop) : Prop :=
  vcMake Try.prog 39 ((n0 : Nat) : Int) ((n0 : Nat) : Int) w fun g1 w2 => LoopT (σ := Int × Unit) (fun z3 w4 next5 => bcase (decide (z3.1 < ((n0 : Nat) : Int))) (((0 : Int) ≤ z3.1 ∧ z3.1 < ((n0 : Nat) : Int) ∧ ∃ a6 : Addr, A0 = some a6 ∧ ∃ (n7 : Int), w4.cell? ((a6.add ((z3.1.toNat) * 1)).add 0) = some (.int .i64 n7) ∧ ((0 : Int) ≤ z3.1 ∧ z3.1 < (((((n0 : Nat) : Int).toNat) : Nat) : Int) ∧ ∃ a8 : Addr, (some (⟨g1, 0, none⟩ : Addr)) = some a8 ∧ stCells (a8.add ((z3.1.toNat) * 1)) [(.int .i64 n7)] 0 w4 fun w9 => next5 ((IntKind.wrap .i64 (z3.1 + 1)), ()) w9))) (K (.slice (some (⟨g1, 0, none⟩ : Addr)) (((n0 : Nat) : Int).toNat) (((n0 : Nat) : Int).toNat)) w4)) (0, ()) w2

def laws_toIntS.ann : Ann := (.seq .l (.seq .l (.seq (.seq .l (.one (.loop [(4, .int .i64)] (.seq (.seq .l (.two .l .l)) (.seq (.one .l) .l))))) (.seq .l .l))))

theorem laws_toIntS.vc_eq (A0 : Option Addr) (n0 : Nat) (c0 : Nat) (w : World) (K : Value → World → Prop) : vcF Try.prog Try.f28 laws_toIntS.ann [(.slice A0 n0 c0)] K w = laws_toIntS.vc A0 n0 c0 w K := by kernel_rfl

theorem laws_toIntS.start {A0 : Option Addr} {n0 : Nat} {c0 : Nat} {w : World} {K : Value → World → Prop} (h : laws_toIntS.vc A0 n0 c0 w K) : Cll Try.prog 28 #[(.slice A0 n0 c0)] w K :=
  vcF_sound mixed (fn := Try.f28) (by kernel_rfl) (by kernel_rfl) (an := laws_toIntS.ann) (args := [(.slice A0 n0 c0)]) (by rw [laws_toIntS.vc_eq]; exact h)

theorem laws_toIntS.con {xs0 : List Int} {A0 : Option Addr} {c0 : Nat} {r : List Int} {w : World} (hp : M.laws_toIntS_pre xs0) (hr : r = M.laws_toIntS xs0) (R0 : Row el3 w A0 xs0) (hc0 : xs0.length ≤ c0) :
    Cll Try.prog 28 #[(.slice A0 xs0.length c0)] w (fun v_ w_ => ∃ (A0_ : Option Addr) (c0_ : Nat), v_ = (.slice A0_ r.length c0_) ∧ Own el3 w_ w.heap.size A0_ c0_ r ∧ Ext w w_) := by
  have H := wp.laws_toIntS.math xs0 hp
  have hB := Ext.refl w
  refine laws_toIntS.start ?_
  unfold laws_toIntS.vc
  unfold wp.laws_toIntS at H
  obtain ⟨⟨h0_4, h1_5⟩, H⟩ := H
  refine makeOwn slt39 h0_4 h1_5 (fun g1 w2 P2 e3 => ?_)
  have O2 := P2.mono hB.size
  have hB := ethen hB e3
  obtain ⟨J29, ⟨m52, hJ51⟩, hS30⟩ := H
  refine ⟨fun m_ z_ w_ => ∃ (i25 : Int) (xs26 : List Int), z_ = (i25, ()) ∧ J29 m_ (i25, xs26, ()) ∧ Ext w w_ ∧ Own el3 w_ w.heap.size (some (⟨g1, 0, none⟩ : Addr)) (((xs0.length : Nat) : Int).toNat) xs26 ∧ (((xs0.length : Nat) : Int).toNat) = xs26.length, ⟨m52, 0, (List.replicate (((xs0.length : Nat) : Int).toNat) (default : Int)), rfl, hJ51, hB, O2, (by first | rfl | assumption | (simp; done) | (simp; omega) | (simp; assumption))⟩, ?_⟩
  rintro m28 _ w32 ⟨i25, xs26, rfl, hJ53, hB, O2, hn27⟩
  have H := hS30 m28 _ hJ53
  clear hS30 hJ53
  dsimp only at H ⊢
  refine bcase_mk (fun hc49 => ?_) (fun hc49 => ?_)
  · have H := (bcase_iff.1 H).1 hc49
    obtain ⟨⟨h0_36, h1_37⟩, H⟩ := H
    obtain ⟨a34, ha35, hat33⟩ := Row.at (R0.ext hB) h0_36 h1_37
    refine ⟨h0_36, h1_37, a34, ha35, ?_⟩
    refine ⟨_, (hat33 0 _ rfl), ?_⟩
    obtain ⟨⟨h0_41, h1_42⟩, H⟩ := H
    obtain ⟨a39, ha40, hat38⟩ := Row.at O2.row h0_41 h1_42
    refine ⟨h0_41, (by first | exact h1_42 | omega | (simp at h1_42 ⊢; omega)), a39, ha40, ?_⟩
    refine Own.storeAt O2 ha40 h0_41 h1_42 0 [(.int .i64 (rd xs0 i25))] (rd xs0 i25) rfl (Nat.le_of_ble_eq_true rfl) rfl (fun w43 O2 e44 hb45 => ?_)
    have hB := echg hB e44 hb45
    obtain ⟨m46, hm47, hJ48⟩ := H
    exact ⟨m46, hm47, (IntKind.wrap .i64 (i25 + 1)), (List.set xs26 (i25.toNat) (rd xs0 i25)), rfl, hJ48, hB, O2, (by first | rfl | assumption | (simp; done) | (simp; omega) | (simp; assumption))⟩
  · have H := (bcase_iff.1 H).2 hc49
    obtain rfl := hr.trans H.symm
    exact ⟨(some (⟨g1, 0, none⟩ : Addr)), (((xs0.length : Nat) : Int).toNat), (by first | rfl | (simp; done) | (simp; omega) | (simp [*]; done)), (by first | exact O2 | (simp at O2 ⊢; exact O2)), hB⟩

def laws_toAccess.vc (x0_0 : Int) (x0_1 : Int) (x0_2 : Int) (x0_3 : Int) (w : World) (K : Value → World → Prop) : Prop :=
  newK w (.cells #[(.int .i64 x0_0), (.int .i64 x0_1), (.int .i64 x0_2), (.int .i64 x0_3)] 23) fun g1 w2 => newK w2 (.cells #[(.int .i64 0), (.int .i64 0), (.int .i64 0), (.int .i64 0)] 25) fun g3 w4 => newK w4 (.cells #[(.int .i64 0), (.int .i64 0), (.int .i64 0), (.int .i64 0)] 25) fun g5 w6 => ∃ (n7 : Int), w6.cell? (((⟨g1, 0, none⟩ : Addr).add 0).add 0) = some (.int .i64 n7) ∧ stCells ((⟨g5, 0, none⟩ : Addr).add 0) [(.int .i64 n7)] 0 w6 fun w8 => ∃ (n9 : Int), w8.cell? (((⟨g1, 0, none⟩ : Addr).add 1).add 0) = some (.int .i64 n9) ∧ stCells ((⟨g5, 0, none⟩ : Addr).add 1) [(.int .i64 n9)] 0 w8 fun w10 => ∃ (n11 : Int), w10.cell? (((⟨g1, 0, none⟩ : Addr).add 2).add 0) = some (.int .i64 n11) ∧ stCells ((⟨g5, 0, none⟩ : Addr).add 2) [(.int .i64 n11)] 0 w10 fun w12 => ∃ (n13 : Int), w12.cell? (((⟨g1, 0, none⟩ : Addr).add 3).add 0) = some (.int .i64 n13) ∧ stCells ((⟨g5, 0, none⟩ : Addr).add 3) [(.int .i64 n13)] 0 w12 fun w14 => ∃ (n15 : Int), w14.cell? ((⟨g5, 0, none⟩ : Addr).add 0) = some (.int .i64 n15) ∧ ∃ (n16 : Int), w14.cell? ((⟨g5, 0, none⟩ : Addr).add 1) = some (.int .i64 n16) ∧ ∃ (n17 : Int), w14.cell? ((⟨g5, 0, none⟩ : Addr).add 2) = some (.int .i64 n17) ∧ ∃ (n18 : Int), w14.cell? ((⟨g5, 0, none⟩ : Addr).add 3) = some (.int .i64 n18) ∧ stCells (⟨g3, 0, none⟩ : Addr) [(.int .i64 n15), (.int .i64 n16), (.int .i64 n17), (.int .i64 n18)] 0 w14 fun w19 => ∃ (n20 : Int), w19.cell? ((⟨g3, 0, none⟩ : Addr).add 0) = some (.int .i64 n20) ∧ ∃ (n21 : Int), w19.cell? ((⟨g3, 0, none⟩ : Addr).add 1) = some (.int .i64 n21) ∧ ∃ (n22 : Int), w19.cell? ((⟨g3, 0, none⟩ : Addr).add 2) = some (.int .i64 n22) ∧ ∃ (n23 : Int), w19.cell? ((⟨g3, 0, none⟩ : Addr).add 3) = some (.int .i64 n23) ∧ K (.agg #[(.int .i64 n20), (.int .i64 n21), (.int .i64 n22), (.int .i64 n23)]) w19

def laws_toAccess.ann : Ann := (.seq .l (.seq .l (.seq .l (.seq .l (.seq .l (.seq .l (.seq .l .l)))))))

theorem laws_toAccess.vc_eq (x0_0 : Int) (x0_1 : Int) (x0_2 : Int) (x0_3 : Int) (w : World) (K : Value → World → Prop) : vcF Try.prog Try.f16 laws_toAccess.ann [(.agg #[(.int .i64 x0_0), (.int .i64 x0_1), (.int .i64 x0_2), (.int .i64 x0_3)])] K w = laws_toAccess.vc x0_0 x0_1 x0_2 x0_3 w K := by kernel_rfl

theorem laws_toAccess.start {x0_0 : Int} {x0_1 : Int} {x0_2 : Int} {x0_3 : Int} {w : World} {K : Value → World → Prop} (h : laws_toAccess.vc x0_0 x0_1 x0_2 x0_3 w K) : Cll Try.prog 16 #[(.agg #[(.int .i64 x0_0), (.int .i64 x0_1), (.int .i64 x0_2), (.int .i64 x0_3)])] w K :=
  vcF_sound mixed (fn := Try.f16) (by kernel_rfl) (by kernel_rfl) (an := laws_toAccess.ann) (args := [(.agg #[(.int .i64 x0_0), (.int .i64 x0_1), (.int .i64 x0_2), (.int .i64 x0_3)])]) (by rw [laws_toAccess.vc_eq]; exact h)

theorem laws_toAccess.con {s0 : D.Access} {r : D.Access} {w : World} (hr : r = M.laws_toAccess s0)  :
    Cll Try.prog 16 #[(.agg #[(.int .i64 s0.Phase), (.int .i64 s0.Warp), (.int .i64 s0.Address), (.int .i64 s0.Kind)])] w (fun v_ w_ => v_ = (.agg #[(.int .i64 r.Phase), (.int .i64 r.Warp), (.int .i64 r.Address), (.int .i64 r.Kind)]) ∧ Ext w w_) := by
  have H := wp.laws_toAccess.math s0
  have hB := Ext.refl w
  refine laws_toAccess.start ?_
  unfold laws_toAccess.vc
  unfold wp.laws_toAccess at H
  refine newBlk (fun g1_ w1 L1 P1 e2 => ?_)
  have O1 := P1
  have L1 := Nat.le_trans hB.size L1
  have hB := ethen hB e2
  refine newBlk (fun g2_ w3 L2 P2 e4 => ?_)
  have N1_2 := O1.ne L2
  have O1 := O1.ext e4
  have O2 := P2
  have L2 := Nat.le_trans hB.size L2
  have hB := ethen hB e4
  refine newBlk (fun g3_ w5 L3 P3 e6 => ?_)
  have N1_3 := O1.ne L3
  have N2_3 := O2.ne L3
  have O1 := O1.ext e6
  have O2 := O2.ext e6
  have O3 := P3
  have L3 := Nat.le_trans hB.size L3
  have hB := ethen hB e6
  refine ⟨_, (O1.at 0 rfl rfl), ?_⟩
  refine stBlk O3 (o := 0) (cs' := #[(.int .i64 s0.Phase), (.int .i64 0), (.int .i64 0), (.int .i64 0)]) rfl rfl (Nat.le_of_ble_eq_true rfl) rfl (fun w7 O3 e8 => ?_)
  have O1_ := O1.chg e8 N1_3
  have O2_ := O2.chg e8 N2_3
  have O1 := O1_
  have O2 := O2_
  have hB := echg hB e8 L3
  refine ⟨_, (O1.at 1 rfl rfl), ?_⟩
  refine stBlk O3 (o := 1) (cs' := #[(.int .i64 s0.Phase), (.int .i64 s0.Warp), (.int .i64 0), (.int .i64 0)]) rfl rfl (Nat.le_of_ble_eq_true rfl) rfl (fun w9 O3 e10 => ?_)
  have O1_ := O1.chg e10 N1_3
  have O2_ := O2.chg e10 N2_3
  have O1 := O1_
  have O2 := O2_
  have hB := echg hB e10 L3
  refine ⟨_, (O1.at 2 rfl rfl), ?_⟩
  refine stBlk O3 (o := 2) (cs' := #[(.int .i64 s0.Phase), (.int .i64 s0.Warp), (.int .i64 s0.Address), (.int .i64 0)]) rfl rfl (Nat.le_of_ble_eq_true rfl) rfl (fun w11 O3 e12 => ?_)
  have O1_ := O1.chg e12 N1_3
  have O2_ := O2.chg e12 N2_3
  have O1 := O1_
  have O2 := O2_
  have hB := echg hB e12 L3
  refine ⟨_, (O1.at 3 rfl rfl), ?_⟩
  refine stBlk O3 (o := 3) (cs' := #[(.int .i64 s0.Phase), (.int .i64 s0.Warp), (.int .i64 s0.Address), (.int .i64 s0.Kind)]) rfl rfl (Nat.le_of_ble_eq_true rfl) rfl (fun w13 O3 e14 => ?_)
  have O1_ := O1.chg e14 N1_3
  have O2_ := O2.chg e14 N2_3
  have O1 := O1_
  have O2 := O2_
  have hB := echg hB e14 L3
  refine ⟨_, (O3.at 0 rfl rfl), ?_⟩
  refine ⟨_, (O3.at 1 rfl rfl), ?_⟩
  refine ⟨_, (O3.at 2 rfl rfl), ?_⟩
  refine ⟨_, (O3.at 3 rfl rfl), ?_⟩
  refine stBlk O2 (o := 0) (cs' := #[(.int .i64 s0.Phase), (.int .i64 s0.Warp), (.int .i64 s0.Address), (.int .i64 s0.Kind)]) rfl rfl (Nat.le_of_ble_eq_true rfl) rfl (fun w15 O2 e16 => ?_)
  have O1_ := O1.chg e16 N1_2
  have O3_ := O3.chg e16 (N2_3).symm
  have O1 := O1_
  have O3 := O3_
  have hB := echg hB e16 L2
  refine ⟨_, (O2.at 0 rfl rfl), ?_⟩
  refine ⟨_, (O2.at 1 rfl rfl), ?_⟩
  refine ⟨_, (O2.at 2 rfl rfl), ?_⟩
  refine ⟨_, (O2.at 3 rfl rfl), ?_⟩
  obtain rfl := hr.trans H.symm
  exact ⟨rfl, hB⟩

def impl_IsRace.vc (x0_0 : Int) (x0_1 : Int) (x0_2 : Int) (x0_3 : Int) (x1_0 : Int) (x1_1 : Int) (x1_2 : Int) (x1_3 : Int) (w : World) (K : Value → World → Prop) : Prop :=
  newK w (.cells #[(.int .i64 x0_0), (.int .i64 x0_1), (.int .i64 x0_2), (.int .i64 x0_3)] 25) fun g1 w2 => newK w2 (.cells #[(.int .i64 x1_0), (.int .i64 x1_1), (.int .i64 x1_2), (.int .i64 x1_3)] 25) fun g3 w4 => JoinT (σ := Bool × Unit) (fun J5 => ∃ (n6 : Int), w4.cell? (((⟨g1, 0, none⟩ : Addr).add 3).add 0) = some (.int .i64 n6) ∧ ∃ (n7 : Int), w4.cell? (((⟨g3, 0, none⟩ : Addr).add 3).add 0) = some (.int .i64 n7) ∧ bcase (n6 == n7) (∃ (n8 : Int), w4.cell? (((⟨g1, 0, none⟩ : Addr).add 3).add 0) = some (.int .i64 n8) ∧ bcase (n8 == 13) (J5 (true, ()) w4) (∃ (n9 : Int), w4.cell? (((⟨g1, 0, none⟩ : Addr).add 3).add 0) = some (.int .i64 n9) ∧ J5 ((n9 == 15), ()) w4)) (J5 (false, ()) w4)) fun z10 w11 => ∃ (n12 : Int), w11.cell? (((⟨g1, 0, none⟩ : Addr).add 0).add 0) = some (.int .i64 n12) ∧ ∃ (n13 : Int), w11.cell? (((⟨g3, 0, none⟩ : Addr).add 0).add 0) = some (.int .i64 n13) ∧ bcase (n12 == n13) (∃ (n14 : Int), w11.cell? (((⟨g1, 0, none⟩ : Addr).add 2).add 0) = some (.int .i64 n14) ∧ ∃ (n15 : Int), w11.cell? (((⟨g3, 0, none⟩ : Addr).add 2).add 0) = some (.int .i64 n15) ∧ bcase (n14 == n15) (∃ (n16 : Int), w11.cell? (((⟨g1, 0, none⟩ : Addr).add 1).add 0) = some (.int .i64 n16) ∧ ∃ (n17 : Int), w11.cell? (((⟨g3, 0, none⟩ : Addr).add 1).add 0) = some (.int .i64 n17) ∧ bcase (n16 != n17) (K (.bool (!z10.1)) w11) (K (.bool false) w11)) (K (.bool false) w11)) (K (.bool false) w11)

def impl_IsRace.ann : Ann := (.seq .l (.cut [(5, .bool)] .l (.seq .l .l)))

theorem impl_IsRace.vc_eq (x0_0 : Int) (x0_1 : Int) (x0_2 : Int) (x0_3 : Int) (x1_0 : Int) (x1_1 : Int) (x1_2 : Int) (x1_3 : Int) (w : World) (K : Value → World → Prop) : vcF Try.prog Try.f17 impl_IsRace.ann [(.agg #[(.int .i64 x0_0), (.int .i64 x0_1), (.int .i64 x0_2), (.int .i64 x0_3)]), (.agg #[(.int .i64 x1_0), (.int .i64 x1_1), (.int .i64 x1_2), (.int .i64 x1_3)])] K w = impl_IsRace.vc x0_0 x0_1 x0_2 x0_3 x1_0 x1_1 x1_2 x1_3 w K := by kernel_rfl

theorem impl_IsRace.start {x0_0 : Int} {x0_1 : Int} {x0_2 : Int} {x0_3 : Int} {x1_0 : Int} {x1_1 : Int} {x1_2 : Int} {x1_3 : Int} {w : World} {K : Value → World → Prop} (h : impl_IsRace.vc x0_0 x0_1 x0_2 x0_3 x1_0 x1_1 x1_2 x1_3 w K) : Cll Try.prog 17 #[(.agg #[(.int .i64 x0_0), (.int .i64 x0_1), (.int .i64 x0_2), (.int .i64 x0_3)]), (.agg #[(.int .i64 x1_0), (.int .i64 x1_1), (.int .i64 x1_2), (.int .i64 x1_3)])] w K :=
  vcF_sound mixed (fn := Try.f17) (by kernel_rfl) (by kernel_rfl) (an := impl_IsRace.ann) (args := [(.agg #[(.int .i64 x0_0), (.int .i64 x0_1), (.int .i64 x0_2), (.int .i64 x0_3)]), (.agg #[(.int .i64 x1_0), (.int .i64 x1_1), (.int .i64 x1_2), (.int .i64 x1_3)])]) (by rw [impl_IsRace.vc_eq]; exact h)

theorem impl_IsRace.con {s0 : D.Access} {s1 : D.Access} {r : Bool} {w : World} (hr : r = M.impl_IsRace s0 s1)  :
    Cll Try.prog 17 #[(.agg #[(.int .i64 s0.Phase), (.int .i64 s0.Warp), (.int .i64 s0.Address), (.int .i64 s0.Kind)]), (.agg #[(.int .i64 s1.Phase), (.int .i64 s1.Warp), (.int .i64 s1.Address), (.int .i64 s1.Kind)])] w (fun v_ w_ => v_ = (.bool r) ∧ Ext w w_) := by
  have H := wp.impl_IsRace.math s0 s1
  have hB := Ext.refl w
  refine impl_IsRace.start ?_
  unfold impl_IsRace.vc
  unfold wp.impl_IsRace at H
  refine newBlk (fun g1_ w1 L1 P1 e2 => ?_)
  have O1 := P1
  have L1 := Nat.le_trans hB.size L1
  have hB := ethen hB e2
  refine newBlk (fun g2_ w3 L2 P2 e4 => ?_)
  have N1_2 := O1.ne L2
  have O1 := O1.ext e4
  have O2 := P2
  have L2 := Nat.le_trans hB.size L2
  have hB := ethen hB e4
  obtain ⟨K15, hKK15, H⟩ := joinP_out H
  refine ⟨fun z_ w_ => ∃ (b5 : Bool), z_ = (b5, ()) ∧ K15 (b5, ()) ∧ Ext w w_ ∧ Blk w_ g1_ 25 #[(.int .i64 s0.Phase), (.int .i64 s0.Warp), (.int .i64 s0.Address), (.int .i64 s0.Kind)] ∧ Blk w_ g2_ 25 #[(.int .i64 s1.Phase), (.int .i64 s1.Warp), (.int .i64 s1.Address), (.int .i64 s1.Kind)], ?_, ?_⟩
  · refine ⟨_, (O1.at 3 rfl rfl), ?_⟩
    refine ⟨_, (O2.at 3 rfl rfl), ?_⟩
    refine bcase_mk (fun hc10 => ?_) (fun hc10 => ?_)
    · have H := (bcase_iff.1 H).1 hc10
      refine ⟨_, (O1.at 3 rfl rfl), ?_⟩
      refine bcase_mk (fun hc9 => ?_) (fun hc9 => ?_)
      · have H := (bcase_iff.1 H).1 hc9
        exact ⟨true, rfl, H, hB, O1, O2⟩
      · have H := (bcase_iff.1 H).2 hc9
        refine ⟨_, (O1.at 3 rfl rfl), ?_⟩
        exact ⟨(s0.Kind == 15), rfl, H, hB, O1, O2⟩
    · have H := (bcase_iff.1 H).2 hc10
      exact ⟨false, rfl, H, hB, O1, O2⟩
  · rintro _ w7 ⟨b5, rfl, H, hB, O1, O2⟩
    have H := hKK15 _ H
    dsimp only at H ⊢
    refine ⟨_, (O1.at 0 rfl rfl), ?_⟩
    refine ⟨_, (O2.at 0 rfl rfl), ?_⟩
    refine bcase_mk (fun hc13 => ?_) (fun hc13 => ?_)
    · have H := (bcase_iff.1 H).1 hc13
      refine ⟨_, (O1.at 2 rfl rfl), ?_⟩
      refine ⟨_, (O2.at 2 rfl rfl), ?_⟩
      refine bcase_mk (fun hc12 => ?_) (fun hc12 => ?_)
      · have H := (bcase_iff.1 H).1 hc12
        refine ⟨_, (O1.at 1 rfl rfl), ?_⟩
        refine ⟨_, (O2.at 1 rfl rfl), ?_⟩
        refine bcase_mk (fun hc11 => ?_) (fun hc11 => ?_)
        · have H := (bcase_iff.1 H).1 hc11
          obtain rfl := hr.trans H.symm
          exact ⟨rfl, hB⟩
        · have H := (bcase_iff.1 H).2 hc11
          obtain rfl := hr.trans H.symm
          exact ⟨rfl, hB⟩
      · have H := (bcase_iff.1 H).2 hc12
        obtain rfl := hr.trans H.symm
        exact ⟨rfl, hB⟩
    · have H := (bcase_iff.1 H).2 hc13
      obtain rfl := hr.trans H.symm
      exact ⟨rfl, hB⟩

def spec_IsRace.vc (x0_0 : Int) (x0_1 : Int) (x0_2 : Int) (x0_3 : Int) (x1_0 : Int) (x1_1 : Int) (x1_2 : Int) (x1_3 : Int) (w : World) (K : Value → World → Prop) : Prop :=
  newK w (.cells #[(.int .i64 x0_0), (.int .i64 x0_1), (.int .i64 x0_2), (.int .i64 x0_3)] 25) fun g1 w2 => newK w2 (.cells #[(.int .i64 x1_0), (.int .i64 x1_1), (.int .i64 x1_2), (.int .i64 x1_3)] 25) fun g3 w4 => ∃ (n6 : Int), w4.cell? (((⟨g1, 0, none⟩ : Addr).add 0).add 0) = some (.int .i64 n6) ∧ ∃ (n7 : Int), w4.cell? (((⟨g3, 0, none⟩ : Addr).add 0).add 0) = some (.int .i64 n7) ∧ bcase (n6 != n7) (K (.bool false) w4) (∃ (n8 : Int), w4.cell? (((⟨g1, 0, none⟩ : Addr).add 2).add 0) = some (.int .i64 n8) ∧ ∃ (n9 : Int), w4.cell? (((⟨g3, 0, none⟩ : Addr).add 2).add 0) = some (.int .i64 n9) ∧ bcase (n8 != n9) (K (.bool false) w4) (∃ (n10 : Int), w4.cell? (((⟨g1, 0, none⟩ : Addr).add 1).add 0) = some (.int .i64 n10) ∧ ∃ (n11 : Int), w4.cell? (((⟨g3, 0, none⟩ : Addr).add 1).add 0) = some (.int .i64 n11) ∧ bcase (n10 == n11) (K (.bool false) w4) (∃ (n12 : Int), w4.cell? (((⟨g1, 0, none⟩ : Addr).add 3).add 0) = some (.int .i64 n12) ∧ ∃ (n13 : Int), w4.cell? (((⟨g3, 0, none⟩ : Addr).add 3).add 0) = some (.int .i64 n13) ∧ bcase (n12 != n13) (K (.bool true) w4) (∃ (n14 : Int), w4.cell? (((⟨g1, 0, none⟩ : Addr).add 3).add 0) = some (.int .i64 n14) ∧ bcase (n14 != 13) (∃ (n15 : Int), w4.cell? (((⟨g1, 0, none⟩ : Addr).add 3).add 0) = some (.int .i64 n15) ∧ K (.bool (n15 != 15)) w4) (K (.bool false) w4)))))

def spec_IsRace.ann : Ann := (.seq .l (.seq (.seq .l (.two (.seq .l .l) .l)) (.seq .l .l)))

theorem spec_IsRace.vc_eq (x0_0 : Int) (x0_1 : Int) (x0_2 : Int) (x0_3 : Int) (x1_0 : Int) (x1_1 : Int) (x1_2 : Int) (x1_3 : Int) (w : World) (K : Value → World → Prop) : vcF Try.prog Try.f15 spec_IsRace.ann [(.agg #[(.int .i64 x0_0), (.int .i64 x0_1), (.int .i64 x0_2), (.int .i64 x0_3)]), (.agg #[(.int .i64 x1_0), (.int .i64 x1_1), (.int .i64 x1_2), (.int .i64 x1_3)])] K w = spec_IsRace.vc x0_0 x0_1 x0_2 x0_3 x1_0 x1_1 x1_2 x1_3 w K := by kernel_rfl

theorem spec_IsRace.start {x0_0 : Int} {x0_1 : Int} {x0_2 : Int} {x0_3 : Int} {x1_0 : Int} {x1_1 : Int} {x1_2 : Int} {x1_3 : Int} {w : World} {K : Value → World → Prop} (h : spec_IsRace.vc x0_0 x0_1 x0_2 x0_3 x1_0 x1_1 x1_2 x1_3 w K) : Cll Try.prog 15 #[(.agg #[(.int .i64 x0_0), (.int .i64 x0_1), (.int .i64 x0_2), (.int .i64 x0_3)]), (.agg #[(.int .i64 x1_0), (.int .i64 x1_1), (.int .i64 x1_2), (.int .i64 x1_3)])] w K :=
  vcF_sound mixed (fn := Try.f15) (by kernel_rfl) (by kernel_rfl) (an := spec_IsRace.ann) (args := [(.agg #[(.int .i64 x0_0), (.int .i64 x0_1), (.int .i64 x0_2), (.int .i64 x0_3)]), (.agg #[(.int .i64 x1_0), (.int .i64 x1_1), (.int .i64 x1_2), (.int .i64 x1_3)])]) (by rw [spec_IsRace.vc_eq]; exact h)

theorem spec_IsRace.con {s0 : D.Access} {s1 : D.Access} {r : Bool} {w : World} (hr : r = M.spec_IsRace s0 s1)  :
    Cll Try.prog 15 #[(.agg #[(.int .i64 s0.Phase), (.int .i64 s0.Warp), (.int .i64 s0.Address), (.int .i64 s0.Kind)]), (.agg #[(.int .i64 s1.Phase), (.int .i64 s1.Warp), (.int .i64 s1.Address), (.int .i64 s1.Kind)])] w (fun v_ w_ => v_ = (.bool r) ∧ Ext w w_) := by
  have H := wp.spec_IsRace.math s0 s1
  have hB := Ext.refl w
  refine spec_IsRace.start ?_
  unfold spec_IsRace.vc
  unfold wp.spec_IsRace at H
  refine newBlk (fun g1_ w1 L1 P1 e2 => ?_)
  have O1 := P1
  have L1 := Nat.le_trans hB.size L1
  have hB := ethen hB e2
  refine newBlk (fun g2_ w3 L2 P2 e4 => ?_)
  have N1_2 := O1.ne L2
  have O1 := O1.ext e4
  have O2 := P2
  have L2 := Nat.le_trans hB.size L2
  have hB := ethen hB e4
  refine ⟨_, (O1.at 0 rfl rfl), ?_⟩
  refine ⟨_, (O2.at 0 rfl rfl), ?_⟩
  refine bcase_mk (fun hc9 => ?_) (fun hc9 => ?_)
  · have H := (bcase_iff.1 H).1 hc9
    obtain rfl := hr.trans H.symm
    exact ⟨rfl, hB⟩
  · have H := (bcase_iff.1 H).2 hc9
    refine ⟨_, (O1.at 2 rfl rfl), ?_⟩
    refine ⟨_, (O2.at 2 rfl rfl), ?_⟩
    refine bcase_mk (fun hc8 => ?_) (fun hc8 => ?_)
    · have H := (bcase_iff.1 H).1 hc8
      obtain rfl := hr.trans H.symm
      exact ⟨rfl, hB⟩
    · have H := (bcase_iff.1 H).2 hc8
      refine ⟨_, (O1.at 1 rfl rfl), ?_⟩
      refine ⟨_, (O2.at 1 rfl rfl), ?_⟩
      refine bcase_mk (fun hc7 => ?_) (fun hc7 => ?_)
      · have H := (bcase_iff.1 H).1 hc7
        obtain rfl := hr.trans H.symm
        exact ⟨rfl, hB⟩
      · have H := (bcase_iff.1 H).2 hc7
        refine ⟨_, (O1.at 3 rfl rfl), ?_⟩
        refine ⟨_, (O2.at 3 rfl rfl), ?_⟩
        refine bcase_mk (fun hc6 => ?_) (fun hc6 => ?_)
        · have H := (bcase_iff.1 H).1 hc6
          obtain rfl := hr.trans H.symm
          exact ⟨rfl, hB⟩
        · have H := (bcase_iff.1 H).2 hc6
          refine ⟨_, (O1.at 3 rfl rfl), ?_⟩
          refine bcase_mk (fun hc5 => ?_) (fun hc5 => ?_)
          · have H := (bcase_iff.1 H).1 hc5
            refine ⟨_, (O1.at 3 rfl rfl), ?_⟩
            obtain rfl := hr.trans H.symm
            exact ⟨rfl, hB⟩
          · have H := (bcase_iff.1 H).2 hc5
            obtain rfl := hr.trans H.symm
            exact ⟨rfl, hB⟩

def laws_szAccessS.vc (A0 : Option Addr) (n0 : Nat) (c0 : Nat) (x1 : Int) (w : World) (K : Value → World → Prop) : Prop :=
  bcase (decide ((IntKind.wrap .i64 (x1 - ((n0 : Nat) : Int))) < 0)) (K (.int .i64 (-1)) w) (K (.int .i64 (IntKind.wrap .i64 (x1 - ((n0 : Nat) : Int)))) w)

def laws_szAccessS.ann : Ann := (.seq .l (.seq .l (.seq (.seq .l (.two (.seq .l .l) .l)) (.seq .l .l))))

theorem laws_szAccessS.vc_eq (A0 : Option Addr) (n0 : Nat) (c0 : Nat) (x1 : Int) (w : World) (K : Value → World → Prop) : vcF Try.prog Try.f18 laws_szAccessS.ann [(.slice A0 n0 c0), (.int .i64 x1)] K w = laws_szAccessS.vc A0 n0 c0 x1 w K := by kernel_rfl

theorem laws_szAccessS.start {A0 : Option Addr} {n0 : Nat} {c0 : Nat} {x1 : Int} {w : World} {K : Value → World → Prop} (h : laws_szAccessS.vc A0 n0 c0 x1 w K) : Cll Try.prog 18 #[(.slice A0 n0 c0), (.int .i64 x1)] w K :=
  vcF_sound mixed (fn := Try.f18) (by kernel_rfl) (by kernel_rfl) (an := laws_szAccessS.ann) (args := [(.slice A0 n0 c0), (.int .i64 x1)]) (by rw [laws_szAccessS.vc_eq]; exact h)

theorem laws_szAccessS.con {xs0 : List D.Access} {A0 : Option Addr} {c0 : Nat} {x1 : Int} {r : Int} {w : World} (hp : M.laws_szAccessS_pre xs0 x1) (hr : r = M.laws_szAccessS xs0 x1) (R0 : Row el23 w A0 xs0) (hc0 : xs0.length ≤ c0) :
    Cll Try.prog 18 #[(.slice A0 xs0.length c0), (.int .i64 x1)] w (fun v_ w_ => v_ = (.int .i64 r) ∧ Ext w w_) := by
  have H := wp.laws_szAccessS.math xs0 x1 hp
  have hB := Ext.refl w
  refine laws_szAccessS.start ?_
  unfold laws_szAccessS.vc
  unfold wp.laws_szAccessS at H
  refine bcase_mk (fun hc1 => ?_) (fun hc1 => ?_)
  · have H := (bcase_iff.1 H).1 hc1
    obtain rfl := hr.trans H.symm
    exact ⟨rfl, hB⟩
  · have H := (bcase_iff.1 H).2 hc1
    obtain rfl := hr.trans H.symm
    exact ⟨rfl, hB⟩

def laws_toAccessS.vc (A0 : Option Addr) (n0 : Nat) (c0 : Nat) (w : World) (K : Value → World → Prop) : Prop :=
  vcMake Try.prog 32 ((n0 : Nat) : Int) ((n0 : Nat) : Int) w fun g1 w2 => LoopT (σ := Int × Unit) (fun z3 w4 next5 => bcase (decide (z3.1 < ((n0 : Nat) : Int))) (((0 : Int) ≤ z3.1 ∧ z3.1 < ((n0 : Nat) : Int) ∧ ∃ a6 : Addr, A0 = some a6 ∧ ∃ (n7 : Int), w4.cell? ((a6.add ((z3.1.toNat) * 4)).add 0) = some (.int .i64 n7) ∧ ∃ (n8 : Int), w4.cell? ((a6.add ((z3.1.toNat) * 4)).add 1) = some (.int .i64 n8) ∧ ∃ (n9 : Int), w4.cell? ((a6.add ((z3.1.toNat) * 4)).add 2) = some (.int .i64 n9) ∧ ∃ (n10 : Int), w4.cell? ((a6.add ((z3.1.toNat) * 4)).add 3) = some (.int .i64 n10) ∧ Cll Try.prog 16 #[(.agg #[(.int .i64 n7), (.int .i64 n8), (.int .i64 n9), (.int .i64 n10)])] w4 fun v11 w12 => (∃ (n13 : Int), True ∧ ∃ (n14 : Int), True ∧ ∃ (n15 : Int), True ∧ ∃ (n16 : Int), True ∧ v11 = (.agg #[(.int .i64 n13), (.int .i64 n14), (.int .i64 n15), (.int .i64 n16)]) ∧ ((0 : Int) ≤ z3.1 ∧ z3.1 < (((((n0 : Nat) : Int).toNat) : Nat) : Int) ∧ ∃ a17 : Addr, (some (⟨g1, 0, none⟩ : Addr)) = some a17 ∧ stCells (a17.add ((z3.1.toNat) * 4)) [(.int .i64 n13), (.int .i64 n14), (.int .i64 n15), (.int .i64 n16)] 0 w12 fun w18 => next5 ((IntKind.wrap .i64 (z3.1 + 1)), ()) w18)))) (K (.slice (some (⟨g1, 0, none⟩ : Addr)) (((n0 : Nat) : Int).toNat) (((n0 : Nat) : Int).toNat)) w4)) (0, ()) w2

def laws_toAccessS.ann : Ann := (.seq .l (.seq .l (.seq (.seq .l (.one (.loop [(4, .int .i64)] (.seq (.seq .l (.two .l .l)) (.seq (.one .l) .l))))) (.seq .l .l))))

theorem laws_toAccessS.vc_eq (A0 : Option Addr) (n0 : Nat) (c0 : Nat) (w : World) (K : Value → World → Prop) : vcF Try.prog Try.f20 laws_toAccessS.ann [(.slice A0 n0 c0)] K w = laws_toAccessS.vc A0 n0 c0 w K := by kernel_rfl

theorem laws_toAccessS.start {A0 : Option Addr} {n0 : Nat} {c0 : Nat} {w : World} {K : Value → World → Prop} (h : laws_toAccessS.vc A0 n0 c0 w K) : Cll Try.prog 20 #[(.slice A0 n0 c0)] w K :=
  vcF_sound mixed (fn := Try.f20) (by kernel_rfl) (by kernel_rfl) (an := laws_toAccessS.ann) (args := [(.slice A0 n0 c0)]) (by rw [laws_toAccessS.vc_eq]; exact h)

theorem laws_toAccessS.con {xs0 : List D.Access} {A0 : Option Addr} {c0 : Nat} {r : List D.Access} {w : World} (hp : M.laws_toAccessS_pre xs0) (hr : r = M.laws_toAccessS xs0) (R0 : Row el23 w A0 xs0) (hc0 : xs0.length ≤ c0) :
    Cll Try.prog 20 #[(.slice A0 xs0.length c0)] w (fun v_ w_ => ∃ (A0_ : Option Addr) (c0_ : Nat), v_ = (.slice A0_ r.length c0_) ∧ Own el25 w_ w.heap.size A0_ c0_ r ∧ Ext w w_) := by
  have H := wp.laws_toAccessS.math xs0 hp
  have hB := Ext.refl w
  refine laws_toAccessS.start ?_
  unfold laws_toAccessS.vc
  unfold wp.laws_toAccessS at H
  obtain ⟨⟨h0_4, h1_5⟩, H⟩ := H
  refine makeOwn slt32 h0_4 h1_5 (fun g1 w2 P2 e3 => ?_)
  have O2 := P2.mono hB.size
  have hB := ethen hB e3
  obtain ⟨J34, ⟨m62, hJ61⟩, hS35⟩ := H
  refine ⟨fun m_ z_ w_ => ∃ (i30 : Int) (xs31 : List D.Access), z_ = (i30, ()) ∧ J34 m_ (i30, xs31, ()) ∧ Ext w w_ ∧ Own el25 w_ w.heap.size (some (⟨g1, 0, none⟩ : Addr)) (((xs0.length : Nat) : Int).toNat) xs31 ∧ (((xs0.length : Nat) : Int).toNat) = xs31.length, ⟨m62, 0, (List.replicate (((xs0.length : Nat) : Int).toNat) (default : D.Access)), rfl, hJ61, hB, O2, (by first | rfl | assumption | (simp; done) | (simp; omega) | (simp; assumption))⟩, ?_⟩
  rintro m33 _ w37 ⟨i30, xs31, rfl, hJ63, hB, O2, hn32⟩
  have H := hS35 m33 _ hJ63
  clear hS35 hJ63
  dsimp only at H ⊢
  refine bcase_mk (fun hc59 => ?_) (fun hc59 => ?_)
  · have H := (bcase_iff.1 H).1 hc59
    obtain ⟨⟨h0_41, h1_42⟩, H⟩ := H
    obtain ⟨a39, ha40, hat38⟩ := Row.at (R0.ext hB) h0_41 h1_42
    refine ⟨h0_41, h1_42, a39, ha40, ?_⟩
    refine ⟨_, (hat38 0 _ rfl), ?_⟩
    refine ⟨_, (hat38 1 _ rfl), ?_⟩
    refine ⟨_, (hat38 2 _ rfl), ?_⟩
    refine ⟨_, (hat38 3 _ rfl), ?_⟩
    obtain ⟨r43, hr44⟩ : ∃ r_, r_ = M.laws_toAccess (rd xs0 i30) := ⟨_, rfl⟩
    have H := H r43 hr44
    refine (laws_toAccess.con hr44 ).mono ?_
    rintro _ w46 ⟨rfl, e47⟩
    have O2 := O2.ext e47
    have hB := ethen hB e47
    refine ⟨r43.Phase, trivial, ?_⟩
    refine ⟨r43.Warp, trivial, ?_⟩
    refine ⟨r43.Address, trivial, ?_⟩
    refine ⟨r43.Kind, trivial, ?_⟩
    refine ⟨rfl, ?_⟩
    obtain ⟨⟨h0_51, h1_52⟩, H⟩ := H
    obtain ⟨a49, ha50, hat48⟩ := Row.at O2.row h0_51 h1_52
    refine ⟨h0_51, (by first | exact h1_52 | omega | (simp at h1_52 ⊢; omega)), a49, ha50, ?_⟩
    refine Own.storeAt O2 ha50 h0_51 h1_52 0 [(.int .i64 r43.Phase), (.int .i64 r43.Warp), (.int .i64 r43.Address), (.int .i64 r43.Kind)] (⟨r43.Phase, r43.Warp, r43.Address, r43.Kind⟩ : D.Access) rfl (Nat.le_of_ble_eq_true rfl) rfl (fun w53 O2 e54 hb55 => ?_)
    have hB := echg hB e54 hb55
    obtain ⟨m56, hm57, hJ58⟩ := H
    exact ⟨m56, hm57, (IntKind.wrap .i64 (i30 + 1)), (List.set xs31 (i30.toNat) (⟨r43.Phase, r43.Warp, r43.Address, r43.Kind⟩ : D.Access)), rfl, hJ58, hB, O2, (by first | rfl | assumption | (simp; done) | (simp; omega) | (simp; assumption))⟩
  · have H := (bcase_iff.1 H).2 hc59
    obtain rfl := hr.trans H.symm
    exact ⟨(some (⟨g1, 0, none⟩ : Addr)), (((xs0.length : Nat) : Int).toNat), (by first | rfl | (simp; done) | (simp; omega) | (simp [*]; done)), (by first | exact O2 | (simp at O2 ⊢; exact O2)), hB⟩

def laws_FnExactIsRace.vc (x0_0 : Int) (x0_1 : Int) (x0_2 : Int) (x0_3 : Int) (x1_0 : Int) (x1_1 : Int) (x1_2 : Int) (x1_3 : Int) (w : World) (K : Value → World → Prop) : Prop :=
  newK w (.cells #[(.int .i64 x0_0), (.int .i64 x0_1), (.int .i64 x0_2), (.int .i64 x0_3)] 23) fun g1 w2 => newK w2 (.cells #[(.int .i64 x1_0), (.int .i64 x1_1), (.int .i64 x1_2), (.int .i64 x1_3)] 23) fun g3 w4 => (∃ M5 : Nat → Prop, ∃ (n6 : Int), (¬ M5 ((⟨g1, 0, none⟩ : Addr)).block ∧ w4.cell? ((⟨g1, 0, none⟩ : Addr).add 0) = some (.int .i64 n6)) ∧ ∃ (n7 : Int), (¬ M5 ((⟨g1, 0, none⟩ : Addr)).block ∧ w4.cell? ((⟨g1, 0, none⟩ : Addr).add 1) = some (.int .i64 n7)) ∧ ∃ (n8 : Int), (¬ M5 ((⟨g1, 0, none⟩ : Addr)).block ∧ w4.cell? ((⟨g1, 0, none⟩ : Addr).add 2) = some (.int .i64 n8)) ∧ ∃ (n9 : Int), (¬ M5 ((⟨g1, 0, none⟩ : Addr)).block ∧ w4.cell? ((⟨g1, 0, none⟩ : Addr).add 3) = some (.int .i64 n9)) ∧ ∃ (n10 : Int), (¬ M5 ((⟨g3, 0, none⟩ : Addr)).block ∧ w4.cell? ((⟨g3, 0, none⟩ : Addr).add 0) = some (.int .i64 n10)) ∧ ∃ (n11 : Int), (¬ M5 ((⟨g3, 0, none⟩ : Addr)).block ∧ w4.cell? ((⟨g3, 0, none⟩ : Addr).add 1) = some (.int .i64 n11)) ∧ ∃ (n12 : Int), (¬ M5 ((⟨g3, 0, none⟩ : Addr)).block ∧ w4.cell? ((⟨g3, 0, none⟩ : Addr).add 2) = some (.int .i64 n12)) ∧ ∃ (n13 : Int), (¬ M5 ((⟨g3, 0, none⟩ : Addr)).block ∧ w4.cell? ((⟨g3, 0, none⟩ : Addr).add 3) = some (.int .i64 n13)) ∧ Cll Try.prog 16 #[(.agg #[(.int .i64 n6), (.int .i64 n7), (.int .i64 n8), (.int .i64 n9)])] w4.drew fun v14 w15 => (∃ (n16 : Int), True ∧ ∃ (n17 : Int), True ∧ ∃ (n18 : Int), True ∧ ∃ (n19 : Int), True ∧ v14 = (.agg #[(.int .i64 n16), (.int .i64 n17), (.int .i64 n18), (.int .i64 n19)]) ∧ SameBut M5 w4 w15 ∧ Cll Try.prog 16 #[(.agg #[(.int .i64 n10), (.int .i64 n11), (.int .i64 n12), (.int .i64 n13)])] w15 fun v20 w21 => (∃ (n22 : Int), True ∧ ∃ (n23 : Int), True ∧ ∃ (n24 : Int), True ∧ ∃ (n25 : Int), True ∧ v20 = (.agg #[(.int .i64 n22), (.int .i64 n23), (.int .i64 n24), (.int .i64 n25)]) ∧ SameBut M5 w4 w21 ∧ Cll Try.prog 15 #[(.agg #[(.int .i64 n16), (.int .i64 n17), (.int .i64 n18), (.int .i64 n19)]), (.agg #[(.int .i64 n22), (.int .i64 n23), (.int .i64 n24), (.int .i64 n25)])] w21 fun v26 w27 => (∃ (b28 : Bool), v26 = (.bool b28) ∧ SameBut M5 w4 w27 ∧ (∃ M29 : Nat → Prop, ∃ (n30 : Int), (¬ M29 ((⟨g1, 0, none⟩ : Addr)).block ∧ w27.cell? ((⟨g1, 0, none⟩ : Addr).add 0) = some (.int .i64 n30)) ∧ ∃ (n31 : Int), (¬ M29 ((⟨g1, 0, none⟩ : Addr)).block ∧ w27.cell? ((⟨g1, 0, none⟩ : Addr).add 1) = some (.int .i64 n31)) ∧ ∃ (n32 : Int), (¬ M29 ((⟨g1, 0, none⟩ : Addr)).block ∧ w27.cell? ((⟨g1, 0, none⟩ : Addr).add 2) = some (.int .i64 n32)) ∧ ∃ (n33 : Int), (¬ M29 ((⟨g1, 0, none⟩ : Addr)).block ∧ w27.cell? ((⟨g1, 0, none⟩ : Addr).add 3) = some (.int .i64 n33)) ∧ ∃ (n34 : Int), (¬ M29 ((⟨g3, 0, none⟩ : Addr)).block ∧ w27.cell? ((⟨g3, 0, none⟩ : Addr).add 0) = some (.int .i64 n34)) ∧ ∃ (n35 : Int), (¬ M29 ((⟨g3, 0, none⟩ : Addr)).block ∧ w27.cell? ((⟨g3, 0, none⟩ : Addr).add 1) = some (.int .i64 n35)) ∧ ∃ (n36 : Int), (¬ M29 ((⟨g3, 0, none⟩ : Addr)).block ∧ w27.cell? ((⟨g3, 0, none⟩ : Addr).add 2) = some (.int .i64 n36)) ∧ ∃ (n37 : Int), (¬ M29 ((⟨g3, 0, none⟩ : Addr)).block ∧ w27.cell? ((⟨g3, 0, none⟩ : Addr).add 3) = some (.int .i64 n37)) ∧ Cll Try.prog 16 #[(.agg #[(.int .i64 n30), (.int .i64 n31), (.int .i64 n32), (.int .i64 n33)])] w27.drew fun v38 w39 => (∃ (n40 : Int), True ∧ ∃ (n41 : Int), True ∧ ∃ (n42 : Int), True ∧ ∃ (n43 : Int), True ∧ v38 = (.agg #[(.int .i64 n40), (.int .i64 n41), (.int .i64 n42), (.int .i64 n43)]) ∧ SameBut M29 w27 w39 ∧ Cll Try.prog 16 #[(.agg #[(.int .i64 n34), (.int .i64 n35), (.int .i64 n36), (.int .i64 n37)])] w39 fun v44 w45 => (∃ (n46 : Int), True ∧ ∃ (n47 : Int), True ∧ ∃ (n48 : Int), True ∧ ∃ (n49 : Int), True ∧ v44 = (.agg #[(.int .i64 n46), (.int .i64 n47), (.int .i64 n48), (.int .i64 n49)]) ∧ SameBut M29 w27 w45 ∧ Cll Try.prog 17 #[(.agg #[(.int .i64 n40), (.int .i64 n41), (.int .i64 n42), (.int .i64 n43)]), (.agg #[(.int .i64 n46), (.int .i64 n47), (.int .i64 n48), (.int .i64 n49)])] w45 fun v50 w51 => (∃ (b52 : Bool), v50 = (.bool b52) ∧ SameBut M29 w27 w51 ∧ bcase (!(b52 == b28)) (K (.bool false) w51) (K (.bool true) w51)))))))))

def laws_FnExactIsRace.ann : Ann := (.seq .l (.seq .l (.seq .l (.seq (.seq .l (.two (.seq .l .l) .l)) (.seq .l .l)))))

theorem laws_FnExactIsRace.vc_eq (x0_0 : Int) (x0_1 : Int) (x0_2 : Int) (x0_3 : Int) (x1_0 : Int) (x1_1 : Int) (x1_2 : Int) (x1_3 : Int) (w : World) (K : Value → World → Prop) : vcF Try.prog Try.f3 laws_FnExactIsRace.ann [(.agg #[(.int .i64 x0_0), (.int .i64 x0_1), (.int .i64 x0_2), (.int .i64 x0_3)]), (.agg #[(.int .i64 x1_0), (.int .i64 x1_1), (.int .i64 x1_2), (.int .i64 x1_3)])] K w = laws_FnExactIsRace.vc x0_0 x0_1 x0_2 x0_3 x1_0 x1_1 x1_2 x1_3 w K := by kernel_rfl

theorem laws_FnExactIsRace.start {x0_0 : Int} {x0_1 : Int} {x0_2 : Int} {x0_3 : Int} {x1_0 : Int} {x1_1 : Int} {x1_2 : Int} {x1_3 : Int} {w : World} {K : Value → World → Prop} (h : laws_FnExactIsRace.vc x0_0 x0_1 x0_2 x0_3 x1_0 x1_1 x1_2 x1_3 w K) : Cll Try.prog 3 #[(.agg #[(.int .i64 x0_0), (.int .i64 x0_1), (.int .i64 x0_2), (.int .i64 x0_3)]), (.agg #[(.int .i64 x1_0), (.int .i64 x1_1), (.int .i64 x1_2), (.int .i64 x1_3)])] w K :=
  vcF_sound mixed (fn := Try.f3) (by kernel_rfl) (by kernel_rfl) (an := laws_FnExactIsRace.ann) (args := [(.agg #[(.int .i64 x0_0), (.int .i64 x0_1), (.int .i64 x0_2), (.int .i64 x0_3)]), (.agg #[(.int .i64 x1_0), (.int .i64 x1_1), (.int .i64 x1_2), (.int .i64 x1_3)])]) (by rw [laws_FnExactIsRace.vc_eq]; exact h)

theorem laws_FnExactIsRace.con {s0 : D.Access} {s1 : D.Access} {r : Bool} {w : World} (hr : r = M.laws_FnExactIsRace s0 s1)  :
    Cll Try.prog 3 #[(.agg #[(.int .i64 s0.Phase), (.int .i64 s0.Warp), (.int .i64 s0.Address), (.int .i64 s0.Kind)]), (.agg #[(.int .i64 s1.Phase), (.int .i64 s1.Warp), (.int .i64 s1.Address), (.int .i64 s1.Kind)])] w (fun v_ w_ => v_ = (.bool r) ∧ Ext w w_) := by
  have H := wp.laws_FnExactIsRace.math s0 s1
  have hB := Ext.refl w
  refine laws_FnExactIsRace.start ?_
  unfold laws_FnExactIsRace.vc
  unfold wp.laws_FnExactIsRace at H
  refine newBlk (fun g1_ w1 L1 P1 e2 => ?_)
  have O1 := P1
  have L1 := Nat.le_trans hB.size L1
  have hB := ethen hB e2
  refine newBlk (fun g2_ w3 L2 P2 e4 => ?_)
  have N1_2 := O1.ne L2
  have O1 := O1.ext e4
  have O2 := P2
  have L2 := Nat.le_trans hB.size L2
  have hB := ethen hB e4
  refine ⟨(fun _ => False), ?_⟩
  refine ⟨_, ⟨(fun h_ => h_), (O1.at 0 rfl rfl)⟩, ?_⟩
  refine ⟨_, ⟨(fun h_ => h_), (O1.at 1 rfl rfl)⟩, ?_⟩
  refine ⟨_, ⟨(fun h_ => h_), (O1.at 2 rfl rfl)⟩, ?_⟩
  refine ⟨_, ⟨(fun h_ => h_), (O1.at 3 rfl rfl)⟩, ?_⟩
  refine ⟨_, ⟨(fun h_ => h_), (O2.at 0 rfl rfl)⟩, ?_⟩
  refine ⟨_, ⟨(fun h_ => h_), (O2.at 1 rfl rfl)⟩, ?_⟩
  refine ⟨_, ⟨(fun h_ => h_), (O2.at 2 rfl rfl)⟩, ?_⟩
  refine ⟨_, ⟨(fun h_ => h_), (O2.at 3 rfl rfl)⟩, ?_⟩
  have hS5 := Chg.refl (fun _ => False) w3
  have O1 := O1.ext (Ext.drew _)
  have O2 := O2.ext (Ext.drew _)
  have hB := ethen hB (Ext.drew _)
  have hS5 := hS5.then (Ext.drew _)
  obtain ⟨r6, hr7⟩ : ∃ r_, r_ = M.laws_toAccess s0 := ⟨_, rfl⟩
  have H := H r6 hr7
  refine (laws_toAccess.con hr7 ).mono ?_
  rintro _ w9 ⟨rfl, e10⟩
  have O1 := O1.ext e10
  have O2 := O2.ext e10
  have hB := ethen hB e10
  have hS5 := hS5.then e10
  refine ⟨r6.Phase, trivial, ?_⟩
  refine ⟨r6.Warp, trivial, ?_⟩
  refine ⟨r6.Address, trivial, ?_⟩
  refine ⟨r6.Kind, trivial, ?_⟩
  refine ⟨rfl, ?_⟩
  refine ⟨sameBut_chg hS5, ?_⟩
  obtain ⟨r11, hr12⟩ : ∃ r_, r_ = M.laws_toAccess s1 := ⟨_, rfl⟩
  have H := H r11 hr12
  refine (laws_toAccess.con hr12 ).mono ?_
  rintro _ w14 ⟨rfl, e15⟩
  have O1 := O1.ext e15
  have O2 := O2.ext e15
  have hB := ethen hB e15
  have hS5 := hS5.then e15
  refine ⟨r11.Phase, trivial, ?_⟩
  refine ⟨r11.Warp, trivial, ?_⟩
  refine ⟨r11.Address, trivial, ?_⟩
  refine ⟨r11.Kind, trivial, ?_⟩
  refine ⟨rfl, ?_⟩
  refine ⟨sameBut_chg hS5, ?_⟩
  obtain ⟨r16, hr17⟩ : ∃ r_, r_ = M.spec_IsRace r6 r11 := ⟨_, rfl⟩
  have H := H r16 hr17
  refine (spec_IsRace.con hr17 ).mono ?_
  rintro _ w19 ⟨rfl, e20⟩
  have O1 := O1.ext e20
  have O2 := O2.ext e20
  have hB := ethen hB e20
  have hS5 := hS5.then e20
  refine ⟨r16, rfl, ?_⟩
  refine ⟨sameBut_chg hS5, ?_⟩
  refine ⟨(fun _ => False), ?_⟩
  refine ⟨_, ⟨(fun h_ => h_), (O1.at 0 rfl rfl)⟩, ?_⟩
  refine ⟨_, ⟨(fun h_ => h_), (O1.at 1 rfl rfl)⟩, ?_⟩
  refine ⟨_, ⟨(fun h_ => h_), (O1.at 2 rfl rfl)⟩, ?_⟩
  refine ⟨_, ⟨(fun h_ => h_), (O1.at 3 rfl rfl)⟩, ?_⟩
  refine ⟨_, ⟨(fun h_ => h_), (O2.at 0 rfl rfl)⟩, ?_⟩
  refine ⟨_, ⟨(fun h_ => h_), (O2.at 1 rfl rfl)⟩, ?_⟩
  refine ⟨_, ⟨(fun h_ => h_), (O2.at 2 rfl rfl)⟩, ?_⟩
  refine ⟨_, ⟨(fun h_ => h_), (O2.at 3 rfl rfl)⟩, ?_⟩
  have hS21 := Chg.refl (fun _ => False) w19
  have O1 := O1.ext (Ext.drew _)
  have O2 := O2.ext (Ext.drew _)
  have hB := ethen hB (Ext.drew _)
  have hS21 := hS21.then (Ext.drew _)
  obtain ⟨r22, hr23⟩ : ∃ r_, r_ = M.laws_toAccess s0 := ⟨_, rfl⟩
  have H := H r22 hr23
  refine (laws_toAccess.con hr23 ).mono ?_
  rintro _ w25 ⟨rfl, e26⟩
  have O1 := O1.ext e26
  have O2 := O2.ext e26
  have hB := ethen hB e26
  have hS21 := hS21.then e26
  refine ⟨r22.Phase, trivial, ?_⟩
  refine ⟨r22.Warp, trivial, ?_⟩
  refine ⟨r22.Address, trivial, ?_⟩
  refine ⟨r22.Kind, trivial, ?_⟩
  refine ⟨rfl, ?_⟩
  refine ⟨sameBut_chg hS21, ?_⟩
  obtain ⟨r27, hr28⟩ : ∃ r_, r_ = M.laws_toAccess s1 := ⟨_, rfl⟩
  have H := H r27 hr28
  refine (laws_toAccess.con hr28 ).mono ?_
  rintro _ w30 ⟨rfl, e31⟩
  have O1 := O1.ext e31
  have O2 := O2.ext e31
  have hB := ethen hB e31
  have hS21 := hS21.then e31
  refine ⟨r27.Phase, trivial, ?_⟩
  refine ⟨r27.Warp, trivial, ?_⟩
  refine ⟨r27.Address, trivial, ?_⟩
  refine ⟨r27.Kind, trivial, ?_⟩
  refine ⟨rfl, ?_⟩
  refine ⟨sameBut_chg hS21, ?_⟩
  obtain ⟨r32, hr33⟩ : ∃ r_, r_ = M.impl_IsRace r22 r27 := ⟨_, rfl⟩
  have H := H r32 hr33
  refine (impl_IsRace.con hr33 ).mono ?_
  rintro _ w35 ⟨rfl, e36⟩
  have O1 := O1.ext e36
  have O2 := O2.ext e36
  have hB := ethen hB e36
  have hS21 := hS21.then e36
  refine ⟨r32, rfl, ?_⟩
  refine ⟨sameBut_chg hS21, ?_⟩
  refine bcase_mk (fun hc37 => ?_) (fun hc37 => ?_)
  · have H := (bcase_iff.1 H).1 hc37
    obtain rfl := hr.trans H.symm
    exact ⟨rfl, hB⟩
  · have H := (bcase_iff.1 H).2 hc37
    obtain rfl := hr.trans H.symm
    exact ⟨rfl, hB⟩

end Go.V
