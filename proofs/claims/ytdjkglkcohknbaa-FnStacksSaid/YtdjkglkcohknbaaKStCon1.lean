import Derived.Test.YtdjkglkcohknbaaKStMath2
import Derived.Test.YtdjkglkcohknbaaSeat
import Derived.Test.YtdjkglkcohknbaaVPlc
namespace Go.V
open Go.Proofs
set_option linter.unusedVariables false
set_option linter.unusedSimpArgs false
set_option maxRecDepth 100000
def impl_within.vc (x0 : Int) (x1 : Int) (x2 : Int) (w : World) (K : Value → World → Prop) : Prop :=
  bcase (decide (x0 ≥ x1)) (K (.bool (decide (x0 ≤ x2))) w) (K (.bool false) w)

def impl_within.ann : Ann := (.seq .l (.seq .l .l))

theorem impl_within.start {x0 : Int} {x1 : Int} {x2 : Int} {w : World} {K : Value → World → Prop} (h : impl_within.vc x0 x1 x2 w K) : Cll Try.prog 33 #[(.int .i64 x0), (.int .i64 x1), (.int .i64 x2)] w K :=
  vcF_sound mixed (fn := Try.f33) (by kernel_rfl) (by kernel_rfl) (an := impl_within.ann) (args := [(.int .i64 x0), (.int .i64 x1), (.int .i64 x2)]) (Eq.mpr (by kernel_rfl) h)

theorem impl_within.con {x0 : Int} {x1 : Int} {x2 : Int} {r : Bool} {w : World} (hr : r = M.impl_within x0 x1 x2)  :
    Cll Try.prog 33 #[(.int .i64 x0), (.int .i64 x1), (.int .i64 x2)] w (fun v_ w_ => v_ = (.bool r) ∧ Ext w w_) := by
  have H := wp.impl_within.math x0 x1 x2
  have hB := Ext.refl w
  refine impl_within.start ?_
  unfold impl_within.vc
  unfold wp.impl_within at H
  refine bcase_mk (fun hc21 => ?_) (fun hc21 => ?_)
  · have H := (bcase_iff.1 H).1 hc21
    obtain rfl := hr.trans H.symm
    exact ⟨rfl, hB⟩
  have H := (bcase_iff.1 H).2 hc21
  obtain rfl := hr.trans H.symm
  exact ⟨rfl, hB⟩
def impl_IsWord.vc (x0 : Int) (w : World) (K : Value → World → Prop) : Prop :=
  Cll Try.prog 33 #[(.int .i64 x0), (.int .i64 0), (.int .i64 65535)] w fun v21 w22 => (∃ (b23 : Bool), v21 = (.bool b23) ∧ K (.bool b23) w22)

def impl_IsWord.ann : Ann := (.seq .l (.seq .l .l))

theorem impl_IsWord.start {x0 : Int} {w : World} {K : Value → World → Prop} (h : impl_IsWord.vc x0 w K) : Cll Try.prog 81 #[(.int .i64 x0)] w K :=
  vcF_sound mixed (fn := Try.f81) (by kernel_rfl) (by kernel_rfl) (an := impl_IsWord.ann) (args := [(.int .i64 x0)]) (Eq.mpr (by kernel_rfl) h)

theorem impl_IsWord.con {x0 : Int} {r : Bool} {w : World} (hr : r = M.impl_IsWord x0)  :
    Cll Try.prog 81 #[(.int .i64 x0)] w (fun v_ w_ => v_ = (.bool r) ∧ Ext w w_) := by
  have H := wp.impl_IsWord.math x0
  have hB := Ext.refl w
  refine impl_IsWord.start ?_
  unfold impl_IsWord.vc
  unfold wp.impl_IsWord at H
  obtain ⟨r21, hr22⟩ : ∃ r_, r_ = M.impl_within x0 0 65535 := ⟨_, rfl⟩
  have H := H r21 hr22
  refine (impl_within.con hr22 ).mono ?_
  rintro _ w24 ⟨rfl, e25⟩
  have hB := ethen hB e25
  refine ⟨r21, rfl, ?_⟩
  obtain rfl := hr.trans H.symm
  exact ⟨rfl, hB⟩
def impl_IsMask.vc (x0 : Int) (w : World) (K : Value → World → Prop) : Prop :=
  Cll Try.prog 33 #[(.int .i64 x0), (.int .i64 0), (.int .i64 255)] w fun v21 w22 => (∃ (b23 : Bool), v21 = (.bool b23) ∧ K (.bool b23) w22)

def impl_IsMask.ann : Ann := (.seq .l (.seq .l .l))

theorem impl_IsMask.start {x0 : Int} {w : World} {K : Value → World → Prop} (h : impl_IsMask.vc x0 w K) : Cll Try.prog 82 #[(.int .i64 x0)] w K :=
  vcF_sound mixed (fn := Try.f82) (by kernel_rfl) (by kernel_rfl) (an := impl_IsMask.ann) (args := [(.int .i64 x0)]) (Eq.mpr (by kernel_rfl) h)

theorem impl_IsMask.con {x0 : Int} {r : Bool} {w : World} (hr : r = M.impl_IsMask x0)  :
    Cll Try.prog 82 #[(.int .i64 x0)] w (fun v_ w_ => v_ = (.bool r) ∧ Ext w w_) := by
  have H := wp.impl_IsMask.math x0
  have hB := Ext.refl w
  refine impl_IsMask.start ?_
  unfold impl_IsMask.vc
  unfold wp.impl_IsMask at H
  obtain ⟨r21, hr22⟩ : ∃ r_, r_ = M.impl_within x0 0 255 := ⟨_, rfl⟩
  have H := H r21 hr22
  refine (impl_within.con hr22 ).mono ?_
  rintro _ w24 ⟨rfl, e25⟩
  have hB := ethen hB e25
  refine ⟨r21, rfl, ?_⟩
  obtain rfl := hr.trans H.symm
  exact ⟨rfl, hB⟩
def impl_isLane.vc (x0 : Int) (w : World) (K : Value → World → Prop) : Prop :=
  Cll Try.prog 33 #[(.int .i64 x0), (.int .i64 0), (.int .i64 7)] w fun v21 w22 => (∃ (b23 : Bool), v21 = (.bool b23) ∧ K (.bool b23) w22)

def impl_isLane.ann : Ann := (.seq .l (.seq .l .l))

theorem impl_isLane.start {x0 : Int} {w : World} {K : Value → World → Prop} (h : impl_isLane.vc x0 w K) : Cll Try.prog 115 #[(.int .i64 x0)] w K :=
  vcF_sound mixed (fn := Try.f115) (by kernel_rfl) (by kernel_rfl) (an := impl_isLane.ann) (args := [(.int .i64 x0)]) (Eq.mpr (by kernel_rfl) h)

theorem impl_isLane.con {x0 : Int} {r : Bool} {w : World} (hr : r = M.impl_isLane x0)  :
    Cll Try.prog 115 #[(.int .i64 x0)] w (fun v_ w_ => v_ = (.bool r) ∧ Ext w w_) := by
  have H := wp.impl_isLane.math x0
  have hB := Ext.refl w
  refine impl_isLane.start ?_
  unfold impl_isLane.vc
  unfold wp.impl_isLane at H
  obtain ⟨r21, hr22⟩ : ∃ r_, r_ = M.impl_within x0 0 7 := ⟨_, rfl⟩
  have H := H r21 hr22
  refine (impl_within.con hr22 ).mono ?_
  rintro _ w24 ⟨rfl, e25⟩
  have hB := ethen hB e25
  refine ⟨r21, rfl, ?_⟩
  obtain rfl := hr.trans H.symm
  exact ⟨rfl, hB⟩
def impl_HasLane.vc (x0 : Int) (x1 : Int) (w : World) (K : Value → World → Prop) : Prop :=
  Cll Try.prog 82 #[(.int .i64 x0)] w fun v21 w22 => (∃ (b23 : Bool), v21 = (.bool b23) ∧ bcase b23 (Cll Try.prog 115 #[(.int .i64 x1)] w22 fun v24 w25 => (∃ (b26 : Bool), v24 = (.bool b26) ∧ bcase b26 (((0 : Int) ≤ x1 ∧ K (.bool ((bitAnd .i64 (Int.fdiv x0 (2 ^ (min (x1.toNat) (IntKind.bits .i64)))) 1) == 1)) w25)) (K (.bool false) w25))) (K (.bool false) w22))

def impl_HasLane.ann : Ann := (.seq .l (.seq .l .l))

theorem impl_HasLane.start {x0 : Int} {x1 : Int} {w : World} {K : Value → World → Prop} (h : impl_HasLane.vc x0 x1 w K) : Cll Try.prog 98 #[(.int .i64 x0), (.int .i64 x1)] w K :=
  vcF_sound mixed (fn := Try.f98) (by kernel_rfl) (by kernel_rfl) (an := impl_HasLane.ann) (args := [(.int .i64 x0), (.int .i64 x1)]) (Eq.mpr (by kernel_rfl) h)

theorem impl_HasLane.con {x0 : Int} {x1 : Int} {r : Bool} {w : World} (hr : r = M.impl_HasLane x0 x1)  :
    Cll Try.prog 98 #[(.int .i64 x0), (.int .i64 x1)] w (fun v_ w_ => v_ = (.bool r) ∧ Ext w w_) := by
  have H := wp.impl_HasLane.math x0 x1
  have hB := Ext.refl w
  refine impl_HasLane.start ?_
  unfold impl_HasLane.vc
  unfold wp.impl_HasLane at H
  obtain ⟨r21, hr22⟩ : ∃ r_, r_ = M.impl_IsMask x0 := ⟨_, rfl⟩
  have H := H r21 hr22
  refine (impl_IsMask.con hr22 ).mono ?_
  rintro _ w24 ⟨rfl, e25⟩
  have hB := ethen hB e25
  refine ⟨r21, rfl, ?_⟩
  refine bcase_mk (fun hc33 => ?_) (fun hc33 => ?_)
  · have H := (bcase_iff.1 H).1 hc33
    obtain ⟨r26, hr27⟩ : ∃ r_, r_ = M.impl_isLane x1 := ⟨_, rfl⟩
    have H := H r26 hr27
    refine (impl_isLane.con hr27 ).mono ?_
    rintro _ w29 ⟨rfl, e30⟩
    have hB := ethen hB e30
    refine ⟨r26, rfl, ?_⟩
    refine bcase_mk (fun hc32 => ?_) (fun hc32 => ?_)
    · have H := (bcase_iff.1 H).1 hc32
      obtain ⟨hc31, H⟩ := H
      refine ⟨hc31, ?_⟩
      obtain rfl := hr.trans H.symm
      exact ⟨rfl, hB⟩
    have H := (bcase_iff.1 H).2 hc32
    obtain rfl := hr.trans H.symm
    exact ⟨rfl, hB⟩
  have H := (bcase_iff.1 H).2 hc33
  obtain rfl := hr.trans H.symm
  exact ⟨rfl, hB⟩
def impl_LanesOf.vc (x0 : Int) (w : World) (K : Value → World → Prop) : Prop :=
  Run Try.prog (Instr.buildSlice 26 0 #[]) w fun v21 w22 => ∃ (A23 : Option Addr) (n24 c25 : Nat), v21 = .slice A23 n24 c25 ∧ LoopT (σ := (Option Addr × Nat × Nat) × Int × Unit) (fun z26 w27 next28 => bcase (decide (z26.2.1 < 8)) (Cll Try.prog 98 #[(.int .i64 x0), (.int .i64 z26.2.1)] w27 fun v29 w30 => (∃ (b31 : Bool), v29 = (.bool b31) ∧ bcase b31 (Run Try.prog (Instr.buildSlice 26 1 #[(0, (.int .i64 z26.2.1))]) w30 fun v32 w33 => ∃ (A34 : Option Addr) (n35 c36 : Nat), v32 = .slice A34 n35 c36 ∧ Run Try.prog (Builtin.append_ #[26, 26] 26 #[(.slice z26.1.1 z26.1.2.1 z26.1.2.2), (.slice A34 n35 c36)]) w33 fun v37 w38 => ∃ (A39 : Option Addr) (n40 c41 : Nat), v37 = .slice A39 n40 c41 ∧ next28 ((A39, n40, c41), (IntKind.wrap .i64 (z26.2.1 + 1)), ()) w38) (next28 ((z26.1.1, z26.1.2.1, z26.1.2.2), (IntKind.wrap .i64 (z26.2.1 + 1)), ()) w30))) (K (.slice z26.1.1 z26.1.2.1 z26.1.2.2) w27)) ((A23, n24, c25), 0, ()) w22

def impl_LanesOf.ann : Ann := (.seq .l (.seq .l (.seq (.seq .l (.one (.loop [(3, .sl), (6, .int .i64)] (.seq .l (.seq (.two .l .l) (.seq (.one (.seq .l (.seq .l (.two .l .l)))) .l)))))) (.seq .l .l))))

theorem impl_LanesOf.start {x0 : Int} {w : World} {K : Value → World → Prop} (h : impl_LanesOf.vc x0 w K) : Cll Try.prog 86 #[(.int .i64 x0)] w K :=
  vcF_sound mixed (fn := Try.f86) (by kernel_rfl) (by kernel_rfl) (an := impl_LanesOf.ann) (args := [(.int .i64 x0)]) (Eq.mpr (by kernel_rfl) h)

theorem impl_LanesOf.con {x0 : Int} {r : List Int} {w : World} (hr : r = M.impl_LanesOf x0)  :
    Cll Try.prog 86 #[(.int .i64 x0)] w (fun v_ w_ => ∃ (A0_ : Option Addr) (c0_ : Nat), v_ = (.slice A0_ r.length c0_) ∧ Own el3 w_ w.heap.size A0_ c0_ r ∧ Ext w w_) := by
  have H := wp.impl_LanesOf.math x0
  have hB := Ext.refl w
  refine impl_LanesOf.start ?_
  unfold impl_LanesOf.vc
  unfold wp.impl_LanesOf at H
  refine buildOwn el3 ([] : List Int) (fun _ => by kernel_rfl) rfl (fun A21 w22 P1 e23 => ?_)
  have O1 := P1.mono hB.size
  have hB := ethen hB e23
  obtain ⟨J29, ⟨m56, hJ55⟩, hS30⟩ := H
  refine ⟨fun m_ z_ w_ => ∃ (xs24 : List Int) (i27 : Int) (A25 : Option Addr) (c26 : Nat), z_ = ((A25, xs24.length, c26), i27, ()) ∧ J29 m_ (xs24, i27, ()) ∧ Ext w w_ ∧ Own el3 w_ w.heap.size A25 c26 xs24, ⟨m56, ([] : List Int), 0, A21, 0, rfl, hJ55, hB, O1⟩, ?_⟩
  rintro m28 _ w32 ⟨xs24, i27, A25, c26, rfl, hJ57, hB, O2⟩
  have H := hS30 m28 _ hJ57
  clear hS30 hJ57
  try dsimp only at H ⊢
  refine bcase_mk (fun hc53 => ?_) (fun hc53 => ?_)
  · have H := (bcase_iff.1 H).1 hc53
    obtain ⟨r33, hr34⟩ : ∃ r_, r_ = M.impl_HasLane x0 i27 := ⟨_, rfl⟩
    have H := H r33 hr34
    refine (impl_HasLane.con hr34 ).mono ?_
    rintro _ w36 ⟨rfl, e37⟩
    have O2 := O2.ext e37
    have hB := ethen hB e37
    refine ⟨r33, rfl, ?_⟩
    refine bcase_mk (fun hc52 => ?_) (fun hc52 => ?_)
    · have H := (bcase_iff.1 H).1 hc52
      refine buildOwn el3 ([i27] : List Int) (fun _ => by kernel_rfl) rfl (fun A38 w39 P3 e40 => ?_)
      have N2_3 := Own.apart2_new O2 P3 (Nat.le_refl _)
      have O2 := O2.ext e40
      have O3 := P3.mono hB.size
      have hB := ethen hB e40
      obtain ⟨hl45, H⟩ := H
      refine appOwn slt26 slt26.under O2 O3.row hB.size rfl (by first | rfl | omega | (simp; done) | (simp; omega)) hl45 (fun A41 c42 w43 P2 e44 => ?_)
      have N3_2_ := Apart2.app (N2_3).symm e44 O3
      have O3 := O3.app e44 (N2_3).symm
      have N3_2 := N3_2_
      have hB := eapp hB e44 O2
      have O2 := P2
      obtain ⟨m46, hm47, hJ48⟩ := H
      exact ⟨m46, hm47, (xs24 ++ ([i27] : List Int)), (IntKind.wrap .i64 (i27 + 1)), A41, c42, rfl, hJ48, hB, O2⟩
    have H := (bcase_iff.1 H).2 hc52
    obtain ⟨m49, hm50, hJ51⟩ := H
    exact ⟨m49, hm50, xs24, (IntKind.wrap .i64 (i27 + 1)), A25, c26, rfl, hJ51, hB, O2⟩
  have H := (bcase_iff.1 H).2 hc53
  obtain rfl := hr.trans H.symm
  exact ⟨A25, c26, rfl, O2, hB⟩
def slices_IndexFunc_int_int.vc (A0 : Option Addr) (n0 : Nat) (c0 : Nat) (f1 : Nat) (cap1 : Array Value) (w : World) (K : Value → World → Prop) : Prop :=
  LoopT (σ := Int × Unit) (fun z21 w22 next23 => bcase (decide (z21.1 < ((n0 : Nat) : Int))) (((0 : Int) ≤ z21.1 ∧ z21.1 < ((n0 : Nat) : Int) ∧ ∃ a24 : Addr, A0 = some a24 ∧ ∃ (n25 : Int), w22.cell? ((a24.add ((z21.1.toNat) * 1)).add 0) = some (.int .i64 n25) ∧ Cll Try.prog f1 (#[(.int .i64 n25)] ++ cap1) w22 fun v26 w27 => (∃ (b28 : Bool), v26 = (.bool b28) ∧ bcase b28 (K (.int .i64 z21.1) w27) (next23 ((IntKind.wrap .i64 (z21.1 + 1)), ()) w27)))) (K (.int .i64 (-1)) w22)) (0, ()) w

def slices_IndexFunc_int_int.ann : Ann := (.seq .l (.seq (.seq .l (.one (.loop [(8, .int .i64)] (.seq .l (.seq (.two .l .l) (.seq (.one (.seq .l (.seq .l (.two (.seq .l .l) .l)))) .l)))))) (.seq .l .l)))

theorem slices_IndexFunc_int_int.start {A0 : Option Addr} {n0 : Nat} {c0 : Nat} {f1 : Nat} {cap1 : Array Value} {w : World} {K : Value → World → Prop} (h : slices_IndexFunc_int_int.vc A0 n0 c0 f1 cap1 w K) : Cll Try.prog 93 #[(.slice A0 n0 c0), (.func (.func f1) #[] cap1)] w K :=
  vcF_sound mixed (fn := Try.f93) (by kernel_rfl) (by kernel_rfl) (an := slices_IndexFunc_int_int.ann) (args := [(.slice A0 n0 c0), (.func (.func f1) #[] cap1)]) (Eq.mpr (by kernel_rfl) h)

theorem slices_IndexFunc_int_int.con {xs0 : List Int} {A0 : Option Addr} {c0 : Nat} {f1 : Nat} {cap1 : Array Value} {g1 : Int → Bool} {D1 : Int → Prop} {r : Int} {w : World} (hp : M.slices_IndexFunc_int_int_pre xs0 g1 D1) (hr : r = M.slices_IndexFunc_int_int xs0 g1) (R0 : Row el3 w A0 xs0) (hc0 : xs0.length ≤ c0) (F1 : ∀ (z0_ : Int), D1 z0_ → ∀ w_ : World, Ext w w_ → Cll Try.prog f1 (#[(.int .i64 z0_)] ++ cap1) w_ (fun v_ w1_ => v_ = (.bool (g1 z0_)) ∧ Ext w_ w1_)) :
    Cll Try.prog 93 #[(.slice A0 xs0.length c0), (.func (.func f1) #[] cap1)] w (fun v_ w_ => v_ = (.int .i64 r) ∧ Ext w w_) := by
  have H := wp.slices_IndexFunc_int_int.math xs0 g1 D1 hp
  have hB := Ext.refl w
  refine slices_IndexFunc_int_int.start ?_
  unfold slices_IndexFunc_int_int.vc
  unfold wp.slices_IndexFunc_int_int at H
  obtain ⟨J23, ⟨m44, hJ43⟩, hS24⟩ := H
  refine ⟨fun m_ z_ w_ => ∃ (i21 : Int), z_ = (i21, ()) ∧ J23 m_ (i21, ()) ∧ Ext w w_, ⟨m44, 0, rfl, hJ43, hB⟩, ?_⟩
  rintro m22 _ w26 ⟨i21, rfl, hJ45, hB⟩
  have H := hS24 m22 _ hJ45
  clear hS24 hJ45
  try dsimp only at H ⊢
  refine bcase_mk (fun hc41 => ?_) (fun hc41 => ?_)
  · have H := (bcase_iff.1 H).1 hc41
    obtain ⟨⟨h0_30, h1_31⟩, H⟩ := H
    obtain ⟨a28, ha29, hat27⟩ := Row.at (R0.ext hB) h0_30 h1_31
    refine ⟨h0_30, h1_31, a28, ha29, ?_⟩
    refine ⟨_, (hat27 0 _ rfl), ?_⟩
    obtain ⟨hd34, H⟩ := H
    obtain ⟨r32, hr33⟩ : ∃ r_, r_ = g1 (rd xs0 i21) := ⟨_, rfl⟩
    have H := H r32 hr33
    refine (F1 (rd xs0 i21) hd34 _ hB).mono ?_
    rintro _ w35 ⟨rfl, e36⟩
    rw [← hr33]
    have hB := ethen hB e36
    refine ⟨r32, rfl, ?_⟩
    refine bcase_mk (fun hc40 => ?_) (fun hc40 => ?_)
    · have H := (bcase_iff.1 H).1 hc40
      obtain rfl := hr.trans H.symm
      exact ⟨rfl, hB⟩
    have H := (bcase_iff.1 H).2 hc40
    obtain ⟨m37, hm38, hJ39⟩ := H
    exact ⟨m37, hm38, (IntKind.wrap .i64 (i21 + 1)), rfl, hJ39, hB⟩
  have H := (bcase_iff.1 H).2 hc41
  obtain rfl := hr.trans H.symm
  exact ⟨rfl, hB⟩
def slices_ContainsFunc_int_int.vc (A0 : Option Addr) (n0 : Nat) (c0 : Nat) (f1 : Nat) (cap1 : Array Value) (w : World) (K : Value → World → Prop) : Prop :=
  Cll Try.prog 93 #[(.slice A0 n0 c0), (.func (.func f1) #[] cap1)] w fun v21 w22 => (∃ (n23 : Int), v21 = (.int .i64 n23) ∧ K (.bool (decide (n23 ≥ 0))) w22)

def slices_ContainsFunc_int_int.ann : Ann := (.seq .l (.seq .l .l))

theorem slices_ContainsFunc_int_int.start {A0 : Option Addr} {n0 : Nat} {c0 : Nat} {f1 : Nat} {cap1 : Array Value} {w : World} {K : Value → World → Prop} (h : slices_ContainsFunc_int_int.vc A0 n0 c0 f1 cap1 w K) : Cll Try.prog 79 #[(.slice A0 n0 c0), (.func (.func f1) #[] cap1)] w K :=
  vcF_sound mixed (fn := Try.f79) (by kernel_rfl) (by kernel_rfl) (an := slices_ContainsFunc_int_int.ann) (args := [(.slice A0 n0 c0), (.func (.func f1) #[] cap1)]) (Eq.mpr (by kernel_rfl) h)

theorem slices_ContainsFunc_int_int.con {xs0 : List Int} {A0 : Option Addr} {c0 : Nat} {f1 : Nat} {cap1 : Array Value} {g1 : Int → Bool} {D1 : Int → Prop} {r : Bool} {w : World} (hp : M.slices_ContainsFunc_int_int_pre xs0 g1 D1) (hr : r = M.slices_ContainsFunc_int_int xs0 g1) (R0 : Row el3 w A0 xs0) (hc0 : xs0.length ≤ c0) (F1 : ∀ (z0_ : Int), D1 z0_ → ∀ w_ : World, Ext w w_ → Cll Try.prog f1 (#[(.int .i64 z0_)] ++ cap1) w_ (fun v_ w1_ => v_ = (.bool (g1 z0_)) ∧ Ext w_ w1_)) :
    Cll Try.prog 79 #[(.slice A0 xs0.length c0), (.func (.func f1) #[] cap1)] w (fun v_ w_ => v_ = (.bool r) ∧ Ext w w_) := by
  have H := wp.slices_ContainsFunc_int_int.math xs0 g1 D1 hp
  have hB := Ext.refl w
  refine slices_ContainsFunc_int_int.start ?_
  unfold slices_ContainsFunc_int_int.vc
  unfold wp.slices_ContainsFunc_int_int at H
  obtain ⟨hp23, H⟩ := H
  obtain ⟨r21, hr22⟩ : ∃ r_, r_ = M.slices_IndexFunc_int_int xs0 g1 := ⟨_, rfl⟩
  have H := H r21 hr22
  refine (slices_IndexFunc_int_int.con hp23 hr22 (R0.ext hB) hc0 (fun z0_  h_ w_ e_ => F1 z0_  h_ w_ (ethen hB e_))).mono ?_
  rintro _ w24 ⟨rfl, e25⟩
  have hB := ethen hB e25
  refine ⟨r21, rfl, ?_⟩
  obtain rfl := hr.trans H.symm
  exact ⟨rfl, hB⟩
def impl_AreWords_1.vc (x0 : Int) (w : World) (K : Value → World → Prop) : Prop :=
  Cll Try.prog 81 #[(.int .i64 x0)] w fun v21 w22 => (∃ (b23 : Bool), v21 = (.bool b23) ∧ K (.bool (!b23)) w22)

def impl_AreWords_1.ann : Ann := (.seq .l (.seq .l .l))

theorem impl_AreWords_1.start {x0 : Int} {w : World} {K : Value → World → Prop} (h : impl_AreWords_1.vc x0 w K) : Cll Try.prog 80 #[(.int .i64 x0)] w K :=
  vcF_sound mixed (fn := Try.f80) (by kernel_rfl) (by kernel_rfl) (an := impl_AreWords_1.ann) (args := [(.int .i64 x0)]) (Eq.mpr (by kernel_rfl) h)

theorem impl_AreWords_1.con {x0 : Int} {r : Bool} {w : World} (hr : r = M.impl_AreWords_1 x0)  :
    Cll Try.prog 80 #[(.int .i64 x0)] w (fun v_ w_ => v_ = (.bool r) ∧ Ext w w_) := by
  have H := wp.impl_AreWords_1.math x0
  have hB := Ext.refl w
  refine impl_AreWords_1.start ?_
  unfold impl_AreWords_1.vc
  unfold wp.impl_AreWords_1 at H
  obtain ⟨r21, hr22⟩ : ∃ r_, r_ = M.impl_IsWord x0 := ⟨_, rfl⟩
  have H := H r21 hr22
  refine (impl_IsWord.con hr22 ).mono ?_
  rintro _ w24 ⟨rfl, e25⟩
  have hB := ethen hB e25
  refine ⟨r21, rfl, ?_⟩
  obtain rfl := hr.trans H.symm
  exact ⟨rfl, hB⟩
def impl_AreWords.vc (A0 : Option Addr) (n0 : Nat) (c0 : Nat) (w : World) (K : Value → World → Prop) : Prop :=
  Cll Try.prog 79 #[(.slice A0 n0 c0), (.func (.func 80) #[] #[])] w fun v21 w22 => (∃ (b23 : Bool), v21 = (.bool b23) ∧ K (.bool (!b23)) w22)

def impl_AreWords.ann : Ann := (.seq .l (.seq .l .l))

theorem impl_AreWords.start {A0 : Option Addr} {n0 : Nat} {c0 : Nat} {w : World} {K : Value → World → Prop} (h : impl_AreWords.vc A0 n0 c0 w K) : Cll Try.prog 66 #[(.slice A0 n0 c0)] w K :=
  vcF_sound mixed (fn := Try.f66) (by kernel_rfl) (by kernel_rfl) (an := impl_AreWords.ann) (args := [(.slice A0 n0 c0)]) (Eq.mpr (by kernel_rfl) h)

theorem impl_AreWords.con {xs0 : List Int} {A0 : Option Addr} {c0 : Nat} {r : Bool} {w : World} (hp : M.impl_AreWords_pre xs0) (hr : r = M.impl_AreWords xs0) (R0 : Row el3 w A0 xs0) (hc0 : xs0.length ≤ c0) :
    Cll Try.prog 66 #[(.slice A0 xs0.length c0)] w (fun v_ w_ => v_ = (.bool r) ∧ Ext w w_) := by
  have H := wp.impl_AreWords.math xs0 hp
  have hB := Ext.refl w
  refine impl_AreWords.start ?_
  unfold impl_AreWords.vc
  unfold wp.impl_AreWords at H
  obtain ⟨hp23, H⟩ := H
  obtain ⟨r21, hr22⟩ : ∃ r_, r_ = M.slices_ContainsFunc_int_int xs0 (fun z0_ => M.impl_AreWords_1 z0_) := ⟨_, rfl⟩
  have H := H r21 hr22
  refine (slices_ContainsFunc_int_int.con hp23 hr22 (R0.ext hB) hc0 (fun z0_ h_ w_ e_ => cllApp (l1 := [_]) (l2 := []) (impl_AreWords_1.con rfl))).mono ?_
  rintro _ w24 ⟨rfl, e25⟩
  have hB := ethen hB e25
  refine ⟨r21, rfl, ?_⟩
  obtain rfl := hr.trans H.symm
  exact ⟨rfl, hB⟩
def impl_WrapWord.vc (x0 : Int) (w : World) (K : Value → World → Prop) : Prop :=
  K (.int .i64 (bitAnd .i64 x0 65535)) w

def impl_WrapWord.ann : Ann := (.seq .l (.seq .l .l))

theorem impl_WrapWord.start {x0 : Int} {w : World} {K : Value → World → Prop} (h : impl_WrapWord.vc x0 w K) : Cll Try.prog 124 #[(.int .i64 x0)] w K :=
  vcF_sound mixed (fn := Try.f124) (by kernel_rfl) (by kernel_rfl) (an := impl_WrapWord.ann) (args := [(.int .i64 x0)]) (Eq.mpr (by kernel_rfl) h)

theorem impl_WrapWord.con {x0 : Int} {r : Int} {w : World} (hr : r = M.impl_WrapWord x0)  :
    Cll Try.prog 124 #[(.int .i64 x0)] w (fun v_ w_ => v_ = (.int .i64 r) ∧ Ext w w_) := by
  have H := wp.impl_WrapWord.math x0
  have hB := Ext.refl w
  refine impl_WrapWord.start ?_
  unfold impl_WrapWord.vc
  unfold wp.impl_WrapWord at H
  obtain rfl := hr.trans H.symm
  exact ⟨rfl, hB⟩
def impl_wrapped.vc (x0 : Int) (x1 : Int) (x2 : Int) (w : World) (K : Value → World → Prop) : Prop :=
  Cll Try.prog 81 #[(.int .i64 x0)] w fun v21 w22 => (∃ (b23 : Bool), v21 = (.bool b23) ∧ bcase (!b23) (K (.int .i64 0) w22) (Cll Try.prog 81 #[(.int .i64 x1)] w22 fun v24 w25 => (∃ (b26 : Bool), v24 = (.bool b26) ∧ bcase (!b26) (K (.int .i64 0) w25) (Cll Try.prog 124 #[(.int .i64 x2)] w25 fun v27 w28 => (∃ (n29 : Int), v27 = (.int .i64 n29) ∧ K (.int .i64 n29) w28)))))

def impl_wrapped.ann : Ann := (.seq .l (.seq (.seq .l (.two (.seq .l .l) .l)) (.seq .l .l)))

theorem impl_wrapped.start {x0 : Int} {x1 : Int} {x2 : Int} {w : World} {K : Value → World → Prop} (h : impl_wrapped.vc x0 x1 x2 w K) : Cll Try.prog 116 #[(.int .i64 x0), (.int .i64 x1), (.int .i64 x2)] w K :=
  vcF_sound mixed (fn := Try.f116) (by kernel_rfl) (by kernel_rfl) (an := impl_wrapped.ann) (args := [(.int .i64 x0), (.int .i64 x1), (.int .i64 x2)]) (Eq.mpr (by kernel_rfl) h)

theorem impl_wrapped.con {x0 : Int} {x1 : Int} {x2 : Int} {r : Int} {w : World} (hr : r = M.impl_wrapped x0 x1 x2)  :
    Cll Try.prog 116 #[(.int .i64 x0), (.int .i64 x1), (.int .i64 x2)] w (fun v_ w_ => v_ = (.int .i64 r) ∧ Ext w w_) := by
  have H := wp.impl_wrapped.math x0 x1 x2
  have hB := Ext.refl w
  refine impl_wrapped.start ?_
  unfold impl_wrapped.vc
  unfold wp.impl_wrapped at H
  obtain ⟨r21, hr22⟩ : ∃ r_, r_ = M.impl_IsWord x0 := ⟨_, rfl⟩
  have H := H r21 hr22
  refine (impl_IsWord.con hr22 ).mono ?_
  rintro _ w24 ⟨rfl, e25⟩
  have hB := ethen hB e25
  refine ⟨r21, rfl, ?_⟩
  refine bcase_mk (fun hc37 => ?_) (fun hc37 => ?_)
  · have H := (bcase_iff.1 H).1 hc37
    obtain rfl := hr.trans H.symm
    exact ⟨rfl, hB⟩
  have H := (bcase_iff.1 H).2 hc37
  obtain ⟨r26, hr27⟩ : ∃ r_, r_ = M.impl_IsWord x1 := ⟨_, rfl⟩
  have H := H r26 hr27
  refine (impl_IsWord.con hr27 ).mono ?_
  rintro _ w29 ⟨rfl, e30⟩
  have hB := ethen hB e30
  refine ⟨r26, rfl, ?_⟩
  refine bcase_mk (fun hc36 => ?_) (fun hc36 => ?_)
  · have H := (bcase_iff.1 H).1 hc36
    obtain rfl := hr.trans H.symm
    exact ⟨rfl, hB⟩
  have H := (bcase_iff.1 H).2 hc36
  obtain ⟨r31, hr32⟩ : ∃ r_, r_ = M.impl_WrapWord x2 := ⟨_, rfl⟩
  have H := H r31 hr32
  refine (impl_WrapWord.con hr32 ).mono ?_
  rintro _ w34 ⟨rfl, e35⟩
  have hB := ethen hB e35
  refine ⟨r31, rfl, ?_⟩
  obtain rfl := hr.trans H.symm
  exact ⟨rfl, hB⟩
def impl_AddWords.vc (x0 : Int) (x1 : Int) (w : World) (K : Value → World → Prop) : Prop :=
  Cll Try.prog 116 #[(.int .i64 x0), (.int .i64 x1), (.int .i64 (IntKind.wrap .i64 (x0 + x1)))] w fun v21 w22 => (∃ (n23 : Int), v21 = (.int .i64 n23) ∧ K (.int .i64 n23) w22)

def impl_AddWords.ann : Ann := (.seq .l (.seq .l .l))

theorem impl_AddWords.start {x0 : Int} {x1 : Int} {w : World} {K : Value → World → Prop} (h : impl_AddWords.vc x0 x1 w K) : Cll Try.prog 99 #[(.int .i64 x0), (.int .i64 x1)] w K :=
  vcF_sound mixed (fn := Try.f99) (by kernel_rfl) (by kernel_rfl) (an := impl_AddWords.ann) (args := [(.int .i64 x0), (.int .i64 x1)]) (Eq.mpr (by kernel_rfl) h)

theorem impl_AddWords.con {x0 : Int} {x1 : Int} {r : Int} {w : World} (hr : r = M.impl_AddWords x0 x1)  :
    Cll Try.prog 99 #[(.int .i64 x0), (.int .i64 x1)] w (fun v_ w_ => v_ = (.int .i64 r) ∧ Ext w w_) := by
  have H := wp.impl_AddWords.math x0 x1
  have hB := Ext.refl w
  refine impl_AddWords.start ?_
  unfold impl_AddWords.vc
  unfold wp.impl_AddWords at H
  obtain ⟨r21, hr22⟩ : ∃ r_, r_ = M.impl_wrapped x0 x1 (IntKind.wrap .i64 (x0 + x1)) := ⟨_, rfl⟩
  have H := H r21 hr22
  refine (impl_wrapped.con hr22 ).mono ?_
  rintro _ w24 ⟨rfl, e25⟩
  have hB := ethen hB e25
  refine ⟨r21, rfl, ?_⟩
  obtain rfl := hr.trans H.symm
  exact ⟨rfl, hB⟩
def slices_Clone_int_int.vc (A0 : Option Addr) (n0 : Nat) (c0 : Nat) (w : World) (K : Value → World → Prop) : Prop :=
  bcase (Option.isNone A0) (K (.slice none 0 0) w) (Run Try.prog (Instr.buildSlice 26 0 #[]) w fun v21 w22 => ∃ (A23 : Option Addr) (n24 c25 : Nat), v21 = .slice A23 n24 c25 ∧ Run Try.prog (Builtin.append_ #[26, 26] 26 #[(.slice A23 n24 c25), (.slice A0 n0 c0)]) w22 fun v26 w27 => ∃ (A28 : Option Addr) (n29 c30 : Nat), v26 = .slice A28 n29 c30 ∧ K (.slice A28 n29 c30) w27)

def slices_Clone_int_int.ann : Ann := (.seq .l (.seq (.seq .l (.two (.seq .l .l) .l)) (.seq .l .l)))

theorem slices_Clone_int_int.start {A0 : Option Addr} {n0 : Nat} {c0 : Nat} {w : World} {K : Value → World → Prop} (h : slices_Clone_int_int.vc A0 n0 c0 w K) : Cll Try.prog 45 #[(.slice A0 n0 c0)] w K :=
  vcF_sound mixed (fn := Try.f45) (by kernel_rfl) (by kernel_rfl) (an := slices_Clone_int_int.ann) (args := [(.slice A0 n0 c0)]) (Eq.mpr (by kernel_rfl) h)

theorem slices_Clone_int_int.con {xs0 : List Int} {A0 : Option Addr} {c0 : Nat} {r : List Int} {w : World} (hp : M.slices_Clone_int_int_pre xs0) (hr : r = M.slices_Clone_int_int xs0) (R0 : Row el3 w A0 xs0) (hc0 : xs0.length ≤ c0) :
    Cll Try.prog 45 #[(.slice A0 xs0.length c0)] w (fun v_ w_ => ∃ (A0_ : Option Addr) (c0_ : Nat), v_ = (.slice A0_ r.length c0_) ∧ Own el3 w_ w.heap.size A0_ c0_ r ∧ Ext w w_) := by
  have H := wp.slices_Clone_int_int.math xs0 hp
  have hB := Ext.refl w
  refine slices_Clone_int_int.start ?_
  unfold slices_Clone_int_int.vc
  unfold wp.slices_Clone_int_int at H
  obtain ⟨b21, hb22⟩ : ∃ b_, b_ = Option.isNone A0 := ⟨_, rfl⟩
  have H := H b21 (fun h_ => Row.isNone (R0.ext hB) (hb22.symm.trans h_))
  rw [← hb22]
  refine bcase_mk (fun hc31 => ?_) (fun hc31 => ?_)
  · have H := (bcase_iff.1 H).1 hc31
    obtain rfl := hr.trans H.symm
    exact ⟨none, 0, rfl, Own.nil, hB⟩
  have H := (bcase_iff.1 H).2 hc31
  refine buildOwn el3 ([] : List Int) (fun _ => by kernel_rfl) rfl (fun A23 w24 P2 e25 => ?_)
  have O2 := P2.mono hB.size
  have hB := ethen hB e25
  obtain ⟨hl30, H⟩ := H
  refine appOwn slt26 slt26.under O2 (R0.ext hB) hB.size (by first | rfl | omega | (simp; done) | (simp; omega)) rfl hl30 (fun A26 c27 w28 P2 e29 => ?_)
  have hB := eapp hB e29 O2
  have O2 := P2
  obtain rfl := hr.trans H.symm
  exact ⟨A26, c27, rfl, O2, hB⟩
def impl_formOf.vc (x0 : Int) (w : World) (K : Value → World → Prop) : Prop :=
  Cll Try.prog 33 #[(.int .i64 x0), (.int .i64 0), (.int .i64 16)] w fun v21 w22 => (∃ (b23 : Bool), v21 = (.bool b23) ∧ bcase (!b23) (K (.string (⟨#[]⟩)) w22) (Run Try.prog (Instr.buildSlice 108 17 #[(0, (.string (⟨#[45, 45, 45]⟩))), (1, (.string (⟨#[82, 87, 45]⟩))), (2, (.string (⟨#[82, 82, 45]⟩))), (3, (.string (⟨#[82, 82, 82]⟩))), (4, (.string (⟨#[82, 82, 82]⟩))), (5, (.string (⟨#[82, 82, 82]⟩))), (6, (.string (⟨#[82, 82, 82]⟩))), (7, (.string (⟨#[82, 82, 82]⟩))), (8, (.string (⟨#[82, 45, 45]⟩))), (9, (.string (⟨#[82, 82, 82]⟩))), (10, (.string (⟨#[82, 84, 45]⟩))), (11, (.string (⟨#[45, 84, 45]⟩))), (12, (.string (⟨#[45, 45, 45]⟩))), (13, (.string (⟨#[82, 82, 45]⟩))), (14, (.string (⟨#[82, 82, 45]⟩))), (15, (.string (⟨#[82, 82, 45]⟩))), (16, (.string (⟨#[45, 45, 45]⟩)))]) w22 fun v24 w25 => ∃ (A26 : Option Addr) (n27 c28 : Nat), v24 = .slice A26 n27 c28 ∧ ((0 : Int) ≤ x0 ∧ x0 < ((n27 : Nat) : Int) ∧ ∃ a29 : Addr, A26 = some a29 ∧ ∃ (s30 : ByteArray), w25.cell? ((a29.add ((x0.toNat) * 1)).add 0) = some (.string s30) ∧ K (.string s30) w25)))

def impl_formOf.ann : Ann := (.seq .l (.seq (.seq .l (.two (.seq .l .l) .l)) (.seq .l .l)))

theorem impl_formOf.start {x0 : Int} {w : World} {K : Value → World → Prop} (h : impl_formOf.vc x0 w K) : Cll Try.prog 75 #[(.int .i64 x0)] w K :=
  vcF_sound mixed (fn := Try.f75) (by kernel_rfl) (by kernel_rfl) (an := impl_formOf.ann) (args := [(.int .i64 x0)]) (Eq.mpr (by kernel_rfl) h)

theorem impl_formOf.con {x0 : Int} {r : ByteArray} {w : World} (hr : r = M.impl_formOf x0)  :
    Cll Try.prog 75 #[(.int .i64 x0)] w (fun v_ w_ => v_ = (.string r) ∧ Ext w w_) := by
  have H := wp.impl_formOf.math x0
  have hB := Ext.refl w
  refine impl_formOf.start ?_
  unfold impl_formOf.vc
  unfold wp.impl_formOf at H
  obtain ⟨r21, hr22⟩ : ∃ r_, r_ = M.impl_within x0 0 16 := ⟨_, rfl⟩
  have H := H r21 hr22
  refine (impl_within.con hr22 ).mono ?_
  rintro _ w24 ⟨rfl, e25⟩
  have hB := ethen hB e25
  refine ⟨r21, rfl, ?_⟩
  refine bcase_mk (fun hc34 => ?_) (fun hc34 => ?_)
  · have H := (bcase_iff.1 H).1 hc34
    obtain rfl := hr.trans H.symm
    exact ⟨rfl, hB⟩
  have H := (bcase_iff.1 H).2 hc34
  refine buildOwn el9 ([⟨#[45, 45, 45]⟩, ⟨#[82, 87, 45]⟩, ⟨#[82, 82, 45]⟩, ⟨#[82, 82, 82]⟩, ⟨#[82, 82, 82]⟩, ⟨#[82, 82, 82]⟩, ⟨#[82, 82, 82]⟩, ⟨#[82, 82, 82]⟩, ⟨#[82, 45, 45]⟩, ⟨#[82, 82, 82]⟩, ⟨#[82, 84, 45]⟩, ⟨#[45, 84, 45]⟩, ⟨#[45, 45, 45]⟩, ⟨#[82, 82, 45]⟩, ⟨#[82, 82, 45]⟩, ⟨#[82, 82, 45]⟩, ⟨#[45, 45, 45]⟩] : List ByteArray) (fun _ => by kernel_rfl) rfl (fun A26 w27 P1 e28 => ?_)
  have O1 := P1.mono hB.size
  have hB := ethen hB e28
  obtain ⟨⟨h0_32, h1_33⟩, H⟩ := H
  obtain ⟨a30, ha31, hat29⟩ := Row.at O1.row h0_32 h1_33
  refine ⟨h0_32, (by first | exact h1_33 | omega | (simp at h1_33 ⊢; omega)), a30, ha31, ?_⟩
  refine ⟨_, (hat29 0 _ rfl), ?_⟩
  obtain rfl := hr.trans H.symm
  exact ⟨rfl, hB⟩
def impl_isReg.vc (x0 : Int) (w : World) (K : Value → World → Prop) : Prop :=
  Cll Try.prog 33 #[(.int .i64 x0), (.int .i64 0), (.int .i64 3)] w fun v21 w22 => (∃ (b23 : Bool), v21 = (.bool b23) ∧ K (.bool b23) w22)

def impl_isReg.ann : Ann := (.seq .l (.seq .l .l))

theorem impl_isReg.start {x0 : Int} {w : World} {K : Value → World → Prop} (h : impl_isReg.vc x0 w K) : Cll Try.prog 89 #[(.int .i64 x0)] w K :=
  vcF_sound mixed (fn := Try.f89) (by kernel_rfl) (by kernel_rfl) (an := impl_isReg.ann) (args := [(.int .i64 x0)]) (Eq.mpr (by kernel_rfl) h)

theorem impl_isReg.con {x0 : Int} {r : Bool} {w : World} (hr : r = M.impl_isReg x0)  :
    Cll Try.prog 89 #[(.int .i64 x0)] w (fun v_ w_ => v_ = (.bool r) ∧ Ext w w_) := by
  have H := wp.impl_isReg.math x0
  have hB := Ext.refl w
  refine impl_isReg.start ?_
  unfold impl_isReg.vc
  unfold wp.impl_isReg at H
  obtain ⟨r21, hr22⟩ : ∃ r_, r_ = M.impl_within x0 0 3 := ⟨_, rfl⟩
  have H := H r21 hr22
  refine (impl_within.con hr22 ).mono ?_
  rintro _ w24 ⟨rfl, e25⟩
  have hB := ethen hB e25
  refine ⟨r21, rfl, ?_⟩
  obtain rfl := hr.trans H.symm
  exact ⟨rfl, hB⟩
def impl_isField.vc (x0 : Int) (x1 : Int) (x2 : Int) (w : World) (K : Value → World → Prop) : Prop :=
  bcase (x0 == 82) (Cll Try.prog 89 #[(.int .i64 x1)] w fun v21 w22 => (∃ (b23 : Bool), v21 = (.bool b23) ∧ K (.bool b23) w22)) (bcase (x0 == 87) (Cll Try.prog 81 #[(.int .i64 x1)] w fun v24 w25 => (∃ (b26 : Bool), v24 = (.bool b26) ∧ K (.bool b26) w25)) (bcase (x0 == 84) (Cll Try.prog 33 #[(.int .i64 x1), (.int .i64 0), (.int .i64 x2)] w fun v27 w28 => (∃ (b29 : Bool), v27 = (.bool b29) ∧ K (.bool b29) w28)) (K (.bool (x1 == 0)) w)))

def impl_isField.ann : Ann := (.seq .l (.seq (.seq .l (.one (.seq .l (.two (.seq .l .l) (.seq .l (.two (.seq .l .l) (.seq .l (.two (.seq .l .l) .l)))))))) (.seq .l .l)))

theorem impl_isField.start {x0 : Int} {x1 : Int} {x2 : Int} {w : World} {K : Value → World → Prop} (h : impl_isField.vc x0 x1 x2 w K) : Cll Try.prog 76 #[(.int .u8 x0), (.int .i64 x1), (.int .i64 x2)] w K :=
  vcF_sound mixed (fn := Try.f76) (by kernel_rfl) (by kernel_rfl) (an := impl_isField.ann) (args := [(.int .u8 x0), (.int .i64 x1), (.int .i64 x2)]) (Eq.mpr (by kernel_rfl) h)

theorem impl_isField.con {x0 : Int} {x1 : Int} {x2 : Int} {r : Bool} {w : World} (hp : M.impl_isField_pre x0 x1 x2) (hr : r = M.impl_isField x0 x1 x2)  :
    Cll Try.prog 76 #[(.int .u8 x0), (.int .i64 x1), (.int .i64 x2)] w (fun v_ w_ => v_ = (.bool r) ∧ Ext w w_) := by
  have H := wp.impl_isField.math x0 x1 x2 hp
  have hB := Ext.refl w
  refine impl_isField.start ?_
  unfold impl_isField.vc
  unfold wp.impl_isField at H
  refine bcase_mk (fun hc38 => ?_) (fun hc38 => ?_)
  · have H := (bcase_iff.1 H).1 hc38
    obtain ⟨r21, hr22⟩ : ∃ r_, r_ = M.impl_isReg x1 := ⟨_, rfl⟩
    have H := H r21 hr22
    refine (impl_isReg.con hr22 ).mono ?_
    rintro _ w24 ⟨rfl, e25⟩
    have hB := ethen hB e25
    refine ⟨r21, rfl, ?_⟩
    obtain rfl := hr.trans H.symm
    exact ⟨rfl, hB⟩
  have H := (bcase_iff.1 H).2 hc38
  refine bcase_mk (fun hc37 => ?_) (fun hc37 => ?_)
  · have H := (bcase_iff.1 H).1 hc37
    obtain ⟨r26, hr27⟩ : ∃ r_, r_ = M.impl_IsWord x1 := ⟨_, rfl⟩
    have H := H r26 hr27
    refine (impl_IsWord.con hr27 ).mono ?_
    rintro _ w29 ⟨rfl, e30⟩
    have hB := ethen hB e30
    refine ⟨r26, rfl, ?_⟩
    obtain rfl := hr.trans H.symm
    exact ⟨rfl, hB⟩
  have H := (bcase_iff.1 H).2 hc37
  refine bcase_mk (fun hc36 => ?_) (fun hc36 => ?_)
  · have H := (bcase_iff.1 H).1 hc36
    obtain ⟨r31, hr32⟩ : ∃ r_, r_ = M.impl_within x1 0 x2 := ⟨_, rfl⟩
    have H := H r31 hr32
    refine (impl_within.con hr32 ).mono ?_
    rintro _ w34 ⟨rfl, e35⟩
    have hB := ethen hB e35
    refine ⟨r31, rfl, ?_⟩
    obtain rfl := hr.trans H.symm
    exact ⟨rfl, hB⟩
  have H := (bcase_iff.1 H).2 hc36
  obtain rfl := hr.trans H.symm
  exact ⟨rfl, hB⟩
def impl_InsOk.vc (x0_0 : Int) (x0_1 : Int) (x0_2 : Int) (x0_3 : Int) (x1 : Int) (w : World) (K : Value → World → Prop) : Prop :=
  newK w (.cells #[(.int .i64 x0_0), (.int .i64 x0_1), (.int .i64 x0_2), (.int .i64 x0_3)] 60) fun g21 w22 => ∃ (n23 : Int), w22.cell? (((⟨g21, 0, none⟩ : Addr).add 0).add 0) = some (.int .i64 n23) ∧ Cll Try.prog 75 #[(.int .i64 n23)] w22 fun v24 w25 => (∃ (s26 : ByteArray), v24 = (.string s26) ∧ bcase (!(ByteArray.toList s26 == ByteArray.toList (⟨#[]⟩))) (((Cll Try.prog 33 #[(.int .i64 x1), (.int .i64 0), (.int .i64 32)] w25.drew fun v27 w28 => (∃ (b29 : Bool), v27 = (.bool b29) ∧ bcase b29 (((0 : Int) ≤ 0 ∧ ∃ y30 : UInt8, (s26 : ByteArray)[((0 : Int).toNat)]? = some y30 ∧ ((∃ (n31 : Int), w28.cell? (((⟨g21, 0, none⟩ : Addr).add 1).add 0) = some (.int .i64 n31) ∧ ((Cll Try.prog 76 #[(.int .u8 ((y30.toNat : Nat) : Int)), (.int .i64 n31), (.int .i64 x1)] w28 fun v32 w33 => (∃ (b34 : Bool), v32 = (.bool b34) ∧ bcase b34 (((0 : Int) ≤ 1 ∧ ∃ y35 : UInt8, (s26 : ByteArray)[((1 : Int).toNat)]? = some y35 ∧ ((∃ (n36 : Int), w33.cell? (((⟨g21, 0, none⟩ : Addr).add 2).add 0) = some (.int .i64 n36) ∧ ((Cll Try.prog 76 #[(.int .u8 ((y35.toNat : Nat) : Int)), (.int .i64 n36), (.int .i64 x1)] w33 fun v37 w38 => (∃ (b39 : Bool), v37 = (.bool b39) ∧ bcase b39 (((0 : Int) ≤ 2 ∧ ∃ y40 : UInt8, (s26 : ByteArray)[((2 : Int).toNat)]? = some y40 ∧ ((∃ (n41 : Int), w38.cell? (((⟨g21, 0, none⟩ : Addr).add 3).add 0) = some (.int .i64 n41) ∧ ((Cll Try.prog 76 #[(.int .u8 ((y40.toNat : Nat) : Int)), (.int .i64 n41), (.int .i64 x1)] w38 fun v42 w43 => (∃ (b44 : Bool), v42 = (.bool b44) ∧ K (.bool b44) w43)) ∧ True)) ∧ True))) (((((K (.bool false) w38) ∧ True)) ∧ True)))) ∧ True)) ∧ True))) (((((((((K (.bool false) w33) ∧ True)) ∧ True)) ∧ True)) ∧ True)))) ∧ True)) ∧ True))) (((((((((((((K (.bool false) w28) ∧ True)) ∧ True)) ∧ True)) ∧ True)) ∧ True)) ∧ True)))) ∧ True)) (((((((((((((((K (.bool false) w25.drew) ∧ True)) ∧ True)) ∧ True)) ∧ True)) ∧ True)) ∧ True)) ∧ True)))

def impl_InsOk.ann : Ann := (.seq .l (.seq .l (.seq .each .l)))

theorem impl_InsOk.start {x0_0 : Int} {x0_1 : Int} {x0_2 : Int} {x0_3 : Int} {x1 : Int} {w : World} {K : Value → World → Prop} (h : impl_InsOk.vc x0_0 x0_1 x0_2 x0_3 x1 w K) : Cll Try.prog 57 #[(.agg #[(.int .i64 x0_0), (.int .i64 x0_1), (.int .i64 x0_2), (.int .i64 x0_3)]), (.int .i64 x1)] w K :=
  vcF_sound mixed (fn := Try.f57) (by kernel_rfl) (by kernel_rfl) (an := impl_InsOk.ann) (args := [(.agg #[(.int .i64 x0_0), (.int .i64 x0_1), (.int .i64 x0_2), (.int .i64 x0_3)]), (.int .i64 x1)]) (Eq.mpr (by kernel_rfl) h)

theorem impl_InsOk.con {s0 : D.Ins} {x1 : Int} {r : Bool} {w : World} (hr : r = M.impl_InsOk s0 x1)  :
    Cll Try.prog 57 #[(.agg #[(.int .i64 s0.Op), (.int .i64 s0.A), (.int .i64 s0.B), (.int .i64 s0.C)]), (.int .i64 x1)] w (fun v_ w_ => v_ = (.bool r) ∧ Ext w w_) := by
  have H := wp.impl_InsOk.math s0 x1
  have hB := Ext.refl w
  refine impl_InsOk.start ?_
  unfold impl_InsOk.vc
  unfold wp.impl_InsOk at H
  refine newBlk (fun g1_ w21 L1 P1 e22 => ?_)
  have O1 := P1
  have L1 := Nat.le_trans hB.size L1
  have hB := ethen hB e22
  refine ⟨_, (O1.at 0 rfl rfl), ?_⟩
  obtain ⟨r23, hr24⟩ : ∃ r_, r_ = M.impl_formOf s0.Op := ⟨_, rfl⟩
  have H := H r23 hr24
  refine (impl_formOf.con hr24 ).mono ?_
  rintro _ w26 ⟨rfl, e27⟩
  have O1 := O1.ext e27
  have hB := ethen hB e27
  refine ⟨r23, rfl, ?_⟩
  have O1 := O1.ext (Ext.drew _)
  have hB := ethen hB (Ext.drew _)
  refine bcase_mk (fun hc66 => ?_) (fun hc66 => ?_)
  · have H := (bcase_iff.1 H).1 hc66
    refine and_t ?_
    obtain ⟨r28, hr29⟩ : ∃ r_, r_ = M.impl_within x1 0 32 := ⟨_, rfl⟩
    have H := H r28 hr29
    refine (impl_within.con hr29 ).mono ?_
    rintro _ w31 ⟨rfl, e32⟩
    have O1 := O1.ext e32
    have hB := ethen hB e32
    refine ⟨r28, rfl, ?_⟩
    refine bcase_mk (fun hc65 => ?_) (fun hc65 => ?_)
    · have H := (bcase_iff.1 H).1 hc65
      obtain ⟨⟨h0_36, h1_37⟩, H⟩ := H
      obtain ⟨y33, hy34, hyb35⟩ := strAt h0_36 h1_37
      refine ⟨h0_36, y33, hy34, ?_⟩
      rw [hyb35]
      refine and_t ?_
      refine ⟨_, (O1.at 1 rfl rfl), ?_⟩
      refine and_t ?_
      obtain ⟨hp40, H⟩ := H
      obtain ⟨r38, hr39⟩ : ∃ r_, r_ = M.impl_isField (bt r23 0) s0.A x1 := ⟨_, rfl⟩
      have H := H r38 hr39
      refine (impl_isField.con hp40 hr39 ).mono ?_
      rintro _ w41 ⟨rfl, e42⟩
      have O1 := O1.ext e42
      have hB := ethen hB e42
      refine ⟨r38, rfl, ?_⟩
      refine bcase_mk (fun hc64 => ?_) (fun hc64 => ?_)
      · have H := (bcase_iff.1 H).1 hc64
        obtain ⟨⟨h0_46, h1_47⟩, H⟩ := H
        obtain ⟨y43, hy44, hyb45⟩ := strAt h0_46 h1_47
        refine ⟨h0_46, y43, hy44, ?_⟩
        rw [hyb45]
        refine and_t ?_
        refine ⟨_, (O1.at 2 rfl rfl), ?_⟩
        refine and_t ?_
        obtain ⟨hp50, H⟩ := H
        obtain ⟨r48, hr49⟩ : ∃ r_, r_ = M.impl_isField (bt r23 1) s0.B x1 := ⟨_, rfl⟩
        have H := H r48 hr49
        refine (impl_isField.con hp50 hr49 ).mono ?_
        rintro _ w51 ⟨rfl, e52⟩
        have O1 := O1.ext e52
        have hB := ethen hB e52
        refine ⟨r48, rfl, ?_⟩
        refine bcase_mk (fun hc63 => ?_) (fun hc63 => ?_)
        · have H := (bcase_iff.1 H).1 hc63
          obtain ⟨⟨h0_56, h1_57⟩, H⟩ := H
          obtain ⟨y53, hy54, hyb55⟩ := strAt h0_56 h1_57
          refine ⟨h0_56, y53, hy54, ?_⟩
          rw [hyb55]
          refine and_t ?_
          refine ⟨_, (O1.at 3 rfl rfl), ?_⟩
          refine and_t ?_
          obtain ⟨hp60, H⟩ := H
          obtain ⟨r58, hr59⟩ : ∃ r_, r_ = M.impl_isField (bt r23 2) s0.C x1 := ⟨_, rfl⟩
          have H := H r58 hr59
          refine (impl_isField.con hp60 hr59 ).mono ?_
          rintro _ w61 ⟨rfl, e62⟩
          have O1 := O1.ext e62
          have hB := ethen hB e62
          refine ⟨r58, rfl, ?_⟩
          obtain rfl := hr.trans H.symm
          exact ⟨rfl, hB⟩
        have H := (bcase_iff.1 H).2 hc63
        refine and_t ?_
        refine and_t ?_
        obtain rfl := hr.trans H.symm
        exact ⟨rfl, hB⟩
      have H := (bcase_iff.1 H).2 hc64
      refine and_t ?_
      refine and_t ?_
      refine and_t ?_
      refine and_t ?_
      obtain rfl := hr.trans H.symm
      exact ⟨rfl, hB⟩
    have H := (bcase_iff.1 H).2 hc65
    refine and_t ?_
    refine and_t ?_
    refine and_t ?_
    refine and_t ?_
    refine and_t ?_
    refine and_t ?_
    obtain rfl := hr.trans H.symm
    exact ⟨rfl, hB⟩
  have H := (bcase_iff.1 H).2 hc66
  refine and_t ?_
  refine and_t ?_
  refine and_t ?_
  refine and_t ?_
  refine and_t ?_
  refine and_t ?_
  refine and_t ?_
  obtain rfl := hr.trans H.symm
  exact ⟨rfl, hB⟩
def impl_ProgramOk_1.vc (x0_0 : Int) (x0_1 : Int) (x0_2 : Int) (x0_3 : Int) (p1 : Addr) (w : World) (K : Value → World → Prop) : Prop :=
  newK w (.cells #[(.int .i64 x0_0), (.int .i64 x0_1), (.int .i64 x0_2), (.int .i64 x0_3)] 60) fun g21 w22 => ∃ (n23 : Int), w22.cell? ((⟨g21, 0, none⟩ : Addr).add 0) = some (.int .i64 n23) ∧ ∃ (n24 : Int), w22.cell? ((⟨g21, 0, none⟩ : Addr).add 1) = some (.int .i64 n24) ∧ ∃ (n25 : Int), w22.cell? ((⟨g21, 0, none⟩ : Addr).add 2) = some (.int .i64 n25) ∧ ∃ (n26 : Int), w22.cell? ((⟨g21, 0, none⟩ : Addr).add 3) = some (.int .i64 n26) ∧ ∃ (A27 : Option Addr) (n28 : Nat) (c29 : Nat), w22.cell? (p1.add 0) = some (.slice A27 n28 c29) ∧ Cll Try.prog 57 #[(.agg #[(.int .i64 n23), (.int .i64 n24), (.int .i64 n25), (.int .i64 n26)]), (.int .i64 ((n28 : Nat) : Int))] w22 fun v30 w31 => (∃ (b32 : Bool), v30 = (.bool b32) ∧ K (.bool (!b32)) w31)

def impl_ProgramOk_1.ann : Ann := (.seq .l (.seq .l .l))

theorem impl_ProgramOk_1.start {x0_0 : Int} {x0_1 : Int} {x0_2 : Int} {x0_3 : Int} {p1 : Addr} {w : World} {K : Value → World → Prop} (h : impl_ProgramOk_1.vc x0_0 x0_1 x0_2 x0_3 p1 w K) : Cll Try.prog 56 #[(.agg #[(.int .i64 x0_0), (.int .i64 x0_1), (.int .i64 x0_2), (.int .i64 x0_3)]), (.pointer (some p1))] w K :=
  vcF_sound mixed (fn := Try.f56) (by kernel_rfl) (by kernel_rfl) (an := impl_ProgramOk_1.ann) (args := [(.agg #[(.int .i64 x0_0), (.int .i64 x0_1), (.int .i64 x0_2), (.int .i64 x0_3)]), (.pointer (some p1))]) (Eq.mpr (by kernel_rfl) h)

theorem impl_ProgramOk_1.con {s0 : D.Ins} {xs1 : List D.Ins} {g1_ : Nat} {A1_0 : Option Addr} {c1_0 : Nat} {r : Bool} {w : World} (hr : r = M.impl_ProgramOk_1 s0 xs1) (O1 : Blk w g1_ 24 #[(.slice A1_0 xs1.length c1_0)]) (R1_0 : Row el60 w A1_0 xs1) (hc1_0 : xs1.length ≤ c1_0) :
    Cll Try.prog 56 #[(.agg #[(.int .i64 s0.Op), (.int .i64 s0.A), (.int .i64 s0.B), (.int .i64 s0.C)]), (.pointer (some (⟨g1_, 0, none⟩ : Addr)))] w (fun v_ w_ => v_ = (.bool r) ∧ Ext w w_) := by
  have H := wp.impl_ProgramOk_1.math s0 xs1
  have hB := Ext.refl w
  refine impl_ProgramOk_1.start ?_
  unfold impl_ProgramOk_1.vc
  unfold wp.impl_ProgramOk_1 at H
  refine newBlk (fun g3_ w21 L3 P3 e22 => ?_)
  have N1_3 := O1.ne L3
  have O1 := O1.ext e22
  have O3 := P3
  have L3 := Nat.le_trans hB.size L3
  have hB := ethen hB e22
  refine ⟨_, (O3.at 0 rfl rfl), ?_⟩
  refine ⟨_, (O3.at 1 rfl rfl), ?_⟩
  refine ⟨_, (O3.at 2 rfl rfl), ?_⟩
  refine ⟨_, (O3.at 3 rfl rfl), ?_⟩
  refine ⟨_, _, _, (O1.at 0 rfl rfl), ?_⟩
  obtain ⟨r23, hr24⟩ : ∃ r_, r_ = M.impl_InsOk s0 ((xs1.length : Nat) : Int) := ⟨_, rfl⟩
  have H := H r23 hr24
  refine (impl_InsOk.con hr24 ).mono ?_
  rintro _ w26 ⟨rfl, e27⟩
  have O1 := O1.ext e27
  have O3 := O3.ext e27
  have hB := ethen hB e27
  refine ⟨r23, rfl, ?_⟩
  obtain rfl := hr.trans H.symm
  exact ⟨rfl, hB⟩
def slices_IndexFunc_impl_Ins_impl_Ins.vc (A0 : Option Addr) (n0 : Nat) (c0 : Nat) (f1 : Nat) (cap1 : Array Value) (w : World) (K : Value → World → Prop) : Prop :=
  LoopT (σ := Int × Unit) (fun z21 w22 next23 => bcase (decide (z21.1 < ((n0 : Nat) : Int))) (((0 : Int) ≤ z21.1 ∧ z21.1 < ((n0 : Nat) : Int) ∧ ∃ a24 : Addr, A0 = some a24 ∧ ∃ (n25 : Int), w22.cell? ((a24.add ((z21.1.toNat) * 4)).add 0) = some (.int .i64 n25) ∧ ∃ (n26 : Int), w22.cell? ((a24.add ((z21.1.toNat) * 4)).add 1) = some (.int .i64 n26) ∧ ∃ (n27 : Int), w22.cell? ((a24.add ((z21.1.toNat) * 4)).add 2) = some (.int .i64 n27) ∧ ∃ (n28 : Int), w22.cell? ((a24.add ((z21.1.toNat) * 4)).add 3) = some (.int .i64 n28) ∧ Cll Try.prog f1 (#[(.agg #[(.int .i64 n25), (.int .i64 n26), (.int .i64 n27), (.int .i64 n28)])] ++ cap1) w22 fun v29 w30 => (∃ (b31 : Bool), v29 = (.bool b31) ∧ bcase b31 (K (.int .i64 z21.1) w30) (next23 ((IntKind.wrap .i64 (z21.1 + 1)), ()) w30)))) (K (.int .i64 (-1)) w22)) (0, ()) w

def slices_IndexFunc_impl_Ins_impl_Ins.ann : Ann := (.seq .l (.seq (.seq .l (.one (.loop [(8, .int .i64)] (.seq .l (.seq (.two .l .l) (.seq (.one (.seq .l (.seq .l (.two (.seq .l .l) .l)))) .l)))))) (.seq .l .l)))

theorem slices_IndexFunc_impl_Ins_impl_Ins.start {A0 : Option Addr} {n0 : Nat} {c0 : Nat} {f1 : Nat} {cap1 : Array Value} {w : World} {K : Value → World → Prop} (h : slices_IndexFunc_impl_Ins_impl_Ins.vc A0 n0 c0 f1 cap1 w K) : Cll Try.prog 60 #[(.slice A0 n0 c0), (.func (.func f1) #[] cap1)] w K :=
  vcF_sound mixed (fn := Try.f60) (by kernel_rfl) (by kernel_rfl) (an := slices_IndexFunc_impl_Ins_impl_Ins.ann) (args := [(.slice A0 n0 c0), (.func (.func f1) #[] cap1)]) (Eq.mpr (by kernel_rfl) h)

theorem slices_IndexFunc_impl_Ins_impl_Ins.con {xs0 : List D.Ins} {A0 : Option Addr} {c0 : Nat} {f1 : Nat} {cap1 : Array Value} {g1 : D.Ins → Bool} {D1 : D.Ins → Prop} {r : Int} {w : World} (hp : M.slices_IndexFunc_impl_Ins_impl_Ins_pre xs0 g1 D1) (hr : r = M.slices_IndexFunc_impl_Ins_impl_Ins xs0 g1) (R0 : Row el60 w A0 xs0) (hc0 : xs0.length ≤ c0) (F1 : ∀ (z0_ : D.Ins), D1 z0_ → ∀ w_ : World, Ext w w_ → Cll Try.prog f1 (#[(.agg #[(.int .i64 z0_.Op), (.int .i64 z0_.A), (.int .i64 z0_.B), (.int .i64 z0_.C)])] ++ cap1) w_ (fun v_ w1_ => v_ = (.bool (g1 z0_)) ∧ Ext w_ w1_)) :
    Cll Try.prog 60 #[(.slice A0 xs0.length c0), (.func (.func f1) #[] cap1)] w (fun v_ w_ => v_ = (.int .i64 r) ∧ Ext w w_) := by
  have H := wp.slices_IndexFunc_impl_Ins_impl_Ins.math xs0 g1 D1 hp
  have hB := Ext.refl w
  refine slices_IndexFunc_impl_Ins_impl_Ins.start ?_
  unfold slices_IndexFunc_impl_Ins_impl_Ins.vc
  unfold wp.slices_IndexFunc_impl_Ins_impl_Ins at H
  obtain ⟨J23, ⟨m44, hJ43⟩, hS24⟩ := H
  refine ⟨fun m_ z_ w_ => ∃ (i21 : Int), z_ = (i21, ()) ∧ J23 m_ (i21, ()) ∧ Ext w w_, ⟨m44, 0, rfl, hJ43, hB⟩, ?_⟩
  rintro m22 _ w26 ⟨i21, rfl, hJ45, hB⟩
  have H := hS24 m22 _ hJ45
  clear hS24 hJ45
  try dsimp only at H ⊢
  refine bcase_mk (fun hc41 => ?_) (fun hc41 => ?_)
  · have H := (bcase_iff.1 H).1 hc41
    obtain ⟨⟨h0_30, h1_31⟩, H⟩ := H
    obtain ⟨a28, ha29, hat27⟩ := Row.at (R0.ext hB) h0_30 h1_31
    refine ⟨h0_30, h1_31, a28, ha29, ?_⟩
    refine ⟨_, (hat27 0 _ rfl), ?_⟩
    refine ⟨_, (hat27 1 _ rfl), ?_⟩
    refine ⟨_, (hat27 2 _ rfl), ?_⟩
    refine ⟨_, (hat27 3 _ rfl), ?_⟩
    obtain ⟨hd34, H⟩ := H
    obtain ⟨r32, hr33⟩ : ∃ r_, r_ = g1 (rd xs0 i21) := ⟨_, rfl⟩
    have H := H r32 hr33
    refine (F1 (rd xs0 i21) hd34 _ hB).mono ?_
    rintro _ w35 ⟨rfl, e36⟩
    rw [← hr33]
    have hB := ethen hB e36
    refine ⟨r32, rfl, ?_⟩
    refine bcase_mk (fun hc40 => ?_) (fun hc40 => ?_)
    · have H := (bcase_iff.1 H).1 hc40
      obtain rfl := hr.trans H.symm
      exact ⟨rfl, hB⟩
    have H := (bcase_iff.1 H).2 hc40
    obtain ⟨m37, hm38, hJ39⟩ := H
    exact ⟨m37, hm38, (IntKind.wrap .i64 (i21 + 1)), rfl, hJ39, hB⟩
  have H := (bcase_iff.1 H).2 hc41
  obtain rfl := hr.trans H.symm
  exact ⟨rfl, hB⟩
def slices_ContainsFunc_impl_Ins_impl_Ins.vc (A0 : Option Addr) (n0 : Nat) (c0 : Nat) (f1 : Nat) (cap1 : Array Value) (w : World) (K : Value → World → Prop) : Prop :=
  Cll Try.prog 60 #[(.slice A0 n0 c0), (.func (.func f1) #[] cap1)] w fun v21 w22 => (∃ (n23 : Int), v21 = (.int .i64 n23) ∧ K (.bool (decide (n23 ≥ 0))) w22)

def slices_ContainsFunc_impl_Ins_impl_Ins.ann : Ann := (.seq .l (.seq .l .l))

theorem slices_ContainsFunc_impl_Ins_impl_Ins.start {A0 : Option Addr} {n0 : Nat} {c0 : Nat} {f1 : Nat} {cap1 : Array Value} {w : World} {K : Value → World → Prop} (h : slices_ContainsFunc_impl_Ins_impl_Ins.vc A0 n0 c0 f1 cap1 w K) : Cll Try.prog 36 #[(.slice A0 n0 c0), (.func (.func f1) #[] cap1)] w K :=
  vcF_sound mixed (fn := Try.f36) (by kernel_rfl) (by kernel_rfl) (an := slices_ContainsFunc_impl_Ins_impl_Ins.ann) (args := [(.slice A0 n0 c0), (.func (.func f1) #[] cap1)]) (Eq.mpr (by kernel_rfl) h)

theorem slices_ContainsFunc_impl_Ins_impl_Ins.con {xs0 : List D.Ins} {A0 : Option Addr} {c0 : Nat} {f1 : Nat} {cap1 : Array Value} {g1 : D.Ins → Bool} {D1 : D.Ins → Prop} {r : Bool} {w : World} (hp : M.slices_ContainsFunc_impl_Ins_impl_Ins_pre xs0 g1 D1) (hr : r = M.slices_ContainsFunc_impl_Ins_impl_Ins xs0 g1) (R0 : Row el60 w A0 xs0) (hc0 : xs0.length ≤ c0) (F1 : ∀ (z0_ : D.Ins), D1 z0_ → ∀ w_ : World, Ext w w_ → Cll Try.prog f1 (#[(.agg #[(.int .i64 z0_.Op), (.int .i64 z0_.A), (.int .i64 z0_.B), (.int .i64 z0_.C)])] ++ cap1) w_ (fun v_ w1_ => v_ = (.bool (g1 z0_)) ∧ Ext w_ w1_)) :
    Cll Try.prog 36 #[(.slice A0 xs0.length c0), (.func (.func f1) #[] cap1)] w (fun v_ w_ => v_ = (.bool r) ∧ Ext w w_) := by
  have H := wp.slices_ContainsFunc_impl_Ins_impl_Ins.math xs0 g1 D1 hp
  have hB := Ext.refl w
  refine slices_ContainsFunc_impl_Ins_impl_Ins.start ?_
  unfold slices_ContainsFunc_impl_Ins_impl_Ins.vc
  unfold wp.slices_ContainsFunc_impl_Ins_impl_Ins at H
  obtain ⟨hp23, H⟩ := H
  obtain ⟨r21, hr22⟩ : ∃ r_, r_ = M.slices_IndexFunc_impl_Ins_impl_Ins xs0 g1 := ⟨_, rfl⟩
  have H := H r21 hr22
  refine (slices_IndexFunc_impl_Ins_impl_Ins.con hp23 hr22 (R0.ext hB) hc0 (fun z0_  h_ w_ e_ => F1 z0_  h_ w_ (ethen hB e_))).mono ?_
  rintro _ w24 ⟨rfl, e25⟩
  have hB := ethen hB e25
  refine ⟨r21, rfl, ?_⟩
  obtain rfl := hr.trans H.symm
  exact ⟨rfl, hB⟩
def impl_ProgramOk.vc (A0 : Option Addr) (n0 : Nat) (c0 : Nat) (w : World) (K : Value → World → Prop) : Prop :=
  newK w (.cells #[(.slice A0 n0 c0)] 24) fun g21 w22 => ∃ (A23 : Option Addr) (n24 : Nat) (c25 : Nat), w22.cell? ((⟨g21, 0, none⟩ : Addr).add 0) = some (.slice A23 n24 c25) ∧ bcase (decide (((n24 : Nat) : Int) ≤ 32)) (∃ (A26 : Option Addr) (n27 : Nat) (c28 : Nat), w22.cell? ((⟨g21, 0, none⟩ : Addr).add 0) = some (.slice A26 n27 c28) ∧ Cll Try.prog 36 #[(.slice A26 n27 c28), (.func (.func 56) #[] #[(.pointer (some (⟨g21, 0, none⟩ : Addr)))])] w22 fun v29 w30 => (∃ (b31 : Bool), v29 = (.bool b31) ∧ K (.bool (!b31)) w30)) (K (.bool false) w22)

def impl_ProgramOk.ann : Ann := (.seq .l (.seq .l .l))

theorem impl_ProgramOk.start {A0 : Option Addr} {n0 : Nat} {c0 : Nat} {w : World} {K : Value → World → Prop} (h : impl_ProgramOk.vc A0 n0 c0 w K) : Cll Try.prog 32 #[(.slice A0 n0 c0)] w K :=
  vcF_sound mixed (fn := Try.f32) (by kernel_rfl) (by kernel_rfl) (an := impl_ProgramOk.ann) (args := [(.slice A0 n0 c0)]) (Eq.mpr (by kernel_rfl) h)

theorem impl_ProgramOk.con {xs0 : List D.Ins} {A0 : Option Addr} {c0 : Nat} {r : Bool} {w : World} (hp : M.impl_ProgramOk_pre xs0) (hr : r = M.impl_ProgramOk xs0) (R0 : Row el60 w A0 xs0) (hc0 : xs0.length ≤ c0) :
    Cll Try.prog 32 #[(.slice A0 xs0.length c0)] w (fun v_ w_ => v_ = (.bool r) ∧ Ext w w_) := by
  have H := wp.impl_ProgramOk.math xs0 hp
  have hB := Ext.refl w
  refine impl_ProgramOk.start ?_
  unfold impl_ProgramOk.vc
  unfold wp.impl_ProgramOk at H
  refine newBlk (fun g2_ w21 L2 P2 e22 => ?_)
  have O2 := P2
  have L2 := Nat.le_trans hB.size L2
  have hB := ethen hB e22
  refine ⟨_, _, _, (O2.at 0 rfl rfl), ?_⟩
  refine bcase_mk (fun hc28 => ?_) (fun hc28 => ?_)
  · have H := (bcase_iff.1 H).1 hc28
    refine ⟨_, _, _, (O2.at 0 rfl rfl), ?_⟩
    obtain ⟨hp25, H⟩ := H
    obtain ⟨r23, hr24⟩ : ∃ r_, r_ = M.slices_ContainsFunc_impl_Ins_impl_Ins xs0 (fun z0_ => M.impl_ProgramOk_1 z0_ xs0) := ⟨_, rfl⟩
    have H := H r23 hr24
    refine (slices_ContainsFunc_impl_Ins_impl_Ins.con hp25 hr24 (R0.ext hB) hc0 (fun z0_ h_ w_ e_ => cllApp (l1 := [_]) (l2 := [_]) (impl_ProgramOk_1.con rfl (O2.ext e_) (R0.ext (ethen hB e_)) hc0))).mono ?_
    rintro _ w26 ⟨rfl, e27⟩
    have O2 := O2.ext e27
    have hB := ethen hB e27
    refine ⟨r23, rfl, ?_⟩
    obtain rfl := hr.trans H.symm
    exact ⟨rfl, hB⟩
  have H := (bcase_iff.1 H).2 hc28
  obtain rfl := hr.trans H.symm
  exact ⟨rfl, hB⟩
def impl_IsLocal.vc (x0_0 : Int) (x0_1 : Int) (x0_2 : Int) (x0_3 : Int) (w : World) (K : Value → World → Prop) : Prop :=
  newK w (.cells #[(.int .i64 x0_0), (.int .i64 x0_1), (.int .i64 x0_2), (.int .i64 x0_3)] 60) fun g21 w22 => ∃ (n23 : Int), w22.cell? (((⟨g21, 0, none⟩ : Addr).add 0).add 0) = some (.int .i64 n23) ∧ Cll Try.prog 33 #[(.int .i64 n23), (.int .i64 0), (.int .i64 12)] w22 fun v24 w25 => (∃ (b26 : Bool), v24 = (.bool b26) ∧ K (.bool b26) w25)

def impl_IsLocal.ann : Ann := (.seq .l (.seq .l .l))

theorem impl_IsLocal.start {x0_0 : Int} {x0_1 : Int} {x0_2 : Int} {x0_3 : Int} {w : World} {K : Value → World → Prop} (h : impl_IsLocal.vc x0_0 x0_1 x0_2 x0_3 w K) : Cll Try.prog 38 #[(.agg #[(.int .i64 x0_0), (.int .i64 x0_1), (.int .i64 x0_2), (.int .i64 x0_3)])] w K :=
  vcF_sound mixed (fn := Try.f38) (by kernel_rfl) (by kernel_rfl) (an := impl_IsLocal.ann) (args := [(.agg #[(.int .i64 x0_0), (.int .i64 x0_1), (.int .i64 x0_2), (.int .i64 x0_3)])]) (Eq.mpr (by kernel_rfl) h)

theorem impl_IsLocal.con {s0 : D.Ins} {r : Bool} {w : World} (hr : r = M.impl_IsLocal s0)  :
    Cll Try.prog 38 #[(.agg #[(.int .i64 s0.Op), (.int .i64 s0.A), (.int .i64 s0.B), (.int .i64 s0.C)])] w (fun v_ w_ => v_ = (.bool r) ∧ Ext w w_) := by
  have H := wp.impl_IsLocal.math s0
  have hB := Ext.refl w
  refine impl_IsLocal.start ?_
  unfold impl_IsLocal.vc
  unfold wp.impl_IsLocal at H
  refine newBlk (fun g1_ w21 L1 P1 e22 => ?_)
  have O1 := P1
  have L1 := Nat.le_trans hB.size L1
  have hB := ethen hB e22
  refine ⟨_, (O1.at 0 rfl rfl), ?_⟩
  obtain ⟨r23, hr24⟩ : ∃ r_, r_ = M.impl_within s0.Op 0 12 := ⟨_, rfl⟩
  have H := H r23 hr24
  refine (impl_within.con hr24 ).mono ?_
  rintro _ w26 ⟨rfl, e27⟩
  have O1 := O1.ext e27
  have hB := ethen hB e27
  refine ⟨r23, rfl, ?_⟩
  obtain rfl := hr.trans H.symm
  exact ⟨rfl, hB⟩
def impl_IsQuiet_1.vc (x0_0 : Int) (x0_1 : Int) (x0_2 : Int) (x0_3 : Int) (w : World) (K : Value → World → Prop) : Prop :=
  newK w (.cells #[(.int .i64 x0_0), (.int .i64 x0_1), (.int .i64 x0_2), (.int .i64 x0_3)] 60) fun g21 w22 => ∃ (n23 : Int), w22.cell? ((⟨g21, 0, none⟩ : Addr).add 0) = some (.int .i64 n23) ∧ ∃ (n24 : Int), w22.cell? ((⟨g21, 0, none⟩ : Addr).add 1) = some (.int .i64 n24) ∧ ∃ (n25 : Int), w22.cell? ((⟨g21, 0, none⟩ : Addr).add 2) = some (.int .i64 n25) ∧ ∃ (n26 : Int), w22.cell? ((⟨g21, 0, none⟩ : Addr).add 3) = some (.int .i64 n26) ∧ Cll Try.prog 38 #[(.agg #[(.int .i64 n23), (.int .i64 n24), (.int .i64 n25), (.int .i64 n26)])] w22 fun v27 w28 => (∃ (b29 : Bool), v27 = (.bool b29) ∧ K (.bool (!b29)) w28)

def impl_IsQuiet_1.ann : Ann := (.seq .l (.seq .l .l))

theorem impl_IsQuiet_1.start {x0_0 : Int} {x0_1 : Int} {x0_2 : Int} {x0_3 : Int} {w : World} {K : Value → World → Prop} (h : impl_IsQuiet_1.vc x0_0 x0_1 x0_2 x0_3 w K) : Cll Try.prog 37 #[(.agg #[(.int .i64 x0_0), (.int .i64 x0_1), (.int .i64 x0_2), (.int .i64 x0_3)])] w K :=
  vcF_sound mixed (fn := Try.f37) (by kernel_rfl) (by kernel_rfl) (an := impl_IsQuiet_1.ann) (args := [(.agg #[(.int .i64 x0_0), (.int .i64 x0_1), (.int .i64 x0_2), (.int .i64 x0_3)])]) (Eq.mpr (by kernel_rfl) h)

theorem impl_IsQuiet_1.con {s0 : D.Ins} {r : Bool} {w : World} (hr : r = M.impl_IsQuiet_1 s0)  :
    Cll Try.prog 37 #[(.agg #[(.int .i64 s0.Op), (.int .i64 s0.A), (.int .i64 s0.B), (.int .i64 s0.C)])] w (fun v_ w_ => v_ = (.bool r) ∧ Ext w w_) := by
  have H := wp.impl_IsQuiet_1.math s0
  have hB := Ext.refl w
  refine impl_IsQuiet_1.start ?_
  unfold impl_IsQuiet_1.vc
  unfold wp.impl_IsQuiet_1 at H
  refine newBlk (fun g1_ w21 L1 P1 e22 => ?_)
  have O1 := P1
  have L1 := Nat.le_trans hB.size L1
  have hB := ethen hB e22
  refine ⟨_, (O1.at 0 rfl rfl), ?_⟩
  refine ⟨_, (O1.at 1 rfl rfl), ?_⟩
  refine ⟨_, (O1.at 2 rfl rfl), ?_⟩
  refine ⟨_, (O1.at 3 rfl rfl), ?_⟩
  obtain ⟨r23, hr24⟩ : ∃ r_, r_ = M.impl_IsLocal s0 := ⟨_, rfl⟩
  have H := H r23 hr24
  refine (impl_IsLocal.con hr24 ).mono ?_
  rintro _ w26 ⟨rfl, e27⟩
  have O1 := O1.ext e27
  have hB := ethen hB e27
  refine ⟨r23, rfl, ?_⟩
  obtain rfl := hr.trans H.symm
  exact ⟨rfl, hB⟩
def impl_IsQuiet.vc (A0 : Option Addr) (n0 : Nat) (c0 : Nat) (w : World) (K : Value → World → Prop) : Prop :=
  Cll Try.prog 32 #[(.slice A0 n0 c0)] w fun v21 w22 => (∃ (b23 : Bool), v21 = (.bool b23) ∧ bcase b23 (Cll Try.prog 36 #[(.slice A0 n0 c0), (.func (.func 37) #[] #[])] w22 fun v24 w25 => (∃ (b26 : Bool), v24 = (.bool b26) ∧ K (.bool (!b26)) w25)) (K (.bool false) w22))

def impl_IsQuiet.ann : Ann := (.seq .l (.seq .l .l))

theorem impl_IsQuiet.start {A0 : Option Addr} {n0 : Nat} {c0 : Nat} {w : World} {K : Value → World → Prop} (h : impl_IsQuiet.vc A0 n0 c0 w K) : Cll Try.prog 13 #[(.slice A0 n0 c0)] w K :=
  vcF_sound mixed (fn := Try.f13) (by kernel_rfl) (by kernel_rfl) (an := impl_IsQuiet.ann) (args := [(.slice A0 n0 c0)]) (Eq.mpr (by kernel_rfl) h)

theorem impl_IsQuiet.con {xs0 : List D.Ins} {A0 : Option Addr} {c0 : Nat} {r : Bool} {w : World} (hp : M.impl_IsQuiet_pre xs0) (hr : r = M.impl_IsQuiet xs0) (R0 : Row el60 w A0 xs0) (hc0 : xs0.length ≤ c0) :
    Cll Try.prog 13 #[(.slice A0 xs0.length c0)] w (fun v_ w_ => v_ = (.bool r) ∧ Ext w w_) := by
  have H := wp.impl_IsQuiet.math xs0 hp
  have hB := Ext.refl w
  refine impl_IsQuiet.start ?_
  unfold impl_IsQuiet.vc
  unfold wp.impl_IsQuiet at H
  obtain ⟨hp23, H⟩ := H
  obtain ⟨r21, hr22⟩ : ∃ r_, r_ = M.impl_ProgramOk xs0 := ⟨_, rfl⟩
  have H := H r21 hr22
  refine (impl_ProgramOk.con hp23 hr22 (R0.ext hB) hc0).mono ?_
  rintro _ w24 ⟨rfl, e25⟩
  have hB := ethen hB e25
  refine ⟨r21, rfl, ?_⟩
  refine bcase_mk (fun hc31 => ?_) (fun hc31 => ?_)
  · have H := (bcase_iff.1 H).1 hc31
    obtain ⟨hp28, H⟩ := H
    obtain ⟨r26, hr27⟩ : ∃ r_, r_ = M.slices_ContainsFunc_impl_Ins_impl_Ins xs0 (fun z0_ => M.impl_IsQuiet_1 z0_) := ⟨_, rfl⟩
    have H := H r26 hr27
    refine (slices_ContainsFunc_impl_Ins_impl_Ins.con hp28 hr27 (R0.ext hB) hc0 (fun z0_ h_ w_ e_ => cllApp (l1 := [_]) (l2 := []) (impl_IsQuiet_1.con rfl))).mono ?_
    rintro _ w29 ⟨rfl, e30⟩
    have hB := ethen hB e30
    refine ⟨r26, rfl, ?_⟩
    obtain rfl := hr.trans H.symm
    exact ⟨rfl, hB⟩
  have H := (bcase_iff.1 H).2 hc31
  obtain rfl := hr.trans H.symm
  exact ⟨rfl, hB⟩
def impl_SubWords.vc (x0 : Int) (x1 : Int) (w : World) (K : Value → World → Prop) : Prop :=
  Cll Try.prog 116 #[(.int .i64 x0), (.int .i64 x1), (.int .i64 (IntKind.wrap .i64 (x0 - x1)))] w fun v21 w22 => (∃ (n23 : Int), v21 = (.int .i64 n23) ∧ K (.int .i64 n23) w22)

def impl_SubWords.ann : Ann := (.seq .l (.seq .l .l))

theorem impl_SubWords.start {x0 : Int} {x1 : Int} {w : World} {K : Value → World → Prop} (h : impl_SubWords.vc x0 x1 w K) : Cll Try.prog 100 #[(.int .i64 x0), (.int .i64 x1)] w K :=
  vcF_sound mixed (fn := Try.f100) (by kernel_rfl) (by kernel_rfl) (an := impl_SubWords.ann) (args := [(.int .i64 x0), (.int .i64 x1)]) (Eq.mpr (by kernel_rfl) h)

theorem impl_SubWords.con {x0 : Int} {x1 : Int} {r : Int} {w : World} (hr : r = M.impl_SubWords x0 x1)  :
    Cll Try.prog 100 #[(.int .i64 x0), (.int .i64 x1)] w (fun v_ w_ => v_ = (.int .i64 r) ∧ Ext w w_) := by
  have H := wp.impl_SubWords.math x0 x1
  have hB := Ext.refl w
  refine impl_SubWords.start ?_
  unfold impl_SubWords.vc
  unfold wp.impl_SubWords at H
  obtain ⟨r21, hr22⟩ : ∃ r_, r_ = M.impl_wrapped x0 x1 (IntKind.wrap .i64 (x0 - x1)) := ⟨_, rfl⟩
  have H := H r21 hr22
  refine (impl_wrapped.con hr22 ).mono ?_
  rintro _ w24 ⟨rfl, e25⟩
  have hB := ethen hB e25
  refine ⟨r21, rfl, ?_⟩
  obtain rfl := hr.trans H.symm
  exact ⟨rfl, hB⟩
def impl_MulWords.vc (x0 : Int) (x1 : Int) (w : World) (K : Value → World → Prop) : Prop :=
  Cll Try.prog 116 #[(.int .i64 x0), (.int .i64 x1), (.int .i64 (IntKind.wrap .i64 (x0 * x1)))] w fun v21 w22 => (∃ (n23 : Int), v21 = (.int .i64 n23) ∧ K (.int .i64 n23) w22)

def impl_MulWords.ann : Ann := (.seq .l (.seq .l .l))

theorem impl_MulWords.start {x0 : Int} {x1 : Int} {w : World} {K : Value → World → Prop} (h : impl_MulWords.vc x0 x1 w K) : Cll Try.prog 101 #[(.int .i64 x0), (.int .i64 x1)] w K :=
  vcF_sound mixed (fn := Try.f101) (by kernel_rfl) (by kernel_rfl) (an := impl_MulWords.ann) (args := [(.int .i64 x0), (.int .i64 x1)]) (Eq.mpr (by kernel_rfl) h)

theorem impl_MulWords.con {x0 : Int} {x1 : Int} {r : Int} {w : World} (hr : r = M.impl_MulWords x0 x1)  :
    Cll Try.prog 101 #[(.int .i64 x0), (.int .i64 x1)] w (fun v_ w_ => v_ = (.int .i64 r) ∧ Ext w w_) := by
  have H := wp.impl_MulWords.math x0 x1
  have hB := Ext.refl w
  refine impl_MulWords.start ?_
  unfold impl_MulWords.vc
  unfold wp.impl_MulWords at H
  obtain ⟨r21, hr22⟩ : ∃ r_, r_ = M.impl_wrapped x0 x1 (IntKind.wrap .i64 (x0 * x1)) := ⟨_, rfl⟩
  have H := H r21 hr22
  refine (impl_wrapped.con hr22 ).mono ?_
  rintro _ w24 ⟨rfl, e25⟩
  have hB := ethen hB e25
  refine ⟨r21, rfl, ?_⟩
  obtain rfl := hr.trans H.symm
  exact ⟨rfl, hB⟩
def impl_LessWords.vc (x0 : Int) (x1 : Int) (w : World) (K : Value → World → Prop) : Prop :=
  Cll Try.prog 81 #[(.int .i64 x0)] w fun v21 w22 => (∃ (b23 : Bool), v21 = (.bool b23) ∧ bcase b23 (Cll Try.prog 81 #[(.int .i64 x1)] w22 fun v24 w25 => (∃ (b26 : Bool), v24 = (.bool b26) ∧ bcase b26 (bcase (decide (x0 < x1)) (K (.int .i64 1) w25) (K (.int .i64 0) w25)) (K (.int .i64 0) w25))) (K (.int .i64 0) w22))

def impl_LessWords.ann : Ann := (.seq .l (.seq (.seq .l (.two (.seq .l .l) .l)) (.seq .l .l)))

theorem impl_LessWords.start {x0 : Int} {x1 : Int} {w : World} {K : Value → World → Prop} (h : impl_LessWords.vc x0 x1 w K) : Cll Try.prog 102 #[(.int .i64 x0), (.int .i64 x1)] w K :=
  vcF_sound mixed (fn := Try.f102) (by kernel_rfl) (by kernel_rfl) (an := impl_LessWords.ann) (args := [(.int .i64 x0), (.int .i64 x1)]) (Eq.mpr (by kernel_rfl) h)

theorem impl_LessWords.con {x0 : Int} {x1 : Int} {r : Int} {w : World} (hr : r = M.impl_LessWords x0 x1)  :
    Cll Try.prog 102 #[(.int .i64 x0), (.int .i64 x1)] w (fun v_ w_ => v_ = (.int .i64 r) ∧ Ext w w_) := by
  have H := wp.impl_LessWords.math x0 x1
  have hB := Ext.refl w
  refine impl_LessWords.start ?_
  unfold impl_LessWords.vc
  unfold wp.impl_LessWords at H
  obtain ⟨r21, hr22⟩ : ∃ r_, r_ = M.impl_IsWord x0 := ⟨_, rfl⟩
  have H := H r21 hr22
  refine (impl_IsWord.con hr22 ).mono ?_
  rintro _ w24 ⟨rfl, e25⟩
  have hB := ethen hB e25
  refine ⟨r21, rfl, ?_⟩
  refine bcase_mk (fun hc33 => ?_) (fun hc33 => ?_)
  · have H := (bcase_iff.1 H).1 hc33
    obtain ⟨r26, hr27⟩ : ∃ r_, r_ = M.impl_IsWord x1 := ⟨_, rfl⟩
    have H := H r26 hr27
    refine (impl_IsWord.con hr27 ).mono ?_
    rintro _ w29 ⟨rfl, e30⟩
    have hB := ethen hB e30
    refine ⟨r26, rfl, ?_⟩
    refine bcase_mk (fun hc32 => ?_) (fun hc32 => ?_)
    · have H := (bcase_iff.1 H).1 hc32
      refine bcase_mk (fun hc31 => ?_) (fun hc31 => ?_)
      · have H := (bcase_iff.1 H).1 hc31
        obtain rfl := hr.trans H.symm
        exact ⟨rfl, hB⟩
      have H := (bcase_iff.1 H).2 hc31
      obtain rfl := hr.trans H.symm
      exact ⟨rfl, hB⟩
    have H := (bcase_iff.1 H).2 hc32
    obtain rfl := hr.trans H.symm
    exact ⟨rfl, hB⟩
  have H := (bcase_iff.1 H).2 hc33
  obtain rfl := hr.trans H.symm
  exact ⟨rfl, hB⟩
def impl_isWarpNumber.vc (x0 : Int) (w : World) (K : Value → World → Prop) : Prop :=
  Cll Try.prog 33 #[(.int .i64 x0), (.int .i64 0), (.int .i64 2)] w fun v21 w22 => (∃ (b23 : Bool), v21 = (.bool b23) ∧ K (.bool b23) w22)

def impl_isWarpNumber.ann : Ann := (.seq .l (.seq .l .l))

theorem impl_isWarpNumber.start {x0 : Int} {w : World} {K : Value → World → Prop} (h : impl_isWarpNumber.vc x0 w K) : Cll Try.prog 25 #[(.int .i64 x0)] w K :=
  vcF_sound mixed (fn := Try.f25) (by kernel_rfl) (by kernel_rfl) (an := impl_isWarpNumber.ann) (args := [(.int .i64 x0)]) (Eq.mpr (by kernel_rfl) h)

theorem impl_isWarpNumber.con {x0 : Int} {r : Bool} {w : World} (hr : r = M.impl_isWarpNumber x0)  :
    Cll Try.prog 25 #[(.int .i64 x0)] w (fun v_ w_ => v_ = (.bool r) ∧ Ext w w_) := by
  have H := wp.impl_isWarpNumber.math x0
  have hB := Ext.refl w
  refine impl_isWarpNumber.start ?_
  unfold impl_isWarpNumber.vc
  unfold wp.impl_isWarpNumber at H
  obtain ⟨r21, hr22⟩ : ∃ r_, r_ = M.impl_within x0 0 2 := ⟨_, rfl⟩
  have H := H r21 hr22
  refine (impl_within.con hr22 ).mono ?_
  rintro _ w24 ⟨rfl, e25⟩
  have hB := ethen hB e25
  refine ⟨r21, rfl, ?_⟩
  obtain rfl := hr.trans H.symm
  exact ⟨rfl, hB⟩
def slices_Index_int_int.vc (A0 : Option Addr) (n0 : Nat) (c0 : Nat) (x1 : Int) (w : World) (K : Value → World → Prop) : Prop :=
  LoopT (σ := Int × Unit) (fun z21 w22 next23 => bcase (decide (z21.1 < ((n0 : Nat) : Int))) (((0 : Int) ≤ z21.1 ∧ z21.1 < ((n0 : Nat) : Int) ∧ ∃ a24 : Addr, A0 = some a24 ∧ ∃ (n25 : Int), w22.cell? ((a24.add ((z21.1.toNat) * 1)).add 0) = some (.int .i64 n25) ∧ bcase (x1 == n25) (K (.int .i64 z21.1) w22) (next23 ((IntKind.wrap .i64 (z21.1 + 1)), ()) w22))) (K (.int .i64 (-1)) w22)) (0, ()) w

def slices_Index_int_int.ann : Ann := (.seq .l (.seq (.seq .l (.one (.loop [(8, .int .i64)] (.seq .l (.seq (.two .l .l) (.seq (.one (.seq .l (.seq .l (.two (.seq .l .l) .l)))) .l)))))) (.seq .l .l)))

theorem slices_Index_int_int.start {A0 : Option Addr} {n0 : Nat} {c0 : Nat} {x1 : Int} {w : World} {K : Value → World → Prop} (h : slices_Index_int_int.vc A0 n0 c0 x1 w K) : Cll Try.prog 118 #[(.slice A0 n0 c0), (.int .i64 x1)] w K :=
  vcF_sound mixed (fn := Try.f118) (by kernel_rfl) (by kernel_rfl) (an := slices_Index_int_int.ann) (args := [(.slice A0 n0 c0), (.int .i64 x1)]) (Eq.mpr (by kernel_rfl) h)

theorem slices_Index_int_int.con {xs0 : List Int} {A0 : Option Addr} {c0 : Nat} {x1 : Int} {r : Int} {w : World} (hp : M.slices_Index_int_int_pre xs0 x1) (hr : r = M.slices_Index_int_int xs0 x1) (R0 : Row el3 w A0 xs0) (hc0 : xs0.length ≤ c0) :
    Cll Try.prog 118 #[(.slice A0 xs0.length c0), (.int .i64 x1)] w (fun v_ w_ => v_ = (.int .i64 r) ∧ Ext w w_) := by
  have H := wp.slices_Index_int_int.math xs0 x1 hp
  have hB := Ext.refl w
  refine slices_Index_int_int.start ?_
  unfold slices_Index_int_int.vc
  unfold wp.slices_Index_int_int at H
  obtain ⟨J23, ⟨m39, hJ38⟩, hS24⟩ := H
  refine ⟨fun m_ z_ w_ => ∃ (i21 : Int), z_ = (i21, ()) ∧ J23 m_ (i21, ()) ∧ Ext w w_, ⟨m39, 0, rfl, hJ38, hB⟩, ?_⟩
  rintro m22 _ w26 ⟨i21, rfl, hJ40, hB⟩
  have H := hS24 m22 _ hJ40
  clear hS24 hJ40
  try dsimp only at H ⊢
  refine bcase_mk (fun hc36 => ?_) (fun hc36 => ?_)
  · have H := (bcase_iff.1 H).1 hc36
    obtain ⟨⟨h0_30, h1_31⟩, H⟩ := H
    obtain ⟨a28, ha29, hat27⟩ := Row.at (R0.ext hB) h0_30 h1_31
    refine ⟨h0_30, h1_31, a28, ha29, ?_⟩
    refine ⟨_, (hat27 0 _ rfl), ?_⟩
    refine bcase_mk (fun hc35 => ?_) (fun hc35 => ?_)
    · have H := (bcase_iff.1 H).1 hc35
      obtain rfl := hr.trans H.symm
      exact ⟨rfl, hB⟩
    have H := (bcase_iff.1 H).2 hc35
    obtain ⟨m32, hm33, hJ34⟩ := H
    exact ⟨m32, hm33, (IntKind.wrap .i64 (i21 + 1)), rfl, hJ34, hB⟩
  have H := (bcase_iff.1 H).2 hc36
  obtain rfl := hr.trans H.symm
  exact ⟨rfl, hB⟩
def slices_Contains_int_int.vc (A0 : Option Addr) (n0 : Nat) (c0 : Nat) (x1 : Int) (w : World) (K : Value → World → Prop) : Prop :=
  Cll Try.prog 118 #[(.slice A0 n0 c0), (.int .i64 x1)] w fun v21 w22 => (∃ (n23 : Int), v21 = (.int .i64 n23) ∧ K (.bool (decide (n23 ≥ 0))) w22)

def slices_Contains_int_int.ann : Ann := (.seq .l (.seq .l .l))

theorem slices_Contains_int_int.start {A0 : Option Addr} {n0 : Nat} {c0 : Nat} {x1 : Int} {w : World} {K : Value → World → Prop} (h : slices_Contains_int_int.vc A0 n0 c0 x1 w K) : Cll Try.prog 106 #[(.slice A0 n0 c0), (.int .i64 x1)] w K :=
  vcF_sound mixed (fn := Try.f106) (by kernel_rfl) (by kernel_rfl) (an := slices_Contains_int_int.ann) (args := [(.slice A0 n0 c0), (.int .i64 x1)]) (Eq.mpr (by kernel_rfl) h)

theorem slices_Contains_int_int.con {xs0 : List Int} {A0 : Option Addr} {c0 : Nat} {x1 : Int} {r : Bool} {w : World} (hp : M.slices_Contains_int_int_pre xs0 x1) (hr : r = M.slices_Contains_int_int xs0 x1) (R0 : Row el3 w A0 xs0) (hc0 : xs0.length ≤ c0) :
    Cll Try.prog 106 #[(.slice A0 xs0.length c0), (.int .i64 x1)] w (fun v_ w_ => v_ = (.bool r) ∧ Ext w w_) := by
  have H := wp.slices_Contains_int_int.math xs0 x1 hp
  have hB := Ext.refl w
  refine slices_Contains_int_int.start ?_
  unfold slices_Contains_int_int.vc
  unfold wp.slices_Contains_int_int at H
  obtain ⟨hp23, H⟩ := H
  obtain ⟨r21, hr22⟩ : ∃ r_, r_ = M.slices_Index_int_int xs0 x1 := ⟨_, rfl⟩
  have H := H r21 hr22
  refine (slices_Index_int_int.con hp23 hr22 (R0.ext hB) hc0).mono ?_
  rintro _ w24 ⟨rfl, e25⟩
  have hB := ethen hB e25
  refine ⟨r21, rfl, ?_⟩
  obtain rfl := hr.trans H.symm
  exact ⟨rfl, hB⟩
def spec_l01New.vc (A0 : Option Addr) (n0 : Nat) (c0 : Nat) (w : World) (K : Value → World → Prop) : Prop :=
  LoopT (σ := Int × Int × Unit) (fun z21 w22 next23 => bcase (decide (z21.2.1 < ((n0 : Nat) : Int))) (bcase (decide (z21.2.1 < 4000)) (((0 : Int) ≤ z21.2.1 ∧ z21.2.1 < ((n0 : Nat) : Int) ∧ ∃ a25 : Addr, A0 = some a25 ∧ ∃ (n26 : Int), w22.cell? ((a25.add ((z21.2.1.toNat) * 1)).add 0) = some (.int .u8 n26) ∧ next23 ((bitAnd .i64 (IntKind.wrap .i64 ((IntKind.wrap .i64 ((IntKind.wrap .i64 (z21.1 * 131)) + (IntKind.wrap .i64 n26))) + 7)) 1073741823), (IntKind.wrap .i64 (z21.2.1 + 1)), ()) w22)) (newK w22 (.cells #[(.slice A0 n0 c0), (.int .i64 0), (.int .i64 z21.1)] 77) fun g27 w28 => K (.pointer (some (⟨g27, 0, none⟩ : Addr))) w28)) (newK w22 (.cells #[(.slice A0 n0 c0), (.int .i64 0), (.int .i64 z21.1)] 77) fun g29 w30 => K (.pointer (some (⟨g29, 0, none⟩ : Addr))) w30)) ((IntKind.wrap .i64 (98561 + ((n0 : Nat) : Int))), 0, ()) w

def spec_l01New.ann : Ann := (.seq .l (.seq .l (.seq (.seq .l (.one (.loop [(3, .int .i64), (4, .int .i64)] (.seq (.seq .l (.two .l .l)) (.seq (.one .l) .l))))) (.seq .l .l))))

theorem spec_l01New.start {A0 : Option Addr} {n0 : Nat} {c0 : Nat} {w : World} {K : Value → World → Prop} (h : spec_l01New.vc A0 n0 c0 w K) : Cll Try.prog 23 #[(.slice A0 n0 c0)] w K :=
  vcF_sound mixed (fn := Try.f23) (by kernel_rfl) (by kernel_rfl) (an := spec_l01New.ann) (args := [(.slice A0 n0 c0)]) (Eq.mpr (by kernel_rfl) h)

theorem spec_l01New.con {xs0 : List Int} {A0 : Option Addr} {c0 : Nat} {r : D.Cur} {w : World} (hp : M.spec_l01New_pre xs0) (hr : r = M.spec_l01New xs0) (R0 : Row el5 w A0 xs0) (hc0 : xs0.length ≤ c0) :
    Cll Try.prog 23 #[(.slice A0 xs0.length c0)] w (fun v_ w_ => ∃ (g0_ : Nat), v_ = (.pointer (some (⟨g0_, 0, none⟩ : Addr))) ∧ Blk w_ g0_ 77 #[(.slice A0 r.b.length c0), (.int .i64 r.i), (.int .i64 r.h)] ∧ r.b = xs0 ∧ w.heap.size ≤ g0_ ∧ Ext w w_) := by
  have H := wp.spec_l01New.math xs0 hp
  have hB := Ext.refl w
  refine spec_l01New.start ?_
  unfold spec_l01New.vc
  unfold wp.spec_l01New at H
  obtain ⟨J24, ⟨m44, hJ43⟩, hS25⟩ := H
  refine ⟨fun m_ z_ w_ => ∃ (i21 : Int) (i22 : Int), z_ = (i21, i22, ()) ∧ J24 m_ (i21, i22, ()) ∧ Ext w w_, ⟨m44, (IntKind.wrap .i64 (98561 + ((xs0.length : Nat) : Int))), 0, rfl, hJ43, hB⟩, ?_⟩
  rintro m23 _ w27 ⟨i21, i22, rfl, hJ45, hB⟩
  have H := hS25 m23 _ hJ45
  clear hS25 hJ45
  try dsimp only at H ⊢
  refine bcase_mk (fun hc41 => ?_) (fun hc41 => ?_)
  · have H := (bcase_iff.1 H).1 hc41
    refine bcase_mk (fun hc38 => ?_) (fun hc38 => ?_)
    · have H := (bcase_iff.1 H).1 hc38
      obtain ⟨⟨h0_31, h1_32⟩, H⟩ := H
      obtain ⟨a29, ha30, hat28⟩ := Row.at (R0.ext hB) h0_31 h1_32
      refine ⟨h0_31, h1_32, a29, ha30, ?_⟩
      refine ⟨_, (hat28 0 _ rfl), ?_⟩
      obtain ⟨m33, hm34, hJ35⟩ := H
      exact ⟨m33, hm34, (bitAnd .i64 (IntKind.wrap .i64 ((IntKind.wrap .i64 ((IntKind.wrap .i64 (i21 * 131)) + (IntKind.wrap .i64 (rd xs0 i22)))) + 7)) 1073741823), (IntKind.wrap .i64 (i22 + 1)), rfl, hJ35, hB⟩
    have H := (bcase_iff.1 H).2 hc38
    refine newBlk (fun g2_ w36 L2 P2 e37 => ?_)
    have O2 := P2
    have L2 := Nat.le_trans hB.size L2
    have hB := ethen hB e37
    obtain rfl := hr.trans H.symm
    exact ⟨g2_, rfl, O2, rfl, L2, hB⟩
  have H := (bcase_iff.1 H).2 hc41
  refine newBlk (fun g3_ w39 L3 P3 e40 => ?_)
  have O3 := P3
  have L3 := Nat.le_trans hB.size L3
  have hB := ethen hB e40
  obtain rfl := hr.trans H.symm
  exact ⟨g3_, rfl, O3, rfl, L3, hB⟩
def spec_l01Byte.vc (p0 : Addr) (w : World) (K : Value → World → Prop) : Prop :=
  ∃ (n21 : Int), w.cell? ((p0.add 2).add 0) = some (.int .i64 n21) ∧ stCells (p0.add 2) [(.int .i64 (IntKind.wrap .i64 ((IntKind.wrap .i64 (n21 * 6364136223846793005)) + 1442695040888963407)))] 0 w fun w22 => ∃ (n23 : Int), w22.cell? ((p0.add 2).add 0) = some (.int .i64 n23) ∧ ((0 : Int) ≤ 33 ∧ ∃ (n24 : Int), w22.cell? ((p0.add 2).add 0) = some (.int .i64 n24) ∧ ((0 : Int) ≤ 45 ∧ ∃ (n25 : Int), w22.drew.cell? ((p0.add 1).add 0) = some (.int .i64 n25) ∧ ∃ (A26 : Option Addr) (n27 : Nat) (c28 : Nat), w22.drew.cell? ((p0.add 0).add 0) = some (.slice A26 n27 c28) ∧ bcase (decide (n25 < ((n27 : Nat) : Int))) (∃ (A29 : Option Addr) (n30 : Nat) (c31 : Nat), w22.drew.drew.cell? ((p0.add 0).add 0) = some (.slice A29 n30 c31) ∧ ∃ (n32 : Int), w22.drew.drew.cell? ((p0.add 1).add 0) = some (.int .i64 n32) ∧ ((0 : Int) ≤ n32 ∧ n32 < ((n30 : Nat) : Int) ∧ ∃ a33 : Addr, A29 = some a33 ∧ ∃ (n34 : Int), w22.drew.drew.cell? ((a33.add ((n32.toNat) * 1)).add 0) = some (.int .u8 n34) ∧ ∃ (n35 : Int), w22.drew.drew.drew.cell? ((p0.add 1).add 0) = some (.int .i64 n35) ∧ stCells (p0.add 1) [(.int .i64 (IntKind.wrap .i64 (n35 + 1)))] 0 w22.drew.drew.drew fun w36 => K (.int .i64 (bitAnd .i64 (IntKind.wrap .i64 ((bitAnd .i64 (bitXor .i64 (Int.fdiv n23 (2 ^ (min ((33 : Int).toNat) (IntKind.bits .i64)))) (Int.fdiv n24 (2 ^ (min ((45 : Int).toNat) (IntKind.bits .i64))))) 255) + (IntKind.wrap .i64 n34))) 255)) w36)) (K (.int .i64 (bitAnd .i64 (bitXor .i64 (Int.fdiv n23 (2 ^ (min ((33 : Int).toNat) (IntKind.bits .i64)))) (Int.fdiv n24 (2 ^ (min ((45 : Int).toNat) (IntKind.bits .i64))))) 255)) w22.drew.drew)))

def spec_l01Byte.ann : Ann := (.seq .l (.seq .l (.seq .l (.seq (.seq .l (.two (.seq .l .l) .l)) (.seq .l .l)))))

theorem spec_l01Byte.start {p0 : Addr} {w : World} {K : Value → World → Prop} (h : spec_l01Byte.vc p0 w K) : Cll Try.prog 53 #[(.pointer (some p0))] w K :=
  vcF_sound mixed (fn := Try.f53) (by kernel_rfl) (by kernel_rfl) (an := spec_l01Byte.ann) (args := [(.pointer (some p0))]) (Eq.mpr (by kernel_rfl) h)

theorem spec_l01Byte.con {s0 : D.Cur} {g1_ : Nat} {A0_0 : Option Addr} {c0_0 : Nat} {r : Int × D.Cur} {w : World} (hp : M.spec_l01Byte_pre s0) (hr : r = M.spec_l01Byte s0) (O1 : Blk w g1_ 77 #[(.slice A0_0 s0.b.length c0_0), (.int .i64 s0.i), (.int .i64 s0.h)]) (R0_0 : Row el5 w A0_0 s0.b) (hc0_0 : s0.b.length ≤ c0_0) (D0_0 : s0.b ≠ [] → ∀ g, InB A0_0 g → ¬ (fun k_ => k_ = g1_) g) :
    Cll Try.prog 53 #[(.pointer (some (⟨g1_, 0, none⟩ : Addr)))] w (fun v_ w_ => v_ = (.int .i64 r.1) ∧ Blk w_ g1_ 77 #[(.slice A0_0 r.2.b.length c0_0), (.int .i64 r.2.i), (.int .i64 r.2.h)] ∧ r.2.b = s0.b ∧ Chg (fun k_ => k_ = g1_) w w_) := by
  have H := wp.spec_l01Byte.math s0 hp
  have hB := Chg.refl (fun k_ => k_ = g1_) w
  refine spec_l01Byte.start ?_
  unfold spec_l01Byte.vc
  unfold wp.spec_l01Byte at H
  refine ⟨_, (O1.at 2 rfl rfl), ?_⟩
  refine stBlk O1 (o := 2) (cs' := #[(.slice A0_0 s0.b.length c0_0), (.int .i64 s0.i), (.int .i64 (IntKind.wrap .i64 ((IntKind.wrap .i64 (s0.h * 6364136223846793005)) + 1442695040888963407)))]) rfl rfl (Nat.le_of_ble_eq_true rfl) rfl (fun w21 P1 e22 => ?_)
  have hB := hB.chgb e22 (Or.inr rfl)
  have O1 := P1
  refine ⟨_, (O1.at 2 rfl rfl), ?_⟩
  refine ⟨by decide, ?_⟩
  refine ⟨_, (O1.at 2 rfl rfl), ?_⟩
  refine ⟨by decide, ?_⟩
  have O1 := O1.ext (Ext.drew _)
  have hB := hB.then (Ext.drew _)
  refine ⟨_, (O1.at 1 rfl rfl), ?_⟩
  refine ⟨_, _, _, (O1.at 0 rfl rfl), ?_⟩
  have O1 := O1.ext (Ext.drew _)
  have hB := hB.then (Ext.drew _)
  refine bcase_mk (fun hc35 => ?_) (fun hc35 => ?_)
  · have H := (bcase_iff.1 H).1 hc35
    refine ⟨_, _, _, (O1.at 0 rfl rfl), ?_⟩
    refine ⟨_, (O1.at 1 rfl rfl), ?_⟩
    obtain ⟨⟨h0_31, h1_32⟩, H⟩ := H
    obtain ⟨a29, ha30, hat28⟩ := Row.at (R0_0.chgS hB D0_0) h0_31 h1_32
    refine ⟨h0_31, h1_32, a29, ha30, ?_⟩
    refine ⟨_, (hat28 0 _ rfl), ?_⟩
    have O1 := O1.ext (Ext.drew _)
    have hB := hB.then (Ext.drew _)
    refine ⟨_, (O1.at 1 rfl rfl), ?_⟩
    refine stBlk O1 (o := 1) (cs' := #[(.slice A0_0 s0.b.length c0_0), (.int .i64 (IntKind.wrap .i64 (s0.i + 1))), (.int .i64 (IntKind.wrap .i64 ((IntKind.wrap .i64 (s0.h * 6364136223846793005)) + 1442695040888963407)))]) rfl rfl (Nat.le_of_ble_eq_true rfl) rfl (fun w33 P1 e34 => ?_)
    have hB := hB.chgb e34 (Or.inr rfl)
    have O1 := P1
    obtain rfl := hr.trans H.symm
    exact ⟨rfl, O1, rfl, hB⟩
  have H := (bcase_iff.1 H).2 hc35
  obtain rfl := hr.trans H.symm
  exact ⟨rfl, O1, rfl, hB⟩
def spec_l01Below.vc (p0 : Addr) (x1 : Int) (w : World) (K : Value → World → Prop) : Prop :=
  bcase (decide (x1 ≤ 0)) (K (.int .i64 0) w) (bcase (decide (x1 ≤ 256)) (Cll Try.prog 53 #[(.pointer (some p0))] w fun v21 w22 => (∃ (n23 : Int), v21 = (.int .i64 n23) ∧ ((x1 : Int) ≠ 0 ∧ K (.int .i64 (Int.tmod n23 x1)) w22))) (Cll Try.prog 53 #[(.pointer (some p0))] w fun v24 w25 => (∃ (n26 : Int), v24 = (.int .i64 n26) ∧ Cll Try.prog 53 #[(.pointer (some p0))] w25 fun v27 w28 => (∃ (n29 : Int), v27 = (.int .i64 n29) ∧ Cll Try.prog 53 #[(.pointer (some p0))] w28 fun v30 w31 => (∃ (n32 : Int), v30 = (.int .i64 n32) ∧ Cll Try.prog 53 #[(.pointer (some p0))] w31 fun v33 w34 => (∃ (n35 : Int), v33 = (.int .i64 n35) ∧ ((x1 : Int) ≠ 0 ∧ K (.int .i64 (Int.tmod (IntKind.wrap .i64 ((IntKind.wrap .i64 ((IntKind.wrap .i64 ((IntKind.wrap .i64 (n26 * 16777216)) + (IntKind.wrap .i64 (n29 * 65536)))) + (IntKind.wrap .i64 (n32 * 256)))) + n35)) x1)) w34)))))))

def spec_l01Below.ann : Ann := (.seq .l (.seq (.seq .l (.two (.seq .l .l) .l)) (.seq (.seq .l (.two (.seq .l .l) .l)) (.seq .l (.seq .l (.seq .l (.seq .l (.seq .l .l))))))))

theorem spec_l01Below.start {p0 : Addr} {x1 : Int} {w : World} {K : Value → World → Prop} (h : spec_l01Below.vc p0 x1 w K) : Cll Try.prog 24 #[(.pointer (some p0)), (.int .i64 x1)] w K :=
  vcF_sound mixed (fn := Try.f24) (by kernel_rfl) (by kernel_rfl) (an := spec_l01Below.ann) (args := [(.pointer (some p0)), (.int .i64 x1)]) (Eq.mpr (by kernel_rfl) h)

theorem spec_l01Below.con {s0 : D.Cur} {g1_ : Nat} {A0_0 : Option Addr} {c0_0 : Nat} {x1 : Int} {r : Int × D.Cur} {w : World} (hp : M.spec_l01Below_pre s0 x1) (hr : r = M.spec_l01Below s0 x1) (O1 : Blk w g1_ 77 #[(.slice A0_0 s0.b.length c0_0), (.int .i64 s0.i), (.int .i64 s0.h)]) (R0_0 : Row el5 w A0_0 s0.b) (hc0_0 : s0.b.length ≤ c0_0) (D0_0 : s0.b ≠ [] → ∀ g, InB A0_0 g → ¬ (fun k_ => k_ = g1_) g) :
    Cll Try.prog 24 #[(.pointer (some (⟨g1_, 0, none⟩ : Addr))), (.int .i64 x1)] w (fun v_ w_ => v_ = (.int .i64 r.1) ∧ Blk w_ g1_ 77 #[(.slice A0_0 r.2.b.length c0_0), (.int .i64 r.2.i), (.int .i64 r.2.h)] ∧ r.2.b = s0.b ∧ Chg (fun k_ => k_ = g1_) w w_) := by
  have H := wp.spec_l01Below.math s0 x1 hp
  have hB := Chg.refl (fun k_ => k_ = g1_) w
  refine spec_l01Below.start ?_
  unfold spec_l01Below.vc
  unfold wp.spec_l01Below at H
  refine bcase_mk (fun hc54 => ?_) (fun hc54 => ?_)
  · have H := (bcase_iff.1 H).1 hc54
    obtain rfl := hr.trans H.symm
    exact ⟨rfl, O1, rfl, hB⟩
  have H := (bcase_iff.1 H).2 hc54
  refine bcase_mk (fun hc53 => ?_) (fun hc53 => ?_)
  · have H := (bcase_iff.1 H).1 hc53
    obtain ⟨hp23, H⟩ := H
    obtain ⟨r21, hr22⟩ : ∃ r_, r_ = M.spec_l01Byte s0 := ⟨_, rfl⟩
    have H := H r21 hr22
    refine (spec_l01Byte.con hp23 hr22 O1 (R0_0.chgS hB D0_0) hc0_0 (fun hx_ => (fun g h_ hS_ => D0_0 hx_ g h_ hS_))).mono ?_
    rintro _ w24 ⟨rfl, Q1, hq26, e25⟩
    rw [hq26] at Q1
    have hB := hB.chg e25 (fun g h_ => Or.inr h_)
    have O1 := Q1
    refine ⟨r21.1, rfl, ?_⟩
    obtain ⟨hc27, H⟩ := H
    refine ⟨hc27, ?_⟩
    obtain rfl := hr.trans H.symm
    exact ⟨rfl, O1, rfl, hB⟩
  have H := (bcase_iff.1 H).2 hc53
  obtain ⟨hp30, H⟩ := H
  obtain ⟨r28, hr29⟩ : ∃ r_, r_ = M.spec_l01Byte s0 := ⟨_, rfl⟩
  have H := H r28 hr29
  refine (spec_l01Byte.con hp30 hr29 O1 (R0_0.chgS hB D0_0) hc0_0 (fun hx_ => (fun g h_ hS_ => D0_0 hx_ g h_ hS_))).mono ?_
  rintro _ w31 ⟨rfl, Q1, hq33, e32⟩
  rw [hq33] at Q1
  have hB := hB.chg e32 (fun g h_ => Or.inr h_)
  have O1 := Q1
  refine ⟨r28.1, rfl, ?_⟩
  obtain ⟨hp36, H⟩ := H
  obtain ⟨r34, hr35⟩ : ∃ r_, r_ = M.spec_l01Byte (⟨s0.b, r28.2.i, r28.2.h⟩ : D.Cur) := ⟨_, rfl⟩
  have H := H r34 hr35
  refine (spec_l01Byte.con hp36 hr35 O1 (R0_0.chgS hB D0_0) hc0_0 (fun hx_ => (fun g h_ hS_ => D0_0 hx_ g h_ hS_))).mono ?_
  rintro _ w37 ⟨rfl, Q1, hq39, e38⟩
  rw [hq39] at Q1
  have hB := hB.chg e38 (fun g h_ => Or.inr h_)
  have O1 := Q1
  refine ⟨r34.1, rfl, ?_⟩
  obtain ⟨hp42, H⟩ := H
  obtain ⟨r40, hr41⟩ : ∃ r_, r_ = M.spec_l01Byte (⟨s0.b, r34.2.i, r34.2.h⟩ : D.Cur) := ⟨_, rfl⟩
  have H := H r40 hr41
  refine (spec_l01Byte.con hp42 hr41 O1 (R0_0.chgS hB D0_0) hc0_0 (fun hx_ => (fun g h_ hS_ => D0_0 hx_ g h_ hS_))).mono ?_
  rintro _ w43 ⟨rfl, Q1, hq45, e44⟩
  rw [hq45] at Q1
  have hB := hB.chg e44 (fun g h_ => Or.inr h_)
  have O1 := Q1
  refine ⟨r40.1, rfl, ?_⟩
  obtain ⟨hp48, H⟩ := H
  obtain ⟨r46, hr47⟩ : ∃ r_, r_ = M.spec_l01Byte (⟨s0.b, r40.2.i, r40.2.h⟩ : D.Cur) := ⟨_, rfl⟩
  have H := H r46 hr47
  refine (spec_l01Byte.con hp48 hr47 O1 (R0_0.chgS hB D0_0) hc0_0 (fun hx_ => (fun g h_ hS_ => D0_0 hx_ g h_ hS_))).mono ?_
  rintro _ w49 ⟨rfl, Q1, hq51, e50⟩
  rw [hq51] at Q1
  have hB := hB.chg e50 (fun g h_ => Or.inr h_)
  have O1 := Q1
  refine ⟨r46.1, rfl, ?_⟩
  obtain ⟨hc52, H⟩ := H
  refine ⟨hc52, ?_⟩
  obtain rfl := hr.trans H.symm
  exact ⟨rfl, O1, rfl, hB⟩
def spec_l04Plain.vc (p0 : Addr) (w : World) (K : Value → World → Prop) : Prop :=
  newK w (.cells #[(.int .i64 0), (.int .i64 0), (.int .i64 0), (.int .i64 0)] 60) fun g21 w22 => Cll Try.prog 24 #[(.pointer (some p0)), (.int .i64 9)] w22 fun v23 w24 => (∃ (n25 : Int), v23 = (.int .i64 n25) ∧ Cll Try.prog 24 #[(.pointer (some p0)), (.int .i64 4)] w24 fun v26 w27 => (∃ (n28 : Int), v26 = (.int .i64 n28) ∧ newK w27 (.cells #[(.int .i64 0), (.int .i64 0), (.int .i64 0), (.int .i64 0)] 60) fun g29 w30 => stCells (⟨g29, 0, none⟩ : Addr) [(.int .i64 (IntKind.wrap .i64 (1 + n25))), (.int .i64 n28), (.int .i64 0), (.int .i64 0)] 0 w30 fun w31 => ∃ (n32 : Int), w31.cell? (((⟨g29, 0, none⟩ : Addr).add 0).add 0) = some (.int .i64 n32) ∧ bcase (n32 == 1) (Cll Try.prog 24 #[(.pointer (some p0)), (.int .i64 6)] w31 fun v33 w34 => (∃ (n35 : Int), v33 = (.int .i64 n35) ∧ stCells ((⟨g29, 0, none⟩ : Addr).add 2) [(.int .i64 n35)] 0 w34 fun w36 => ∃ (n37 : Int), w36.cell? ((⟨g29, 0, none⟩ : Addr).add 0) = some (.int .i64 n37) ∧ ∃ (n38 : Int), w36.cell? ((⟨g29, 0, none⟩ : Addr).add 1) = some (.int .i64 n38) ∧ ∃ (n39 : Int), w36.cell? ((⟨g29, 0, none⟩ : Addr).add 2) = some (.int .i64 n39) ∧ ∃ (n40 : Int), w36.cell? ((⟨g29, 0, none⟩ : Addr).add 3) = some (.int .i64 n40) ∧ stCells (⟨g21, 0, none⟩ : Addr) [(.int .i64 n37), (.int .i64 n38), (.int .i64 n39), (.int .i64 n40)] 0 w36 fun w41 => ∃ (n42 : Int), w41.cell? ((⟨g21, 0, none⟩ : Addr).add 0) = some (.int .i64 n42) ∧ ∃ (n43 : Int), w41.cell? ((⟨g21, 0, none⟩ : Addr).add 1) = some (.int .i64 n43) ∧ ∃ (n44 : Int), w41.cell? ((⟨g21, 0, none⟩ : Addr).add 2) = some (.int .i64 n44) ∧ ∃ (n45 : Int), w41.cell? ((⟨g21, 0, none⟩ : Addr).add 3) = some (.int .i64 n45) ∧ K (.agg #[(.int .i64 n42), (.int .i64 n43), (.int .i64 n44), (.int .i64 n45)]) w41)) (bcase (n32 == 8) (∃ (n46 : Int), w31.cell? ((⟨g29, 0, none⟩ : Addr).add 0) = some (.int .i64 n46) ∧ ∃ (n47 : Int), w31.cell? ((⟨g29, 0, none⟩ : Addr).add 1) = some (.int .i64 n47) ∧ ∃ (n48 : Int), w31.cell? ((⟨g29, 0, none⟩ : Addr).add 2) = some (.int .i64 n48) ∧ ∃ (n49 : Int), w31.cell? ((⟨g29, 0, none⟩ : Addr).add 3) = some (.int .i64 n49) ∧ stCells (⟨g21, 0, none⟩ : Addr) [(.int .i64 n46), (.int .i64 n47), (.int .i64 n48), (.int .i64 n49)] 0 w31 fun w50 => ∃ (n51 : Int), w50.cell? ((⟨g21, 0, none⟩ : Addr).add 0) = some (.int .i64 n51) ∧ ∃ (n52 : Int), w50.cell? ((⟨g21, 0, none⟩ : Addr).add 1) = some (.int .i64 n52) ∧ ∃ (n53 : Int), w50.cell? ((⟨g21, 0, none⟩ : Addr).add 2) = some (.int .i64 n53) ∧ ∃ (n54 : Int), w50.cell? ((⟨g21, 0, none⟩ : Addr).add 3) = some (.int .i64 n54) ∧ K (.agg #[(.int .i64 n51), (.int .i64 n52), (.int .i64 n53), (.int .i64 n54)]) w50) (bcase (n32 == 2) (Cll Try.prog 24 #[(.pointer (some p0)), (.int .i64 4)] w31 fun v55 w56 => (∃ (n57 : Int), v55 = (.int .i64 n57) ∧ stCells ((⟨g29, 0, none⟩ : Addr).add 2) [(.int .i64 n57)] 0 w56 fun w58 => ∃ (n59 : Int), w58.cell? ((⟨g29, 0, none⟩ : Addr).add 0) = some (.int .i64 n59) ∧ ∃ (n60 : Int), w58.cell? ((⟨g29, 0, none⟩ : Addr).add 1) = some (.int .i64 n60) ∧ ∃ (n61 : Int), w58.cell? ((⟨g29, 0, none⟩ : Addr).add 2) = some (.int .i64 n61) ∧ ∃ (n62 : Int), w58.cell? ((⟨g29, 0, none⟩ : Addr).add 3) = some (.int .i64 n62) ∧ stCells (⟨g21, 0, none⟩ : Addr) [(.int .i64 n59), (.int .i64 n60), (.int .i64 n61), (.int .i64 n62)] 0 w58 fun w63 => ∃ (n64 : Int), w63.cell? ((⟨g21, 0, none⟩ : Addr).add 0) = some (.int .i64 n64) ∧ ∃ (n65 : Int), w63.cell? ((⟨g21, 0, none⟩ : Addr).add 1) = some (.int .i64 n65) ∧ ∃ (n66 : Int), w63.cell? ((⟨g21, 0, none⟩ : Addr).add 2) = some (.int .i64 n66) ∧ ∃ (n67 : Int), w63.cell? ((⟨g21, 0, none⟩ : Addr).add 3) = some (.int .i64 n67) ∧ K (.agg #[(.int .i64 n64), (.int .i64 n65), (.int .i64 n66), (.int .i64 n67)]) w63)) (Cll Try.prog 24 #[(.pointer (some p0)), (.int .i64 4)] w31 fun v68 w69 => (∃ (n70 : Int), v68 = (.int .i64 n70) ∧ stCells ((⟨g29, 0, none⟩ : Addr).add 2) [(.int .i64 n70)] 0 w69 fun w71 => Cll Try.prog 24 #[(.pointer (some p0)), (.int .i64 4)] w71 fun v72 w73 => (∃ (n74 : Int), v72 = (.int .i64 n74) ∧ stCells ((⟨g29, 0, none⟩ : Addr).add 3) [(.int .i64 n74)] 0 w73 fun w75 => ∃ (n76 : Int), w75.cell? ((⟨g29, 0, none⟩ : Addr).add 0) = some (.int .i64 n76) ∧ ∃ (n77 : Int), w75.cell? ((⟨g29, 0, none⟩ : Addr).add 1) = some (.int .i64 n77) ∧ ∃ (n78 : Int), w75.cell? ((⟨g29, 0, none⟩ : Addr).add 2) = some (.int .i64 n78) ∧ ∃ (n79 : Int), w75.cell? ((⟨g29, 0, none⟩ : Addr).add 3) = some (.int .i64 n79) ∧ stCells (⟨g21, 0, none⟩ : Addr) [(.int .i64 n76), (.int .i64 n77), (.int .i64 n78), (.int .i64 n79)] 0 w75 fun w80 => ∃ (n81 : Int), w80.cell? ((⟨g21, 0, none⟩ : Addr).add 0) = some (.int .i64 n81) ∧ ∃ (n82 : Int), w80.cell? ((⟨g21, 0, none⟩ : Addr).add 1) = some (.int .i64 n82) ∧ ∃ (n83 : Int), w80.cell? ((⟨g21, 0, none⟩ : Addr).add 2) = some (.int .i64 n83) ∧ ∃ (n84 : Int), w80.cell? ((⟨g21, 0, none⟩ : Addr).add 3) = some (.int .i64 n84) ∧ K (.agg #[(.int .i64 n81), (.int .i64 n82), (.int .i64 n83), (.int .i64 n84)]) w80)))))))

def spec_l04Plain.ann : Ann := (.seq .l (.seq .l (.seq (.seq .l (.one (.seq .l (.two .l (.seq .l (.two .l (.seq .l (.two .l (.seq .l .l))))))))) (.seq .l .l))))

theorem spec_l04Plain.start {p0 : Addr} {w : World} {K : Value → World → Prop} (h : spec_l04Plain.vc p0 w K) : Cll Try.prog 65 #[(.pointer (some p0))] w K :=
  vcF_sound mixed (fn := Try.f65) (by kernel_rfl) (by kernel_rfl) (an := spec_l04Plain.ann) (args := [(.pointer (some p0))]) (Eq.mpr (by kernel_rfl) h)

theorem spec_l04Plain.con {s0 : D.Cur} {g1_ : Nat} {A0_0 : Option Addr} {c0_0 : Nat} {r : D.Ins × D.Cur} {w : World} (hp : M.spec_l04Plain_pre s0) (hr : r = M.spec_l04Plain s0) (O1 : Blk w g1_ 77 #[(.slice A0_0 s0.b.length c0_0), (.int .i64 s0.i), (.int .i64 s0.h)]) (R0_0 : Row el5 w A0_0 s0.b) (hc0_0 : s0.b.length ≤ c0_0) (D0_0 : s0.b ≠ [] → ∀ g, InB A0_0 g → ¬ (fun k_ => k_ = g1_) g) :
    Cll Try.prog 65 #[(.pointer (some (⟨g1_, 0, none⟩ : Addr)))] w (fun v_ w_ => v_ = (.agg #[(.int .i64 r.1.Op), (.int .i64 r.1.A), (.int .i64 r.1.B), (.int .i64 r.1.C)]) ∧ Blk w_ g1_ 77 #[(.slice A0_0 r.2.b.length c0_0), (.int .i64 r.2.i), (.int .i64 r.2.h)] ∧ r.2.b = s0.b ∧ Chg (fun k_ => k_ = g1_) w w_) := by
  have H := wp.spec_l04Plain.math s0 hp
  have hB := Chg.refl (fun k_ => k_ = g1_) w
  refine spec_l04Plain.start ?_
  unfold spec_l04Plain.vc
  unfold wp.spec_l04Plain at H
  refine newBlk (fun g3_ w21 L3 P3 e22 => ?_)
  have N1_3 := O1.ne L3
  have O1 := O1.ext e22
  have O3 := P3
  have L3 := Nat.le_trans hB.size L3
  have hB := hB.then e22
  obtain ⟨hp25, H⟩ := H
  obtain ⟨r23, hr24⟩ : ∃ r_, r_ = M.spec_l01Below s0 9 := ⟨_, rfl⟩
  have H := H r23 hr24
  refine (spec_l01Below.con hp25 hr24 O1 (R0_0.chgS hB D0_0) hc0_0 (fun hx_ => (fun g h_ hS_ => D0_0 hx_ g h_ hS_))).mono ?_
  rintro _ w26 ⟨rfl, Q1, hq28, e27⟩
  rw [hq28] at Q1
  have O3 := O3.chgS e27 ((N1_3).symm)
  have hB := hB.chg e27 (fun g h_ => Or.inr h_)
  have O1 := Q1
  refine ⟨r23.1, rfl, ?_⟩
  obtain ⟨hp31, H⟩ := H
  obtain ⟨r29, hr30⟩ : ∃ r_, r_ = M.spec_l01Below (⟨s0.b, r23.2.i, r23.2.h⟩ : D.Cur) 4 := ⟨_, rfl⟩
  have H := H r29 hr30
  refine (spec_l01Below.con hp31 hr30 O1 (R0_0.chgS hB D0_0) hc0_0 (fun hx_ => (fun g h_ hS_ => D0_0 hx_ g h_ hS_))).mono ?_
  rintro _ w32 ⟨rfl, Q1, hq34, e33⟩
  rw [hq34] at Q1
  have O3 := O3.chgS e33 ((N1_3).symm)
  have hB := hB.chg e33 (fun g h_ => Or.inr h_)
  have O1 := Q1
  refine ⟨r29.1, rfl, ?_⟩
  refine newBlk (fun g4_ w35 L4 P4 e36 => ?_)
  have N1_4 := O1.ne L4
  have N3_4 := O3.ne L4
  have O1 := O1.ext e36
  have O3 := O3.ext e36
  have O4 := P4
  have L4 := Nat.le_trans hB.size L4
  have hB := hB.then e36
  refine stBlk O4 (o := 0) (cs' := #[(.int .i64 (IntKind.wrap .i64 (1 + r23.1))), (.int .i64 r29.1), (.int .i64 0), (.int .i64 0)]) rfl rfl (Nat.le_of_ble_eq_true rfl) rfl (fun w37 P4 e38 => ?_)
  have O1_ := O1.chg e38 N1_4
  have O3_ := O3.chg e38 N3_4
  have O1 := O1_
  have O3 := O3_
  have hB := hB.chgb e38 (Or.inl L4)
  have O4 := P4
  refine ⟨_, (O4.at 0 rfl rfl), ?_⟩
  refine bcase_mk (fun hc81 => ?_) (fun hc81 => ?_)
  · have H := (bcase_iff.1 H).1 hc81
    obtain ⟨hp41, H⟩ := H
    obtain ⟨r39, hr40⟩ : ∃ r_, r_ = M.spec_l01Below (⟨s0.b, r29.2.i, r29.2.h⟩ : D.Cur) 6 := ⟨_, rfl⟩
    have H := H r39 hr40
    refine (spec_l01Below.con hp41 hr40 O1 (R0_0.chgS hB D0_0) hc0_0 (fun hx_ => (fun g h_ hS_ => D0_0 hx_ g h_ hS_))).mono ?_
    rintro _ w42 ⟨rfl, Q1, hq44, e43⟩
    rw [hq44] at Q1
    have O3 := O3.chgS e43 ((N1_3).symm)
    have O4 := O4.chgS e43 ((N1_4).symm)
    have hB := hB.chg e43 (fun g h_ => Or.inr h_)
    have O1 := Q1
    refine ⟨r39.1, rfl, ?_⟩
    refine stBlk O4 (o := 2) (cs' := #[(.int .i64 (IntKind.wrap .i64 (1 + r23.1))), (.int .i64 r29.1), (.int .i64 r39.1), (.int .i64 0)]) rfl rfl (Nat.le_of_ble_eq_true rfl) rfl (fun w45 P4 e46 => ?_)
    have O1_ := O1.chg e46 N1_4
    have O3_ := O3.chg e46 N3_4
    have O1 := O1_
    have O3 := O3_
    have hB := hB.chgb e46 (Or.inl L4)
    have O4 := P4
    refine ⟨_, (O4.at 0 rfl rfl), ?_⟩
    refine ⟨_, (O4.at 1 rfl rfl), ?_⟩
    refine ⟨_, (O4.at 2 rfl rfl), ?_⟩
    refine ⟨_, (O4.at 3 rfl rfl), ?_⟩
    refine stBlk O3 (o := 0) (cs' := #[(.int .i64 (IntKind.wrap .i64 (1 + r23.1))), (.int .i64 r29.1), (.int .i64 r39.1), (.int .i64 0)]) rfl rfl (Nat.le_of_ble_eq_true rfl) rfl (fun w47 P3 e48 => ?_)
    have O1_ := O1.chg e48 N1_3
    have O4_ := O4.chg e48 (N3_4).symm
    have O1 := O1_
    have O4 := O4_
    have hB := hB.chgb e48 (Or.inl L3)
    have O3 := P3
    refine ⟨_, (O3.at 0 rfl rfl), ?_⟩
    refine ⟨_, (O3.at 1 rfl rfl), ?_⟩
    refine ⟨_, (O3.at 2 rfl rfl), ?_⟩
    refine ⟨_, (O3.at 3 rfl rfl), ?_⟩
    obtain rfl := hr.trans H.symm
    exact ⟨rfl, O1, rfl, hB⟩
  have H := (bcase_iff.1 H).2 hc81
  refine bcase_mk (fun hc80 => ?_) (fun hc80 => ?_)
  · have H := (bcase_iff.1 H).1 hc80
    refine ⟨_, (O4.at 0 rfl rfl), ?_⟩
    refine ⟨_, (O4.at 1 rfl rfl), ?_⟩
    refine ⟨_, (O4.at 2 rfl rfl), ?_⟩
    refine ⟨_, (O4.at 3 rfl rfl), ?_⟩
    refine stBlk O3 (o := 0) (cs' := #[(.int .i64 (IntKind.wrap .i64 (1 + r23.1))), (.int .i64 r29.1), (.int .i64 0), (.int .i64 0)]) rfl rfl (Nat.le_of_ble_eq_true rfl) rfl (fun w49 P3 e50 => ?_)
    have O1_ := O1.chg e50 N1_3
    have O4_ := O4.chg e50 (N3_4).symm
    have O1 := O1_
    have O4 := O4_
    have hB := hB.chgb e50 (Or.inl L3)
    have O3 := P3
    refine ⟨_, (O3.at 0 rfl rfl), ?_⟩
    refine ⟨_, (O3.at 1 rfl rfl), ?_⟩
    refine ⟨_, (O3.at 2 rfl rfl), ?_⟩
    refine ⟨_, (O3.at 3 rfl rfl), ?_⟩
    obtain rfl := hr.trans H.symm
    exact ⟨rfl, O1, rfl, hB⟩
  have H := (bcase_iff.1 H).2 hc80
  refine bcase_mk (fun hc79 => ?_) (fun hc79 => ?_)
  · have H := (bcase_iff.1 H).1 hc79
    obtain ⟨hp53, H⟩ := H
    obtain ⟨r51, hr52⟩ : ∃ r_, r_ = M.spec_l01Below (⟨s0.b, r29.2.i, r29.2.h⟩ : D.Cur) 4 := ⟨_, rfl⟩
    have H := H r51 hr52
    refine (spec_l01Below.con hp53 hr52 O1 (R0_0.chgS hB D0_0) hc0_0 (fun hx_ => (fun g h_ hS_ => D0_0 hx_ g h_ hS_))).mono ?_
    rintro _ w54 ⟨rfl, Q1, hq56, e55⟩
    rw [hq56] at Q1
    have O3 := O3.chgS e55 ((N1_3).symm)
    have O4 := O4.chgS e55 ((N1_4).symm)
    have hB := hB.chg e55 (fun g h_ => Or.inr h_)
    have O1 := Q1
    refine ⟨r51.1, rfl, ?_⟩
    refine stBlk O4 (o := 2) (cs' := #[(.int .i64 (IntKind.wrap .i64 (1 + r23.1))), (.int .i64 r29.1), (.int .i64 r51.1), (.int .i64 0)]) rfl rfl (Nat.le_of_ble_eq_true rfl) rfl (fun w57 P4 e58 => ?_)
    have O1_ := O1.chg e58 N1_4
    have O3_ := O3.chg e58 N3_4
    have O1 := O1_
    have O3 := O3_
    have hB := hB.chgb e58 (Or.inl L4)
    have O4 := P4
    refine ⟨_, (O4.at 0 rfl rfl), ?_⟩
    refine ⟨_, (O4.at 1 rfl rfl), ?_⟩
    refine ⟨_, (O4.at 2 rfl rfl), ?_⟩
    refine ⟨_, (O4.at 3 rfl rfl), ?_⟩
    refine stBlk O3 (o := 0) (cs' := #[(.int .i64 (IntKind.wrap .i64 (1 + r23.1))), (.int .i64 r29.1), (.int .i64 r51.1), (.int .i64 0)]) rfl rfl (Nat.le_of_ble_eq_true rfl) rfl (fun w59 P3 e60 => ?_)
    have O1_ := O1.chg e60 N1_3
    have O4_ := O4.chg e60 (N3_4).symm
    have O1 := O1_
    have O4 := O4_
    have hB := hB.chgb e60 (Or.inl L3)
    have O3 := P3
    refine ⟨_, (O3.at 0 rfl rfl), ?_⟩
    refine ⟨_, (O3.at 1 rfl rfl), ?_⟩
    refine ⟨_, (O3.at 2 rfl rfl), ?_⟩
    refine ⟨_, (O3.at 3 rfl rfl), ?_⟩
    obtain rfl := hr.trans H.symm
    exact ⟨rfl, O1, rfl, hB⟩
  have H := (bcase_iff.1 H).2 hc79
  obtain ⟨hp63, H⟩ := H
  obtain ⟨r61, hr62⟩ : ∃ r_, r_ = M.spec_l01Below (⟨s0.b, r29.2.i, r29.2.h⟩ : D.Cur) 4 := ⟨_, rfl⟩
  have H := H r61 hr62
  refine (spec_l01Below.con hp63 hr62 O1 (R0_0.chgS hB D0_0) hc0_0 (fun hx_ => (fun g h_ hS_ => D0_0 hx_ g h_ hS_))).mono ?_
  rintro _ w64 ⟨rfl, Q1, hq66, e65⟩
  rw [hq66] at Q1
  have O3 := O3.chgS e65 ((N1_3).symm)
  have O4 := O4.chgS e65 ((N1_4).symm)
  have hB := hB.chg e65 (fun g h_ => Or.inr h_)
  have O1 := Q1
  refine ⟨r61.1, rfl, ?_⟩
  refine stBlk O4 (o := 2) (cs' := #[(.int .i64 (IntKind.wrap .i64 (1 + r23.1))), (.int .i64 r29.1), (.int .i64 r61.1), (.int .i64 0)]) rfl rfl (Nat.le_of_ble_eq_true rfl) rfl (fun w67 P4 e68 => ?_)
  have O1_ := O1.chg e68 N1_4
  have O3_ := O3.chg e68 N3_4
  have O1 := O1_
  have O3 := O3_
  have hB := hB.chgb e68 (Or.inl L4)
  have O4 := P4
  obtain ⟨hp71, H⟩ := H
  obtain ⟨r69, hr70⟩ : ∃ r_, r_ = M.spec_l01Below (⟨s0.b, r61.2.i, r61.2.h⟩ : D.Cur) 4 := ⟨_, rfl⟩
  have H := H r69 hr70
  refine (spec_l01Below.con hp71 hr70 O1 (R0_0.chgS hB D0_0) hc0_0 (fun hx_ => (fun g h_ hS_ => D0_0 hx_ g h_ hS_))).mono ?_
  rintro _ w72 ⟨rfl, Q1, hq74, e73⟩
  rw [hq74] at Q1
  have O3 := O3.chgS e73 ((N1_3).symm)
  have O4 := O4.chgS e73 ((N1_4).symm)
  have hB := hB.chg e73 (fun g h_ => Or.inr h_)
  have O1 := Q1
  refine ⟨r69.1, rfl, ?_⟩
  refine stBlk O4 (o := 3) (cs' := #[(.int .i64 (IntKind.wrap .i64 (1 + r23.1))), (.int .i64 r29.1), (.int .i64 r61.1), (.int .i64 r69.1)]) rfl rfl (Nat.le_of_ble_eq_true rfl) rfl (fun w75 P4 e76 => ?_)
  have O1_ := O1.chg e76 N1_4
  have O3_ := O3.chg e76 N3_4
  have O1 := O1_
  have O3 := O3_
  have hB := hB.chgb e76 (Or.inl L4)
  have O4 := P4
  refine ⟨_, (O4.at 0 rfl rfl), ?_⟩
  refine ⟨_, (O4.at 1 rfl rfl), ?_⟩
  refine ⟨_, (O4.at 2 rfl rfl), ?_⟩
  refine ⟨_, (O4.at 3 rfl rfl), ?_⟩
  refine stBlk O3 (o := 0) (cs' := #[(.int .i64 (IntKind.wrap .i64 (1 + r23.1))), (.int .i64 r29.1), (.int .i64 r61.1), (.int .i64 r69.1)]) rfl rfl (Nat.le_of_ble_eq_true rfl) rfl (fun w77 P3 e78 => ?_)
  have O1_ := O1.chg e78 N1_3
  have O4_ := O4.chg e78 (N3_4).symm
  have O1 := O1_
  have O4 := O4_
  have hB := hB.chgb e78 (Or.inl L3)
  have O3 := P3
  refine ⟨_, (O3.at 0 rfl rfl), ?_⟩
  refine ⟨_, (O3.at 1 rfl rfl), ?_⟩
  refine ⟨_, (O3.at 2 rfl rfl), ?_⟩
  refine ⟨_, (O3.at 3 rfl rfl), ?_⟩
  obtain rfl := hr.trans H.symm
  exact ⟨rfl, O1, rfl, hB⟩
def spec_DrawPlaces.vc (A0 : Option Addr) (n0 : Nat) (c0 : Nat) (w : World) (K : Value → World → Prop) : Prop :=
  Cll Try.prog 23 #[(.slice A0 n0 c0)] w fun v21 w22 => (∃ (p23 : Addr), v21 = (.pointer (some p23)) ∧ Run Try.prog (Instr.buildSlice 26 0 #[]) w22 fun v24 w25 => ∃ (A26 : Option Addr) (n27 c28 : Nat), v24 = .slice A26 n27 c28 ∧ LoopT (σ := (Option Addr × Nat × Nat) × Int × Unit) (fun z29 w30 next31 => bcase (decide (z29.2.1 < 12)) (Cll Try.prog 24 #[(.pointer (some p23)), (.int .i64 10000)] w30 fun v32 w33 => (∃ (n34 : Int), v32 = (.int .i64 n34) ∧ Run Try.prog (Instr.buildSlice 26 1 #[(0, (.int .i64 n34))]) w33 fun v35 w36 => ∃ (A37 : Option Addr) (n38 c39 : Nat), v35 = .slice A37 n38 c39 ∧ Run Try.prog (Builtin.append_ #[26, 26] 26 #[(.slice z29.1.1 z29.1.2.1 z29.1.2.2), (.slice A37 n38 c39)]) w36 fun v40 w41 => ∃ (A42 : Option Addr) (n43 c44 : Nat), v40 = .slice A42 n43 c44 ∧ next31 ((A42, n43, c44), (IntKind.wrap .i64 (z29.2.1 + 1)), ()) w41)) (K (.slice z29.1.1 z29.1.2.1 z29.1.2.2) w30)) ((A26, n27, c28), 0, ()) w25)

def spec_DrawPlaces.ann : Ann := (.seq .l (.seq .l (.seq .l (.seq (.seq .l (.one (.loop [(4, .sl), (5, .int .i64)] (.seq (.seq .l (.two .l .l)) (.seq (.one .l) .l))))) (.seq .l .l)))))

theorem spec_DrawPlaces.start {A0 : Option Addr} {n0 : Nat} {c0 : Nat} {w : World} {K : Value → World → Prop} (h : spec_DrawPlaces.vc A0 n0 c0 w K) : Cll Try.prog 8 #[(.slice A0 n0 c0)] w K :=
  vcF_sound mixed (fn := Try.f8) (by kernel_rfl) (by kernel_rfl) (an := spec_DrawPlaces.ann) (args := [(.slice A0 n0 c0)]) (Eq.mpr (by kernel_rfl) h)

theorem spec_DrawPlaces.con {xs0 : List Int} {A0 : Option Addr} {c0 : Nat} {r : List Int} {w : World} (hp : M.spec_DrawPlaces_pre xs0) (hr : r = M.spec_DrawPlaces xs0) (R0 : Row el5 w A0 xs0) (hc0 : xs0.length ≤ c0) :
    Cll Try.prog 8 #[(.slice A0 xs0.length c0)] w (fun v_ w_ => ∃ (A0_ : Option Addr) (c0_ : Nat), v_ = (.slice A0_ r.length c0_) ∧ Own el3 w_ w.heap.size A0_ c0_ r ∧ Ext w w_) := by
  have H := wp.spec_DrawPlaces.math xs0 hp
  have hB := Ext.refl w
  refine spec_DrawPlaces.start ?_
  unfold spec_DrawPlaces.vc
  unfold wp.spec_DrawPlaces at H
  obtain ⟨hp23, H⟩ := H
  obtain ⟨r21, hr22⟩ : ∃ r_, r_ = M.spec_l01New xs0 := ⟨_, rfl⟩
  have H := H r21 hr22
  refine (spec_l01New.con hp23 hr22 (R0.ext hB) hc0).mono ?_
  rintro _ w24 ⟨g2_, rfl, P2, hq26, L2, e25⟩
  rw [hq26] at P2
  have L2 := Nat.le_trans hB.size L2
  have O2 := P2
  have hB := ethen hB e25
  refine ⟨(⟨g2_, 0, none⟩ : Addr), rfl, ?_⟩
  refine buildOwn el3 ([] : List Int) (fun _ => by kernel_rfl) rfl (fun A27 w28 P3 e29 => ?_)
  have N3_2 := P3.apart_old O2.lt
  have O2 := O2.ext e29
  have O3 := P3.mono hB.size
  have hB := ethen hB e29
  obtain ⟨J60, ⟨m84, hJ83⟩, hS61⟩ := H
  refine ⟨fun m_ z_ w_ => ∃ (xs53 : List Int) (i56 : Int) (i57 : Int) (i58 : Int) (A54 : Option Addr) (c55 : Nat), z_ = ((A54, xs53.length, c55), i56, ()) ∧ J60 m_ (xs53, i56, i57, i58, ()) ∧ Ext w w_ ∧ Own el3 w_ w.heap.size A54 c55 xs53 ∧ Blk w_ g2_ 77 #[(.slice A0 xs0.length c0), (.int .i64 i57), (.int .i64 i58)], ⟨m84, ([] : List Int), 0, r21.i, r21.h, A27, 0, rfl, hJ83, hB, O3, O2⟩, ?_⟩
  rintro m59 _ w63 ⟨xs53, i56, i57, i58, A54, c55, rfl, hJ85, hB, O6, O2⟩
  have H := hS61 m59 _ hJ85
  clear hS61 hJ85
  try dsimp only at H ⊢
  refine bcase_mk (fun hc81 => ?_) (fun hc81 => ?_)
  · have H := (bcase_iff.1 H).1 hc81
    obtain ⟨hp66, H⟩ := H
    obtain ⟨r64, hr65⟩ : ∃ r_, r_ = M.spec_l01Below (⟨xs0, i57, i58⟩ : D.Cur) 10000 := ⟨_, rfl⟩
    have H := H r64 hr65
    refine (spec_l01Below.con hp66 hr65 O2 (R0.ext hB) hc0 (fun hx_ => (fun g h_ hS_ => Nat.not_le.2 (R0.old hx_ g h_) (box_low L2 _ hS_)))).mono ?_
    rintro _ w67 ⟨rfl, Q2, hq69, e68⟩
    rw [hq69] at Q2
    have O6 := O6.chgS e68 (box_inb (O6.apart_type O2 (by decide)))
    have hB := Chg.ext hB e68 (box_low L2)
    have O2 := Q2
    refine ⟨r64.1, rfl, ?_⟩
    refine buildOwn el3 ([r64.1] : List Int) (fun _ => by kernel_rfl) rfl (fun A70 w71 P7 e72 => ?_)
    have N7_2 := P7.apart_old O2.lt
    have N6_7 := Own.apart2_new O6 P7 (Nat.le_refl _)
    have O2 := O2.ext e72
    have O6 := O6.ext e72
    have O7 := P7.mono hB.size
    have hB := ethen hB e72
    obtain ⟨hl77, H⟩ := H
    refine appOwn slt26 slt26.under O6 O7.row hB.size rfl (by first | rfl | omega | (simp; done) | (simp; omega)) hl77 (fun A73 c74 w75 P6 e76 => ?_)
    have N6_2_ := Apart.app (O6.apart_type O2 (by decide)) e76 O2.lt
    have O2 := O2.app e76 (O6.apart_type O2 (by decide))
    have N7_6_ := Apart2.app (N6_7).symm e76 O7
    have O7 := O7.app e76 (N6_7).symm
    have N6_2 := N6_2_
    have N7_6 := N7_6_
    have hB := eapp hB e76 O6
    have O6 := P6
    obtain ⟨m78, hm79, hJ80⟩ := H
    exact ⟨m78, hm79, (xs53 ++ ([r64.1] : List Int)), (IntKind.wrap .i64 (i56 + 1)), r64.2.i, r64.2.h, A73, c74, rfl, hJ80, hB, O6, O2⟩
  have H := (bcase_iff.1 H).2 hc81
  obtain rfl := hr.trans H.symm
  exact ⟨A54, c55, rfl, O6, hB⟩
def laws_big.vc (A0 : Option Addr) (n0 : Nat) (c0 : Nat) (w : World) (K : Value → World → Prop) : Prop :=
  K (.bool (decide (((n0 : Nat) : Int) > 1048576))) w

def laws_big.ann : Ann := (.seq .l (.seq .l .l))

theorem laws_big.start {A0 : Option Addr} {n0 : Nat} {c0 : Nat} {w : World} {K : Value → World → Prop} (h : laws_big.vc A0 n0 c0 w K) : Cll Try.prog 6 #[(.slice A0 n0 c0)] w K :=
  vcF_sound mixed (fn := Try.f6) (by kernel_rfl) (by kernel_rfl) (an := laws_big.ann) (args := [(.slice A0 n0 c0)]) (Eq.mpr (by kernel_rfl) h)

theorem laws_big.con {xs0 : List Int} {A0 : Option Addr} {c0 : Nat} {r : Bool} {w : World} (hr : r = M.laws_big xs0) (R0 : Row el5 w A0 xs0) (hc0 : xs0.length ≤ c0) :
    Cll Try.prog 6 #[(.slice A0 xs0.length c0)] w (fun v_ w_ => v_ = (.bool r) ∧ Ext w w_) := by
  have H := wp.laws_big.math xs0
  have hB := Ext.refl w
  refine laws_big.start ?_
  unfold laws_big.vc
  unfold wp.laws_big at H
  obtain rfl := hr.trans H.symm
  exact ⟨rfl, hB⟩
def impl_areAllRegs.vc (A0 : Option Addr) (n0 : Nat) (c0 : Nat) (w : World) (K : Value → World → Prop) : Prop :=
  K (.bool (((n0 : Nat) : Int) == 32)) w

def impl_areAllRegs.ann : Ann := (.seq .l (.seq .l .l))

theorem impl_areAllRegs.start {A0 : Option Addr} {n0 : Nat} {c0 : Nat} {w : World} {K : Value → World → Prop} (h : impl_areAllRegs.vc A0 n0 c0 w K) : Cll Try.prog 67 #[(.slice A0 n0 c0)] w K :=
  vcF_sound mixed (fn := Try.f67) (by kernel_rfl) (by kernel_rfl) (an := impl_areAllRegs.ann) (args := [(.slice A0 n0 c0)]) (Eq.mpr (by kernel_rfl) h)

theorem impl_areAllRegs.con {xs0 : List Int} {A0 : Option Addr} {c0 : Nat} {r : Bool} {w : World} (hr : r = M.impl_areAllRegs xs0) (R0 : Row el3 w A0 xs0) (hc0 : xs0.length ≤ c0) :
    Cll Try.prog 67 #[(.slice A0 xs0.length c0)] w (fun v_ w_ => v_ = (.bool r) ∧ Ext w w_) := by
  have H := wp.impl_areAllRegs.math xs0
  have hB := Ext.refl w
  refine impl_areAllRegs.start ?_
  unfold impl_areAllRegs.vc
  unfold wp.impl_areAllRegs at H
  obtain rfl := hr.trans H.symm
  exact ⟨rfl, hB⟩
def impl_areFrames.vc (A0 : Option Addr) (n0 : Nat) (c0 : Nat) (x1 : Int) (w : World) (K : Value → World → Prop) : Prop :=
  LoopT (σ := Int × Unit) (fun z21 w22 next23 => bcase (decide (z21.1 < ((n0 : Nat) : Int))) (((0 : Int) ≤ z21.1 ∧ z21.1 < ((n0 : Nat) : Int) ∧ ∃ a24 : Addr, A0 = some a24 ∧ ∃ (n25 : Int), w22.cell? ((a24.add ((z21.1.toNat) * 3)).add 0) = some (.int .i64 n25) ∧ ∃ (n26 : Int), w22.cell? ((a24.add ((z21.1.toNat) * 3)).add 1) = some (.int .i64 n26) ∧ ∃ (n27 : Int), w22.cell? ((a24.add ((z21.1.toNat) * 3)).add 2) = some (.int .i64 n27) ∧ newK w22 (.cells #[(.int .i64 0), (.int .i64 0), (.int .i64 0)] 81) fun g28 w29 => stCells (⟨g28, 0, none⟩ : Addr) [(.int .i64 n25), (.int .i64 n26), (.int .i64 n27)] 0 w29 fun w30 => ∃ (n31 : Int), w30.cell? (((⟨g28, 0, none⟩ : Addr).add 0).add 0) = some (.int .i64 n31) ∧ Cll Try.prog 33 #[(.int .i64 n31), (.int .i64 0), (.int .i64 x1)] w30 fun v32 w33 => (∃ (b34 : Bool), v32 = (.bool b34) ∧ bcase (!b34) (K (.bool false) w33) (∃ (n35 : Int), w33.cell? (((⟨g28, 0, none⟩ : Addr).add 1).add 0) = some (.int .i64 n35) ∧ Cll Try.prog 33 #[(.int .i64 n35), (.int .i64 0), (.int .i64 x1)] w33 fun v36 w37 => (∃ (b38 : Bool), v36 = (.bool b38) ∧ bcase (!b38) (K (.bool false) w37) (∃ (n39 : Int), w37.cell? (((⟨g28, 0, none⟩ : Addr).add 2).add 0) = some (.int .i64 n39) ∧ Cll Try.prog 82 #[(.int .i64 n39)] w37 fun v40 w41 => (∃ (b42 : Bool), v40 = (.bool b42) ∧ bcase (!b42) (K (.bool false) w41) (∃ (n43 : Int), w41.cell? (((⟨g28, 0, none⟩ : Addr).add 2).add 0) = some (.int .i64 n43) ∧ bcase (n43 == 0) (K (.bool false) w41) (next23 ((IntKind.wrap .i64 (z21.1 + 1)), ()) w41))))))))) (bcase (((n0 : Nat) : Int) == 0) (K (.bool true) w22) (((0 : Int) ≤ (IntKind.wrap .i64 (((n0 : Nat) : Int) - 1)) ∧ (IntKind.wrap .i64 (((n0 : Nat) : Int) - 1)) < ((n0 : Nat) : Int) ∧ ∃ a44 : Addr, A0 = some a44 ∧ ∃ (n45 : Int), w22.cell? ((a44.add (((IntKind.wrap .i64 (((n0 : Nat) : Int) - 1)).toNat) * 3)).add 0) = some (.int .i64 n45) ∧ ∃ (n46 : Int), w22.cell? ((a44.add (((IntKind.wrap .i64 (((n0 : Nat) : Int) - 1)).toNat) * 3)).add 1) = some (.int .i64 n46) ∧ ∃ (n47 : Int), w22.cell? ((a44.add (((IntKind.wrap .i64 (((n0 : Nat) : Int) - 1)).toNat) * 3)).add 2) = some (.int .i64 n47) ∧ newK w22 (.cells #[(.int .i64 0), (.int .i64 0), (.int .i64 0)] 81) fun g48 w49 => stCells (⟨g48, 0, none⟩ : Addr) [(.int .i64 n45), (.int .i64 n46), (.int .i64 n47)] 0 w49 fun w50 => bcase (decide (((n0 : Nat) : Int) ≤ 24)) (∃ (n51 : Int), w50.cell? (((⟨g48, 0, none⟩ : Addr).add 0).add 0) = some (.int .i64 n51) ∧ ∃ (n52 : Int), w50.cell? (((⟨g48, 0, none⟩ : Addr).add 1).add 0) = some (.int .i64 n52) ∧ bcase (n51 != n52) (∃ (n53 : Int), w50.cell? (((⟨g48, 0, none⟩ : Addr).add 0).add 0) = some (.int .i64 n53) ∧ bcase (n53 != x1) (((0 : Int) ≤ 0 ∧ 0 < ((n0 : Nat) : Int) ∧ ∃ a54 : Addr, A0 = some a54 ∧ ∃ (n55 : Int), w50.cell? (((a54.add (((0 : Int).toNat) * 3)).add 1).add 0) = some (.int .i64 n55) ∧ bcase (n55 == x1) (((0 : Int) ≤ 0 ∧ 0 < ((n0 : Nat) : Int) ∧ ∃ a56 : Addr, A0 = some a56 ∧ ∃ (n57 : Int), w50.cell? (((a56.add (((0 : Int).toNat) * 3)).add 2).add 0) = some (.int .i64 n57) ∧ K (.bool (n57 == 255)) w50)) (K (.bool false) w50))) (K (.bool false) w50)) (K (.bool false) w50)) (K (.bool false) w50))))) (0, ()) w

def impl_areFrames.ann : Ann := (.seq .l (.seq (.seq .l (.one (.loop [(10, .int .i64)] (.seq .l (.seq (.two .l .l) (.seq (.one (.seq .l (.seq .l (.two (.seq .l .l) .l)))) .l)))))) (.seq (.seq .l (.two (.seq .l .l) .l)) (.seq .l (.seq .l .l)))))

theorem impl_areFrames.start {A0 : Option Addr} {n0 : Nat} {c0 : Nat} {x1 : Int} {w : World} {K : Value → World → Prop} (h : impl_areFrames.vc A0 n0 c0 x1 w K) : Cll Try.prog 68 #[(.slice A0 n0 c0), (.int .i64 x1)] w K :=
  vcF_sound mixed (fn := Try.f68) (by kernel_rfl) (by kernel_rfl) (an := impl_areFrames.ann) (args := [(.slice A0 n0 c0), (.int .i64 x1)]) (Eq.mpr (by kernel_rfl) h)

theorem impl_areFrames.con {xs0 : List D.Frame} {A0 : Option Addr} {c0 : Nat} {x1 : Int} {r : Bool} {w : World} (hp : M.impl_areFrames_pre xs0 x1) (hr : r = M.impl_areFrames xs0 x1) (R0 : Row el81 w A0 xs0) (hc0 : xs0.length ≤ c0) :
    Cll Try.prog 68 #[(.slice A0 xs0.length c0), (.int .i64 x1)] w (fun v_ w_ => v_ = (.bool r) ∧ Ext w w_) := by
  have H := wp.impl_areFrames.math xs0 x1 hp
  have hB := Ext.refl w
  refine impl_areFrames.start ?_
  unfold impl_areFrames.vc
  unfold wp.impl_areFrames at H
  obtain ⟨J23, ⟨m85, hJ84⟩, hS24⟩ := H
  refine ⟨fun m_ z_ w_ => ∃ (i21 : Int), z_ = (i21, ()) ∧ J23 m_ (i21, ()) ∧ Ext w w_, ⟨m85, 0, rfl, hJ84, hB⟩, ?_⟩
  rintro m22 _ w26 ⟨i21, rfl, hJ86, hB⟩
  have H := hS24 m22 _ hJ86
  clear hS24 hJ86
  try dsimp only at H ⊢
  refine bcase_mk (fun hc82 => ?_) (fun hc82 => ?_)
  · have H := (bcase_iff.1 H).1 hc82
    obtain ⟨⟨h0_30, h1_31⟩, H⟩ := H
    obtain ⟨a28, ha29, hat27⟩ := Row.at (R0.ext hB) h0_30 h1_31
    refine ⟨h0_30, h1_31, a28, ha29, ?_⟩
    refine ⟨_, (hat27 0 _ rfl), ?_⟩
    refine ⟨_, (hat27 1 _ rfl), ?_⟩
    refine ⟨_, (hat27 2 _ rfl), ?_⟩
    refine newBlk (fun g2_ w32 L2 P2 e33 => ?_)
    have O2 := P2
    have L2 := Nat.le_trans hB.size L2
    have hB := ethen hB e33
    refine stBlk O2 (o := 0) (cs' := #[(.int .i64 ((rd xs0 i21).Pc)), (.int .i64 ((rd xs0 i21).Stop)), (.int .i64 ((rd xs0 i21).Mask))]) rfl rfl (Nat.le_of_ble_eq_true rfl) rfl (fun w34 P2 e35 => ?_)
    have hB := echg hB e35 L2
    have O2 := P2
    refine ⟨_, (O2.at 0 rfl rfl), ?_⟩
    obtain ⟨r36, hr37⟩ : ∃ r_, r_ = M.impl_within ((rd xs0 i21).Pc) 0 x1 := ⟨_, rfl⟩
    have H := H r36 hr37
    refine (impl_within.con hr37 ).mono ?_
    rintro _ w39 ⟨rfl, e40⟩
    have O2 := O2.ext e40
    have hB := ethen hB e40
    refine ⟨r36, rfl, ?_⟩
    refine bcase_mk (fun hc57 => ?_) (fun hc57 => ?_)
    · have H := (bcase_iff.1 H).1 hc57
      obtain rfl := hr.trans H.symm
      exact ⟨rfl, hB⟩
    have H := (bcase_iff.1 H).2 hc57
    refine ⟨_, (O2.at 1 rfl rfl), ?_⟩
    obtain ⟨r41, hr42⟩ : ∃ r_, r_ = M.impl_within ((rd xs0 i21).Stop) 0 x1 := ⟨_, rfl⟩
    have H := H r41 hr42
    refine (impl_within.con hr42 ).mono ?_
    rintro _ w44 ⟨rfl, e45⟩
    have O2 := O2.ext e45
    have hB := ethen hB e45
    refine ⟨r41, rfl, ?_⟩
    refine bcase_mk (fun hc56 => ?_) (fun hc56 => ?_)
    · have H := (bcase_iff.1 H).1 hc56
      obtain rfl := hr.trans H.symm
      exact ⟨rfl, hB⟩
    have H := (bcase_iff.1 H).2 hc56
    refine ⟨_, (O2.at 2 rfl rfl), ?_⟩
    obtain ⟨r46, hr47⟩ : ∃ r_, r_ = M.impl_IsMask ((rd xs0 i21).Mask) := ⟨_, rfl⟩
    have H := H r46 hr47
    refine (impl_IsMask.con hr47 ).mono ?_
    rintro _ w49 ⟨rfl, e50⟩
    have O2 := O2.ext e50
    have hB := ethen hB e50
    refine ⟨r46, rfl, ?_⟩
    refine bcase_mk (fun hc55 => ?_) (fun hc55 => ?_)
    · have H := (bcase_iff.1 H).1 hc55
      obtain rfl := hr.trans H.symm
      exact ⟨rfl, hB⟩
    have H := (bcase_iff.1 H).2 hc55
    refine ⟨_, (O2.at 2 rfl rfl), ?_⟩
    refine bcase_mk (fun hc54 => ?_) (fun hc54 => ?_)
    · have H := (bcase_iff.1 H).1 hc54
      obtain rfl := hr.trans H.symm
      exact ⟨rfl, hB⟩
    have H := (bcase_iff.1 H).2 hc54
    obtain ⟨m51, hm52, hJ53⟩ := H
    exact ⟨m51, hm52, (IntKind.wrap .i64 (i21 + 1)), rfl, hJ53, hB⟩
  have H := (bcase_iff.1 H).2 hc82
  refine bcase_mk (fun hc81 => ?_) (fun hc81 => ?_)
  · have H := (bcase_iff.1 H).1 hc81
    obtain rfl := hr.trans H.symm
    exact ⟨rfl, hB⟩
  have H := (bcase_iff.1 H).2 hc81
  obtain ⟨⟨h0_61, h1_62⟩, H⟩ := H
  obtain ⟨a59, ha60, hat58⟩ := Row.at (R0.ext hB) h0_61 h1_62
  refine ⟨h0_61, h1_62, a59, ha60, ?_⟩
  refine ⟨_, (hat58 0 _ rfl), ?_⟩
  refine ⟨_, (hat58 1 _ rfl), ?_⟩
  refine ⟨_, (hat58 2 _ rfl), ?_⟩
  refine newBlk (fun g3_ w63 L3 P3 e64 => ?_)
  have O3 := P3
  have L3 := Nat.le_trans hB.size L3
  have hB := ethen hB e64
  refine stBlk O3 (o := 0) (cs' := #[(.int .i64 ((rd xs0 (IntKind.wrap .i64 (((xs0.length : Nat) : Int) - 1))).Pc)), (.int .i64 ((rd xs0 (IntKind.wrap .i64 (((xs0.length : Nat) : Int) - 1))).Stop)), (.int .i64 ((rd xs0 (IntKind.wrap .i64 (((xs0.length : Nat) : Int) - 1))).Mask))]) rfl rfl (Nat.le_of_ble_eq_true rfl) rfl (fun w65 P3 e66 => ?_)
  have hB := echg hB e66 L3
  have O3 := P3
  refine bcase_mk (fun hc80 => ?_) (fun hc80 => ?_)
  · have H := (bcase_iff.1 H).1 hc80
    refine ⟨_, (O3.at 0 rfl rfl), ?_⟩
    refine ⟨_, (O3.at 1 rfl rfl), ?_⟩
    refine bcase_mk (fun hc79 => ?_) (fun hc79 => ?_)
    · have H := (bcase_iff.1 H).1 hc79
      refine ⟨_, (O3.at 0 rfl rfl), ?_⟩
      refine bcase_mk (fun hc78 => ?_) (fun hc78 => ?_)
      · have H := (bcase_iff.1 H).1 hc78
        obtain ⟨⟨h0_70, h1_71⟩, H⟩ := H
        obtain ⟨a68, ha69, hat67⟩ := Row.at (R0.ext hB) h0_70 h1_71
        refine ⟨h0_70, h1_71, a68, ha69, ?_⟩
        refine ⟨_, (hat67 1 _ rfl), ?_⟩
        refine bcase_mk (fun hc77 => ?_) (fun hc77 => ?_)
        · have H := (bcase_iff.1 H).1 hc77
          obtain ⟨⟨h0_75, h1_76⟩, H⟩ := H
          obtain ⟨a73, ha74, hat72⟩ := Row.at (R0.ext hB) h0_75 h1_76
          refine ⟨h0_75, h1_76, a73, ha74, ?_⟩
          refine ⟨_, (hat72 2 _ rfl), ?_⟩
          obtain rfl := hr.trans H.symm
          exact ⟨rfl, hB⟩
        have H := (bcase_iff.1 H).2 hc77
        obtain rfl := hr.trans H.symm
        exact ⟨rfl, hB⟩
      have H := (bcase_iff.1 H).2 hc78
      obtain rfl := hr.trans H.symm
      exact ⟨rfl, hB⟩
    have H := (bcase_iff.1 H).2 hc79
    obtain rfl := hr.trans H.symm
    exact ⟨rfl, hB⟩
  have H := (bcase_iff.1 H).2 hc80
  obtain rfl := hr.trans H.symm
  exact ⟨rfl, hB⟩
def impl_isWarpOf.vc (A0 : Option Addr) (n0 : Nat) (c0 : Nat) (x1_0 : Int) (A1_1 : Option Addr) (n1_1 : Nat) (c1_1 : Nat) (A1_2 : Option Addr) (n1_2 : Nat) (c1_2 : Nat) (w : World) (K : Value → World → Prop) : Prop :=
  newK w (.cells #[(.int .i64 x1_0), (.slice A1_1 n1_1 c1_1), (.slice A1_2 n1_2 c1_2)] 30) fun g21 w22 => ∃ (n23 : Int), w22.cell? (((⟨g21, 0, none⟩ : Addr).add 0).add 0) = some (.int .i64 n23) ∧ Cll Try.prog 25 #[(.int .i64 n23)] w22 fun v24 w25 => (∃ (b26 : Bool), v24 = (.bool b26) ∧ bcase b26 (∃ (A27 : Option Addr) (n28 : Nat) (c29 : Nat), w25.cell? (((⟨g21, 0, none⟩ : Addr).add 2).add 0) = some (.slice A27 n28 c29) ∧ Cll Try.prog 67 #[(.slice A27 n28 c29)] w25 fun v30 w31 => (∃ (b32 : Bool), v30 = (.bool b32) ∧ bcase b32 (∃ (A33 : Option Addr) (n34 : Nat) (c35 : Nat), w31.cell? (((⟨g21, 0, none⟩ : Addr).add 2).add 0) = some (.slice A33 n34 c35) ∧ Cll Try.prog 66 #[(.slice A33 n34 c35)] w31 fun v36 w37 => (∃ (b38 : Bool), v36 = (.bool b38) ∧ bcase b38 (∃ (A39 : Option Addr) (n40 : Nat) (c41 : Nat), w37.cell? (((⟨g21, 0, none⟩ : Addr).add 1).add 0) = some (.slice A39 n40 c41) ∧ Cll Try.prog 68 #[(.slice A39 n40 c41), (.int .i64 ((n0 : Nat) : Int))] w37 fun v42 w43 => (∃ (b44 : Bool), v42 = (.bool b44) ∧ K (.bool b44) w43)) (K (.bool false) w37))) (K (.bool false) w31))) (K (.bool false) w25))

def impl_isWarpOf.ann : Ann := (.seq .l (.seq .l .l))

theorem impl_isWarpOf.start {A0 : Option Addr} {n0 : Nat} {c0 : Nat} {x1_0 : Int} {A1_1 : Option Addr} {n1_1 : Nat} {c1_1 : Nat} {A1_2 : Option Addr} {n1_2 : Nat} {c1_2 : Nat} {w : World} {K : Value → World → Prop} (h : impl_isWarpOf.vc A0 n0 c0 x1_0 A1_1 n1_1 c1_1 A1_2 n1_2 c1_2 w K) : Cll Try.prog 46 #[(.slice A0 n0 c0), (.agg #[(.int .i64 x1_0), (.slice A1_1 n1_1 c1_1), (.slice A1_2 n1_2 c1_2)])] w K :=
  vcF_sound mixed (fn := Try.f46) (by kernel_rfl) (by kernel_rfl) (an := impl_isWarpOf.ann) (args := [(.slice A0 n0 c0), (.agg #[(.int .i64 x1_0), (.slice A1_1 n1_1 c1_1), (.slice A1_2 n1_2 c1_2)])]) (Eq.mpr (by kernel_rfl) h)

theorem impl_isWarpOf.con {xs0 : List D.Ins} {A0 : Option Addr} {c0 : Nat} {s1 : D.Warp} {A1_1 : Option Addr} {c1_1 : Nat} {A1_2 : Option Addr} {c1_2 : Nat} {r : Bool} {w : World} (hp : M.impl_isWarpOf_pre xs0 s1) (hr : r = M.impl_isWarpOf xs0 s1) (R0 : Row el60 w A0 xs0) (hc0 : xs0.length ≤ c0) (R1_1 : Row el81 w A1_1 s1.Frames) (hc1_1 : s1.Frames.length ≤ c1_1) (R1_2 : Row el3 w A1_2 s1.Regs) (hc1_2 : s1.Regs.length ≤ c1_2) :
    Cll Try.prog 46 #[(.slice A0 xs0.length c0), (.agg #[(.int .i64 s1.Number), (.slice A1_1 s1.Frames.length c1_1), (.slice A1_2 s1.Regs.length c1_2)])] w (fun v_ w_ => v_ = (.bool r) ∧ Ext w w_) := by
  have H := wp.impl_isWarpOf.math xs0 s1 hp
  have hB := Ext.refl w
  refine impl_isWarpOf.start ?_
  unfold impl_isWarpOf.vc
  unfold wp.impl_isWarpOf at H
  refine newBlk (fun g4_ w21 L4 P4 e22 => ?_)
  have O4 := P4
  have L4 := Nat.le_trans hB.size L4
  have hB := ethen hB e22
  refine ⟨_, (O4.at 0 rfl rfl), ?_⟩
  obtain ⟨r23, hr24⟩ : ∃ r_, r_ = M.impl_isWarpNumber s1.Number := ⟨_, rfl⟩
  have H := H r23 hr24
  refine (impl_isWarpNumber.con hr24 ).mono ?_
  rintro _ w26 ⟨rfl, e27⟩
  have O4 := O4.ext e27
  have hB := ethen hB e27
  refine ⟨r23, rfl, ?_⟩
  refine bcase_mk (fun hc45 => ?_) (fun hc45 => ?_)
  · have H := (bcase_iff.1 H).1 hc45
    refine ⟨_, _, _, (O4.at 2 rfl rfl), ?_⟩
    obtain ⟨r28, hr29⟩ : ∃ r_, r_ = M.impl_areAllRegs s1.Regs := ⟨_, rfl⟩
    have H := H r28 hr29
    refine (impl_areAllRegs.con hr29 (R1_2.ext hB) hc1_2).mono ?_
    rintro _ w31 ⟨rfl, e32⟩
    have O4 := O4.ext e32
    have hB := ethen hB e32
    refine ⟨r28, rfl, ?_⟩
    refine bcase_mk (fun hc44 => ?_) (fun hc44 => ?_)
    · have H := (bcase_iff.1 H).1 hc44
      refine ⟨_, _, _, (O4.at 2 rfl rfl), ?_⟩
      obtain ⟨hp35, H⟩ := H
      obtain ⟨r33, hr34⟩ : ∃ r_, r_ = M.impl_AreWords s1.Regs := ⟨_, rfl⟩
      have H := H r33 hr34
      refine (impl_AreWords.con hp35 hr34 (R1_2.ext hB) hc1_2).mono ?_
      rintro _ w36 ⟨rfl, e37⟩
      have O4 := O4.ext e37
      have hB := ethen hB e37
      refine ⟨r33, rfl, ?_⟩
      refine bcase_mk (fun hc43 => ?_) (fun hc43 => ?_)
      · have H := (bcase_iff.1 H).1 hc43
        refine ⟨_, _, _, (O4.at 1 rfl rfl), ?_⟩
        obtain ⟨hp40, H⟩ := H
        obtain ⟨r38, hr39⟩ : ∃ r_, r_ = M.impl_areFrames s1.Frames ((xs0.length : Nat) : Int) := ⟨_, rfl⟩
        have H := H r38 hr39
        refine (impl_areFrames.con hp40 hr39 (R1_1.ext hB) hc1_1).mono ?_
        rintro _ w41 ⟨rfl, e42⟩
        have O4 := O4.ext e42
        have hB := ethen hB e42
        refine ⟨r38, rfl, ?_⟩
        obtain rfl := hr.trans H.symm
        exact ⟨rfl, hB⟩
      have H := (bcase_iff.1 H).2 hc43
      obtain rfl := hr.trans H.symm
      exact ⟨rfl, hB⟩
    have H := (bcase_iff.1 H).2 hc44
    obtain rfl := hr.trans H.symm
    exact ⟨rfl, hB⟩
  have H := (bcase_iff.1 H).2 hc45
  obtain rfl := hr.trans H.symm
  exact ⟨rfl, hB⟩
def impl_newWarp.vc (A0 : Option Addr) (n0 : Nat) (c0 : Nat) (x1 : Int) (w : World) (K : Value → World → Prop) : Prop :=
  newK w (.cells #[(.int .i64 0), (.slice none 0 0), (.slice none 0 0)] 30) fun g21 w22 => vcMake Try.prog 26 32 32 w22 fun g23 w24 => newK w24 (.cells #[(.int .i64 0), (.slice none 0 0), (.slice none 0 0)] 30) fun g25 w26 => stCells (⟨g25, 0, none⟩ : Addr) [(.int .i64 x1), (.slice none 0 0), (.slice (some (⟨g23, 0, none⟩ : Addr)) ((32 : Int).toNat) ((32 : Int).toNat))] 0 w26 fun w27 => bcase (decide (((n0 : Nat) : Int) > 0)) (Run Try.prog (Instr.buildSlice 28 1 #[(0, (.agg #[(.int .i64 0), (.int .i64 ((n0 : Nat) : Int)), (.int .i64 255)]))]) w27 fun v28 w29 => ∃ (A30 : Option Addr) (n31 c32 : Nat), v28 = .slice A30 n31 c32 ∧ stCells ((⟨g25, 0, none⟩ : Addr).add 1) [(.slice A30 n31 c32)] 0 w29 fun w33 => ∃ (n34 : Int), w33.cell? ((⟨g25, 0, none⟩ : Addr).add 0) = some (.int .i64 n34) ∧ ∃ (A35 : Option Addr) (n36 : Nat) (c37 : Nat), w33.cell? ((⟨g25, 0, none⟩ : Addr).add 1) = some (.slice A35 n36 c37) ∧ ∃ (A38 : Option Addr) (n39 : Nat) (c40 : Nat), w33.cell? ((⟨g25, 0, none⟩ : Addr).add 2) = some (.slice A38 n39 c40) ∧ stCells (⟨g21, 0, none⟩ : Addr) [(.int .i64 n34), (.slice A35 n36 c37), (.slice A38 n39 c40)] 0 w33 fun w41 => ∃ (n42 : Int), w41.cell? ((⟨g21, 0, none⟩ : Addr).add 0) = some (.int .i64 n42) ∧ ∃ (A43 : Option Addr) (n44 : Nat) (c45 : Nat), w41.cell? ((⟨g21, 0, none⟩ : Addr).add 1) = some (.slice A43 n44 c45) ∧ ∃ (A46 : Option Addr) (n47 : Nat) (c48 : Nat), w41.cell? ((⟨g21, 0, none⟩ : Addr).add 2) = some (.slice A46 n47 c48) ∧ K (.agg #[(.int .i64 n42), (.slice A43 n44 c45), (.slice A46 n47 c48)]) w41) (∃ (n49 : Int), w27.cell? ((⟨g25, 0, none⟩ : Addr).add 0) = some (.int .i64 n49) ∧ ∃ (A50 : Option Addr) (n51 : Nat) (c52 : Nat), w27.cell? ((⟨g25, 0, none⟩ : Addr).add 1) = some (.slice A50 n51 c52) ∧ ∃ (A53 : Option Addr) (n54 : Nat) (c55 : Nat), w27.cell? ((⟨g25, 0, none⟩ : Addr).add 2) = some (.slice A53 n54 c55) ∧ stCells (⟨g21, 0, none⟩ : Addr) [(.int .i64 n49), (.slice A50 n51 c52), (.slice A53 n54 c55)] 0 w27 fun w56 => ∃ (n57 : Int), w56.cell? ((⟨g21, 0, none⟩ : Addr).add 0) = some (.int .i64 n57) ∧ ∃ (A58 : Option Addr) (n59 : Nat) (c60 : Nat), w56.cell? ((⟨g21, 0, none⟩ : Addr).add 1) = some (.slice A58 n59 c60) ∧ ∃ (A61 : Option Addr) (n62 : Nat) (c63 : Nat), w56.cell? ((⟨g21, 0, none⟩ : Addr).add 2) = some (.slice A61 n62 c63) ∧ K (.agg #[(.int .i64 n57), (.slice A58 n59 c60), (.slice A61 n62 c63)]) w56)

def impl_newWarp.ann : Ann := (.seq .l (.seq .l (.seq (.seq .l (.two .l .l)) (.seq .l .l))))

theorem impl_newWarp.start {A0 : Option Addr} {n0 : Nat} {c0 : Nat} {x1 : Int} {w : World} {K : Value → World → Prop} (h : impl_newWarp.vc A0 n0 c0 x1 w K) : Cll Try.prog 27 #[(.slice A0 n0 c0), (.int .i64 x1)] w K :=
  vcF_sound mixed (fn := Try.f27) (by kernel_rfl) (by kernel_rfl) (an := impl_newWarp.ann) (args := [(.slice A0 n0 c0), (.int .i64 x1)]) (Eq.mpr (by kernel_rfl) h)

theorem impl_newWarp.con {xs0 : List D.Ins} {A0 : Option Addr} {c0 : Nat} {x1 : Int} {r : D.Warp} {w : World} (hp : M.impl_newWarp_pre xs0 x1) (hr : r = M.impl_newWarp xs0 x1) (R0 : Row el60 w A0 xs0) (hc0 : xs0.length ≤ c0) :
    Cll Try.prog 27 #[(.slice A0 xs0.length c0), (.int .i64 x1)] w (fun v_ w_ => ∃ (A0_ : Option Addr) (c0_ : Nat) (A1_ : Option Addr) (c1_ : Nat), v_ = (.agg #[(.int .i64 r.Number), (.slice A0_ r.Frames.length c0_), (.slice A1_ r.Regs.length c1_)]) ∧ Own el81 w_ w.heap.size A0_ c0_ r.Frames ∧ Own el3 w_ w.heap.size A1_ c1_ r.Regs ∧ Ext w w_) := by
  have H := wp.impl_newWarp.math xs0 x1 hp
  have hB := Ext.refl w
  refine impl_newWarp.start ?_
  unfold impl_newWarp.vc
  unfold wp.impl_newWarp at H
  refine newBlk (fun g2_ w21 L2 P2 e22 => ?_)
  have O2 := P2
  have L2 := Nat.le_trans hB.size L2
  have hB := ethen hB e22
  obtain ⟨⟨h0_26, h1_27⟩, H⟩ := H
  refine makeOwn slt26 h0_26 h1_27 (fun g23 w24 P3 e25 => ?_)
  have N3_2 := P3.apart_old O2.lt
  have O2 := O2.ext e25
  have O3 := P3.mono hB.size
  have hB := ethen hB e25
  refine newBlk (fun g4_ w28 L4 P4 e29 => ?_)
  have N2_4 := O2.ne L4
  have N3_4 := O3.apart_new L4
  have O2 := O2.ext e29
  have O3 := O3.ext e29
  have O4 := P4
  have L4 := Nat.le_trans hB.size L4
  have hB := ethen hB e29
  refine stBlk O4 (o := 0) (cs' := #[(.int .i64 x1), (.slice none 0 0), (.slice (some (⟨g23, 0, none⟩ : Addr)) ((32 : Int).toNat) ((32 : Int).toNat))]) rfl rfl (Nat.le_of_ble_eq_true rfl) rfl (fun w30 P4 e31 => ?_)
  have O2_ := O2.chg e31 N2_4
  have O3_ := O3.chg e31 N3_4
  have O2 := O2_
  have O3 := O3_
  have hB := echg hB e31 L4
  have O4 := P4
  refine bcase_mk (fun hc41 => ?_) (fun hc41 => ?_)
  · have H := (bcase_iff.1 H).1 hc41
    refine buildOwn el81 ([(⟨0, ((xs0.length : Nat) : Int), 255⟩ : D.Frame)] : List D.Frame) (fun _ => by kernel_rfl) rfl (fun A32 w33 P5 e34 => ?_)
    have N5_2 := P5.apart_old O2.lt
    have N3_5 := Own.apart2_new O3 P5 (Nat.le_refl _)
    have N5_4 := P5.apart_old O4.lt
    have O2 := O2.ext e34
    have O3 := O3.ext e34
    have O4 := O4.ext e34
    have O5 := P5.mono hB.size
    have hB := ethen hB e34
    refine stBlk O4 (o := 1) (cs' := #[(.int .i64 x1), (.slice A32 1 1), (.slice (some (⟨g23, 0, none⟩ : Addr)) ((32 : Int).toNat) ((32 : Int).toNat))]) rfl rfl (Nat.le_of_ble_eq_true rfl) rfl (fun w35 P4 e36 => ?_)
    have O2_ := O2.chg e36 N2_4
    have O3_ := O3.chg e36 N3_4
    have O5_ := O5.chg e36 N5_4
    have O2 := O2_
    have O3 := O3_
    have O5 := O5_
    have hB := echg hB e36 L4
    have O4 := P4
    refine ⟨_, (O4.at 0 rfl rfl), ?_⟩
    refine ⟨_, _, _, (O4.at 1 rfl rfl), ?_⟩
    refine ⟨_, _, _, (O4.at 2 rfl rfl), ?_⟩
    refine stBlk O2 (o := 0) (cs' := #[(.int .i64 x1), (.slice A32 1 1), (.slice (some (⟨g23, 0, none⟩ : Addr)) ((32 : Int).toNat) ((32 : Int).toNat))]) rfl rfl (Nat.le_of_ble_eq_true rfl) rfl (fun w37 P2 e38 => ?_)
    have O3_ := O3.chg e38 N3_2
    have O4_ := O4.chg e38 (N2_4).symm
    have O5_ := O5.chg e38 N5_2
    have O3 := O3_
    have O4 := O4_
    have O5 := O5_
    have hB := echg hB e38 L2
    have O2 := P2
    refine ⟨_, (O2.at 0 rfl rfl), ?_⟩
    refine ⟨_, _, _, (O2.at 1 rfl rfl), ?_⟩
    refine ⟨_, _, _, (O2.at 2 rfl rfl), ?_⟩
    obtain rfl := hr.trans H.symm
    exact ⟨A32, 1, (some (⟨g23, 0, none⟩ : Addr)), ((32 : Int).toNat), (by first | rfl | (simp; done) | (simp; omega) | (simp [*]; done)), (by first | exact O5 | (simp only [List.length_set]; exact O5)), (by first | exact O3 | (simp only [List.length_set]; exact O3)), hB⟩
  have H := (bcase_iff.1 H).2 hc41
  refine ⟨_, (O4.at 0 rfl rfl), ?_⟩
  refine ⟨_, _, _, (O4.at 1 rfl rfl), ?_⟩
  refine ⟨_, _, _, (O4.at 2 rfl rfl), ?_⟩
  refine stBlk O2 (o := 0) (cs' := #[(.int .i64 x1), (.slice none 0 0), (.slice (some (⟨g23, 0, none⟩ : Addr)) ((32 : Int).toNat) ((32 : Int).toNat))]) rfl rfl (Nat.le_of_ble_eq_true rfl) rfl (fun w39 P2 e40 => ?_)
  have O3_ := O3.chg e40 N3_2
  have O4_ := O4.chg e40 (N2_4).symm
  have O3 := O3_
  have O4 := O4_
  have hB := echg hB e40 L2
  have O2 := P2
  refine ⟨_, (O2.at 0 rfl rfl), ?_⟩
  refine ⟨_, _, _, (O2.at 1 rfl rfl), ?_⟩
  refine ⟨_, _, _, (O2.at 2 rfl rfl), ?_⟩
  obtain rfl := hr.trans H.symm
  exact ⟨none, 0, (some (⟨g23, 0, none⟩ : Addr)), ((32 : Int).toNat), (by first | rfl | (simp; done) | (simp; omega) | (simp [*]; done)), Own.nil, (by first | exact O3 | (simp only [List.length_set]; exact O3)), hB⟩
def slices_Clone_impl_Frame_impl_Frame.vc (A0 : Option Addr) (n0 : Nat) (c0 : Nat) (w : World) (K : Value → World → Prop) : Prop :=
  bcase (Option.isNone A0) (K (.slice none 0 0) w) (Run Try.prog (Instr.buildSlice 28 0 #[]) w fun v21 w22 => ∃ (A23 : Option Addr) (n24 c25 : Nat), v21 = .slice A23 n24 c25 ∧ Run Try.prog (Builtin.append_ #[28, 28] 28 #[(.slice A23 n24 c25), (.slice A0 n0 c0)]) w22 fun v26 w27 => ∃ (A28 : Option Addr) (n29 c30 : Nat), v26 = .slice A28 n29 c30 ∧ K (.slice A28 n29 c30) w27)

def slices_Clone_impl_Frame_impl_Frame.ann : Ann := (.seq .l (.seq (.seq .l (.two (.seq .l .l) .l)) (.seq .l .l)))

theorem slices_Clone_impl_Frame_impl_Frame.start {A0 : Option Addr} {n0 : Nat} {c0 : Nat} {w : World} {K : Value → World → Prop} (h : slices_Clone_impl_Frame_impl_Frame.vc A0 n0 c0 w K) : Cll Try.prog 70 #[(.slice A0 n0 c0)] w K :=
  vcF_sound mixed (fn := Try.f70) (by kernel_rfl) (by kernel_rfl) (an := slices_Clone_impl_Frame_impl_Frame.ann) (args := [(.slice A0 n0 c0)]) (Eq.mpr (by kernel_rfl) h)

theorem slices_Clone_impl_Frame_impl_Frame.con {xs0 : List D.Frame} {A0 : Option Addr} {c0 : Nat} {r : List D.Frame} {w : World} (hp : M.slices_Clone_impl_Frame_impl_Frame_pre xs0) (hr : r = M.slices_Clone_impl_Frame_impl_Frame xs0) (R0 : Row el81 w A0 xs0) (hc0 : xs0.length ≤ c0) :
    Cll Try.prog 70 #[(.slice A0 xs0.length c0)] w (fun v_ w_ => ∃ (A0_ : Option Addr) (c0_ : Nat), v_ = (.slice A0_ r.length c0_) ∧ Own el81 w_ w.heap.size A0_ c0_ r ∧ Ext w w_) := by
  have H := wp.slices_Clone_impl_Frame_impl_Frame.math xs0 hp
  have hB := Ext.refl w
  refine slices_Clone_impl_Frame_impl_Frame.start ?_
  unfold slices_Clone_impl_Frame_impl_Frame.vc
  unfold wp.slices_Clone_impl_Frame_impl_Frame at H
  obtain ⟨b21, hb22⟩ : ∃ b_, b_ = Option.isNone A0 := ⟨_, rfl⟩
  have H := H b21 (fun h_ => Row.isNone (R0.ext hB) (hb22.symm.trans h_))
  rw [← hb22]
  refine bcase_mk (fun hc31 => ?_) (fun hc31 => ?_)
  · have H := (bcase_iff.1 H).1 hc31
    obtain rfl := hr.trans H.symm
    exact ⟨none, 0, rfl, Own.nil, hB⟩
  have H := (bcase_iff.1 H).2 hc31
  refine buildOwn el81 ([] : List D.Frame) (fun _ => by kernel_rfl) rfl (fun A23 w24 P2 e25 => ?_)
  have O2 := P2.mono hB.size
  have hB := ethen hB e25
  obtain ⟨hl30, H⟩ := H
  refine appOwn slt28 slt28.under O2 (R0.ext hB) hB.size (by first | rfl | omega | (simp; done) | (simp; omega)) rfl hl30 (fun A26 c27 w28 P2 e29 => ?_)
  have hB := eapp hB e29 O2
  have O2 := P2
  obtain rfl := hr.trans H.symm
  exact ⟨A26, c27, rfl, O2, hB⟩
def impl_copyWarp.vc (x0_0 : Int) (A0_1 : Option Addr) (n0_1 : Nat) (c0_1 : Nat) (A0_2 : Option Addr) (n0_2 : Nat) (c0_2 : Nat) (w : World) (K : Value → World → Prop) : Prop :=
  newK w (.cells #[(.int .i64 x0_0), (.slice A0_1 n0_1 c0_1), (.slice A0_2 n0_2 c0_2)] 30) fun g21 w22 => newK w22 (.cells #[(.int .i64 0), (.slice none 0 0), (.slice none 0 0)] 30) fun g23 w24 => ((∃ (A25 : Option Addr) (n26 : Nat) (c27 : Nat), w24.drew.cell? (((⟨g21, 0, none⟩ : Addr).add 1).add 0) = some (.slice A25 n26 c27) ∧ ((Cll Try.prog 70 #[(.slice A25 n26 c27)] w24.drew fun v28 w29 => (∃ (A30 : Option Addr) (n31 : Nat) (c32 : Nat), v28 = (.slice A30 n31 c32) ∧ ((∃ (A33 : Option Addr) (n34 : Nat) (c35 : Nat), w29.cell? (((⟨g21, 0, none⟩ : Addr).add 2).add 0) = some (.slice A33 n34 c35) ∧ ((Cll Try.prog 45 #[(.slice A33 n34 c35)] w29 fun v36 w37 => (∃ (A38 : Option Addr) (n39 : Nat) (c40 : Nat), v36 = (.slice A38 n39 c40) ∧ ((stCells ((⟨g21, 0, none⟩ : Addr).add 1) [(.slice A30 n31 c32)] 0 w37 fun w41 => ((stCells ((⟨g21, 0, none⟩ : Addr).add 2) [(.slice A38 n39 c40)] 0 w41 fun w42 => ∃ (n43 : Int), w42.cell? ((⟨g21, 0, none⟩ : Addr).add 0) = some (.int .i64 n43) ∧ ∃ (A44 : Option Addr) (n45 : Nat) (c46 : Nat), w42.cell? ((⟨g21, 0, none⟩ : Addr).add 1) = some (.slice A44 n45 c46) ∧ ∃ (A47 : Option Addr) (n48 : Nat) (c49 : Nat), w42.cell? ((⟨g21, 0, none⟩ : Addr).add 2) = some (.slice A47 n48 c49) ∧ stCells (⟨g23, 0, none⟩ : Addr) [(.int .i64 n43), (.slice A44 n45 c46), (.slice A47 n48 c49)] 0 w42 fun w50 => ∃ (n51 : Int), w50.cell? ((⟨g23, 0, none⟩ : Addr).add 0) = some (.int .i64 n51) ∧ ∃ (A52 : Option Addr) (n53 : Nat) (c54 : Nat), w50.cell? ((⟨g23, 0, none⟩ : Addr).add 1) = some (.slice A52 n53 c54) ∧ ∃ (A55 : Option Addr) (n56 : Nat) (c57 : Nat), w50.cell? ((⟨g23, 0, none⟩ : Addr).add 2) = some (.slice A55 n56 c57) ∧ K (.agg #[(.int .i64 n51), (.slice A52 n53 c54), (.slice A55 n56 c57)]) w50) ∧ True)) ∧ True))) ∧ True)) ∧ True))) ∧ (∃ (A58 : Option Addr) (n59 : Nat) (c60 : Nat), w24.drew.cell? (((⟨g21, 0, none⟩ : Addr).add 2).add 0) = some (.slice A58 n59 c60) ∧ ((Cll Try.prog 70 #[(.slice A25 n26 c27)] w24.drew fun v61 w62 => (∃ (A63 : Option Addr) (n64 : Nat) (c65 : Nat), v61 = (.slice A63 n64 c65) ∧ ((Cll Try.prog 45 #[(.slice A58 n59 c60)] w62 fun v66 w67 => (∃ (A68 : Option Addr) (n69 : Nat) (c70 : Nat), v66 = (.slice A68 n69 c70) ∧ ((stCells ((⟨g21, 0, none⟩ : Addr).add 1) [(.slice A63 n64 c65)] 0 w67 fun w71 => ((stCells ((⟨g21, 0, none⟩ : Addr).add 2) [(.slice A68 n69 c70)] 0 w71 fun w72 => ∃ (n73 : Int), w72.cell? ((⟨g21, 0, none⟩ : Addr).add 0) = some (.int .i64 n73) ∧ ∃ (A74 : Option Addr) (n75 : Nat) (c76 : Nat), w72.cell? ((⟨g21, 0, none⟩ : Addr).add 1) = some (.slice A74 n75 c76) ∧ ∃ (A77 : Option Addr) (n78 : Nat) (c79 : Nat), w72.cell? ((⟨g21, 0, none⟩ : Addr).add 2) = some (.slice A77 n78 c79) ∧ stCells (⟨g23, 0, none⟩ : Addr) [(.int .i64 n73), (.slice A74 n75 c76), (.slice A77 n78 c79)] 0 w72 fun w80 => ∃ (n81 : Int), w80.cell? ((⟨g23, 0, none⟩ : Addr).add 0) = some (.int .i64 n81) ∧ ∃ (A82 : Option Addr) (n83 : Nat) (c84 : Nat), w80.cell? ((⟨g23, 0, none⟩ : Addr).add 1) = some (.slice A82 n83 c84) ∧ ∃ (A85 : Option Addr) (n86 : Nat) (c87 : Nat), w80.cell? ((⟨g23, 0, none⟩ : Addr).add 2) = some (.slice A85 n86 c87) ∧ K (.agg #[(.int .i64 n81), (.slice A82 n83 c84), (.slice A85 n86 c87)]) w80) ∧ True)) ∧ True))) ∧ True))) ∧ True)) ∧ True)) ∧ (∃ (A88 : Option Addr) (n89 : Nat) (c90 : Nat), w24.drew.cell? (((⟨g21, 0, none⟩ : Addr).add 2).add 0) = some (.slice A88 n89 c90) ∧ ((∃ (A91 : Option Addr) (n92 : Nat) (c93 : Nat), w24.drew.cell? (((⟨g21, 0, none⟩ : Addr).add 1).add 0) = some (.slice A91 n92 c93) ∧ ((Cll Try.prog 70 #[(.slice A91 n92 c93)] w24.drew fun v94 w95 => (∃ (A96 : Option Addr) (n97 : Nat) (c98 : Nat), v94 = (.slice A96 n97 c98) ∧ ((Cll Try.prog 45 #[(.slice A88 n89 c90)] w95 fun v99 w100 => (∃ (A101 : Option Addr) (n102 : Nat) (c103 : Nat), v99 = (.slice A101 n102 c103) ∧ ((stCells ((⟨g21, 0, none⟩ : Addr).add 1) [(.slice A96 n97 c98)] 0 w100 fun w104 => ((stCells ((⟨g21, 0, none⟩ : Addr).add 2) [(.slice A101 n102 c103)] 0 w104 fun w105 => ∃ (n106 : Int), w105.cell? ((⟨g21, 0, none⟩ : Addr).add 0) = some (.int .i64 n106) ∧ ∃ (A107 : Option Addr) (n108 : Nat) (c109 : Nat), w105.cell? ((⟨g21, 0, none⟩ : Addr).add 1) = some (.slice A107 n108 c109) ∧ ∃ (A110 : Option Addr) (n111 : Nat) (c112 : Nat), w105.cell? ((⟨g21, 0, none⟩ : Addr).add 2) = some (.slice A110 n111 c112) ∧ stCells (⟨g23, 0, none⟩ : Addr) [(.int .i64 n106), (.slice A107 n108 c109), (.slice A110 n111 c112)] 0 w105 fun w113 => ∃ (n114 : Int), w113.cell? ((⟨g23, 0, none⟩ : Addr).add 0) = some (.int .i64 n114) ∧ ∃ (A115 : Option Addr) (n116 : Nat) (c117 : Nat), w113.cell? ((⟨g23, 0, none⟩ : Addr).add 1) = some (.slice A115 n116 c117) ∧ ∃ (A118 : Option Addr) (n119 : Nat) (c120 : Nat), w113.cell? ((⟨g23, 0, none⟩ : Addr).add 2) = some (.slice A118 n119 c120) ∧ K (.agg #[(.int .i64 n114), (.slice A115 n116 c117), (.slice A118 n119 c120)]) w113) ∧ True)) ∧ True))) ∧ True))) ∧ True)) ∧ True)) ∧ True)

def impl_copyWarp.ann : Ann := (.seq .l (.seq .each (.seq .l .l)))

theorem impl_copyWarp.start {x0_0 : Int} {A0_1 : Option Addr} {n0_1 : Nat} {c0_1 : Nat} {A0_2 : Option Addr} {n0_2 : Nat} {c0_2 : Nat} {w : World} {K : Value → World → Prop} (h : impl_copyWarp.vc x0_0 A0_1 n0_1 c0_1 A0_2 n0_2 c0_2 w K) : Cll Try.prog 54 #[(.agg #[(.int .i64 x0_0), (.slice A0_1 n0_1 c0_1), (.slice A0_2 n0_2 c0_2)])] w K :=
  vcF_sound mixed (fn := Try.f54) (by kernel_rfl) (by kernel_rfl) (an := impl_copyWarp.ann) (args := [(.agg #[(.int .i64 x0_0), (.slice A0_1 n0_1 c0_1), (.slice A0_2 n0_2 c0_2)])]) (Eq.mpr (by kernel_rfl) h)

theorem impl_copyWarp.con {s0 : D.Warp} {A0_1 : Option Addr} {c0_1 : Nat} {A0_2 : Option Addr} {c0_2 : Nat} {r : D.Warp} {w : World} (hp : M.impl_copyWarp_pre s0) (hr : r = M.impl_copyWarp s0) (R0_1 : Row el81 w A0_1 s0.Frames) (hc0_1 : s0.Frames.length ≤ c0_1) (R0_2 : Row el3 w A0_2 s0.Regs) (hc0_2 : s0.Regs.length ≤ c0_2) :
    Cll Try.prog 54 #[(.agg #[(.int .i64 s0.Number), (.slice A0_1 s0.Frames.length c0_1), (.slice A0_2 s0.Regs.length c0_2)])] w (fun v_ w_ => ∃ (A0_ : Option Addr) (c0_ : Nat) (A1_ : Option Addr) (c1_ : Nat), v_ = (.agg #[(.int .i64 r.Number), (.slice A0_ r.Frames.length c0_), (.slice A1_ r.Regs.length c1_)]) ∧ Own el81 w_ w.heap.size A0_ c0_ r.Frames ∧ Own el3 w_ w.heap.size A1_ c1_ r.Regs ∧ Ext w w_) := by
  have H := wp.impl_copyWarp.math s0 hp
  have hB := Ext.refl w
  refine impl_copyWarp.start ?_
  unfold impl_copyWarp.vc
  unfold wp.impl_copyWarp at H
  refine newBlk (fun g3_ w21 L3 P3 e22 => ?_)
  have O3 := P3
  have L3 := Nat.le_trans hB.size L3
  have hB := ethen hB e22
  refine newBlk (fun g4_ w23 L4 P4 e24 => ?_)
  have N3_4 := O3.ne L4
  have O3 := O3.ext e24
  have O4 := P4
  have L4 := Nat.le_trans hB.size L4
  have hB := ethen hB e24
  have O3 := O3.ext (Ext.drew _)
  have O4 := O4.ext (Ext.drew _)
  have hB := ethen hB (Ext.drew _)
  refine And.intro ?_ ?_
  · have H := H.1
    refine ⟨_, _, _, (O3.at 1 rfl rfl), ?_⟩
    refine And.intro ?_ ?_
    · have H := H.1
      obtain ⟨hp27, H⟩ := H
      obtain ⟨r25, hr26⟩ : ∃ r_, r_ = M.slices_Clone_impl_Frame_impl_Frame s0.Frames := ⟨_, rfl⟩
      have H := H r25 hr26
      refine (slices_Clone_impl_Frame_impl_Frame.con hp27 hr26 (R0_1.ext hB) hc0_1).mono ?_
      rintro _ w28 ⟨A30, c31, rfl, P5, e29⟩
      have N5_3 := P5.apart_old O3.lt
      have N5_4 := P5.apart_old O4.lt
      have O3 := O3.ext e29
      have O4 := O4.ext e29
      have O5 := P5.mono hB.size
      have hB := ethen hB e29
      refine ⟨A30, r25.length, c31, rfl, ?_⟩
      refine and_t ?_
      refine ⟨_, _, _, (O3.at 2 rfl rfl), ?_⟩
      refine and_t ?_
      obtain ⟨hp34, H⟩ := H
      obtain ⟨r32, hr33⟩ : ∃ r_, r_ = M.slices_Clone_int_int s0.Regs := ⟨_, rfl⟩
      have H := H r32 hr33
      refine (slices_Clone_int_int.con hp34 hr33 (R0_2.ext hB) hc0_2).mono ?_
      rintro _ w35 ⟨A37, c38, rfl, P6, e36⟩
      have N6_3 := P6.apart_old O3.lt
      have N6_4 := P6.apart_old O4.lt
      have N5_6 := Own.apart2_new O5 P6 (Nat.le_refl _)
      have O3 := O3.ext e36
      have O4 := O4.ext e36
      have O5 := O5.ext e36
      have O6 := P6.mono hB.size
      have hB := ethen hB e36
      refine ⟨A37, r32.length, c38, rfl, ?_⟩
      refine and_t ?_
      refine stBlk O3 (o := 1) (cs' := #[(.int .i64 s0.Number), (.slice A30 r25.length c31), (.slice A0_2 s0.Regs.length c0_2)]) rfl rfl (Nat.le_of_ble_eq_true rfl) rfl (fun w39 P3 e40 => ?_)
      have O4_ := O4.chg e40 (N3_4).symm
      have O5_ := O5.chg e40 N5_3
      have O6_ := O6.chg e40 N6_3
      have O4 := O4_
      have O5 := O5_
      have O6 := O6_
      have hB := echg hB e40 L3
      have O3 := P3
      refine and_t ?_
      refine stBlk O3 (o := 2) (cs' := #[(.int .i64 s0.Number), (.slice A30 r25.length c31), (.slice A37 r32.length c38)]) rfl rfl (Nat.le_of_ble_eq_true rfl) rfl (fun w41 P3 e42 => ?_)
      have O4_ := O4.chg e42 (N3_4).symm
      have O5_ := O5.chg e42 N5_3
      have O6_ := O6.chg e42 N6_3
      have O4 := O4_
      have O5 := O5_
      have O6 := O6_
      have hB := echg hB e42 L3
      have O3 := P3
      refine ⟨_, (O3.at 0 rfl rfl), ?_⟩
      refine ⟨_, _, _, (O3.at 1 rfl rfl), ?_⟩
      refine ⟨_, _, _, (O3.at 2 rfl rfl), ?_⟩
      refine stBlk O4 (o := 0) (cs' := #[(.int .i64 s0.Number), (.slice A30 r25.length c31), (.slice A37 r32.length c38)]) rfl rfl (Nat.le_of_ble_eq_true rfl) rfl (fun w43 P4 e44 => ?_)
      have O3_ := O3.chg e44 N3_4
      have O5_ := O5.chg e44 N5_4
      have O6_ := O6.chg e44 N6_4
      have O3 := O3_
      have O5 := O5_
      have O6 := O6_
      have hB := echg hB e44 L4
      have O4 := P4
      refine ⟨_, (O4.at 0 rfl rfl), ?_⟩
      refine ⟨_, _, _, (O4.at 1 rfl rfl), ?_⟩
      refine ⟨_, _, _, (O4.at 2 rfl rfl), ?_⟩
      obtain rfl := hr.trans H.symm
      exact ⟨A30, c31, A37, c38, rfl, O5, O6, hB⟩
    refine And.intro ?_ ?_
    · have H := H.2.1
      refine ⟨_, _, _, (O3.at 2 rfl rfl), ?_⟩
      refine and_t ?_
      obtain ⟨hp47, H⟩ := H
      obtain ⟨r45, hr46⟩ : ∃ r_, r_ = M.slices_Clone_impl_Frame_impl_Frame s0.Frames := ⟨_, rfl⟩
      have H := H r45 hr46
      refine (slices_Clone_impl_Frame_impl_Frame.con hp47 hr46 (R0_1.ext hB) hc0_1).mono ?_
      rintro _ w48 ⟨A50, c51, rfl, P7, e49⟩
      have N7_3 := P7.apart_old O3.lt
      have N7_4 := P7.apart_old O4.lt
      have O3 := O3.ext e49
      have O4 := O4.ext e49
      have O7 := P7.mono hB.size
      have hB := ethen hB e49
      refine ⟨A50, r45.length, c51, rfl, ?_⟩
      refine and_t ?_
      obtain ⟨hp54, H⟩ := H
      obtain ⟨r52, hr53⟩ : ∃ r_, r_ = M.slices_Clone_int_int s0.Regs := ⟨_, rfl⟩
      have H := H r52 hr53
      refine (slices_Clone_int_int.con hp54 hr53 (R0_2.ext hB) hc0_2).mono ?_
      rintro _ w55 ⟨A57, c58, rfl, P8, e56⟩
      have N8_3 := P8.apart_old O3.lt
      have N8_4 := P8.apart_old O4.lt
      have N7_8 := Own.apart2_new O7 P8 (Nat.le_refl _)
      have O3 := O3.ext e56
      have O4 := O4.ext e56
      have O7 := O7.ext e56
      have O8 := P8.mono hB.size
      have hB := ethen hB e56
      refine ⟨A57, r52.length, c58, rfl, ?_⟩
      refine and_t ?_
      refine stBlk O3 (o := 1) (cs' := #[(.int .i64 s0.Number), (.slice A50 r45.length c51), (.slice A0_2 s0.Regs.length c0_2)]) rfl rfl (Nat.le_of_ble_eq_true rfl) rfl (fun w59 P3 e60 => ?_)
      have O4_ := O4.chg e60 (N3_4).symm
      have O7_ := O7.chg e60 N7_3
      have O8_ := O8.chg e60 N8_3
      have O4 := O4_
      have O7 := O7_
      have O8 := O8_
      have hB := echg hB e60 L3
      have O3 := P3
      refine and_t ?_
      refine stBlk O3 (o := 2) (cs' := #[(.int .i64 s0.Number), (.slice A50 r45.length c51), (.slice A57 r52.length c58)]) rfl rfl (Nat.le_of_ble_eq_true rfl) rfl (fun w61 P3 e62 => ?_)
      have O4_ := O4.chg e62 (N3_4).symm
      have O7_ := O7.chg e62 N7_3
      have O8_ := O8.chg e62 N8_3
      have O4 := O4_
      have O7 := O7_
      have O8 := O8_
      have hB := echg hB e62 L3
      have O3 := P3
      refine ⟨_, (O3.at 0 rfl rfl), ?_⟩
      refine ⟨_, _, _, (O3.at 1 rfl rfl), ?_⟩
      refine ⟨_, _, _, (O3.at 2 rfl rfl), ?_⟩
      refine stBlk O4 (o := 0) (cs' := #[(.int .i64 s0.Number), (.slice A50 r45.length c51), (.slice A57 r52.length c58)]) rfl rfl (Nat.le_of_ble_eq_true rfl) rfl (fun w63 P4 e64 => ?_)
      have O3_ := O3.chg e64 N3_4
      have O7_ := O7.chg e64 N7_4
      have O8_ := O8.chg e64 N8_4
      have O3 := O3_
      have O7 := O7_
      have O8 := O8_
      have hB := echg hB e64 L4
      have O4 := P4
      refine ⟨_, (O4.at 0 rfl rfl), ?_⟩
      refine ⟨_, _, _, (O4.at 1 rfl rfl), ?_⟩
      refine ⟨_, _, _, (O4.at 2 rfl rfl), ?_⟩
      obtain rfl := hr.trans H.symm
      exact ⟨A50, c51, A57, c58, rfl, O7, O8, hB⟩
    exact trivial
  refine And.intro ?_ ?_
  · have H := H.2.1
    refine ⟨_, _, _, (O3.at 2 rfl rfl), ?_⟩
    refine and_t ?_
    refine ⟨_, _, _, (O3.at 1 rfl rfl), ?_⟩
    refine and_t ?_
    obtain ⟨hp67, H⟩ := H
    obtain ⟨r65, hr66⟩ : ∃ r_, r_ = M.slices_Clone_impl_Frame_impl_Frame s0.Frames := ⟨_, rfl⟩
    have H := H r65 hr66
    refine (slices_Clone_impl_Frame_impl_Frame.con hp67 hr66 (R0_1.ext hB) hc0_1).mono ?_
    rintro _ w68 ⟨A70, c71, rfl, P9, e69⟩
    have N9_3 := P9.apart_old O3.lt
    have N9_4 := P9.apart_old O4.lt
    have O3 := O3.ext e69
    have O4 := O4.ext e69
    have O9 := P9.mono hB.size
    have hB := ethen hB e69
    refine ⟨A70, r65.length, c71, rfl, ?_⟩
    refine and_t ?_
    obtain ⟨hp74, H⟩ := H
    obtain ⟨r72, hr73⟩ : ∃ r_, r_ = M.slices_Clone_int_int s0.Regs := ⟨_, rfl⟩
    have H := H r72 hr73
    refine (slices_Clone_int_int.con hp74 hr73 (R0_2.ext hB) hc0_2).mono ?_
    rintro _ w75 ⟨A77, c78, rfl, P10, e76⟩
    have N10_3 := P10.apart_old O3.lt
    have N10_4 := P10.apart_old O4.lt
    have N9_10 := Own.apart2_new O9 P10 (Nat.le_refl _)
    have O3 := O3.ext e76
    have O4 := O4.ext e76
    have O9 := O9.ext e76
    have O10 := P10.mono hB.size
    have hB := ethen hB e76
    refine ⟨A77, r72.length, c78, rfl, ?_⟩
    refine and_t ?_
    refine stBlk O3 (o := 1) (cs' := #[(.int .i64 s0.Number), (.slice A70 r65.length c71), (.slice A0_2 s0.Regs.length c0_2)]) rfl rfl (Nat.le_of_ble_eq_true rfl) rfl (fun w79 P3 e80 => ?_)
    have O4_ := O4.chg e80 (N3_4).symm
    have O9_ := O9.chg e80 N9_3
    have O10_ := O10.chg e80 N10_3
    have O4 := O4_
    have O9 := O9_
    have O10 := O10_
    have hB := echg hB e80 L3
    have O3 := P3
    refine and_t ?_
    refine stBlk O3 (o := 2) (cs' := #[(.int .i64 s0.Number), (.slice A70 r65.length c71), (.slice A77 r72.length c78)]) rfl rfl (Nat.le_of_ble_eq_true rfl) rfl (fun w81 P3 e82 => ?_)
    have O4_ := O4.chg e82 (N3_4).symm
    have O9_ := O9.chg e82 N9_3
    have O10_ := O10.chg e82 N10_3
    have O4 := O4_
    have O9 := O9_
    have O10 := O10_
    have hB := echg hB e82 L3
    have O3 := P3
    refine ⟨_, (O3.at 0 rfl rfl), ?_⟩
    refine ⟨_, _, _, (O3.at 1 rfl rfl), ?_⟩
    refine ⟨_, _, _, (O3.at 2 rfl rfl), ?_⟩
    refine stBlk O4 (o := 0) (cs' := #[(.int .i64 s0.Number), (.slice A70 r65.length c71), (.slice A77 r72.length c78)]) rfl rfl (Nat.le_of_ble_eq_true rfl) rfl (fun w83 P4 e84 => ?_)
    have O3_ := O3.chg e84 N3_4
    have O9_ := O9.chg e84 N9_4
    have O10_ := O10.chg e84 N10_4
    have O3 := O3_
    have O9 := O9_
    have O10 := O10_
    have hB := echg hB e84 L4
    have O4 := P4
    refine ⟨_, (O4.at 0 rfl rfl), ?_⟩
    refine ⟨_, _, _, (O4.at 1 rfl rfl), ?_⟩
    refine ⟨_, _, _, (O4.at 2 rfl rfl), ?_⟩
    obtain rfl := hr.trans H.symm
    exact ⟨A70, c71, A77, c78, rfl, O9, O10, hB⟩
  exact trivial
def impl_Warp_lane.vc (x0_0 : Int) (A0_1 : Option Addr) (n0_1 : Nat) (c0_1 : Nat) (A0_2 : Option Addr) (n0_2 : Nat) (c0_2 : Nat) (x1 : Int) (w : World) (K : Value → World → Prop) : Prop :=
  newK w (.cells #[(.int .i64 x0_0), (.slice A0_1 n0_1 c0_1), (.slice A0_2 n0_2 c0_2)] 30) fun g21 w22 => ∃ (A23 : Option Addr) (n24 : Nat) (c25 : Nat), w22.cell? (((⟨g21, 0, none⟩ : Addr).add 2).add 0) = some (.slice A23 n24 c25) ∧ ((0 : Int) ≤ (IntKind.wrap .i64 ((IntKind.wrap .i64 (x1 + 1)) * 4)) ∧ (IntKind.wrap .i64 ((IntKind.wrap .i64 (x1 + 1)) * 4)) ≤ ((c25 : Nat) : Int) ∧ ((0 : Int) ≤ (IntKind.wrap .i64 (x1 * 4)) ∧ (IntKind.wrap .i64 (x1 * 4)) ≤ ((((IntKind.wrap .i64 ((IntKind.wrap .i64 (x1 + 1)) * 4)).toNat) : Nat) : Int) ∧ K (.slice (if c25 = ((IntKind.wrap .i64 (x1 * 4)).toNat) then A23 else A23.map (·.add (((IntKind.wrap .i64 (x1 * 4)).toNat) * szOf Try.prog 3))) (((IntKind.wrap .i64 ((IntKind.wrap .i64 (x1 + 1)) * 4)).toNat) - ((IntKind.wrap .i64 (x1 * 4)).toNat)) (c25 - ((IntKind.wrap .i64 (x1 * 4)).toNat))) w22))

def impl_Warp_lane.ann : Ann := (.seq .l (.seq .l .l))

theorem impl_Warp_lane.vc_eq (x0_0 : Int) (A0_1 : Option Addr) (n0_1 : Nat) (c0_1 : Nat) (A0_2 : Option Addr) (n0_2 : Nat) (c0_2 : Nat) (x1 : Int) (w : World) (K : Value → World → Prop) : vcF Try.prog Try.f88 impl_Warp_lane.ann [(.agg #[(.int .i64 x0_0), (.slice A0_1 n0_1 c0_1), (.slice A0_2 n0_2 c0_2)]), (.int .i64 x1)] K w = impl_Warp_lane.vc x0_0 A0_1 n0_1 c0_1 A0_2 n0_2 c0_2 x1 w K := by kernel_rfl

theorem impl_Warp_lane.start {x0_0 : Int} {A0_1 : Option Addr} {n0_1 : Nat} {c0_1 : Nat} {A0_2 : Option Addr} {n0_2 : Nat} {c0_2 : Nat} {x1 : Int} {w : World} {K : Value → World → Prop} (h : impl_Warp_lane.vc x0_0 A0_1 n0_1 c0_1 A0_2 n0_2 c0_2 x1 w K) : Cll Try.prog 88 #[(.agg #[(.int .i64 x0_0), (.slice A0_1 n0_1 c0_1), (.slice A0_2 n0_2 c0_2)]), (.int .i64 x1)] w K :=
  vcF_sound mixed (fn := Try.f88) (by kernel_rfl) (by kernel_rfl) (an := impl_Warp_lane.ann) (args := [(.agg #[(.int .i64 x0_0), (.slice A0_1 n0_1 c0_1), (.slice A0_2 n0_2 c0_2)]), (.int .i64 x1)]) (by rw [impl_Warp_lane.vc_eq]; exact h)
end Go.V
set_option linter.unusedVariables false
set_option linter.unusedSimpArgs false
set_option maxRecDepth 100000
namespace Go.V
open Go.Proofs
/-- a lane's registers: a cut of the warp's -/
theorem impl_Warp_lane.con {s0 : D.Warp} {A0_1 : Option Addr} {c0_1 : Nat} {A0_2 : Option Addr} {c0_2 : Nat} {x1 : Int} {w : World} (hp : M.impl_Warp_lane_pre s0 x1) (R0_1 : Row el81 w A0_1 s0.Frames) (hc0_1 : s0.Frames.length ≤ c0_1) (R0_2 : Row el3 w A0_2 s0.Regs) (hc0_2 : s0.Regs.length ≤ c0_2) :
    Cll Try.prog 88 #[(.agg #[(.int .i64 s0.Number), (.slice A0_1 s0.Frames.length c0_1), (.slice A0_2 s0.Regs.length c0_2)]), (.int .i64 x1)] w (fun v_ w_ => v_ = (.slice (cutA c0_2 ((IntKind.wrap .i64 (x1 * 4)).toNat) A0_2 1) (List.drop ((IntKind.wrap .i64 (x1 * 4)).toNat) (List.take ((IntKind.wrap .i64 ((IntKind.wrap .i64 (x1 + 1)) * 4)).toNat) s0.Regs)).length (c0_2 - (IntKind.wrap .i64 (x1 * 4)).toNat)) ∧ Ext w w_) := by
  obtain ⟨h32, h0, h7⟩ := hp
  refine impl_Warp_lane.start ?_
  unfold impl_Warp_lane.vc
  refine newBlk fun g w1 L P e => ?_
  have a1 : IntKind.wrap .i64 (x1 * 4) = x1 * 4 := w64 (by omega) (by omega)
  have a2 : IntKind.wrap .i64 ((IntKind.wrap .i64 (x1 + 1)) * 4) = x1 * 4 + 4 := by rw [w64 (x := x1 + 1) (by omega) (by omega), w64 (by omega) (by omega)]; omega
  refine ⟨_, _, _, P.at 2 rfl rfl, ?_⟩
  rw [a1, a2]
  refine ⟨by omega, by omega, by omega, by omega, ?_, e⟩
  have hl : (List.drop (x1 * 4).toNat (List.take (x1 * 4 + 4).toNat s0.Regs)).length = (x1 * 4 + 4).toNat - (x1 * 4).toNat := by simp; omega
  rw [hl]
  have hz : szOf Try.prog 3 = 1 := by kernel_rfl
  rw [hz]
  rfl
theorem impl_Warp_lane.cut {x : D.Warp} {l : Int} (h : M.impl_Warp_lane_pre x l) : (IntKind.wrap .i64 (l * 4)).toNat ≤ (List.take ((IntKind.wrap .i64 ((IntKind.wrap .i64 (l + 1)) * 4)).toNat) x.Regs).length := by
  obtain ⟨h1, h2, h3⟩ := h
  rw [w64 (x := l * 4) (by omega) (by omega), w64 (x := l + 1) (by omega) (by omega), w64 (by omega) (by omega), List.length_take]
  omega
def impl_ActiveMask.vc (x0_0 : Int) (A0_1 : Option Addr) (n0_1 : Nat) (c0_1 : Nat) (A0_2 : Option Addr) (n0_2 : Nat) (c0_2 : Nat) (w : World) (K : Value → World → Prop) : Prop :=
  newK w (.cells #[(.int .i64 x0_0), (.slice A0_1 n0_1 c0_1), (.slice A0_2 n0_2 c0_2)] 30) fun g21 w22 => ∃ (A23 : Option Addr) (n24 : Nat) (c25 : Nat), w22.cell? (((⟨g21, 0, none⟩ : Addr).add 1).add 0) = some (.slice A23 n24 c25) ∧ bcase (((n24 : Nat) : Int) == 0) (K (.int .i64 0) w22) (∃ (A26 : Option Addr) (n27 : Nat) (c28 : Nat), w22.cell? (((⟨g21, 0, none⟩ : Addr).add 1).add 0) = some (.slice A26 n27 c28) ∧ ∃ (A29 : Option Addr) (n30 : Nat) (c31 : Nat), w22.cell? (((⟨g21, 0, none⟩ : Addr).add 1).add 0) = some (.slice A29 n30 c31) ∧ ((0 : Int) ≤ (IntKind.wrap .i64 (((n30 : Nat) : Int) - 1)) ∧ (IntKind.wrap .i64 (((n30 : Nat) : Int) - 1)) < ((n27 : Nat) : Int) ∧ ∃ a32 : Addr, A26 = some a32 ∧ ∃ (n33 : Int), w22.cell? (((a32.add (((IntKind.wrap .i64 (((n30 : Nat) : Int) - 1)).toNat) * 3)).add 2).add 0) = some (.int .i64 n33) ∧ K (.int .i64 n33) w22))

def impl_ActiveMask.ann : Ann := (.seq .l (.seq (.seq .l (.two (.seq .l .l) .l)) (.seq .l .l)))

theorem impl_ActiveMask.start {x0_0 : Int} {A0_1 : Option Addr} {n0_1 : Nat} {c0_1 : Nat} {A0_2 : Option Addr} {n0_2 : Nat} {c0_2 : Nat} {w : World} {K : Value → World → Prop} (h : impl_ActiveMask.vc x0_0 A0_1 n0_1 c0_1 A0_2 n0_2 c0_2 w K) : Cll Try.prog 84 #[(.agg #[(.int .i64 x0_0), (.slice A0_1 n0_1 c0_1), (.slice A0_2 n0_2 c0_2)])] w K :=
  vcF_sound mixed (fn := Try.f84) (by kernel_rfl) (by kernel_rfl) (an := impl_ActiveMask.ann) (args := [(.agg #[(.int .i64 x0_0), (.slice A0_1 n0_1 c0_1), (.slice A0_2 n0_2 c0_2)])]) (Eq.mpr (by kernel_rfl) h)

theorem impl_ActiveMask.con {s0 : D.Warp} {A0_1 : Option Addr} {c0_1 : Nat} {A0_2 : Option Addr} {c0_2 : Nat} {r : Int} {w : World} (hp : M.impl_ActiveMask_pre s0) (hr : r = M.impl_ActiveMask s0) (R0_1 : Row el81 w A0_1 s0.Frames) (hc0_1 : s0.Frames.length ≤ c0_1) (R0_2 : Row el3 w A0_2 s0.Regs) (hc0_2 : s0.Regs.length ≤ c0_2) :
    Cll Try.prog 84 #[(.agg #[(.int .i64 s0.Number), (.slice A0_1 s0.Frames.length c0_1), (.slice A0_2 s0.Regs.length c0_2)])] w (fun v_ w_ => v_ = (.int .i64 r) ∧ Ext w w_) := by
  have H := wp.impl_ActiveMask.math s0 hp
  have hB := Ext.refl w
  refine impl_ActiveMask.start ?_
  unfold impl_ActiveMask.vc
  unfold wp.impl_ActiveMask at H
  refine newBlk (fun g3_ w21 L3 P3 e22 => ?_)
  have O3 := P3
  have L3 := Nat.le_trans hB.size L3
  have hB := ethen hB e22
  refine ⟨_, _, _, (O3.at 1 rfl rfl), ?_⟩
  refine bcase_mk (fun hc28 => ?_) (fun hc28 => ?_)
  · have H := (bcase_iff.1 H).1 hc28
    obtain rfl := hr.trans H.symm
    exact ⟨rfl, hB⟩
  have H := (bcase_iff.1 H).2 hc28
  refine ⟨_, _, _, (O3.at 1 rfl rfl), ?_⟩
  refine ⟨_, _, _, (O3.at 1 rfl rfl), ?_⟩
  obtain ⟨⟨h0_26, h1_27⟩, H⟩ := H
  obtain ⟨a24, ha25, hat23⟩ := Row.at (R0_1.ext hB) h0_26 h1_27
  refine ⟨h0_26, h1_27, a24, ha25, ?_⟩
  refine ⟨_, (hat23 2 _ rfl), ?_⟩
  obtain rfl := hr.trans H.symm
  exact ⟨rfl, hB⟩
def impl_Warp_zeroMask.vc (x0_0 : Int) (A0_1 : Option Addr) (n0_1 : Nat) (c0_1 : Nat) (A0_2 : Option Addr) (n0_2 : Nat) (c0_2 : Nat) (x1 : Int) (w : World) (K : Value → World → Prop) : Prop :=
  newK w (.cells #[(.int .i64 x0_0), (.slice A0_1 n0_1 c0_1), (.slice A0_2 n0_2 c0_2)] 30) fun g21 w22 => ∃ (n23 : Int), w22.cell? ((⟨g21, 0, none⟩ : Addr).add 0) = some (.int .i64 n23) ∧ ∃ (A24 : Option Addr) (n25 : Nat) (c26 : Nat), w22.cell? ((⟨g21, 0, none⟩ : Addr).add 1) = some (.slice A24 n25 c26) ∧ ∃ (A27 : Option Addr) (n28 : Nat) (c29 : Nat), w22.cell? ((⟨g21, 0, none⟩ : Addr).add 2) = some (.slice A27 n28 c29) ∧ Cll Try.prog 84 #[(.agg #[(.int .i64 n23), (.slice A24 n25 c26), (.slice A27 n28 c29)])] w22 fun v30 w31 => (∃ (n32 : Int), v30 = (.int .i64 n32) ∧ Cll Try.prog 86 #[(.int .i64 n32)] w31 fun v33 w34 => (∃ (A35 : Option Addr) (n36 : Nat) (c37 : Nat), v33 = (.slice A35 n36 c37) ∧ LoopT (σ := Int × Int × Unit) (fun z38 w39 next40 => bcase (decide (z38.2.1 < ((n36 : Nat) : Int))) (((0 : Int) ≤ z38.2.1 ∧ z38.2.1 < ((n36 : Nat) : Int) ∧ ∃ a41 : Addr, A35 = some a41 ∧ ∃ (n42 : Int), w39.cell? ((a41.add ((z38.2.1.toNat) * 1)).add 0) = some (.int .i64 n42) ∧ ∃ (n43 : Int), w39.cell? ((⟨g21, 0, none⟩ : Addr).add 0) = some (.int .i64 n43) ∧ ∃ (A44 : Option Addr) (n45 : Nat) (c46 : Nat), w39.cell? ((⟨g21, 0, none⟩ : Addr).add 1) = some (.slice A44 n45 c46) ∧ ∃ (A47 : Option Addr) (n48 : Nat) (c49 : Nat), w39.cell? ((⟨g21, 0, none⟩ : Addr).add 2) = some (.slice A47 n48 c49) ∧ Cll Try.prog 88 #[(.agg #[(.int .i64 n43), (.slice A44 n45 c46), (.slice A47 n48 c49)]), (.int .i64 n42)] w39 fun v50 w51 => (∃ (A52 : Option Addr) (n53 : Nat) (c54 : Nat), v50 = (.slice A52 n53 c54) ∧ ((0 : Int) ≤ x1 ∧ x1 < ((n53 : Nat) : Int) ∧ ∃ a55 : Addr, A52 = some a55 ∧ ∃ (n56 : Int), w51.cell? ((a55.add ((x1.toNat) * 1)).add 0) = some (.int .i64 n56) ∧ bcase (n56 == 0) (((0 : Int) ≤ n42 ∧ next40 ((bitOr .i64 z38.1 (IntKind.wrap .i64 (1 * 2 ^ (min (n42.toNat) (IntKind.bits .i64))))), (IntKind.wrap .i64 (z38.2.1 + 1)), ()) w51)) (next40 (z38.1, (IntKind.wrap .i64 (z38.2.1 + 1)), ()) w51))))) (K (.int .i64 z38.1) w39)) (0, 0, ()) w34))

def impl_Warp_zeroMask.ann : Ann := (.seq .l (.seq .l (.seq (.seq .l (.one (.loop [(5, .int .i64), (12, .int .i64)] (.seq .l (.seq (.two .l .l) (.seq (.one (.seq .l (.seq .l (.two .l .l)))) .l)))))) (.seq .l .l))))

theorem impl_Warp_zeroMask.start {x0_0 : Int} {A0_1 : Option Addr} {n0_1 : Nat} {c0_1 : Nat} {A0_2 : Option Addr} {n0_2 : Nat} {c0_2 : Nat} {x1 : Int} {w : World} {K : Value → World → Prop} (h : impl_Warp_zeroMask.vc x0_0 A0_1 n0_1 c0_1 A0_2 n0_2 c0_2 x1 w K) : Cll Try.prog 83 #[(.agg #[(.int .i64 x0_0), (.slice A0_1 n0_1 c0_1), (.slice A0_2 n0_2 c0_2)]), (.int .i64 x1)] w K :=
  vcF_sound mixed (fn := Try.f83) (by kernel_rfl) (by kernel_rfl) (an := impl_Warp_zeroMask.ann) (args := [(.agg #[(.int .i64 x0_0), (.slice A0_1 n0_1 c0_1), (.slice A0_2 n0_2 c0_2)]), (.int .i64 x1)]) (Eq.mpr (by kernel_rfl) h)

theorem impl_Warp_zeroMask.con {s0 : D.Warp} {A0_1 : Option Addr} {c0_1 : Nat} {A0_2 : Option Addr} {c0_2 : Nat} {x1 : Int} {r : Int} {w : World} (hp : M.impl_Warp_zeroMask_pre s0 x1) (hr : r = M.impl_Warp_zeroMask s0 x1) (R0_1 : Row el81 w A0_1 s0.Frames) (hc0_1 : s0.Frames.length ≤ c0_1) (R0_2 : Row el3 w A0_2 s0.Regs) (hc0_2 : s0.Regs.length ≤ c0_2) :
    Cll Try.prog 83 #[(.agg #[(.int .i64 s0.Number), (.slice A0_1 s0.Frames.length c0_1), (.slice A0_2 s0.Regs.length c0_2)]), (.int .i64 x1)] w (fun v_ w_ => v_ = (.int .i64 r) ∧ Ext w w_) := by
  have H := wp.impl_Warp_zeroMask.math s0 x1 hp
  have hB := Ext.refl w
  refine impl_Warp_zeroMask.start ?_
  unfold impl_Warp_zeroMask.vc
  unfold wp.impl_Warp_zeroMask at H
  refine newBlk (fun g3_ w21 L3 P3 e22 => ?_)
  have O3 := P3
  have L3 := Nat.le_trans hB.size L3
  have hB := ethen hB e22
  refine ⟨_, (O3.at 0 rfl rfl), ?_⟩
  refine ⟨_, _, _, (O3.at 1 rfl rfl), ?_⟩
  refine ⟨_, _, _, (O3.at 2 rfl rfl), ?_⟩
  obtain ⟨hp25, H⟩ := H
  obtain ⟨r23, hr24⟩ : ∃ r_, r_ = M.impl_ActiveMask s0 := ⟨_, rfl⟩
  have H := H r23 hr24
  refine (impl_ActiveMask.con hp25 hr24 (R0_1.ext hB) hc0_1 (R0_2.ext hB) hc0_2).mono ?_
  rintro _ w26 ⟨rfl, e27⟩
  have O3 := O3.ext e27
  have hB := ethen hB e27
  refine ⟨r23, rfl, ?_⟩
  obtain ⟨r28, hr29⟩ : ∃ r_, r_ = M.impl_LanesOf r23 := ⟨_, rfl⟩
  have H := H r28 hr29
  refine (impl_LanesOf.con hr29 ).mono ?_
  rintro _ w31 ⟨A33, c34, rfl, P4, e32⟩
  have N4_3 := P4.apart_old O3.lt
  have O3 := O3.ext e32
  have O4 := P4.mono hB.size
  have hB := ethen hB e32
  refine ⟨A33, r28.length, c34, rfl, ?_⟩
  obtain ⟨J38, ⟨m66, hJ65⟩, hS39⟩ := H
  refine ⟨fun m_ z_ w_ => ∃ (i35 : Int) (i36 : Int), z_ = (i35, i36, ()) ∧ J38 m_ (i35, i36, ()) ∧ Ext w w_ ∧ Blk w_ g3_ 30 #[(.int .i64 s0.Number), (.slice A0_1 s0.Frames.length c0_1), (.slice A0_2 s0.Regs.length c0_2)] ∧ Own el3 w_ w.heap.size A33 c34 r28, ⟨m66, 0, 0, rfl, hJ65, hB, O3, O4⟩, ?_⟩
  rintro m37 _ w41 ⟨i35, i36, rfl, hJ67, hB, O3, O4⟩
  have H := hS39 m37 _ hJ67
  clear hS39 hJ67
  try dsimp only at H ⊢
  refine bcase_mk (fun hc63 => ?_) (fun hc63 => ?_)
  · have H := (bcase_iff.1 H).1 hc63
    obtain ⟨⟨h0_45, h1_46⟩, H⟩ := H
    obtain ⟨a43, ha44, hat42⟩ := Row.at O4.row h0_45 h1_46
    refine ⟨h0_45, h1_46, a43, ha44, ?_⟩
    refine ⟨_, (hat42 0 _ rfl), ?_⟩
    refine ⟨_, (O3.at 0 rfl rfl), ?_⟩
    refine ⟨_, _, _, (O3.at 1 rfl rfl), ?_⟩
    refine ⟨_, _, _, (O3.at 2 rfl rfl), ?_⟩
    obtain ⟨hp47, H⟩ := H
    refine (impl_Warp_lane.con hp47 (R0_1.ext hB) hc0_1 (R0_2.ext hB) hc0_2).mono ?_
    rintro _ w48 ⟨rfl, e49⟩
    have O3 := O3.ext e49
    have O4 := O4.ext e49
    have hB := ethen hB e49
    have R5_ := (R0_2.take ((IntKind.wrap .i64 ((IntKind.wrap .i64 ((rd r28 i36) + 1)) * 4)).toNat)).drop (l := ((IntKind.wrap .i64 ((rd r28 i36) * 4)).toNat)) (m := c0_2) (by have := hc0_2; simp; omega)
    have le5_ : (List.drop ((IntKind.wrap .i64 ((rd r28 i36) * 4)).toNat) (List.take ((IntKind.wrap .i64 ((IntKind.wrap .i64 ((rd r28 i36) + 1)) * 4)).toNat) s0.Regs)).length ≤ (c0_2 - ((IntKind.wrap .i64 ((rd r28 i36) * 4)).toNat)) := by have := hc0_2; simp; omega
    refine ⟨(cutA c0_2 ((IntKind.wrap .i64 ((rd r28 i36) * 4)).toNat) A0_2 1), (List.drop ((IntKind.wrap .i64 ((rd r28 i36) * 4)).toNat) (List.take ((IntKind.wrap .i64 ((IntKind.wrap .i64 ((rd r28 i36) + 1)) * 4)).toNat) s0.Regs)).length, (c0_2 - ((IntKind.wrap .i64 ((rd r28 i36) * 4)).toNat)), rfl, ?_⟩
    obtain ⟨⟨h0_53, h1_54⟩, H⟩ := H
    obtain ⟨a51, ha52, hat50⟩ := Row.at (R5_.ext hB) h0_53 h1_54
    refine ⟨h0_53, h1_54, a51, ha52, ?_⟩
    refine ⟨_, (hat50 0 _ rfl), ?_⟩
    refine bcase_mk (fun hc62 => ?_) (fun hc62 => ?_)
    · have H := (bcase_iff.1 H).1 hc62
      obtain ⟨hc55, H⟩ := H
      refine ⟨hc55, ?_⟩
      obtain ⟨m56, hm57, hJ58⟩ := H
      exact ⟨m56, hm57, (bitOr .i64 i35 (IntKind.wrap .i64 (1 * 2 ^ (min ((rd r28 i36).toNat) (IntKind.bits .i64))))), (IntKind.wrap .i64 (i36 + 1)), rfl, hJ58, hB, O3, O4⟩
    have H := (bcase_iff.1 H).2 hc62
    obtain ⟨m59, hm60, hJ61⟩ := H
    exact ⟨m59, hm60, i35, (IntKind.wrap .i64 (i36 + 1)), rfl, hJ61, hB, O3, O4⟩
  have H := (bcase_iff.1 H).2 hc63
  obtain rfl := hr.trans H.symm
  exact ⟨rfl, hB⟩
def impl_Warp_splits.vc (x0_0 : Int) (A0_1 : Option Addr) (n0_1 : Nat) (c0_1 : Nat) (A0_2 : Option Addr) (n0_2 : Nat) (c0_2 : Nat) (A1 : Option Addr) (n1 : Nat) (c1 : Nat) (w : World) (K : Value → World → Prop) : Prop :=
  newK w (.cells #[(.int .i64 x0_0), (.slice A0_1 n0_1 c0_1), (.slice A0_2 n0_2 c0_2)] 30) fun g21 w22 => ∃ (A23 : Option Addr) (n24 : Nat) (c25 : Nat), w22.cell? (((⟨g21, 0, none⟩ : Addr).add 1).add 0) = some (.slice A23 n24 c25) ∧ ∃ (A26 : Option Addr) (n27 : Nat) (c28 : Nat), w22.cell? (((⟨g21, 0, none⟩ : Addr).add 1).add 0) = some (.slice A26 n27 c28) ∧ ((0 : Int) ≤ (IntKind.wrap .i64 (((n27 : Nat) : Int) - 1)) ∧ (IntKind.wrap .i64 (((n27 : Nat) : Int) - 1)) < ((n24 : Nat) : Int) ∧ ∃ a29 : Addr, A23 = some a29 ∧ ∃ (n30 : Int), w22.cell? (((a29.add (((IntKind.wrap .i64 (((n27 : Nat) : Int) - 1)).toNat) * 3)).add 0).add 0) = some (.int .i64 n30) ∧ ((0 : Int) ≤ n30 ∧ n30 < ((n1 : Nat) : Int) ∧ ∃ a32 : Addr, A1 = some a32 ∧ ∃ (n33 : Int), w22.cell? (((a32.add ((n30.toNat) * 4)).add 0).add 0) = some (.int .i64 n33) ∧ bcase (n33 != 10) (K (.bool false) w22) (((0 : Int) ≤ n30 ∧ n30 < ((n1 : Nat) : Int) ∧ ∃ a34 : Addr, A1 = some a34 ∧ ∃ (n35 : Int), w22.cell? (((a34.add ((n30.toNat) * 4)).add 2).add 0) = some (.int .i64 n35) ∧ bcase (n35 == (IntKind.wrap .i64 (n30 + 1))) (K (.bool false) w22) ((∃ M36 : Nat → Prop, ∃ (n37 : Int), (¬ M36 ((⟨g21, 0, none⟩ : Addr)).block ∧ w22.cell? ((⟨g21, 0, none⟩ : Addr).add 0) = some (.int .i64 n37)) ∧ ∃ (A38 : Option Addr) (n39 : Nat) (c40 : Nat), (¬ M36 ((⟨g21, 0, none⟩ : Addr)).block ∧ w22.cell? ((⟨g21, 0, none⟩ : Addr).add 1) = some (.slice A38 n39 c40)) ∧ ∃ (A41 : Option Addr) (n42 : Nat) (c43 : Nat), (¬ M36 ((⟨g21, 0, none⟩ : Addr)).block ∧ w22.cell? ((⟨g21, 0, none⟩ : Addr).add 2) = some (.slice A41 n42 c43)) ∧ ((0 : Int) ≤ n30 ∧ n30 < ((n1 : Nat) : Int) ∧ ∃ a44 : Addr, A1 = some a44 ∧ ∃ (n45 : Int), (¬ M36 (((a44.add ((n30.toNat) * 4)).add 1)).block ∧ w22.cell? (((a44.add ((n30.toNat) * 4)).add 1).add 0) = some (.int .i64 n45)) ∧ Cll Try.prog 83 #[(.agg #[(.int .i64 n37), (.slice A38 n39 c40), (.slice A41 n42 c43)]), (.int .i64 n45)] w22.drew fun v46 w47 => (∃ (n48 : Int), v46 = (.int .i64 n48) ∧ SameBut M36 w22 w47 ∧ bcase (n48 != 0) (∃ (n49 : Int), w47.cell? ((⟨g21, 0, none⟩ : Addr).add 0) = some (.int .i64 n49) ∧ ∃ (A50 : Option Addr) (n51 : Nat) (c52 : Nat), w47.cell? ((⟨g21, 0, none⟩ : Addr).add 1) = some (.slice A50 n51 c52) ∧ ∃ (A53 : Option Addr) (n54 : Nat) (c55 : Nat), w47.cell? ((⟨g21, 0, none⟩ : Addr).add 2) = some (.slice A53 n54 c55) ∧ Cll Try.prog 84 #[(.agg #[(.int .i64 n49), (.slice A50 n51 c52), (.slice A53 n54 c55)])] w47 fun v56 w57 => (∃ (n58 : Int), v56 = (.int .i64 n58) ∧ K (.bool (n48 != n58)) w57)) (K (.bool false) w47)))))))))

def impl_Warp_splits.ann : Ann := (.seq .l (.seq .l (.seq (.seq .l (.two (.seq .l .l) .l)) (.seq .l (.seq .l .l)))))

theorem impl_Warp_splits.start {x0_0 : Int} {A0_1 : Option Addr} {n0_1 : Nat} {c0_1 : Nat} {A0_2 : Option Addr} {n0_2 : Nat} {c0_2 : Nat} {A1 : Option Addr} {n1 : Nat} {c1 : Nat} {w : World} {K : Value → World → Prop} (h : impl_Warp_splits.vc x0_0 A0_1 n0_1 c0_1 A0_2 n0_2 c0_2 A1 n1 c1 w K) : Cll Try.prog 71 #[(.agg #[(.int .i64 x0_0), (.slice A0_1 n0_1 c0_1), (.slice A0_2 n0_2 c0_2)]), (.slice A1 n1 c1)] w K :=
  vcF_sound mixed (fn := Try.f71) (by kernel_rfl) (by kernel_rfl) (an := impl_Warp_splits.ann) (args := [(.agg #[(.int .i64 x0_0), (.slice A0_1 n0_1 c0_1), (.slice A0_2 n0_2 c0_2)]), (.slice A1 n1 c1)]) (Eq.mpr (by kernel_rfl) h)

theorem impl_Warp_splits.con {s0 : D.Warp} {A0_1 : Option Addr} {c0_1 : Nat} {A0_2 : Option Addr} {c0_2 : Nat} {xs1 : List D.Ins} {A1 : Option Addr} {c1 : Nat} {r : Bool} {w : World} (hp : M.impl_Warp_splits_pre s0 xs1) (hr : r = M.impl_Warp_splits s0 xs1) (R0_1 : Row el81 w A0_1 s0.Frames) (hc0_1 : s0.Frames.length ≤ c0_1) (R0_2 : Row el3 w A0_2 s0.Regs) (hc0_2 : s0.Regs.length ≤ c0_2) (R1 : Row el60 w A1 xs1) (hc1 : xs1.length ≤ c1) :
    Cll Try.prog 71 #[(.agg #[(.int .i64 s0.Number), (.slice A0_1 s0.Frames.length c0_1), (.slice A0_2 s0.Regs.length c0_2)]), (.slice A1 xs1.length c1)] w (fun v_ w_ => v_ = (.bool r) ∧ Ext w w_) := by
  have H := wp.impl_Warp_splits.math s0 xs1 hp
  have hB := Ext.refl w
  refine impl_Warp_splits.start ?_
  unfold impl_Warp_splits.vc
  unfold wp.impl_Warp_splits at H
  refine newBlk (fun g4_ w21 L4 P4 e22 => ?_)
  have O4 := P4
  have L4 := Nat.le_trans hB.size L4
  have hB := ethen hB e22
  refine ⟨_, _, _, (O4.at 1 rfl rfl), ?_⟩
  refine ⟨_, _, _, (O4.at 1 rfl rfl), ?_⟩
  obtain ⟨⟨h0_26, h1_27⟩, H⟩ := H
  obtain ⟨a24, ha25, hat23⟩ := Row.at (R0_1.ext hB) h0_26 h1_27
  refine ⟨h0_26, h1_27, a24, ha25, ?_⟩
  refine ⟨_, (hat23 0 _ rfl), ?_⟩
  obtain ⟨⟨h0_31, h1_32⟩, H⟩ := H
  obtain ⟨a29, ha30, hat28⟩ := Row.at (R1.ext hB) h0_31 h1_32
  refine ⟨h0_31, h1_32, a29, ha30, ?_⟩
  refine ⟨_, (hat28 0 _ rfl), ?_⟩
  refine bcase_mk (fun hc56 => ?_) (fun hc56 => ?_)
  · have H := (bcase_iff.1 H).1 hc56
    obtain rfl := hr.trans H.symm
    exact ⟨rfl, hB⟩
  have H := (bcase_iff.1 H).2 hc56
  obtain ⟨⟨h0_36, h1_37⟩, H⟩ := H
  obtain ⟨a34, ha35, hat33⟩ := Row.at (R1.ext hB) h0_36 h1_37
  refine ⟨h0_36, h1_37, a34, ha35, ?_⟩
  refine ⟨_, (hat33 2 _ rfl), ?_⟩
  refine bcase_mk (fun hc55 => ?_) (fun hc55 => ?_)
  · have H := (bcase_iff.1 H).1 hc55
    obtain rfl := hr.trans H.symm
    exact ⟨rfl, hB⟩
  have H := (bcase_iff.1 H).2 hc55
  refine ⟨(fun _ => False), ?_⟩
  refine ⟨_, ⟨(fun h_ => h_), (O4.at 0 rfl rfl)⟩, ?_⟩
  refine ⟨_, _, _, ⟨(fun h_ => h_), (O4.at 1 rfl rfl)⟩, ?_⟩
  refine ⟨_, _, _, ⟨(fun h_ => h_), (O4.at 2 rfl rfl)⟩, ?_⟩
  obtain ⟨⟨h0_42, h1_43⟩, H⟩ := H
  obtain ⟨a40, ha41, hat39⟩ := Row.at (R1.ext hB) h0_42 h1_43
  refine ⟨h0_42, h1_43, a40, ha41, ?_⟩
  refine ⟨_, ⟨(fun h_ => h_), (hat39 1 _ rfl)⟩, ?_⟩
  have hS38 := Chg.refl (fun _ => False) w21
  have O4 := O4.ext (Ext.drew _)
  have hB := ethen hB (Ext.drew _)
  have hS38 := hS38.then (Ext.drew _)
  obtain ⟨hp46, H⟩ := H
  obtain ⟨r44, hr45⟩ : ∃ r_, r_ = M.impl_Warp_zeroMask s0 ((rd xs1 ((rd s0.Frames (IntKind.wrap .i64 (((s0.Frames.length : Nat) : Int) - 1))).Pc)).A) := ⟨_, rfl⟩
  have H := H r44 hr45
  refine (impl_Warp_zeroMask.con hp46 hr45 (R0_1.ext hB) hc0_1 (R0_2.ext hB) hc0_2).mono ?_
  rintro _ w47 ⟨rfl, e48⟩
  have O4 := O4.ext e48
  have hB := ethen hB e48
  have hS38 := hS38.then e48
  refine ⟨r44, rfl, ?_⟩
  refine ⟨sameBut_chg hS38, ?_⟩
  refine bcase_mk (fun hc54 => ?_) (fun hc54 => ?_)
  · have H := (bcase_iff.1 H).1 hc54
    refine ⟨_, (O4.at 0 rfl rfl), ?_⟩
    refine ⟨_, _, _, (O4.at 1 rfl rfl), ?_⟩
    refine ⟨_, _, _, (O4.at 2 rfl rfl), ?_⟩
    obtain ⟨hp51, H⟩ := H
    obtain ⟨r49, hr50⟩ : ∃ r_, r_ = M.impl_ActiveMask s0 := ⟨_, rfl⟩
    have H := H r49 hr50
    refine (impl_ActiveMask.con hp51 hr50 (R0_1.ext hB) hc0_1 (R0_2.ext hB) hc0_2).mono ?_
    rintro _ w52 ⟨rfl, e53⟩
    have O4 := O4.ext e53
    have hB := ethen hB e53
    refine ⟨r49, rfl, ?_⟩
    obtain rfl := hr.trans H.symm
    exact ⟨rfl, hB⟩
  have H := (bcase_iff.1 H).2 hc54
  obtain rfl := hr.trans H.symm
  exact ⟨rfl, hB⟩
def cmp_isNaN_int.vc (x0 : Int) (w : World) (K : Value → World → Prop) : Prop :=
  K (.bool (x0 != x0)) w

def cmp_isNaN_int.ann : Ann := (.seq .l (.seq .l .l))

theorem cmp_isNaN_int.start {x0 : Int} {w : World} {K : Value → World → Prop} (h : cmp_isNaN_int.vc x0 w K) : Cll Try.prog 143 #[(.int .i64 x0)] w K :=
  vcF_sound mixed (fn := Try.f143) (by kernel_rfl) (by kernel_rfl) (an := cmp_isNaN_int.ann) (args := [(.int .i64 x0)]) (Eq.mpr (by kernel_rfl) h)

theorem cmp_isNaN_int.con {x0 : Int} {r : Bool} {w : World} (hr : r = M.cmp_isNaN_int x0)  :
    Cll Try.prog 143 #[(.int .i64 x0)] w (fun v_ w_ => v_ = (.bool r) ∧ Ext w w_) := by
  have H := wp.cmp_isNaN_int.math x0
  have hB := Ext.refl w
  refine cmp_isNaN_int.start ?_
  unfold cmp_isNaN_int.vc
  unfold wp.cmp_isNaN_int at H
  obtain rfl := hr.trans H.symm
  exact ⟨rfl, hB⟩
def cmp_Less_int.vc (x0 : Int) (x1 : Int) (w : World) (K : Value → World → Prop) : Prop :=
  Cll Try.prog 143 #[(.int .i64 x0)] w fun v21 w22 => (∃ (b23 : Bool), v21 = (.bool b23) ∧ bcase b23 (Cll Try.prog 143 #[(.int .i64 x1)] w22 fun v24 w25 => (∃ (b26 : Bool), v24 = (.bool b26) ∧ bcase (!b26) (K (.bool true) w25) (K (.bool (decide (x0 < x1))) w25))) (K (.bool (decide (x0 < x1))) w22))

def cmp_Less_int.ann : Ann := (.seq .l (.seq .l .l))

theorem cmp_Less_int.start {x0 : Int} {x1 : Int} {w : World} {K : Value → World → Prop} (h : cmp_Less_int.vc x0 x1 w K) : Cll Try.prog 132 #[(.int .i64 x0), (.int .i64 x1)] w K :=
  vcF_sound mixed (fn := Try.f132) (by kernel_rfl) (by kernel_rfl) (an := cmp_Less_int.ann) (args := [(.int .i64 x0), (.int .i64 x1)]) (Eq.mpr (by kernel_rfl) h)

theorem cmp_Less_int.con {x0 : Int} {x1 : Int} {r : Bool} {w : World} (hr : r = M.cmp_Less_int x0 x1)  :
    Cll Try.prog 132 #[(.int .i64 x0), (.int .i64 x1)] w (fun v_ w_ => v_ = (.bool r) ∧ Ext w w_) := by
  have H := wp.cmp_Less_int.math x0 x1
  have hB := Ext.refl w
  refine cmp_Less_int.start ?_
  unfold cmp_Less_int.vc
  unfold wp.cmp_Less_int at H
  obtain ⟨r21, hr22⟩ : ∃ r_, r_ = M.cmp_isNaN_int x0 := ⟨_, rfl⟩
  have H := H r21 hr22
  refine (cmp_isNaN_int.con hr22 ).mono ?_
  rintro _ w24 ⟨rfl, e25⟩
  have hB := ethen hB e25
  refine ⟨r21, rfl, ?_⟩
  refine bcase_mk (fun hc32 => ?_) (fun hc32 => ?_)
  · have H := (bcase_iff.1 H).1 hc32
    obtain ⟨r26, hr27⟩ : ∃ r_, r_ = M.cmp_isNaN_int x1 := ⟨_, rfl⟩
    have H := H r26 hr27
    refine (cmp_isNaN_int.con hr27 ).mono ?_
    rintro _ w29 ⟨rfl, e30⟩
    have hB := ethen hB e30
    refine ⟨r26, rfl, ?_⟩
    refine bcase_mk (fun hc31 => ?_) (fun hc31 => ?_)
    · have H := (bcase_iff.1 H).1 hc31
      obtain rfl := hr.trans H.symm
      exact ⟨rfl, hB⟩
    have H := (bcase_iff.1 H).2 hc31
    obtain rfl := hr.trans H.symm
    exact ⟨rfl, hB⟩
  have H := (bcase_iff.1 H).2 hc32
  obtain rfl := hr.trans H.symm
  exact ⟨rfl, hB⟩
def slices_insertionSortOrdered_int.vc (A0 : Option Addr) (n0 : Nat) (c0 : Nat) (x1 : Int) (x2 : Int) (w : World) (K : Value → World → Prop) : Prop :=
  LoopT (σ := Int × Unit) (fun z21 w22 next23 => bcase (decide (z21.1 < x2)) (LoopT (σ := Int × Unit) (fun z24 w25 next26 => JoinT (σ := Unit) (fun J27 => bcase (decide (z24.1 > x1)) (((0 : Int) ≤ z24.1 ∧ z24.1 < ((n0 : Nat) : Int) ∧ ∃ a28 : Addr, A0 = some a28 ∧ ((0 : Int) ≤ (IntKind.wrap .i64 (z24.1 - 1)) ∧ (IntKind.wrap .i64 (z24.1 - 1)) < ((n0 : Nat) : Int) ∧ ∃ a29 : Addr, A0 = some a29 ∧ ((∃ (n30 : Int), w25.drew.cell? ((a28.add ((z24.1.toNat) * 1)).add 0) = some (.int .i64 n30) ∧ ((∃ (n31 : Int), w25.drew.cell? ((a29.add (((IntKind.wrap .i64 (z24.1 - 1)).toNat) * 1)).add 0) = some (.int .i64 n31) ∧ ((Cll Try.prog 132 #[(.int .i64 n30), (.int .i64 n31)] w25.drew fun v32 w33 => (∃ (b34 : Bool), v32 = (.bool b34) ∧ bcase b34 (J27 () w33) (next23 ((IntKind.wrap .i64 (z21.1 + 1)), ()) w33))) ∧ True)) ∧ True)) ∧ (∃ (n35 : Int), w25.drew.cell? ((a29.add (((IntKind.wrap .i64 (z24.1 - 1)).toNat) * 1)).add 0) = some (.int .i64 n35) ∧ ((∃ (n36 : Int), w25.drew.cell? ((a28.add ((z24.1.toNat) * 1)).add 0) = some (.int .i64 n36) ∧ ((Cll Try.prog 132 #[(.int .i64 n36), (.int .i64 n35)] w25.drew fun v37 w38 => (∃ (b39 : Bool), v37 = (.bool b39) ∧ bcase b39 (J27 () w38) (next23 ((IntKind.wrap .i64 (z21.1 + 1)), ()) w38))) ∧ True)) ∧ True)) ∧ True)))) (((((((next23 ((IntKind.wrap .i64 (z21.1 + 1)), ()) w25.drew) ∧ True)) ∧ True)) ∧ (((((next23 ((IntKind.wrap .i64 (z21.1 + 1)), ()) w25.drew) ∧ True)) ∧ True)) ∧ True))) fun z40 w41 => ((0 : Int) ≤ (IntKind.wrap .i64 (z24.1 - 1)) ∧ (IntKind.wrap .i64 (z24.1 - 1)) < ((n0 : Nat) : Int) ∧ ∃ a42 : Addr, A0 = some a42 ∧ ((0 : Int) ≤ z24.1 ∧ z24.1 < ((n0 : Nat) : Int) ∧ ∃ a43 : Addr, A0 = some a43 ∧ ((∃ (n44 : Int), w41.drew.cell? ((a42.add (((IntKind.wrap .i64 (z24.1 - 1)).toNat) * 1)).add 0) = some (.int .i64 n44) ∧ ((∃ (n45 : Int), w41.drew.cell? ((a43.add ((z24.1.toNat) * 1)).add 0) = some (.int .i64 n45) ∧ ((0 : Int) ≤ z24.1 ∧ z24.1 < ((n0 : Nat) : Int) ∧ ∃ a46 : Addr, A0 = some a46 ∧ ((stCells (a46.add ((z24.1.toNat) * 1)) [(.int .i64 n44)] 0 w41.drew fun w47 => ((0 : Int) ≤ (IntKind.wrap .i64 (z24.1 - 1)) ∧ (IntKind.wrap .i64 (z24.1 - 1)) < ((n0 : Nat) : Int) ∧ ∃ a48 : Addr, A0 = some a48 ∧ ((stCells (a48.add (((IntKind.wrap .i64 (z24.1 - 1)).toNat) * 1)) [(.int .i64 n45)] 0 w47 fun w49 => next26 ((IntKind.wrap .i64 (z24.1 - 1)), ()) w49) ∧ True))) ∧ True))) ∧ True)) ∧ (∃ (n50 : Int), w41.drew.cell? ((a43.add ((z24.1.toNat) * 1)).add 0) = some (.int .i64 n50) ∧ ((∃ (n51 : Int), w41.drew.cell? ((a42.add (((IntKind.wrap .i64 (z24.1 - 1)).toNat) * 1)).add 0) = some (.int .i64 n51) ∧ ((0 : Int) ≤ z24.1 ∧ z24.1 < ((n0 : Nat) : Int) ∧ ∃ a52 : Addr, A0 = some a52 ∧ ((stCells (a52.add ((z24.1.toNat) * 1)) [(.int .i64 n51)] 0 w41.drew fun w53 => ((0 : Int) ≤ (IntKind.wrap .i64 (z24.1 - 1)) ∧ (IntKind.wrap .i64 (z24.1 - 1)) < ((n0 : Nat) : Int) ∧ ∃ a54 : Addr, A0 = some a54 ∧ ((stCells (a54.add (((IntKind.wrap .i64 (z24.1 - 1)).toNat) * 1)) [(.int .i64 n50)] 0 w53 fun w55 => next26 ((IntKind.wrap .i64 (z24.1 - 1)), ()) w55) ∧ True))) ∧ True))) ∧ True)) ∧ True)))) (z21.1, ()) w22) (K (.tuple #[]) w22)) ((IntKind.wrap .i64 (x1 + 1)), ()) w

def slices_insertionSortOrdered_int.ann : Ann := (.seq .l (.one (.loop [(6, .int .i64)] (.seq (.seq .l (.two .l .l)) (.seq (.one (.seq .l (.one (.loop [(7, .int .i64)] (.cut [] (.seq .each (.two .l .l)) (.seq (.one .each) .l)))))) .l)))))

theorem slices_insertionSortOrdered_int.start {A0 : Option Addr} {n0 : Nat} {c0 : Nat} {x1 : Int} {x2 : Int} {w : World} {K : Value → World → Prop} (h : slices_insertionSortOrdered_int.vc A0 n0 c0 x1 x2 w K) : Cll Try.prog 126 #[(.slice A0 n0 c0), (.int .i64 x1), (.int .i64 x2)] w K :=
  vcF_sound mixed (fn := Try.f126) (by kernel_rfl) (by kernel_rfl) (an := slices_insertionSortOrdered_int.ann) (args := [(.slice A0 n0 c0), (.int .i64 x1), (.int .i64 x2)]) (Eq.mpr (by kernel_rfl) h)

theorem slices_insertionSortOrdered_int.con {xs0 : List Int} {A0 : Option Addr} {c0 : Nat} {x1 : Int} {x2 : Int} {r : (List Int)} {w : World} (hp : M.slices_insertionSortOrdered_int_pre xs0 x1 x2) (hr : r = M.slices_insertionSortOrdered_int xs0 x1 x2) (O1 : Own el3 w 0 A0 c0 xs0) :
    Cll Try.prog 126 #[(.slice A0 xs0.length c0), (.int .i64 x1), (.int .i64 x2)] w (fun v_ w_ => v_ = (.tuple #[]) ∧ Own el3 w_ 0 A0 c0 r ∧ r.length = xs0.length ∧ Chg (InB A0) w w_) := by
  have H := wp.slices_insertionSortOrdered_int.math xs0 x1 x2 hp
  have hB := Chg.refl (InB A0) w
  refine slices_insertionSortOrdered_int.start ?_
  unfold slices_insertionSortOrdered_int.vc
  unfold wp.slices_insertionSortOrdered_int at H
  obtain ⟨J124, ⟨m301, hJ300⟩, hS125⟩ := H
  refine ⟨fun m_ z_ w_ => ∃ (i120 : Int) (xs121 : List Int), z_ = (i120, ()) ∧ J124 m_ (i120, xs121, ()) ∧ Chg (InB A0) w w_ ∧ Own el3 w_ 0 A0 c0 xs121 ∧ xs0.length = xs121.length, ⟨m301, (IntKind.wrap .i64 (x1 + 1)), xs0, rfl, hJ300, hB, O1, (by first | rfl | assumption | omega | (simp; done) | (simp; omega) | (simp; assumption))⟩, ?_⟩
  rintro m123 _ w127 ⟨i120, xs121, rfl, hJ302, hB, O1, hn122⟩
  have H := hS125 m123 _ hJ302
  clear hS125 hJ302
  try dsimp only at H ⊢
  refine bcase_mk (fun hc298 => ?_) (fun hc298 => ?_)
  · have H := (bcase_iff.1 H).1 hc298
    obtain ⟨J202, ⟨m296, hJ295⟩, hS203⟩ := H
    refine ⟨fun m_ z_ w_ => ∃ (i198 : Int) (xs199 : List Int), z_ = (i198, ()) ∧ J202 m_ (i198, xs199, ()) ∧ Chg (InB A0) w w_ ∧ Own el3 w_ 0 A0 c0 xs199 ∧ xs0.length = xs199.length, ⟨m296, i120, xs121, rfl, hJ295, hB, O1, (by first | rfl | assumption | omega | (simp; done) | (simp; omega) | (simp; assumption))⟩, ?_⟩
    rintro m201 _ w205 ⟨i198, xs199, rfl, hJ297, hB, O1, hn200⟩
    have H := hS203 m201 _ hJ297
    clear hS203 hJ297
    try dsimp only at H ⊢
    obtain ⟨K293, hKK293, H⟩ := joinP_out H
    refine ⟨fun z_ w_ => z_ = (()) ∧ K293 (()) ∧ Chg (InB A0) w w_ ∧ Own el3 w_ 0 A0 c0 xs199, ?_, ?_⟩
    · have O1 := O1.ext (Ext.drew _)
      have hB := hB.then (Ext.drew _)
      refine bcase_mk (fun hc243 => ?_) (fun hc243 => ?_)
      · have H := (bcase_iff.1 H).1 hc243
        obtain ⟨⟨h0_212, h1_213⟩, H⟩ := H
        obtain ⟨a210, ha211, hat209⟩ := Row.at O1.row h0_212 h1_213
        refine ⟨h0_212, (by first | exact h1_213 | omega | (simp at h1_213 ⊢; omega)), a210, ha211, ?_⟩
        obtain ⟨⟨h0_217, h1_218⟩, H⟩ := H
        obtain ⟨a215, ha216, hat214⟩ := Row.at O1.row h0_217 h1_218
        refine ⟨h0_217, (by first | exact h1_218 | omega | (simp at h1_218 ⊢; omega)), a215, ha216, ?_⟩
        refine And.intro ?_ ?_
        · have H := H.1
          refine ⟨_, (hat209 0 _ rfl), ?_⟩
          refine and_t ?_
          refine ⟨_, (hat214 0 _ rfl), ?_⟩
          refine and_t ?_
          obtain ⟨r219, hr220⟩ : ∃ r_, r_ = M.cmp_Less_int (rd xs199 i198) (rd xs199 (IntKind.wrap .i64 (i198 - 1))) := ⟨_, rfl⟩
          have H := H r219 hr220
          refine (cmp_Less_int.con hr220 ).mono ?_
          rintro _ w222 ⟨rfl, e223⟩
          have O1 := O1.ext e223
          have hB := hB.then e223
          refine ⟨r219, rfl, ?_⟩
          refine bcase_mk (fun hc227 => ?_) (fun hc227 => ?_)
          · have H := (bcase_iff.1 H).1 hc227
            exact ⟨rfl, H, hB, O1⟩
          have H := (bcase_iff.1 H).2 hc227
          obtain ⟨m224, hm225, hJ226⟩ := H
          exact ⟨m224, hm225, (IntKind.wrap .i64 (i120 + 1)), xs199, rfl, hJ226, hB, O1, (by first | rfl | assumption | omega | (simp; done) | (simp; omega) | (simp; assumption))⟩
        refine And.intro ?_ ?_
        · have H := H.2.1
          refine ⟨_, (hat214 0 _ rfl), ?_⟩
          refine and_t ?_
          refine ⟨_, (hat209 0 _ rfl), ?_⟩
          refine and_t ?_
          obtain ⟨r228, hr229⟩ : ∃ r_, r_ = M.cmp_Less_int (rd xs199 i198) (rd xs199 (IntKind.wrap .i64 (i198 - 1))) := ⟨_, rfl⟩
          have H := H r228 hr229
          refine (cmp_Less_int.con hr229 ).mono ?_
          rintro _ w231 ⟨rfl, e232⟩
          have O1 := O1.ext e232
          have hB := hB.then e232
          refine ⟨r228, rfl, ?_⟩
          refine bcase_mk (fun hc236 => ?_) (fun hc236 => ?_)
          · have H := (bcase_iff.1 H).1 hc236
            exact ⟨rfl, H, hB, O1⟩
          have H := (bcase_iff.1 H).2 hc236
          obtain ⟨m233, hm234, hJ235⟩ := H
          exact ⟨m233, hm234, (IntKind.wrap .i64 (i120 + 1)), xs199, rfl, hJ235, hB, O1, (by first | rfl | assumption | omega | (simp; done) | (simp; omega) | (simp; assumption))⟩
        exact trivial
      have H := (bcase_iff.1 H).2 hc243
      refine And.intro ?_ ?_
      · have H := H.1
        refine and_t ?_
        refine and_t ?_
        obtain ⟨m237, hm238, hJ239⟩ := H
        exact ⟨m237, hm238, (IntKind.wrap .i64 (i120 + 1)), xs199, rfl, hJ239, hB, O1, (by first | rfl | assumption | omega | (simp; done) | (simp; omega) | (simp; assumption))⟩
      refine And.intro ?_ ?_
      · have H := H.2.1
        refine and_t ?_
        refine and_t ?_
        obtain ⟨m240, hm241, hJ242⟩ := H
        exact ⟨m240, hm241, (IntKind.wrap .i64 (i120 + 1)), xs199, rfl, hJ242, hB, O1, (by first | rfl | assumption | omega | (simp; done) | (simp; omega) | (simp; assumption))⟩
      exact trivial
    rintro _ w207 ⟨rfl, H, hB, O1⟩
    have H := hKK293 _ H
    try dsimp only at H ⊢
    have O1 := O1.ext (Ext.drew _)
    have hB := hB.then (Ext.drew _)
    obtain ⟨⟨h0_247, h1_248⟩, H⟩ := H
    obtain ⟨a245, ha246, hat244⟩ := Row.at O1.row h0_247 h1_248
    refine ⟨h0_247, (by first | exact h1_248 | omega | (simp at h1_248 ⊢; omega)), a245, ha246, ?_⟩
    obtain ⟨⟨h0_252, h1_253⟩, H⟩ := H
    obtain ⟨a250, ha251, hat249⟩ := Row.at O1.row h0_252 h1_253
    refine ⟨h0_252, (by first | exact h1_253 | omega | (simp at h1_253 ⊢; omega)), a250, ha251, ?_⟩
    refine And.intro ?_ ?_
    · have H := H.1
      refine ⟨_, (hat244 0 _ rfl), ?_⟩
      refine and_t ?_
      refine ⟨_, (hat249 0 _ rfl), ?_⟩
      obtain ⟨⟨h0_257, h1_258⟩, H⟩ := H
      obtain ⟨a255, ha256, hat254⟩ := Row.at O1.row h0_257 h1_258
      refine ⟨h0_257, (by first | exact h1_258 | omega | (simp at h1_258 ⊢; omega)), a255, ha256, ?_⟩
      refine and_t ?_
      refine Own.storeAt O1 ha256 h0_257 h1_258 0 [(.int .i64 (rd xs199 (IntKind.wrap .i64 (i198 - 1))))] (rd xs199 (IntKind.wrap .i64 (i198 - 1))) rfl (Nat.le_of_ble_eq_true rfl) rfl (fun w259 P1 e260 hb261 => ?_)
      have hB := hB.chgb e260 (Or.inr ⟨_, ha256, rfl⟩)
      have O1 := P1
      obtain ⟨⟨h0_265, h1_266⟩, H⟩ := H
      obtain ⟨a263, ha264, hat262⟩ := Row.at O1.row h0_265 h1_266
      refine ⟨h0_265, (by first | exact h1_266 | omega | (simp at h1_266 ⊢; omega)), a263, ha264, ?_⟩
      refine and_t ?_
      refine Own.storeAt O1 ha264 h0_265 h1_266 0 [(.int .i64 (rd xs199 i198))] (rd xs199 i198) rfl (Nat.le_of_ble_eq_true rfl) rfl (fun w267 P1 e268 hb269 => ?_)
      have hB := hB.chgb e268 (Or.inr ⟨_, ha264, rfl⟩)
      have O1 := P1
      obtain ⟨m270, hm271, hJ272⟩ := H
      exact ⟨m270, hm271, (IntKind.wrap .i64 (i198 - 1)), (List.set (List.set xs199 (i198.toNat) (rd xs199 (IntKind.wrap .i64 (i198 - 1)))) ((IntKind.wrap .i64 (i198 - 1)).toNat) (rd xs199 i198)), rfl, hJ272, hB, O1, (by first | rfl | assumption | omega | (simp; done) | (simp; omega) | (simp; assumption))⟩
    refine And.intro ?_ ?_
    · have H := H.2.1
      refine ⟨_, (hat249 0 _ rfl), ?_⟩
      refine and_t ?_
      refine ⟨_, (hat244 0 _ rfl), ?_⟩
      obtain ⟨⟨h0_276, h1_277⟩, H⟩ := H
      obtain ⟨a274, ha275, hat273⟩ := Row.at O1.row h0_276 h1_277
      refine ⟨h0_276, (by first | exact h1_277 | omega | (simp at h1_277 ⊢; omega)), a274, ha275, ?_⟩
      refine and_t ?_
      refine Own.storeAt O1 ha275 h0_276 h1_277 0 [(.int .i64 (rd xs199 (IntKind.wrap .i64 (i198 - 1))))] (rd xs199 (IntKind.wrap .i64 (i198 - 1))) rfl (Nat.le_of_ble_eq_true rfl) rfl (fun w278 P1 e279 hb280 => ?_)
      have hB := hB.chgb e279 (Or.inr ⟨_, ha275, rfl⟩)
      have O1 := P1
      obtain ⟨⟨h0_284, h1_285⟩, H⟩ := H
      obtain ⟨a282, ha283, hat281⟩ := Row.at O1.row h0_284 h1_285
      refine ⟨h0_284, (by first | exact h1_285 | omega | (simp at h1_285 ⊢; omega)), a282, ha283, ?_⟩
      refine and_t ?_
      refine Own.storeAt O1 ha283 h0_284 h1_285 0 [(.int .i64 (rd xs199 i198))] (rd xs199 i198) rfl (Nat.le_of_ble_eq_true rfl) rfl (fun w286 P1 e287 hb288 => ?_)
      have hB := hB.chgb e287 (Or.inr ⟨_, ha283, rfl⟩)
      have O1 := P1
      obtain ⟨m289, hm290, hJ291⟩ := H
      exact ⟨m289, hm290, (IntKind.wrap .i64 (i198 - 1)), (List.set (List.set xs199 (i198.toNat) (rd xs199 (IntKind.wrap .i64 (i198 - 1)))) ((IntKind.wrap .i64 (i198 - 1)).toNat) (rd xs199 i198)), rfl, hJ291, hB, O1, (by first | rfl | assumption | omega | (simp; done) | (simp; omega) | (simp; assumption))⟩
    exact trivial
  have H := (bcase_iff.1 H).2 hc298
  obtain rfl := hr.trans H.symm
  exact ⟨rfl, O1, (by first | (simp only [List.length_set]; done) | (simp only [List.length_set, ← hn122]; done) | (simp; done) | (simp; omega) | omega), hB⟩
def math_bits_Len64.vc (x0 : Int) (w : World) (K : Value → World → Prop) : Prop :=
  JoinT (σ := Int × Int × Unit) (fun J21 => bcase (decide (x0 ≥ 4294967296)) (((0 : Int) ≤ 32 ∧ J21 ((Int.fdiv x0 (2 ^ (min ((32 : Int).toNat) (IntKind.bits .u64)))), 32, ()) w)) (J21 (x0, 0, ()) w)) fun z22 w23 => JoinT (σ := Int × Int × Unit) (fun J24 => bcase (decide (z22.1 ≥ 65536)) (((0 : Int) ≤ 16 ∧ J24 ((Int.fdiv z22.1 (2 ^ (min ((16 : Int).toNat) (IntKind.bits .u64)))), (IntKind.wrap .i64 (z22.2.1 + 16)), ()) w23)) (J24 (z22.1, z22.2.1, ()) w23)) fun z25 w26 => JoinT (σ := Int × Int × Unit) (fun J27 => bcase (decide (z25.1 ≥ 256)) (((0 : Int) ≤ 8 ∧ J27 ((Int.fdiv z25.1 (2 ^ (min ((8 : Int).toNat) (IntKind.bits .u64)))), (IntKind.wrap .i64 (z25.2.1 + 8)), ()) w26)) (J27 (z25.1, z25.2.1, ()) w26)) fun z28 w29 => ((0 : Int) ≤ IntKind.wrap .u8 z28.1 ∧ ∃ y30 : UInt8, ((⟨#[0, 1, 2, 2, 3, 3, 3, 3, 4, 4, 4, 4, 4, 4, 4, 4, 5, 5, 5, 5, 5, 5, 5, 5, 5, 5, 5, 5, 5, 5, 5, 5, 6, 6, 6, 6, 6, 6, 6, 6, 6, 6, 6, 6, 6, 6, 6, 6, 6, 6, 6, 6, 6, 6, 6, 6, 6, 6, 6, 6, 6, 6, 6, 6, 7, 7, 7, 7, 7, 7, 7, 7, 7, 7, 7, 7, 7, 7, 7, 7, 7, 7, 7, 7, 7, 7, 7, 7, 7, 7, 7, 7, 7, 7, 7, 7, 7, 7, 7, 7, 7, 7, 7, 7, 7, 7, 7, 7, 7, 7, 7, 7, 7, 7, 7, 7, 7, 7, 7, 7, 7, 7, 7, 7, 7, 7, 7, 7, 8, 8, 8, 8, 8, 8, 8, 8, 8, 8, 8, 8, 8, 8, 8, 8, 8, 8, 8, 8, 8, 8, 8, 8, 8, 8, 8, 8, 8, 8, 8, 8, 8, 8, 8, 8, 8, 8, 8, 8, 8, 8, 8, 8, 8, 8, 8, 8, 8, 8, 8, 8, 8, 8, 8, 8, 8, 8, 8, 8, 8, 8, 8, 8, 8, 8, 8, 8, 8, 8, 8, 8, 8, 8, 8, 8, 8, 8, 8, 8, 8, 8, 8, 8, 8, 8, 8, 8, 8, 8, 8, 8, 8, 8, 8, 8, 8, 8, 8, 8, 8, 8, 8, 8, 8, 8, 8, 8, 8, 8, 8, 8, 8, 8, 8, 8, 8, 8, 8, 8, 8, 8, 8, 8, 8, 8, 8, 8]⟩) : ByteArray)[((IntKind.wrap .u8 z28.1).toNat)]? = some y30 ∧ K (.int .i64 (IntKind.wrap .i64 (z28.2.1 + (IntKind.wrap .i64 ((y30.toNat : Nat) : Int))))) w29)

def math_bits_Len64.ann : Ann := (.seq .l (.cut [(0, .int .u64), (2, .int .i64)] (.seq .l (.two (.seq .l .l) .l)) (.cut [(0, .int .u64), (2, .int .i64)] (.seq .l (.two (.seq .l .l) .l)) (.cut [(0, .int .u64), (2, .int .i64)] (.seq .l (.two (.seq .l .l) .l)) (.seq .l .l)))))

theorem math_bits_Len64.start {x0 : Int} {w : World} {K : Value → World → Prop} (h : math_bits_Len64.vc x0 w K) : Cll Try.prog 136 #[(.int .u64 x0)] w K :=
  vcF_sound mixed (fn := Try.f136) (by kernel_rfl) (by kernel_rfl) (an := math_bits_Len64.ann) (args := [(.int .u64 x0)]) (Eq.mpr (by kernel_rfl) h)

theorem math_bits_Len64.con {x0 : Int} {r : Int} {w : World} (hp : M.math_bits_Len64_pre x0) (hr : r = M.math_bits_Len64 x0)  :
    Cll Try.prog 136 #[(.int .u64 x0)] w (fun v_ w_ => v_ = (.int .i64 r) ∧ Ext w w_) := by
  have H := wp.math_bits_Len64.math x0 hp
  have hB := Ext.refl w
  refine math_bits_Len64.start ?_
  unfold math_bits_Len64.vc
  unfold wp.math_bits_Len64 at H
  obtain ⟨K52, hKK52, H⟩ := joinP_out H
  refine ⟨fun z_ w_ => ∃ (i21 : Int) (i22 : Int), z_ = (i21, i22, ()) ∧ K52 (i21, i22, ()) ∧ Ext w w_, ?_, ?_⟩
  · refine bcase_mk (fun hc27 => ?_) (fun hc27 => ?_)
    · have H := (bcase_iff.1 H).1 hc27
      refine ⟨by decide, ?_⟩
      exact ⟨(Int.fdiv x0 (2 ^ (min ((32 : Int).toNat) (IntKind.bits .u64)))), 32, rfl, H, hB⟩
    have H := (bcase_iff.1 H).2 hc27
    exact ⟨x0, 0, rfl, H, hB⟩
  rintro _ w24 ⟨i21, i22, rfl, H, hB⟩
  have H := hKK52 _ H
  try dsimp only at H ⊢
  obtain ⟨K50, hKK50, H⟩ := joinP_out H
  refine ⟨fun z_ w_ => ∃ (i28 : Int) (i29 : Int), z_ = (i28, i29, ()) ∧ K50 (i28, i29, ()) ∧ Ext w w_, ?_, ?_⟩
  · refine bcase_mk (fun hc34 => ?_) (fun hc34 => ?_)
    · have H := (bcase_iff.1 H).1 hc34
      refine ⟨by decide, ?_⟩
      exact ⟨(Int.fdiv i21 (2 ^ (min ((16 : Int).toNat) (IntKind.bits .u64)))), (IntKind.wrap .i64 (i22 + 16)), rfl, H, hB⟩
    have H := (bcase_iff.1 H).2 hc34
    exact ⟨i21, i22, rfl, H, hB⟩
  rintro _ w31 ⟨i28, i29, rfl, H, hB⟩
  have H := hKK50 _ H
  try dsimp only at H ⊢
  obtain ⟨K48, hKK48, H⟩ := joinP_out H
  refine ⟨fun z_ w_ => ∃ (i35 : Int) (i36 : Int), z_ = (i35, i36, ()) ∧ K48 (i35, i36, ()) ∧ Ext w w_, ?_, ?_⟩
  · refine bcase_mk (fun hc41 => ?_) (fun hc41 => ?_)
    · have H := (bcase_iff.1 H).1 hc41
      refine ⟨by decide, ?_⟩
      exact ⟨(Int.fdiv i28 (2 ^ (min ((8 : Int).toNat) (IntKind.bits .u64)))), (IntKind.wrap .i64 (i29 + 8)), rfl, H, hB⟩
    have H := (bcase_iff.1 H).2 hc41
    exact ⟨i28, i29, rfl, H, hB⟩
  rintro _ w38 ⟨i35, i36, rfl, H, hB⟩
  have H := hKK48 _ H
  try dsimp only at H ⊢
  obtain ⟨⟨h0_45, h1_46⟩, H⟩ := H
  obtain ⟨y42, hy43, hyb44⟩ := strAt h0_45 h1_46
  refine ⟨h0_45, y42, hy43, ?_⟩
  rw [hyb44]
  obtain rfl := hr.trans H.symm
  exact ⟨rfl, hB⟩
def math_bits_Len.vc (x0 : Int) (w : World) (K : Value → World → Prop) : Prop :=
  Cll Try.prog 136 #[(.int .u64 x0)] w fun v21 w22 => (∃ (n23 : Int), v21 = (.int .i64 n23) ∧ K (.int .i64 n23) w22)

def math_bits_Len.ann : Ann := (.seq .l (.seq (.two (.seq .l .l) .l) (.seq .l .l)))

theorem math_bits_Len.start {x0 : Int} {w : World} {K : Value → World → Prop} (h : math_bits_Len.vc x0 w K) : Cll Try.prog 120 #[(.int .u64 x0)] w K :=
  vcF_sound mixed (fn := Try.f120) (by kernel_rfl) (by kernel_rfl) (an := math_bits_Len.ann) (args := [(.int .u64 x0)]) (Eq.mpr (by kernel_rfl) h)

theorem math_bits_Len.con {x0 : Int} {r : Int} {w : World} (hp : M.math_bits_Len_pre x0) (hr : r = M.math_bits_Len x0)  :
    Cll Try.prog 120 #[(.int .u64 x0)] w (fun v_ w_ => v_ = (.int .i64 r) ∧ Ext w w_) := by
  have H := wp.math_bits_Len.math x0 hp
  have hB := Ext.refl w
  refine math_bits_Len.start ?_
  unfold math_bits_Len.vc
  unfold wp.math_bits_Len at H
  obtain ⟨hp23, H⟩ := H
  obtain ⟨r21, hr22⟩ : ∃ r_, r_ = M.math_bits_Len64 x0 := ⟨_, rfl⟩
  have H := H r21 hr22
  refine (math_bits_Len64.con hp23 hr22 ).mono ?_
  rintro _ w24 ⟨rfl, e25⟩
  have hB := ethen hB e25
  refine ⟨r21, rfl, ?_⟩
  obtain rfl := hr.trans H.symm
  exact ⟨rfl, hB⟩
def slices_pdqsortOrdered_int.vc (A0 : Option Addr) (n0 : Nat) (c0 : Nat) (x1 : Int) (x2 : Int) (x3 : Int) (w : World) (K : Value → World → Prop) : Prop :=
  LoopT (σ := Int × Int × Int × Bool × Bool × Unit) (fun z21 w22 next23 => bcase (decide ((IntKind.wrap .i64 (z21.2.1 - z21.1)) ≤ 12)) (Cll Try.prog 126 #[(.slice A0 n0 c0), (.int .i64 z21.1), (.int .i64 z21.2.1)] w22 fun v24 w25 => (v24 = (.tuple #[]) ∧ K (.tuple #[]) w25)) (bcase (z21.2.2.1 == 0) (Cll Try.prog 127 #[(.slice A0 n0 c0), (.int .i64 z21.1), (.int .i64 z21.2.1)] w22 fun v26 w27 => (v26 = (.tuple #[]) ∧ K (.tuple #[]) w27)) (JoinT (σ := Int × Unit) (fun J28 => bcase (!z21.2.2.2.1) (Cll Try.prog 128 #[(.slice A0 n0 c0), (.int .i64 z21.1), (.int .i64 z21.2.1)] w22 fun v29 w30 => (v29 = (.tuple #[]) ∧ J28 ((IntKind.wrap .i64 (z21.2.2.1 - 1)), ()) w30)) (J28 (z21.2.2.1, ()) w22)) fun z31 w32 => Cll Try.prog 129 #[(.slice A0 n0 c0), (.int .i64 z21.1), (.int .i64 z21.2.1)] w32 fun v33 w34 => (∃ u35 : Value, (∃ (n36 : Int), u35 = (.int .i64 n36) ∧ ∃ u37 : Value, (∃ (n38 : Int), u37 = (.int .i64 n38) ∧ v33 = (.tuple #[(.int .i64 n36), (.int .i64 n38)]) ∧ JoinT (σ := Int × Int × Unit) (fun J39 => bcase (n38 == 2) (Cll Try.prog 130 #[(.slice A0 n0 c0), (.int .i64 z21.1), (.int .i64 z21.2.1)] w34 fun v40 w41 => (v40 = (.tuple #[]) ∧ J39 ((IntKind.wrap .i64 ((IntKind.wrap .i64 (z21.2.1 - 1)) - (IntKind.wrap .i64 (n36 - z21.1)))), 1, ()) w41)) (J39 (n36, n38, ()) w34)) fun z42 w43 => JoinT (σ := Unit) (fun J44 => bcase z21.2.2.2.1 (bcase z21.2.2.2.2.1 (bcase (z42.2.1 == 1) (Cll Try.prog 131 #[(.slice A0 n0 c0), (.int .i64 z21.1), (.int .i64 z21.2.1)] w43 fun v45 w46 => (∃ (b47 : Bool), v45 = (.bool b47) ∧ bcase b47 (K (.tuple #[]) w46) (J44 () w46))) (J44 () w43)) (J44 () w43)) (J44 () w43)) fun z48 w49 => JoinT (σ := Bool × Unit) (fun J51 => (∃ M52 : Nat → Prop, bcase (decide (z21.1 > 0)) (((0 : Int) ≤ (IntKind.wrap .i64 (z21.1 - 1)) ∧ (IntKind.wrap .i64 (z21.1 - 1)) < ((n0 : Nat) : Int) ∧ ∃ a53 : Addr, A0 = some a53 ∧ ∃ (n54 : Int), (¬ M52 ((a53.add (((IntKind.wrap .i64 (z21.1 - 1)).toNat) * 1))).block ∧ w49.cell? ((a53.add (((IntKind.wrap .i64 (z21.1 - 1)).toNat) * 1)).add 0) = some (.int .i64 n54)) ∧ ((0 : Int) ≤ z42.1 ∧ z42.1 < ((n0 : Nat) : Int) ∧ ∃ a55 : Addr, A0 = some a55 ∧ ∃ (n56 : Int), (¬ M52 ((a55.add ((z42.1.toNat) * 1))).block ∧ w49.cell? ((a55.add ((z42.1.toNat) * 1)).add 0) = some (.int .i64 n56)) ∧ Cll Try.prog 132 #[(.int .i64 n54), (.int .i64 n56)] w49.drew fun v57 w58 => (∃ (b59 : Bool), v57 = (.bool b59) ∧ SameBut M52 w49 w58 ∧ J51 ((!b59), ()) w58)))) (J51 (false, ()) w49.drew))) fun z60 w61 => bcase z60.1 (Cll Try.prog 133 #[(.slice A0 n0 c0), (.int .i64 z21.1), (.int .i64 z21.2.1), (.int .i64 z42.1)] w61 fun v62 w63 => (∃ (n64 : Int), v62 = (.int .i64 n64) ∧ next23 (n64, z21.2.1, z31.1, z21.2.2.2.1, z21.2.2.2.2.1, ()) w63)) (Cll Try.prog 134 #[(.slice A0 n0 c0), (.int .i64 z21.1), (.int .i64 z21.2.1), (.int .i64 z42.1)] w61 fun v65 w66 => (∃ u67 : Value, (∃ (n68 : Int), u67 = (.int .i64 n68) ∧ ∃ u69 : Value, (∃ (b70 : Bool), u69 = (.bool b70) ∧ v65 = (.tuple #[(.int .i64 n68), (.bool b70)]) ∧ ((8 : Int) ≠ 0 ∧ bcase (decide ((IntKind.wrap .i64 (n68 - z21.1)) < (IntKind.wrap .i64 (z21.2.1 - n68)))) (Cll Try.prog 119 #[(.slice A0 n0 c0), (.int .i64 z21.1), (.int .i64 n68), (.int .i64 z31.1)] w66 fun v71 w72 => (v71 = (.tuple #[]) ∧ next23 ((IntKind.wrap .i64 (n68 + 1)), z21.2.1, z31.1, (decide ((IntKind.wrap .i64 (n68 - z21.1)) ≥ (IntKind.wrap .i64 (Int.tdiv (IntKind.wrap .i64 (z21.2.1 - z21.1)) 8)))), b70, ()) w72)) (Cll Try.prog 119 #[(.slice A0 n0 c0), (.int .i64 (IntKind.wrap .i64 (n68 + 1))), (.int .i64 z21.2.1), (.int .i64 z31.1)] w66 fun v73 w74 => (v73 = (.tuple #[]) ∧ next23 (z21.1, n68, z31.1, (decide ((IntKind.wrap .i64 (z21.2.1 - n68)) ≥ (IntKind.wrap .i64 (Int.tdiv (IntKind.wrap .i64 (z21.2.1 - z21.1)) 8)))), b70, ()) w74))))))))))))) (x1, x2, x3, true, true, ()) w

def slices_pdqsortOrdered_int.ann : Ann := (.seq .l (.seq .l (.one (.loop [(1, .int .i64), (2, .int .i64), (3, .int .i64), (8, .bool), (9, .bool)] (.one (.seq .l (.seq (.seq .l (.two (.seq .l .l) .l)) (.seq (.seq .l (.two (.seq .l .l) .l)) (.cut [(3, .int .i64)] (.seq .l (.two (.seq .l .l) .l)) (.seq .l (.cut [(11, .int .i64), (12, .int .i64)] (.seq .l (.two (.seq .l (.seq .l .l)) .l)) (.cut [] (.seq .l (.two (.seq .l (.two .l .l)) .l)) (.seq (.cut [(87, .bool)] .l (.two (.seq .l (.seq .l .l)) .l)) (.seq .l (.seq .l (.seq .l (.seq .l (.seq .l (.two (.seq .l (.seq .l .l)) (.seq .l (.seq .l .l)))))))))))))))))))))

theorem slices_pdqsortOrdered_int.start {A0 : Option Addr} {n0 : Nat} {c0 : Nat} {x1 : Int} {x2 : Int} {x3 : Int} {w : World} {K : Value → World → Prop} (h : slices_pdqsortOrdered_int.vc A0 n0 c0 x1 x2 x3 w K) : Cll Try.prog 119 #[(.slice A0 n0 c0), (.int .i64 x1), (.int .i64 x2), (.int .i64 x3)] w K :=
  vcF_sound mixed (fn := Try.f119) (by kernel_rfl) (by kernel_rfl) (an := slices_pdqsortOrdered_int.ann) (args := [(.slice A0 n0 c0), (.int .i64 x1), (.int .i64 x2), (.int .i64 x3)]) (Eq.mpr (by kernel_rfl) h)

theorem slices_pdqsortOrdered_int.con {xs0 : List Int} {A0 : Option Addr} {c0 : Nat} {x1 : Int} {x2 : Int} {x3 : Int} {r : (List Int)} {w : World} (hp : M.slices_pdqsortOrdered_int_pre xs0 x1 x2 x3) (hr : r = M.slices_pdqsortOrdered_int xs0 x1 x2 x3) (O1 : Own el3 w 0 A0 c0 xs0) :
    Cll Try.prog 119 #[(.slice A0 xs0.length c0), (.int .i64 x1), (.int .i64 x2), (.int .i64 x3)] w (fun v_ w_ => v_ = (.tuple #[]) ∧ Own el3 w_ 0 A0 c0 r ∧ r.length = xs0.length ∧ Chg (InB A0) w w_) := by
  have H := wp.slices_pdqsortOrdered_int.math xs0 x1 x2 x3 hp
  have hB := Chg.refl (InB A0) w
  refine slices_pdqsortOrdered_int.start ?_
  unfold slices_pdqsortOrdered_int.vc
  unfold wp.slices_pdqsortOrdered_int at H
  obtain ⟨J27, ⟨m46, hJ45⟩, hS28⟩ := H
  refine ⟨fun m_ z_ w_ => ∃ (i21 : Int) (i22 : Int) (i23 : Int) (b24 : Bool) (b25 : Bool), z_ = (i21, i22, i23, b24, b25, ()) ∧ J27 m_ (i21, i22, i23, b24, b25, ()) ∧ Chg (InB A0) w w_ ∧ Own el3 w_ 0 A0 c0 xs0, ⟨m46, x1, x2, x3, true, true, rfl, hJ45, hB, O1⟩, ?_⟩
  rintro m26 _ w30 ⟨i21, i22, i23, b24, b25, rfl, hJ47, hB, O1⟩
  have H := hS28 m26 _ hJ47
  clear hS28 hJ47
  try dsimp only at H ⊢
  refine bcase_mk (fun hc43 => ?_) (fun hc43 => ?_)
  · have H := (bcase_iff.1 H).1 hc43
    obtain ⟨hp33, H⟩ := H
    obtain ⟨r31, hr32⟩ : ∃ r_, r_ = M.slices_insertionSortOrdered_int xs0 i21 i22 := ⟨_, rfl⟩
    have H := H r31 hr32
    refine (slices_insertionSortOrdered_int.con hp33 hr32 (O1.mono (Nat.zero_le _))).mono ?_
    rintro _ w34 ⟨rfl, Q1, hl36, e35⟩
    have hB := hB.chg e35 (fun g h_ => (Or.inr h_))
    have O1 := Q1
    refine ⟨rfl, ?_⟩
    obtain rfl := hr.trans H.symm
    exact ⟨rfl, O1, (by first | (simp only [List.length_set]; done) | (simp only [List.length_set, hl36]; done) | (simp; done) | (simp; omega) | omega), hB⟩
  have H := (bcase_iff.1 H).2 hc43
  refine bcase_mk (fun hc42 => ?_) (fun hc42 => ?_)
  · have H := (bcase_iff.1 H).1 hc42
    exact H.elim
  have H := (bcase_iff.1 H).2 hc42
  exact H.elim
def slices_Sort_int_int.vc (A0 : Option Addr) (n0 : Nat) (c0 : Nat) (w : World) (K : Value → World → Prop) : Prop :=
  Cll Try.prog 120 #[(.int .u64 (IntKind.wrap .u64 ((n0 : Nat) : Int)))] w fun v21 w22 => (∃ (n23 : Int), v21 = (.int .i64 n23) ∧ Cll Try.prog 119 #[(.slice A0 n0 c0), (.int .i64 0), (.int .i64 ((n0 : Nat) : Int)), (.int .i64 n23)] w22 fun v24 w25 => (v24 = (.tuple #[]) ∧ K (.tuple #[]) w25))

def slices_Sort_int_int.ann : Ann := (.seq .l .l)

theorem slices_Sort_int_int.start {A0 : Option Addr} {n0 : Nat} {c0 : Nat} {w : World} {K : Value → World → Prop} (h : slices_Sort_int_int.vc A0 n0 c0 w K) : Cll Try.prog 108 #[(.slice A0 n0 c0)] w K :=
  vcF_sound mixed (fn := Try.f108) (by kernel_rfl) (by kernel_rfl) (an := slices_Sort_int_int.ann) (args := [(.slice A0 n0 c0)]) (Eq.mpr (by kernel_rfl) h)

theorem slices_Sort_int_int.con {xs0 : List Int} {A0 : Option Addr} {c0 : Nat} {r : (List Int)} {w : World} (hp : M.slices_Sort_int_int_pre xs0) (hr : r = M.slices_Sort_int_int xs0) (O1 : Own el3 w 0 A0 c0 xs0) :
    Cll Try.prog 108 #[(.slice A0 xs0.length c0)] w (fun v_ w_ => v_ = (.tuple #[]) ∧ Own el3 w_ 0 A0 c0 r ∧ r.length = xs0.length ∧ Chg (InB A0) w w_) := by
  have H := wp.slices_Sort_int_int.math xs0 hp
  have hB := Chg.refl (InB A0) w
  refine slices_Sort_int_int.start ?_
  unfold slices_Sort_int_int.vc
  unfold wp.slices_Sort_int_int at H
  obtain ⟨hp23, H⟩ := H
  obtain ⟨r21, hr22⟩ : ∃ r_, r_ = M.math_bits_Len (IntKind.wrap .u64 ((xs0.length : Nat) : Int)) := ⟨_, rfl⟩
  have H := H r21 hr22
  refine (math_bits_Len.con hp23 hr22 ).mono ?_
  rintro _ w24 ⟨rfl, e25⟩
  have O1 := O1.ext e25
  have hB := hB.then e25
  refine ⟨r21, rfl, ?_⟩
  obtain ⟨hp28, H⟩ := H
  obtain ⟨r26, hr27⟩ : ∃ r_, r_ = M.slices_pdqsortOrdered_int xs0 0 ((xs0.length : Nat) : Int) r21 := ⟨_, rfl⟩
  have H := H r26 hr27
  refine (slices_pdqsortOrdered_int.con hp28 hr27 (O1.mono (Nat.zero_le _))).mono ?_
  rintro _ w29 ⟨rfl, Q1, hl31, e30⟩
  have hB := hB.chg e30 (fun g h_ => (Or.inr h_))
  have O1 := Q1
  refine ⟨rfl, ?_⟩
  obtain rfl := hr.trans H.symm
  exact ⟨rfl, O1, (by first | (simp only [List.length_set]; done) | (simp only [List.length_set, hl31]; done) | (simp; done) | (simp; omega) | omega), hB⟩
def slices_Compact_int_int.vc (A0 : Option Addr) (n0 : Nat) (c0 : Nat) (w : World) (K : Value → World → Prop) : Prop :=
  bcase (decide (((n0 : Nat) : Int) < 2)) (K (.slice A0 n0 c0) w) (LoopT (σ := Int × Unit) (fun z21 w22 next23 => bcase (decide (z21.1 < ((n0 : Nat) : Int))) (((0 : Int) ≤ z21.1 ∧ z21.1 < ((n0 : Nat) : Int) ∧ ∃ a24 : Addr, A0 = some a24 ∧ ∃ (n25 : Int), w22.cell? ((a24.add ((z21.1.toNat) * 1)).add 0) = some (.int .i64 n25) ∧ ((0 : Int) ≤ (IntKind.wrap .i64 (z21.1 - 1)) ∧ (IntKind.wrap .i64 (z21.1 - 1)) < ((n0 : Nat) : Int) ∧ ∃ a26 : Addr, A0 = some a26 ∧ ∃ (n27 : Int), w22.cell? ((a26.add (((IntKind.wrap .i64 (z21.1 - 1)).toNat) * 1)).add 0) = some (.int .i64 n27) ∧ bcase (n25 == n27) (((0 : Int) ≤ z21.1 ∧ z21.1 ≤ ((n0 : Nat) : Int) ∧ LoopT (σ := Int × Int × Unit) (fun z28 w29 next30 => bcase (decide (z28.2.1 < (((n0 - (z21.1.toNat)) : Nat) : Int))) (((0 : Int) ≤ z28.2.1 ∧ z28.2.1 < (((n0 - (z21.1.toNat)) : Nat) : Int) ∧ ∃ a31 : Addr, (if c0 = (z21.1.toNat) then A0 else A0.map (·.add ((z21.1.toNat) * szOf Try.prog 3))) = some a31 ∧ ∃ (n32 : Int), w29.cell? ((a31.add ((z28.2.1.toNat) * 1)).add 0) = some (.int .i64 n32) ∧ ((0 : Int) ≤ (IntKind.wrap .i64 (z28.2.1 - 1)) ∧ (IntKind.wrap .i64 (z28.2.1 - 1)) < (((n0 - (z21.1.toNat)) : Nat) : Int) ∧ ∃ a33 : Addr, (if c0 = (z21.1.toNat) then A0 else A0.map (·.add ((z21.1.toNat) * szOf Try.prog 3))) = some a33 ∧ ∃ (n34 : Int), w29.cell? ((a33.add (((IntKind.wrap .i64 (z28.2.1 - 1)).toNat) * 1)).add 0) = some (.int .i64 n34) ∧ bcase (n32 != n34) (((0 : Int) ≤ z28.2.1 ∧ z28.2.1 < (((n0 - (z21.1.toNat)) : Nat) : Int) ∧ ∃ a35 : Addr, (if c0 = (z21.1.toNat) then A0 else A0.map (·.add ((z21.1.toNat) * szOf Try.prog 3))) = some a35 ∧ ∃ (n36 : Int), w29.drew.cell? ((a35.add ((z28.2.1.toNat) * 1)).add 0) = some (.int .i64 n36) ∧ ((0 : Int) ≤ z28.1 ∧ z28.1 < ((n0 : Nat) : Int) ∧ ∃ a37 : Addr, A0 = some a37 ∧ stCells (a37.add ((z28.1.toNat) * 1)) [(.int .i64 n36)] 0 w29.drew fun w38 => next30 ((IntKind.wrap .i64 (z28.1 + 1)), (IntKind.wrap .i64 (z28.2.1 + 1)), ()) w38))) (next30 (z28.1, (IntKind.wrap .i64 (z28.2.1 + 1)), ()) w29.drew)))) (((0 : Int) ≤ z28.1 ∧ z28.1 ≤ ((n0 : Nat) : Int) ∧ Run Try.prog (Builtin.clear_ #[26] 0 #[(.slice (if c0 = (z28.1.toNat) then A0 else A0.map (·.add ((z28.1.toNat) * szOf Try.prog 3))) (n0 - (z28.1.toNat)) (c0 - (z28.1.toNat)))]) w29 fun v39 w40 => v39 = .tuple #[] ∧ ((0 : Int) ≤ z28.1 ∧ z28.1 ≤ ((c0 : Nat) : Int) ∧ K (.slice A0 (z28.1.toNat) c0) w40)))) (z21.1, 1, ()) w22.drew)) (next23 ((IntKind.wrap .i64 (z21.1 + 1)), ()) w22.drew)))) (K (.slice A0 n0 c0) w22)) (1, ()) w)

def slices_Compact_int_int.ann : Ann := (.seq .l (.seq (.seq .l (.two (.seq .l .l) .l)) (.seq (.seq .l (.one (.loop [(3, .int .i64)] (.seq (.seq .l (.two .l .l)) (.seq (.one (.seq .l (.two (.seq .l (.seq (.seq .l (.one (.loop [(3, .int .i64), (5, .int .i64)] (.seq (.seq .l (.two .l .l)) (.seq (.one (.seq .l (.two (.seq .l .l) .l))) .l))))) (.seq .l (.seq .l .l)))) .l))) .l))))) (.seq .l .l))))

theorem slices_Compact_int_int.start {A0 : Option Addr} {n0 : Nat} {c0 : Nat} {w : World} {K : Value → World → Prop} (h : slices_Compact_int_int.vc A0 n0 c0 w K) : Cll Try.prog 109 #[(.slice A0 n0 c0)] w K :=
  vcF_sound mixed (fn := Try.f109) (by kernel_rfl) (by kernel_rfl) (an := slices_Compact_int_int.ann) (args := [(.slice A0 n0 c0)]) (Eq.mpr (by kernel_rfl) h)

theorem slices_Compact_int_int.con {xs0 : List Int} {A0 : Option Addr} {c0 : Nat} {r : List Int} {w : World} (hp : M.slices_Compact_int_int_pre xs0) (hr : r = M.slices_Compact_int_int xs0) (O1 : Own el3 w 0 A0 c0 xs0) :
    Cll Try.prog 109 #[(.slice A0 xs0.length c0)] w (fun v_ w_ => ∃ (A0_ : Option Addr) (c0_ : Nat), v_ = (.slice A0_ r.length c0_) ∧ Own el3 w_ 0 A0_ c0_ r ∧ Mov w A0 A0_ ∧ Chg (InB A0) w w_) := by
  have H := wp.slices_Compact_int_int.math xs0 hp
  have hB := Chg.refl (InB A0) w
  refine slices_Compact_int_int.start ?_
  unfold slices_Compact_int_int.vc
  unfold wp.slices_Compact_int_int at H
  refine bcase_mk (fun hc68 => ?_) (fun hc68 => ?_)
  · have H := (bcase_iff.1 H).1 hc68
    obtain rfl := hr.trans H.symm
    exact ⟨A0, c0, rfl, (O1.mono (Nat.zero_le _)), (Mov.same _ _), hB⟩
  have H := (bcase_iff.1 H).2 hc68
  obtain ⟨J23, ⟨m66, hJ65⟩, hS24⟩ := H
  refine ⟨fun m_ z_ w_ => ∃ (i21 : Int), z_ = (i21, ()) ∧ J23 m_ (i21, ()) ∧ Chg (InB A0) w w_ ∧ Own el3 w_ 0 A0 c0 xs0, ⟨m66, 1, rfl, hJ65, hB, O1⟩, ?_⟩
  rintro m22 _ w26 ⟨i21, rfl, hJ67, hB, O1⟩
  have H := hS24 m22 _ hJ67
  clear hS24 hJ67
  try dsimp only at H ⊢
  refine bcase_mk (fun hc63 => ?_) (fun hc63 => ?_)
  · have H := (bcase_iff.1 H).1 hc63
    obtain ⟨⟨h0_31, h1_32⟩, H⟩ := H
    obtain ⟨a29, ha30, hat28⟩ := Row.at O1.row h0_31 h1_32
    refine ⟨h0_31, h1_32, a29, ha30, ?_⟩
    refine ⟨_, (hat28 0 _ rfl), ?_⟩
    obtain ⟨⟨h0_36, h1_37⟩, H⟩ := H
    obtain ⟨a34, ha35, hat33⟩ := Row.at O1.row h0_36 h1_37
    refine ⟨h0_36, h1_37, a34, ha35, ?_⟩
    refine ⟨_, (hat33 0 _ rfl), ?_⟩
    have O1 := O1.ext (Ext.drew _)
    have hB := hB.then (Ext.drew _)
    refine bcase_mk (fun hc62 => ?_) (fun hc62 => ?_)
    · have H := (bcase_iff.1 H).1 hc62
      obtain ⟨⟨hl38, hl39⟩, H⟩ := H
      refine and_assoc.1 ⟨⟨hl38, hl39⟩, ?_⟩
      rw [show (xs0.length - (i21.toNat)) = ((List.drop (i21.toNat) xs0)).length from by first | rfl | (simp; done) | (simp; omega)]
      have O2 := (O1.drop (l := (i21.toNat)) (by first | omega | (simp; done) | (simp; omega)))
      obtain ⟨J43, ⟨m57, hJ56⟩, hS44⟩ := H
      refine ⟨fun m_ z_ w_ => ∃ (i40 : Int) (i41 : Int), z_ = (i40, i41, ()) ∧ J43 m_ (i40, i41, ()) ∧ Chg (InB A0) w w_ ∧ Own el3 w_ 0 A0 c0 xs0, ⟨m57, i21, 1, rfl, hJ56, hB, O1⟩, ?_⟩
      rintro m42 _ w46 ⟨i40, i41, rfl, hJ58, hB, O1⟩
      have H := hS44 m42 _ hJ58
      clear hS44 hJ58
      try dsimp only at H ⊢
      refine bcase_mk (fun hc54 => ?_) (fun hc54 => ?_)
      · have H := (bcase_iff.1 H).1 hc54
        exact H.elim
      have H := (bcase_iff.1 H).2 hc54
      obtain ⟨⟨hl48, hl49⟩, H⟩ := H
      refine and_assoc.1 ⟨⟨hl48, hl49⟩, ?_⟩
      rw [show (xs0.length - (i40.toNat)) = ((List.drop (i40.toNat) xs0)).length from by first | rfl | (simp; done) | (simp; omega)]
      have O3 := (O1.drop (l := (i40.toNat)) (by first | omega | (simp; done) | (simp; omega)))
      refine clearCut slt26 O1 (l := (i40.toNat)) (by first | omega | (simp; omega)) (by first | rfl | (simp; done) | (simp; omega)) (fun w50 P1 e51 => ?_)
      have hB := hB.app e51 (fun g h_ => (Or.inr h_))
      have O1 := P1
      obtain ⟨⟨hh52, hh53⟩, H⟩ := H
      refine and_assoc.1 ⟨⟨hh52, Int.le_trans hh53 (Int.ofNat_le.2 O1.le)⟩, ?_⟩
      rw [show (i40.toNat) = ((List.take (i40.toNat) (List.take (i40.toNat) xs0 ++ List.replicate (xs0.length - (i40.toNat)) default))).length from by first | rfl | (simp; done) | (simp; omega)]
      have O4 := (O1.take (i40.toNat))
      obtain rfl := hr.trans H.symm
      exact ⟨A0, c0, rfl, (O4.mono (Nat.zero_le _)), (Mov.same _ _), hB⟩
    have H := (bcase_iff.1 H).2 hc62
    obtain ⟨m59, hm60, hJ61⟩ := H
    exact ⟨m59, hm60, (IntKind.wrap .i64 (i21 + 1)), rfl, hJ61, hB, O1⟩
  have H := (bcase_iff.1 H).2 hc63
  obtain rfl := hr.trans H.symm
  exact ⟨A0, c0, rfl, (O1.mono (Nat.zero_le _)), (Mov.same _ _), hB⟩
def impl_next.vc (A0 : Option Addr) (n0 : Nat) (c0 : Nat) (x1 : Int) (w : World) (K : Value → World → Prop) : Prop :=
  bcase (x1 == ((n0 : Nat) : Int)) (Run Try.prog (Instr.buildSlice 26 0 #[]) w fun v21 w22 => ∃ (A23 : Option Addr) (n24 c25 : Nat), v21 = .slice A23 n24 c25 ∧ K (.slice A23 n24 c25) w22) (((0 : Int) ≤ x1 ∧ x1 < ((n0 : Nat) : Int) ∧ ∃ a26 : Addr, A0 = some a26 ∧ ∃ (n27 : Int), w.cell? ((a26.add ((x1.toNat) * 4)).add 0) = some (.int .i64 n27) ∧ ∃ (n28 : Int), w.cell? ((a26.add ((x1.toNat) * 4)).add 1) = some (.int .i64 n28) ∧ ∃ (n29 : Int), w.cell? ((a26.add ((x1.toNat) * 4)).add 2) = some (.int .i64 n29) ∧ ∃ (n30 : Int), w.cell? ((a26.add ((x1.toNat) * 4)).add 3) = some (.int .i64 n30) ∧ newK w (.cells #[(.int .i64 0), (.int .i64 0), (.int .i64 0), (.int .i64 0)] 60) fun g31 w32 => stCells (⟨g31, 0, none⟩ : Addr) [(.int .i64 n27), (.int .i64 n28), (.int .i64 n29), (.int .i64 n30)] 0 w32 fun w33 => ∃ (n34 : Int), w33.cell? (((⟨g31, 0, none⟩ : Addr).add 0).add 0) = some (.int .i64 n34) ∧ bcase (n34 == 12) (Run Try.prog (Instr.buildSlice 26 1 #[(0, (.int .i64 ((n0 : Nat) : Int)))]) w33 fun v35 w36 => ∃ (A37 : Option Addr) (n38 c39 : Nat), v35 = .slice A37 n38 c39 ∧ K (.slice A37 n38 c39) w36) (bcase (n34 == 11) (∃ (n40 : Int), w33.cell? (((⟨g31, 0, none⟩ : Addr).add 2).add 0) = some (.int .i64 n40) ∧ Run Try.prog (Instr.buildSlice 26 1 #[(0, (.int .i64 n40))]) w33 fun v41 w42 => ∃ (A43 : Option Addr) (n44 c45 : Nat), v41 = .slice A43 n44 c45 ∧ K (.slice A43 n44 c45) w42) (bcase (n34 == 10) (∃ (n46 : Int), w33.cell? (((⟨g31, 0, none⟩ : Addr).add 2).add 0) = some (.int .i64 n46) ∧ Run Try.prog (Instr.buildSlice 26 2 #[(0, (.int .i64 n46)), (1, (.int .i64 (IntKind.wrap .i64 (x1 + 1))))]) w33 fun v47 w48 => ∃ (A49 : Option Addr) (n50 c51 : Nat), v47 = .slice A49 n50 c51 ∧ Cll Try.prog 108 #[(.slice A49 n50 c51)] w48 fun v52 w53 => (v52 = (.tuple #[]) ∧ Cll Try.prog 109 #[(.slice A49 n50 c51)] w53 fun v54 w55 => (∃ (A56 : Option Addr) (n57 : Nat) (c58 : Nat), v54 = (.slice A56 n57 c58) ∧ K (.slice A56 n57 c58) w55))) (Run Try.prog (Instr.buildSlice 26 1 #[(0, (.int .i64 (IntKind.wrap .i64 (x1 + 1))))]) w33 fun v59 w60 => ∃ (A61 : Option Addr) (n62 c63 : Nat), v59 = .slice A61 n62 c63 ∧ K (.slice A61 n62 c63) w60)))))

def impl_next.ann : Ann := (.seq .l (.seq (.seq .l (.two (.seq .l .l) .l)) (.seq (.seq .l (.seq .l (.one (.seq .l (.two (.seq .l .l) (.seq .l (.two (.seq .l .l) (.seq .l (.two (.seq .l (.seq .l (.seq .l .l))) .l))))))))) (.seq .l .l))))

theorem impl_next.start {A0 : Option Addr} {n0 : Nat} {c0 : Nat} {x1 : Int} {w : World} {K : Value → World → Prop} (h : impl_next.vc A0 n0 c0 x1 w K) : Cll Try.prog 95 #[(.slice A0 n0 c0), (.int .i64 x1)] w K :=
  vcF_sound mixed (fn := Try.f95) (by kernel_rfl) (by kernel_rfl) (an := impl_next.ann) (args := [(.slice A0 n0 c0), (.int .i64 x1)]) (Eq.mpr (by kernel_rfl) h)

theorem impl_next.con {xs0 : List D.Ins} {A0 : Option Addr} {c0 : Nat} {x1 : Int} {r : List Int} {w : World} (hp : M.impl_next_pre xs0 x1) (hr : r = M.impl_next xs0 x1) (R0 : Row el60 w A0 xs0) (hc0 : xs0.length ≤ c0) :
    Cll Try.prog 95 #[(.slice A0 xs0.length c0), (.int .i64 x1)] w (fun v_ w_ => ∃ (A0_ : Option Addr) (c0_ : Nat), v_ = (.slice A0_ r.length c0_) ∧ Own el3 w_ w.heap.size A0_ c0_ r ∧ Ext w w_) := by
  have H := wp.impl_next.math xs0 x1 hp
  have hB := Ext.refl w
  refine impl_next.start ?_
  unfold impl_next.vc
  unfold wp.impl_next at H
  refine bcase_mk (fun hc61 => ?_) (fun hc61 => ?_)
  · have H := (bcase_iff.1 H).1 hc61
    refine buildOwn el3 ([] : List Int) (fun _ => by kernel_rfl) rfl (fun A21 w22 P2 e23 => ?_)
    have O2 := P2.mono hB.size
    have hB := ethen hB e23
    obtain rfl := hr.trans H.symm
    exact ⟨A21, 0, (by first | rfl | (simp; done) | (simp; omega) | (simp [*]; done)), (by first | exact O2 | (simp only [List.length_set]; exact O2)), hB⟩
  have H := (bcase_iff.1 H).2 hc61
  obtain ⟨⟨h0_27, h1_28⟩, H⟩ := H
  obtain ⟨a25, ha26, hat24⟩ := Row.at (R0.ext hB) h0_27 h1_28
  refine ⟨h0_27, h1_28, a25, ha26, ?_⟩
  refine ⟨_, (hat24 0 _ rfl), ?_⟩
  refine ⟨_, (hat24 1 _ rfl), ?_⟩
  refine ⟨_, (hat24 2 _ rfl), ?_⟩
  refine ⟨_, (hat24 3 _ rfl), ?_⟩
  refine newBlk (fun g3_ w29 L3 P3 e30 => ?_)
  have O3 := P3
  have L3 := Nat.le_trans hB.size L3
  have hB := ethen hB e30
  refine stBlk O3 (o := 0) (cs' := #[(.int .i64 ((rd xs0 x1).Op)), (.int .i64 ((rd xs0 x1).A)), (.int .i64 ((rd xs0 x1).B)), (.int .i64 ((rd xs0 x1).C))]) rfl rfl (Nat.le_of_ble_eq_true rfl) rfl (fun w31 P3 e32 => ?_)
  have hB := echg hB e32 L3
  have O3 := P3
  refine ⟨_, (O3.at 0 rfl rfl), ?_⟩
  refine bcase_mk (fun hc60 => ?_) (fun hc60 => ?_)
  · have H := (bcase_iff.1 H).1 hc60
    refine buildOwn el3 ([((xs0.length : Nat) : Int)] : List Int) (fun _ => by kernel_rfl) rfl (fun A33 w34 P4 e35 => ?_)
    have N4_3 := P4.apart_old O3.lt
    have O3 := O3.ext e35
    have O4 := P4.mono hB.size
    have hB := ethen hB e35
    obtain rfl := hr.trans H.symm
    exact ⟨A33, 1, (by first | rfl | (simp; done) | (simp; omega) | (simp [*]; done)), (by first | exact O4 | (simp only [List.length_set]; exact O4)), hB⟩
  have H := (bcase_iff.1 H).2 hc60
  refine bcase_mk (fun hc59 => ?_) (fun hc59 => ?_)
  · have H := (bcase_iff.1 H).1 hc59
    refine ⟨_, (O3.at 2 rfl rfl), ?_⟩
    refine buildOwn el3 ([(rd xs0 x1).B] : List Int) (fun _ => by kernel_rfl) rfl (fun A36 w37 P5 e38 => ?_)
    have N5_3 := P5.apart_old O3.lt
    have O3 := O3.ext e38
    have O5 := P5.mono hB.size
    have hB := ethen hB e38
    obtain rfl := hr.trans H.symm
    exact ⟨A36, 1, (by first | rfl | (simp; done) | (simp; omega) | (simp [*]; done)), (by first | exact O5 | (simp only [List.length_set]; exact O5)), hB⟩
  have H := (bcase_iff.1 H).2 hc59
  refine bcase_mk (fun hc58 => ?_) (fun hc58 => ?_)
  · have H := (bcase_iff.1 H).1 hc58
    refine ⟨_, (O3.at 2 rfl rfl), ?_⟩
    refine buildOwn el3 ([(rd xs0 x1).B, (IntKind.wrap .i64 (x1 + 1))] : List Int) (fun _ => by kernel_rfl) rfl (fun A39 w40 P6 e41 => ?_)
    have N6_3 := P6.apart_old O3.lt
    have O3 := O3.ext e41
    have O6 := P6.mono hB.size
    have hB := ethen hB e41
    obtain ⟨hp44, H⟩ := H
    obtain ⟨r42, hr43⟩ : ∃ r_, r_ = M.slices_Sort_int_int ([(rd xs0 x1).B, (IntKind.wrap .i64 (x1 + 1))] : List Int) := ⟨_, rfl⟩
    have H := H r42 hr43
    refine (cllArgs (by first | (simp only [List.length_set]; done) | (simp; done)) (slices_Sort_int_int.con hp44 hr43 (O6.mono (Nat.zero_le _)))).mono ?_
    rintro _ w45 ⟨rfl, Q6, hl47, e46⟩
    have hB := Chg.ext hB e46 O6.low
    have O6 := Q6.up O6
    refine ⟨rfl, ?_⟩
    obtain ⟨hp50, H⟩ := H
    obtain ⟨r48, hr49⟩ : ∃ r_, r_ = M.slices_Compact_int_int r42 := ⟨_, rfl⟩
    have H := H r48 hr49
    refine (cllArgs (by first | (simp only [List.length_set, hl47]; done) | (simp; done)) (slices_Compact_int_int.con hp50 hr49 (O6.mono (Nat.zero_le _)))).mono ?_
    rintro _ w51 ⟨A53, c54, rfl, P7, Mv7, e52⟩
    have Lw7 := Mv7.low O6.low hB.size
    have hB := Chg.ext hB e52 O6.low
    have O7 := P7.lift Lw7
    refine ⟨A53, r48.length, c54, rfl, ?_⟩
    obtain rfl := hr.trans H.symm
    exact ⟨A53, c54, rfl, O7, hB⟩
  have H := (bcase_iff.1 H).2 hc58
  refine buildOwn el3 ([(IntKind.wrap .i64 (x1 + 1))] : List Int) (fun _ => by kernel_rfl) rfl (fun A55 w56 P8 e57 => ?_)
  have O8 := P8.mono hB.size
  have hB := ethen hB e57
  obtain rfl := hr.trans H.symm
  exact ⟨A55, 1, (by first | rfl | (simp; done) | (simp; omega) | (simp [*]; done)), (by first | exact O8 | (simp only [List.length_set]; exact O8)), hB⟩
def impl_BranchesOf.vc (A0 : Option Addr) (n0 : Nat) (c0 : Nat) (w : World) (K : Value → World → Prop) : Prop :=
  Cll Try.prog 32 #[(.slice A0 n0 c0)] w fun v21 w22 => (∃ (b23 : Bool), v21 = (.bool b23) ∧ bcase (!b23) (K (.slice none 0 0) w22) (Run Try.prog (Instr.buildSlice 26 0 #[]) w22 fun v24 w25 => ∃ (A26 : Option Addr) (n27 c28 : Nat), v24 = .slice A26 n27 c28 ∧ LoopT (σ := (Option Addr × Nat × Nat) × Int × Unit) (fun z29 w30 next31 => bcase (decide (z29.2.1 < ((n0 : Nat) : Int))) (Cll Try.prog 95 #[(.slice A0 n0 c0), (.int .i64 z29.2.1)] w30 fun v32 w33 => (∃ (A34 : Option Addr) (n35 : Nat) (c36 : Nat), v32 = (.slice A34 n35 c36) ∧ bcase (((n35 : Nat) : Int) == 2) (Run Try.prog (Instr.buildSlice 26 1 #[(0, (.int .i64 z29.2.1))]) w33 fun v37 w38 => ∃ (A39 : Option Addr) (n40 c41 : Nat), v37 = .slice A39 n40 c41 ∧ Run Try.prog (Builtin.append_ #[26, 26] 26 #[(.slice z29.1.1 z29.1.2.1 z29.1.2.2), (.slice A39 n40 c41)]) w38 fun v42 w43 => ∃ (A44 : Option Addr) (n45 c46 : Nat), v42 = .slice A44 n45 c46 ∧ next31 ((A44, n45, c46), (IntKind.wrap .i64 (z29.2.1 + 1)), ()) w43) (next31 ((z29.1.1, z29.1.2.1, z29.1.2.2), (IntKind.wrap .i64 (z29.2.1 + 1)), ()) w33))) (K (.slice z29.1.1 z29.1.2.1 z29.1.2.2) w30)) ((A26, n27, c28), 0, ()) w25))

def impl_BranchesOf.ann : Ann := (.seq .l (.seq (.seq .l (.two (.seq .l .l) .l)) (.seq .l (.seq (.seq .l (.one (.loop [(3, .sl), (11, .int .i64)] (.seq .l (.seq (.two .l .l) (.seq (.one (.seq .l (.seq .l (.two .l .l)))) .l)))))) (.seq .l .l)))))

theorem impl_BranchesOf.start {A0 : Option Addr} {n0 : Nat} {c0 : Nat} {w : World} {K : Value → World → Prop} (h : impl_BranchesOf.vc A0 n0 c0 w K) : Cll Try.prog 107 #[(.slice A0 n0 c0)] w K :=
  vcF_sound mixed (fn := Try.f107) (by kernel_rfl) (by kernel_rfl) (an := impl_BranchesOf.ann) (args := [(.slice A0 n0 c0)]) (Eq.mpr (by kernel_rfl) h)

theorem impl_BranchesOf.con {xs0 : List D.Ins} {A0 : Option Addr} {c0 : Nat} {r : List Int} {w : World} (hp : M.impl_BranchesOf_pre xs0) (hr : r = M.impl_BranchesOf xs0) (R0 : Row el60 w A0 xs0) (hc0 : xs0.length ≤ c0) :
    Cll Try.prog 107 #[(.slice A0 xs0.length c0)] w (fun v_ w_ => ∃ (A0_ : Option Addr) (c0_ : Nat), v_ = (.slice A0_ r.length c0_) ∧ Own el3 w_ w.heap.size A0_ c0_ r ∧ Ext w w_) := by
  have H := wp.impl_BranchesOf.math xs0 hp
  have hB := Ext.refl w
  refine impl_BranchesOf.start ?_
  unfold impl_BranchesOf.vc
  unfold wp.impl_BranchesOf at H
  obtain ⟨hp23, H⟩ := H
  obtain ⟨r21, hr22⟩ : ∃ r_, r_ = M.impl_ProgramOk xs0 := ⟨_, rfl⟩
  have H := H r21 hr22
  refine (impl_ProgramOk.con hp23 hr22 (R0.ext hB) hc0).mono ?_
  rintro _ w24 ⟨rfl, e25⟩
  have hB := ethen hB e25
  refine ⟨r21, rfl, ?_⟩
  refine bcase_mk (fun hc65 => ?_) (fun hc65 => ?_)
  · have H := (bcase_iff.1 H).1 hc65
    obtain rfl := hr.trans H.symm
    exact ⟨none, 0, rfl, Own.nil, hB⟩
  have H := (bcase_iff.1 H).2 hc65
  refine buildOwn el3 ([] : List Int) (fun _ => by kernel_rfl) rfl (fun A26 w27 P2 e28 => ?_)
  have O2 := P2.mono hB.size
  have hB := ethen hB e28
  obtain ⟨J34, ⟨m63, hJ62⟩, hS35⟩ := H
  refine ⟨fun m_ z_ w_ => ∃ (xs29 : List Int) (i32 : Int) (A30 : Option Addr) (c31 : Nat), z_ = ((A30, xs29.length, c31), i32, ()) ∧ J34 m_ (xs29, i32, ()) ∧ Ext w w_ ∧ Own el3 w_ w.heap.size A30 c31 xs29, ⟨m63, ([] : List Int), 0, A26, 0, rfl, hJ62, hB, O2⟩, ?_⟩
  rintro m33 _ w37 ⟨xs29, i32, A30, c31, rfl, hJ64, hB, O3⟩
  have H := hS35 m33 _ hJ64
  clear hS35 hJ64
  try dsimp only at H ⊢
  refine bcase_mk (fun hc60 => ?_) (fun hc60 => ?_)
  · have H := (bcase_iff.1 H).1 hc60
    obtain ⟨hp40, H⟩ := H
    obtain ⟨r38, hr39⟩ : ∃ r_, r_ = M.impl_next xs0 i32 := ⟨_, rfl⟩
    have H := H r38 hr39
    refine (impl_next.con hp40 hr39 (R0.ext hB) hc0).mono ?_
    rintro _ w41 ⟨A43, c44, rfl, P4, e42⟩
    have N3_4 := Own.apart2_new O3 P4 (Nat.le_refl _)
    have O3 := O3.ext e42
    have O4 := P4.mono hB.size
    have hB := ethen hB e42
    refine ⟨A43, r38.length, c44, rfl, ?_⟩
    refine bcase_mk (fun hc59 => ?_) (fun hc59 => ?_)
    · have H := (bcase_iff.1 H).1 hc59
      refine buildOwn el3 ([i32] : List Int) (fun _ => by kernel_rfl) rfl (fun A45 w46 P5 e47 => ?_)
      have N3_5 := Own.apart2_new O3 P5 (Nat.le_refl _)
      have O3 := O3.ext e47
      have O5 := P5.mono hB.size
      have hB := ethen hB e47
      obtain ⟨hl52, H⟩ := H
      refine appOwn slt26 slt26.under O3 O5.row hB.size rfl (by first | rfl | omega | (simp; done) | (simp; omega)) hl52 (fun A48 c49 w50 P3 e51 => ?_)
      have N5_3_ := Apart2.app (N3_5).symm e51 O5
      have O5 := O5.app e51 (N3_5).symm
      have N5_3 := N5_3_
      have hB := eapp hB e51 O3
      have O3 := P3
      obtain ⟨m53, hm54, hJ55⟩ := H
      exact ⟨m53, hm54, (xs29 ++ ([i32] : List Int)), (IntKind.wrap .i64 (i32 + 1)), A48, c49, rfl, hJ55, hB, O3⟩
    have H := (bcase_iff.1 H).2 hc59
    obtain ⟨m56, hm57, hJ58⟩ := H
    exact ⟨m56, hm57, xs29, (IntKind.wrap .i64 (i32 + 1)), A30, c31, rfl, hJ58, hB, O3⟩
  have H := (bcase_iff.1 H).2 hc60
  obtain rfl := hr.trans H.symm
  exact ⟨A30, c31, rfl, O3, hB⟩
def impl_isBranch.vc (A0 : Option Addr) (n0 : Nat) (c0 : Nat) (x1 : Int) (w : World) (K : Value → World → Prop) : Prop :=
  Cll Try.prog 107 #[(.slice A0 n0 c0)] w fun v21 w22 => (∃ (A23 : Option Addr) (n24 : Nat) (c25 : Nat), v21 = (.slice A23 n24 c25) ∧ Cll Try.prog 106 #[(.slice A23 n24 c25), (.int .i64 x1)] w22 fun v26 w27 => (∃ (b28 : Bool), v26 = (.bool b28) ∧ K (.bool b28) w27))

def impl_isBranch.ann : Ann := (.seq .l (.seq .l .l))

theorem impl_isBranch.start {A0 : Option Addr} {n0 : Nat} {c0 : Nat} {x1 : Int} {w : World} {K : Value → World → Prop} (h : impl_isBranch.vc A0 n0 c0 x1 w K) : Cll Try.prog 94 #[(.slice A0 n0 c0), (.int .i64 x1)] w K :=
  vcF_sound mixed (fn := Try.f94) (by kernel_rfl) (by kernel_rfl) (an := impl_isBranch.ann) (args := [(.slice A0 n0 c0), (.int .i64 x1)]) (Eq.mpr (by kernel_rfl) h)

theorem impl_isBranch.con {xs0 : List D.Ins} {A0 : Option Addr} {c0 : Nat} {x1 : Int} {r : Bool} {w : World} (hp : M.impl_isBranch_pre xs0 x1) (hr : r = M.impl_isBranch xs0 x1) (R0 : Row el60 w A0 xs0) (hc0 : xs0.length ≤ c0) :
    Cll Try.prog 94 #[(.slice A0 xs0.length c0), (.int .i64 x1)] w (fun v_ w_ => v_ = (.bool r) ∧ Ext w w_) := by
  have H := wp.impl_isBranch.math xs0 x1 hp
  have hB := Ext.refl w
  refine impl_isBranch.start ?_
  unfold impl_isBranch.vc
  unfold wp.impl_isBranch at H
  obtain ⟨hp23, H⟩ := H
  obtain ⟨r21, hr22⟩ : ∃ r_, r_ = M.impl_BranchesOf xs0 := ⟨_, rfl⟩
  have H := H r21 hr22
  refine (impl_BranchesOf.con hp23 hr22 (R0.ext hB) hc0).mono ?_
  rintro _ w24 ⟨A26, c27, rfl, P2, e25⟩
  have O2 := P2.mono hB.size
  have hB := ethen hB e25
  refine ⟨A26, r21.length, c27, rfl, ?_⟩
  obtain ⟨hp30, H⟩ := H
  obtain ⟨r28, hr29⟩ : ∃ r_, r_ = M.slices_Contains_int_int r21 x1 := ⟨_, rfl⟩
  have H := H r28 hr29
  refine (slices_Contains_int_int.con hp30 hr29 O2.row O2.le).mono ?_
  rintro _ w31 ⟨rfl, e32⟩
  have O2 := O2.ext e32
  have hB := ethen hB e32
  refine ⟨r28, rfl, ?_⟩
  obtain rfl := hr.trans H.symm
  exact ⟨rfl, hB⟩
def impl_reached.vc (A0 : Option Addr) (n0 : Nat) (c0 : Nat) (A1 : Option Addr) (n1 : Nat) (c1 : Nat) (x2 : Int) (w : World) (K : Value → World → Prop) : Prop :=
  vcMake Try.prog 122 (IntKind.wrap .i64 (((n0 : Nat) : Int) + 1)) (IntKind.wrap .i64 (((n0 : Nat) : Int) + 1)) w fun g21 w22 => Cll Try.prog 45 #[(.slice A1 n1 c1)] w22 fun v23 w24 => (∃ (A25 : Option Addr) (n26 : Nat) (c27 : Nat), v23 = (.slice A25 n26 c27) ∧ LoopT (σ := (Option Addr × Nat × Nat) × Unit) (fun z28 w29 next30 => bcase (decide (((z28.1.2.1 : Nat) : Int) > 0)) (((0 : Int) ≤ 0 ∧ 0 < ((z28.1.2.1 : Nat) : Int) ∧ ∃ a31 : Addr, z28.1.1 = some a31 ∧ ∃ (n32 : Int), w29.cell? ((a31.add (((0 : Int).toNat) * 1)).add 0) = some (.int .i64 n32) ∧ ((0 : Int) ≤ 1 ∧ 1 ≤ ((z28.1.2.1 : Nat) : Int) ∧ bcase (n32 == x2) (next30 (((if z28.1.2.2 = ((1 : Int).toNat) then z28.1.1 else z28.1.1.map (·.add (((1 : Int).toNat) * szOf Try.prog 3))), (z28.1.2.1 - ((1 : Int).toNat)), (z28.1.2.2 - ((1 : Int).toNat))), ()) w29) (((0 : Int) ≤ n32 ∧ n32 < ((((IntKind.wrap .i64 (((n0 : Nat) : Int) + 1)).toNat) : Nat) : Int) ∧ ∃ a34 : Addr, (some (⟨g21, 0, none⟩ : Addr)) = some a34 ∧ ∃ (b35 : Bool), w29.cell? ((a34.add ((n32.toNat) * 1)).add 0) = some (.bool b35) ∧ bcase b35 (next30 (((if z28.1.2.2 = ((1 : Int).toNat) then z28.1.1 else z28.1.1.map (·.add (((1 : Int).toNat) * szOf Try.prog 3))), (z28.1.2.1 - ((1 : Int).toNat)), (z28.1.2.2 - ((1 : Int).toNat))), ()) w29) (((0 : Int) ≤ n32 ∧ n32 < ((((IntKind.wrap .i64 (((n0 : Nat) : Int) + 1)).toNat) : Nat) : Int) ∧ ∃ a36 : Addr, (some (⟨g21, 0, none⟩ : Addr)) = some a36 ∧ stCells (a36.add ((n32.toNat) * 1)) [(.bool true)] 0 w29 fun w37 => Cll Try.prog 95 #[(.slice A0 n0 c0), (.int .i64 n32)] w37 fun v38 w39 => (∃ (A40 : Option Addr) (n41 : Nat) (c42 : Nat), v38 = (.slice A40 n41 c42) ∧ Run Try.prog (Builtin.append_ #[26, 26] 26 #[(.slice (if z28.1.2.2 = ((1 : Int).toNat) then z28.1.1 else z28.1.1.map (·.add (((1 : Int).toNat) * szOf Try.prog 3))) (z28.1.2.1 - ((1 : Int).toNat)) (z28.1.2.2 - ((1 : Int).toNat))), (.slice A40 n41 c42)]) w39 fun v43 w44 => ∃ (A45 : Option Addr) (n46 c47 : Nat), v43 = .slice A45 n46 c47 ∧ next30 ((A45, n46, c47), ()) w44)))))))) (K (.slice (some (⟨g21, 0, none⟩ : Addr)) ((IntKind.wrap .i64 (((n0 : Nat) : Int) + 1)).toNat) ((IntKind.wrap .i64 (((n0 : Nat) : Int) + 1)).toNat)) w29)) ((A25, n26, c27), ()) w24)

def impl_reached.ann : Ann := (.seq .l (.seq .l (.seq .l (.seq (.one (.loop [(8, .sl)] (.seq (.seq .l (.two .l .l)) (.one (.seq .l (.seq .l (.seq (.seq .l (.two .l .l)) (.seq .l .l)))))))) (.seq .l .l)))))

theorem impl_reached.start {A0 : Option Addr} {n0 : Nat} {c0 : Nat} {A1 : Option Addr} {n1 : Nat} {c1 : Nat} {x2 : Int} {w : World} {K : Value → World → Prop} (h : impl_reached.vc A0 n0 c0 A1 n1 c1 x2 w K) : Cll Try.prog 110 #[(.slice A0 n0 c0), (.slice A1 n1 c1), (.int .i64 x2)] w K :=
  vcF_sound mixed (fn := Try.f110) (by kernel_rfl) (by kernel_rfl) (an := impl_reached.ann) (args := [(.slice A0 n0 c0), (.slice A1 n1 c1), (.int .i64 x2)]) (Eq.mpr (by kernel_rfl) h)

theorem impl_reached.con {xs0 : List D.Ins} {A0 : Option Addr} {c0 : Nat} {xs1 : List Int} {A1 : Option Addr} {c1 : Nat} {x2 : Int} {r : List Bool} {w : World} (hp : M.impl_reached_pre xs0 xs1 x2) (hr : r = M.impl_reached xs0 xs1 x2) (R0 : Row el60 w A0 xs0) (hc0 : xs0.length ≤ c0) (R1 : Row el3 w A1 xs1) (hc1 : xs1.length ≤ c1) :
    Cll Try.prog 110 #[(.slice A0 xs0.length c0), (.slice A1 xs1.length c1), (.int .i64 x2)] w (fun v_ w_ => ∃ (A0_ : Option Addr) (c0_ : Nat), v_ = (.slice A0_ r.length c0_) ∧ Own el4 w_ w.heap.size A0_ c0_ r ∧ Ext w w_) := by
  have H := wp.impl_reached.math xs0 xs1 x2 hp
  have hB := Ext.refl w
  refine impl_reached.start ?_
  unfold impl_reached.vc
  unfold wp.impl_reached at H
  obtain ⟨⟨h0_24, h1_25⟩, H⟩ := H
  refine makeOwn slt122 h0_24 h1_25 (fun g21 w22 P3 e23 => ?_)
  have O3 := P3.mono hB.size
  have hB := ethen hB e23
  obtain ⟨hp28, H⟩ := H
  obtain ⟨r26, hr27⟩ : ∃ r_, r_ = M.slices_Clone_int_int xs1 := ⟨_, rfl⟩
  have H := H r26 hr27
  refine (slices_Clone_int_int.con hp28 hr27 (R1.ext hB) hc1).mono ?_
  rintro _ w29 ⟨A31, c32, rfl, P4, e30⟩
  have N3_4 := Own.apart2_new O3 P4 (Nat.le_refl _)
  have O3 := O3.ext e30
  have O4 := P4.mono hB.size
  have hB := ethen hB e30
  refine ⟨A31, r26.length, c32, rfl, ?_⟩
  obtain ⟨J85, ⟨m135, hJ134⟩, hS86⟩ := H
  refine ⟨fun m_ z_ w_ => ∃ (xs79 : List Int) (xs82 : List Bool) (A80 : Option Addr) (c81 : Nat), z_ = ((A80, xs79.length, c81), ()) ∧ J85 m_ (xs79, xs82, ()) ∧ Ext w w_ ∧ Own el3 w_ w.heap.size A80 c81 xs79 ∧ Own el4 w_ w.heap.size (some (⟨g21, 0, none⟩ : Addr)) ((IntKind.wrap .i64 (((xs0.length : Nat) : Int) + 1)).toNat) xs82 ∧ ((IntKind.wrap .i64 (((xs0.length : Nat) : Int) + 1)).toNat) = xs82.length, ⟨m135, r26, (List.replicate ((IntKind.wrap .i64 (((xs0.length : Nat) : Int) + 1)).toNat) (default : Bool)), A31, c32, rfl, hJ134, hB, O4, O3, (by first | rfl | assumption | omega | (simp; done) | (simp; omega) | (simp; assumption))⟩, ?_⟩
  rintro m84 _ w88 ⟨xs79, xs82, A80, c81, rfl, hJ136, hB, O8, O3, hn83⟩
  have H := hS86 m84 _ hJ136
  clear hS86 hJ136
  try dsimp only at H ⊢
  refine bcase_mk (fun hc132 => ?_) (fun hc132 => ?_)
  · have H := (bcase_iff.1 H).1 hc132
    obtain ⟨⟨h0_92, h1_93⟩, H⟩ := H
    obtain ⟨a90, ha91, hat89⟩ := Row.at O8.row h0_92 h1_93
    refine ⟨h0_92, h1_93, a90, ha91, ?_⟩
    refine ⟨_, (hat89 0 _ rfl), ?_⟩
    obtain ⟨⟨hl94, hl95⟩, H⟩ := H
    refine and_assoc.1 ⟨⟨hl94, hl95⟩, ?_⟩
    rw [show (xs79.length - ((1 : Int).toNat)) = ((List.drop ((1 : Int).toNat) xs79)).length from by first | rfl | (simp; done) | (simp; omega)]
    have O9 := (O8.drop (l := ((1 : Int).toNat)) (by first | omega | (simp; done) | (simp; omega)))
    refine bcase_mk (fun hc131 => ?_) (fun hc131 => ?_)
    · have H := (bcase_iff.1 H).1 hc131
      obtain ⟨m96, hm97, hJ98⟩ := H
      exact ⟨m96, hm97, (List.drop ((1 : Int).toNat) xs79), xs82, (cutA c81 ((1 : Int).toNat) A80 1), (c81 - ((1 : Int).toNat)), rfl, hJ98, hB, O9, O3, (by first | rfl | assumption | omega | (simp; done) | (simp; omega) | (simp; assumption))⟩
    have H := (bcase_iff.1 H).2 hc131
    obtain ⟨⟨h0_102, h1_103⟩, H⟩ := H
    obtain ⟨a100, ha101, hat99⟩ := Row.at O3.row h0_102 h1_103
    refine ⟨h0_102, (by first | exact h1_103 | omega | (simp at h1_103 ⊢; omega)), a100, ha101, ?_⟩
    refine ⟨_, (hat99 0 _ rfl), ?_⟩
    refine bcase_mk (fun hc130 => ?_) (fun hc130 => ?_)
    · have H := (bcase_iff.1 H).1 hc130
      obtain ⟨m104, hm105, hJ106⟩ := H
      exact ⟨m104, hm105, (List.drop ((1 : Int).toNat) xs79), xs82, (cutA c81 ((1 : Int).toNat) A80 1), (c81 - ((1 : Int).toNat)), rfl, hJ106, hB, O9, O3, (by first | rfl | assumption | omega | (simp; done) | (simp; omega) | (simp; assumption))⟩
    have H := (bcase_iff.1 H).2 hc130
    obtain ⟨⟨h0_110, h1_111⟩, H⟩ := H
    obtain ⟨a108, ha109, hat107⟩ := Row.at O3.row h0_110 h1_111
    refine ⟨h0_110, (by first | exact h1_111 | omega | (simp at h1_111 ⊢; omega)), a108, ha109, ?_⟩
    refine Own.storeAt O3 ha109 h0_110 h1_111 0 [(.bool true)] true rfl (Nat.le_of_ble_eq_true rfl) rfl (fun w112 P3 e113 hb114 => ?_)
    have O8_ := O8.chg e113 (((Own.apart2_type O8 O3 (by decide))).left ha109)
    have O9_ := O9.chg e113 (((cutApart2 (Own.apart2_type O8 O3 (by decide)))).left ha109)
    have O8 := O8_
    have O9 := O9_
    have hB := echg hB e113 hb114
    have O3 := P3
    obtain ⟨hp117, H⟩ := H
    obtain ⟨r115, hr116⟩ : ∃ r_, r_ = M.impl_next xs0 (rd xs79 0) := ⟨_, rfl⟩
    have H := H r115 hr116
    refine (impl_next.con hp117 hr116 (R0.ext hB) hc0).mono ?_
    rintro _ w118 ⟨A120, c121, rfl, P10, e119⟩
    have N3_10 := Own.apart2_new O3 P10 (Nat.le_refl _)
    have N8_10 := Own.apart2_new O8 P10 (Nat.le_refl _)
    have N9_10 := Own.apart2_new O9 P10 (Nat.le_refl _)
    have O3 := O3.ext e119
    have O8 := O8.ext e119
    have O9 := O9.ext e119
    have O10 := P10.mono hB.size
    have hB := ethen hB e119
    refine ⟨A120, r115.length, c121, rfl, ?_⟩
    obtain ⟨hl126, H⟩ := H
    refine appOwn slt26 slt26.under O9 O10.row hB.size rfl rfl hl126 (fun A122 c123 w124 P9 e125 => ?_)
    have N3_9_ := Apart2.app (cutApart2 (Own.apart2_type O3 O8 (by decide)).symm).symm e125 O3
    have O3 := O3.app e125 (cutApart2 (Own.apart2_type O3 O8 (by decide)).symm).symm
    have N10_9_ := Apart2.app (N9_10).symm e125 O10
    have O10 := O10.app e125 (N9_10).symm
    have N3_9 := N3_9_
    have N10_9 := N10_9_
    have hB := eapp hB e125 O9
    have O9 := P9
    obtain ⟨m127, hm128, hJ129⟩ := H
    exact ⟨m127, hm128, ((List.drop ((1 : Int).toNat) xs79) ++ r115), (List.set xs82 ((rd xs79 0).toNat) true), A122, c123, rfl, hJ129, hB, O9, O3, (by first | rfl | assumption | omega | (simp; done) | (simp; omega) | (simp; assumption))⟩
  have H := (bcase_iff.1 H).2 hc132
  obtain rfl := hr.trans H.symm
  exact ⟨(some (⟨g21, 0, none⟩ : Addr)), ((IntKind.wrap .i64 (((xs0.length : Nat) : Int) + 1)).toNat), (by first | rfl | (rw [hn83]; done) | (simp; done) | (simp; omega) | (simp [*]; done)), (by first | exact O3 | (simp only [List.length_set]; exact O3) | (rw [← hn83]; exact O3)), hB⟩
def impl_reachesExit.vc (A0 : Option Addr) (n0 : Nat) (c0 : Nat) (x1 : Int) (w : World) (K : Value → World → Prop) : Prop :=
  Run Try.prog (Instr.buildSlice 26 1 #[(0, (.int .i64 x1))]) w fun v21 w22 => ∃ (A23 : Option Addr) (n24 c25 : Nat), v21 = .slice A23 n24 c25 ∧ Cll Try.prog 110 #[(.slice A0 n0 c0), (.slice A23 n24 c25), (.int .i64 (-1))] w22 fun v26 w27 => (∃ (A28 : Option Addr) (n29 : Nat) (c30 : Nat), v26 = (.slice A28 n29 c30) ∧ ((0 : Int) ≤ ((n0 : Nat) : Int) ∧ ((n0 : Nat) : Int) < ((n29 : Nat) : Int) ∧ ∃ a31 : Addr, A28 = some a31 ∧ ∃ (b32 : Bool), w27.cell? ((a31.add ((((n0 : Nat) : Int).toNat) * 1)).add 0) = some (.bool b32) ∧ K (.bool b32) w27))

def impl_reachesExit.ann : Ann := (.seq .l (.seq .l .l))

theorem impl_reachesExit.start {A0 : Option Addr} {n0 : Nat} {c0 : Nat} {x1 : Int} {w : World} {K : Value → World → Prop} (h : impl_reachesExit.vc A0 n0 c0 x1 w K) : Cll Try.prog 96 #[(.slice A0 n0 c0), (.int .i64 x1)] w K :=
  vcF_sound mixed (fn := Try.f96) (by kernel_rfl) (by kernel_rfl) (an := impl_reachesExit.ann) (args := [(.slice A0 n0 c0), (.int .i64 x1)]) (Eq.mpr (by kernel_rfl) h)

theorem impl_reachesExit.con {xs0 : List D.Ins} {A0 : Option Addr} {c0 : Nat} {x1 : Int} {r : Bool} {w : World} (hp : M.impl_reachesExit_pre xs0 x1) (hr : r = M.impl_reachesExit xs0 x1) (R0 : Row el60 w A0 xs0) (hc0 : xs0.length ≤ c0) :
    Cll Try.prog 96 #[(.slice A0 xs0.length c0), (.int .i64 x1)] w (fun v_ w_ => v_ = (.bool r) ∧ Ext w w_) := by
  have H := wp.impl_reachesExit.math xs0 x1 hp
  have hB := Ext.refl w
  refine impl_reachesExit.start ?_
  unfold impl_reachesExit.vc
  unfold wp.impl_reachesExit at H
  refine buildOwn el3 ([x1] : List Int) (fun _ => by kernel_rfl) rfl (fun A21 w22 P2 e23 => ?_)
  have O2 := P2.mono hB.size
  have hB := ethen hB e23
  obtain ⟨hp26, H⟩ := H
  obtain ⟨r24, hr25⟩ : ∃ r_, r_ = M.impl_reached xs0 ([x1] : List Int) (-1) := ⟨_, rfl⟩
  have H := H r24 hr25
  refine (cllArgs (by first | (simp only [List.length_set]; done) | (simp; done)) (impl_reached.con hp26 hr25 (R0.ext hB) hc0 O2.row O2.le)).mono ?_
  rintro _ w27 ⟨A29, c30, rfl, P3, e28⟩
  have N2_3 := Own.apart2_new O2 P3 (Nat.le_refl _)
  have O2 := O2.ext e28
  have O3 := P3.mono hB.size
  have hB := ethen hB e28
  refine ⟨A29, r24.length, c30, rfl, ?_⟩
  obtain ⟨⟨h0_34, h1_35⟩, H⟩ := H
  obtain ⟨a32, ha33, hat31⟩ := Row.at O3.row h0_34 h1_35
  refine ⟨h0_34, h1_35, a32, ha33, ?_⟩
  refine ⟨_, (hat31 0 _ rfl), ?_⟩
  obtain rfl := hr.trans H.symm
  exact ⟨rfl, hB⟩
def impl_isNode.vc (A0 : Option Addr) (n0 : Nat) (c0 : Nat) (x1 : Int) (w : World) (K : Value → World → Prop) : Prop :=
  Cll Try.prog 32 #[(.slice A0 n0 c0)] w fun v21 w22 => (∃ (b23 : Bool), v21 = (.bool b23) ∧ bcase b23 (Cll Try.prog 33 #[(.int .i64 x1), (.int .i64 0), (.int .i64 ((n0 : Nat) : Int))] w22 fun v24 w25 => (∃ (b26 : Bool), v24 = (.bool b26) ∧ K (.bool b26) w25)) (K (.bool false) w22))

def impl_isNode.ann : Ann := (.seq .l (.seq .l .l))

theorem impl_isNode.start {A0 : Option Addr} {n0 : Nat} {c0 : Nat} {x1 : Int} {w : World} {K : Value → World → Prop} (h : impl_isNode.vc A0 n0 c0 x1 w K) : Cll Try.prog 137 #[(.slice A0 n0 c0), (.int .i64 x1)] w K :=
  vcF_sound mixed (fn := Try.f137) (by kernel_rfl) (by kernel_rfl) (an := impl_isNode.ann) (args := [(.slice A0 n0 c0), (.int .i64 x1)]) (Eq.mpr (by kernel_rfl) h)

theorem impl_isNode.con {xs0 : List D.Ins} {A0 : Option Addr} {c0 : Nat} {x1 : Int} {r : Bool} {w : World} (hp : M.impl_isNode_pre xs0 x1) (hr : r = M.impl_isNode xs0 x1) (R0 : Row el60 w A0 xs0) (hc0 : xs0.length ≤ c0) :
    Cll Try.prog 137 #[(.slice A0 xs0.length c0), (.int .i64 x1)] w (fun v_ w_ => v_ = (.bool r) ∧ Ext w w_) := by
  have H := wp.impl_isNode.math xs0 x1 hp
  have hB := Ext.refl w
  refine impl_isNode.start ?_
  unfold impl_isNode.vc
  unfold wp.impl_isNode at H
  obtain ⟨hp23, H⟩ := H
  obtain ⟨r21, hr22⟩ : ∃ r_, r_ = M.impl_ProgramOk xs0 := ⟨_, rfl⟩
  have H := H r21 hr22
  refine (impl_ProgramOk.con hp23 hr22 (R0.ext hB) hc0).mono ?_
  rintro _ w24 ⟨rfl, e25⟩
  have hB := ethen hB e25
  refine ⟨r21, rfl, ?_⟩
  refine bcase_mk (fun hc31 => ?_) (fun hc31 => ?_)
  · have H := (bcase_iff.1 H).1 hc31
    obtain ⟨r26, hr27⟩ : ∃ r_, r_ = M.impl_within x1 0 ((xs0.length : Nat) : Int) := ⟨_, rfl⟩
    have H := H r26 hr27
    refine (impl_within.con hr27 ).mono ?_
    rintro _ w29 ⟨rfl, e30⟩
    have hB := ethen hB e30
    refine ⟨r26, rfl, ?_⟩
    obtain rfl := hr.trans H.symm
    exact ⟨rfl, hB⟩
  have H := (bcase_iff.1 H).2 hc31
  obtain rfl := hr.trans H.symm
  exact ⟨rfl, hB⟩
def impl_isAfter.vc (A0 : Option Addr) (n0 : Nat) (c0 : Nat) (x1 : Int) (x2 : Int) (w : World) (K : Value → World → Prop) : Prop :=
  Cll Try.prog 96 #[(.slice A0 n0 c0), (.int .i64 x1)] w fun v21 w22 => (∃ (b23 : Bool), v21 = (.bool b23) ∧ bcase b23 (Run Try.prog (Instr.buildSlice 26 1 #[(0, (.int .i64 x1))]) w22 fun v24 w25 => ∃ (A26 : Option Addr) (n27 c28 : Nat), v24 = .slice A26 n27 c28 ∧ Cll Try.prog 110 #[(.slice A0 n0 c0), (.slice A26 n27 c28), (.int .i64 x2)] w25 fun v29 w30 => (∃ (A31 : Option Addr) (n32 : Nat) (c33 : Nat), v29 = (.slice A31 n32 c33) ∧ ((0 : Int) ≤ ((n0 : Nat) : Int) ∧ ((n0 : Nat) : Int) < ((n32 : Nat) : Int) ∧ ∃ a34 : Addr, A31 = some a34 ∧ ∃ (b35 : Bool), w30.cell? ((a34.add ((((n0 : Nat) : Int).toNat) * 1)).add 0) = some (.bool b35) ∧ K (.bool (!b35)) w30))) (K (.bool false) w22))

def impl_isAfter.ann : Ann := (.seq .l (.seq .l .l))

theorem impl_isAfter.start {A0 : Option Addr} {n0 : Nat} {c0 : Nat} {x1 : Int} {x2 : Int} {w : World} {K : Value → World → Prop} (h : impl_isAfter.vc A0 n0 c0 x1 x2 w K) : Cll Try.prog 122 #[(.slice A0 n0 c0), (.int .i64 x1), (.int .i64 x2)] w K :=
  vcF_sound mixed (fn := Try.f122) (by kernel_rfl) (by kernel_rfl) (an := impl_isAfter.ann) (args := [(.slice A0 n0 c0), (.int .i64 x1), (.int .i64 x2)]) (Eq.mpr (by kernel_rfl) h)

theorem impl_isAfter.con {xs0 : List D.Ins} {A0 : Option Addr} {c0 : Nat} {x1 : Int} {x2 : Int} {r : Bool} {w : World} (hp : M.impl_isAfter_pre xs0 x1 x2) (hr : r = M.impl_isAfter xs0 x1 x2) (R0 : Row el60 w A0 xs0) (hc0 : xs0.length ≤ c0) :
    Cll Try.prog 122 #[(.slice A0 xs0.length c0), (.int .i64 x1), (.int .i64 x2)] w (fun v_ w_ => v_ = (.bool r) ∧ Ext w w_) := by
  have H := wp.impl_isAfter.math xs0 x1 x2 hp
  have hB := Ext.refl w
  refine impl_isAfter.start ?_
  unfold impl_isAfter.vc
  unfold wp.impl_isAfter at H
  obtain ⟨hp23, H⟩ := H
  obtain ⟨r21, hr22⟩ : ∃ r_, r_ = M.impl_reachesExit xs0 x1 := ⟨_, rfl⟩
  have H := H r21 hr22
  refine (impl_reachesExit.con hp23 hr22 (R0.ext hB) hc0).mono ?_
  rintro _ w24 ⟨rfl, e25⟩
  have hB := ethen hB e25
  refine ⟨r21, rfl, ?_⟩
  refine bcase_mk (fun hc41 => ?_) (fun hc41 => ?_)
  · have H := (bcase_iff.1 H).1 hc41
    refine buildOwn el3 ([x1] : List Int) (fun _ => by kernel_rfl) rfl (fun A26 w27 P2 e28 => ?_)
    have O2 := P2.mono hB.size
    have hB := ethen hB e28
    obtain ⟨hp31, H⟩ := H
    obtain ⟨r29, hr30⟩ : ∃ r_, r_ = M.impl_reached xs0 ([x1] : List Int) x2 := ⟨_, rfl⟩
    have H := H r29 hr30
    refine (cllArgs (by first | (simp only [List.length_set]; done) | (simp; done)) (impl_reached.con hp31 hr30 (R0.ext hB) hc0 O2.row O2.le)).mono ?_
    rintro _ w32 ⟨A34, c35, rfl, P3, e33⟩
    have N2_3 := Own.apart2_new O2 P3 (Nat.le_refl _)
    have O2 := O2.ext e33
    have O3 := P3.mono hB.size
    have hB := ethen hB e33
    refine ⟨A34, r29.length, c35, rfl, ?_⟩
    obtain ⟨⟨h0_39, h1_40⟩, H⟩ := H
    obtain ⟨a37, ha38, hat36⟩ := Row.at O3.row h0_39 h1_40
    refine ⟨h0_39, h1_40, a37, ha38, ?_⟩
    refine ⟨_, (hat36 0 _ rfl), ?_⟩
    obtain rfl := hr.trans H.symm
    exact ⟨rfl, hB⟩
  have H := (bcase_iff.1 H).2 hc41
  obtain rfl := hr.trans H.symm
  exact ⟨rfl, hB⟩
def impl_IsAfter.vc (A0 : Option Addr) (n0 : Nat) (c0 : Nat) (x1 : Int) (x2 : Int) (w : World) (K : Value → World → Prop) : Prop :=
  Cll Try.prog 137 #[(.slice A0 n0 c0), (.int .i64 x1)] w fun v21 w22 => (∃ (b23 : Bool), v21 = (.bool b23) ∧ bcase b23 (Cll Try.prog 137 #[(.slice A0 n0 c0), (.int .i64 x2)] w22 fun v24 w25 => (∃ (b26 : Bool), v24 = (.bool b26) ∧ bcase b26 (Cll Try.prog 122 #[(.slice A0 n0 c0), (.int .i64 x1), (.int .i64 x2)] w25 fun v27 w28 => (∃ (b29 : Bool), v27 = (.bool b29) ∧ K (.bool b29) w28)) (K (.bool false) w25))) (K (.bool false) w22))

def impl_IsAfter.ann : Ann := (.seq .l (.seq .l .l))

theorem impl_IsAfter.start {A0 : Option Addr} {n0 : Nat} {c0 : Nat} {x1 : Int} {x2 : Int} {w : World} {K : Value → World → Prop} (h : impl_IsAfter.vc A0 n0 c0 x1 x2 w K) : Cll Try.prog 123 #[(.slice A0 n0 c0), (.int .i64 x1), (.int .i64 x2)] w K :=
  vcF_sound mixed (fn := Try.f123) (by kernel_rfl) (by kernel_rfl) (an := impl_IsAfter.ann) (args := [(.slice A0 n0 c0), (.int .i64 x1), (.int .i64 x2)]) (Eq.mpr (by kernel_rfl) h)

theorem impl_IsAfter.con {xs0 : List D.Ins} {A0 : Option Addr} {c0 : Nat} {x1 : Int} {x2 : Int} {r : Bool} {w : World} (hp : M.impl_IsAfter_pre xs0 x1 x2) (hr : r = M.impl_IsAfter xs0 x1 x2) (R0 : Row el60 w A0 xs0) (hc0 : xs0.length ≤ c0) :
    Cll Try.prog 123 #[(.slice A0 xs0.length c0), (.int .i64 x1), (.int .i64 x2)] w (fun v_ w_ => v_ = (.bool r) ∧ Ext w w_) := by
  have H := wp.impl_IsAfter.math xs0 x1 x2 hp
  have hB := Ext.refl w
  refine impl_IsAfter.start ?_
  unfold impl_IsAfter.vc
  unfold wp.impl_IsAfter at H
  obtain ⟨hp23, H⟩ := H
  obtain ⟨r21, hr22⟩ : ∃ r_, r_ = M.impl_isNode xs0 x1 := ⟨_, rfl⟩
  have H := H r21 hr22
  refine (impl_isNode.con hp23 hr22 (R0.ext hB) hc0).mono ?_
  rintro _ w24 ⟨rfl, e25⟩
  have hB := ethen hB e25
  refine ⟨r21, rfl, ?_⟩
  refine bcase_mk (fun hc37 => ?_) (fun hc37 => ?_)
  · have H := (bcase_iff.1 H).1 hc37
    obtain ⟨hp28, H⟩ := H
    obtain ⟨r26, hr27⟩ : ∃ r_, r_ = M.impl_isNode xs0 x2 := ⟨_, rfl⟩
    have H := H r26 hr27
    refine (impl_isNode.con hp28 hr27 (R0.ext hB) hc0).mono ?_
    rintro _ w29 ⟨rfl, e30⟩
    have hB := ethen hB e30
    refine ⟨r26, rfl, ?_⟩
    refine bcase_mk (fun hc36 => ?_) (fun hc36 => ?_)
    · have H := (bcase_iff.1 H).1 hc36
      obtain ⟨hp33, H⟩ := H
      obtain ⟨r31, hr32⟩ : ∃ r_, r_ = M.impl_isAfter xs0 x1 x2 := ⟨_, rfl⟩
      have H := H r31 hr32
      refine (impl_isAfter.con hp33 hr32 (R0.ext hB) hc0).mono ?_
      rintro _ w34 ⟨rfl, e35⟩
      have hB := ethen hB e35
      refine ⟨r31, rfl, ?_⟩
      obtain rfl := hr.trans H.symm
      exact ⟨rfl, hB⟩
    have H := (bcase_iff.1 H).2 hc36
    obtain rfl := hr.trans H.symm
    exact ⟨rfl, hB⟩
  have H := (bcase_iff.1 H).2 hc37
  obtain rfl := hr.trans H.symm
  exact ⟨rfl, hB⟩
def impl_AftersOf.vc (A0 : Option Addr) (n0 : Nat) (c0 : Nat) (x1 : Int) (w : World) (K : Value → World → Prop) : Prop :=
  Run Try.prog (Instr.buildSlice 26 0 #[]) w fun v21 w22 => ∃ (A23 : Option Addr) (n24 c25 : Nat), v21 = .slice A23 n24 c25 ∧ LoopT (σ := (Option Addr × Nat × Nat) × Int × Unit) (fun z26 w27 next28 => bcase (decide (z26.2.1 < (IntKind.wrap .i64 (((n0 : Nat) : Int) + 1)))) (Cll Try.prog 123 #[(.slice A0 n0 c0), (.int .i64 x1), (.int .i64 z26.2.1)] w27 fun v29 w30 => (∃ (b31 : Bool), v29 = (.bool b31) ∧ bcase b31 (Run Try.prog (Instr.buildSlice 26 1 #[(0, (.int .i64 z26.2.1))]) w30 fun v32 w33 => ∃ (A34 : Option Addr) (n35 c36 : Nat), v32 = .slice A34 n35 c36 ∧ Run Try.prog (Builtin.append_ #[26, 26] 26 #[(.slice z26.1.1 z26.1.2.1 z26.1.2.2), (.slice A34 n35 c36)]) w33 fun v37 w38 => ∃ (A39 : Option Addr) (n40 c41 : Nat), v37 = .slice A39 n40 c41 ∧ next28 ((A39, n40, c41), (IntKind.wrap .i64 (z26.2.1 + 1)), ()) w38) (next28 ((z26.1.1, z26.1.2.1, z26.1.2.2), (IntKind.wrap .i64 (z26.2.1 + 1)), ()) w30))) (K (.slice z26.1.1 z26.1.2.1 z26.1.2.2) w27)) ((A23, n24, c25), 0, ()) w22

def impl_AftersOf.ann : Ann := (.seq .l (.seq .l (.seq (.seq .l (.one (.loop [(5, .sl), (11, .int .i64)] (.seq .l (.seq (.two .l .l) (.seq (.one (.seq .l (.seq .l (.two .l .l)))) .l)))))) (.seq .l .l))))

theorem impl_AftersOf.start {A0 : Option Addr} {n0 : Nat} {c0 : Nat} {x1 : Int} {w : World} {K : Value → World → Prop} (h : impl_AftersOf.vc A0 n0 c0 x1 w K) : Cll Try.prog 113 #[(.slice A0 n0 c0), (.int .i64 x1)] w K :=
  vcF_sound mixed (fn := Try.f113) (by kernel_rfl) (by kernel_rfl) (an := impl_AftersOf.ann) (args := [(.slice A0 n0 c0), (.int .i64 x1)]) (Eq.mpr (by kernel_rfl) h)

theorem impl_AftersOf.con {xs0 : List D.Ins} {A0 : Option Addr} {c0 : Nat} {x1 : Int} {r : List Int} {w : World} (hp : M.impl_AftersOf_pre xs0 x1) (hr : r = M.impl_AftersOf xs0 x1) (R0 : Row el60 w A0 xs0) (hc0 : xs0.length ≤ c0) :
    Cll Try.prog 113 #[(.slice A0 xs0.length c0), (.int .i64 x1)] w (fun v_ w_ => ∃ (A0_ : Option Addr) (c0_ : Nat), v_ = (.slice A0_ r.length c0_) ∧ Own el3 w_ w.heap.size A0_ c0_ r ∧ Ext w w_) := by
  have H := wp.impl_AftersOf.math xs0 x1 hp
  have hB := Ext.refl w
  refine impl_AftersOf.start ?_
  unfold impl_AftersOf.vc
  unfold wp.impl_AftersOf at H
  refine buildOwn el3 ([] : List Int) (fun _ => by kernel_rfl) rfl (fun A21 w22 P2 e23 => ?_)
  have O2 := P2.mono hB.size
  have hB := ethen hB e23
  obtain ⟨J29, ⟨m56, hJ55⟩, hS30⟩ := H
  refine ⟨fun m_ z_ w_ => ∃ (xs24 : List Int) (i27 : Int) (A25 : Option Addr) (c26 : Nat), z_ = ((A25, xs24.length, c26), i27, ()) ∧ J29 m_ (xs24, i27, ()) ∧ Ext w w_ ∧ Own el3 w_ w.heap.size A25 c26 xs24, ⟨m56, ([] : List Int), 0, A21, 0, rfl, hJ55, hB, O2⟩, ?_⟩
  rintro m28 _ w32 ⟨xs24, i27, A25, c26, rfl, hJ57, hB, O3⟩
  have H := hS30 m28 _ hJ57
  clear hS30 hJ57
  try dsimp only at H ⊢
  refine bcase_mk (fun hc53 => ?_) (fun hc53 => ?_)
  · have H := (bcase_iff.1 H).1 hc53
    obtain ⟨hp35, H⟩ := H
    obtain ⟨r33, hr34⟩ : ∃ r_, r_ = M.impl_IsAfter xs0 x1 i27 := ⟨_, rfl⟩
    have H := H r33 hr34
    refine (impl_IsAfter.con hp35 hr34 (R0.ext hB) hc0).mono ?_
    rintro _ w36 ⟨rfl, e37⟩
    have O3 := O3.ext e37
    have hB := ethen hB e37
    refine ⟨r33, rfl, ?_⟩
    refine bcase_mk (fun hc52 => ?_) (fun hc52 => ?_)
    · have H := (bcase_iff.1 H).1 hc52
      refine buildOwn el3 ([i27] : List Int) (fun _ => by kernel_rfl) rfl (fun A38 w39 P4 e40 => ?_)
      have N3_4 := Own.apart2_new O3 P4 (Nat.le_refl _)
      have O3 := O3.ext e40
      have O4 := P4.mono hB.size
      have hB := ethen hB e40
      obtain ⟨hl45, H⟩ := H
      refine appOwn slt26 slt26.under O3 O4.row hB.size rfl (by first | rfl | omega | (simp; done) | (simp; omega)) hl45 (fun A41 c42 w43 P3 e44 => ?_)
      have N4_3_ := Apart2.app (N3_4).symm e44 O4
      have O4 := O4.app e44 (N3_4).symm
      have N4_3 := N4_3_
      have hB := eapp hB e44 O3
      have O3 := P3
      obtain ⟨m46, hm47, hJ48⟩ := H
      exact ⟨m46, hm47, (xs24 ++ ([i27] : List Int)), (IntKind.wrap .i64 (i27 + 1)), A41, c42, rfl, hJ48, hB, O3⟩
    have H := (bcase_iff.1 H).2 hc52
    obtain ⟨m49, hm50, hJ51⟩ := H
    exact ⟨m49, hm50, xs24, (IntKind.wrap .i64 (i27 + 1)), A25, c26, rfl, hJ51, hB, O3⟩
  have H := (bcase_iff.1 H).2 hc53
  obtain rfl := hr.trans H.symm
  exact ⟨A25, c26, rfl, O3, hB⟩
def impl_FirstAfter_1.vc (x0 : Int) (p1 : Addr) (w : World) (K : Value → World → Prop) : Prop :=
  ∃ (n21 : Int), w.cell? (p1.add 0) = some (.int .i64 n21) ∧ K (.bool (x0 == n21)) w

def impl_FirstAfter_1.ann : Ann := (.seq .l (.seq .l .l))

theorem impl_FirstAfter_1.start {x0 : Int} {p1 : Addr} {w : World} {K : Value → World → Prop} (h : impl_FirstAfter_1.vc x0 p1 w K) : Cll Try.prog 114 #[(.int .i64 x0), (.pointer (some p1))] w K :=
  vcF_sound mixed (fn := Try.f114) (by kernel_rfl) (by kernel_rfl) (an := impl_FirstAfter_1.ann) (args := [(.int .i64 x0), (.pointer (some p1))]) (Eq.mpr (by kernel_rfl) h)

theorem impl_FirstAfter_1.con {x0 : Int} {x1 : Int} {g1_ : Nat} {r : Bool} {w : World} (hp : M.impl_FirstAfter_1_pre x0 x1) (hr : r = M.impl_FirstAfter_1 x0 x1) (O1 : Blk w g1_ 3 #[(.int .i64 x1)]) :
    Cll Try.prog 114 #[(.int .i64 x0), (.pointer (some (⟨g1_, 0, none⟩ : Addr)))] w (fun v_ w_ => v_ = (.bool r) ∧ Ext w w_) := by
  have H := wp.impl_FirstAfter_1.math x0 x1 hp
  have hB := Ext.refl w
  refine impl_FirstAfter_1.start ?_
  unfold impl_FirstAfter_1.vc
  unfold wp.impl_FirstAfter_1 at H
  refine ⟨_, (O1.at 0 rfl rfl), ?_⟩
  obtain rfl := hr.trans H.symm
  exact ⟨rfl, hB⟩
def slices_DeleteFunc_int_int.vc (A0 : Option Addr) (n0 : Nat) (c0 : Nat) (f1 : Nat) (cap1 : Array Value) (w : World) (K : Value → World → Prop) : Prop :=
  Cll Try.prog 93 #[(.slice A0 n0 c0), (.func (.func f1) #[] cap1)] w fun v21 w22 => (∃ (n23 : Int), v21 = (.int .i64 n23) ∧ bcase (n23 == (-1)) (K (.slice A0 n0 c0) w22) (LoopT (σ := Int × Int × Unit) (fun z24 w25 next26 => bcase (decide (z24.2.1 < ((n0 : Nat) : Int))) (((0 : Int) ≤ z24.2.1 ∧ z24.2.1 < ((n0 : Nat) : Int) ∧ ∃ a27 : Addr, A0 = some a27 ∧ ∃ (n28 : Int), w25.cell? ((a27.add ((z24.2.1.toNat) * 1)).add 0) = some (.int .i64 n28) ∧ Cll Try.prog f1 (#[(.int .i64 n28)] ++ cap1) w25 fun v29 w30 => (∃ (b31 : Bool), v29 = (.bool b31) ∧ bcase (!b31) (((0 : Int) ≤ z24.1 ∧ z24.1 < ((n0 : Nat) : Int) ∧ ∃ a32 : Addr, A0 = some a32 ∧ stCells (a32.add ((z24.1.toNat) * 1)) [(.int .i64 n28)] 0 w30 fun w33 => next26 ((IntKind.wrap .i64 (z24.1 + 1)), (IntKind.wrap .i64 (z24.2.1 + 1)), ()) w33)) (next26 (z24.1, (IntKind.wrap .i64 (z24.2.1 + 1)), ()) w30)))) (((0 : Int) ≤ z24.1 ∧ z24.1 ≤ ((n0 : Nat) : Int) ∧ Run Try.prog (Builtin.clear_ #[26] 0 #[(.slice (if c0 = (z24.1.toNat) then A0 else A0.map (·.add ((z24.1.toNat) * szOf Try.prog 3))) (n0 - (z24.1.toNat)) (c0 - (z24.1.toNat)))]) w25 fun v34 w35 => v34 = .tuple #[] ∧ ((0 : Int) ≤ z24.1 ∧ z24.1 ≤ ((c0 : Nat) : Int) ∧ K (.slice A0 (z24.1.toNat) c0) w35)))) (n23, (IntKind.wrap .i64 (n23 + 1)), ()) w22))

def slices_DeleteFunc_int_int.ann : Ann := (.seq .l (.seq .l (.seq (.seq .l (.two (.seq .l .l) .l)) (.seq (.seq .l (.one (.loop [(5, .int .i64), (6, .int .i64)] (.seq (.seq .l (.two .l .l)) (.seq (.one (.seq .l (.seq .l (.two (.seq .l .l) .l)))) .l))))) (.seq .l (.seq .l .l))))))

theorem slices_DeleteFunc_int_int.start {A0 : Option Addr} {n0 : Nat} {c0 : Nat} {f1 : Nat} {cap1 : Array Value} {w : World} {K : Value → World → Prop} (h : slices_DeleteFunc_int_int.vc A0 n0 c0 f1 cap1 w K) : Cll Try.prog 112 #[(.slice A0 n0 c0), (.func (.func f1) #[] cap1)] w K :=
  vcF_sound mixed (fn := Try.f112) (by kernel_rfl) (by kernel_rfl) (an := slices_DeleteFunc_int_int.ann) (args := [(.slice A0 n0 c0), (.func (.func f1) #[] cap1)]) (Eq.mpr (by kernel_rfl) h)

theorem slices_DeleteFunc_int_int.con {xs0 : List Int} {A0 : Option Addr} {c0 : Nat} {f1 : Nat} {cap1 : Array Value} {g1 : Int → Bool} {D1 : Int → Prop} {r : List Int} {w : World} (hp : M.slices_DeleteFunc_int_int_pre xs0 g1 D1) (hr : r = M.slices_DeleteFunc_int_int xs0 g1) (O1 : Own el3 w 0 A0 c0 xs0) (F1 : ∀ (z0_ : Int), D1 z0_ → ∀ w_ : World, Chg (InB A0) w w_ → Cll Try.prog f1 (#[(.int .i64 z0_)] ++ cap1) w_ (fun v_ w1_ => v_ = (.bool (g1 z0_)) ∧ Ext w_ w1_)) :
    Cll Try.prog 112 #[(.slice A0 xs0.length c0), (.func (.func f1) #[] cap1)] w (fun v_ w_ => ∃ (A0_ : Option Addr) (c0_ : Nat), v_ = (.slice A0_ r.length c0_) ∧ Own el3 w_ 0 A0_ c0_ r ∧ Mov w A0 A0_ ∧ Chg (InB A0) w w_) := by
  have H := wp.slices_DeleteFunc_int_int.math xs0 g1 D1 hp
  have hB := Chg.refl (InB A0) w
  refine slices_DeleteFunc_int_int.start ?_
  unfold slices_DeleteFunc_int_int.vc
  unfold wp.slices_DeleteFunc_int_int at H
  obtain ⟨hp23, H⟩ := H
  obtain ⟨r21, hr22⟩ : ∃ r_, r_ = M.slices_IndexFunc_int_int xs0 g1 := ⟨_, rfl⟩
  have H := H r21 hr22
  refine (slices_IndexFunc_int_int.con hp23 hr22 O1.row O1.le (fun z0_  h_ w_ e_ => F1 z0_  h_ w_ (hB.then e_))).mono ?_
  rintro _ w24 ⟨rfl, e25⟩
  have O1 := O1.ext e25
  have hB := hB.then e25
  refine ⟨r21, rfl, ?_⟩
  refine bcase_mk (fun hc96 => ?_) (fun hc96 => ?_)
  · have H := (bcase_iff.1 H).1 hc96
    obtain rfl := hr.trans H.symm
    exact ⟨A0, c0, rfl, (O1.mono (Nat.zero_le _)), (Mov.same _ _), hB⟩
  have H := (bcase_iff.1 H).2 hc96
  obtain ⟨J56, ⟨m94, hJ93⟩, hS57⟩ := H
  refine ⟨fun m_ z_ w_ => ∃ (i51 : Int) (i52 : Int) (xs53 : List Int), z_ = (i51, i52, ()) ∧ J56 m_ (i51, i52, xs53, ()) ∧ Chg (InB A0) w w_ ∧ Own el3 w_ 0 A0 c0 xs53 ∧ xs0.length = xs53.length, ⟨m94, r21, (IntKind.wrap .i64 (r21 + 1)), xs0, rfl, hJ93, hB, O1, (by first | rfl | assumption | omega | (simp; done) | (simp; omega) | (simp; assumption))⟩, ?_⟩
  rintro m55 _ w59 ⟨i51, i52, xs53, rfl, hJ95, hB, O1, hn54⟩
  have H := hS57 m55 _ hJ95
  clear hS57 hJ95
  try dsimp only at H ⊢
  refine bcase_mk (fun hc91 => ?_) (fun hc91 => ?_)
  · have H := (bcase_iff.1 H).1 hc91
    obtain ⟨⟨h0_63, h1_64⟩, H⟩ := H
    obtain ⟨a61, ha62, hat60⟩ := Row.at O1.row h0_63 h1_64
    refine ⟨h0_63, (by first | exact h1_64 | omega | (simp at h1_64 ⊢; omega)), a61, ha62, ?_⟩
    refine ⟨_, (hat60 0 _ rfl), ?_⟩
    obtain ⟨hd67, H⟩ := H
    obtain ⟨r65, hr66⟩ : ∃ r_, r_ = g1 (rd xs53 i52) := ⟨_, rfl⟩
    have H := H r65 hr66
    refine (F1 (rd xs53 i52) hd67 _ hB).mono ?_
    rintro _ w68 ⟨rfl, e69⟩
    rw [← hr66]
    have O1 := O1.ext e69
    have hB := hB.then e69
    refine ⟨r65, rfl, ?_⟩
    refine bcase_mk (fun hc84 => ?_) (fun hc84 => ?_)
    · have H := (bcase_iff.1 H).1 hc84
      obtain ⟨⟨h0_73, h1_74⟩, H⟩ := H
      obtain ⟨a71, ha72, hat70⟩ := Row.at O1.row h0_73 h1_74
      refine ⟨h0_73, (by first | exact h1_74 | omega | (simp at h1_74 ⊢; omega)), a71, ha72, ?_⟩
      refine Own.storeAt O1 ha72 h0_73 h1_74 0 [(.int .i64 (rd xs53 i52))] (rd xs53 i52) rfl (Nat.le_of_ble_eq_true rfl) rfl (fun w75 P1 e76 hb77 => ?_)
      have hB := hB.chgb e76 (Or.inr ⟨_, ha72, rfl⟩)
      have O1 := P1
      obtain ⟨m78, hm79, hJ80⟩ := H
      exact ⟨m78, hm79, (IntKind.wrap .i64 (i51 + 1)), (IntKind.wrap .i64 (i52 + 1)), (List.set xs53 (i51.toNat) (rd xs53 i52)), rfl, hJ80, hB, O1, (by first | rfl | assumption | omega | (simp; done) | (simp; omega) | (simp; assumption))⟩
    have H := (bcase_iff.1 H).2 hc84
    obtain ⟨m81, hm82, hJ83⟩ := H
    exact ⟨m81, hm82, i51, (IntKind.wrap .i64 (i52 + 1)), xs53, rfl, hJ83, hB, O1, (by first | rfl | assumption | omega | (simp; done) | (simp; omega) | (simp; assumption))⟩
  have H := (bcase_iff.1 H).2 hc91
  obtain ⟨⟨hl85, hl86⟩, H⟩ := H
  refine and_assoc.1 ⟨⟨hl85, (by first | exact hl86 | omega)⟩, ?_⟩
  rw [show (xs0.length - (i51.toNat)) = ((List.drop (i51.toNat) xs53)).length from by first | rfl | (simp; done) | (simp; omega)]
  have O2 := (O1.drop (l := (i51.toNat)) (by first | omega | (simp; done) | (simp; omega)))
  refine clearCut slt26 O1 (l := (i51.toNat)) (by first | omega | (simp; omega)) (by first | rfl | (simp; done) | (simp; omega)) (fun w87 P1 e88 => ?_)
  have hB := hB.app e88 (fun g h_ => (Or.inr h_))
  have O1 := P1
  obtain ⟨⟨hh89, hh90⟩, H⟩ := H
  refine and_assoc.1 ⟨⟨hh89, Int.le_trans hh90 (Int.ofNat_le.2 O1.le)⟩, ?_⟩
  rw [show (i51.toNat) = ((List.take (i51.toNat) (List.take (i51.toNat) xs53 ++ List.replicate (xs53.length - (i51.toNat)) default))).length from by first | rfl | (simp; done) | (simp; omega)]
  have O3 := (O1.take (i51.toNat))
  obtain rfl := hr.trans H.symm
  exact ⟨A0, c0, rfl, (O3.mono (Nat.zero_le _)), (Mov.same _ _), hB⟩
def impl_firstOf_1.vc (x0 : Int) (p1 : Addr) (p2 : Addr) (w : World) (K : Value → World → Prop) : Prop :=
  ∃ (A21 : Option Addr) (n22 : Nat) (c23 : Nat), w.cell? (p1.add 0) = some (.slice A21 n22 c23) ∧ ∃ (n24 : Int), w.cell? (p2.add 0) = some (.int .i64 n24) ∧ Cll Try.prog 122 #[(.slice A21 n22 c23), (.int .i64 n24), (.int .i64 x0)] w fun v25 w26 => (∃ (b27 : Bool), v25 = (.bool b27) ∧ K (.bool (!b27)) w26)

def impl_firstOf_1.ann : Ann := (.seq .l (.seq .l .l))

theorem impl_firstOf_1.start {x0 : Int} {p1 : Addr} {p2 : Addr} {w : World} {K : Value → World → Prop} (h : impl_firstOf_1.vc x0 p1 p2 w K) : Cll Try.prog 121 #[(.int .i64 x0), (.pointer (some p1)), (.pointer (some p2))] w K :=
  vcF_sound mixed (fn := Try.f121) (by kernel_rfl) (by kernel_rfl) (an := impl_firstOf_1.ann) (args := [(.int .i64 x0), (.pointer (some p1)), (.pointer (some p2))]) (Eq.mpr (by kernel_rfl) h)

theorem impl_firstOf_1.con {x0 : Int} {xs1 : List D.Ins} {x2 : Int} {g1_ : Nat} {A1_0 : Option Addr} {c1_0 : Nat} {g3_ : Nat} {r : Bool} {w : World} (hp : M.impl_firstOf_1_pre x0 xs1 x2) (hr : r = M.impl_firstOf_1 x0 xs1 x2) (O1 : Blk w g1_ 24 #[(.slice A1_0 xs1.length c1_0)]) (R1_0 : Row el60 w A1_0 xs1) (hc1_0 : xs1.length ≤ c1_0) (O3 : Blk w g3_ 3 #[(.int .i64 x2)]) :
    Cll Try.prog 121 #[(.int .i64 x0), (.pointer (some (⟨g1_, 0, none⟩ : Addr))), (.pointer (some (⟨g3_, 0, none⟩ : Addr)))] w (fun v_ w_ => v_ = (.bool r) ∧ Ext w w_) := by
  have H := wp.impl_firstOf_1.math x0 xs1 x2 hp
  have hB := Ext.refl w
  refine impl_firstOf_1.start ?_
  unfold impl_firstOf_1.vc
  unfold wp.impl_firstOf_1 at H
  refine ⟨_, _, _, (O1.at 0 rfl rfl), ?_⟩
  refine ⟨_, (O3.at 0 rfl rfl), ?_⟩
  obtain ⟨hp23, H⟩ := H
  obtain ⟨r21, hr22⟩ : ∃ r_, r_ = M.impl_isAfter xs1 x2 x0 := ⟨_, rfl⟩
  have H := H r21 hr22
  refine (impl_isAfter.con hp23 hr22 (R1_0.ext hB) hc1_0).mono ?_
  rintro _ w24 ⟨rfl, e25⟩
  have O1 := O1.ext e25
  have O3 := O3.ext e25
  have hB := ethen hB e25
  refine ⟨r21, rfl, ?_⟩
  obtain rfl := hr.trans H.symm
  exact ⟨rfl, hB⟩
def impl_firstOf.vc (A0 : Option Addr) (n0 : Nat) (c0 : Nat) (A1 : Option Addr) (n1 : Nat) (c1 : Nat) (w : World) (K : Value → World → Prop) : Prop :=
  newK w (.cells #[(.slice A0 n0 c0)] 24) fun g21 w22 => LoopT (σ := Int × Unit) (fun z23 w24 next25 => bcase (decide (z23.1 < ((n1 : Nat) : Int))) (((0 : Int) ≤ z23.1 ∧ z23.1 < ((n1 : Nat) : Int) ∧ ∃ a26 : Addr, A1 = some a26 ∧ ∃ (n27 : Int), w24.cell? ((a26.add ((z23.1.toNat) * 1)).add 0) = some (.int .i64 n27) ∧ newK w24 (.cells #[(.int .i64 0)] 3) fun g28 w29 => stCells (⟨g28, 0, none⟩ : Addr) [(.int .i64 n27)] 0 w29 fun w30 => Cll Try.prog 79 #[(.slice A1 n1 c1), (.func (.func 121) #[] #[(.pointer (some (⟨g21, 0, none⟩ : Addr))), (.pointer (some (⟨g28, 0, none⟩ : Addr)))])] w30 fun v31 w32 => (∃ (b33 : Bool), v31 = (.bool b33) ∧ bcase (!b33) (∃ (n34 : Int), w32.cell? ((⟨g28, 0, none⟩ : Addr).add 0) = some (.int .i64 n34) ∧ K (.int .i64 n34) w32) (next25 ((IntKind.wrap .i64 (z23.1 + 1)), ()) w32)))) (K (.int .i64 (-1)) w24)) (0, ()) w22

def impl_firstOf.ann : Ann := (.seq .l (.seq (.seq .l (.one (.loop [(9, .int .i64)] (.seq .l (.seq (.two .l .l) (.seq (.one (.seq .l (.seq .l (.two (.seq .l .l) .l)))) .l)))))) (.seq .l .l)))

theorem impl_firstOf.start {A0 : Option Addr} {n0 : Nat} {c0 : Nat} {A1 : Option Addr} {n1 : Nat} {c1 : Nat} {w : World} {K : Value → World → Prop} (h : impl_firstOf.vc A0 n0 c0 A1 n1 c1 w K) : Cll Try.prog 111 #[(.slice A0 n0 c0), (.slice A1 n1 c1)] w K :=
  vcF_sound mixed (fn := Try.f111) (by kernel_rfl) (by kernel_rfl) (an := impl_firstOf.ann) (args := [(.slice A0 n0 c0), (.slice A1 n1 c1)]) (Eq.mpr (by kernel_rfl) h)

theorem impl_firstOf.con {xs0 : List D.Ins} {A0 : Option Addr} {c0 : Nat} {xs1 : List Int} {A1 : Option Addr} {c1 : Nat} {r : Int} {w : World} (hp : M.impl_firstOf_pre xs0 xs1) (hr : r = M.impl_firstOf xs0 xs1) (R0 : Row el60 w A0 xs0) (hc0 : xs0.length ≤ c0) (R1 : Row el3 w A1 xs1) (hc1 : xs1.length ≤ c1) :
    Cll Try.prog 111 #[(.slice A0 xs0.length c0), (.slice A1 xs1.length c1)] w (fun v_ w_ => v_ = (.int .i64 r) ∧ Ext w w_) := by
  have H := wp.impl_firstOf.math xs0 xs1 hp
  have hB := Ext.refl w
  refine impl_firstOf.start ?_
  unfold impl_firstOf.vc
  unfold wp.impl_firstOf at H
  refine newBlk (fun g3_ w21 L3 P3 e22 => ?_)
  have O3 := P3
  have L3 := Nat.le_trans hB.size L3
  have hB := ethen hB e22
  obtain ⟨J25, ⟨m50, hJ49⟩, hS26⟩ := H
  refine ⟨fun m_ z_ w_ => ∃ (i23 : Int), z_ = (i23, ()) ∧ J25 m_ (i23, ()) ∧ Ext w w_ ∧ Blk w_ g3_ 24 #[(.slice A0 xs0.length c0)], ⟨m50, 0, rfl, hJ49, hB, O3⟩, ?_⟩
  rintro m24 _ w28 ⟨i23, rfl, hJ51, hB, O3⟩
  have H := hS26 m24 _ hJ51
  clear hS26 hJ51
  try dsimp only at H ⊢
  refine bcase_mk (fun hc47 => ?_) (fun hc47 => ?_)
  · have H := (bcase_iff.1 H).1 hc47
    obtain ⟨⟨h0_32, h1_33⟩, H⟩ := H
    obtain ⟨a30, ha31, hat29⟩ := Row.at (R1.ext hB) h0_32 h1_33
    refine ⟨h0_32, h1_33, a30, ha31, ?_⟩
    refine ⟨_, (hat29 0 _ rfl), ?_⟩
    refine newBlk (fun g4_ w34 L4 P4 e35 => ?_)
    have N3_4 := O3.ne L4
    have O3 := O3.ext e35
    have O4 := P4
    have L4 := Nat.le_trans hB.size L4
    have hB := ethen hB e35
    refine stBlk O4 (o := 0) (cs' := #[(.int .i64 (rd xs1 i23))]) rfl rfl (Nat.le_of_ble_eq_true rfl) rfl (fun w36 P4 e37 => ?_)
    have O3_ := O3.chg e37 N3_4
    have O3 := O3_
    have hB := echg hB e37 L4
    have O4 := P4
    obtain ⟨hp40, H⟩ := H
    obtain ⟨r38, hr39⟩ : ∃ r_, r_ = M.slices_ContainsFunc_int_int xs1 (fun z0_ => M.impl_firstOf_1 z0_ xs0 (rd xs1 i23)) := ⟨_, rfl⟩
    have H := H r38 hr39
    refine (slices_ContainsFunc_int_int.con hp40 hr39 (R1.ext hB) hc1 (fun z0_ h_ w_ e_ => cllApp (l1 := [_]) (l2 := [_, _]) (impl_firstOf_1.con h_ rfl (O3.ext e_) (R0.ext (ethen hB e_)) hc0 (O4.ext e_)))).mono ?_
    rintro _ w41 ⟨rfl, e42⟩
    have O3 := O3.ext e42
    have O4 := O4.ext e42
    have hB := ethen hB e42
    refine ⟨r38, rfl, ?_⟩
    refine bcase_mk (fun hc46 => ?_) (fun hc46 => ?_)
    · have H := (bcase_iff.1 H).1 hc46
      refine ⟨_, (O4.at 0 rfl rfl), ?_⟩
      obtain rfl := hr.trans H.symm
      exact ⟨rfl, hB⟩
    have H := (bcase_iff.1 H).2 hc46
    obtain ⟨m43, hm44, hJ45⟩ := H
    exact ⟨m43, hm44, (IntKind.wrap .i64 (i23 + 1)), rfl, hJ45, hB, O3⟩
  have H := (bcase_iff.1 H).2 hc47
  obtain rfl := hr.trans H.symm
  exact ⟨rfl, hB⟩
def impl_FirstAfter.vc (A0 : Option Addr) (n0 : Nat) (c0 : Nat) (x1 : Int) (w : World) (K : Value → World → Prop) : Prop :=
  newK w (.cells #[(.int .i64 x1)] 3) fun g21 w22 => ∃ (n23 : Int), w22.cell? ((⟨g21, 0, none⟩ : Addr).add 0) = some (.int .i64 n23) ∧ Cll Try.prog 113 #[(.slice A0 n0 c0), (.int .i64 n23)] w22 fun v24 w25 => (∃ (A26 : Option Addr) (n27 : Nat) (c28 : Nat), v24 = (.slice A26 n27 c28) ∧ Cll Try.prog 112 #[(.slice A26 n27 c28), (.func (.func 114) #[] #[(.pointer (some (⟨g21, 0, none⟩ : Addr)))])] w25 fun v29 w30 => (∃ (A31 : Option Addr) (n32 : Nat) (c33 : Nat), v29 = (.slice A31 n32 c33) ∧ Cll Try.prog 111 #[(.slice A0 n0 c0), (.slice A31 n32 c33)] w30 fun v34 w35 => (∃ (n36 : Int), v34 = (.int .i64 n36) ∧ K (.int .i64 n36) w35)))

def impl_FirstAfter.ann : Ann := (.seq .l (.seq .l .l))

theorem impl_FirstAfter.start {A0 : Option Addr} {n0 : Nat} {c0 : Nat} {x1 : Int} {w : World} {K : Value → World → Prop} (h : impl_FirstAfter.vc A0 n0 c0 x1 w K) : Cll Try.prog 97 #[(.slice A0 n0 c0), (.int .i64 x1)] w K :=
  vcF_sound mixed (fn := Try.f97) (by kernel_rfl) (by kernel_rfl) (an := impl_FirstAfter.ann) (args := [(.slice A0 n0 c0), (.int .i64 x1)]) (Eq.mpr (by kernel_rfl) h)

theorem impl_FirstAfter.con {xs0 : List D.Ins} {A0 : Option Addr} {c0 : Nat} {x1 : Int} {r : Int} {w : World} (hp : M.impl_FirstAfter_pre xs0 x1) (hr : r = M.impl_FirstAfter xs0 x1) (R0 : Row el60 w A0 xs0) (hc0 : xs0.length ≤ c0) :
    Cll Try.prog 97 #[(.slice A0 xs0.length c0), (.int .i64 x1)] w (fun v_ w_ => v_ = (.int .i64 r) ∧ Ext w w_) := by
  have H := wp.impl_FirstAfter.math xs0 x1 hp
  have hB := Ext.refl w
  refine impl_FirstAfter.start ?_
  unfold impl_FirstAfter.vc
  unfold wp.impl_FirstAfter at H
  refine newBlk (fun g2_ w21 L2 P2 e22 => ?_)
  have O2 := P2
  have L2 := Nat.le_trans hB.size L2
  have hB := ethen hB e22
  refine ⟨_, (O2.at 0 rfl rfl), ?_⟩
  obtain ⟨hp25, H⟩ := H
  obtain ⟨r23, hr24⟩ : ∃ r_, r_ = M.impl_AftersOf xs0 x1 := ⟨_, rfl⟩
  have H := H r23 hr24
  refine (impl_AftersOf.con hp25 hr24 (R0.ext hB) hc0).mono ?_
  rintro _ w26 ⟨A28, c29, rfl, P3, e27⟩
  have N3_2 := P3.apart_old O2.lt
  have O2 := O2.ext e27
  have O3 := P3.mono hB.size
  have hB := ethen hB e27
  refine ⟨A28, r23.length, c29, rfl, ?_⟩
  obtain ⟨hp32, H⟩ := H
  obtain ⟨r30, hr31⟩ : ∃ r_, r_ = M.slices_DeleteFunc_int_int r23 (fun z0_ => M.impl_FirstAfter_1 z0_ x1) := ⟨_, rfl⟩
  have H := H r30 hr31
  refine (slices_DeleteFunc_int_int.con hp32 hr31 (O3.mono (Nat.zero_le _)) (fun z0_ h_ w_ e_ => cllApp (l1 := [_]) (l2 := [_]) (impl_FirstAfter_1.con h_ rfl (O2.chgS e_ (N3_2).inb)))).mono ?_
  rintro _ w33 ⟨A35, c36, rfl, P4, Mv4, e34⟩
  have N4_2 := Apart.mov N3_2 Mv4 O2.lt
  have Lw4 := Mv4.low O3.low hB.size
  have O2 := O2.chgS e34 (N3_2).inb
  have hB := Chg.ext hB e34 O3.low
  have O4 := P4.lift Lw4
  refine ⟨A35, r30.length, c36, rfl, ?_⟩
  obtain ⟨hp39, H⟩ := H
  obtain ⟨r37, hr38⟩ : ∃ r_, r_ = M.impl_firstOf xs0 r30 := ⟨_, rfl⟩
  have H := H r37 hr38
  refine (impl_firstOf.con hp39 hr38 (R0.ext hB) hc0 O4.row O4.le).mono ?_
  rintro _ w40 ⟨rfl, e41⟩
  have O2 := O2.ext e41
  have O4 := O4.ext e41
  have hB := ethen hB e41
  refine ⟨r37, rfl, ?_⟩
  obtain rfl := hr.trans H.symm
  exact ⟨rfl, hB⟩
def impl_JoinOf.vc (A0 : Option Addr) (n0 : Nat) (c0 : Nat) (x1 : Int) (w : World) (K : Value → World → Prop) : Prop :=
  Cll Try.prog 94 #[(.slice A0 n0 c0), (.int .i64 x1)] w fun v21 w22 => (∃ (b23 : Bool), v21 = (.bool b23) ∧ bcase (!b23) (K (.int .i64 (-1)) w22) (Cll Try.prog 95 #[(.slice A0 n0 c0), (.int .i64 x1)] w22 fun v24 w25 => (∃ (A26 : Option Addr) (n27 : Nat) (c28 : Nat), v24 = (.slice A26 n27 c28) ∧ LoopT (σ := Int × Unit) (fun z29 w30 next31 => bcase (decide (z29.1 < ((n27 : Nat) : Int))) (((0 : Int) ≤ z29.1 ∧ z29.1 < ((n27 : Nat) : Int) ∧ ∃ a32 : Addr, A26 = some a32 ∧ ∃ (n33 : Int), w30.cell? ((a32.add ((z29.1.toNat) * 1)).add 0) = some (.int .i64 n33) ∧ Cll Try.prog 96 #[(.slice A0 n0 c0), (.int .i64 n33)] w30 fun v34 w35 => (∃ (b36 : Bool), v34 = (.bool b36) ∧ bcase (!b36) (K (.int .i64 ((n0 : Nat) : Int)) w35) (next31 ((IntKind.wrap .i64 (z29.1 + 1)), ()) w35)))) (Cll Try.prog 97 #[(.slice A0 n0 c0), (.int .i64 x1)] w30 fun v37 w38 => (∃ (n39 : Int), v37 = (.int .i64 n39) ∧ K (.int .i64 n39) w38))) (0, ()) w25)))

def impl_JoinOf.ann : Ann := (.seq .l (.seq (.seq .l (.two (.seq .l .l) .l)) (.seq (.seq .l (.one (.loop [(15, .int .i64)] (.seq .l (.seq (.two .l .l) (.seq (.one (.seq .l (.seq .l (.two (.seq .l .l) .l)))) .l)))))) (.seq .l .l))))

theorem impl_JoinOf.start {A0 : Option Addr} {n0 : Nat} {c0 : Nat} {x1 : Int} {w : World} {K : Value → World → Prop} (h : impl_JoinOf.vc A0 n0 c0 x1 w K) : Cll Try.prog 85 #[(.slice A0 n0 c0), (.int .i64 x1)] w K :=
  vcF_sound mixed (fn := Try.f85) (by kernel_rfl) (by kernel_rfl) (an := impl_JoinOf.ann) (args := [(.slice A0 n0 c0), (.int .i64 x1)]) (Eq.mpr (by kernel_rfl) h)

theorem impl_JoinOf.con {xs0 : List D.Ins} {A0 : Option Addr} {c0 : Nat} {x1 : Int} {r : Int} {w : World} (hp : M.impl_JoinOf_pre xs0 x1) (hr : r = M.impl_JoinOf xs0 x1) (R0 : Row el60 w A0 xs0) (hc0 : xs0.length ≤ c0) :
    Cll Try.prog 85 #[(.slice A0 xs0.length c0), (.int .i64 x1)] w (fun v_ w_ => v_ = (.int .i64 r) ∧ Ext w w_) := by
  have H := wp.impl_JoinOf.math xs0 x1 hp
  have hB := Ext.refl w
  refine impl_JoinOf.start ?_
  unfold impl_JoinOf.vc
  unfold wp.impl_JoinOf at H
  obtain ⟨hp23, H⟩ := H
  obtain ⟨r21, hr22⟩ : ∃ r_, r_ = M.impl_isBranch xs0 x1 := ⟨_, rfl⟩
  have H := H r21 hr22
  refine (impl_isBranch.con hp23 hr22 (R0.ext hB) hc0).mono ?_
  rintro _ w24 ⟨rfl, e25⟩
  have hB := ethen hB e25
  refine ⟨r21, rfl, ?_⟩
  refine bcase_mk (fun hc63 => ?_) (fun hc63 => ?_)
  · have H := (bcase_iff.1 H).1 hc63
    obtain rfl := hr.trans H.symm
    exact ⟨rfl, hB⟩
  have H := (bcase_iff.1 H).2 hc63
  obtain ⟨hp28, H⟩ := H
  obtain ⟨r26, hr27⟩ : ∃ r_, r_ = M.impl_next xs0 x1 := ⟨_, rfl⟩
  have H := H r26 hr27
  refine (impl_next.con hp28 hr27 (R0.ext hB) hc0).mono ?_
  rintro _ w29 ⟨A31, c32, rfl, P2, e30⟩
  have O2 := P2.mono hB.size
  have hB := ethen hB e30
  refine ⟨A31, r26.length, c32, rfl, ?_⟩
  obtain ⟨J35, ⟨m61, hJ60⟩, hS36⟩ := H
  refine ⟨fun m_ z_ w_ => ∃ (i33 : Int), z_ = (i33, ()) ∧ J35 m_ (i33, ()) ∧ Ext w w_ ∧ Own el3 w_ w.heap.size A31 c32 r26, ⟨m61, 0, rfl, hJ60, hB, O2⟩, ?_⟩
  rintro m34 _ w38 ⟨i33, rfl, hJ62, hB, O2⟩
  have H := hS36 m34 _ hJ62
  clear hS36 hJ62
  try dsimp only at H ⊢
  refine bcase_mk (fun hc58 => ?_) (fun hc58 => ?_)
  · have H := (bcase_iff.1 H).1 hc58
    obtain ⟨⟨h0_42, h1_43⟩, H⟩ := H
    obtain ⟨a40, ha41, hat39⟩ := Row.at O2.row h0_42 h1_43
    refine ⟨h0_42, h1_43, a40, ha41, ?_⟩
    refine ⟨_, (hat39 0 _ rfl), ?_⟩
    obtain ⟨hp46, H⟩ := H
    obtain ⟨r44, hr45⟩ : ∃ r_, r_ = M.impl_reachesExit xs0 (rd r26 i33) := ⟨_, rfl⟩
    have H := H r44 hr45
    refine (impl_reachesExit.con hp46 hr45 (R0.ext hB) hc0).mono ?_
    rintro _ w47 ⟨rfl, e48⟩
    have O2 := O2.ext e48
    have hB := ethen hB e48
    refine ⟨r44, rfl, ?_⟩
    refine bcase_mk (fun hc52 => ?_) (fun hc52 => ?_)
    · have H := (bcase_iff.1 H).1 hc52
      obtain rfl := hr.trans H.symm
      exact ⟨rfl, hB⟩
    have H := (bcase_iff.1 H).2 hc52
    obtain ⟨m49, hm50, hJ51⟩ := H
    exact ⟨m49, hm50, (IntKind.wrap .i64 (i33 + 1)), rfl, hJ51, hB, O2⟩
  have H := (bcase_iff.1 H).2 hc58
  obtain ⟨hp55, H⟩ := H
  obtain ⟨r53, hr54⟩ : ∃ r_, r_ = M.impl_FirstAfter xs0 x1 := ⟨_, rfl⟩
  have H := H r53 hr54
  refine (impl_FirstAfter.con hp55 hr54 (R0.ext hB) hc0).mono ?_
  rintro _ w56 ⟨rfl, e57⟩
  have hB := ethen hB e57
  refine ⟨r53, rfl, ?_⟩
  obtain rfl := hr.trans H.symm
  exact ⟨rfl, hB⟩
end Go.V
