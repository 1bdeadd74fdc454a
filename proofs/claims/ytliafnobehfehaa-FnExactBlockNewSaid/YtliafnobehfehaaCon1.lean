import Derived.Test.YtliafnobehfehaaMath1
import Derived.Test.YtliafnobehfehaaSeat
namespace Go.V
open Go.Proofs
set_option linter.unusedVariables false
set_option linter.unusedSimpArgs false
set_option maxRecDepth 100000

def impl_within.vc (x0 : Int) (x1 : Int) (x2 : Int) (w : World) (K : Value → World → Prop) : Prop :=
  bcase (decide (x0 ≥ x1)) (K (.bool (decide (x0 ≤ x2))) w) (K (.bool false) w)

def impl_within.ann : Ann := (.seq .l (.seq .l .l))

theorem impl_within.vc_eq (x0 : Int) (x1 : Int) (x2 : Int) (w : World) (K : Value → World → Prop) : vcF Try.prog Try.f63 impl_within.ann [(.int .i64 x0), (.int .i64 x1), (.int .i64 x2)] K w = impl_within.vc x0 x1 x2 w K := by kernel_rfl

theorem impl_within.start {x0 : Int} {x1 : Int} {x2 : Int} {w : World} {K : Value → World → Prop} (h : impl_within.vc x0 x1 x2 w K) : Cll Try.prog 63 #[(.int .i64 x0), (.int .i64 x1), (.int .i64 x2)] w K :=
  vcF_sound mixed (fn := Try.f63) (by kernel_rfl) (by kernel_rfl) (an := impl_within.ann) (args := [(.int .i64 x0), (.int .i64 x1), (.int .i64 x2)]) (by rw [impl_within.vc_eq]; exact h)

theorem impl_within.con {x0 : Int} {x1 : Int} {x2 : Int} {r : Bool} {w : World} (hr : r = M.impl_within x0 x1 x2)  :
    Cll Try.prog 63 #[(.int .i64 x0), (.int .i64 x1), (.int .i64 x2)] w (fun v_ w_ => v_ = (.bool r) ∧ Ext w w_) := by
  have H := wp.impl_within.math x0 x1 x2
  have hB := Ext.refl w
  refine impl_within.start ?_
  unfold impl_within.vc
  unfold wp.impl_within at H
  refine bcase_mk (fun hc21 => ?_) (fun hc21 => ?_)
  · have H := (bcase_iff.1 H).1 hc21
    obtain rfl := hr.trans H.symm
    exact ⟨rfl, hB⟩
  · have H := (bcase_iff.1 H).2 hc21
    obtain rfl := hr.trans H.symm
    exact ⟨rfl, hB⟩

def spec_l01In.vc (x0 : Int) (x1 : Int) (x2 : Int) (w : World) (K : Value → World → Prop) : Prop :=
  bcase (decide (x0 ≥ x1)) (K (.bool (decide (x0 ≤ x2))) w) (K (.bool false) w)

def spec_l01In.ann : Ann := (.seq .l (.seq .l .l))

theorem spec_l01In.vc_eq (x0 : Int) (x1 : Int) (x2 : Int) (w : World) (K : Value → World → Prop) : vcF Try.prog Try.f92 spec_l01In.ann [(.int .i64 x0), (.int .i64 x1), (.int .i64 x2)] K w = spec_l01In.vc x0 x1 x2 w K := by kernel_rfl

theorem spec_l01In.start {x0 : Int} {x1 : Int} {x2 : Int} {w : World} {K : Value → World → Prop} (h : spec_l01In.vc x0 x1 x2 w K) : Cll Try.prog 92 #[(.int .i64 x0), (.int .i64 x1), (.int .i64 x2)] w K :=
  vcF_sound mixed (fn := Try.f92) (by kernel_rfl) (by kernel_rfl) (an := spec_l01In.ann) (args := [(.int .i64 x0), (.int .i64 x1), (.int .i64 x2)]) (by rw [spec_l01In.vc_eq]; exact h)

theorem spec_l01In.con {x0 : Int} {x1 : Int} {x2 : Int} {r : Bool} {w : World} (hr : r = M.spec_l01In x0 x1 x2)  :
    Cll Try.prog 92 #[(.int .i64 x0), (.int .i64 x1), (.int .i64 x2)] w (fun v_ w_ => v_ = (.bool r) ∧ Ext w w_) := by
  have H := wp.spec_l01In.math x0 x1 x2
  have hB := Ext.refl w
  refine spec_l01In.start ?_
  unfold spec_l01In.vc
  unfold wp.spec_l01In at H
  refine bcase_mk (fun hc21 => ?_) (fun hc21 => ?_)
  · have H := (bcase_iff.1 H).1 hc21
    obtain rfl := hr.trans H.symm
    exact ⟨rfl, hB⟩
  · have H := (bcase_iff.1 H).2 hc21
    obtain rfl := hr.trans H.symm
    exact ⟨rfl, hB⟩

def impl_IsWord.vc (x0 : Int) (w : World) (K : Value → World → Prop) : Prop :=
  Cll Try.prog 63 #[(.int .i64 x0), (.int .i64 0), (.int .i64 65535)] w fun v21 w22 => (∃ (b23 : Bool), v21 = (.bool b23) ∧ K (.bool b23) w22)

def impl_IsWord.ann : Ann := (.seq .l (.seq .l .l))

theorem impl_IsWord.vc_eq (x0 : Int) (w : World) (K : Value → World → Prop) : vcF Try.prog Try.f155 impl_IsWord.ann [(.int .i64 x0)] K w = impl_IsWord.vc x0 w K := by kernel_rfl

theorem impl_IsWord.start {x0 : Int} {w : World} {K : Value → World → Prop} (h : impl_IsWord.vc x0 w K) : Cll Try.prog 155 #[(.int .i64 x0)] w K :=
  vcF_sound mixed (fn := Try.f155) (by kernel_rfl) (by kernel_rfl) (an := impl_IsWord.ann) (args := [(.int .i64 x0)]) (by rw [impl_IsWord.vc_eq]; exact h)

theorem impl_IsWord.con {x0 : Int} {r : Bool} {w : World} (hr : r = M.impl_IsWord x0)  :
    Cll Try.prog 155 #[(.int .i64 x0)] w (fun v_ w_ => v_ = (.bool r) ∧ Ext w w_) := by
  have H := wp.impl_IsWord.math x0
  have hB := Ext.refl w
  refine impl_IsWord.start ?_
  unfold impl_IsWord.vc
  unfold wp.impl_IsWord at H
  obtain ⟨r21, hr22⟩ : ∃ r_, r_ = M.impl_within x0 0 65535 := ⟨_, rfl⟩
  have H := H r21 hr22
  refine (impl_within.con hr22 ).mono ?_
  rintro _ w24 ⟨rfl, e25⟩
  have hB := ethen hB e25
  refine ⟨r21, rfl, ?_⟩
  obtain rfl := hr.trans H.symm
  exact ⟨rfl, hB⟩

def spec_IsWord.vc (x0 : Int) (w : World) (K : Value → World → Prop) : Prop :=
  Cll Try.prog 92 #[(.int .i64 x0), (.int .i64 0), (.int .i64 65535)] w fun v21 w22 => (∃ (b23 : Bool), v21 = (.bool b23) ∧ K (.bool b23) w22)

def spec_IsWord.ann : Ann := (.seq .l (.seq .l .l))

theorem spec_IsWord.vc_eq (x0 : Int) (w : World) (K : Value → World → Prop) : vcF Try.prog Try.f135 spec_IsWord.ann [(.int .i64 x0)] K w = spec_IsWord.vc x0 w K := by kernel_rfl

theorem spec_IsWord.start {x0 : Int} {w : World} {K : Value → World → Prop} (h : spec_IsWord.vc x0 w K) : Cll Try.prog 135 #[(.int .i64 x0)] w K :=
  vcF_sound mixed (fn := Try.f135) (by kernel_rfl) (by kernel_rfl) (an := spec_IsWord.ann) (args := [(.int .i64 x0)]) (by rw [spec_IsWord.vc_eq]; exact h)

theorem spec_IsWord.con {x0 : Int} {r : Bool} {w : World} (hr : r = M.spec_IsWord x0)  :
    Cll Try.prog 135 #[(.int .i64 x0)] w (fun v_ w_ => v_ = (.bool r) ∧ Ext w w_) := by
  have H := wp.spec_IsWord.math x0
  have hB := Ext.refl w
  refine spec_IsWord.start ?_
  unfold spec_IsWord.vc
  unfold wp.spec_IsWord at H
  obtain ⟨r21, hr22⟩ : ∃ r_, r_ = M.spec_l01In x0 0 65535 := ⟨_, rfl⟩
  have H := H r21 hr22
  refine (spec_l01In.con hr22 ).mono ?_
  rintro _ w24 ⟨rfl, e25⟩
  have hB := ethen hB e25
  refine ⟨r21, rfl, ?_⟩
  obtain rfl := hr.trans H.symm
  exact ⟨rfl, hB⟩

def impl_IsMask.vc (x0 : Int) (w : World) (K : Value → World → Prop) : Prop :=
  Cll Try.prog 63 #[(.int .i64 x0), (.int .i64 0), (.int .i64 255)] w fun v21 w22 => (∃ (b23 : Bool), v21 = (.bool b23) ∧ K (.bool b23) w22)

def impl_IsMask.ann : Ann := (.seq .l (.seq .l .l))

theorem impl_IsMask.vc_eq (x0 : Int) (w : World) (K : Value → World → Prop) : vcF Try.prog Try.f156 impl_IsMask.ann [(.int .i64 x0)] K w = impl_IsMask.vc x0 w K := by kernel_rfl

theorem impl_IsMask.start {x0 : Int} {w : World} {K : Value → World → Prop} (h : impl_IsMask.vc x0 w K) : Cll Try.prog 156 #[(.int .i64 x0)] w K :=
  vcF_sound mixed (fn := Try.f156) (by kernel_rfl) (by kernel_rfl) (an := impl_IsMask.ann) (args := [(.int .i64 x0)]) (by rw [impl_IsMask.vc_eq]; exact h)

theorem impl_IsMask.con {x0 : Int} {r : Bool} {w : World} (hr : r = M.impl_IsMask x0)  :
    Cll Try.prog 156 #[(.int .i64 x0)] w (fun v_ w_ => v_ = (.bool r) ∧ Ext w w_) := by
  have H := wp.impl_IsMask.math x0
  have hB := Ext.refl w
  refine impl_IsMask.start ?_
  unfold impl_IsMask.vc
  unfold wp.impl_IsMask at H
  obtain ⟨r21, hr22⟩ : ∃ r_, r_ = M.impl_within x0 0 255 := ⟨_, rfl⟩
  have H := H r21 hr22
  refine (impl_within.con hr22 ).mono ?_
  rintro _ w24 ⟨rfl, e25⟩
  have hB := ethen hB e25
  refine ⟨r21, rfl, ?_⟩
  obtain rfl := hr.trans H.symm
  exact ⟨rfl, hB⟩

def spec_AreWords.vc (A0 : Option Addr) (n0 : Nat) (c0 : Nat) (w : World) (K : Value → World → Prop) : Prop :=
  LoopT (σ := Int × Unit) (fun z21 w22 next23 => bcase (decide (z21.1 < ((n0 : Nat) : Int))) (((0 : Int) ≤ z21.1 ∧ z21.1 < ((n0 : Nat) : Int) ∧ ∃ a24 : Addr, A0 = some a24 ∧ ∃ (n25 : Int), w22.cell? ((a24.add ((z21.1.toNat) * 1)).add 0) = some (.int .i64 n25) ∧ Cll Try.prog 135 #[(.int .i64 n25)] w22 fun v26 w27 => (∃ (b28 : Bool), v26 = (.bool b28) ∧ bcase (!b28) (K (.bool false) w27) (next23 ((IntKind.wrap .i64 (z21.1 + 1)), ()) w27)))) (K (.bool true) w22)) (0, ()) w

def spec_AreWords.ann : Ann := (.seq .l (.seq (.seq .l (.one (.loop [(3, .int .i64)] (.seq (.seq .l (.two .l .l)) (.seq (.one (.seq .l (.two (.seq .l .l) .l))) .l))))) (.seq .l .l)))

theorem spec_AreWords.vc_eq (A0 : Option Addr) (n0 : Nat) (c0 : Nat) (w : World) (K : Value → World → Prop) : vcF Try.prog Try.f93 spec_AreWords.ann [(.slice A0 n0 c0)] K w = spec_AreWords.vc A0 n0 c0 w K := by kernel_rfl

theorem spec_AreWords.start {A0 : Option Addr} {n0 : Nat} {c0 : Nat} {w : World} {K : Value → World → Prop} (h : spec_AreWords.vc A0 n0 c0 w K) : Cll Try.prog 93 #[(.slice A0 n0 c0)] w K :=
  vcF_sound mixed (fn := Try.f93) (by kernel_rfl) (by kernel_rfl) (an := spec_AreWords.ann) (args := [(.slice A0 n0 c0)]) (by rw [spec_AreWords.vc_eq]; exact h)

theorem spec_AreWords.con {xs0 : List Int} {A0 : Option Addr} {c0 : Nat} {r : Bool} {w : World} (hp : M.spec_AreWords_pre xs0) (hr : r = M.spec_AreWords xs0) (R0 : Row el3 w A0 xs0) (hc0 : xs0.length ≤ c0) :
    Cll Try.prog 93 #[(.slice A0 xs0.length c0)] w (fun v_ w_ => v_ = (.bool r) ∧ Ext w w_) := by
  have H := wp.spec_AreWords.math xs0 hp
  have hB := Ext.refl w
  refine spec_AreWords.start ?_
  unfold spec_AreWords.vc
  unfold wp.spec_AreWords at H
  obtain ⟨J23, ⟨m44, hJ43⟩, hS24⟩ := H
  refine ⟨fun m_ z_ w_ => ∃ (i21 : Int), z_ = (i21, ()) ∧ J23 m_ (i21, ()) ∧ Ext w w_, ⟨m44, 0, rfl, hJ43, hB⟩, ?_⟩
  rintro m22 _ w26 ⟨i21, rfl, hJ45, hB⟩
  have H := hS24 m22 _ hJ45
  clear hS24 hJ45
  dsimp only at H ⊢
  refine bcase_mk (fun hc41 => ?_) (fun hc41 => ?_)
  · have H := (bcase_iff.1 H).1 hc41
    obtain ⟨⟨h0_30, h1_31⟩, H⟩ := H
    obtain ⟨a28, ha29, hat27⟩ := Row.at (R0.ext hB) h0_30 h1_31
    refine ⟨h0_30, h1_31, a28, ha29, ?_⟩
    refine ⟨_, (hat27 0 _ rfl), ?_⟩
    obtain ⟨r32, hr33⟩ : ∃ r_, r_ = M.spec_IsWord (rd xs0 i21) := ⟨_, rfl⟩
    have H := H r32 hr33
    refine (spec_IsWord.con hr33 ).mono ?_
    rintro _ w35 ⟨rfl, e36⟩
    have hB := ethen hB e36
    refine ⟨r32, rfl, ?_⟩
    refine bcase_mk (fun hc40 => ?_) (fun hc40 => ?_)
    · have H := (bcase_iff.1 H).1 hc40
      obtain rfl := hr.trans H.symm
      exact ⟨rfl, hB⟩
    · have H := (bcase_iff.1 H).2 hc40
      obtain ⟨m37, hm38, hJ39⟩ := H
      exact ⟨m37, hm38, (IntKind.wrap .i64 (i21 + 1)), rfl, hJ39, hB⟩
  · have H := (bcase_iff.1 H).2 hc41
    obtain rfl := hr.trans H.symm
    exact ⟨rfl, hB⟩

def laws_eqIntS.vc (A0 : Option Addr) (n0 : Nat) (c0 : Nat) (A1 : Option Addr) (n1 : Nat) (c1 : Nat) (w : World) (K : Value → World → Prop) : Prop :=
  bcase (((n0 : Nat) : Int) != ((n1 : Nat) : Int)) (K (.bool false) w) (LoopT (σ := Int × Unit) (fun z21 w22 next23 => bcase (decide (z21.1 < ((n0 : Nat) : Int))) (((0 : Int) ≤ z21.1 ∧ z21.1 < ((n0 : Nat) : Int) ∧ ∃ a24 : Addr, A0 = some a24 ∧ ∃ (n25 : Int), w22.cell? ((a24.add ((z21.1.toNat) * 1)).add 0) = some (.int .i64 n25) ∧ ((0 : Int) ≤ z21.1 ∧ z21.1 < ((n1 : Nat) : Int) ∧ ∃ a26 : Addr, A1 = some a26 ∧ ∃ (n27 : Int), w22.cell? ((a26.add ((z21.1.toNat) * 1)).add 0) = some (.int .i64 n27) ∧ bcase (n25 != n27) (K (.bool false) w22.drew) (next23 ((IntKind.wrap .i64 (z21.1 + 1)), ()) w22.drew)))) (K (.bool true) w22)) (0, ()) w)

def laws_eqIntS.ann : Ann := (.seq .l (.seq (.seq .l (.two (.seq .l .l) .l)) (.seq (.seq .l (.one (.loop [(5, .int .i64)] (.seq (.seq .l (.two .l .l)) (.seq (.one (.seq .l (.two (.seq .l .l) .l))) .l))))) (.seq .l .l))))

theorem laws_eqIntS.vc_eq (A0 : Option Addr) (n0 : Nat) (c0 : Nat) (A1 : Option Addr) (n1 : Nat) (c1 : Nat) (w : World) (K : Value → World → Prop) : vcF Try.prog Try.f90 laws_eqIntS.ann [(.slice A0 n0 c0), (.slice A1 n1 c1)] K w = laws_eqIntS.vc A0 n0 c0 A1 n1 c1 w K := by kernel_rfl

theorem laws_eqIntS.start {A0 : Option Addr} {n0 : Nat} {c0 : Nat} {A1 : Option Addr} {n1 : Nat} {c1 : Nat} {w : World} {K : Value → World → Prop} (h : laws_eqIntS.vc A0 n0 c0 A1 n1 c1 w K) : Cll Try.prog 90 #[(.slice A0 n0 c0), (.slice A1 n1 c1)] w K :=
  vcF_sound mixed (fn := Try.f90) (by kernel_rfl) (by kernel_rfl) (an := laws_eqIntS.ann) (args := [(.slice A0 n0 c0), (.slice A1 n1 c1)]) (by rw [laws_eqIntS.vc_eq]; exact h)

theorem laws_eqIntS.con {xs0 : List Int} {A0 : Option Addr} {c0 : Nat} {xs1 : List Int} {A1 : Option Addr} {c1 : Nat} {r : Bool} {w : World} (hp : M.laws_eqIntS_pre xs0 xs1) (hr : r = M.laws_eqIntS xs0 xs1) (R0 : Row el3 w A0 xs0) (hc0 : xs0.length ≤ c0) (R1 : Row el3 w A1 xs1) (hc1 : xs1.length ≤ c1) :
    Cll Try.prog 90 #[(.slice A0 xs0.length c0), (.slice A1 xs1.length c1)] w (fun v_ w_ => v_ = (.bool r) ∧ Ext w w_) := by
  have H := wp.laws_eqIntS.math xs0 xs1 hp
  have hB := Ext.refl w
  refine laws_eqIntS.start ?_
  unfold laws_eqIntS.vc
  unfold wp.laws_eqIntS at H
  refine bcase_mk (fun hc47 => ?_) (fun hc47 => ?_)
  · have H := (bcase_iff.1 H).1 hc47
    obtain rfl := hr.trans H.symm
    exact ⟨rfl, hB⟩
  · have H := (bcase_iff.1 H).2 hc47
    obtain ⟨J23, ⟨m45, hJ44⟩, hS24⟩ := H
    refine ⟨fun m_ z_ w_ => ∃ (i21 : Int), z_ = (i21, ()) ∧ J23 m_ (i21, ()) ∧ Ext w w_, ⟨m45, 0, rfl, hJ44, hB⟩, ?_⟩
    rintro m22 _ w26 ⟨i21, rfl, hJ46, hB⟩
    have H := hS24 m22 _ hJ46
    clear hS24 hJ46
    dsimp only at H ⊢
    refine bcase_mk (fun hc42 => ?_) (fun hc42 => ?_)
    · have H := (bcase_iff.1 H).1 hc42
      obtain ⟨⟨h0_31, h1_32⟩, H⟩ := H
      obtain ⟨a29, ha30, hat28⟩ := Row.at (R0.ext hB) h0_31 h1_32
      refine ⟨h0_31, h1_32, a29, ha30, ?_⟩
      refine ⟨_, (hat28 0 _ rfl), ?_⟩
      obtain ⟨⟨h0_36, h1_37⟩, H⟩ := H
      obtain ⟨a34, ha35, hat33⟩ := Row.at (R1.ext hB) h0_36 h1_37
      refine ⟨h0_36, h1_37, a34, ha35, ?_⟩
      refine ⟨_, (hat33 0 _ rfl), ?_⟩
      have hB := ethen hB (Ext.drew _)
      refine bcase_mk (fun hc41 => ?_) (fun hc41 => ?_)
      · have H := (bcase_iff.1 H).1 hc41
        obtain rfl := hr.trans H.symm
        exact ⟨rfl, hB⟩
      · have H := (bcase_iff.1 H).2 hc41
        obtain ⟨m38, hm39, hJ40⟩ := H
        exact ⟨m38, hm39, (IntKind.wrap .i64 (i21 + 1)), rfl, hJ40, hB⟩
    · have H := (bcase_iff.1 H).2 hc42
      obtain rfl := hr.trans H.symm
      exact ⟨rfl, hB⟩

def laws_toIntS.vc (A0 : Option Addr) (n0 : Nat) (c0 : Nat) (w : World) (K : Value → World → Prop) : Prop :=
  vcMake Try.prog 25 ((n0 : Nat) : Int) ((n0 : Nat) : Int) w fun g21 w22 => LoopT (σ := Int × Unit) (fun z23 w24 next25 => bcase (decide (z23.1 < ((n0 : Nat) : Int))) (((0 : Int) ≤ z23.1 ∧ z23.1 < ((n0 : Nat) : Int) ∧ ∃ a26 : Addr, A0 = some a26 ∧ ∃ (n27 : Int), w24.cell? ((a26.add ((z23.1.toNat) * 1)).add 0) = some (.int .i64 n27) ∧ ((0 : Int) ≤ z23.1 ∧ z23.1 < (((((n0 : Nat) : Int).toNat) : Nat) : Int) ∧ ∃ a28 : Addr, (some (⟨g21, 0, none⟩ : Addr)) = some a28 ∧ stCells (a28.add ((z23.1.toNat) * 1)) [(.int .i64 n27)] 0 w24 fun w29 => next25 ((IntKind.wrap .i64 (z23.1 + 1)), ()) w29))) (K (.slice (some (⟨g21, 0, none⟩ : Addr)) (((n0 : Nat) : Int).toNat) (((n0 : Nat) : Int).toNat)) w24)) (0, ()) w22

def laws_toIntS.ann : Ann := (.seq .l (.seq .l (.seq (.seq .l (.one (.loop [(4, .int .i64)] (.seq (.seq .l (.two .l .l)) (.seq (.one .l) .l))))) (.seq .l .l))))

theorem laws_toIntS.vc_eq (A0 : Option Addr) (n0 : Nat) (c0 : Nat) (w : World) (K : Value → World → Prop) : vcF Try.prog Try.f88 laws_toIntS.ann [(.slice A0 n0 c0)] K w = laws_toIntS.vc A0 n0 c0 w K := by kernel_rfl

theorem laws_toIntS.start {A0 : Option Addr} {n0 : Nat} {c0 : Nat} {w : World} {K : Value → World → Prop} (h : laws_toIntS.vc A0 n0 c0 w K) : Cll Try.prog 88 #[(.slice A0 n0 c0)] w K :=
  vcF_sound mixed (fn := Try.f88) (by kernel_rfl) (by kernel_rfl) (an := laws_toIntS.ann) (args := [(.slice A0 n0 c0)]) (by rw [laws_toIntS.vc_eq]; exact h)

theorem laws_toIntS.con {xs0 : List Int} {A0 : Option Addr} {c0 : Nat} {r : List Int} {w : World} (hp : M.laws_toIntS_pre xs0) (hr : r = M.laws_toIntS xs0) (R0 : Row el3 w A0 xs0) (hc0 : xs0.length ≤ c0) :
    Cll Try.prog 88 #[(.slice A0 xs0.length c0)] w (fun v_ w_ => ∃ (A0_ : Option Addr) (c0_ : Nat), v_ = (.slice A0_ r.length c0_) ∧ Own el3 w_ w.heap.size A0_ c0_ r ∧ Ext w w_) := by
  have H := wp.laws_toIntS.math xs0 hp
  have hB := Ext.refl w
  refine laws_toIntS.start ?_
  unfold laws_toIntS.vc
  unfold wp.laws_toIntS at H
  obtain ⟨⟨h0_24, h1_25⟩, H⟩ := H
  refine makeOwn slt25 h0_24 h1_25 (fun g21 w22 P2 e23 => ?_)
  have O2 := P2.mono hB.size
  have hB := ethen hB e23
  obtain ⟨J49, ⟨m72, hJ71⟩, hS50⟩ := H
  refine ⟨fun m_ z_ w_ => ∃ (i45 : Int) (xs46 : List Int), z_ = (i45, ()) ∧ J49 m_ (i45, xs46, ()) ∧ Ext w w_ ∧ Own el3 w_ w.heap.size (some (⟨g21, 0, none⟩ : Addr)) (((xs0.length : Nat) : Int).toNat) xs46 ∧ (((xs0.length : Nat) : Int).toNat) = xs46.length, ⟨m72, 0, (List.replicate (((xs0.length : Nat) : Int).toNat) (default : Int)), rfl, hJ71, hB, O2, (by first | rfl | assumption | (simp; done) | (simp; omega) | (simp; assumption))⟩, ?_⟩
  rintro m48 _ w52 ⟨i45, xs46, rfl, hJ73, hB, O2, hn47⟩
  have H := hS50 m48 _ hJ73
  clear hS50 hJ73
  dsimp only at H ⊢
  refine bcase_mk (fun hc69 => ?_) (fun hc69 => ?_)
  · have H := (bcase_iff.1 H).1 hc69
    obtain ⟨⟨h0_56, h1_57⟩, H⟩ := H
    obtain ⟨a54, ha55, hat53⟩ := Row.at (R0.ext hB) h0_56 h1_57
    refine ⟨h0_56, h1_57, a54, ha55, ?_⟩
    refine ⟨_, (hat53 0 _ rfl), ?_⟩
    obtain ⟨⟨h0_61, h1_62⟩, H⟩ := H
    obtain ⟨a59, ha60, hat58⟩ := Row.at O2.row h0_61 h1_62
    refine ⟨h0_61, (by first | exact h1_62 | omega | (simp at h1_62 ⊢; omega)), a59, ha60, ?_⟩
    refine Own.storeAt O2 ha60 h0_61 h1_62 0 [(.int .i64 (rd xs0 i45))] (rd xs0 i45) rfl (Nat.le_of_ble_eq_true rfl) rfl (fun w63 P2 e64 hb65 => ?_)
    have hB := echg hB e64 hb65
    have O2 := P2
    obtain ⟨m66, hm67, hJ68⟩ := H
    exact ⟨m66, hm67, (IntKind.wrap .i64 (i45 + 1)), (List.set xs46 (i45.toNat) (rd xs0 i45)), rfl, hJ68, hB, O2, (by first | rfl | assumption | (simp; done) | (simp; omega) | (simp; assumption))⟩
  · have H := (bcase_iff.1 H).2 hc69
    obtain rfl := hr.trans H.symm
    exact ⟨(some (⟨g21, 0, none⟩ : Addr)), (((xs0.length : Nat) : Int).toNat), (by first | rfl | (simp; done) | (simp; omega) | (simp [*]; done)), (by first | exact O2 | (simp only [List.length_set]; exact O2)), hB⟩

def laws_toAccess.vc (x0_0 : Int) (x0_1 : Int) (x0_2 : Int) (x0_3 : Int) (w : World) (K : Value → World → Prop) : Prop :=
  newK w (.cells #[(.int .i64 x0_0), (.int .i64 x0_1), (.int .i64 x0_2), (.int .i64 x0_3)] 83) fun g21 w22 => newK w22 (.cells #[(.int .i64 0), (.int .i64 0), (.int .i64 0), (.int .i64 0)] 81) fun g23 w24 => newK w24 (.cells #[(.int .i64 0), (.int .i64 0), (.int .i64 0), (.int .i64 0)] 81) fun g25 w26 => ∃ (n27 : Int), w26.cell? (((⟨g21, 0, none⟩ : Addr).add 0).add 0) = some (.int .i64 n27) ∧ stCells ((⟨g25, 0, none⟩ : Addr).add 0) [(.int .i64 n27)] 0 w26 fun w28 => ∃ (n29 : Int), w28.cell? (((⟨g21, 0, none⟩ : Addr).add 1).add 0) = some (.int .i64 n29) ∧ stCells ((⟨g25, 0, none⟩ : Addr).add 1) [(.int .i64 n29)] 0 w28 fun w30 => ∃ (n31 : Int), w30.cell? (((⟨g21, 0, none⟩ : Addr).add 2).add 0) = some (.int .i64 n31) ∧ stCells ((⟨g25, 0, none⟩ : Addr).add 2) [(.int .i64 n31)] 0 w30 fun w32 => ∃ (n33 : Int), w32.cell? (((⟨g21, 0, none⟩ : Addr).add 3).add 0) = some (.int .i64 n33) ∧ stCells ((⟨g25, 0, none⟩ : Addr).add 3) [(.int .i64 n33)] 0 w32 fun w34 => ∃ (n35 : Int), w34.cell? ((⟨g25, 0, none⟩ : Addr).add 0) = some (.int .i64 n35) ∧ ∃ (n36 : Int), w34.cell? ((⟨g25, 0, none⟩ : Addr).add 1) = some (.int .i64 n36) ∧ ∃ (n37 : Int), w34.cell? ((⟨g25, 0, none⟩ : Addr).add 2) = some (.int .i64 n37) ∧ ∃ (n38 : Int), w34.cell? ((⟨g25, 0, none⟩ : Addr).add 3) = some (.int .i64 n38) ∧ stCells (⟨g23, 0, none⟩ : Addr) [(.int .i64 n35), (.int .i64 n36), (.int .i64 n37), (.int .i64 n38)] 0 w34 fun w39 => ∃ (n40 : Int), w39.cell? ((⟨g23, 0, none⟩ : Addr).add 0) = some (.int .i64 n40) ∧ ∃ (n41 : Int), w39.cell? ((⟨g23, 0, none⟩ : Addr).add 1) = some (.int .i64 n41) ∧ ∃ (n42 : Int), w39.cell? ((⟨g23, 0, none⟩ : Addr).add 2) = some (.int .i64 n42) ∧ ∃ (n43 : Int), w39.cell? ((⟨g23, 0, none⟩ : Addr).add 3) = some (.int .i64 n43) ∧ K (.agg #[(.int .i64 n40), (.int .i64 n41), (.int .i64 n42), (.int .i64 n43)]) w39

def laws_toAccess.ann : Ann := (.seq .l (.seq .l (.seq .l (.seq .l (.seq .l (.seq .l (.seq .l .l)))))))

theorem laws_toAccess.vc_eq (x0_0 : Int) (x0_1 : Int) (x0_2 : Int) (x0_3 : Int) (w : World) (K : Value → World → Prop) : vcF Try.prog Try.f66 laws_toAccess.ann [(.agg #[(.int .i64 x0_0), (.int .i64 x0_1), (.int .i64 x0_2), (.int .i64 x0_3)])] K w = laws_toAccess.vc x0_0 x0_1 x0_2 x0_3 w K := by kernel_rfl

theorem laws_toAccess.start {x0_0 : Int} {x0_1 : Int} {x0_2 : Int} {x0_3 : Int} {w : World} {K : Value → World → Prop} (h : laws_toAccess.vc x0_0 x0_1 x0_2 x0_3 w K) : Cll Try.prog 66 #[(.agg #[(.int .i64 x0_0), (.int .i64 x0_1), (.int .i64 x0_2), (.int .i64 x0_3)])] w K :=
  vcF_sound mixed (fn := Try.f66) (by kernel_rfl) (by kernel_rfl) (an := laws_toAccess.ann) (args := [(.agg #[(.int .i64 x0_0), (.int .i64 x0_1), (.int .i64 x0_2), (.int .i64 x0_3)])]) (by rw [laws_toAccess.vc_eq]; exact h)

theorem laws_toAccess.con {s0 : D.Access} {r : D.Access} {w : World} (hr : r = M.laws_toAccess s0)  :
    Cll Try.prog 66 #[(.agg #[(.int .i64 s0.Phase), (.int .i64 s0.Warp), (.int .i64 s0.Address), (.int .i64 s0.Kind)])] w (fun v_ w_ => v_ = (.agg #[(.int .i64 r.Phase), (.int .i64 r.Warp), (.int .i64 r.Address), (.int .i64 r.Kind)]) ∧ Ext w w_) := by
  have H := wp.laws_toAccess.math s0
  have hB := Ext.refl w
  refine laws_toAccess.start ?_
  unfold laws_toAccess.vc
  unfold wp.laws_toAccess at H
  refine newBlk (fun g1_ w21 L1 P1 e22 => ?_)
  have O1 := P1
  have L1 := Nat.le_trans hB.size L1
  have hB := ethen hB e22
  refine newBlk (fun g2_ w23 L2 P2 e24 => ?_)
  have N1_2 := O1.ne L2
  have O1 := O1.ext e24
  have O2 := P2
  have L2 := Nat.le_trans hB.size L2
  have hB := ethen hB e24
  refine newBlk (fun g3_ w25 L3 P3 e26 => ?_)
  have N1_3 := O1.ne L3
  have N2_3 := O2.ne L3
  have O1 := O1.ext e26
  have O2 := O2.ext e26
  have O3 := P3
  have L3 := Nat.le_trans hB.size L3
  have hB := ethen hB e26
  refine ⟨_, (O1.at 0 rfl rfl), ?_⟩
  refine stBlk O3 (o := 0) (cs' := #[(.int .i64 s0.Phase), (.int .i64 0), (.int .i64 0), (.int .i64 0)]) rfl rfl (Nat.le_of_ble_eq_true rfl) rfl (fun w27 P3 e28 => ?_)
  have O1_ := O1.chg e28 N1_3
  have O2_ := O2.chg e28 N2_3
  have O1 := O1_
  have O2 := O2_
  have hB := echg hB e28 L3
  have O3 := P3
  refine ⟨_, (O1.at 1 rfl rfl), ?_⟩
  refine stBlk O3 (o := 1) (cs' := #[(.int .i64 s0.Phase), (.int .i64 s0.Warp), (.int .i64 0), (.int .i64 0)]) rfl rfl (Nat.le_of_ble_eq_true rfl) rfl (fun w29 P3 e30 => ?_)
  have O1_ := O1.chg e30 N1_3
  have O2_ := O2.chg e30 N2_3
  have O1 := O1_
  have O2 := O2_
  have hB := echg hB e30 L3
  have O3 := P3
  refine ⟨_, (O1.at 2 rfl rfl), ?_⟩
  refine stBlk O3 (o := 2) (cs' := #[(.int .i64 s0.Phase), (.int .i64 s0.Warp), (.int .i64 s0.Address), (.int .i64 0)]) rfl rfl (Nat.le_of_ble_eq_true rfl) rfl (fun w31 P3 e32 => ?_)
  have O1_ := O1.chg e32 N1_3
  have O2_ := O2.chg e32 N2_3
  have O1 := O1_
  have O2 := O2_
  have hB := echg hB e32 L3
  have O3 := P3
  refine ⟨_, (O1.at 3 rfl rfl), ?_⟩
  refine stBlk O3 (o := 3) (cs' := #[(.int .i64 s0.Phase), (.int .i64 s0.Warp), (.int .i64 s0.Address), (.int .i64 s0.Kind)]) rfl rfl (Nat.le_of_ble_eq_true rfl) rfl (fun w33 P3 e34 => ?_)
  have O1_ := O1.chg e34 N1_3
  have O2_ := O2.chg e34 N2_3
  have O1 := O1_
  have O2 := O2_
  have hB := echg hB e34 L3
  have O3 := P3
  refine ⟨_, (O3.at 0 rfl rfl), ?_⟩
  refine ⟨_, (O3.at 1 rfl rfl), ?_⟩
  refine ⟨_, (O3.at 2 rfl rfl), ?_⟩
  refine ⟨_, (O3.at 3 rfl rfl), ?_⟩
  refine stBlk O2 (o := 0) (cs' := #[(.int .i64 s0.Phase), (.int .i64 s0.Warp), (.int .i64 s0.Address), (.int .i64 s0.Kind)]) rfl rfl (Nat.le_of_ble_eq_true rfl) rfl (fun w35 P2 e36 => ?_)
  have O1_ := O1.chg e36 N1_2
  have O3_ := O3.chg e36 (N2_3).symm
  have O1 := O1_
  have O3 := O3_
  have hB := echg hB e36 L2
  have O2 := P2
  refine ⟨_, (O2.at 0 rfl rfl), ?_⟩
  refine ⟨_, (O2.at 1 rfl rfl), ?_⟩
  refine ⟨_, (O2.at 2 rfl rfl), ?_⟩
  refine ⟨_, (O2.at 3 rfl rfl), ?_⟩
  obtain rfl := hr.trans H.symm
  exact ⟨rfl, hB⟩

def impl_IsRace.vc (x0_0 : Int) (x0_1 : Int) (x0_2 : Int) (x0_3 : Int) (x1_0 : Int) (x1_1 : Int) (x1_2 : Int) (x1_3 : Int) (w : World) (K : Value → World → Prop) : Prop :=
  newK w (.cells #[(.int .i64 x0_0), (.int .i64 x0_1), (.int .i64 x0_2), (.int .i64 x0_3)] 81) fun g21 w22 => newK w22 (.cells #[(.int .i64 x1_0), (.int .i64 x1_1), (.int .i64 x1_2), (.int .i64 x1_3)] 81) fun g23 w24 => JoinT (σ := Bool × Unit) (fun J25 => ∃ (n26 : Int), w24.cell? (((⟨g21, 0, none⟩ : Addr).add 3).add 0) = some (.int .i64 n26) ∧ ∃ (n27 : Int), w24.cell? (((⟨g23, 0, none⟩ : Addr).add 3).add 0) = some (.int .i64 n27) ∧ bcase (n26 == n27) (∃ (n28 : Int), w24.cell? (((⟨g21, 0, none⟩ : Addr).add 3).add 0) = some (.int .i64 n28) ∧ bcase (n28 == 13) (J25 (true, ()) w24) (∃ (n29 : Int), w24.cell? (((⟨g21, 0, none⟩ : Addr).add 3).add 0) = some (.int .i64 n29) ∧ J25 ((n29 == 15), ()) w24)) (J25 (false, ()) w24)) fun z30 w31 => ∃ (n32 : Int), w31.cell? (((⟨g21, 0, none⟩ : Addr).add 0).add 0) = some (.int .i64 n32) ∧ ∃ (n33 : Int), w31.cell? (((⟨g23, 0, none⟩ : Addr).add 0).add 0) = some (.int .i64 n33) ∧ bcase (n32 == n33) (∃ (n34 : Int), w31.cell? (((⟨g21, 0, none⟩ : Addr).add 2).add 0) = some (.int .i64 n34) ∧ ∃ (n35 : Int), w31.cell? (((⟨g23, 0, none⟩ : Addr).add 2).add 0) = some (.int .i64 n35) ∧ bcase (n34 == n35) (∃ (n36 : Int), w31.cell? (((⟨g21, 0, none⟩ : Addr).add 1).add 0) = some (.int .i64 n36) ∧ ∃ (n37 : Int), w31.cell? (((⟨g23, 0, none⟩ : Addr).add 1).add 0) = some (.int .i64 n37) ∧ bcase (n36 != n37) (K (.bool (!z30.1)) w31) (K (.bool false) w31)) (K (.bool false) w31)) (K (.bool false) w31)

def impl_IsRace.ann : Ann := (.seq .l (.cut [(5, .bool)] .l (.seq .l .l)))

theorem impl_IsRace.vc_eq (x0_0 : Int) (x0_1 : Int) (x0_2 : Int) (x0_3 : Int) (x1_0 : Int) (x1_1 : Int) (x1_2 : Int) (x1_3 : Int) (w : World) (K : Value → World → Prop) : vcF Try.prog Try.f67 impl_IsRace.ann [(.agg #[(.int .i64 x0_0), (.int .i64 x0_1), (.int .i64 x0_2), (.int .i64 x0_3)]), (.agg #[(.int .i64 x1_0), (.int .i64 x1_1), (.int .i64 x1_2), (.int .i64 x1_3)])] K w = impl_IsRace.vc x0_0 x0_1 x0_2 x0_3 x1_0 x1_1 x1_2 x1_3 w K := by kernel_rfl

theorem impl_IsRace.start {x0_0 : Int} {x0_1 : Int} {x0_2 : Int} {x0_3 : Int} {x1_0 : Int} {x1_1 : Int} {x1_2 : Int} {x1_3 : Int} {w : World} {K : Value → World → Prop} (h : impl_IsRace.vc x0_0 x0_1 x0_2 x0_3 x1_0 x1_1 x1_2 x1_3 w K) : Cll Try.prog 67 #[(.agg #[(.int .i64 x0_0), (.int .i64 x0_1), (.int .i64 x0_2), (.int .i64 x0_3)]), (.agg #[(.int .i64 x1_0), (.int .i64 x1_1), (.int .i64 x1_2), (.int .i64 x1_3)])] w K :=
  vcF_sound mixed (fn := Try.f67) (by kernel_rfl) (by kernel_rfl) (an := impl_IsRace.ann) (args := [(.agg #[(.int .i64 x0_0), (.int .i64 x0_1), (.int .i64 x0_2), (.int .i64 x0_3)]), (.agg #[(.int .i64 x1_0), (.int .i64 x1_1), (.int .i64 x1_2), (.int .i64 x1_3)])]) (by rw [impl_IsRace.vc_eq]; exact h)

theorem impl_IsRace.con {s0 : D.Access} {s1 : D.Access} {r : Bool} {w : World} (hr : r = M.impl_IsRace s0 s1)  :
    Cll Try.prog 67 #[(.agg #[(.int .i64 s0.Phase), (.int .i64 s0.Warp), (.int .i64 s0.Address), (.int .i64 s0.Kind)]), (.agg #[(.int .i64 s1.Phase), (.int .i64 s1.Warp), (.int .i64 s1.Address), (.int .i64 s1.Kind)])] w (fun v_ w_ => v_ = (.bool r) ∧ Ext w w_) := by
  have H := wp.impl_IsRace.math s0 s1
  have hB := Ext.refl w
  refine impl_IsRace.start ?_
  unfold impl_IsRace.vc
  unfold wp.impl_IsRace at H
  refine newBlk (fun g1_ w21 L1 P1 e22 => ?_)
  have O1 := P1
  have L1 := Nat.le_trans hB.size L1
  have hB := ethen hB e22
  refine newBlk (fun g2_ w23 L2 P2 e24 => ?_)
  have N1_2 := O1.ne L2
  have O1 := O1.ext e24
  have O2 := P2
  have L2 := Nat.le_trans hB.size L2
  have hB := ethen hB e24
  obtain ⟨K35, hKK35, H⟩ := joinP_out H
  refine ⟨fun z_ w_ => ∃ (b25 : Bool), z_ = (b25, ()) ∧ K35 (b25, ()) ∧ Ext w w_ ∧ Blk w_ g1_ 81 #[(.int .i64 s0.Phase), (.int .i64 s0.Warp), (.int .i64 s0.Address), (.int .i64 s0.Kind)] ∧ Blk w_ g2_ 81 #[(.int .i64 s1.Phase), (.int .i64 s1.Warp), (.int .i64 s1.Address), (.int .i64 s1.Kind)], ?_, ?_⟩
  · refine ⟨_, (O1.at 3 rfl rfl), ?_⟩
    refine ⟨_, (O2.at 3 rfl rfl), ?_⟩
    refine bcase_mk (fun hc30 => ?_) (fun hc30 => ?_)
    · have H := (bcase_iff.1 H).1 hc30
      refine ⟨_, (O1.at 3 rfl rfl), ?_⟩
      refine bcase_mk (fun hc29 => ?_) (fun hc29 => ?_)
      · have H := (bcase_iff.1 H).1 hc29
        exact ⟨true, rfl, H, hB, O1, O2⟩
      · have H := (bcase_iff.1 H).2 hc29
        refine ⟨_, (O1.at 3 rfl rfl), ?_⟩
        exact ⟨(s0.Kind == 15), rfl, H, hB, O1, O2⟩
    · have H := (bcase_iff.1 H).2 hc30
      exact ⟨false, rfl, H, hB, O1, O2⟩
  · rintro _ w27 ⟨b25, rfl, H, hB, O1, O2⟩
    have H := hKK35 _ H
    dsimp only at H ⊢
    refine ⟨_, (O1.at 0 rfl rfl), ?_⟩
    refine ⟨_, (O2.at 0 rfl rfl), ?_⟩
    refine bcase_mk (fun hc33 => ?_) (fun hc33 => ?_)
    · have H := (bcase_iff.1 H).1 hc33
      refine ⟨_, (O1.at 2 rfl rfl), ?_⟩
      refine ⟨_, (O2.at 2 rfl rfl), ?_⟩
      refine bcase_mk (fun hc32 => ?_) (fun hc32 => ?_)
      · have H := (bcase_iff.1 H).1 hc32
        refine ⟨_, (O1.at 1 rfl rfl), ?_⟩
        refine ⟨_, (O2.at 1 rfl rfl), ?_⟩
        refine bcase_mk (fun hc31 => ?_) (fun hc31 => ?_)
        · have H := (bcase_iff.1 H).1 hc31
          obtain rfl := hr.trans H.symm
          exact ⟨rfl, hB⟩
        · have H := (bcase_iff.1 H).2 hc31
          obtain rfl := hr.trans H.symm
          exact ⟨rfl, hB⟩
      · have H := (bcase_iff.1 H).2 hc32
        obtain rfl := hr.trans H.symm
        exact ⟨rfl, hB⟩
    · have H := (bcase_iff.1 H).2 hc33
      obtain rfl := hr.trans H.symm
      exact ⟨rfl, hB⟩

def spec_IsRace.vc (x0_0 : Int) (x0_1 : Int) (x0_2 : Int) (x0_3 : Int) (x1_0 : Int) (x1_1 : Int) (x1_2 : Int) (x1_3 : Int) (w : World) (K : Value → World → Prop) : Prop :=
  newK w (.cells #[(.int .i64 x0_0), (.int .i64 x0_1), (.int .i64 x0_2), (.int .i64 x0_3)] 81) fun g21 w22 => newK w22 (.cells #[(.int .i64 x1_0), (.int .i64 x1_1), (.int .i64 x1_2), (.int .i64 x1_3)] 81) fun g23 w24 => ∃ (n26 : Int), w24.cell? (((⟨g21, 0, none⟩ : Addr).add 0).add 0) = some (.int .i64 n26) ∧ ∃ (n27 : Int), w24.cell? (((⟨g23, 0, none⟩ : Addr).add 0).add 0) = some (.int .i64 n27) ∧ bcase (n26 != n27) (K (.bool false) w24) (∃ (n28 : Int), w24.cell? (((⟨g21, 0, none⟩ : Addr).add 2).add 0) = some (.int .i64 n28) ∧ ∃ (n29 : Int), w24.cell? (((⟨g23, 0, none⟩ : Addr).add 2).add 0) = some (.int .i64 n29) ∧ bcase (n28 != n29) (K (.bool false) w24) (∃ (n30 : Int), w24.cell? (((⟨g21, 0, none⟩ : Addr).add 1).add 0) = some (.int .i64 n30) ∧ ∃ (n31 : Int), w24.cell? (((⟨g23, 0, none⟩ : Addr).add 1).add 0) = some (.int .i64 n31) ∧ bcase (n30 == n31) (K (.bool false) w24) (∃ (n32 : Int), w24.cell? (((⟨g21, 0, none⟩ : Addr).add 3).add 0) = some (.int .i64 n32) ∧ ∃ (n33 : Int), w24.cell? (((⟨g23, 0, none⟩ : Addr).add 3).add 0) = some (.int .i64 n33) ∧ bcase (n32 != n33) (K (.bool true) w24) (∃ (n34 : Int), w24.cell? (((⟨g21, 0, none⟩ : Addr).add 3).add 0) = some (.int .i64 n34) ∧ bcase (n34 != 13) (∃ (n35 : Int), w24.cell? (((⟨g21, 0, none⟩ : Addr).add 3).add 0) = some (.int .i64 n35) ∧ K (.bool (n35 != 15)) w24) (K (.bool false) w24)))))

def spec_IsRace.ann : Ann := (.seq .l (.seq (.seq .l (.two (.seq .l .l) .l)) (.seq .l .l)))

theorem spec_IsRace.vc_eq (x0_0 : Int) (x0_1 : Int) (x0_2 : Int) (x0_3 : Int) (x1_0 : Int) (x1_1 : Int) (x1_2 : Int) (x1_3 : Int) (w : World) (K : Value → World → Prop) : vcF Try.prog Try.f65 spec_IsRace.ann [(.agg #[(.int .i64 x0_0), (.int .i64 x0_1), (.int .i64 x0_2), (.int .i64 x0_3)]), (.agg #[(.int .i64 x1_0), (.int .i64 x1_1), (.int .i64 x1_2), (.int .i64 x1_3)])] K w = spec_IsRace.vc x0_0 x0_1 x0_2 x0_3 x1_0 x1_1 x1_2 x1_3 w K := by kernel_rfl

theorem spec_IsRace.start {x0_0 : Int} {x0_1 : Int} {x0_2 : Int} {x0_3 : Int} {x1_0 : Int} {x1_1 : Int} {x1_2 : Int} {x1_3 : Int} {w : World} {K : Value → World → Prop} (h : spec_IsRace.vc x0_0 x0_1 x0_2 x0_3 x1_0 x1_1 x1_2 x1_3 w K) : Cll Try.prog 65 #[(.agg #[(.int .i64 x0_0), (.int .i64 x0_1), (.int .i64 x0_2), (.int .i64 x0_3)]), (.agg #[(.int .i64 x1_0), (.int .i64 x1_1), (.int .i64 x1_2), (.int .i64 x1_3)])] w K :=
  vcF_sound mixed (fn := Try.f65) (by kernel_rfl) (by kernel_rfl) (an := spec_IsRace.ann) (args := [(.agg #[(.int .i64 x0_0), (.int .i64 x0_1), (.int .i64 x0_2), (.int .i64 x0_3)]), (.agg #[(.int .i64 x1_0), (.int .i64 x1_1), (.int .i64 x1_2), (.int .i64 x1_3)])]) (by rw [spec_IsRace.vc_eq]; exact h)

theorem spec_IsRace.con {s0 : D.Access} {s1 : D.Access} {r : Bool} {w : World} (hr : r = M.spec_IsRace s0 s1)  :
    Cll Try.prog 65 #[(.agg #[(.int .i64 s0.Phase), (.int .i64 s0.Warp), (.int .i64 s0.Address), (.int .i64 s0.Kind)]), (.agg #[(.int .i64 s1.Phase), (.int .i64 s1.Warp), (.int .i64 s1.Address), (.int .i64 s1.Kind)])] w (fun v_ w_ => v_ = (.bool r) ∧ Ext w w_) := by
  have H := wp.spec_IsRace.math s0 s1
  have hB := Ext.refl w
  refine spec_IsRace.start ?_
  unfold spec_IsRace.vc
  unfold wp.spec_IsRace at H
  refine newBlk (fun g1_ w21 L1 P1 e22 => ?_)
  have O1 := P1
  have L1 := Nat.le_trans hB.size L1
  have hB := ethen hB e22
  refine newBlk (fun g2_ w23 L2 P2 e24 => ?_)
  have N1_2 := O1.ne L2
  have O1 := O1.ext e24
  have O2 := P2
  have L2 := Nat.le_trans hB.size L2
  have hB := ethen hB e24
  refine ⟨_, (O1.at 0 rfl rfl), ?_⟩
  refine ⟨_, (O2.at 0 rfl rfl), ?_⟩
  refine bcase_mk (fun hc29 => ?_) (fun hc29 => ?_)
  · have H := (bcase_iff.1 H).1 hc29
    obtain rfl := hr.trans H.symm
    exact ⟨rfl, hB⟩
  · have H := (bcase_iff.1 H).2 hc29
    refine ⟨_, (O1.at 2 rfl rfl), ?_⟩
    refine ⟨_, (O2.at 2 rfl rfl), ?_⟩
    refine bcase_mk (fun hc28 => ?_) (fun hc28 => ?_)
    · have H := (bcase_iff.1 H).1 hc28
      obtain rfl := hr.trans H.symm
      exact ⟨rfl, hB⟩
    · have H := (bcase_iff.1 H).2 hc28
      refine ⟨_, (O1.at 1 rfl rfl), ?_⟩
      refine ⟨_, (O2.at 1 rfl rfl), ?_⟩
      refine bcase_mk (fun hc27 => ?_) (fun hc27 => ?_)
      · have H := (bcase_iff.1 H).1 hc27
        obtain rfl := hr.trans H.symm
        exact ⟨rfl, hB⟩
      · have H := (bcase_iff.1 H).2 hc27
        refine ⟨_, (O1.at 3 rfl rfl), ?_⟩
        refine ⟨_, (O2.at 3 rfl rfl), ?_⟩
        refine bcase_mk (fun hc26 => ?_) (fun hc26 => ?_)
        · have H := (bcase_iff.1 H).1 hc26
          obtain rfl := hr.trans H.symm
          exact ⟨rfl, hB⟩
        · have H := (bcase_iff.1 H).2 hc26
          refine ⟨_, (O1.at 3 rfl rfl), ?_⟩
          refine bcase_mk (fun hc25 => ?_) (fun hc25 => ?_)
          · have H := (bcase_iff.1 H).1 hc25
            refine ⟨_, (O1.at 3 rfl rfl), ?_⟩
            obtain rfl := hr.trans H.symm
            exact ⟨rfl, hB⟩
          · have H := (bcase_iff.1 H).2 hc25
            obtain rfl := hr.trans H.symm
            exact ⟨rfl, hB⟩

def laws_szAccessS.vc (A0 : Option Addr) (n0 : Nat) (c0 : Nat) (x1 : Int) (w : World) (K : Value → World → Prop) : Prop :=
  bcase (decide ((IntKind.wrap .i64 (x1 - ((n0 : Nat) : Int))) < 0)) (K (.int .i64 (-1)) w) (K (.int .i64 (IntKind.wrap .i64 (x1 - ((n0 : Nat) : Int)))) w)

def laws_szAccessS.ann : Ann := (.seq .l (.seq .l (.seq (.seq .l (.two (.seq .l .l) .l)) (.seq .l .l))))

theorem laws_szAccessS.vc_eq (A0 : Option Addr) (n0 : Nat) (c0 : Nat) (x1 : Int) (w : World) (K : Value → World → Prop) : vcF Try.prog Try.f20 laws_szAccessS.ann [(.slice A0 n0 c0), (.int .i64 x1)] K w = laws_szAccessS.vc A0 n0 c0 x1 w K := by kernel_rfl

theorem laws_szAccessS.start {A0 : Option Addr} {n0 : Nat} {c0 : Nat} {x1 : Int} {w : World} {K : Value → World → Prop} (h : laws_szAccessS.vc A0 n0 c0 x1 w K) : Cll Try.prog 20 #[(.slice A0 n0 c0), (.int .i64 x1)] w K :=
  vcF_sound mixed (fn := Try.f20) (by kernel_rfl) (by kernel_rfl) (an := laws_szAccessS.ann) (args := [(.slice A0 n0 c0), (.int .i64 x1)]) (by rw [laws_szAccessS.vc_eq]; exact h)

theorem laws_szAccessS.con {xs0 : List D.Access} {A0 : Option Addr} {c0 : Nat} {x1 : Int} {r : Int} {w : World} (hp : M.laws_szAccessS_pre xs0 x1) (hr : r = M.laws_szAccessS xs0 x1) (R0 : Row el83 w A0 xs0) (hc0 : xs0.length ≤ c0) :
    Cll Try.prog 20 #[(.slice A0 xs0.length c0), (.int .i64 x1)] w (fun v_ w_ => v_ = (.int .i64 r) ∧ Ext w w_) := by
  have H := wp.laws_szAccessS.math xs0 x1 hp
  have hB := Ext.refl w
  refine laws_szAccessS.start ?_
  unfold laws_szAccessS.vc
  unfold wp.laws_szAccessS at H
  refine bcase_mk (fun hc21 => ?_) (fun hc21 => ?_)
  · have H := (bcase_iff.1 H).1 hc21
    obtain rfl := hr.trans H.symm
    exact ⟨rfl, hB⟩
  · have H := (bcase_iff.1 H).2 hc21
    obtain rfl := hr.trans H.symm
    exact ⟨rfl, hB⟩

def laws_toAccessS.vc (A0 : Option Addr) (n0 : Nat) (c0 : Nat) (w : World) (K : Value → World → Prop) : Prop :=
  vcMake Try.prog 38 ((n0 : Nat) : Int) ((n0 : Nat) : Int) w fun g21 w22 => LoopT (σ := Int × Unit) (fun z23 w24 next25 => bcase (decide (z23.1 < ((n0 : Nat) : Int))) (((0 : Int) ≤ z23.1 ∧ z23.1 < ((n0 : Nat) : Int) ∧ ∃ a26 : Addr, A0 = some a26 ∧ ∃ (n27 : Int), w24.cell? ((a26.add ((z23.1.toNat) * 4)).add 0) = some (.int .i64 n27) ∧ ∃ (n28 : Int), w24.cell? ((a26.add ((z23.1.toNat) * 4)).add 1) = some (.int .i64 n28) ∧ ∃ (n29 : Int), w24.cell? ((a26.add ((z23.1.toNat) * 4)).add 2) = some (.int .i64 n29) ∧ ∃ (n30 : Int), w24.cell? ((a26.add ((z23.1.toNat) * 4)).add 3) = some (.int .i64 n30) ∧ Cll Try.prog 66 #[(.agg #[(.int .i64 n27), (.int .i64 n28), (.int .i64 n29), (.int .i64 n30)])] w24 fun v31 w32 => (∃ (n33 : Int), True ∧ ∃ (n34 : Int), True ∧ ∃ (n35 : Int), True ∧ ∃ (n36 : Int), True ∧ v31 = (.agg #[(.int .i64 n33), (.int .i64 n34), (.int .i64 n35), (.int .i64 n36)]) ∧ ((0 : Int) ≤ z23.1 ∧ z23.1 < (((((n0 : Nat) : Int).toNat) : Nat) : Int) ∧ ∃ a37 : Addr, (some (⟨g21, 0, none⟩ : Addr)) = some a37 ∧ stCells (a37.add ((z23.1.toNat) * 4)) [(.int .i64 n33), (.int .i64 n34), (.int .i64 n35), (.int .i64 n36)] 0 w32 fun w38 => next25 ((IntKind.wrap .i64 (z23.1 + 1)), ()) w38)))) (K (.slice (some (⟨g21, 0, none⟩ : Addr)) (((n0 : Nat) : Int).toNat) (((n0 : Nat) : Int).toNat)) w24)) (0, ()) w22

def laws_toAccessS.ann : Ann := (.seq .l (.seq .l (.seq (.seq .l (.one (.loop [(4, .int .i64)] (.seq (.seq .l (.two .l .l)) (.seq (.one .l) .l))))) (.seq .l .l))))

theorem laws_toAccessS.vc_eq (A0 : Option Addr) (n0 : Nat) (c0 : Nat) (w : World) (K : Value → World → Prop) : vcF Try.prog Try.f22 laws_toAccessS.ann [(.slice A0 n0 c0)] K w = laws_toAccessS.vc A0 n0 c0 w K := by kernel_rfl

theorem laws_toAccessS.start {A0 : Option Addr} {n0 : Nat} {c0 : Nat} {w : World} {K : Value → World → Prop} (h : laws_toAccessS.vc A0 n0 c0 w K) : Cll Try.prog 22 #[(.slice A0 n0 c0)] w K :=
  vcF_sound mixed (fn := Try.f22) (by kernel_rfl) (by kernel_rfl) (an := laws_toAccessS.ann) (args := [(.slice A0 n0 c0)]) (by rw [laws_toAccessS.vc_eq]; exact h)

theorem laws_toAccessS.con {xs0 : List D.Access} {A0 : Option Addr} {c0 : Nat} {r : List D.Access} {w : World} (hp : M.laws_toAccessS_pre xs0) (hr : r = M.laws_toAccessS xs0) (R0 : Row el83 w A0 xs0) (hc0 : xs0.length ≤ c0) :
    Cll Try.prog 22 #[(.slice A0 xs0.length c0)] w (fun v_ w_ => ∃ (A0_ : Option Addr) (c0_ : Nat), v_ = (.slice A0_ r.length c0_) ∧ Own el81 w_ w.heap.size A0_ c0_ r ∧ Ext w w_) := by
  have H := wp.laws_toAccessS.math xs0 hp
  have hB := Ext.refl w
  refine laws_toAccessS.start ?_
  unfold laws_toAccessS.vc
  unfold wp.laws_toAccessS at H
  obtain ⟨⟨h0_24, h1_25⟩, H⟩ := H
  refine makeOwn slt38 h0_24 h1_25 (fun g21 w22 P2 e23 => ?_)
  have O2 := P2.mono hB.size
  have hB := ethen hB e23
  obtain ⟨J54, ⟨m82, hJ81⟩, hS55⟩ := H
  refine ⟨fun m_ z_ w_ => ∃ (i50 : Int) (xs51 : List D.Access), z_ = (i50, ()) ∧ J54 m_ (i50, xs51, ()) ∧ Ext w w_ ∧ Own el81 w_ w.heap.size (some (⟨g21, 0, none⟩ : Addr)) (((xs0.length : Nat) : Int).toNat) xs51 ∧ (((xs0.length : Nat) : Int).toNat) = xs51.length, ⟨m82, 0, (List.replicate (((xs0.length : Nat) : Int).toNat) (default : D.Access)), rfl, hJ81, hB, O2, (by first | rfl | assumption | (simp; done) | (simp; omega) | (simp; assumption))⟩, ?_⟩
  rintro m53 _ w57 ⟨i50, xs51, rfl, hJ83, hB, O2, hn52⟩
  have H := hS55 m53 _ hJ83
  clear hS55 hJ83
  dsimp only at H ⊢
  refine bcase_mk (fun hc79 => ?_) (fun hc79 => ?_)
  · have H := (bcase_iff.1 H).1 hc79
    obtain ⟨⟨h0_61, h1_62⟩, H⟩ := H
    obtain ⟨a59, ha60, hat58⟩ := Row.at (R0.ext hB) h0_61 h1_62
    refine ⟨h0_61, h1_62, a59, ha60, ?_⟩
    refine ⟨_, (hat58 0 _ rfl), ?_⟩
    refine ⟨_, (hat58 1 _ rfl), ?_⟩
    refine ⟨_, (hat58 2 _ rfl), ?_⟩
    refine ⟨_, (hat58 3 _ rfl), ?_⟩
    obtain ⟨r63, hr64⟩ : ∃ r_, r_ = M.laws_toAccess (rd xs0 i50) := ⟨_, rfl⟩
    have H := H r63 hr64
    refine (laws_toAccess.con hr64 ).mono ?_
    rintro _ w66 ⟨rfl, e67⟩
    have O2 := O2.ext e67
    have hB := ethen hB e67
    refine ⟨r63.Phase, trivial, ?_⟩
    refine ⟨r63.Warp, trivial, ?_⟩
    refine ⟨r63.Address, trivial, ?_⟩
    refine ⟨r63.Kind, trivial, ?_⟩
    refine ⟨rfl, ?_⟩
    obtain ⟨⟨h0_71, h1_72⟩, H⟩ := H
    obtain ⟨a69, ha70, hat68⟩ := Row.at O2.row h0_71 h1_72
    refine ⟨h0_71, (by first | exact h1_72 | omega | (simp at h1_72 ⊢; omega)), a69, ha70, ?_⟩
    refine Own.storeAt O2 ha70 h0_71 h1_72 0 [(.int .i64 r63.Phase), (.int .i64 r63.Warp), (.int .i64 r63.Address), (.int .i64 r63.Kind)] (⟨r63.Phase, r63.Warp, r63.Address, r63.Kind⟩ : D.Access) rfl (Nat.le_of_ble_eq_true rfl) rfl (fun w73 P2 e74 hb75 => ?_)
    have hB := echg hB e74 hb75
    have O2 := P2
    obtain ⟨m76, hm77, hJ78⟩ := H
    exact ⟨m76, hm77, (IntKind.wrap .i64 (i50 + 1)), (List.set xs51 (i50.toNat) (⟨r63.Phase, r63.Warp, r63.Address, r63.Kind⟩ : D.Access)), rfl, hJ78, hB, O2, (by first | rfl | assumption | (simp; done) | (simp; omega) | (simp; assumption))⟩
  · have H := (bcase_iff.1 H).2 hc79
    obtain rfl := hr.trans H.symm
    exact ⟨(some (⟨g21, 0, none⟩ : Addr)), (((xs0.length : Nat) : Int).toNat), (by first | rfl | (simp; done) | (simp; omega) | (simp [*]; done)), (by first | exact O2 | (simp only [List.length_set]; exact O2)), hB⟩

end Go.V
