import Derived.Test.YtdjkglkcohknbaaKNbMath1
import Derived.Test.YtdjkglkcohknbaaSeat
import Derived.Test.YtdjkglkcohknbaaVPlc
namespace Go.V
open Go.Proofs
set_option linter.unusedVariables false
set_option linter.unusedSimpArgs false
set_option maxRecDepth 100000
def impl_within.vc (x0 : Int) (x1 : Int) (x2 : Int) (w : World) (K : Value → World → Prop) : Prop :=
  bcase (decide (x0 ≥ x1)) (K (.bool (decide (x0 ≤ x2))) w) (K (.bool false) w)

def impl_within.ann : Ann := (.seq .l (.seq .l .l))

theorem impl_within.start {x0 : Int} {x1 : Int} {x2 : Int} {w : World} {K : Value → World → Prop} (h : impl_within.vc x0 x1 x2 w K) : Cll Try.prog 33 #[(.int .i64 x0), (.int .i64 x1), (.int .i64 x2)] w K :=
  vcF_sound mixed (fn := Try.f33) (by kernel_rfl) (by kernel_rfl) (an := impl_within.ann) (args := [(.int .i64 x0), (.int .i64 x1), (.int .i64 x2)]) (Eq.mpr (by kernel_rfl) h)

theorem impl_within.con {x0 : Int} {x1 : Int} {x2 : Int} {r : Bool} {w : World} (hr : r = M.impl_within x0 x1 x2)  :
    Cll Try.prog 33 #[(.int .i64 x0), (.int .i64 x1), (.int .i64 x2)] w (fun v_ w_ => v_ = (.bool r) ∧ Ext w w_) := by
  have H := wp.impl_within.math x0 x1 x2
  have hB := Ext.refl w
  refine impl_within.start ?_
  unfold impl_within.vc
  unfold wp.impl_within at H
  refine bcase_mk (fun hc21 => ?_) (fun hc21 => ?_)
  · have H := (bcase_iff.1 H).1 hc21
    obtain rfl := hr.trans H.symm
    exact ⟨rfl, hB⟩
  have H := (bcase_iff.1 H).2 hc21
  obtain rfl := hr.trans H.symm
  exact ⟨rfl, hB⟩
def impl_IsWord.vc (x0 : Int) (w : World) (K : Value → World → Prop) : Prop :=
  Cll Try.prog 33 #[(.int .i64 x0), (.int .i64 0), (.int .i64 65535)] w fun v21 w22 => (∃ (b23 : Bool), v21 = (.bool b23) ∧ K (.bool b23) w22)

def impl_IsWord.ann : Ann := (.seq .l (.seq .l .l))

theorem impl_IsWord.start {x0 : Int} {w : World} {K : Value → World → Prop} (h : impl_IsWord.vc x0 w K) : Cll Try.prog 81 #[(.int .i64 x0)] w K :=
  vcF_sound mixed (fn := Try.f81) (by kernel_rfl) (by kernel_rfl) (an := impl_IsWord.ann) (args := [(.int .i64 x0)]) (Eq.mpr (by kernel_rfl) h)

theorem impl_IsWord.con {x0 : Int} {r : Bool} {w : World} (hr : r = M.impl_IsWord x0)  :
    Cll Try.prog 81 #[(.int .i64 x0)] w (fun v_ w_ => v_ = (.bool r) ∧ Ext w w_) := by
  have H := wp.impl_IsWord.math x0
  have hB := Ext.refl w
  refine impl_IsWord.start ?_
  unfold impl_IsWord.vc
  unfold wp.impl_IsWord at H
  obtain ⟨r21, hr22⟩ : ∃ r_, r_ = M.impl_within x0 0 65535 := ⟨_, rfl⟩
  have H := H r21 hr22
  refine (impl_within.con hr22 ).mono ?_
  rintro _ w24 ⟨rfl, e25⟩
  have hB := ethen hB e25
  refine ⟨r21, rfl, ?_⟩
  obtain rfl := hr.trans H.symm
  exact ⟨rfl, hB⟩
def impl_IsMask.vc (x0 : Int) (w : World) (K : Value → World → Prop) : Prop :=
  Cll Try.prog 33 #[(.int .i64 x0), (.int .i64 0), (.int .i64 255)] w fun v21 w22 => (∃ (b23 : Bool), v21 = (.bool b23) ∧ K (.bool b23) w22)

def impl_IsMask.ann : Ann := (.seq .l (.seq .l .l))

theorem impl_IsMask.start {x0 : Int} {w : World} {K : Value → World → Prop} (h : impl_IsMask.vc x0 w K) : Cll Try.prog 82 #[(.int .i64 x0)] w K :=
  vcF_sound mixed (fn := Try.f82) (by kernel_rfl) (by kernel_rfl) (an := impl_IsMask.ann) (args := [(.int .i64 x0)]) (Eq.mpr (by kernel_rfl) h)

theorem impl_IsMask.con {x0 : Int} {r : Bool} {w : World} (hr : r = M.impl_IsMask x0)  :
    Cll Try.prog 82 #[(.int .i64 x0)] w (fun v_ w_ => v_ = (.bool r) ∧ Ext w w_) := by
  have H := wp.impl_IsMask.math x0
  have hB := Ext.refl w
  refine impl_IsMask.start ?_
  unfold impl_IsMask.vc
  unfold wp.impl_IsMask at H
  obtain ⟨r21, hr22⟩ : ∃ r_, r_ = M.impl_within x0 0 255 := ⟨_, rfl⟩
  have H := H r21 hr22
  refine (impl_within.con hr22 ).mono ?_
  rintro _ w24 ⟨rfl, e25⟩
  have hB := ethen hB e25
  refine ⟨r21, rfl, ?_⟩
  obtain rfl := hr.trans H.symm
  exact ⟨rfl, hB⟩
def slices_IndexFunc_int_int.vc (A0 : Option Addr) (n0 : Nat) (c0 : Nat) (f1 : Nat) (cap1 : Array Value) (w : World) (K : Value → World → Prop) : Prop :=
  LoopT (σ := Int × Unit) (fun z21 w22 next23 => bcase (decide (z21.1 < ((n0 : Nat) : Int))) (((0 : Int) ≤ z21.1 ∧ z21.1 < ((n0 : Nat) : Int) ∧ ∃ a24 : Addr, A0 = some a24 ∧ ∃ (n25 : Int), w22.cell? ((a24.add ((z21.1.toNat) * 1)).add 0) = some (.int .i64 n25) ∧ Cll Try.prog f1 (#[(.int .i64 n25)] ++ cap1) w22 fun v26 w27 => (∃ (b28 : Bool), v26 = (.bool b28) ∧ bcase b28 (K (.int .i64 z21.1) w27) (next23 ((IntKind.wrap .i64 (z21.1 + 1)), ()) w27)))) (K (.int .i64 (-1)) w22)) (0, ()) w

def slices_IndexFunc_int_int.ann : Ann := (.seq .l (.seq (.seq .l (.one (.loop [(8, .int .i64)] (.seq .l (.seq (.two .l .l) (.seq (.one (.seq .l (.seq .l (.two (.seq .l .l) .l)))) .l)))))) (.seq .l .l)))

theorem slices_IndexFunc_int_int.start {A0 : Option Addr} {n0 : Nat} {c0 : Nat} {f1 : Nat} {cap1 : Array Value} {w : World} {K : Value → World → Prop} (h : slices_IndexFunc_int_int.vc A0 n0 c0 f1 cap1 w K) : Cll Try.prog 93 #[(.slice A0 n0 c0), (.func (.func f1) #[] cap1)] w K :=
  vcF_sound mixed (fn := Try.f93) (by kernel_rfl) (by kernel_rfl) (an := slices_IndexFunc_int_int.ann) (args := [(.slice A0 n0 c0), (.func (.func f1) #[] cap1)]) (Eq.mpr (by kernel_rfl) h)

theorem slices_IndexFunc_int_int.con {xs0 : List Int} {A0 : Option Addr} {c0 : Nat} {f1 : Nat} {cap1 : Array Value} {g1 : Int → Bool} {D1 : Int → Prop} {r : Int} {w : World} (hp : M.slices_IndexFunc_int_int_pre xs0 g1 D1) (hr : r = M.slices_IndexFunc_int_int xs0 g1) (R0 : Row el3 w A0 xs0) (hc0 : xs0.length ≤ c0) (F1 : ∀ (z0_ : Int), D1 z0_ → ∀ w_ : World, Ext w w_ → Cll Try.prog f1 (#[(.int .i64 z0_)] ++ cap1) w_ (fun v_ w1_ => v_ = (.bool (g1 z0_)) ∧ Ext w_ w1_)) :
    Cll Try.prog 93 #[(.slice A0 xs0.length c0), (.func (.func f1) #[] cap1)] w (fun v_ w_ => v_ = (.int .i64 r) ∧ Ext w w_) := by
  have H := wp.slices_IndexFunc_int_int.math xs0 g1 D1 hp
  have hB := Ext.refl w
  refine slices_IndexFunc_int_int.start ?_
  unfold slices_IndexFunc_int_int.vc
  unfold wp.slices_IndexFunc_int_int at H
  obtain ⟨J23, ⟨m44, hJ43⟩, hS24⟩ := H
  refine ⟨fun m_ z_ w_ => ∃ (i21 : Int), z_ = (i21, ()) ∧ J23 m_ (i21, ()) ∧ Ext w w_, ⟨m44, 0, rfl, hJ43, hB⟩, ?_⟩
  rintro m22 _ w26 ⟨i21, rfl, hJ45, hB⟩
  have H := hS24 m22 _ hJ45
  clear hS24 hJ45
  try dsimp only at H ⊢
  refine bcase_mk (fun hc41 => ?_) (fun hc41 => ?_)
  · have H := (bcase_iff.1 H).1 hc41
    obtain ⟨⟨h0_30, h1_31⟩, H⟩ := H
    obtain ⟨a28, ha29, hat27⟩ := Row.at (R0.ext hB) h0_30 h1_31
    refine ⟨h0_30, h1_31, a28, ha29, ?_⟩
    refine ⟨_, (hat27 0 _ rfl), ?_⟩
    obtain ⟨hd34, H⟩ := H
    obtain ⟨r32, hr33⟩ : ∃ r_, r_ = g1 (rd xs0 i21) := ⟨_, rfl⟩
    have H := H r32 hr33
    refine (F1 (rd xs0 i21) hd34 _ hB).mono ?_
    rintro _ w35 ⟨rfl, e36⟩
    rw [← hr33]
    have hB := ethen hB e36
    refine ⟨r32, rfl, ?_⟩
    refine bcase_mk (fun hc40 => ?_) (fun hc40 => ?_)
    · have H := (bcase_iff.1 H).1 hc40
      obtain rfl := hr.trans H.symm
      exact ⟨rfl, hB⟩
    have H := (bcase_iff.1 H).2 hc40
    obtain ⟨m37, hm38, hJ39⟩ := H
    exact ⟨m37, hm38, (IntKind.wrap .i64 (i21 + 1)), rfl, hJ39, hB⟩
  have H := (bcase_iff.1 H).2 hc41
  obtain rfl := hr.trans H.symm
  exact ⟨rfl, hB⟩
def slices_ContainsFunc_int_int.vc (A0 : Option Addr) (n0 : Nat) (c0 : Nat) (f1 : Nat) (cap1 : Array Value) (w : World) (K : Value → World → Prop) : Prop :=
  Cll Try.prog 93 #[(.slice A0 n0 c0), (.func (.func f1) #[] cap1)] w fun v21 w22 => (∃ (n23 : Int), v21 = (.int .i64 n23) ∧ K (.bool (decide (n23 ≥ 0))) w22)

def slices_ContainsFunc_int_int.ann : Ann := (.seq .l (.seq .l .l))

theorem slices_ContainsFunc_int_int.start {A0 : Option Addr} {n0 : Nat} {c0 : Nat} {f1 : Nat} {cap1 : Array Value} {w : World} {K : Value → World → Prop} (h : slices_ContainsFunc_int_int.vc A0 n0 c0 f1 cap1 w K) : Cll Try.prog 79 #[(.slice A0 n0 c0), (.func (.func f1) #[] cap1)] w K :=
  vcF_sound mixed (fn := Try.f79) (by kernel_rfl) (by kernel_rfl) (an := slices_ContainsFunc_int_int.ann) (args := [(.slice A0 n0 c0), (.func (.func f1) #[] cap1)]) (Eq.mpr (by kernel_rfl) h)

theorem slices_ContainsFunc_int_int.con {xs0 : List Int} {A0 : Option Addr} {c0 : Nat} {f1 : Nat} {cap1 : Array Value} {g1 : Int → Bool} {D1 : Int → Prop} {r : Bool} {w : World} (hp : M.slices_ContainsFunc_int_int_pre xs0 g1 D1) (hr : r = M.slices_ContainsFunc_int_int xs0 g1) (R0 : Row el3 w A0 xs0) (hc0 : xs0.length ≤ c0) (F1 : ∀ (z0_ : Int), D1 z0_ → ∀ w_ : World, Ext w w_ → Cll Try.prog f1 (#[(.int .i64 z0_)] ++ cap1) w_ (fun v_ w1_ => v_ = (.bool (g1 z0_)) ∧ Ext w_ w1_)) :
    Cll Try.prog 79 #[(.slice A0 xs0.length c0), (.func (.func f1) #[] cap1)] w (fun v_ w_ => v_ = (.bool r) ∧ Ext w w_) := by
  have H := wp.slices_ContainsFunc_int_int.math xs0 g1 D1 hp
  have hB := Ext.refl w
  refine slices_ContainsFunc_int_int.start ?_
  unfold slices_ContainsFunc_int_int.vc
  unfold wp.slices_ContainsFunc_int_int at H
  obtain ⟨hp23, H⟩ := H
  obtain ⟨r21, hr22⟩ : ∃ r_, r_ = M.slices_IndexFunc_int_int xs0 g1 := ⟨_, rfl⟩
  have H := H r21 hr22
  refine (slices_IndexFunc_int_int.con hp23 hr22 (R0.ext hB) hc0 (fun z0_  h_ w_ e_ => F1 z0_  h_ w_ (ethen hB e_))).mono ?_
  rintro _ w24 ⟨rfl, e25⟩
  have hB := ethen hB e25
  refine ⟨r21, rfl, ?_⟩
  obtain rfl := hr.trans H.symm
  exact ⟨rfl, hB⟩
def impl_AreWords_1.vc (x0 : Int) (w : World) (K : Value → World → Prop) : Prop :=
  Cll Try.prog 81 #[(.int .i64 x0)] w fun v21 w22 => (∃ (b23 : Bool), v21 = (.bool b23) ∧ K (.bool (!b23)) w22)

def impl_AreWords_1.ann : Ann := (.seq .l (.seq .l .l))

theorem impl_AreWords_1.start {x0 : Int} {w : World} {K : Value → World → Prop} (h : impl_AreWords_1.vc x0 w K) : Cll Try.prog 80 #[(.int .i64 x0)] w K :=
  vcF_sound mixed (fn := Try.f80) (by kernel_rfl) (by kernel_rfl) (an := impl_AreWords_1.ann) (args := [(.int .i64 x0)]) (Eq.mpr (by kernel_rfl) h)

theorem impl_AreWords_1.con {x0 : Int} {r : Bool} {w : World} (hr : r = M.impl_AreWords_1 x0)  :
    Cll Try.prog 80 #[(.int .i64 x0)] w (fun v_ w_ => v_ = (.bool r) ∧ Ext w w_) := by
  have H := wp.impl_AreWords_1.math x0
  have hB := Ext.refl w
  refine impl_AreWords_1.start ?_
  unfold impl_AreWords_1.vc
  unfold wp.impl_AreWords_1 at H
  obtain ⟨r21, hr22⟩ : ∃ r_, r_ = M.impl_IsWord x0 := ⟨_, rfl⟩
  have H := H r21 hr22
  refine (impl_IsWord.con hr22 ).mono ?_
  rintro _ w24 ⟨rfl, e25⟩
  have hB := ethen hB e25
  refine ⟨r21, rfl, ?_⟩
  obtain rfl := hr.trans H.symm
  exact ⟨rfl, hB⟩
def impl_AreWords.vc (A0 : Option Addr) (n0 : Nat) (c0 : Nat) (w : World) (K : Value → World → Prop) : Prop :=
  Cll Try.prog 79 #[(.slice A0 n0 c0), (.func (.func 80) #[] #[])] w fun v21 w22 => (∃ (b23 : Bool), v21 = (.bool b23) ∧ K (.bool (!b23)) w22)

def impl_AreWords.ann : Ann := (.seq .l (.seq .l .l))

theorem impl_AreWords.start {A0 : Option Addr} {n0 : Nat} {c0 : Nat} {w : World} {K : Value → World → Prop} (h : impl_AreWords.vc A0 n0 c0 w K) : Cll Try.prog 66 #[(.slice A0 n0 c0)] w K :=
  vcF_sound mixed (fn := Try.f66) (by kernel_rfl) (by kernel_rfl) (an := impl_AreWords.ann) (args := [(.slice A0 n0 c0)]) (Eq.mpr (by kernel_rfl) h)

theorem impl_AreWords.con {xs0 : List Int} {A0 : Option Addr} {c0 : Nat} {r : Bool} {w : World} (hp : M.impl_AreWords_pre xs0) (hr : r = M.impl_AreWords xs0) (R0 : Row el3 w A0 xs0) (hc0 : xs0.length ≤ c0) :
    Cll Try.prog 66 #[(.slice A0 xs0.length c0)] w (fun v_ w_ => v_ = (.bool r) ∧ Ext w w_) := by
  have H := wp.impl_AreWords.math xs0 hp
  have hB := Ext.refl w
  refine impl_AreWords.start ?_
  unfold impl_AreWords.vc
  unfold wp.impl_AreWords at H
  obtain ⟨hp23, H⟩ := H
  obtain ⟨r21, hr22⟩ : ∃ r_, r_ = M.slices_ContainsFunc_int_int xs0 (fun z0_ => M.impl_AreWords_1 z0_) := ⟨_, rfl⟩
  have H := H r21 hr22
  refine (slices_ContainsFunc_int_int.con hp23 hr22 (R0.ext hB) hc0 (fun z0_ h_ w_ e_ => cllApp (l1 := [_]) (l2 := []) (impl_AreWords_1.con rfl))).mono ?_
  rintro _ w24 ⟨rfl, e25⟩
  have hB := ethen hB e25
  refine ⟨r21, rfl, ?_⟩
  obtain rfl := hr.trans H.symm
  exact ⟨rfl, hB⟩
def slices_Clone_int_int.vc (A0 : Option Addr) (n0 : Nat) (c0 : Nat) (w : World) (K : Value → World → Prop) : Prop :=
  bcase (Option.isNone A0) (K (.slice none 0 0) w) (Run Try.prog (Instr.buildSlice 26 0 #[]) w fun v21 w22 => ∃ (A23 : Option Addr) (n24 c25 : Nat), v21 = .slice A23 n24 c25 ∧ Run Try.prog (Builtin.append_ #[26, 26] 26 #[(.slice A23 n24 c25), (.slice A0 n0 c0)]) w22 fun v26 w27 => ∃ (A28 : Option Addr) (n29 c30 : Nat), v26 = .slice A28 n29 c30 ∧ K (.slice A28 n29 c30) w27)

def slices_Clone_int_int.ann : Ann := (.seq .l (.seq (.seq .l (.two (.seq .l .l) .l)) (.seq .l .l)))

theorem slices_Clone_int_int.start {A0 : Option Addr} {n0 : Nat} {c0 : Nat} {w : World} {K : Value → World → Prop} (h : slices_Clone_int_int.vc A0 n0 c0 w K) : Cll Try.prog 45 #[(.slice A0 n0 c0)] w K :=
  vcF_sound mixed (fn := Try.f45) (by kernel_rfl) (by kernel_rfl) (an := slices_Clone_int_int.ann) (args := [(.slice A0 n0 c0)]) (Eq.mpr (by kernel_rfl) h)

theorem slices_Clone_int_int.con {xs0 : List Int} {A0 : Option Addr} {c0 : Nat} {r : List Int} {w : World} (hp : M.slices_Clone_int_int_pre xs0) (hr : r = M.slices_Clone_int_int xs0) (R0 : Row el3 w A0 xs0) (hc0 : xs0.length ≤ c0) :
    Cll Try.prog 45 #[(.slice A0 xs0.length c0)] w (fun v_ w_ => ∃ (A0_ : Option Addr) (c0_ : Nat), v_ = (.slice A0_ r.length c0_) ∧ Own el3 w_ w.heap.size A0_ c0_ r ∧ Ext w w_) := by
  have H := wp.slices_Clone_int_int.math xs0 hp
  have hB := Ext.refl w
  refine slices_Clone_int_int.start ?_
  unfold slices_Clone_int_int.vc
  unfold wp.slices_Clone_int_int at H
  obtain ⟨b21, hb22⟩ : ∃ b_, b_ = Option.isNone A0 := ⟨_, rfl⟩
  have H := H b21 (fun h_ => Row.isNone (R0.ext hB) (hb22.symm.trans h_))
  rw [← hb22]
  refine bcase_mk (fun hc31 => ?_) (fun hc31 => ?_)
  · have H := (bcase_iff.1 H).1 hc31
    obtain rfl := hr.trans H.symm
    exact ⟨none, 0, rfl, Own.nil, hB⟩
  have H := (bcase_iff.1 H).2 hc31
  refine buildOwn el3 ([] : List Int) (fun _ => by kernel_rfl) rfl (fun A23 w24 P2 e25 => ?_)
  have O2 := P2.mono hB.size
  have hB := ethen hB e25
  obtain ⟨hl30, H⟩ := H
  refine appOwn slt26 slt26.under O2 (R0.ext hB) hB.size (by first | rfl | omega | (simp; done) | (simp; omega)) rfl hl30 (fun A26 c27 w28 P2 e29 => ?_)
  have hB := eapp hB e29 O2
  have O2 := P2
  obtain rfl := hr.trans H.symm
  exact ⟨A26, c27, rfl, O2, hB⟩
def impl_formOf.vc (x0 : Int) (w : World) (K : Value → World → Prop) : Prop :=
  Cll Try.prog 33 #[(.int .i64 x0), (.int .i64 0), (.int .i64 16)] w fun v21 w22 => (∃ (b23 : Bool), v21 = (.bool b23) ∧ bcase (!b23) (K (.string (⟨#[]⟩)) w22) (Run Try.prog (Instr.buildSlice 108 17 #[(0, (.string (⟨#[45, 45, 45]⟩))), (1, (.string (⟨#[82, 87, 45]⟩))), (2, (.string (⟨#[82, 82, 45]⟩))), (3, (.string (⟨#[82, 82, 82]⟩))), (4, (.string (⟨#[82, 82, 82]⟩))), (5, (.string (⟨#[82, 82, 82]⟩))), (6, (.string (⟨#[82, 82, 82]⟩))), (7, (.string (⟨#[82, 82, 82]⟩))), (8, (.string (⟨#[82, 45, 45]⟩))), (9, (.string (⟨#[82, 82, 82]⟩))), (10, (.string (⟨#[82, 84, 45]⟩))), (11, (.string (⟨#[45, 84, 45]⟩))), (12, (.string (⟨#[45, 45, 45]⟩))), (13, (.string (⟨#[82, 82, 45]⟩))), (14, (.string (⟨#[82, 82, 45]⟩))), (15, (.string (⟨#[82, 82, 45]⟩))), (16, (.string (⟨#[45, 45, 45]⟩)))]) w22 fun v24 w25 => ∃ (A26 : Option Addr) (n27 c28 : Nat), v24 = .slice A26 n27 c28 ∧ ((0 : Int) ≤ x0 ∧ x0 < ((n27 : Nat) : Int) ∧ ∃ a29 : Addr, A26 = some a29 ∧ ∃ (s30 : ByteArray), w25.cell? ((a29.add ((x0.toNat) * 1)).add 0) = some (.string s30) ∧ K (.string s30) w25)))

def impl_formOf.ann : Ann := (.seq .l (.seq (.seq .l (.two (.seq .l .l) .l)) (.seq .l .l)))

theorem impl_formOf.start {x0 : Int} {w : World} {K : Value → World → Prop} (h : impl_formOf.vc x0 w K) : Cll Try.prog 75 #[(.int .i64 x0)] w K :=
  vcF_sound mixed (fn := Try.f75) (by kernel_rfl) (by kernel_rfl) (an := impl_formOf.ann) (args := [(.int .i64 x0)]) (Eq.mpr (by kernel_rfl) h)

theorem impl_formOf.con {x0 : Int} {r : ByteArray} {w : World} (hr : r = M.impl_formOf x0)  :
    Cll Try.prog 75 #[(.int .i64 x0)] w (fun v_ w_ => v_ = (.string r) ∧ Ext w w_) := by
  have H := wp.impl_formOf.math x0
  have hB := Ext.refl w
  refine impl_formOf.start ?_
  unfold impl_formOf.vc
  unfold wp.impl_formOf at H
  obtain ⟨r21, hr22⟩ : ∃ r_, r_ = M.impl_within x0 0 16 := ⟨_, rfl⟩
  have H := H r21 hr22
  refine (impl_within.con hr22 ).mono ?_
  rintro _ w24 ⟨rfl, e25⟩
  have hB := ethen hB e25
  refine ⟨r21, rfl, ?_⟩
  refine bcase_mk (fun hc34 => ?_) (fun hc34 => ?_)
  · have H := (bcase_iff.1 H).1 hc34
    obtain rfl := hr.trans H.symm
    exact ⟨rfl, hB⟩
  have H := (bcase_iff.1 H).2 hc34
  refine buildOwn el9 ([⟨#[45, 45, 45]⟩, ⟨#[82, 87, 45]⟩, ⟨#[82, 82, 45]⟩, ⟨#[82, 82, 82]⟩, ⟨#[82, 82, 82]⟩, ⟨#[82, 82, 82]⟩, ⟨#[82, 82, 82]⟩, ⟨#[82, 82, 82]⟩, ⟨#[82, 45, 45]⟩, ⟨#[82, 82, 82]⟩, ⟨#[82, 84, 45]⟩, ⟨#[45, 84, 45]⟩, ⟨#[45, 45, 45]⟩, ⟨#[82, 82, 45]⟩, ⟨#[82, 82, 45]⟩, ⟨#[82, 82, 45]⟩, ⟨#[45, 45, 45]⟩] : List ByteArray) (fun _ => by kernel_rfl) rfl (fun A26 w27 P1 e28 => ?_)
  have O1 := P1.mono hB.size
  have hB := ethen hB e28
  obtain ⟨⟨h0_32, h1_33⟩, H⟩ := H
  obtain ⟨a30, ha31, hat29⟩ := Row.at O1.row h0_32 h1_33
  refine ⟨h0_32, (by first | exact h1_33 | omega | (simp at h1_33 ⊢; omega)), a30, ha31, ?_⟩
  refine ⟨_, (hat29 0 _ rfl), ?_⟩
  obtain rfl := hr.trans H.symm
  exact ⟨rfl, hB⟩
def impl_isReg.vc (x0 : Int) (w : World) (K : Value → World → Prop) : Prop :=
  Cll Try.prog 33 #[(.int .i64 x0), (.int .i64 0), (.int .i64 3)] w fun v21 w22 => (∃ (b23 : Bool), v21 = (.bool b23) ∧ K (.bool b23) w22)

def impl_isReg.ann : Ann := (.seq .l (.seq .l .l))

theorem impl_isReg.start {x0 : Int} {w : World} {K : Value → World → Prop} (h : impl_isReg.vc x0 w K) : Cll Try.prog 89 #[(.int .i64 x0)] w K :=
  vcF_sound mixed (fn := Try.f89) (by kernel_rfl) (by kernel_rfl) (an := impl_isReg.ann) (args := [(.int .i64 x0)]) (Eq.mpr (by kernel_rfl) h)

theorem impl_isReg.con {x0 : Int} {r : Bool} {w : World} (hr : r = M.impl_isReg x0)  :
    Cll Try.prog 89 #[(.int .i64 x0)] w (fun v_ w_ => v_ = (.bool r) ∧ Ext w w_) := by
  have H := wp.impl_isReg.math x0
  have hB := Ext.refl w
  refine impl_isReg.start ?_
  unfold impl_isReg.vc
  unfold wp.impl_isReg at H
  obtain ⟨r21, hr22⟩ : ∃ r_, r_ = M.impl_within x0 0 3 := ⟨_, rfl⟩
  have H := H r21 hr22
  refine (impl_within.con hr22 ).mono ?_
  rintro _ w24 ⟨rfl, e25⟩
  have hB := ethen hB e25
  refine ⟨r21, rfl, ?_⟩
  obtain rfl := hr.trans H.symm
  exact ⟨rfl, hB⟩
def impl_isField.vc (x0 : Int) (x1 : Int) (x2 : Int) (w : World) (K : Value → World → Prop) : Prop :=
  bcase (x0 == 82) (Cll Try.prog 89 #[(.int .i64 x1)] w fun v21 w22 => (∃ (b23 : Bool), v21 = (.bool b23) ∧ K (.bool b23) w22)) (bcase (x0 == 87) (Cll Try.prog 81 #[(.int .i64 x1)] w fun v24 w25 => (∃ (b26 : Bool), v24 = (.bool b26) ∧ K (.bool b26) w25)) (bcase (x0 == 84) (Cll Try.prog 33 #[(.int .i64 x1), (.int .i64 0), (.int .i64 x2)] w fun v27 w28 => (∃ (b29 : Bool), v27 = (.bool b29) ∧ K (.bool b29) w28)) (K (.bool (x1 == 0)) w)))

def impl_isField.ann : Ann := (.seq .l (.seq (.seq .l (.one (.seq .l (.two (.seq .l .l) (.seq .l (.two (.seq .l .l) (.seq .l (.two (.seq .l .l) .l)))))))) (.seq .l .l)))

theorem impl_isField.start {x0 : Int} {x1 : Int} {x2 : Int} {w : World} {K : Value → World → Prop} (h : impl_isField.vc x0 x1 x2 w K) : Cll Try.prog 76 #[(.int .u8 x0), (.int .i64 x1), (.int .i64 x2)] w K :=
  vcF_sound mixed (fn := Try.f76) (by kernel_rfl) (by kernel_rfl) (an := impl_isField.ann) (args := [(.int .u8 x0), (.int .i64 x1), (.int .i64 x2)]) (Eq.mpr (by kernel_rfl) h)

theorem impl_isField.con {x0 : Int} {x1 : Int} {x2 : Int} {r : Bool} {w : World} (hp : M.impl_isField_pre x0 x1 x2) (hr : r = M.impl_isField x0 x1 x2)  :
    Cll Try.prog 76 #[(.int .u8 x0), (.int .i64 x1), (.int .i64 x2)] w (fun v_ w_ => v_ = (.bool r) ∧ Ext w w_) := by
  have H := wp.impl_isField.math x0 x1 x2 hp
  have hB := Ext.refl w
  refine impl_isField.start ?_
  unfold impl_isField.vc
  unfold wp.impl_isField at H
  refine bcase_mk (fun hc38 => ?_) (fun hc38 => ?_)
  · have H := (bcase_iff.1 H).1 hc38
    obtain ⟨r21, hr22⟩ : ∃ r_, r_ = M.impl_isReg x1 := ⟨_, rfl⟩
    have H := H r21 hr22
    refine (impl_isReg.con hr22 ).mono ?_
    rintro _ w24 ⟨rfl, e25⟩
    have hB := ethen hB e25
    refine ⟨r21, rfl, ?_⟩
    obtain rfl := hr.trans H.symm
    exact ⟨rfl, hB⟩
  have H := (bcase_iff.1 H).2 hc38
  refine bcase_mk (fun hc37 => ?_) (fun hc37 => ?_)
  · have H := (bcase_iff.1 H).1 hc37
    obtain ⟨r26, hr27⟩ : ∃ r_, r_ = M.impl_IsWord x1 := ⟨_, rfl⟩
    have H := H r26 hr27
    refine (impl_IsWord.con hr27 ).mono ?_
    rintro _ w29 ⟨rfl, e30⟩
    have hB := ethen hB e30
    refine ⟨r26, rfl, ?_⟩
    obtain rfl := hr.trans H.symm
    exact ⟨rfl, hB⟩
  have H := (bcase_iff.1 H).2 hc37
  refine bcase_mk (fun hc36 => ?_) (fun hc36 => ?_)
  · have H := (bcase_iff.1 H).1 hc36
    obtain ⟨r31, hr32⟩ : ∃ r_, r_ = M.impl_within x1 0 x2 := ⟨_, rfl⟩
    have H := H r31 hr32
    refine (impl_within.con hr32 ).mono ?_
    rintro _ w34 ⟨rfl, e35⟩
    have hB := ethen hB e35
    refine ⟨r31, rfl, ?_⟩
    obtain rfl := hr.trans H.symm
    exact ⟨rfl, hB⟩
  have H := (bcase_iff.1 H).2 hc36
  obtain rfl := hr.trans H.symm
  exact ⟨rfl, hB⟩
def impl_InsOk.vc (x0_0 : Int) (x0_1 : Int) (x0_2 : Int) (x0_3 : Int) (x1 : Int) (w : World) (K : Value → World → Prop) : Prop :=
  newK w (.cells #[(.int .i64 x0_0), (.int .i64 x0_1), (.int .i64 x0_2), (.int .i64 x0_3)] 60) fun g21 w22 => ∃ (n23 : Int), w22.cell? (((⟨g21, 0, none⟩ : Addr).add 0).add 0) = some (.int .i64 n23) ∧ Cll Try.prog 75 #[(.int .i64 n23)] w22 fun v24 w25 => (∃ (s26 : ByteArray), v24 = (.string s26) ∧ bcase (!(ByteArray.toList s26 == ByteArray.toList (⟨#[]⟩))) (((Cll Try.prog 33 #[(.int .i64 x1), (.int .i64 0), (.int .i64 32)] w25.drew fun v27 w28 => (∃ (b29 : Bool), v27 = (.bool b29) ∧ bcase b29 (((0 : Int) ≤ 0 ∧ ∃ y30 : UInt8, (s26 : ByteArray)[((0 : Int).toNat)]? = some y30 ∧ ((∃ (n31 : Int), w28.cell? (((⟨g21, 0, none⟩ : Addr).add 1).add 0) = some (.int .i64 n31) ∧ ((Cll Try.prog 76 #[(.int .u8 ((y30.toNat : Nat) : Int)), (.int .i64 n31), (.int .i64 x1)] w28 fun v32 w33 => (∃ (b34 : Bool), v32 = (.bool b34) ∧ bcase b34 (((0 : Int) ≤ 1 ∧ ∃ y35 : UInt8, (s26 : ByteArray)[((1 : Int).toNat)]? = some y35 ∧ ((∃ (n36 : Int), w33.cell? (((⟨g21, 0, none⟩ : Addr).add 2).add 0) = some (.int .i64 n36) ∧ ((Cll Try.prog 76 #[(.int .u8 ((y35.toNat : Nat) : Int)), (.int .i64 n36), (.int .i64 x1)] w33 fun v37 w38 => (∃ (b39 : Bool), v37 = (.bool b39) ∧ bcase b39 (((0 : Int) ≤ 2 ∧ ∃ y40 : UInt8, (s26 : ByteArray)[((2 : Int).toNat)]? = some y40 ∧ ((∃ (n41 : Int), w38.cell? (((⟨g21, 0, none⟩ : Addr).add 3).add 0) = some (.int .i64 n41) ∧ ((Cll Try.prog 76 #[(.int .u8 ((y40.toNat : Nat) : Int)), (.int .i64 n41), (.int .i64 x1)] w38 fun v42 w43 => (∃ (b44 : Bool), v42 = (.bool b44) ∧ K (.bool b44) w43)) ∧ True)) ∧ True))) (((((K (.bool false) w38) ∧ True)) ∧ True)))) ∧ True)) ∧ True))) (((((((((K (.bool false) w33) ∧ True)) ∧ True)) ∧ True)) ∧ True)))) ∧ True)) ∧ True))) (((((((((((((K (.bool false) w28) ∧ True)) ∧ True)) ∧ True)) ∧ True)) ∧ True)) ∧ True)))) ∧ True)) (((((((((((((((K (.bool false) w25.drew) ∧ True)) ∧ True)) ∧ True)) ∧ True)) ∧ True)) ∧ True)) ∧ True)))

def impl_InsOk.ann : Ann := (.seq .l (.seq .l (.seq .each .l)))

theorem impl_InsOk.start {x0_0 : Int} {x0_1 : Int} {x0_2 : Int} {x0_3 : Int} {x1 : Int} {w : World} {K : Value → World → Prop} (h : impl_InsOk.vc x0_0 x0_1 x0_2 x0_3 x1 w K) : Cll Try.prog 57 #[(.agg #[(.int .i64 x0_0), (.int .i64 x0_1), (.int .i64 x0_2), (.int .i64 x0_3)]), (.int .i64 x1)] w K :=
  vcF_sound mixed (fn := Try.f57) (by kernel_rfl) (by kernel_rfl) (an := impl_InsOk.ann) (args := [(.agg #[(.int .i64 x0_0), (.int .i64 x0_1), (.int .i64 x0_2), (.int .i64 x0_3)]), (.int .i64 x1)]) (Eq.mpr (by kernel_rfl) h)

theorem impl_InsOk.con {s0 : D.Ins} {x1 : Int} {r : Bool} {w : World} (hr : r = M.impl_InsOk s0 x1)  :
    Cll Try.prog 57 #[(.agg #[(.int .i64 s0.Op), (.int .i64 s0.A), (.int .i64 s0.B), (.int .i64 s0.C)]), (.int .i64 x1)] w (fun v_ w_ => v_ = (.bool r) ∧ Ext w w_) := by
  have H := wp.impl_InsOk.math s0 x1
  have hB := Ext.refl w
  refine impl_InsOk.start ?_
  unfold impl_InsOk.vc
  unfold wp.impl_InsOk at H
  refine newBlk (fun g1_ w21 L1 P1 e22 => ?_)
  have O1 := P1
  have L1 := Nat.le_trans hB.size L1
  have hB := ethen hB e22
  refine ⟨_, (O1.at 0 rfl rfl), ?_⟩
  obtain ⟨r23, hr24⟩ : ∃ r_, r_ = M.impl_formOf s0.Op := ⟨_, rfl⟩
  have H := H r23 hr24
  refine (impl_formOf.con hr24 ).mono ?_
  rintro _ w26 ⟨rfl, e27⟩
  have O1 := O1.ext e27
  have hB := ethen hB e27
  refine ⟨r23, rfl, ?_⟩
  have O1 := O1.ext (Ext.drew _)
  have hB := ethen hB (Ext.drew _)
  refine bcase_mk (fun hc66 => ?_) (fun hc66 => ?_)
  · have H := (bcase_iff.1 H).1 hc66
    refine and_t ?_
    obtain ⟨r28, hr29⟩ : ∃ r_, r_ = M.impl_within x1 0 32 := ⟨_, rfl⟩
    have H := H r28 hr29
    refine (impl_within.con hr29 ).mono ?_
    rintro _ w31 ⟨rfl, e32⟩
    have O1 := O1.ext e32
    have hB := ethen hB e32
    refine ⟨r28, rfl, ?_⟩
    refine bcase_mk (fun hc65 => ?_) (fun hc65 => ?_)
    · have H := (bcase_iff.1 H).1 hc65
      obtain ⟨⟨h0_36, h1_37⟩, H⟩ := H
      obtain ⟨y33, hy34, hyb35⟩ := strAt h0_36 h1_37
      refine ⟨h0_36, y33, hy34, ?_⟩
      rw [hyb35]
      refine and_t ?_
      refine ⟨_, (O1.at 1 rfl rfl), ?_⟩
      refine and_t ?_
      obtain ⟨hp40, H⟩ := H
      obtain ⟨r38, hr39⟩ : ∃ r_, r_ = M.impl_isField (bt r23 0) s0.A x1 := ⟨_, rfl⟩
      have H := H r38 hr39
      refine (impl_isField.con hp40 hr39 ).mono ?_
      rintro _ w41 ⟨rfl, e42⟩
      have O1 := O1.ext e42
      have hB := ethen hB e42
      refine ⟨r38, rfl, ?_⟩
      refine bcase_mk (fun hc64 => ?_) (fun hc64 => ?_)
      · have H := (bcase_iff.1 H).1 hc64
        obtain ⟨⟨h0_46, h1_47⟩, H⟩ := H
        obtain ⟨y43, hy44, hyb45⟩ := strAt h0_46 h1_47
        refine ⟨h0_46, y43, hy44, ?_⟩
        rw [hyb45]
        refine and_t ?_
        refine ⟨_, (O1.at 2 rfl rfl), ?_⟩
        refine and_t ?_
        obtain ⟨hp50, H⟩ := H
        obtain ⟨r48, hr49⟩ : ∃ r_, r_ = M.impl_isField (bt r23 1) s0.B x1 := ⟨_, rfl⟩
        have H := H r48 hr49
        refine (impl_isField.con hp50 hr49 ).mono ?_
        rintro _ w51 ⟨rfl, e52⟩
        have O1 := O1.ext e52
        have hB := ethen hB e52
        refine ⟨r48, rfl, ?_⟩
        refine bcase_mk (fun hc63 => ?_) (fun hc63 => ?_)
        · have H := (bcase_iff.1 H).1 hc63
          obtain ⟨⟨h0_56, h1_57⟩, H⟩ := H
          obtain ⟨y53, hy54, hyb55⟩ := strAt h0_56 h1_57
          refine ⟨h0_56, y53, hy54, ?_⟩
          rw [hyb55]
          refine and_t ?_
          refine ⟨_, (O1.at 3 rfl rfl), ?_⟩
          refine and_t ?_
          obtain ⟨hp60, H⟩ := H
          obtain ⟨r58, hr59⟩ : ∃ r_, r_ = M.impl_isField (bt r23 2) s0.C x1 := ⟨_, rfl⟩
          have H := H r58 hr59
          refine (impl_isField.con hp60 hr59 ).mono ?_
          rintro _ w61 ⟨rfl, e62⟩
          have O1 := O1.ext e62
          have hB := ethen hB e62
          refine ⟨r58, rfl, ?_⟩
          obtain rfl := hr.trans H.symm
          exact ⟨rfl, hB⟩
        have H := (bcase_iff.1 H).2 hc63
        refine and_t ?_
        refine and_t ?_
        obtain rfl := hr.trans H.symm
        exact ⟨rfl, hB⟩
      have H := (bcase_iff.1 H).2 hc64
      refine and_t ?_
      refine and_t ?_
      refine and_t ?_
      refine and_t ?_
      obtain rfl := hr.trans H.symm
      exact ⟨rfl, hB⟩
    have H := (bcase_iff.1 H).2 hc65
    refine and_t ?_
    refine and_t ?_
    refine and_t ?_
    refine and_t ?_
    refine and_t ?_
    refine and_t ?_
    obtain rfl := hr.trans H.symm
    exact ⟨rfl, hB⟩
  have H := (bcase_iff.1 H).2 hc66
  refine and_t ?_
  refine and_t ?_
  refine and_t ?_
  refine and_t ?_
  refine and_t ?_
  refine and_t ?_
  refine and_t ?_
  obtain rfl := hr.trans H.symm
  exact ⟨rfl, hB⟩
def impl_ProgramOk_1.vc (x0_0 : Int) (x0_1 : Int) (x0_2 : Int) (x0_3 : Int) (p1 : Addr) (w : World) (K : Value → World → Prop) : Prop :=
  newK w (.cells #[(.int .i64 x0_0), (.int .i64 x0_1), (.int .i64 x0_2), (.int .i64 x0_3)] 60) fun g21 w22 => ∃ (n23 : Int), w22.cell? ((⟨g21, 0, none⟩ : Addr).add 0) = some (.int .i64 n23) ∧ ∃ (n24 : Int), w22.cell? ((⟨g21, 0, none⟩ : Addr).add 1) = some (.int .i64 n24) ∧ ∃ (n25 : Int), w22.cell? ((⟨g21, 0, none⟩ : Addr).add 2) = some (.int .i64 n25) ∧ ∃ (n26 : Int), w22.cell? ((⟨g21, 0, none⟩ : Addr).add 3) = some (.int .i64 n26) ∧ ∃ (A27 : Option Addr) (n28 : Nat) (c29 : Nat), w22.cell? (p1.add 0) = some (.slice A27 n28 c29) ∧ Cll Try.prog 57 #[(.agg #[(.int .i64 n23), (.int .i64 n24), (.int .i64 n25), (.int .i64 n26)]), (.int .i64 ((n28 : Nat) : Int))] w22 fun v30 w31 => (∃ (b32 : Bool), v30 = (.bool b32) ∧ K (.bool (!b32)) w31)

def impl_ProgramOk_1.ann : Ann := (.seq .l (.seq .l .l))

theorem impl_ProgramOk_1.start {x0_0 : Int} {x0_1 : Int} {x0_2 : Int} {x0_3 : Int} {p1 : Addr} {w : World} {K : Value → World → Prop} (h : impl_ProgramOk_1.vc x0_0 x0_1 x0_2 x0_3 p1 w K) : Cll Try.prog 56 #[(.agg #[(.int .i64 x0_0), (.int .i64 x0_1), (.int .i64 x0_2), (.int .i64 x0_3)]), (.pointer (some p1))] w K :=
  vcF_sound mixed (fn := Try.f56) (by kernel_rfl) (by kernel_rfl) (an := impl_ProgramOk_1.ann) (args := [(.agg #[(.int .i64 x0_0), (.int .i64 x0_1), (.int .i64 x0_2), (.int .i64 x0_3)]), (.pointer (some p1))]) (Eq.mpr (by kernel_rfl) h)

theorem impl_ProgramOk_1.con {s0 : D.Ins} {xs1 : List D.Ins} {g1_ : Nat} {A1_0 : Option Addr} {c1_0 : Nat} {r : Bool} {w : World} (hr : r = M.impl_ProgramOk_1 s0 xs1) (O1 : Blk w g1_ 24 #[(.slice A1_0 xs1.length c1_0)]) (R1_0 : Row el60 w A1_0 xs1) (hc1_0 : xs1.length ≤ c1_0) :
    Cll Try.prog 56 #[(.agg #[(.int .i64 s0.Op), (.int .i64 s0.A), (.int .i64 s0.B), (.int .i64 s0.C)]), (.pointer (some (⟨g1_, 0, none⟩ : Addr)))] w (fun v_ w_ => v_ = (.bool r) ∧ Ext w w_) := by
  have H := wp.impl_ProgramOk_1.math s0 xs1
  have hB := Ext.refl w
  refine impl_ProgramOk_1.start ?_
  unfold impl_ProgramOk_1.vc
  unfold wp.impl_ProgramOk_1 at H
  refine newBlk (fun g3_ w21 L3 P3 e22 => ?_)
  have N1_3 := O1.ne L3
  have O1 := O1.ext e22
  have O3 := P3
  have L3 := Nat.le_trans hB.size L3
  have hB := ethen hB e22
  refine ⟨_, (O3.at 0 rfl rfl), ?_⟩
  refine ⟨_, (O3.at 1 rfl rfl), ?_⟩
  refine ⟨_, (O3.at 2 rfl rfl), ?_⟩
  refine ⟨_, (O3.at 3 rfl rfl), ?_⟩
  refine ⟨_, _, _, (O1.at 0 rfl rfl), ?_⟩
  obtain ⟨r23, hr24⟩ : ∃ r_, r_ = M.impl_InsOk s0 ((xs1.length : Nat) : Int) := ⟨_, rfl⟩
  have H := H r23 hr24
  refine (impl_InsOk.con hr24 ).mono ?_
  rintro _ w26 ⟨rfl, e27⟩
  have O1 := O1.ext e27
  have O3 := O3.ext e27
  have hB := ethen hB e27
  refine ⟨r23, rfl, ?_⟩
  obtain rfl := hr.trans H.symm
  exact ⟨rfl, hB⟩
def slices_IndexFunc_impl_Ins_impl_Ins.vc (A0 : Option Addr) (n0 : Nat) (c0 : Nat) (f1 : Nat) (cap1 : Array Value) (w : World) (K : Value → World → Prop) : Prop :=
  LoopT (σ := Int × Unit) (fun z21 w22 next23 => bcase (decide (z21.1 < ((n0 : Nat) : Int))) (((0 : Int) ≤ z21.1 ∧ z21.1 < ((n0 : Nat) : Int) ∧ ∃ a24 : Addr, A0 = some a24 ∧ ∃ (n25 : Int), w22.cell? ((a24.add ((z21.1.toNat) * 4)).add 0) = some (.int .i64 n25) ∧ ∃ (n26 : Int), w22.cell? ((a24.add ((z21.1.toNat) * 4)).add 1) = some (.int .i64 n26) ∧ ∃ (n27 : Int), w22.cell? ((a24.add ((z21.1.toNat) * 4)).add 2) = some (.int .i64 n27) ∧ ∃ (n28 : Int), w22.cell? ((a24.add ((z21.1.toNat) * 4)).add 3) = some (.int .i64 n28) ∧ Cll Try.prog f1 (#[(.agg #[(.int .i64 n25), (.int .i64 n26), (.int .i64 n27), (.int .i64 n28)])] ++ cap1) w22 fun v29 w30 => (∃ (b31 : Bool), v29 = (.bool b31) ∧ bcase b31 (K (.int .i64 z21.1) w30) (next23 ((IntKind.wrap .i64 (z21.1 + 1)), ()) w30)))) (K (.int .i64 (-1)) w22)) (0, ()) w

def slices_IndexFunc_impl_Ins_impl_Ins.ann : Ann := (.seq .l (.seq (.seq .l (.one (.loop [(8, .int .i64)] (.seq .l (.seq (.two .l .l) (.seq (.one (.seq .l (.seq .l (.two (.seq .l .l) .l)))) .l)))))) (.seq .l .l)))

theorem slices_IndexFunc_impl_Ins_impl_Ins.start {A0 : Option Addr} {n0 : Nat} {c0 : Nat} {f1 : Nat} {cap1 : Array Value} {w : World} {K : Value → World → Prop} (h : slices_IndexFunc_impl_Ins_impl_Ins.vc A0 n0 c0 f1 cap1 w K) : Cll Try.prog 60 #[(.slice A0 n0 c0), (.func (.func f1) #[] cap1)] w K :=
  vcF_sound mixed (fn := Try.f60) (by kernel_rfl) (by kernel_rfl) (an := slices_IndexFunc_impl_Ins_impl_Ins.ann) (args := [(.slice A0 n0 c0), (.func (.func f1) #[] cap1)]) (Eq.mpr (by kernel_rfl) h)

theorem slices_IndexFunc_impl_Ins_impl_Ins.con {xs0 : List D.Ins} {A0 : Option Addr} {c0 : Nat} {f1 : Nat} {cap1 : Array Value} {g1 : D.Ins → Bool} {D1 : D.Ins → Prop} {r : Int} {w : World} (hp : M.slices_IndexFunc_impl_Ins_impl_Ins_pre xs0 g1 D1) (hr : r = M.slices_IndexFunc_impl_Ins_impl_Ins xs0 g1) (R0 : Row el60 w A0 xs0) (hc0 : xs0.length ≤ c0) (F1 : ∀ (z0_ : D.Ins), D1 z0_ → ∀ w_ : World, Ext w w_ → Cll Try.prog f1 (#[(.agg #[(.int .i64 z0_.Op), (.int .i64 z0_.A), (.int .i64 z0_.B), (.int .i64 z0_.C)])] ++ cap1) w_ (fun v_ w1_ => v_ = (.bool (g1 z0_)) ∧ Ext w_ w1_)) :
    Cll Try.prog 60 #[(.slice A0 xs0.length c0), (.func (.func f1) #[] cap1)] w (fun v_ w_ => v_ = (.int .i64 r) ∧ Ext w w_) := by
  have H := wp.slices_IndexFunc_impl_Ins_impl_Ins.math xs0 g1 D1 hp
  have hB := Ext.refl w
  refine slices_IndexFunc_impl_Ins_impl_Ins.start ?_
  unfold slices_IndexFunc_impl_Ins_impl_Ins.vc
  unfold wp.slices_IndexFunc_impl_Ins_impl_Ins at H
  obtain ⟨J23, ⟨m44, hJ43⟩, hS24⟩ := H
  refine ⟨fun m_ z_ w_ => ∃ (i21 : Int), z_ = (i21, ()) ∧ J23 m_ (i21, ()) ∧ Ext w w_, ⟨m44, 0, rfl, hJ43, hB⟩, ?_⟩
  rintro m22 _ w26 ⟨i21, rfl, hJ45, hB⟩
  have H := hS24 m22 _ hJ45
  clear hS24 hJ45
  try dsimp only at H ⊢
  refine bcase_mk (fun hc41 => ?_) (fun hc41 => ?_)
  · have H := (bcase_iff.1 H).1 hc41
    obtain ⟨⟨h0_30, h1_31⟩, H⟩ := H
    obtain ⟨a28, ha29, hat27⟩ := Row.at (R0.ext hB) h0_30 h1_31
    refine ⟨h0_30, h1_31, a28, ha29, ?_⟩
    refine ⟨_, (hat27 0 _ rfl), ?_⟩
    refine ⟨_, (hat27 1 _ rfl), ?_⟩
    refine ⟨_, (hat27 2 _ rfl), ?_⟩
    refine ⟨_, (hat27 3 _ rfl), ?_⟩
    obtain ⟨hd34, H⟩ := H
    obtain ⟨r32, hr33⟩ : ∃ r_, r_ = g1 (rd xs0 i21) := ⟨_, rfl⟩
    have H := H r32 hr33
    refine (F1 (rd xs0 i21) hd34 _ hB).mono ?_
    rintro _ w35 ⟨rfl, e36⟩
    rw [← hr33]
    have hB := ethen hB e36
    refine ⟨r32, rfl, ?_⟩
    refine bcase_mk (fun hc40 => ?_) (fun hc40 => ?_)
    · have H := (bcase_iff.1 H).1 hc40
      obtain rfl := hr.trans H.symm
      exact ⟨rfl, hB⟩
    have H := (bcase_iff.1 H).2 hc40
    obtain ⟨m37, hm38, hJ39⟩ := H
    exact ⟨m37, hm38, (IntKind.wrap .i64 (i21 + 1)), rfl, hJ39, hB⟩
  have H := (bcase_iff.1 H).2 hc41
  obtain rfl := hr.trans H.symm
  exact ⟨rfl, hB⟩
def slices_ContainsFunc_impl_Ins_impl_Ins.vc (A0 : Option Addr) (n0 : Nat) (c0 : Nat) (f1 : Nat) (cap1 : Array Value) (w : World) (K : Value → World → Prop) : Prop :=
  Cll Try.prog 60 #[(.slice A0 n0 c0), (.func (.func f1) #[] cap1)] w fun v21 w22 => (∃ (n23 : Int), v21 = (.int .i64 n23) ∧ K (.bool (decide (n23 ≥ 0))) w22)

def slices_ContainsFunc_impl_Ins_impl_Ins.ann : Ann := (.seq .l (.seq .l .l))

theorem slices_ContainsFunc_impl_Ins_impl_Ins.start {A0 : Option Addr} {n0 : Nat} {c0 : Nat} {f1 : Nat} {cap1 : Array Value} {w : World} {K : Value → World → Prop} (h : slices_ContainsFunc_impl_Ins_impl_Ins.vc A0 n0 c0 f1 cap1 w K) : Cll Try.prog 36 #[(.slice A0 n0 c0), (.func (.func f1) #[] cap1)] w K :=
  vcF_sound mixed (fn := Try.f36) (by kernel_rfl) (by kernel_rfl) (an := slices_ContainsFunc_impl_Ins_impl_Ins.ann) (args := [(.slice A0 n0 c0), (.func (.func f1) #[] cap1)]) (Eq.mpr (by kernel_rfl) h)

theorem slices_ContainsFunc_impl_Ins_impl_Ins.con {xs0 : List D.Ins} {A0 : Option Addr} {c0 : Nat} {f1 : Nat} {cap1 : Array Value} {g1 : D.Ins → Bool} {D1 : D.Ins → Prop} {r : Bool} {w : World} (hp : M.slices_ContainsFunc_impl_Ins_impl_Ins_pre xs0 g1 D1) (hr : r = M.slices_ContainsFunc_impl_Ins_impl_Ins xs0 g1) (R0 : Row el60 w A0 xs0) (hc0 : xs0.length ≤ c0) (F1 : ∀ (z0_ : D.Ins), D1 z0_ → ∀ w_ : World, Ext w w_ → Cll Try.prog f1 (#[(.agg #[(.int .i64 z0_.Op), (.int .i64 z0_.A), (.int .i64 z0_.B), (.int .i64 z0_.C)])] ++ cap1) w_ (fun v_ w1_ => v_ = (.bool (g1 z0_)) ∧ Ext w_ w1_)) :
    Cll Try.prog 36 #[(.slice A0 xs0.length c0), (.func (.func f1) #[] cap1)] w (fun v_ w_ => v_ = (.bool r) ∧ Ext w w_) := by
  have H := wp.slices_ContainsFunc_impl_Ins_impl_Ins.math xs0 g1 D1 hp
  have hB := Ext.refl w
  refine slices_ContainsFunc_impl_Ins_impl_Ins.start ?_
  unfold slices_ContainsFunc_impl_Ins_impl_Ins.vc
  unfold wp.slices_ContainsFunc_impl_Ins_impl_Ins at H
  obtain ⟨hp23, H⟩ := H
  obtain ⟨r21, hr22⟩ : ∃ r_, r_ = M.slices_IndexFunc_impl_Ins_impl_Ins xs0 g1 := ⟨_, rfl⟩
  have H := H r21 hr22
  refine (slices_IndexFunc_impl_Ins_impl_Ins.con hp23 hr22 (R0.ext hB) hc0 (fun z0_  h_ w_ e_ => F1 z0_  h_ w_ (ethen hB e_))).mono ?_
  rintro _ w24 ⟨rfl, e25⟩
  have hB := ethen hB e25
  refine ⟨r21, rfl, ?_⟩
  obtain rfl := hr.trans H.symm
  exact ⟨rfl, hB⟩
def impl_ProgramOk.vc (A0 : Option Addr) (n0 : Nat) (c0 : Nat) (w : World) (K : Value → World → Prop) : Prop :=
  newK w (.cells #[(.slice A0 n0 c0)] 24) fun g21 w22 => ∃ (A23 : Option Addr) (n24 : Nat) (c25 : Nat), w22.cell? ((⟨g21, 0, none⟩ : Addr).add 0) = some (.slice A23 n24 c25) ∧ bcase (decide (((n24 : Nat) : Int) ≤ 32)) (∃ (A26 : Option Addr) (n27 : Nat) (c28 : Nat), w22.cell? ((⟨g21, 0, none⟩ : Addr).add 0) = some (.slice A26 n27 c28) ∧ Cll Try.prog 36 #[(.slice A26 n27 c28), (.func (.func 56) #[] #[(.pointer (some (⟨g21, 0, none⟩ : Addr)))])] w22 fun v29 w30 => (∃ (b31 : Bool), v29 = (.bool b31) ∧ K (.bool (!b31)) w30)) (K (.bool false) w22)

def impl_ProgramOk.ann : Ann := (.seq .l (.seq .l .l))

theorem impl_ProgramOk.start {A0 : Option Addr} {n0 : Nat} {c0 : Nat} {w : World} {K : Value → World → Prop} (h : impl_ProgramOk.vc A0 n0 c0 w K) : Cll Try.prog 32 #[(.slice A0 n0 c0)] w K :=
  vcF_sound mixed (fn := Try.f32) (by kernel_rfl) (by kernel_rfl) (an := impl_ProgramOk.ann) (args := [(.slice A0 n0 c0)]) (Eq.mpr (by kernel_rfl) h)

theorem impl_ProgramOk.con {xs0 : List D.Ins} {A0 : Option Addr} {c0 : Nat} {r : Bool} {w : World} (hp : M.impl_ProgramOk_pre xs0) (hr : r = M.impl_ProgramOk xs0) (R0 : Row el60 w A0 xs0) (hc0 : xs0.length ≤ c0) :
    Cll Try.prog 32 #[(.slice A0 xs0.length c0)] w (fun v_ w_ => v_ = (.bool r) ∧ Ext w w_) := by
  have H := wp.impl_ProgramOk.math xs0 hp
  have hB := Ext.refl w
  refine impl_ProgramOk.start ?_
  unfold impl_ProgramOk.vc
  unfold wp.impl_ProgramOk at H
  refine newBlk (fun g2_ w21 L2 P2 e22 => ?_)
  have O2 := P2
  have L2 := Nat.le_trans hB.size L2
  have hB := ethen hB e22
  refine ⟨_, _, _, (O2.at 0 rfl rfl), ?_⟩
  refine bcase_mk (fun hc28 => ?_) (fun hc28 => ?_)
  · have H := (bcase_iff.1 H).1 hc28
    refine ⟨_, _, _, (O2.at 0 rfl rfl), ?_⟩
    obtain ⟨hp25, H⟩ := H
    obtain ⟨r23, hr24⟩ : ∃ r_, r_ = M.slices_ContainsFunc_impl_Ins_impl_Ins xs0 (fun z0_ => M.impl_ProgramOk_1 z0_ xs0) := ⟨_, rfl⟩
    have H := H r23 hr24
    refine (slices_ContainsFunc_impl_Ins_impl_Ins.con hp25 hr24 (R0.ext hB) hc0 (fun z0_ h_ w_ e_ => cllApp (l1 := [_]) (l2 := [_]) (impl_ProgramOk_1.con rfl (O2.ext e_) (R0.ext (ethen hB e_)) hc0))).mono ?_
    rintro _ w26 ⟨rfl, e27⟩
    have O2 := O2.ext e27
    have hB := ethen hB e27
    refine ⟨r23, rfl, ?_⟩
    obtain rfl := hr.trans H.symm
    exact ⟨rfl, hB⟩
  have H := (bcase_iff.1 H).2 hc28
  obtain rfl := hr.trans H.symm
  exact ⟨rfl, hB⟩
def impl_isWarpNumber.vc (x0 : Int) (w : World) (K : Value → World → Prop) : Prop :=
  Cll Try.prog 33 #[(.int .i64 x0), (.int .i64 0), (.int .i64 2)] w fun v21 w22 => (∃ (b23 : Bool), v21 = (.bool b23) ∧ K (.bool b23) w22)

def impl_isWarpNumber.ann : Ann := (.seq .l (.seq .l .l))

theorem impl_isWarpNumber.start {x0 : Int} {w : World} {K : Value → World → Prop} (h : impl_isWarpNumber.vc x0 w K) : Cll Try.prog 25 #[(.int .i64 x0)] w K :=
  vcF_sound mixed (fn := Try.f25) (by kernel_rfl) (by kernel_rfl) (an := impl_isWarpNumber.ann) (args := [(.int .i64 x0)]) (Eq.mpr (by kernel_rfl) h)

theorem impl_isWarpNumber.con {x0 : Int} {r : Bool} {w : World} (hr : r = M.impl_isWarpNumber x0)  :
    Cll Try.prog 25 #[(.int .i64 x0)] w (fun v_ w_ => v_ = (.bool r) ∧ Ext w w_) := by
  have H := wp.impl_isWarpNumber.math x0
  have hB := Ext.refl w
  refine impl_isWarpNumber.start ?_
  unfold impl_isWarpNumber.vc
  unfold wp.impl_isWarpNumber at H
  obtain ⟨r21, hr22⟩ : ∃ r_, r_ = M.impl_within x0 0 2 := ⟨_, rfl⟩
  have H := H r21 hr22
  refine (impl_within.con hr22 ).mono ?_
  rintro _ w24 ⟨rfl, e25⟩
  have hB := ethen hB e25
  refine ⟨r21, rfl, ?_⟩
  obtain rfl := hr.trans H.symm
  exact ⟨rfl, hB⟩
def spec_l01New.vc (A0 : Option Addr) (n0 : Nat) (c0 : Nat) (w : World) (K : Value → World → Prop) : Prop :=
  LoopT (σ := Int × Int × Unit) (fun z21 w22 next23 => bcase (decide (z21.2.1 < ((n0 : Nat) : Int))) (bcase (decide (z21.2.1 < 4000)) (((0 : Int) ≤ z21.2.1 ∧ z21.2.1 < ((n0 : Nat) : Int) ∧ ∃ a25 : Addr, A0 = some a25 ∧ ∃ (n26 : Int), w22.cell? ((a25.add ((z21.2.1.toNat) * 1)).add 0) = some (.int .u8 n26) ∧ next23 ((bitAnd .i64 (IntKind.wrap .i64 ((IntKind.wrap .i64 ((IntKind.wrap .i64 (z21.1 * 131)) + (IntKind.wrap .i64 n26))) + 7)) 1073741823), (IntKind.wrap .i64 (z21.2.1 + 1)), ()) w22)) (newK w22 (.cells #[(.slice A0 n0 c0), (.int .i64 0), (.int .i64 z21.1)] 77) fun g27 w28 => K (.pointer (some (⟨g27, 0, none⟩ : Addr))) w28)) (newK w22 (.cells #[(.slice A0 n0 c0), (.int .i64 0), (.int .i64 z21.1)] 77) fun g29 w30 => K (.pointer (some (⟨g29, 0, none⟩ : Addr))) w30)) ((IntKind.wrap .i64 (98561 + ((n0 : Nat) : Int))), 0, ()) w

def spec_l01New.ann : Ann := (.seq .l (.seq .l (.seq (.seq .l (.one (.loop [(3, .int .i64), (4, .int .i64)] (.seq (.seq .l (.two .l .l)) (.seq (.one .l) .l))))) (.seq .l .l))))

theorem spec_l01New.start {A0 : Option Addr} {n0 : Nat} {c0 : Nat} {w : World} {K : Value → World → Prop} (h : spec_l01New.vc A0 n0 c0 w K) : Cll Try.prog 23 #[(.slice A0 n0 c0)] w K :=
  vcF_sound mixed (fn := Try.f23) (by kernel_rfl) (by kernel_rfl) (an := spec_l01New.ann) (args := [(.slice A0 n0 c0)]) (Eq.mpr (by kernel_rfl) h)

theorem spec_l01New.con {xs0 : List Int} {A0 : Option Addr} {c0 : Nat} {r : D.Cur} {w : World} (hp : M.spec_l01New_pre xs0) (hr : r = M.spec_l01New xs0) (R0 : Row el5 w A0 xs0) (hc0 : xs0.length ≤ c0) :
    Cll Try.prog 23 #[(.slice A0 xs0.length c0)] w (fun v_ w_ => ∃ (g0_ : Nat), v_ = (.pointer (some (⟨g0_, 0, none⟩ : Addr))) ∧ Blk w_ g0_ 77 #[(.slice A0 r.b.length c0), (.int .i64 r.i), (.int .i64 r.h)] ∧ r.b = xs0 ∧ w.heap.size ≤ g0_ ∧ Ext w w_) := by
  have H := wp.spec_l01New.math xs0 hp
  have hB := Ext.refl w
  refine spec_l01New.start ?_
  unfold spec_l01New.vc
  unfold wp.spec_l01New at H
  obtain ⟨J24, ⟨m44, hJ43⟩, hS25⟩ := H
  refine ⟨fun m_ z_ w_ => ∃ (i21 : Int) (i22 : Int), z_ = (i21, i22, ()) ∧ J24 m_ (i21, i22, ()) ∧ Ext w w_, ⟨m44, (IntKind.wrap .i64 (98561 + ((xs0.length : Nat) : Int))), 0, rfl, hJ43, hB⟩, ?_⟩
  rintro m23 _ w27 ⟨i21, i22, rfl, hJ45, hB⟩
  have H := hS25 m23 _ hJ45
  clear hS25 hJ45
  try dsimp only at H ⊢
  refine bcase_mk (fun hc41 => ?_) (fun hc41 => ?_)
  · have H := (bcase_iff.1 H).1 hc41
    refine bcase_mk (fun hc38 => ?_) (fun hc38 => ?_)
    · have H := (bcase_iff.1 H).1 hc38
      obtain ⟨⟨h0_31, h1_32⟩, H⟩ := H
      obtain ⟨a29, ha30, hat28⟩ := Row.at (R0.ext hB) h0_31 h1_32
      refine ⟨h0_31, h1_32, a29, ha30, ?_⟩
      refine ⟨_, (hat28 0 _ rfl), ?_⟩
      obtain ⟨m33, hm34, hJ35⟩ := H
      exact ⟨m33, hm34, (bitAnd .i64 (IntKind.wrap .i64 ((IntKind.wrap .i64 ((IntKind.wrap .i64 (i21 * 131)) + (IntKind.wrap .i64 (rd xs0 i22)))) + 7)) 1073741823), (IntKind.wrap .i64 (i22 + 1)), rfl, hJ35, hB⟩
    have H := (bcase_iff.1 H).2 hc38
    refine newBlk (fun g2_ w36 L2 P2 e37 => ?_)
    have O2 := P2
    have L2 := Nat.le_trans hB.size L2
    have hB := ethen hB e37
    obtain rfl := hr.trans H.symm
    exact ⟨g2_, rfl, O2, rfl, L2, hB⟩
  have H := (bcase_iff.1 H).2 hc41
  refine newBlk (fun g3_ w39 L3 P3 e40 => ?_)
  have O3 := P3
  have L3 := Nat.le_trans hB.size L3
  have hB := ethen hB e40
  obtain rfl := hr.trans H.symm
  exact ⟨g3_, rfl, O3, rfl, L3, hB⟩
def spec_l01Byte.vc (p0 : Addr) (w : World) (K : Value → World → Prop) : Prop :=
  ∃ (n21 : Int), w.cell? ((p0.add 2).add 0) = some (.int .i64 n21) ∧ stCells (p0.add 2) [(.int .i64 (IntKind.wrap .i64 ((IntKind.wrap .i64 (n21 * 6364136223846793005)) + 1442695040888963407)))] 0 w fun w22 => ∃ (n23 : Int), w22.cell? ((p0.add 2).add 0) = some (.int .i64 n23) ∧ ((0 : Int) ≤ 33 ∧ ∃ (n24 : Int), w22.cell? ((p0.add 2).add 0) = some (.int .i64 n24) ∧ ((0 : Int) ≤ 45 ∧ ∃ (n25 : Int), w22.drew.cell? ((p0.add 1).add 0) = some (.int .i64 n25) ∧ ∃ (A26 : Option Addr) (n27 : Nat) (c28 : Nat), w22.drew.cell? ((p0.add 0).add 0) = some (.slice A26 n27 c28) ∧ bcase (decide (n25 < ((n27 : Nat) : Int))) (∃ (A29 : Option Addr) (n30 : Nat) (c31 : Nat), w22.drew.drew.cell? ((p0.add 0).add 0) = some (.slice A29 n30 c31) ∧ ∃ (n32 : Int), w22.drew.drew.cell? ((p0.add 1).add 0) = some (.int .i64 n32) ∧ ((0 : Int) ≤ n32 ∧ n32 < ((n30 : Nat) : Int) ∧ ∃ a33 : Addr, A29 = some a33 ∧ ∃ (n34 : Int), w22.drew.drew.cell? ((a33.add ((n32.toNat) * 1)).add 0) = some (.int .u8 n34) ∧ ∃ (n35 : Int), w22.drew.drew.drew.cell? ((p0.add 1).add 0) = some (.int .i64 n35) ∧ stCells (p0.add 1) [(.int .i64 (IntKind.wrap .i64 (n35 + 1)))] 0 w22.drew.drew.drew fun w36 => K (.int .i64 (bitAnd .i64 (IntKind.wrap .i64 ((bitAnd .i64 (bitXor .i64 (Int.fdiv n23 (2 ^ (min ((33 : Int).toNat) (IntKind.bits .i64)))) (Int.fdiv n24 (2 ^ (min ((45 : Int).toNat) (IntKind.bits .i64))))) 255) + (IntKind.wrap .i64 n34))) 255)) w36)) (K (.int .i64 (bitAnd .i64 (bitXor .i64 (Int.fdiv n23 (2 ^ (min ((33 : Int).toNat) (IntKind.bits .i64)))) (Int.fdiv n24 (2 ^ (min ((45 : Int).toNat) (IntKind.bits .i64))))) 255)) w22.drew.drew)))

def spec_l01Byte.ann : Ann := (.seq .l (.seq .l (.seq .l (.seq (.seq .l (.two (.seq .l .l) .l)) (.seq .l .l)))))

theorem spec_l01Byte.start {p0 : Addr} {w : World} {K : Value → World → Prop} (h : spec_l01Byte.vc p0 w K) : Cll Try.prog 53 #[(.pointer (some p0))] w K :=
  vcF_sound mixed (fn := Try.f53) (by kernel_rfl) (by kernel_rfl) (an := spec_l01Byte.ann) (args := [(.pointer (some p0))]) (Eq.mpr (by kernel_rfl) h)

theorem spec_l01Byte.con {s0 : D.Cur} {g1_ : Nat} {A0_0 : Option Addr} {c0_0 : Nat} {r : Int × D.Cur} {w : World} (hp : M.spec_l01Byte_pre s0) (hr : r = M.spec_l01Byte s0) (O1 : Blk w g1_ 77 #[(.slice A0_0 s0.b.length c0_0), (.int .i64 s0.i), (.int .i64 s0.h)]) (R0_0 : Row el5 w A0_0 s0.b) (hc0_0 : s0.b.length ≤ c0_0) (D0_0 : s0.b ≠ [] → ∀ g, InB A0_0 g → ¬ (fun k_ => k_ = g1_) g) :
    Cll Try.prog 53 #[(.pointer (some (⟨g1_, 0, none⟩ : Addr)))] w (fun v_ w_ => v_ = (.int .i64 r.1) ∧ Blk w_ g1_ 77 #[(.slice A0_0 r.2.b.length c0_0), (.int .i64 r.2.i), (.int .i64 r.2.h)] ∧ r.2.b = s0.b ∧ Chg (fun k_ => k_ = g1_) w w_) := by
  have H := wp.spec_l01Byte.math s0 hp
  have hB := Chg.refl (fun k_ => k_ = g1_) w
  refine spec_l01Byte.start ?_
  unfold spec_l01Byte.vc
  unfold wp.spec_l01Byte at H
  refine ⟨_, (O1.at 2 rfl rfl), ?_⟩
  refine stBlk O1 (o := 2) (cs' := #[(.slice A0_0 s0.b.length c0_0), (.int .i64 s0.i), (.int .i64 (IntKind.wrap .i64 ((IntKind.wrap .i64 (s0.h * 6364136223846793005)) + 1442695040888963407)))]) rfl rfl (Nat.le_of_ble_eq_true rfl) rfl (fun w21 P1 e22 => ?_)
  have hB := hB.chgb e22 (Or.inr rfl)
  have O1 := P1
  refine ⟨_, (O1.at 2 rfl rfl), ?_⟩
  refine ⟨by decide, ?_⟩
  refine ⟨_, (O1.at 2 rfl rfl), ?_⟩
  refine ⟨by decide, ?_⟩
  have O1 := O1.ext (Ext.drew _)
  have hB := hB.then (Ext.drew _)
  refine ⟨_, (O1.at 1 rfl rfl), ?_⟩
  refine ⟨_, _, _, (O1.at 0 rfl rfl), ?_⟩
  have O1 := O1.ext (Ext.drew _)
  have hB := hB.then (Ext.drew _)
  refine bcase_mk (fun hc35 => ?_) (fun hc35 => ?_)
  · have H := (bcase_iff.1 H).1 hc35
    refine ⟨_, _, _, (O1.at 0 rfl rfl), ?_⟩
    refine ⟨_, (O1.at 1 rfl rfl), ?_⟩
    obtain ⟨⟨h0_31, h1_32⟩, H⟩ := H
    obtain ⟨a29, ha30, hat28⟩ := Row.at (R0_0.chgS hB D0_0) h0_31 h1_32
    refine ⟨h0_31, h1_32, a29, ha30, ?_⟩
    refine ⟨_, (hat28 0 _ rfl), ?_⟩
    have O1 := O1.ext (Ext.drew _)
    have hB := hB.then (Ext.drew _)
    refine ⟨_, (O1.at 1 rfl rfl), ?_⟩
    refine stBlk O1 (o := 1) (cs' := #[(.slice A0_0 s0.b.length c0_0), (.int .i64 (IntKind.wrap .i64 (s0.i + 1))), (.int .i64 (IntKind.wrap .i64 ((IntKind.wrap .i64 (s0.h * 6364136223846793005)) + 1442695040888963407)))]) rfl rfl (Nat.le_of_ble_eq_true rfl) rfl (fun w33 P1 e34 => ?_)
    have hB := hB.chgb e34 (Or.inr rfl)
    have O1 := P1
    obtain rfl := hr.trans H.symm
    exact ⟨rfl, O1, rfl, hB⟩
  have H := (bcase_iff.1 H).2 hc35
  obtain rfl := hr.trans H.symm
  exact ⟨rfl, O1, rfl, hB⟩
def spec_l01Below.vc (p0 : Addr) (x1 : Int) (w : World) (K : Value → World → Prop) : Prop :=
  bcase (decide (x1 ≤ 0)) (K (.int .i64 0) w) (bcase (decide (x1 ≤ 256)) (Cll Try.prog 53 #[(.pointer (some p0))] w fun v21 w22 => (∃ (n23 : Int), v21 = (.int .i64 n23) ∧ ((x1 : Int) ≠ 0 ∧ K (.int .i64 (Int.tmod n23 x1)) w22))) (Cll Try.prog 53 #[(.pointer (some p0))] w fun v24 w25 => (∃ (n26 : Int), v24 = (.int .i64 n26) ∧ Cll Try.prog 53 #[(.pointer (some p0))] w25 fun v27 w28 => (∃ (n29 : Int), v27 = (.int .i64 n29) ∧ Cll Try.prog 53 #[(.pointer (some p0))] w28 fun v30 w31 => (∃ (n32 : Int), v30 = (.int .i64 n32) ∧ Cll Try.prog 53 #[(.pointer (some p0))] w31 fun v33 w34 => (∃ (n35 : Int), v33 = (.int .i64 n35) ∧ ((x1 : Int) ≠ 0 ∧ K (.int .i64 (Int.tmod (IntKind.wrap .i64 ((IntKind.wrap .i64 ((IntKind.wrap .i64 ((IntKind.wrap .i64 (n26 * 16777216)) + (IntKind.wrap .i64 (n29 * 65536)))) + (IntKind.wrap .i64 (n32 * 256)))) + n35)) x1)) w34)))))))

def spec_l01Below.ann : Ann := (.seq .l (.seq (.seq .l (.two (.seq .l .l) .l)) (.seq (.seq .l (.two (.seq .l .l) .l)) (.seq .l (.seq .l (.seq .l (.seq .l (.seq .l .l))))))))

theorem spec_l01Below.start {p0 : Addr} {x1 : Int} {w : World} {K : Value → World → Prop} (h : spec_l01Below.vc p0 x1 w K) : Cll Try.prog 24 #[(.pointer (some p0)), (.int .i64 x1)] w K :=
  vcF_sound mixed (fn := Try.f24) (by kernel_rfl) (by kernel_rfl) (an := spec_l01Below.ann) (args := [(.pointer (some p0)), (.int .i64 x1)]) (Eq.mpr (by kernel_rfl) h)

theorem spec_l01Below.con {s0 : D.Cur} {g1_ : Nat} {A0_0 : Option Addr} {c0_0 : Nat} {x1 : Int} {r : Int × D.Cur} {w : World} (hp : M.spec_l01Below_pre s0 x1) (hr : r = M.spec_l01Below s0 x1) (O1 : Blk w g1_ 77 #[(.slice A0_0 s0.b.length c0_0), (.int .i64 s0.i), (.int .i64 s0.h)]) (R0_0 : Row el5 w A0_0 s0.b) (hc0_0 : s0.b.length ≤ c0_0) (D0_0 : s0.b ≠ [] → ∀ g, InB A0_0 g → ¬ (fun k_ => k_ = g1_) g) :
    Cll Try.prog 24 #[(.pointer (some (⟨g1_, 0, none⟩ : Addr))), (.int .i64 x1)] w (fun v_ w_ => v_ = (.int .i64 r.1) ∧ Blk w_ g1_ 77 #[(.slice A0_0 r.2.b.length c0_0), (.int .i64 r.2.i), (.int .i64 r.2.h)] ∧ r.2.b = s0.b ∧ Chg (fun k_ => k_ = g1_) w w_) := by
  have H := wp.spec_l01Below.math s0 x1 hp
  have hB := Chg.refl (fun k_ => k_ = g1_) w
  refine spec_l01Below.start ?_
  unfold spec_l01Below.vc
  unfold wp.spec_l01Below at H
  refine bcase_mk (fun hc54 => ?_) (fun hc54 => ?_)
  · have H := (bcase_iff.1 H).1 hc54
    obtain rfl := hr.trans H.symm
    exact ⟨rfl, O1, rfl, hB⟩
  have H := (bcase_iff.1 H).2 hc54
  refine bcase_mk (fun hc53 => ?_) (fun hc53 => ?_)
  · have H := (bcase_iff.1 H).1 hc53
    obtain ⟨hp23, H⟩ := H
    obtain ⟨r21, hr22⟩ : ∃ r_, r_ = M.spec_l01Byte s0 := ⟨_, rfl⟩
    have H := H r21 hr22
    refine (spec_l01Byte.con hp23 hr22 O1 (R0_0.chgS hB D0_0) hc0_0 (fun hx_ => (fun g h_ hS_ => D0_0 hx_ g h_ hS_))).mono ?_
    rintro _ w24 ⟨rfl, Q1, hq26, e25⟩
    rw [hq26] at Q1
    have hB := hB.chg e25 (fun g h_ => Or.inr h_)
    have O1 := Q1
    refine ⟨r21.1, rfl, ?_⟩
    obtain ⟨hc27, H⟩ := H
    refine ⟨hc27, ?_⟩
    obtain rfl := hr.trans H.symm
    exact ⟨rfl, O1, rfl, hB⟩
  have H := (bcase_iff.1 H).2 hc53
  obtain ⟨hp30, H⟩ := H
  obtain ⟨r28, hr29⟩ : ∃ r_, r_ = M.spec_l01Byte s0 := ⟨_, rfl⟩
  have H := H r28 hr29
  refine (spec_l01Byte.con hp30 hr29 O1 (R0_0.chgS hB D0_0) hc0_0 (fun hx_ => (fun g h_ hS_ => D0_0 hx_ g h_ hS_))).mono ?_
  rintro _ w31 ⟨rfl, Q1, hq33, e32⟩
  rw [hq33] at Q1
  have hB := hB.chg e32 (fun g h_ => Or.inr h_)
  have O1 := Q1
  refine ⟨r28.1, rfl, ?_⟩
  obtain ⟨hp36, H⟩ := H
  obtain ⟨r34, hr35⟩ : ∃ r_, r_ = M.spec_l01Byte (⟨s0.b, r28.2.i, r28.2.h⟩ : D.Cur) := ⟨_, rfl⟩
  have H := H r34 hr35
  refine (spec_l01Byte.con hp36 hr35 O1 (R0_0.chgS hB D0_0) hc0_0 (fun hx_ => (fun g h_ hS_ => D0_0 hx_ g h_ hS_))).mono ?_
  rintro _ w37 ⟨rfl, Q1, hq39, e38⟩
  rw [hq39] at Q1
  have hB := hB.chg e38 (fun g h_ => Or.inr h_)
  have O1 := Q1
  refine ⟨r34.1, rfl, ?_⟩
  obtain ⟨hp42, H⟩ := H
  obtain ⟨r40, hr41⟩ : ∃ r_, r_ = M.spec_l01Byte (⟨s0.b, r34.2.i, r34.2.h⟩ : D.Cur) := ⟨_, rfl⟩
  have H := H r40 hr41
  refine (spec_l01Byte.con hp42 hr41 O1 (R0_0.chgS hB D0_0) hc0_0 (fun hx_ => (fun g h_ hS_ => D0_0 hx_ g h_ hS_))).mono ?_
  rintro _ w43 ⟨rfl, Q1, hq45, e44⟩
  rw [hq45] at Q1
  have hB := hB.chg e44 (fun g h_ => Or.inr h_)
  have O1 := Q1
  refine ⟨r40.1, rfl, ?_⟩
  obtain ⟨hp48, H⟩ := H
  obtain ⟨r46, hr47⟩ : ∃ r_, r_ = M.spec_l01Byte (⟨s0.b, r40.2.i, r40.2.h⟩ : D.Cur) := ⟨_, rfl⟩
  have H := H r46 hr47
  refine (spec_l01Byte.con hp48 hr47 O1 (R0_0.chgS hB D0_0) hc0_0 (fun hx_ => (fun g h_ hS_ => D0_0 hx_ g h_ hS_))).mono ?_
  rintro _ w49 ⟨rfl, Q1, hq51, e50⟩
  rw [hq51] at Q1
  have hB := hB.chg e50 (fun g h_ => Or.inr h_)
  have O1 := Q1
  refine ⟨r46.1, rfl, ?_⟩
  obtain ⟨hc52, H⟩ := H
  refine ⟨hc52, ?_⟩
  obtain rfl := hr.trans H.symm
  exact ⟨rfl, O1, rfl, hB⟩
def spec_l01PickInt.vc (p0 : Addr) (A1 : Option Addr) (n1 : Nat) (c1 : Nat) (w : World) (K : Value → World → Prop) : Prop :=
  Cll Try.prog 24 #[(.pointer (some p0)), (.int .i64 ((n1 : Nat) : Int))] w fun v21 w22 => (∃ (n23 : Int), v21 = (.int .i64 n23) ∧ ((0 : Int) ≤ n23 ∧ n23 < ((n1 : Nat) : Int) ∧ ∃ a24 : Addr, A1 = some a24 ∧ ∃ (n25 : Int), w22.cell? ((a24.add ((n23.toNat) * 1)).add 0) = some (.int .i64 n25) ∧ K (.int .i64 n25) w22))

def spec_l01PickInt.ann : Ann := (.seq .l (.seq .l .l))

theorem spec_l01PickInt.start {p0 : Addr} {A1 : Option Addr} {n1 : Nat} {c1 : Nat} {w : World} {K : Value → World → Prop} (h : spec_l01PickInt.vc p0 A1 n1 c1 w K) : Cll Try.prog 63 #[(.pointer (some p0)), (.slice A1 n1 c1)] w K :=
  vcF_sound mixed (fn := Try.f63) (by kernel_rfl) (by kernel_rfl) (an := spec_l01PickInt.ann) (args := [(.pointer (some p0)), (.slice A1 n1 c1)]) (Eq.mpr (by kernel_rfl) h)

theorem spec_l01PickInt.con {s0 : D.Cur} {g1_ : Nat} {A0_0 : Option Addr} {c0_0 : Nat} {xs1 : List Int} {A1 : Option Addr} {c1 : Nat} {r : Int × D.Cur} {w : World} (hp : M.spec_l01PickInt_pre s0 xs1) (hr : r = M.spec_l01PickInt s0 xs1) (O1 : Blk w g1_ 77 #[(.slice A0_0 s0.b.length c0_0), (.int .i64 s0.i), (.int .i64 s0.h)]) (R0_0 : Row el5 w A0_0 s0.b) (hc0_0 : s0.b.length ≤ c0_0) (R1 : Row el3 w A1 xs1) (hc1 : xs1.length ≤ c1) (D0_0 : s0.b ≠ [] → ∀ g, InB A0_0 g → ¬ (fun k_ => k_ = g1_) g) (D1 : xs1 ≠ [] → ∀ g, InB A1 g → ¬ (fun k_ => k_ = g1_) g) :
    Cll Try.prog 63 #[(.pointer (some (⟨g1_, 0, none⟩ : Addr))), (.slice A1 xs1.length c1)] w (fun v_ w_ => v_ = (.int .i64 r.1) ∧ Blk w_ g1_ 77 #[(.slice A0_0 r.2.b.length c0_0), (.int .i64 r.2.i), (.int .i64 r.2.h)] ∧ r.2.b = s0.b ∧ Chg (fun k_ => k_ = g1_) w w_) := by
  have H := wp.spec_l01PickInt.math s0 xs1 hp
  have hB := Chg.refl (fun k_ => k_ = g1_) w
  refine spec_l01PickInt.start ?_
  unfold spec_l01PickInt.vc
  unfold wp.spec_l01PickInt at H
  obtain ⟨hp23, H⟩ := H
  obtain ⟨r21, hr22⟩ : ∃ r_, r_ = M.spec_l01Below s0 ((xs1.length : Nat) : Int) := ⟨_, rfl⟩
  have H := H r21 hr22
  refine (spec_l01Below.con hp23 hr22 O1 (R0_0.chgS hB D0_0) hc0_0 (fun hx_ => (fun g h_ hS_ => D0_0 hx_ g h_ hS_))).mono ?_
  rintro _ w24 ⟨rfl, Q1, hq26, e25⟩
  rw [hq26] at Q1
  have hB := hB.chg e25 (fun g h_ => Or.inr h_)
  have O1 := Q1
  refine ⟨r21.1, rfl, ?_⟩
  obtain ⟨⟨h0_30, h1_31⟩, H⟩ := H
  obtain ⟨a28, ha29, hat27⟩ := Row.at (R1.chgS hB D1) h0_30 h1_31
  refine ⟨h0_30, h1_31, a28, ha29, ?_⟩
  refine ⟨_, (hat27 0 _ rfl), ?_⟩
  obtain rfl := hr.trans H.symm
  exact ⟨rfl, O1, rfl, hB⟩
def spec_l04Plain.vc (p0 : Addr) (w : World) (K : Value → World → Prop) : Prop :=
  newK w (.cells #[(.int .i64 0), (.int .i64 0), (.int .i64 0), (.int .i64 0)] 60) fun g21 w22 => Cll Try.prog 24 #[(.pointer (some p0)), (.int .i64 9)] w22 fun v23 w24 => (∃ (n25 : Int), v23 = (.int .i64 n25) ∧ Cll Try.prog 24 #[(.pointer (some p0)), (.int .i64 4)] w24 fun v26 w27 => (∃ (n28 : Int), v26 = (.int .i64 n28) ∧ newK w27 (.cells #[(.int .i64 0), (.int .i64 0), (.int .i64 0), (.int .i64 0)] 60) fun g29 w30 => stCells (⟨g29, 0, none⟩ : Addr) [(.int .i64 (IntKind.wrap .i64 (1 + n25))), (.int .i64 n28), (.int .i64 0), (.int .i64 0)] 0 w30 fun w31 => ∃ (n32 : Int), w31.cell? (((⟨g29, 0, none⟩ : Addr).add 0).add 0) = some (.int .i64 n32) ∧ bcase (n32 == 1) (Cll Try.prog 24 #[(.pointer (some p0)), (.int .i64 6)] w31 fun v33 w34 => (∃ (n35 : Int), v33 = (.int .i64 n35) ∧ stCells ((⟨g29, 0, none⟩ : Addr).add 2) [(.int .i64 n35)] 0 w34 fun w36 => ∃ (n37 : Int), w36.cell? ((⟨g29, 0, none⟩ : Addr).add 0) = some (.int .i64 n37) ∧ ∃ (n38 : Int), w36.cell? ((⟨g29, 0, none⟩ : Addr).add 1) = some (.int .i64 n38) ∧ ∃ (n39 : Int), w36.cell? ((⟨g29, 0, none⟩ : Addr).add 2) = some (.int .i64 n39) ∧ ∃ (n40 : Int), w36.cell? ((⟨g29, 0, none⟩ : Addr).add 3) = some (.int .i64 n40) ∧ stCells (⟨g21, 0, none⟩ : Addr) [(.int .i64 n37), (.int .i64 n38), (.int .i64 n39), (.int .i64 n40)] 0 w36 fun w41 => ∃ (n42 : Int), w41.cell? ((⟨g21, 0, none⟩ : Addr).add 0) = some (.int .i64 n42) ∧ ∃ (n43 : Int), w41.cell? ((⟨g21, 0, none⟩ : Addr).add 1) = some (.int .i64 n43) ∧ ∃ (n44 : Int), w41.cell? ((⟨g21, 0, none⟩ : Addr).add 2) = some (.int .i64 n44) ∧ ∃ (n45 : Int), w41.cell? ((⟨g21, 0, none⟩ : Addr).add 3) = some (.int .i64 n45) ∧ K (.agg #[(.int .i64 n42), (.int .i64 n43), (.int .i64 n44), (.int .i64 n45)]) w41)) (bcase (n32 == 8) (∃ (n46 : Int), w31.cell? ((⟨g29, 0, none⟩ : Addr).add 0) = some (.int .i64 n46) ∧ ∃ (n47 : Int), w31.cell? ((⟨g29, 0, none⟩ : Addr).add 1) = some (.int .i64 n47) ∧ ∃ (n48 : Int), w31.cell? ((⟨g29, 0, none⟩ : Addr).add 2) = some (.int .i64 n48) ∧ ∃ (n49 : Int), w31.cell? ((⟨g29, 0, none⟩ : Addr).add 3) = some (.int .i64 n49) ∧ stCells (⟨g21, 0, none⟩ : Addr) [(.int .i64 n46), (.int .i64 n47), (.int .i64 n48), (.int .i64 n49)] 0 w31 fun w50 => ∃ (n51 : Int), w50.cell? ((⟨g21, 0, none⟩ : Addr).add 0) = some (.int .i64 n51) ∧ ∃ (n52 : Int), w50.cell? ((⟨g21, 0, none⟩ : Addr).add 1) = some (.int .i64 n52) ∧ ∃ (n53 : Int), w50.cell? ((⟨g21, 0, none⟩ : Addr).add 2) = some (.int .i64 n53) ∧ ∃ (n54 : Int), w50.cell? ((⟨g21, 0, none⟩ : Addr).add 3) = some (.int .i64 n54) ∧ K (.agg #[(.int .i64 n51), (.int .i64 n52), (.int .i64 n53), (.int .i64 n54)]) w50) (bcase (n32 == 2) (Cll Try.prog 24 #[(.pointer (some p0)), (.int .i64 4)] w31 fun v55 w56 => (∃ (n57 : Int), v55 = (.int .i64 n57) ∧ stCells ((⟨g29, 0, none⟩ : Addr).add 2) [(.int .i64 n57)] 0 w56 fun w58 => ∃ (n59 : Int), w58.cell? ((⟨g29, 0, none⟩ : Addr).add 0) = some (.int .i64 n59) ∧ ∃ (n60 : Int), w58.cell? ((⟨g29, 0, none⟩ : Addr).add 1) = some (.int .i64 n60) ∧ ∃ (n61 : Int), w58.cell? ((⟨g29, 0, none⟩ : Addr).add 2) = some (.int .i64 n61) ∧ ∃ (n62 : Int), w58.cell? ((⟨g29, 0, none⟩ : Addr).add 3) = some (.int .i64 n62) ∧ stCells (⟨g21, 0, none⟩ : Addr) [(.int .i64 n59), (.int .i64 n60), (.int .i64 n61), (.int .i64 n62)] 0 w58 fun w63 => ∃ (n64 : Int), w63.cell? ((⟨g21, 0, none⟩ : Addr).add 0) = some (.int .i64 n64) ∧ ∃ (n65 : Int), w63.cell? ((⟨g21, 0, none⟩ : Addr).add 1) = some (.int .i64 n65) ∧ ∃ (n66 : Int), w63.cell? ((⟨g21, 0, none⟩ : Addr).add 2) = some (.int .i64 n66) ∧ ∃ (n67 : Int), w63.cell? ((⟨g21, 0, none⟩ : Addr).add 3) = some (.int .i64 n67) ∧ K (.agg #[(.int .i64 n64), (.int .i64 n65), (.int .i64 n66), (.int .i64 n67)]) w63)) (Cll Try.prog 24 #[(.pointer (some p0)), (.int .i64 4)] w31 fun v68 w69 => (∃ (n70 : Int), v68 = (.int .i64 n70) ∧ stCells ((⟨g29, 0, none⟩ : Addr).add 2) [(.int .i64 n70)] 0 w69 fun w71 => Cll Try.prog 24 #[(.pointer (some p0)), (.int .i64 4)] w71 fun v72 w73 => (∃ (n74 : Int), v72 = (.int .i64 n74) ∧ stCells ((⟨g29, 0, none⟩ : Addr).add 3) [(.int .i64 n74)] 0 w73 fun w75 => ∃ (n76 : Int), w75.cell? ((⟨g29, 0, none⟩ : Addr).add 0) = some (.int .i64 n76) ∧ ∃ (n77 : Int), w75.cell? ((⟨g29, 0, none⟩ : Addr).add 1) = some (.int .i64 n77) ∧ ∃ (n78 : Int), w75.cell? ((⟨g29, 0, none⟩ : Addr).add 2) = some (.int .i64 n78) ∧ ∃ (n79 : Int), w75.cell? ((⟨g29, 0, none⟩ : Addr).add 3) = some (.int .i64 n79) ∧ stCells (⟨g21, 0, none⟩ : Addr) [(.int .i64 n76), (.int .i64 n77), (.int .i64 n78), (.int .i64 n79)] 0 w75 fun w80 => ∃ (n81 : Int), w80.cell? ((⟨g21, 0, none⟩ : Addr).add 0) = some (.int .i64 n81) ∧ ∃ (n82 : Int), w80.cell? ((⟨g21, 0, none⟩ : Addr).add 1) = some (.int .i64 n82) ∧ ∃ (n83 : Int), w80.cell? ((⟨g21, 0, none⟩ : Addr).add 2) = some (.int .i64 n83) ∧ ∃ (n84 : Int), w80.cell? ((⟨g21, 0, none⟩ : Addr).add 3) = some (.int .i64 n84) ∧ K (.agg #[(.int .i64 n81), (.int .i64 n82), (.int .i64 n83), (.int .i64 n84)]) w80)))))))

def spec_l04Plain.ann : Ann := (.seq .l (.seq .l (.seq (.seq .l (.one (.seq .l (.two .l (.seq .l (.two .l (.seq .l (.two .l (.seq .l .l))))))))) (.seq .l .l))))

theorem spec_l04Plain.start {p0 : Addr} {w : World} {K : Value → World → Prop} (h : spec_l04Plain.vc p0 w K) : Cll Try.prog 65 #[(.pointer (some p0))] w K :=
  vcF_sound mixed (fn := Try.f65) (by kernel_rfl) (by kernel_rfl) (an := spec_l04Plain.ann) (args := [(.pointer (some p0))]) (Eq.mpr (by kernel_rfl) h)

theorem spec_l04Plain.con {s0 : D.Cur} {g1_ : Nat} {A0_0 : Option Addr} {c0_0 : Nat} {r : D.Ins × D.Cur} {w : World} (hp : M.spec_l04Plain_pre s0) (hr : r = M.spec_l04Plain s0) (O1 : Blk w g1_ 77 #[(.slice A0_0 s0.b.length c0_0), (.int .i64 s0.i), (.int .i64 s0.h)]) (R0_0 : Row el5 w A0_0 s0.b) (hc0_0 : s0.b.length ≤ c0_0) (D0_0 : s0.b ≠ [] → ∀ g, InB A0_0 g → ¬ (fun k_ => k_ = g1_) g) :
    Cll Try.prog 65 #[(.pointer (some (⟨g1_, 0, none⟩ : Addr)))] w (fun v_ w_ => v_ = (.agg #[(.int .i64 r.1.Op), (.int .i64 r.1.A), (.int .i64 r.1.B), (.int .i64 r.1.C)]) ∧ Blk w_ g1_ 77 #[(.slice A0_0 r.2.b.length c0_0), (.int .i64 r.2.i), (.int .i64 r.2.h)] ∧ r.2.b = s0.b ∧ Chg (fun k_ => k_ = g1_) w w_) := by
  have H := wp.spec_l04Plain.math s0 hp
  have hB := Chg.refl (fun k_ => k_ = g1_) w
  refine spec_l04Plain.start ?_
  unfold spec_l04Plain.vc
  unfold wp.spec_l04Plain at H
  refine newBlk (fun g3_ w21 L3 P3 e22 => ?_)
  have N1_3 := O1.ne L3
  have O1 := O1.ext e22
  have O3 := P3
  have L3 := Nat.le_trans hB.size L3
  have hB := hB.then e22
  obtain ⟨hp25, H⟩ := H
  obtain ⟨r23, hr24⟩ : ∃ r_, r_ = M.spec_l01Below s0 9 := ⟨_, rfl⟩
  have H := H r23 hr24
  refine (spec_l01Below.con hp25 hr24 O1 (R0_0.chgS hB D0_0) hc0_0 (fun hx_ => (fun g h_ hS_ => D0_0 hx_ g h_ hS_))).mono ?_
  rintro _ w26 ⟨rfl, Q1, hq28, e27⟩
  rw [hq28] at Q1
  have O3 := O3.chgS e27 ((N1_3).symm)
  have hB := hB.chg e27 (fun g h_ => Or.inr h_)
  have O1 := Q1
  refine ⟨r23.1, rfl, ?_⟩
  obtain ⟨hp31, H⟩ := H
  obtain ⟨r29, hr30⟩ : ∃ r_, r_ = M.spec_l01Below (⟨s0.b, r23.2.i, r23.2.h⟩ : D.Cur) 4 := ⟨_, rfl⟩
  have H := H r29 hr30
  refine (spec_l01Below.con hp31 hr30 O1 (R0_0.chgS hB D0_0) hc0_0 (fun hx_ => (fun g h_ hS_ => D0_0 hx_ g h_ hS_))).mono ?_
  rintro _ w32 ⟨rfl, Q1, hq34, e33⟩
  rw [hq34] at Q1
  have O3 := O3.chgS e33 ((N1_3).symm)
  have hB := hB.chg e33 (fun g h_ => Or.inr h_)
  have O1 := Q1
  refine ⟨r29.1, rfl, ?_⟩
  refine newBlk (fun g4_ w35 L4 P4 e36 => ?_)
  have N1_4 := O1.ne L4
  have N3_4 := O3.ne L4
  have O1 := O1.ext e36
  have O3 := O3.ext e36
  have O4 := P4
  have L4 := Nat.le_trans hB.size L4
  have hB := hB.then e36
  refine stBlk O4 (o := 0) (cs' := #[(.int .i64 (IntKind.wrap .i64 (1 + r23.1))), (.int .i64 r29.1), (.int .i64 0), (.int .i64 0)]) rfl rfl (Nat.le_of_ble_eq_true rfl) rfl (fun w37 P4 e38 => ?_)
  have O1_ := O1.chg e38 N1_4
  have O3_ := O3.chg e38 N3_4
  have O1 := O1_
  have O3 := O3_
  have hB := hB.chgb e38 (Or.inl L4)
  have O4 := P4
  refine ⟨_, (O4.at 0 rfl rfl), ?_⟩
  refine bcase_mk (fun hc81 => ?_) (fun hc81 => ?_)
  · have H := (bcase_iff.1 H).1 hc81
    obtain ⟨hp41, H⟩ := H
    obtain ⟨r39, hr40⟩ : ∃ r_, r_ = M.spec_l01Below (⟨s0.b, r29.2.i, r29.2.h⟩ : D.Cur) 6 := ⟨_, rfl⟩
    have H := H r39 hr40
    refine (spec_l01Below.con hp41 hr40 O1 (R0_0.chgS hB D0_0) hc0_0 (fun hx_ => (fun g h_ hS_ => D0_0 hx_ g h_ hS_))).mono ?_
    rintro _ w42 ⟨rfl, Q1, hq44, e43⟩
    rw [hq44] at Q1
    have O3 := O3.chgS e43 ((N1_3).symm)
    have O4 := O4.chgS e43 ((N1_4).symm)
    have hB := hB.chg e43 (fun g h_ => Or.inr h_)
    have O1 := Q1
    refine ⟨r39.1, rfl, ?_⟩
    refine stBlk O4 (o := 2) (cs' := #[(.int .i64 (IntKind.wrap .i64 (1 + r23.1))), (.int .i64 r29.1), (.int .i64 r39.1), (.int .i64 0)]) rfl rfl (Nat.le_of_ble_eq_true rfl) rfl (fun w45 P4 e46 => ?_)
    have O1_ := O1.chg e46 N1_4
    have O3_ := O3.chg e46 N3_4
    have O1 := O1_
    have O3 := O3_
    have hB := hB.chgb e46 (Or.inl L4)
    have O4 := P4
    refine ⟨_, (O4.at 0 rfl rfl), ?_⟩
    refine ⟨_, (O4.at 1 rfl rfl), ?_⟩
    refine ⟨_, (O4.at 2 rfl rfl), ?_⟩
    refine ⟨_, (O4.at 3 rfl rfl), ?_⟩
    refine stBlk O3 (o := 0) (cs' := #[(.int .i64 (IntKind.wrap .i64 (1 + r23.1))), (.int .i64 r29.1), (.int .i64 r39.1), (.int .i64 0)]) rfl rfl (Nat.le_of_ble_eq_true rfl) rfl (fun w47 P3 e48 => ?_)
    have O1_ := O1.chg e48 N1_3
    have O4_ := O4.chg e48 (N3_4).symm
    have O1 := O1_
    have O4 := O4_
    have hB := hB.chgb e48 (Or.inl L3)
    have O3 := P3
    refine ⟨_, (O3.at 0 rfl rfl), ?_⟩
    refine ⟨_, (O3.at 1 rfl rfl), ?_⟩
    refine ⟨_, (O3.at 2 rfl rfl), ?_⟩
    refine ⟨_, (O3.at 3 rfl rfl), ?_⟩
    obtain rfl := hr.trans H.symm
    exact ⟨rfl, O1, rfl, hB⟩
  have H := (bcase_iff.1 H).2 hc81
  refine bcase_mk (fun hc80 => ?_) (fun hc80 => ?_)
  · have H := (bcase_iff.1 H).1 hc80
    refine ⟨_, (O4.at 0 rfl rfl), ?_⟩
    refine ⟨_, (O4.at 1 rfl rfl), ?_⟩
    refine ⟨_, (O4.at 2 rfl rfl), ?_⟩
    refine ⟨_, (O4.at 3 rfl rfl), ?_⟩
    refine stBlk O3 (o := 0) (cs' := #[(.int .i64 (IntKind.wrap .i64 (1 + r23.1))), (.int .i64 r29.1), (.int .i64 0), (.int .i64 0)]) rfl rfl (Nat.le_of_ble_eq_true rfl) rfl (fun w49 P3 e50 => ?_)
    have O1_ := O1.chg e50 N1_3
    have O4_ := O4.chg e50 (N3_4).symm
    have O1 := O1_
    have O4 := O4_
    have hB := hB.chgb e50 (Or.inl L3)
    have O3 := P3
    refine ⟨_, (O3.at 0 rfl rfl), ?_⟩
    refine ⟨_, (O3.at 1 rfl rfl), ?_⟩
    refine ⟨_, (O3.at 2 rfl rfl), ?_⟩
    refine ⟨_, (O3.at 3 rfl rfl), ?_⟩
    obtain rfl := hr.trans H.symm
    exact ⟨rfl, O1, rfl, hB⟩
  have H := (bcase_iff.1 H).2 hc80
  refine bcase_mk (fun hc79 => ?_) (fun hc79 => ?_)
  · have H := (bcase_iff.1 H).1 hc79
    obtain ⟨hp53, H⟩ := H
    obtain ⟨r51, hr52⟩ : ∃ r_, r_ = M.spec_l01Below (⟨s0.b, r29.2.i, r29.2.h⟩ : D.Cur) 4 := ⟨_, rfl⟩
    have H := H r51 hr52
    refine (spec_l01Below.con hp53 hr52 O1 (R0_0.chgS hB D0_0) hc0_0 (fun hx_ => (fun g h_ hS_ => D0_0 hx_ g h_ hS_))).mono ?_
    rintro _ w54 ⟨rfl, Q1, hq56, e55⟩
    rw [hq56] at Q1
    have O3 := O3.chgS e55 ((N1_3).symm)
    have O4 := O4.chgS e55 ((N1_4).symm)
    have hB := hB.chg e55 (fun g h_ => Or.inr h_)
    have O1 := Q1
    refine ⟨r51.1, rfl, ?_⟩
    refine stBlk O4 (o := 2) (cs' := #[(.int .i64 (IntKind.wrap .i64 (1 + r23.1))), (.int .i64 r29.1), (.int .i64 r51.1), (.int .i64 0)]) rfl rfl (Nat.le_of_ble_eq_true rfl) rfl (fun w57 P4 e58 => ?_)
    have O1_ := O1.chg e58 N1_4
    have O3_ := O3.chg e58 N3_4
    have O1 := O1_
    have O3 := O3_
    have hB := hB.chgb e58 (Or.inl L4)
    have O4 := P4
    refine ⟨_, (O4.at 0 rfl rfl), ?_⟩
    refine ⟨_, (O4.at 1 rfl rfl), ?_⟩
    refine ⟨_, (O4.at 2 rfl rfl), ?_⟩
    refine ⟨_, (O4.at 3 rfl rfl), ?_⟩
    refine stBlk O3 (o := 0) (cs' := #[(.int .i64 (IntKind.wrap .i64 (1 + r23.1))), (.int .i64 r29.1), (.int .i64 r51.1), (.int .i64 0)]) rfl rfl (Nat.le_of_ble_eq_true rfl) rfl (fun w59 P3 e60 => ?_)
    have O1_ := O1.chg e60 N1_3
    have O4_ := O4.chg e60 (N3_4).symm
    have O1 := O1_
    have O4 := O4_
    have hB := hB.chgb e60 (Or.inl L3)
    have O3 := P3
    refine ⟨_, (O3.at 0 rfl rfl), ?_⟩
    refine ⟨_, (O3.at 1 rfl rfl), ?_⟩
    refine ⟨_, (O3.at 2 rfl rfl), ?_⟩
    refine ⟨_, (O3.at 3 rfl rfl), ?_⟩
    obtain rfl := hr.trans H.symm
    exact ⟨rfl, O1, rfl, hB⟩
  have H := (bcase_iff.1 H).2 hc79
  obtain ⟨hp63, H⟩ := H
  obtain ⟨r61, hr62⟩ : ∃ r_, r_ = M.spec_l01Below (⟨s0.b, r29.2.i, r29.2.h⟩ : D.Cur) 4 := ⟨_, rfl⟩
  have H := H r61 hr62
  refine (spec_l01Below.con hp63 hr62 O1 (R0_0.chgS hB D0_0) hc0_0 (fun hx_ => (fun g h_ hS_ => D0_0 hx_ g h_ hS_))).mono ?_
  rintro _ w64 ⟨rfl, Q1, hq66, e65⟩
  rw [hq66] at Q1
  have O3 := O3.chgS e65 ((N1_3).symm)
  have O4 := O4.chgS e65 ((N1_4).symm)
  have hB := hB.chg e65 (fun g h_ => Or.inr h_)
  have O1 := Q1
  refine ⟨r61.1, rfl, ?_⟩
  refine stBlk O4 (o := 2) (cs' := #[(.int .i64 (IntKind.wrap .i64 (1 + r23.1))), (.int .i64 r29.1), (.int .i64 r61.1), (.int .i64 0)]) rfl rfl (Nat.le_of_ble_eq_true rfl) rfl (fun w67 P4 e68 => ?_)
  have O1_ := O1.chg e68 N1_4
  have O3_ := O3.chg e68 N3_4
  have O1 := O1_
  have O3 := O3_
  have hB := hB.chgb e68 (Or.inl L4)
  have O4 := P4
  obtain ⟨hp71, H⟩ := H
  obtain ⟨r69, hr70⟩ : ∃ r_, r_ = M.spec_l01Below (⟨s0.b, r61.2.i, r61.2.h⟩ : D.Cur) 4 := ⟨_, rfl⟩
  have H := H r69 hr70
  refine (spec_l01Below.con hp71 hr70 O1 (R0_0.chgS hB D0_0) hc0_0 (fun hx_ => (fun g h_ hS_ => D0_0 hx_ g h_ hS_))).mono ?_
  rintro _ w72 ⟨rfl, Q1, hq74, e73⟩
  rw [hq74] at Q1
  have O3 := O3.chgS e73 ((N1_3).symm)
  have O4 := O4.chgS e73 ((N1_4).symm)
  have hB := hB.chg e73 (fun g h_ => Or.inr h_)
  have O1 := Q1
  refine ⟨r69.1, rfl, ?_⟩
  refine stBlk O4 (o := 3) (cs' := #[(.int .i64 (IntKind.wrap .i64 (1 + r23.1))), (.int .i64 r29.1), (.int .i64 r61.1), (.int .i64 r69.1)]) rfl rfl (Nat.le_of_ble_eq_true rfl) rfl (fun w75 P4 e76 => ?_)
  have O1_ := O1.chg e76 N1_4
  have O3_ := O3.chg e76 N3_4
  have O1 := O1_
  have O3 := O3_
  have hB := hB.chgb e76 (Or.inl L4)
  have O4 := P4
  refine ⟨_, (O4.at 0 rfl rfl), ?_⟩
  refine ⟨_, (O4.at 1 rfl rfl), ?_⟩
  refine ⟨_, (O4.at 2 rfl rfl), ?_⟩
  refine ⟨_, (O4.at 3 rfl rfl), ?_⟩
  refine stBlk O3 (o := 0) (cs' := #[(.int .i64 (IntKind.wrap .i64 (1 + r23.1))), (.int .i64 r29.1), (.int .i64 r61.1), (.int .i64 r69.1)]) rfl rfl (Nat.le_of_ble_eq_true rfl) rfl (fun w77 P3 e78 => ?_)
  have O1_ := O1.chg e78 N1_3
  have O4_ := O4.chg e78 (N3_4).symm
  have O1 := O1_
  have O4 := O4_
  have hB := hB.chgb e78 (Or.inl L3)
  have O3 := P3
  refine ⟨_, (O3.at 0 rfl rfl), ?_⟩
  refine ⟨_, (O3.at 1 rfl rfl), ?_⟩
  refine ⟨_, (O3.at 2 rfl rfl), ?_⟩
  refine ⟨_, (O3.at 3 rfl rfl), ?_⟩
  obtain rfl := hr.trans H.symm
  exact ⟨rfl, O1, rfl, hB⟩
def spec_DrawPlaces.vc (A0 : Option Addr) (n0 : Nat) (c0 : Nat) (w : World) (K : Value → World → Prop) : Prop :=
  Cll Try.prog 23 #[(.slice A0 n0 c0)] w fun v21 w22 => (∃ (p23 : Addr), v21 = (.pointer (some p23)) ∧ Run Try.prog (Instr.buildSlice 26 0 #[]) w22 fun v24 w25 => ∃ (A26 : Option Addr) (n27 c28 : Nat), v24 = .slice A26 n27 c28 ∧ LoopT (σ := (Option Addr × Nat × Nat) × Int × Unit) (fun z29 w30 next31 => bcase (decide (z29.2.1 < 12)) (Cll Try.prog 24 #[(.pointer (some p23)), (.int .i64 10000)] w30 fun v32 w33 => (∃ (n34 : Int), v32 = (.int .i64 n34) ∧ Run Try.prog (Instr.buildSlice 26 1 #[(0, (.int .i64 n34))]) w33 fun v35 w36 => ∃ (A37 : Option Addr) (n38 c39 : Nat), v35 = .slice A37 n38 c39 ∧ Run Try.prog (Builtin.append_ #[26, 26] 26 #[(.slice z29.1.1 z29.1.2.1 z29.1.2.2), (.slice A37 n38 c39)]) w36 fun v40 w41 => ∃ (A42 : Option Addr) (n43 c44 : Nat), v40 = .slice A42 n43 c44 ∧ next31 ((A42, n43, c44), (IntKind.wrap .i64 (z29.2.1 + 1)), ()) w41)) (K (.slice z29.1.1 z29.1.2.1 z29.1.2.2) w30)) ((A26, n27, c28), 0, ()) w25)

def spec_DrawPlaces.ann : Ann := (.seq .l (.seq .l (.seq .l (.seq (.seq .l (.one (.loop [(4, .sl), (5, .int .i64)] (.seq (.seq .l (.two .l .l)) (.seq (.one .l) .l))))) (.seq .l .l)))))

theorem spec_DrawPlaces.start {A0 : Option Addr} {n0 : Nat} {c0 : Nat} {w : World} {K : Value → World → Prop} (h : spec_DrawPlaces.vc A0 n0 c0 w K) : Cll Try.prog 8 #[(.slice A0 n0 c0)] w K :=
  vcF_sound mixed (fn := Try.f8) (by kernel_rfl) (by kernel_rfl) (an := spec_DrawPlaces.ann) (args := [(.slice A0 n0 c0)]) (Eq.mpr (by kernel_rfl) h)

theorem spec_DrawPlaces.con {xs0 : List Int} {A0 : Option Addr} {c0 : Nat} {r : List Int} {w : World} (hp : M.spec_DrawPlaces_pre xs0) (hr : r = M.spec_DrawPlaces xs0) (R0 : Row el5 w A0 xs0) (hc0 : xs0.length ≤ c0) :
    Cll Try.prog 8 #[(.slice A0 xs0.length c0)] w (fun v_ w_ => ∃ (A0_ : Option Addr) (c0_ : Nat), v_ = (.slice A0_ r.length c0_) ∧ Own el3 w_ w.heap.size A0_ c0_ r ∧ Ext w w_) := by
  have H := wp.spec_DrawPlaces.math xs0 hp
  have hB := Ext.refl w
  refine spec_DrawPlaces.start ?_
  unfold spec_DrawPlaces.vc
  unfold wp.spec_DrawPlaces at H
  obtain ⟨hp23, H⟩ := H
  obtain ⟨r21, hr22⟩ : ∃ r_, r_ = M.spec_l01New xs0 := ⟨_, rfl⟩
  have H := H r21 hr22
  refine (spec_l01New.con hp23 hr22 (R0.ext hB) hc0).mono ?_
  rintro _ w24 ⟨g2_, rfl, P2, hq26, L2, e25⟩
  rw [hq26] at P2
  have L2 := Nat.le_trans hB.size L2
  have O2 := P2
  have hB := ethen hB e25
  refine ⟨(⟨g2_, 0, none⟩ : Addr), rfl, ?_⟩
  refine buildOwn el3 ([] : List Int) (fun _ => by kernel_rfl) rfl (fun A27 w28 P3 e29 => ?_)
  have N3_2 := P3.apart_old O2.lt
  have O2 := O2.ext e29
  have O3 := P3.mono hB.size
  have hB := ethen hB e29
  obtain ⟨J60, ⟨m84, hJ83⟩, hS61⟩ := H
  refine ⟨fun m_ z_ w_ => ∃ (xs53 : List Int) (i56 : Int) (i57 : Int) (i58 : Int) (A54 : Option Addr) (c55 : Nat), z_ = ((A54, xs53.length, c55), i56, ()) ∧ J60 m_ (xs53, i56, i57, i58, ()) ∧ Ext w w_ ∧ Own el3 w_ w.heap.size A54 c55 xs53 ∧ Blk w_ g2_ 77 #[(.slice A0 xs0.length c0), (.int .i64 i57), (.int .i64 i58)], ⟨m84, ([] : List Int), 0, r21.i, r21.h, A27, 0, rfl, hJ83, hB, O3, O2⟩, ?_⟩
  rintro m59 _ w63 ⟨xs53, i56, i57, i58, A54, c55, rfl, hJ85, hB, O6, O2⟩
  have H := hS61 m59 _ hJ85
  clear hS61 hJ85
  try dsimp only at H ⊢
  refine bcase_mk (fun hc81 => ?_) (fun hc81 => ?_)
  · have H := (bcase_iff.1 H).1 hc81
    obtain ⟨hp66, H⟩ := H
    obtain ⟨r64, hr65⟩ : ∃ r_, r_ = M.spec_l01Below (⟨xs0, i57, i58⟩ : D.Cur) 10000 := ⟨_, rfl⟩
    have H := H r64 hr65
    refine (spec_l01Below.con hp66 hr65 O2 (R0.ext hB) hc0 (fun hx_ => (fun g h_ hS_ => Nat.not_le.2 (R0.old hx_ g h_) (box_low L2 _ hS_)))).mono ?_
    rintro _ w67 ⟨rfl, Q2, hq69, e68⟩
    rw [hq69] at Q2
    have O6 := O6.chgS e68 (box_inb (O6.apart_type O2 (by decide)))
    have hB := Chg.ext hB e68 (box_low L2)
    have O2 := Q2
    refine ⟨r64.1, rfl, ?_⟩
    refine buildOwn el3 ([r64.1] : List Int) (fun _ => by kernel_rfl) rfl (fun A70 w71 P7 e72 => ?_)
    have N7_2 := P7.apart_old O2.lt
    have N6_7 := Own.apart2_new O6 P7 (Nat.le_refl _)
    have O2 := O2.ext e72
    have O6 := O6.ext e72
    have O7 := P7.mono hB.size
    have hB := ethen hB e72
    obtain ⟨hl77, H⟩ := H
    refine appOwn slt26 slt26.under O6 O7.row hB.size rfl (by first | rfl | omega | (simp; done) | (simp; omega)) hl77 (fun A73 c74 w75 P6 e76 => ?_)
    have N6_2_ := Apart.app (O6.apart_type O2 (by decide)) e76 O2.lt
    have O2 := O2.app e76 (O6.apart_type O2 (by decide))
    have N7_6_ := Apart2.app (N6_7).symm e76 O7
    have O7 := O7.app e76 (N6_7).symm
    have N6_2 := N6_2_
    have N7_6 := N7_6_
    have hB := eapp hB e76 O6
    have O6 := P6
    obtain ⟨m78, hm79, hJ80⟩ := H
    exact ⟨m78, hm79, (xs53 ++ ([r64.1] : List Int)), (IntKind.wrap .i64 (i56 + 1)), r64.2.i, r64.2.h, A73, c74, rfl, hJ80, hB, O6, O2⟩
  have H := (bcase_iff.1 H).2 hc81
  obtain rfl := hr.trans H.symm
  exact ⟨A54, c55, rfl, O6, hB⟩
def laws_big.vc (A0 : Option Addr) (n0 : Nat) (c0 : Nat) (w : World) (K : Value → World → Prop) : Prop :=
  K (.bool (decide (((n0 : Nat) : Int) > 1048576))) w

def laws_big.ann : Ann := (.seq .l (.seq .l .l))

theorem laws_big.start {A0 : Option Addr} {n0 : Nat} {c0 : Nat} {w : World} {K : Value → World → Prop} (h : laws_big.vc A0 n0 c0 w K) : Cll Try.prog 6 #[(.slice A0 n0 c0)] w K :=
  vcF_sound mixed (fn := Try.f6) (by kernel_rfl) (by kernel_rfl) (an := laws_big.ann) (args := [(.slice A0 n0 c0)]) (Eq.mpr (by kernel_rfl) h)

theorem laws_big.con {xs0 : List Int} {A0 : Option Addr} {c0 : Nat} {r : Bool} {w : World} (hr : r = M.laws_big xs0) (R0 : Row el5 w A0 xs0) (hc0 : xs0.length ≤ c0) :
    Cll Try.prog 6 #[(.slice A0 xs0.length c0)] w (fun v_ w_ => v_ = (.bool r) ∧ Ext w w_) := by
  have H := wp.laws_big.math xs0
  have hB := Ext.refl w
  refine laws_big.start ?_
  unfold laws_big.vc
  unfold wp.laws_big at H
  obtain rfl := hr.trans H.symm
  exact ⟨rfl, hB⟩
def laws_sameInts.vc (A0 : Option Addr) (n0 : Nat) (c0 : Nat) (A1 : Option Addr) (n1 : Nat) (c1 : Nat) (w : World) (K : Value → World → Prop) : Prop :=
  bcase (((n0 : Nat) : Int) != ((n1 : Nat) : Int)) (K (.bool false) w) (LoopT (σ := Int × Unit) (fun z21 w22 next23 => bcase (decide (z21.1 < ((n0 : Nat) : Int))) (((0 : Int) ≤ z21.1 ∧ z21.1 < ((n0 : Nat) : Int) ∧ ∃ a24 : Addr, A0 = some a24 ∧ ∃ (n25 : Int), w22.cell? ((a24.add ((z21.1.toNat) * 1)).add 0) = some (.int .i64 n25) ∧ ((0 : Int) ≤ z21.1 ∧ z21.1 < ((n1 : Nat) : Int) ∧ ∃ a26 : Addr, A1 = some a26 ∧ ∃ (n27 : Int), w22.cell? ((a26.add ((z21.1.toNat) * 1)).add 0) = some (.int .i64 n27) ∧ bcase (n25 != n27) (K (.bool false) w22.drew) (next23 ((IntKind.wrap .i64 (z21.1 + 1)), ()) w22.drew)))) (K (.bool true) w22)) (0, ()) w)

def laws_sameInts.ann : Ann := (.seq .l (.seq (.seq .l (.two (.seq .l .l) .l)) (.seq (.seq .l (.one (.loop [(5, .int .i64)] (.seq (.seq .l (.two .l .l)) (.seq (.one (.seq .l (.two (.seq .l .l) .l))) .l))))) (.seq .l .l))))

theorem laws_sameInts.start {A0 : Option Addr} {n0 : Nat} {c0 : Nat} {A1 : Option Addr} {n1 : Nat} {c1 : Nat} {w : World} {K : Value → World → Prop} (h : laws_sameInts.vc A0 n0 c0 A1 n1 c1 w K) : Cll Try.prog 20 #[(.slice A0 n0 c0), (.slice A1 n1 c1)] w K :=
  vcF_sound mixed (fn := Try.f20) (by kernel_rfl) (by kernel_rfl) (an := laws_sameInts.ann) (args := [(.slice A0 n0 c0), (.slice A1 n1 c1)]) (Eq.mpr (by kernel_rfl) h)

theorem laws_sameInts.con {xs0 : List Int} {A0 : Option Addr} {c0 : Nat} {xs1 : List Int} {A1 : Option Addr} {c1 : Nat} {r : Bool} {w : World} (hp : M.laws_sameInts_pre xs0 xs1) (hr : r = M.laws_sameInts xs0 xs1) (R0 : Row el3 w A0 xs0) (hc0 : xs0.length ≤ c0) (R1 : Row el3 w A1 xs1) (hc1 : xs1.length ≤ c1) :
    Cll Try.prog 20 #[(.slice A0 xs0.length c0), (.slice A1 xs1.length c1)] w (fun v_ w_ => v_ = (.bool r) ∧ Ext w w_) := by
  have H := wp.laws_sameInts.math xs0 xs1 hp
  have hB := Ext.refl w
  refine laws_sameInts.start ?_
  unfold laws_sameInts.vc
  unfold wp.laws_sameInts at H
  refine bcase_mk (fun hc47 => ?_) (fun hc47 => ?_)
  · have H := (bcase_iff.1 H).1 hc47
    obtain rfl := hr.trans H.symm
    exact ⟨rfl, hB⟩
  have H := (bcase_iff.1 H).2 hc47
  obtain ⟨J23, ⟨m45, hJ44⟩, hS24⟩ := H
  refine ⟨fun m_ z_ w_ => ∃ (i21 : Int), z_ = (i21, ()) ∧ J23 m_ (i21, ()) ∧ Ext w w_, ⟨m45, 0, rfl, hJ44, hB⟩, ?_⟩
  rintro m22 _ w26 ⟨i21, rfl, hJ46, hB⟩
  have H := hS24 m22 _ hJ46
  clear hS24 hJ46
  try dsimp only at H ⊢
  refine bcase_mk (fun hc42 => ?_) (fun hc42 => ?_)
  · have H := (bcase_iff.1 H).1 hc42
    obtain ⟨⟨h0_31, h1_32⟩, H⟩ := H
    obtain ⟨a29, ha30, hat28⟩ := Row.at (R0.ext hB) h0_31 h1_32
    refine ⟨h0_31, h1_32, a29, ha30, ?_⟩
    refine ⟨_, (hat28 0 _ rfl), ?_⟩
    obtain ⟨⟨h0_36, h1_37⟩, H⟩ := H
    obtain ⟨a34, ha35, hat33⟩ := Row.at (R1.ext hB) h0_36 h1_37
    refine ⟨h0_36, h1_37, a34, ha35, ?_⟩
    refine ⟨_, (hat33 0 _ rfl), ?_⟩
    have hB := ethen hB (Ext.drew _)
    refine bcase_mk (fun hc41 => ?_) (fun hc41 => ?_)
    · have H := (bcase_iff.1 H).1 hc41
      obtain rfl := hr.trans H.symm
      exact ⟨rfl, hB⟩
    have H := (bcase_iff.1 H).2 hc41
    obtain ⟨m38, hm39, hJ40⟩ := H
    exact ⟨m38, hm39, (IntKind.wrap .i64 (i21 + 1)), rfl, hJ40, hB⟩
  have H := (bcase_iff.1 H).2 hc42
  obtain rfl := hr.trans H.symm
  exact ⟨rfl, hB⟩
def impl_isWarpCount.vc (x0 : Int) (w : World) (K : Value → World → Prop) : Prop :=
  Cll Try.prog 33 #[(.int .i64 x0), (.int .i64 1), (.int .i64 3)] w fun v21 w22 => (∃ (b23 : Bool), v21 = (.bool b23) ∧ K (.bool b23) w22)

def impl_isWarpCount.ann : Ann := (.seq .l (.seq .l .l))

theorem impl_isWarpCount.start {x0 : Int} {w : World} {K : Value → World → Prop} (h : impl_isWarpCount.vc x0 w K) : Cll Try.prog 41 #[(.int .i64 x0)] w K :=
  vcF_sound mixed (fn := Try.f41) (by kernel_rfl) (by kernel_rfl) (an := impl_isWarpCount.ann) (args := [(.int .i64 x0)]) (Eq.mpr (by kernel_rfl) h)

theorem impl_isWarpCount.con {x0 : Int} {r : Bool} {w : World} (hr : r = M.impl_isWarpCount x0)  :
    Cll Try.prog 41 #[(.int .i64 x0)] w (fun v_ w_ => v_ = (.bool r) ∧ Ext w w_) := by
  have H := wp.impl_isWarpCount.math x0
  have hB := Ext.refl w
  refine impl_isWarpCount.start ?_
  unfold impl_isWarpCount.vc
  unfold wp.impl_isWarpCount at H
  obtain ⟨r21, hr22⟩ : ∃ r_, r_ = M.impl_within x0 1 3 := ⟨_, rfl⟩
  have H := H r21 hr22
  refine (impl_within.con hr22 ).mono ?_
  rintro _ w24 ⟨rfl, e25⟩
  have hB := ethen hB e25
  refine ⟨r21, rfl, ?_⟩
  obtain rfl := hr.trans H.symm
  exact ⟨rfl, hB⟩
def impl_isMemory.vc (A0 : Option Addr) (n0 : Nat) (c0 : Nat) (w : World) (K : Value → World → Prop) : Prop :=
  bcase (((n0 : Nat) : Int) == 32) (Cll Try.prog 66 #[(.slice A0 n0 c0)] w fun v21 w22 => (∃ (b23 : Bool), v21 = (.bool b23) ∧ K (.bool b23) w22)) (K (.bool false) w)

def impl_isMemory.ann : Ann := (.seq .l (.seq .l .l))

theorem impl_isMemory.start {A0 : Option Addr} {n0 : Nat} {c0 : Nat} {w : World} {K : Value → World → Prop} (h : impl_isMemory.vc A0 n0 c0 w K) : Cll Try.prog 44 #[(.slice A0 n0 c0)] w K :=
  vcF_sound mixed (fn := Try.f44) (by kernel_rfl) (by kernel_rfl) (an := impl_isMemory.ann) (args := [(.slice A0 n0 c0)]) (Eq.mpr (by kernel_rfl) h)

theorem impl_isMemory.con {xs0 : List Int} {A0 : Option Addr} {c0 : Nat} {r : Bool} {w : World} (hp : M.impl_isMemory_pre xs0) (hr : r = M.impl_isMemory xs0) (R0 : Row el3 w A0 xs0) (hc0 : xs0.length ≤ c0) :
    Cll Try.prog 44 #[(.slice A0 xs0.length c0)] w (fun v_ w_ => v_ = (.bool r) ∧ Ext w w_) := by
  have H := wp.impl_isMemory.math xs0 hp
  have hB := Ext.refl w
  refine impl_isMemory.start ?_
  unfold impl_isMemory.vc
  unfold wp.impl_isMemory at H
  refine bcase_mk (fun hc26 => ?_) (fun hc26 => ?_)
  · have H := (bcase_iff.1 H).1 hc26
    obtain ⟨hp23, H⟩ := H
    obtain ⟨r21, hr22⟩ : ∃ r_, r_ = M.impl_AreWords xs0 := ⟨_, rfl⟩
    have H := H r21 hr22
    refine (impl_AreWords.con hp23 hr22 (R0.ext hB) hc0).mono ?_
    rintro _ w24 ⟨rfl, e25⟩
    have hB := ethen hB e25
    refine ⟨r21, rfl, ?_⟩
    obtain rfl := hr.trans H.symm
    exact ⟨rfl, hB⟩
  have H := (bcase_iff.1 H).2 hc26
  obtain rfl := hr.trans H.symm
  exact ⟨rfl, hB⟩
def impl_areAllRegs.vc (A0 : Option Addr) (n0 : Nat) (c0 : Nat) (w : World) (K : Value → World → Prop) : Prop :=
  K (.bool (((n0 : Nat) : Int) == 32)) w

def impl_areAllRegs.ann : Ann := (.seq .l (.seq .l .l))

theorem impl_areAllRegs.start {A0 : Option Addr} {n0 : Nat} {c0 : Nat} {w : World} {K : Value → World → Prop} (h : impl_areAllRegs.vc A0 n0 c0 w K) : Cll Try.prog 67 #[(.slice A0 n0 c0)] w K :=
  vcF_sound mixed (fn := Try.f67) (by kernel_rfl) (by kernel_rfl) (an := impl_areAllRegs.ann) (args := [(.slice A0 n0 c0)]) (Eq.mpr (by kernel_rfl) h)

theorem impl_areAllRegs.con {xs0 : List Int} {A0 : Option Addr} {c0 : Nat} {r : Bool} {w : World} (hr : r = M.impl_areAllRegs xs0) (R0 : Row el3 w A0 xs0) (hc0 : xs0.length ≤ c0) :
    Cll Try.prog 67 #[(.slice A0 xs0.length c0)] w (fun v_ w_ => v_ = (.bool r) ∧ Ext w w_) := by
  have H := wp.impl_areAllRegs.math xs0
  have hB := Ext.refl w
  refine impl_areAllRegs.start ?_
  unfold impl_areAllRegs.vc
  unfold wp.impl_areAllRegs at H
  obtain rfl := hr.trans H.symm
  exact ⟨rfl, hB⟩
def impl_areFrames.vc (A0 : Option Addr) (n0 : Nat) (c0 : Nat) (x1 : Int) (w : World) (K : Value → World → Prop) : Prop :=
  LoopT (σ := Int × Unit) (fun z21 w22 next23 => bcase (decide (z21.1 < ((n0 : Nat) : Int))) (((0 : Int) ≤ z21.1 ∧ z21.1 < ((n0 : Nat) : Int) ∧ ∃ a24 : Addr, A0 = some a24 ∧ ∃ (n25 : Int), w22.cell? ((a24.add ((z21.1.toNat) * 3)).add 0) = some (.int .i64 n25) ∧ ∃ (n26 : Int), w22.cell? ((a24.add ((z21.1.toNat) * 3)).add 1) = some (.int .i64 n26) ∧ ∃ (n27 : Int), w22.cell? ((a24.add ((z21.1.toNat) * 3)).add 2) = some (.int .i64 n27) ∧ newK w22 (.cells #[(.int .i64 0), (.int .i64 0), (.int .i64 0)] 81) fun g28 w29 => stCells (⟨g28, 0, none⟩ : Addr) [(.int .i64 n25), (.int .i64 n26), (.int .i64 n27)] 0 w29 fun w30 => ∃ (n31 : Int), w30.cell? (((⟨g28, 0, none⟩ : Addr).add 0).add 0) = some (.int .i64 n31) ∧ Cll Try.prog 33 #[(.int .i64 n31), (.int .i64 0), (.int .i64 x1)] w30 fun v32 w33 => (∃ (b34 : Bool), v32 = (.bool b34) ∧ bcase (!b34) (K (.bool false) w33) (∃ (n35 : Int), w33.cell? (((⟨g28, 0, none⟩ : Addr).add 1).add 0) = some (.int .i64 n35) ∧ Cll Try.prog 33 #[(.int .i64 n35), (.int .i64 0), (.int .i64 x1)] w33 fun v36 w37 => (∃ (b38 : Bool), v36 = (.bool b38) ∧ bcase (!b38) (K (.bool false) w37) (∃ (n39 : Int), w37.cell? (((⟨g28, 0, none⟩ : Addr).add 2).add 0) = some (.int .i64 n39) ∧ Cll Try.prog 82 #[(.int .i64 n39)] w37 fun v40 w41 => (∃ (b42 : Bool), v40 = (.bool b42) ∧ bcase (!b42) (K (.bool false) w41) (∃ (n43 : Int), w41.cell? (((⟨g28, 0, none⟩ : Addr).add 2).add 0) = some (.int .i64 n43) ∧ bcase (n43 == 0) (K (.bool false) w41) (next23 ((IntKind.wrap .i64 (z21.1 + 1)), ()) w41))))))))) (bcase (((n0 : Nat) : Int) == 0) (K (.bool true) w22) (((0 : Int) ≤ (IntKind.wrap .i64 (((n0 : Nat) : Int) - 1)) ∧ (IntKind.wrap .i64 (((n0 : Nat) : Int) - 1)) < ((n0 : Nat) : Int) ∧ ∃ a44 : Addr, A0 = some a44 ∧ ∃ (n45 : Int), w22.cell? ((a44.add (((IntKind.wrap .i64 (((n0 : Nat) : Int) - 1)).toNat) * 3)).add 0) = some (.int .i64 n45) ∧ ∃ (n46 : Int), w22.cell? ((a44.add (((IntKind.wrap .i64 (((n0 : Nat) : Int) - 1)).toNat) * 3)).add 1) = some (.int .i64 n46) ∧ ∃ (n47 : Int), w22.cell? ((a44.add (((IntKind.wrap .i64 (((n0 : Nat) : Int) - 1)).toNat) * 3)).add 2) = some (.int .i64 n47) ∧ newK w22 (.cells #[(.int .i64 0), (.int .i64 0), (.int .i64 0)] 81) fun g48 w49 => stCells (⟨g48, 0, none⟩ : Addr) [(.int .i64 n45), (.int .i64 n46), (.int .i64 n47)] 0 w49 fun w50 => bcase (decide (((n0 : Nat) : Int) ≤ 24)) (∃ (n51 : Int), w50.cell? (((⟨g48, 0, none⟩ : Addr).add 0).add 0) = some (.int .i64 n51) ∧ ∃ (n52 : Int), w50.cell? (((⟨g48, 0, none⟩ : Addr).add 1).add 0) = some (.int .i64 n52) ∧ bcase (n51 != n52) (∃ (n53 : Int), w50.cell? (((⟨g48, 0, none⟩ : Addr).add 0).add 0) = some (.int .i64 n53) ∧ bcase (n53 != x1) (((0 : Int) ≤ 0 ∧ 0 < ((n0 : Nat) : Int) ∧ ∃ a54 : Addr, A0 = some a54 ∧ ∃ (n55 : Int), w50.cell? (((a54.add (((0 : Int).toNat) * 3)).add 1).add 0) = some (.int .i64 n55) ∧ bcase (n55 == x1) (((0 : Int) ≤ 0 ∧ 0 < ((n0 : Nat) : Int) ∧ ∃ a56 : Addr, A0 = some a56 ∧ ∃ (n57 : Int), w50.cell? (((a56.add (((0 : Int).toNat) * 3)).add 2).add 0) = some (.int .i64 n57) ∧ K (.bool (n57 == 255)) w50)) (K (.bool false) w50))) (K (.bool false) w50)) (K (.bool false) w50)) (K (.bool false) w50))))) (0, ()) w

def impl_areFrames.ann : Ann := (.seq .l (.seq (.seq .l (.one (.loop [(10, .int .i64)] (.seq .l (.seq (.two .l .l) (.seq (.one (.seq .l (.seq .l (.two (.seq .l .l) .l)))) .l)))))) (.seq (.seq .l (.two (.seq .l .l) .l)) (.seq .l (.seq .l .l)))))

theorem impl_areFrames.start {A0 : Option Addr} {n0 : Nat} {c0 : Nat} {x1 : Int} {w : World} {K : Value → World → Prop} (h : impl_areFrames.vc A0 n0 c0 x1 w K) : Cll Try.prog 68 #[(.slice A0 n0 c0), (.int .i64 x1)] w K :=
  vcF_sound mixed (fn := Try.f68) (by kernel_rfl) (by kernel_rfl) (an := impl_areFrames.ann) (args := [(.slice A0 n0 c0), (.int .i64 x1)]) (Eq.mpr (by kernel_rfl) h)

theorem impl_areFrames.con {xs0 : List D.Frame} {A0 : Option Addr} {c0 : Nat} {x1 : Int} {r : Bool} {w : World} (hp : M.impl_areFrames_pre xs0 x1) (hr : r = M.impl_areFrames xs0 x1) (R0 : Row el81 w A0 xs0) (hc0 : xs0.length ≤ c0) :
    Cll Try.prog 68 #[(.slice A0 xs0.length c0), (.int .i64 x1)] w (fun v_ w_ => v_ = (.bool r) ∧ Ext w w_) := by
  have H := wp.impl_areFrames.math xs0 x1 hp
  have hB := Ext.refl w
  refine impl_areFrames.start ?_
  unfold impl_areFrames.vc
  unfold wp.impl_areFrames at H
  obtain ⟨J23, ⟨m85, hJ84⟩, hS24⟩ := H
  refine ⟨fun m_ z_ w_ => ∃ (i21 : Int), z_ = (i21, ()) ∧ J23 m_ (i21, ()) ∧ Ext w w_, ⟨m85, 0, rfl, hJ84, hB⟩, ?_⟩
  rintro m22 _ w26 ⟨i21, rfl, hJ86, hB⟩
  have H := hS24 m22 _ hJ86
  clear hS24 hJ86
  try dsimp only at H ⊢
  refine bcase_mk (fun hc82 => ?_) (fun hc82 => ?_)
  · have H := (bcase_iff.1 H).1 hc82
    obtain ⟨⟨h0_30, h1_31⟩, H⟩ := H
    obtain ⟨a28, ha29, hat27⟩ := Row.at (R0.ext hB) h0_30 h1_31
    refine ⟨h0_30, h1_31, a28, ha29, ?_⟩
    refine ⟨_, (hat27 0 _ rfl), ?_⟩
    refine ⟨_, (hat27 1 _ rfl), ?_⟩
    refine ⟨_, (hat27 2 _ rfl), ?_⟩
    refine newBlk (fun g2_ w32 L2 P2 e33 => ?_)
    have O2 := P2
    have L2 := Nat.le_trans hB.size L2
    have hB := ethen hB e33
    refine stBlk O2 (o := 0) (cs' := #[(.int .i64 ((rd xs0 i21).Pc)), (.int .i64 ((rd xs0 i21).Stop)), (.int .i64 ((rd xs0 i21).Mask))]) rfl rfl (Nat.le_of_ble_eq_true rfl) rfl (fun w34 P2 e35 => ?_)
    have hB := echg hB e35 L2
    have O2 := P2
    refine ⟨_, (O2.at 0 rfl rfl), ?_⟩
    obtain ⟨r36, hr37⟩ : ∃ r_, r_ = M.impl_within ((rd xs0 i21).Pc) 0 x1 := ⟨_, rfl⟩
    have H := H r36 hr37
    refine (impl_within.con hr37 ).mono ?_
    rintro _ w39 ⟨rfl, e40⟩
    have O2 := O2.ext e40
    have hB := ethen hB e40
    refine ⟨r36, rfl, ?_⟩
    refine bcase_mk (fun hc57 => ?_) (fun hc57 => ?_)
    · have H := (bcase_iff.1 H).1 hc57
      obtain rfl := hr.trans H.symm
      exact ⟨rfl, hB⟩
    have H := (bcase_iff.1 H).2 hc57
    refine ⟨_, (O2.at 1 rfl rfl), ?_⟩
    obtain ⟨r41, hr42⟩ : ∃ r_, r_ = M.impl_within ((rd xs0 i21).Stop) 0 x1 := ⟨_, rfl⟩
    have H := H r41 hr42
    refine (impl_within.con hr42 ).mono ?_
    rintro _ w44 ⟨rfl, e45⟩
    have O2 := O2.ext e45
    have hB := ethen hB e45
    refine ⟨r41, rfl, ?_⟩
    refine bcase_mk (fun hc56 => ?_) (fun hc56 => ?_)
    · have H := (bcase_iff.1 H).1 hc56
      obtain rfl := hr.trans H.symm
      exact ⟨rfl, hB⟩
    have H := (bcase_iff.1 H).2 hc56
    refine ⟨_, (O2.at 2 rfl rfl), ?_⟩
    obtain ⟨r46, hr47⟩ : ∃ r_, r_ = M.impl_IsMask ((rd xs0 i21).Mask) := ⟨_, rfl⟩
    have H := H r46 hr47
    refine (impl_IsMask.con hr47 ).mono ?_
    rintro _ w49 ⟨rfl, e50⟩
    have O2 := O2.ext e50
    have hB := ethen hB e50
    refine ⟨r46, rfl, ?_⟩
    refine bcase_mk (fun hc55 => ?_) (fun hc55 => ?_)
    · have H := (bcase_iff.1 H).1 hc55
      obtain rfl := hr.trans H.symm
      exact ⟨rfl, hB⟩
    have H := (bcase_iff.1 H).2 hc55
    refine ⟨_, (O2.at 2 rfl rfl), ?_⟩
    refine bcase_mk (fun hc54 => ?_) (fun hc54 => ?_)
    · have H := (bcase_iff.1 H).1 hc54
      obtain rfl := hr.trans H.symm
      exact ⟨rfl, hB⟩
    have H := (bcase_iff.1 H).2 hc54
    obtain ⟨m51, hm52, hJ53⟩ := H
    exact ⟨m51, hm52, (IntKind.wrap .i64 (i21 + 1)), rfl, hJ53, hB⟩
  have H := (bcase_iff.1 H).2 hc82
  refine bcase_mk (fun hc81 => ?_) (fun hc81 => ?_)
  · have H := (bcase_iff.1 H).1 hc81
    obtain rfl := hr.trans H.symm
    exact ⟨rfl, hB⟩
  have H := (bcase_iff.1 H).2 hc81
  obtain ⟨⟨h0_61, h1_62⟩, H⟩ := H
  obtain ⟨a59, ha60, hat58⟩ := Row.at (R0.ext hB) h0_61 h1_62
  refine ⟨h0_61, h1_62, a59, ha60, ?_⟩
  refine ⟨_, (hat58 0 _ rfl), ?_⟩
  refine ⟨_, (hat58 1 _ rfl), ?_⟩
  refine ⟨_, (hat58 2 _ rfl), ?_⟩
  refine newBlk (fun g3_ w63 L3 P3 e64 => ?_)
  have O3 := P3
  have L3 := Nat.le_trans hB.size L3
  have hB := ethen hB e64
  refine stBlk O3 (o := 0) (cs' := #[(.int .i64 ((rd xs0 (IntKind.wrap .i64 (((xs0.length : Nat) : Int) - 1))).Pc)), (.int .i64 ((rd xs0 (IntKind.wrap .i64 (((xs0.length : Nat) : Int) - 1))).Stop)), (.int .i64 ((rd xs0 (IntKind.wrap .i64 (((xs0.length : Nat) : Int) - 1))).Mask))]) rfl rfl (Nat.le_of_ble_eq_true rfl) rfl (fun w65 P3 e66 => ?_)
  have hB := echg hB e66 L3
  have O3 := P3
  refine bcase_mk (fun hc80 => ?_) (fun hc80 => ?_)
  · have H := (bcase_iff.1 H).1 hc80
    refine ⟨_, (O3.at 0 rfl rfl), ?_⟩
    refine ⟨_, (O3.at 1 rfl rfl), ?_⟩
    refine bcase_mk (fun hc79 => ?_) (fun hc79 => ?_)
    · have H := (bcase_iff.1 H).1 hc79
      refine ⟨_, (O3.at 0 rfl rfl), ?_⟩
      refine bcase_mk (fun hc78 => ?_) (fun hc78 => ?_)
      · have H := (bcase_iff.1 H).1 hc78
        obtain ⟨⟨h0_70, h1_71⟩, H⟩ := H
        obtain ⟨a68, ha69, hat67⟩ := Row.at (R0.ext hB) h0_70 h1_71
        refine ⟨h0_70, h1_71, a68, ha69, ?_⟩
        refine ⟨_, (hat67 1 _ rfl), ?_⟩
        refine bcase_mk (fun hc77 => ?_) (fun hc77 => ?_)
        · have H := (bcase_iff.1 H).1 hc77
          obtain ⟨⟨h0_75, h1_76⟩, H⟩ := H
          obtain ⟨a73, ha74, hat72⟩ := Row.at (R0.ext hB) h0_75 h1_76
          refine ⟨h0_75, h1_76, a73, ha74, ?_⟩
          refine ⟨_, (hat72 2 _ rfl), ?_⟩
          obtain rfl := hr.trans H.symm
          exact ⟨rfl, hB⟩
        have H := (bcase_iff.1 H).2 hc77
        obtain rfl := hr.trans H.symm
        exact ⟨rfl, hB⟩
      have H := (bcase_iff.1 H).2 hc78
      obtain rfl := hr.trans H.symm
      exact ⟨rfl, hB⟩
    have H := (bcase_iff.1 H).2 hc79
    obtain rfl := hr.trans H.symm
    exact ⟨rfl, hB⟩
  have H := (bcase_iff.1 H).2 hc80
  obtain rfl := hr.trans H.symm
  exact ⟨rfl, hB⟩
def impl_isWarpOf.vc (A0 : Option Addr) (n0 : Nat) (c0 : Nat) (x1_0 : Int) (A1_1 : Option Addr) (n1_1 : Nat) (c1_1 : Nat) (A1_2 : Option Addr) (n1_2 : Nat) (c1_2 : Nat) (w : World) (K : Value → World → Prop) : Prop :=
  newK w (.cells #[(.int .i64 x1_0), (.slice A1_1 n1_1 c1_1), (.slice A1_2 n1_2 c1_2)] 30) fun g21 w22 => ∃ (n23 : Int), w22.cell? (((⟨g21, 0, none⟩ : Addr).add 0).add 0) = some (.int .i64 n23) ∧ Cll Try.prog 25 #[(.int .i64 n23)] w22 fun v24 w25 => (∃ (b26 : Bool), v24 = (.bool b26) ∧ bcase b26 (∃ (A27 : Option Addr) (n28 : Nat) (c29 : Nat), w25.cell? (((⟨g21, 0, none⟩ : Addr).add 2).add 0) = some (.slice A27 n28 c29) ∧ Cll Try.prog 67 #[(.slice A27 n28 c29)] w25 fun v30 w31 => (∃ (b32 : Bool), v30 = (.bool b32) ∧ bcase b32 (∃ (A33 : Option Addr) (n34 : Nat) (c35 : Nat), w31.cell? (((⟨g21, 0, none⟩ : Addr).add 2).add 0) = some (.slice A33 n34 c35) ∧ Cll Try.prog 66 #[(.slice A33 n34 c35)] w31 fun v36 w37 => (∃ (b38 : Bool), v36 = (.bool b38) ∧ bcase b38 (∃ (A39 : Option Addr) (n40 : Nat) (c41 : Nat), w37.cell? (((⟨g21, 0, none⟩ : Addr).add 1).add 0) = some (.slice A39 n40 c41) ∧ Cll Try.prog 68 #[(.slice A39 n40 c41), (.int .i64 ((n0 : Nat) : Int))] w37 fun v42 w43 => (∃ (b44 : Bool), v42 = (.bool b44) ∧ K (.bool b44) w43)) (K (.bool false) w37))) (K (.bool false) w31))) (K (.bool false) w25))

def impl_isWarpOf.ann : Ann := (.seq .l (.seq .l .l))

theorem impl_isWarpOf.start {A0 : Option Addr} {n0 : Nat} {c0 : Nat} {x1_0 : Int} {A1_1 : Option Addr} {n1_1 : Nat} {c1_1 : Nat} {A1_2 : Option Addr} {n1_2 : Nat} {c1_2 : Nat} {w : World} {K : Value → World → Prop} (h : impl_isWarpOf.vc A0 n0 c0 x1_0 A1_1 n1_1 c1_1 A1_2 n1_2 c1_2 w K) : Cll Try.prog 46 #[(.slice A0 n0 c0), (.agg #[(.int .i64 x1_0), (.slice A1_1 n1_1 c1_1), (.slice A1_2 n1_2 c1_2)])] w K :=
  vcF_sound mixed (fn := Try.f46) (by kernel_rfl) (by kernel_rfl) (an := impl_isWarpOf.ann) (args := [(.slice A0 n0 c0), (.agg #[(.int .i64 x1_0), (.slice A1_1 n1_1 c1_1), (.slice A1_2 n1_2 c1_2)])]) (Eq.mpr (by kernel_rfl) h)

theorem impl_isWarpOf.con {xs0 : List D.Ins} {A0 : Option Addr} {c0 : Nat} {s1 : D.Warp} {A1_1 : Option Addr} {c1_1 : Nat} {A1_2 : Option Addr} {c1_2 : Nat} {r : Bool} {w : World} (hp : M.impl_isWarpOf_pre xs0 s1) (hr : r = M.impl_isWarpOf xs0 s1) (R0 : Row el60 w A0 xs0) (hc0 : xs0.length ≤ c0) (R1_1 : Row el81 w A1_1 s1.Frames) (hc1_1 : s1.Frames.length ≤ c1_1) (R1_2 : Row el3 w A1_2 s1.Regs) (hc1_2 : s1.Regs.length ≤ c1_2) :
    Cll Try.prog 46 #[(.slice A0 xs0.length c0), (.agg #[(.int .i64 s1.Number), (.slice A1_1 s1.Frames.length c1_1), (.slice A1_2 s1.Regs.length c1_2)])] w (fun v_ w_ => v_ = (.bool r) ∧ Ext w w_) := by
  have H := wp.impl_isWarpOf.math xs0 s1 hp
  have hB := Ext.refl w
  refine impl_isWarpOf.start ?_
  unfold impl_isWarpOf.vc
  unfold wp.impl_isWarpOf at H
  refine newBlk (fun g4_ w21 L4 P4 e22 => ?_)
  have O4 := P4
  have L4 := Nat.le_trans hB.size L4
  have hB := ethen hB e22
  refine ⟨_, (O4.at 0 rfl rfl), ?_⟩
  obtain ⟨r23, hr24⟩ : ∃ r_, r_ = M.impl_isWarpNumber s1.Number := ⟨_, rfl⟩
  have H := H r23 hr24
  refine (impl_isWarpNumber.con hr24 ).mono ?_
  rintro _ w26 ⟨rfl, e27⟩
  have O4 := O4.ext e27
  have hB := ethen hB e27
  refine ⟨r23, rfl, ?_⟩
  refine bcase_mk (fun hc45 => ?_) (fun hc45 => ?_)
  · have H := (bcase_iff.1 H).1 hc45
    refine ⟨_, _, _, (O4.at 2 rfl rfl), ?_⟩
    obtain ⟨r28, hr29⟩ : ∃ r_, r_ = M.impl_areAllRegs s1.Regs := ⟨_, rfl⟩
    have H := H r28 hr29
    refine (impl_areAllRegs.con hr29 (R1_2.ext hB) hc1_2).mono ?_
    rintro _ w31 ⟨rfl, e32⟩
    have O4 := O4.ext e32
    have hB := ethen hB e32
    refine ⟨r28, rfl, ?_⟩
    refine bcase_mk (fun hc44 => ?_) (fun hc44 => ?_)
    · have H := (bcase_iff.1 H).1 hc44
      refine ⟨_, _, _, (O4.at 2 rfl rfl), ?_⟩
      obtain ⟨hp35, H⟩ := H
      obtain ⟨r33, hr34⟩ : ∃ r_, r_ = M.impl_AreWords s1.Regs := ⟨_, rfl⟩
      have H := H r33 hr34
      refine (impl_AreWords.con hp35 hr34 (R1_2.ext hB) hc1_2).mono ?_
      rintro _ w36 ⟨rfl, e37⟩
      have O4 := O4.ext e37
      have hB := ethen hB e37
      refine ⟨r33, rfl, ?_⟩
      refine bcase_mk (fun hc43 => ?_) (fun hc43 => ?_)
      · have H := (bcase_iff.1 H).1 hc43
        refine ⟨_, _, _, (O4.at 1 rfl rfl), ?_⟩
        obtain ⟨hp40, H⟩ := H
        obtain ⟨r38, hr39⟩ : ∃ r_, r_ = M.impl_areFrames s1.Frames ((xs0.length : Nat) : Int) := ⟨_, rfl⟩
        have H := H r38 hr39
        refine (impl_areFrames.con hp40 hr39 (R1_1.ext hB) hc1_1).mono ?_
        rintro _ w41 ⟨rfl, e42⟩
        have O4 := O4.ext e42
        have hB := ethen hB e42
        refine ⟨r38, rfl, ?_⟩
        obtain rfl := hr.trans H.symm
        exact ⟨rfl, hB⟩
      have H := (bcase_iff.1 H).2 hc43
      obtain rfl := hr.trans H.symm
      exact ⟨rfl, hB⟩
    have H := (bcase_iff.1 H).2 hc44
    obtain rfl := hr.trans H.symm
    exact ⟨rfl, hB⟩
  have H := (bcase_iff.1 H).2 hc45
  obtain rfl := hr.trans H.symm
  exact ⟨rfl, hB⟩
def impl_BlockOk.vc (A0_0 : Option Addr) (n0_0 : Nat) (c0_0 : Nat) (A0_1 : Option Addr) (n0_1 : Nat) (c0_1 : Nat) (A0_2 : Option Addr) (n0_2 : Nat) (c0_2 : Nat) (x0_3 : Int) (x0_4 : Int) (w : World) (K : Value → World → Prop) : Prop :=
  newK w (.cells #[(.slice A0_0 n0_0 c0_0), (.slice A0_1 n0_1 c0_1), (.slice A0_2 n0_2 c0_2), (.int .i64 x0_3), (.int .i64 x0_4)] 41) fun g21 w22 => (∃ M24 : Nat → Prop, ∃ (A25 : Option Addr) (n26 : Nat) (c27 : Nat), (¬ M24 (((⟨g21, 0, none⟩ : Addr).add 0)).block ∧ w22.cell? (((⟨g21, 0, none⟩ : Addr).add 0).add 0) = some (.slice A25 n26 c27)) ∧ Cll Try.prog 32 #[(.slice A25 n26 c27)] w22.drew fun v28 w29 => (∃ (b30 : Bool), v28 = (.bool b30) ∧ SameBut M24 w22 w29 ∧ bcase (!b30) (K (.bool false) w29) (∃ (A31 : Option Addr) (n32 : Nat) (c33 : Nat), (¬ M24 (((⟨g21, 0, none⟩ : Addr).add 1)).block ∧ w22.cell? (((⟨g21, 0, none⟩ : Addr).add 1).add 0) = some (.slice A31 n32 c33)) ∧ Cll Try.prog 41 #[(.int .i64 ((n32 : Nat) : Int))] w29 fun v34 w35 => (∃ (b36 : Bool), v34 = (.bool b36) ∧ SameBut M24 w22 w35 ∧ bcase (!b36) (K (.bool false) w35) (∃ (A37 : Option Addr) (n38 : Nat) (c39 : Nat), (¬ M24 (((⟨g21, 0, none⟩ : Addr).add 2)).block ∧ w22.cell? (((⟨g21, 0, none⟩ : Addr).add 2).add 0) = some (.slice A37 n38 c39)) ∧ Cll Try.prog 44 #[(.slice A37 n38 c39)] w35 fun v40 w41 => (∃ (b42 : Bool), v40 = (.bool b42) ∧ SameBut M24 w22 w41 ∧ bcase (!b42) (K (.bool false) w41) (∃ (n43 : Int), (¬ M24 (((⟨g21, 0, none⟩ : Addr).add 3)).block ∧ w22.cell? (((⟨g21, 0, none⟩ : Addr).add 3).add 0) = some (.int .i64 n43)) ∧ ∃ (A44 : Option Addr) (n45 : Nat) (c46 : Nat), (¬ M24 (((⟨g21, 0, none⟩ : Addr).add 1)).block ∧ w22.cell? (((⟨g21, 0, none⟩ : Addr).add 1).add 0) = some (.slice A44 n45 c46)) ∧ ((0 : Int) ≤ ((n45 : Nat) : Int) ∧ Cll Try.prog 33 #[(.int .i64 n43), (.int .i64 0), (.int .i64 (IntKind.wrap .i64 ((IntKind.wrap .i64 (1 * 2 ^ (min (((n45 : Nat) : Int).toNat) (IntKind.bits .i64)))) - 2)))] w41 fun v47 w48 => (∃ (b49 : Bool), v47 = (.bool b49) ∧ SameBut M24 w22 w48 ∧ bcase (!b49) (K (.bool false) w48) (∃ (n50 : Int), (¬ M24 (((⟨g21, 0, none⟩ : Addr).add 4)).block ∧ w22.cell? (((⟨g21, 0, none⟩ : Addr).add 4).add 0) = some (.int .i64 n50)) ∧ Cll Try.prog 33 #[(.int .i64 n50), (.int .i64 0), (.int .i64 100000)] w48 fun v51 w52 => (∃ (b53 : Bool), v51 = (.bool b53) ∧ SameBut M24 w22 w52 ∧ bcase (!b53) (K (.bool false) w52) (∃ (A54 : Option Addr) (n55 : Nat) (c56 : Nat), w52.cell? (((⟨g21, 0, none⟩ : Addr).add 1).add 0) = some (.slice A54 n55 c56) ∧ LoopT (σ := Int × Unit) (fun z57 w58 next59 => bcase (decide (z57.1 < ((n55 : Nat) : Int))) (((0 : Int) ≤ z57.1 ∧ z57.1 < ((n55 : Nat) : Int) ∧ ∃ a60 : Addr, A54 = some a60 ∧ ∃ (n61 : Int), w58.cell? ((a60.add ((z57.1.toNat) * 3)).add 0) = some (.int .i64 n61) ∧ ∃ (A62 : Option Addr) (n63 : Nat) (c64 : Nat), w58.cell? ((a60.add ((z57.1.toNat) * 3)).add 1) = some (.slice A62 n63 c64) ∧ ∃ (A65 : Option Addr) (n66 : Nat) (c67 : Nat), w58.cell? ((a60.add ((z57.1.toNat) * 3)).add 2) = some (.slice A65 n66 c67) ∧ newK w58 (.cells #[(.int .i64 0), (.slice none 0 0), (.slice none 0 0)] 30) fun g68 w69 => stCells (⟨g68, 0, none⟩ : Addr) [(.int .i64 n61), (.slice A62 n63 c64), (.slice A65 n66 c67)] 0 w69 fun w70 => ∃ (n71 : Int), w70.cell? (((⟨g68, 0, none⟩ : Addr).add 0).add 0) = some (.int .i64 n71) ∧ bcase (n71 != z57.1) (K (.bool false) w70) (∃ (A72 : Option Addr) (n73 : Nat) (c74 : Nat), w70.cell? (((⟨g21, 0, none⟩ : Addr).add 0).add 0) = some (.slice A72 n73 c74) ∧ ∃ (n75 : Int), w70.cell? ((⟨g68, 0, none⟩ : Addr).add 0) = some (.int .i64 n75) ∧ ∃ (A76 : Option Addr) (n77 : Nat) (c78 : Nat), w70.cell? ((⟨g68, 0, none⟩ : Addr).add 1) = some (.slice A76 n77 c78) ∧ ∃ (A79 : Option Addr) (n80 : Nat) (c81 : Nat), w70.cell? ((⟨g68, 0, none⟩ : Addr).add 2) = some (.slice A79 n80 c81) ∧ Cll Try.prog 46 #[(.slice A72 n73 c74), (.agg #[(.int .i64 n75), (.slice A76 n77 c78), (.slice A79 n80 c81)])] w70 fun v82 w83 => (∃ (b84 : Bool), v82 = (.bool b84) ∧ bcase (!b84) (K (.bool false) w83) (next59 ((IntKind.wrap .i64 (z57.1 + 1)), ()) w83))))) (K (.bool true) w58)) (0, ()) w52))))))))))))

def impl_BlockOk.ann : Ann := (.seq .l (.seq (.seq .l (.two (.seq .l .l) .l)) (.seq (.seq .l (.one (.loop [(42, .int .i64)] (.seq .l (.seq (.two .l .l) (.seq (.one (.seq .l (.seq .l (.two (.seq .l .l) .l)))) .l)))))) (.seq .l .l))))

theorem impl_BlockOk.start {A0_0 : Option Addr} {n0_0 : Nat} {c0_0 : Nat} {A0_1 : Option Addr} {n0_1 : Nat} {c0_1 : Nat} {A0_2 : Option Addr} {n0_2 : Nat} {c0_2 : Nat} {x0_3 : Int} {x0_4 : Int} {w : World} {K : Value → World → Prop} (h : impl_BlockOk.vc A0_0 n0_0 c0_0 A0_1 n0_1 c0_1 A0_2 n0_2 c0_2 x0_3 x0_4 w K) : Cll Try.prog 19 #[(.agg #[(.slice A0_0 n0_0 c0_0), (.slice A0_1 n0_1 c0_1), (.slice A0_2 n0_2 c0_2), (.int .i64 x0_3), (.int .i64 x0_4)])] w K :=
  vcF_sound mixed (fn := Try.f19) (by kernel_rfl) (by kernel_rfl) (an := impl_BlockOk.ann) (args := [(.agg #[(.slice A0_0 n0_0 c0_0), (.slice A0_1 n0_1 c0_1), (.slice A0_2 n0_2 c0_2), (.int .i64 x0_3), (.int .i64 x0_4)])]) (Eq.mpr (by kernel_rfl) h)

theorem impl_BlockOk.con {s0 : D.Block} {A0_0 : Option Addr} {c0_0 : Nat} {A0_1 : Option Addr} {c0_1 : Nat} {A0_2 : Option Addr} {c0_2 : Nat} {r : Bool} {w : World} (hp : M.impl_BlockOk_pre s0) (hr : r = M.impl_BlockOk s0) (R0_0 : Row el60 w A0_0 s0.Code) (hc0_0 : s0.Code.length ≤ c0_0) (R0_1 : RowW 30 el81 el3 w A0_1 s0.Warps) (hc0_1 : s0.Warps.length ≤ c0_1) (R0_2 : Row el3 w A0_2 s0.Memory) (hc0_2 : s0.Memory.length ≤ c0_2) :
    Cll Try.prog 19 #[(.agg #[(.slice A0_0 s0.Code.length c0_0), (.slice A0_1 s0.Warps.length c0_1), (.slice A0_2 s0.Memory.length c0_2), (.int .i64 s0.Waiting), (.int .i64 s0.Phase)])] w (fun v_ w_ => v_ = (.bool r) ∧ Ext w w_) := by
  have H := wp.impl_BlockOk.math s0 hp
  have hB := Ext.refl w
  refine impl_BlockOk.start ?_
  unfold impl_BlockOk.vc
  unfold wp.impl_BlockOk at H
  refine newBlk (fun g4_ w21 L4 P4 e22 => ?_)
  have O4 := P4
  have L4 := Nat.le_trans hB.size L4
  have hB := ethen hB e22
  refine ⟨(fun _ => False), ?_⟩
  have hBz := hB
  have Z4 := O4
  refine ⟨_, _, _, ⟨(fun h_ => h_), (O4.at 0 rfl rfl)⟩, ?_⟩
  have hS23 := Chg.refl (fun _ => False) w21
  have O4 := O4.ext (Ext.drew _)
  have hB := ethen hB (Ext.drew _)
  have hS23 := hS23.then (Ext.drew _)
  obtain ⟨hp31, H⟩ := H
  obtain ⟨r29, hr30⟩ : ∃ r_, r_ = M.impl_ProgramOk s0.Code := ⟨_, rfl⟩
  have H := H r29 hr30
  refine (impl_ProgramOk.con hp31 hr30 (R0_0.ext hB) hc0_0).mono ?_
  rintro _ w32 ⟨rfl, e33⟩
  have O4 := O4.ext e33
  have hB := ethen hB e33
  have hS23 := hS23.then e33
  refine ⟨r29, rfl, ?_⟩
  refine ⟨sameBut_chg hS23, ?_⟩
  refine bcase_mk (fun hc100 => ?_) (fun hc100 => ?_)
  · have H := (bcase_iff.1 H).1 hc100
    obtain rfl := hr.trans H.symm
    exact ⟨rfl, hB⟩
  have H := (bcase_iff.1 H).2 hc100
  refine ⟨_, _, _, ⟨(fun h_ => h_), (Z4.at 1 rfl rfl)⟩, ?_⟩
  obtain ⟨r34, hr35⟩ : ∃ r_, r_ = M.impl_isWarpCount ((s0.Warps.length : Nat) : Int) := ⟨_, rfl⟩
  have H := H r34 hr35
  refine (impl_isWarpCount.con hr35 ).mono ?_
  rintro _ w37 ⟨rfl, e38⟩
  have O4 := O4.ext e38
  have hB := ethen hB e38
  have hS23 := hS23.then e38
  refine ⟨r34, rfl, ?_⟩
  refine ⟨sameBut_chg hS23, ?_⟩
  refine bcase_mk (fun hc99 => ?_) (fun hc99 => ?_)
  · have H := (bcase_iff.1 H).1 hc99
    obtain rfl := hr.trans H.symm
    exact ⟨rfl, hB⟩
  have H := (bcase_iff.1 H).2 hc99
  refine ⟨_, _, _, ⟨(fun h_ => h_), (Z4.at 2 rfl rfl)⟩, ?_⟩
  obtain ⟨hp41, H⟩ := H
  obtain ⟨r39, hr40⟩ : ∃ r_, r_ = M.impl_isMemory s0.Memory := ⟨_, rfl⟩
  have H := H r39 hr40
  refine (impl_isMemory.con hp41 hr40 (R0_2.ext hB) hc0_2).mono ?_
  rintro _ w42 ⟨rfl, e43⟩
  have O4 := O4.ext e43
  have hB := ethen hB e43
  have hS23 := hS23.then e43
  refine ⟨r39, rfl, ?_⟩
  refine ⟨sameBut_chg hS23, ?_⟩
  refine bcase_mk (fun hc98 => ?_) (fun hc98 => ?_)
  · have H := (bcase_iff.1 H).1 hc98
    obtain rfl := hr.trans H.symm
    exact ⟨rfl, hB⟩
  have H := (bcase_iff.1 H).2 hc98
  refine ⟨_, ⟨(fun h_ => h_), (Z4.at 3 rfl rfl)⟩, ?_⟩
  refine ⟨_, _, _, ⟨(fun h_ => h_), (Z4.at 1 rfl rfl)⟩, ?_⟩
  obtain ⟨hc44, H⟩ := H
  refine ⟨hc44, ?_⟩
  obtain ⟨r45, hr46⟩ : ∃ r_, r_ = M.impl_within s0.Waiting 0 (IntKind.wrap .i64 ((IntKind.wrap .i64 (1 * 2 ^ (min (((s0.Warps.length : Nat) : Int).toNat) (IntKind.bits .i64)))) - 2)) := ⟨_, rfl⟩
  have H := H r45 hr46
  refine (impl_within.con hr46 ).mono ?_
  rintro _ w48 ⟨rfl, e49⟩
  have O4 := O4.ext e49
  have hB := ethen hB e49
  have hS23 := hS23.then e49
  refine ⟨r45, rfl, ?_⟩
  refine ⟨sameBut_chg hS23, ?_⟩
  refine bcase_mk (fun hc97 => ?_) (fun hc97 => ?_)
  · have H := (bcase_iff.1 H).1 hc97
    obtain rfl := hr.trans H.symm
    exact ⟨rfl, hB⟩
  have H := (bcase_iff.1 H).2 hc97
  refine ⟨_, ⟨(fun h_ => h_), (Z4.at 4 rfl rfl)⟩, ?_⟩
  obtain ⟨r50, hr51⟩ : ∃ r_, r_ = M.impl_within s0.Phase 0 100000 := ⟨_, rfl⟩
  have H := H r50 hr51
  refine (impl_within.con hr51 ).mono ?_
  rintro _ w53 ⟨rfl, e54⟩
  have O4 := O4.ext e54
  have hB := ethen hB e54
  have hS23 := hS23.then e54
  refine ⟨r50, rfl, ?_⟩
  refine ⟨sameBut_chg hS23, ?_⟩
  refine bcase_mk (fun hc96 => ?_) (fun hc96 => ?_)
  · have H := (bcase_iff.1 H).1 hc96
    obtain rfl := hr.trans H.symm
    exact ⟨rfl, hB⟩
  have H := (bcase_iff.1 H).2 hc96
  refine ⟨_, _, _, (O4.at 1 rfl rfl), ?_⟩
  obtain ⟨J57, ⟨m94, hJ93⟩, hS58⟩ := H
  refine ⟨fun m_ z_ w_ => ∃ (i55 : Int), z_ = (i55, ()) ∧ J57 m_ (i55, ()) ∧ Ext w w_ ∧ Blk w_ g4_ 41 #[(.slice A0_0 s0.Code.length c0_0), (.slice A0_1 s0.Warps.length c0_1), (.slice A0_2 s0.Memory.length c0_2), (.int .i64 s0.Waiting), (.int .i64 s0.Phase)], ⟨m94, 0, rfl, hJ93, hB, O4⟩, ?_⟩
  rintro m56 _ w60 ⟨i55, rfl, hJ95, hB, O4⟩
  have H := hS58 m56 _ hJ95
  clear hS58 hJ95
  try dsimp only at H ⊢
  refine bcase_mk (fun hc91 => ?_) (fun hc91 => ?_)
  · have H := (bcase_iff.1 H).1 hc91
    obtain ⟨⟨h0_64, h1_65⟩, H⟩ := H
    obtain ⟨a62, ha63, A69, c70, A71, c72, f66, f67, f68, R73, hle75, R74, hle76⟩ := RowW.at R0_1 h0_64 h1_65
    refine ⟨h0_64, h1_65, a62, ha63, ?_⟩
    refine ⟨_, (Ext.cell hB f66), ?_⟩
    refine ⟨_, _, _, (Ext.cell hB f67), ?_⟩
    refine ⟨_, _, _, (Ext.cell hB f68), ?_⟩
    refine newBlk (fun g7_ w77 L7 P7 e78 => ?_)
    have N4_7 := O4.ne L7
    have O4 := O4.ext e78
    have O7 := P7
    have L7 := Nat.le_trans hB.size L7
    have hB := ethen hB e78
    refine stBlk O7 (o := 0) (cs' := #[(.int .i64 ((rd s0.Warps i55).Number)), (.slice A69 ((rd s0.Warps i55).Frames.length) c70), (.slice A71 ((rd s0.Warps i55).Regs.length) c72)]) rfl rfl (Nat.le_of_ble_eq_true rfl) rfl (fun w79 P7 e80 => ?_)
    have O4_ := O4.chg e80 N4_7
    have O4 := O4_
    have hB := echg hB e80 L7
    have O7 := P7
    refine ⟨_, (O7.at 0 rfl rfl), ?_⟩
    refine bcase_mk (fun hc90 => ?_) (fun hc90 => ?_)
    · have H := (bcase_iff.1 H).1 hc90
      obtain rfl := hr.trans H.symm
      exact ⟨rfl, hB⟩
    have H := (bcase_iff.1 H).2 hc90
    refine ⟨_, _, _, (O4.at 0 rfl rfl), ?_⟩
    refine ⟨_, (O7.at 0 rfl rfl), ?_⟩
    refine ⟨_, _, _, (O7.at 1 rfl rfl), ?_⟩
    refine ⟨_, _, _, (O7.at 2 rfl rfl), ?_⟩
    obtain ⟨hp83, H⟩ := H
    obtain ⟨r81, hr82⟩ : ∃ r_, r_ = M.impl_isWarpOf s0.Code (rd s0.Warps i55) := ⟨_, rfl⟩
    have H := H r81 hr82
    refine (cllArgs (by first | (simp only [List.length_set]; done) | (simp; done)) (impl_isWarpOf.con hp83 hr82 (R0_0.ext hB) hc0_0 (R73.ext hB) hle75 (R74.ext hB) hle76)).mono ?_
    rintro _ w84 ⟨rfl, e85⟩
    have O4 := O4.ext e85
    have O7 := O7.ext e85
    have hB := ethen hB e85
    refine ⟨r81, rfl, ?_⟩
    refine bcase_mk (fun hc89 => ?_) (fun hc89 => ?_)
    · have H := (bcase_iff.1 H).1 hc89
      obtain rfl := hr.trans H.symm
      exact ⟨rfl, hB⟩
    have H := (bcase_iff.1 H).2 hc89
    obtain ⟨m86, hm87, hJ88⟩ := H
    exact ⟨m86, hm87, (IntKind.wrap .i64 (i55 + 1)), rfl, hJ88, hB, O4⟩
  have H := (bcase_iff.1 H).2 hc91
  obtain rfl := hr.trans H.symm
  exact ⟨rfl, hB⟩
def slices_Equal_impl_Ins_impl_Ins.vc (A0 : Option Addr) (n0 : Nat) (c0 : Nat) (A1 : Option Addr) (n1 : Nat) (c1 : Nat) (w : World) (K : Value → World → Prop) : Prop :=
  bcase (((n0 : Nat) : Int) != ((n1 : Nat) : Int)) (K (.bool false) w) (LoopT (σ := Int × Unit) (fun z21 w22 next23 => bcase (decide (z21.1 < ((n0 : Nat) : Int))) (((0 : Int) ≤ z21.1 ∧ z21.1 < ((n0 : Nat) : Int) ∧ ∃ a24 : Addr, A0 = some a24 ∧ ∃ (n25 : Int), w22.cell? ((a24.add ((z21.1.toNat) * 4)).add 0) = some (.int .i64 n25) ∧ ∃ (n26 : Int), w22.cell? ((a24.add ((z21.1.toNat) * 4)).add 1) = some (.int .i64 n26) ∧ ∃ (n27 : Int), w22.cell? ((a24.add ((z21.1.toNat) * 4)).add 2) = some (.int .i64 n27) ∧ ∃ (n28 : Int), w22.cell? ((a24.add ((z21.1.toNat) * 4)).add 3) = some (.int .i64 n28) ∧ ((0 : Int) ≤ z21.1 ∧ z21.1 < ((n1 : Nat) : Int) ∧ ∃ a29 : Addr, A1 = some a29 ∧ ∃ (n30 : Int), w22.cell? ((a29.add ((z21.1.toNat) * 4)).add 0) = some (.int .i64 n30) ∧ ∃ (n31 : Int), w22.cell? ((a29.add ((z21.1.toNat) * 4)).add 1) = some (.int .i64 n31) ∧ ∃ (n32 : Int), w22.cell? ((a29.add ((z21.1.toNat) * 4)).add 2) = some (.int .i64 n32) ∧ ∃ (n33 : Int), w22.cell? ((a29.add ((z21.1.toNat) * 4)).add 3) = some (.int .i64 n33) ∧ BinRun Try.prog .neq 60 (.agg #[(.int .i64 n25), (.int .i64 n26), (.int .i64 n27), (.int .i64 n28)]) (.agg #[(.int .i64 n30), (.int .i64 n31), (.int .i64 n32), (.int .i64 n33)]) fun b34 => bcase b34 (K (.bool false) w22.drew) (next23 ((IntKind.wrap .i64 (z21.1 + 1)), ()) w22.drew)))) (K (.bool true) w22)) (0, ()) w)

def slices_Equal_impl_Ins_impl_Ins.ann : Ann := (.seq .l (.seq (.seq .l (.two (.seq .l .l) .l)) (.seq (.seq .l (.one (.loop [(13, .int .i64)] (.seq .l (.seq (.two .l .l) (.seq (.one (.seq .l (.seq .l (.two (.seq .l .l) .l)))) .l)))))) (.seq .l .l))))

theorem slices_Equal_impl_Ins_impl_Ins.start {A0 : Option Addr} {n0 : Nat} {c0 : Nat} {A1 : Option Addr} {n1 : Nat} {c1 : Nat} {w : World} {K : Value → World → Prop} (h : slices_Equal_impl_Ins_impl_Ins.vc A0 n0 c0 A1 n1 c1 w K) : Cll Try.prog 47 #[(.slice A0 n0 c0), (.slice A1 n1 c1)] w K :=
  vcF_sound mixed (fn := Try.f47) (by kernel_rfl) (by kernel_rfl) (an := slices_Equal_impl_Ins_impl_Ins.ann) (args := [(.slice A0 n0 c0), (.slice A1 n1 c1)]) (Eq.mpr (by kernel_rfl) h)

theorem slices_Equal_impl_Ins_impl_Ins.con {xs0 : List D.Ins} {A0 : Option Addr} {c0 : Nat} {xs1 : List D.Ins} {A1 : Option Addr} {c1 : Nat} {r : Bool} {w : World} (hp : M.slices_Equal_impl_Ins_impl_Ins_pre xs0 xs1) (hr : r = M.slices_Equal_impl_Ins_impl_Ins xs0 xs1) (R0 : Row el60 w A0 xs0) (hc0 : xs0.length ≤ c0) (R1 : Row el60 w A1 xs1) (hc1 : xs1.length ≤ c1) :
    Cll Try.prog 47 #[(.slice A0 xs0.length c0), (.slice A1 xs1.length c1)] w (fun v_ w_ => v_ = (.bool r) ∧ Ext w w_) := by
  have H := wp.slices_Equal_impl_Ins_impl_Ins.math xs0 xs1 hp
  have hB := Ext.refl w
  refine slices_Equal_impl_Ins_impl_Ins.start ?_
  unfold slices_Equal_impl_Ins_impl_Ins.vc
  unfold wp.slices_Equal_impl_Ins_impl_Ins at H
  refine bcase_mk (fun hc47 => ?_) (fun hc47 => ?_)
  · have H := (bcase_iff.1 H).1 hc47
    obtain rfl := hr.trans H.symm
    exact ⟨rfl, hB⟩
  have H := (bcase_iff.1 H).2 hc47
  obtain ⟨J23, ⟨m45, hJ44⟩, hS24⟩ := H
  refine ⟨fun m_ z_ w_ => ∃ (i21 : Int), z_ = (i21, ()) ∧ J23 m_ (i21, ()) ∧ Ext w w_, ⟨m45, 0, rfl, hJ44, hB⟩, ?_⟩
  rintro m22 _ w26 ⟨i21, rfl, hJ46, hB⟩
  have H := hS24 m22 _ hJ46
  clear hS24 hJ46
  try dsimp only at H ⊢
  refine bcase_mk (fun hc42 => ?_) (fun hc42 => ?_)
  · have H := (bcase_iff.1 H).1 hc42
    obtain ⟨⟨h0_31, h1_32⟩, H⟩ := H
    obtain ⟨a29, ha30, hat28⟩ := Row.at (R0.ext hB) h0_31 h1_32
    refine ⟨h0_31, h1_32, a29, ha30, ?_⟩
    refine ⟨_, (hat28 0 _ rfl), ?_⟩
    refine ⟨_, (hat28 1 _ rfl), ?_⟩
    refine ⟨_, (hat28 2 _ rfl), ?_⟩
    refine ⟨_, (hat28 3 _ rfl), ?_⟩
    obtain ⟨⟨h0_36, h1_37⟩, H⟩ := H
    obtain ⟨a34, ha35, hat33⟩ := Row.at (R1.ext hB) h0_36 h1_37
    refine ⟨h0_36, h1_37, a34, ha35, ?_⟩
    refine ⟨_, (hat33 0 _ rfl), ?_⟩
    refine ⟨_, (hat33 1 _ rfl), ?_⟩
    refine ⟨_, (hat33 2 _ rfl), ?_⟩
    refine ⟨_, (hat33 3 _ rfl), ?_⟩
    refine ⟨_, run_neq60 ((rd xs0 i21).Op) ((rd xs0 i21).A) ((rd xs0 i21).B) ((rd xs0 i21).C) ((rd xs1 i21).Op) ((rd xs1 i21).A) ((rd xs1 i21).B) ((rd xs1 i21).C), ?_⟩
    have hB := ethen hB (Ext.drew _)
    refine bcase_mk (fun hc41 => ?_) (fun hc41 => ?_)
    · have H := (bcase_iff.1 H).1 hc41
      obtain rfl := hr.trans H.symm
      exact ⟨rfl, hB⟩
    have H := (bcase_iff.1 H).2 hc41
    obtain ⟨m38, hm39, hJ40⟩ := H
    exact ⟨m38, hm39, (IntKind.wrap .i64 (i21 + 1)), rfl, hJ40, hB⟩
  have H := (bcase_iff.1 H).2 hc42
  obtain rfl := hr.trans H.symm
  exact ⟨rfl, hB⟩
def slices_EqualFunc_impl_Warp_impl_Warp_impl_Warp_impl_Warp.vc (A0 : Option Addr) (n0 : Nat) (c0 : Nat) (A1 : Option Addr) (n1 : Nat) (c1 : Nat) (f2 : Nat) (cap2 : Array Value) (w : World) (K : Value → World → Prop) : Prop :=
  bcase (((n0 : Nat) : Int) != ((n1 : Nat) : Int)) (K (.bool false) w) (LoopT (σ := Int × Unit) (fun z21 w22 next23 => bcase (decide (z21.1 < ((n0 : Nat) : Int))) (((0 : Int) ≤ z21.1 ∧ z21.1 < ((n0 : Nat) : Int) ∧ ∃ a24 : Addr, A0 = some a24 ∧ ∃ (n25 : Int), w22.cell? ((a24.add ((z21.1.toNat) * 3)).add 0) = some (.int .i64 n25) ∧ ∃ (A26 : Option Addr) (n27 : Nat) (c28 : Nat), w22.cell? ((a24.add ((z21.1.toNat) * 3)).add 1) = some (.slice A26 n27 c28) ∧ ∃ (A29 : Option Addr) (n30 : Nat) (c31 : Nat), w22.cell? ((a24.add ((z21.1.toNat) * 3)).add 2) = some (.slice A29 n30 c31) ∧ newK w22 (.cells #[(.int .i64 0), (.slice none 0 0), (.slice none 0 0)] 30) fun g32 w33 => stCells (⟨g32, 0, none⟩ : Addr) [(.int .i64 n25), (.slice A26 n27 c28), (.slice A29 n30 c31)] 0 w33 fun w34 => ((0 : Int) ≤ z21.1 ∧ z21.1 < ((n1 : Nat) : Int) ∧ ∃ a35 : Addr, A1 = some a35 ∧ ∃ (n36 : Int), w34.cell? ((a35.add ((z21.1.toNat) * 3)).add 0) = some (.int .i64 n36) ∧ ∃ (A37 : Option Addr) (n38 : Nat) (c39 : Nat), w34.cell? ((a35.add ((z21.1.toNat) * 3)).add 1) = some (.slice A37 n38 c39) ∧ ∃ (A40 : Option Addr) (n41 : Nat) (c42 : Nat), w34.cell? ((a35.add ((z21.1.toNat) * 3)).add 2) = some (.slice A40 n41 c42) ∧ newK w34 (.cells #[(.int .i64 0), (.slice none 0 0), (.slice none 0 0)] 30) fun g43 w44 => stCells (⟨g43, 0, none⟩ : Addr) [(.int .i64 n36), (.slice A37 n38 c39), (.slice A40 n41 c42)] 0 w44 fun w45 => ∃ (n46 : Int), w45.cell? ((⟨g32, 0, none⟩ : Addr).add 0) = some (.int .i64 n46) ∧ ∃ (A47 : Option Addr) (n48 : Nat) (c49 : Nat), w45.cell? ((⟨g32, 0, none⟩ : Addr).add 1) = some (.slice A47 n48 c49) ∧ ∃ (A50 : Option Addr) (n51 : Nat) (c52 : Nat), w45.cell? ((⟨g32, 0, none⟩ : Addr).add 2) = some (.slice A50 n51 c52) ∧ ∃ (n53 : Int), w45.cell? ((⟨g43, 0, none⟩ : Addr).add 0) = some (.int .i64 n53) ∧ ∃ (A54 : Option Addr) (n55 : Nat) (c56 : Nat), w45.cell? ((⟨g43, 0, none⟩ : Addr).add 1) = some (.slice A54 n55 c56) ∧ ∃ (A57 : Option Addr) (n58 : Nat) (c59 : Nat), w45.cell? ((⟨g43, 0, none⟩ : Addr).add 2) = some (.slice A57 n58 c59) ∧ Cll Try.prog f2 (#[(.agg #[(.int .i64 n46), (.slice A47 n48 c49), (.slice A50 n51 c52)]), (.agg #[(.int .i64 n53), (.slice A54 n55 c56), (.slice A57 n58 c59)])] ++ cap2) w45 fun v60 w61 => (∃ (b62 : Bool), v60 = (.bool b62) ∧ bcase (!b62) (K (.bool false) w61) (next23 ((IntKind.wrap .i64 (z21.1 + 1)), ()) w61))))) (K (.bool true) w22)) (0, ()) w)

def slices_EqualFunc_impl_Warp_impl_Warp_impl_Warp_impl_Warp.ann : Ann := (.seq .l (.seq (.seq .l (.two (.seq .l .l) .l)) (.seq (.seq .l (.one (.loop [(17, .int .i64)] (.seq .l (.seq (.two .l .l) (.seq (.one (.seq .l (.seq .l (.seq .l (.two (.seq .l .l) .l))))) .l)))))) (.seq .l .l))))

theorem slices_EqualFunc_impl_Warp_impl_Warp_impl_Warp_impl_Warp.start {A0 : Option Addr} {n0 : Nat} {c0 : Nat} {A1 : Option Addr} {n1 : Nat} {c1 : Nat} {f2 : Nat} {cap2 : Array Value} {w : World} {K : Value → World → Prop} (h : slices_EqualFunc_impl_Warp_impl_Warp_impl_Warp_impl_Warp.vc A0 n0 c0 A1 n1 c1 f2 cap2 w K) : Cll Try.prog 48 #[(.slice A0 n0 c0), (.slice A1 n1 c1), (.func (.func f2) #[] cap2)] w K :=
  vcF_sound mixed (fn := Try.f48) (by kernel_rfl) (by kernel_rfl) (an := slices_EqualFunc_impl_Warp_impl_Warp_impl_Warp_impl_Warp.ann) (args := [(.slice A0 n0 c0), (.slice A1 n1 c1), (.func (.func f2) #[] cap2)]) (Eq.mpr (by kernel_rfl) h)

theorem slices_EqualFunc_impl_Warp_impl_Warp_impl_Warp_impl_Warp.con {xs0 : List D.Warp} {A0 : Option Addr} {c0 : Nat} {xs1 : List D.Warp} {A1 : Option Addr} {c1 : Nat} {f2 : Nat} {cap2 : Array Value} {g2 : D.Warp → D.Warp → Bool} {D2 : D.Warp → D.Warp → Prop} {r : Bool} {w : World} (hp : M.slices_EqualFunc_impl_Warp_impl_Warp_impl_Warp_impl_Warp_pre xs0 xs1 g2 D2) (hr : r = M.slices_EqualFunc_impl_Warp_impl_Warp_impl_Warp_impl_Warp xs0 xs1 g2) (R0 : RowW 30 el81 el3 w A0 xs0) (hc0 : xs0.length ≤ c0) (R1 : RowW 30 el81 el3 w A1 xs1) (hc1 : xs1.length ≤ c1) (F2 : ∀ (z0_ : D.Warp) (z1_ : D.Warp) (Az0_1 : Option Addr) (cz0_1 : Nat) (Az0_2 : Option Addr) (cz0_2 : Nat) (Az1_1 : Option Addr) (cz1_1 : Nat) (Az1_2 : Option Addr) (cz1_2 : Nat), D2 z0_ z1_ → ∀ w_ : World, Ext w w_ → Row el81 w_ Az0_1 z0_.Frames → z0_.Frames.length ≤ cz0_1 → Row el3 w_ Az0_2 z0_.Regs → z0_.Regs.length ≤ cz0_2 → Row el81 w_ Az1_1 z1_.Frames → z1_.Frames.length ≤ cz1_1 → Row el3 w_ Az1_2 z1_.Regs → z1_.Regs.length ≤ cz1_2 → Cll Try.prog f2 (#[(.agg #[(.int .i64 z0_.Number), (.slice Az0_1 z0_.Frames.length cz0_1), (.slice Az0_2 z0_.Regs.length cz0_2)]), (.agg #[(.int .i64 z1_.Number), (.slice Az1_1 z1_.Frames.length cz1_1), (.slice Az1_2 z1_.Regs.length cz1_2)])] ++ cap2) w_ (fun v_ w1_ => v_ = (.bool (g2 z0_ z1_)) ∧ Ext w_ w1_)) :
    Cll Try.prog 48 #[(.slice A0 xs0.length c0), (.slice A1 xs1.length c1), (.func (.func f2) #[] cap2)] w (fun v_ w_ => v_ = (.bool r) ∧ Ext w w_) := by
  have H := wp.slices_EqualFunc_impl_Warp_impl_Warp_impl_Warp_impl_Warp.math xs0 xs1 g2 D2 hp
  have hB := Ext.refl w
  refine slices_EqualFunc_impl_Warp_impl_Warp_impl_Warp_impl_Warp.start ?_
  unfold slices_EqualFunc_impl_Warp_impl_Warp_impl_Warp_impl_Warp.vc
  unfold wp.slices_EqualFunc_impl_Warp_impl_Warp_impl_Warp_impl_Warp at H
  refine bcase_mk (fun hc81 => ?_) (fun hc81 => ?_)
  · have H := (bcase_iff.1 H).1 hc81
    obtain rfl := hr.trans H.symm
    exact ⟨rfl, hB⟩
  have H := (bcase_iff.1 H).2 hc81
  obtain ⟨J23, ⟨m79, hJ78⟩, hS24⟩ := H
  refine ⟨fun m_ z_ w_ => ∃ (i21 : Int), z_ = (i21, ()) ∧ J23 m_ (i21, ()) ∧ Ext w w_, ⟨m79, 0, rfl, hJ78, hB⟩, ?_⟩
  rintro m22 _ w26 ⟨i21, rfl, hJ80, hB⟩
  have H := hS24 m22 _ hJ80
  clear hS24 hJ80
  try dsimp only at H ⊢
  refine bcase_mk (fun hc76 => ?_) (fun hc76 => ?_)
  · have H := (bcase_iff.1 H).1 hc76
    obtain ⟨⟨h0_30, h1_31⟩, H⟩ := H
    obtain ⟨a28, ha29, A35, c36, A37, c38, f32, f33, f34, R39, hle41, R40, hle42⟩ := RowW.at R0 h0_30 h1_31
    refine ⟨h0_30, h1_31, a28, ha29, ?_⟩
    refine ⟨_, (Ext.cell hB f32), ?_⟩
    refine ⟨_, _, _, (Ext.cell hB f33), ?_⟩
    refine ⟨_, _, _, (Ext.cell hB f34), ?_⟩
    refine newBlk (fun g5_ w43 L5 P5 e44 => ?_)
    have O5 := P5
    have L5 := Nat.le_trans hB.size L5
    have hB := ethen hB e44
    refine stBlk O5 (o := 0) (cs' := #[(.int .i64 ((rd xs0 i21).Number)), (.slice A35 ((rd xs0 i21).Frames.length) c36), (.slice A37 ((rd xs0 i21).Regs.length) c38)]) rfl rfl (Nat.le_of_ble_eq_true rfl) rfl (fun w45 P5 e46 => ?_)
    have hB := echg hB e46 L5
    have O5 := P5
    obtain ⟨⟨h0_50, h1_51⟩, H⟩ := H
    obtain ⟨a48, ha49, A55, c56, A57, c58, f52, f53, f54, R59, hle61, R60, hle62⟩ := RowW.at R1 h0_50 h1_51
    refine ⟨h0_50, h1_51, a48, ha49, ?_⟩
    refine ⟨_, (Ext.cell hB f52), ?_⟩
    refine ⟨_, _, _, (Ext.cell hB f53), ?_⟩
    refine ⟨_, _, _, (Ext.cell hB f54), ?_⟩
    refine newBlk (fun g8_ w63 L8 P8 e64 => ?_)
    have N5_8 := O5.ne L8
    have O5 := O5.ext e64
    have O8 := P8
    have L8 := Nat.le_trans hB.size L8
    have hB := ethen hB e64
    refine stBlk O8 (o := 0) (cs' := #[(.int .i64 ((rd xs1 i21).Number)), (.slice A55 ((rd xs1 i21).Frames.length) c56), (.slice A57 ((rd xs1 i21).Regs.length) c58)]) rfl rfl (Nat.le_of_ble_eq_true rfl) rfl (fun w65 P8 e66 => ?_)
    have O5_ := O5.chg e66 N5_8
    have O5 := O5_
    have hB := echg hB e66 L8
    have O8 := P8
    refine ⟨_, (O5.at 0 rfl rfl), ?_⟩
    refine ⟨_, _, _, (O5.at 1 rfl rfl), ?_⟩
    refine ⟨_, _, _, (O5.at 2 rfl rfl), ?_⟩
    refine ⟨_, (O8.at 0 rfl rfl), ?_⟩
    refine ⟨_, _, _, (O8.at 1 rfl rfl), ?_⟩
    refine ⟨_, _, _, (O8.at 2 rfl rfl), ?_⟩
    obtain ⟨hd69, H⟩ := H
    obtain ⟨r67, hr68⟩ : ∃ r_, r_ = g2 (rd xs0 i21) (rd xs1 i21) := ⟨_, rfl⟩
    have H := H r67 hr68
    refine (F2 (rd xs0 i21) (rd xs1 i21) _ _ _ _ _ _ _ _ hd69 _ hB (R39.ext hB) hle41 (R40.ext hB) hle42 (R59.ext hB) hle61 (R60.ext hB) hle62).mono ?_
    rintro _ w70 ⟨rfl, e71⟩
    rw [← hr68]
    have O5 := O5.ext e71
    have O8 := O8.ext e71
    have hB := ethen hB e71
    refine ⟨r67, rfl, ?_⟩
    refine bcase_mk (fun hc75 => ?_) (fun hc75 => ?_)
    · have H := (bcase_iff.1 H).1 hc75
      obtain rfl := hr.trans H.symm
      exact ⟨rfl, hB⟩
    have H := (bcase_iff.1 H).2 hc75
    obtain ⟨m72, hm73, hJ74⟩ := H
    exact ⟨m72, hm73, (IntKind.wrap .i64 (i21 + 1)), rfl, hJ74, hB⟩
  have H := (bcase_iff.1 H).2 hc76
  obtain rfl := hr.trans H.symm
  exact ⟨rfl, hB⟩
def slices_Equal_impl_Frame_impl_Frame.vc (A0 : Option Addr) (n0 : Nat) (c0 : Nat) (A1 : Option Addr) (n1 : Nat) (c1 : Nat) (w : World) (K : Value → World → Prop) : Prop :=
  bcase (((n0 : Nat) : Int) != ((n1 : Nat) : Int)) (K (.bool false) w) (LoopT (σ := Int × Unit) (fun z21 w22 next23 => bcase (decide (z21.1 < ((n0 : Nat) : Int))) (((0 : Int) ≤ z21.1 ∧ z21.1 < ((n0 : Nat) : Int) ∧ ∃ a24 : Addr, A0 = some a24 ∧ ∃ (n25 : Int), w22.cell? ((a24.add ((z21.1.toNat) * 3)).add 0) = some (.int .i64 n25) ∧ ∃ (n26 : Int), w22.cell? ((a24.add ((z21.1.toNat) * 3)).add 1) = some (.int .i64 n26) ∧ ∃ (n27 : Int), w22.cell? ((a24.add ((z21.1.toNat) * 3)).add 2) = some (.int .i64 n27) ∧ ((0 : Int) ≤ z21.1 ∧ z21.1 < ((n1 : Nat) : Int) ∧ ∃ a28 : Addr, A1 = some a28 ∧ ∃ (n29 : Int), w22.cell? ((a28.add ((z21.1.toNat) * 3)).add 0) = some (.int .i64 n29) ∧ ∃ (n30 : Int), w22.cell? ((a28.add ((z21.1.toNat) * 3)).add 1) = some (.int .i64 n30) ∧ ∃ (n31 : Int), w22.cell? ((a28.add ((z21.1.toNat) * 3)).add 2) = some (.int .i64 n31) ∧ BinRun Try.prog .neq 81 (.agg #[(.int .i64 n25), (.int .i64 n26), (.int .i64 n27)]) (.agg #[(.int .i64 n29), (.int .i64 n30), (.int .i64 n31)]) fun b32 => bcase b32 (K (.bool false) w22.drew) (next23 ((IntKind.wrap .i64 (z21.1 + 1)), ()) w22.drew)))) (K (.bool true) w22)) (0, ()) w)

def slices_Equal_impl_Frame_impl_Frame.ann : Ann := (.seq .l (.seq (.seq .l (.two (.seq .l .l) .l)) (.seq (.seq .l (.one (.loop [(13, .int .i64)] (.seq .l (.seq (.two .l .l) (.seq (.one (.seq .l (.seq .l (.two (.seq .l .l) .l)))) .l)))))) (.seq .l .l))))

theorem slices_Equal_impl_Frame_impl_Frame.start {A0 : Option Addr} {n0 : Nat} {c0 : Nat} {A1 : Option Addr} {n1 : Nat} {c1 : Nat} {w : World} {K : Value → World → Prop} (h : slices_Equal_impl_Frame_impl_Frame.vc A0 n0 c0 A1 n1 c1 w K) : Cll Try.prog 69 #[(.slice A0 n0 c0), (.slice A1 n1 c1)] w K :=
  vcF_sound mixed (fn := Try.f69) (by kernel_rfl) (by kernel_rfl) (an := slices_Equal_impl_Frame_impl_Frame.ann) (args := [(.slice A0 n0 c0), (.slice A1 n1 c1)]) (Eq.mpr (by kernel_rfl) h)

theorem slices_Equal_impl_Frame_impl_Frame.con {xs0 : List D.Frame} {A0 : Option Addr} {c0 : Nat} {xs1 : List D.Frame} {A1 : Option Addr} {c1 : Nat} {r : Bool} {w : World} (hp : M.slices_Equal_impl_Frame_impl_Frame_pre xs0 xs1) (hr : r = M.slices_Equal_impl_Frame_impl_Frame xs0 xs1) (R0 : Row el81 w A0 xs0) (hc0 : xs0.length ≤ c0) (R1 : Row el81 w A1 xs1) (hc1 : xs1.length ≤ c1) :
    Cll Try.prog 69 #[(.slice A0 xs0.length c0), (.slice A1 xs1.length c1)] w (fun v_ w_ => v_ = (.bool r) ∧ Ext w w_) := by
  have H := wp.slices_Equal_impl_Frame_impl_Frame.math xs0 xs1 hp
  have hB := Ext.refl w
  refine slices_Equal_impl_Frame_impl_Frame.start ?_
  unfold slices_Equal_impl_Frame_impl_Frame.vc
  unfold wp.slices_Equal_impl_Frame_impl_Frame at H
  refine bcase_mk (fun hc47 => ?_) (fun hc47 => ?_)
  · have H := (bcase_iff.1 H).1 hc47
    obtain rfl := hr.trans H.symm
    exact ⟨rfl, hB⟩
  have H := (bcase_iff.1 H).2 hc47
  obtain ⟨J23, ⟨m45, hJ44⟩, hS24⟩ := H
  refine ⟨fun m_ z_ w_ => ∃ (i21 : Int), z_ = (i21, ()) ∧ J23 m_ (i21, ()) ∧ Ext w w_, ⟨m45, 0, rfl, hJ44, hB⟩, ?_⟩
  rintro m22 _ w26 ⟨i21, rfl, hJ46, hB⟩
  have H := hS24 m22 _ hJ46
  clear hS24 hJ46
  try dsimp only at H ⊢
  refine bcase_mk (fun hc42 => ?_) (fun hc42 => ?_)
  · have H := (bcase_iff.1 H).1 hc42
    obtain ⟨⟨h0_31, h1_32⟩, H⟩ := H
    obtain ⟨a29, ha30, hat28⟩ := Row.at (R0.ext hB) h0_31 h1_32
    refine ⟨h0_31, h1_32, a29, ha30, ?_⟩
    refine ⟨_, (hat28 0 _ rfl), ?_⟩
    refine ⟨_, (hat28 1 _ rfl), ?_⟩
    refine ⟨_, (hat28 2 _ rfl), ?_⟩
    obtain ⟨⟨h0_36, h1_37⟩, H⟩ := H
    obtain ⟨a34, ha35, hat33⟩ := Row.at (R1.ext hB) h0_36 h1_37
    refine ⟨h0_36, h1_37, a34, ha35, ?_⟩
    refine ⟨_, (hat33 0 _ rfl), ?_⟩
    refine ⟨_, (hat33 1 _ rfl), ?_⟩
    refine ⟨_, (hat33 2 _ rfl), ?_⟩
    refine ⟨_, run_neq81 ((rd xs0 i21).Pc) ((rd xs0 i21).Stop) ((rd xs0 i21).Mask) ((rd xs1 i21).Pc) ((rd xs1 i21).Stop) ((rd xs1 i21).Mask), ?_⟩
    have hB := ethen hB (Ext.drew _)
    refine bcase_mk (fun hc41 => ?_) (fun hc41 => ?_)
    · have H := (bcase_iff.1 H).1 hc41
      obtain rfl := hr.trans H.symm
      exact ⟨rfl, hB⟩
    have H := (bcase_iff.1 H).2 hc41
    obtain ⟨m38, hm39, hJ40⟩ := H
    exact ⟨m38, hm39, (IntKind.wrap .i64 (i21 + 1)), rfl, hJ40, hB⟩
  have H := (bcase_iff.1 H).2 hc42
  obtain rfl := hr.trans H.symm
  exact ⟨rfl, hB⟩
def slices_Equal_int_int.vc (A0 : Option Addr) (n0 : Nat) (c0 : Nat) (A1 : Option Addr) (n1 : Nat) (c1 : Nat) (w : World) (K : Value → World → Prop) : Prop :=
  bcase (((n0 : Nat) : Int) != ((n1 : Nat) : Int)) (K (.bool false) w) (LoopT (σ := Int × Unit) (fun z21 w22 next23 => bcase (decide (z21.1 < ((n0 : Nat) : Int))) (((0 : Int) ≤ z21.1 ∧ z21.1 < ((n0 : Nat) : Int) ∧ ∃ a24 : Addr, A0 = some a24 ∧ ∃ (n25 : Int), w22.cell? ((a24.add ((z21.1.toNat) * 1)).add 0) = some (.int .i64 n25) ∧ ((0 : Int) ≤ z21.1 ∧ z21.1 < ((n1 : Nat) : Int) ∧ ∃ a26 : Addr, A1 = some a26 ∧ ∃ (n27 : Int), w22.cell? ((a26.add ((z21.1.toNat) * 1)).add 0) = some (.int .i64 n27) ∧ bcase (n25 != n27) (K (.bool false) w22.drew) (next23 ((IntKind.wrap .i64 (z21.1 + 1)), ()) w22.drew)))) (K (.bool true) w22)) (0, ()) w)

def slices_Equal_int_int.ann : Ann := (.seq .l (.seq (.seq .l (.two (.seq .l .l) .l)) (.seq (.seq .l (.one (.loop [(13, .int .i64)] (.seq .l (.seq (.two .l .l) (.seq (.one (.seq .l (.seq .l (.two (.seq .l .l) .l)))) .l)))))) (.seq .l .l))))

theorem slices_Equal_int_int.start {A0 : Option Addr} {n0 : Nat} {c0 : Nat} {A1 : Option Addr} {n1 : Nat} {c1 : Nat} {w : World} {K : Value → World → Prop} (h : slices_Equal_int_int.vc A0 n0 c0 A1 n1 c1 w K) : Cll Try.prog 50 #[(.slice A0 n0 c0), (.slice A1 n1 c1)] w K :=
  vcF_sound mixed (fn := Try.f50) (by kernel_rfl) (by kernel_rfl) (an := slices_Equal_int_int.ann) (args := [(.slice A0 n0 c0), (.slice A1 n1 c1)]) (Eq.mpr (by kernel_rfl) h)

theorem slices_Equal_int_int.con {xs0 : List Int} {A0 : Option Addr} {c0 : Nat} {xs1 : List Int} {A1 : Option Addr} {c1 : Nat} {r : Bool} {w : World} (hp : M.slices_Equal_int_int_pre xs0 xs1) (hr : r = M.slices_Equal_int_int xs0 xs1) (R0 : Row el3 w A0 xs0) (hc0 : xs0.length ≤ c0) (R1 : Row el3 w A1 xs1) (hc1 : xs1.length ≤ c1) :
    Cll Try.prog 50 #[(.slice A0 xs0.length c0), (.slice A1 xs1.length c1)] w (fun v_ w_ => v_ = (.bool r) ∧ Ext w w_) := by
  have H := wp.slices_Equal_int_int.math xs0 xs1 hp
  have hB := Ext.refl w
  refine slices_Equal_int_int.start ?_
  unfold slices_Equal_int_int.vc
  unfold wp.slices_Equal_int_int at H
  refine bcase_mk (fun hc47 => ?_) (fun hc47 => ?_)
  · have H := (bcase_iff.1 H).1 hc47
    obtain rfl := hr.trans H.symm
    exact ⟨rfl, hB⟩
  have H := (bcase_iff.1 H).2 hc47
  obtain ⟨J23, ⟨m45, hJ44⟩, hS24⟩ := H
  refine ⟨fun m_ z_ w_ => ∃ (i21 : Int), z_ = (i21, ()) ∧ J23 m_ (i21, ()) ∧ Ext w w_, ⟨m45, 0, rfl, hJ44, hB⟩, ?_⟩
  rintro m22 _ w26 ⟨i21, rfl, hJ46, hB⟩
  have H := hS24 m22 _ hJ46
  clear hS24 hJ46
  try dsimp only at H ⊢
  refine bcase_mk (fun hc42 => ?_) (fun hc42 => ?_)
  · have H := (bcase_iff.1 H).1 hc42
    obtain ⟨⟨h0_31, h1_32⟩, H⟩ := H
    obtain ⟨a29, ha30, hat28⟩ := Row.at (R0.ext hB) h0_31 h1_32
    refine ⟨h0_31, h1_32, a29, ha30, ?_⟩
    refine ⟨_, (hat28 0 _ rfl), ?_⟩
    obtain ⟨⟨h0_36, h1_37⟩, H⟩ := H
    obtain ⟨a34, ha35, hat33⟩ := Row.at (R1.ext hB) h0_36 h1_37
    refine ⟨h0_36, h1_37, a34, ha35, ?_⟩
    refine ⟨_, (hat33 0 _ rfl), ?_⟩
    have hB := ethen hB (Ext.drew _)
    refine bcase_mk (fun hc41 => ?_) (fun hc41 => ?_)
    · have H := (bcase_iff.1 H).1 hc41
      obtain rfl := hr.trans H.symm
      exact ⟨rfl, hB⟩
    have H := (bcase_iff.1 H).2 hc41
    obtain ⟨m38, hm39, hJ40⟩ := H
    exact ⟨m38, hm39, (IntKind.wrap .i64 (i21 + 1)), rfl, hJ40, hB⟩
  have H := (bcase_iff.1 H).2 hc42
  obtain rfl := hr.trans H.symm
  exact ⟨rfl, hB⟩
def impl_SameWarp.vc (x0_0 : Int) (A0_1 : Option Addr) (n0_1 : Nat) (c0_1 : Nat) (A0_2 : Option Addr) (n0_2 : Nat) (c0_2 : Nat) (x1_0 : Int) (A1_1 : Option Addr) (n1_1 : Nat) (c1_1 : Nat) (A1_2 : Option Addr) (n1_2 : Nat) (c1_2 : Nat) (w : World) (K : Value → World → Prop) : Prop :=
  newK w (.cells #[(.int .i64 x0_0), (.slice A0_1 n0_1 c0_1), (.slice A0_2 n0_2 c0_2)] 30) fun g21 w22 => newK w22 (.cells #[(.int .i64 x1_0), (.slice A1_1 n1_1 c1_1), (.slice A1_2 n1_2 c1_2)] 30) fun g23 w24 => ∃ (n25 : Int), w24.cell? (((⟨g21, 0, none⟩ : Addr).add 0).add 0) = some (.int .i64 n25) ∧ ∃ (n26 : Int), w24.cell? (((⟨g23, 0, none⟩ : Addr).add 0).add 0) = some (.int .i64 n26) ∧ bcase (n25 == n26) (∃ (A27 : Option Addr) (n28 : Nat) (c29 : Nat), w24.cell? (((⟨g21, 0, none⟩ : Addr).add 1).add 0) = some (.slice A27 n28 c29) ∧ ∃ (A30 : Option Addr) (n31 : Nat) (c32 : Nat), w24.cell? (((⟨g23, 0, none⟩ : Addr).add 1).add 0) = some (.slice A30 n31 c32) ∧ Cll Try.prog 69 #[(.slice A27 n28 c29), (.slice A30 n31 c32)] w24 fun v33 w34 => (∃ (b35 : Bool), v33 = (.bool b35) ∧ bcase b35 (∃ (A36 : Option Addr) (n37 : Nat) (c38 : Nat), w34.cell? (((⟨g21, 0, none⟩ : Addr).add 2).add 0) = some (.slice A36 n37 c38) ∧ ∃ (A39 : Option Addr) (n40 : Nat) (c41 : Nat), w34.cell? (((⟨g23, 0, none⟩ : Addr).add 2).add 0) = some (.slice A39 n40 c41) ∧ Cll Try.prog 50 #[(.slice A36 n37 c38), (.slice A39 n40 c41)] w34 fun v42 w43 => (∃ (b44 : Bool), v42 = (.bool b44) ∧ K (.bool b44) w43)) (K (.bool false) w34))) (K (.bool false) w24)

def impl_SameWarp.ann : Ann := (.seq .l (.seq .l .l))

theorem impl_SameWarp.start {x0_0 : Int} {A0_1 : Option Addr} {n0_1 : Nat} {c0_1 : Nat} {A0_2 : Option Addr} {n0_2 : Nat} {c0_2 : Nat} {x1_0 : Int} {A1_1 : Option Addr} {n1_1 : Nat} {c1_1 : Nat} {A1_2 : Option Addr} {n1_2 : Nat} {c1_2 : Nat} {w : World} {K : Value → World → Prop} (h : impl_SameWarp.vc x0_0 A0_1 n0_1 c0_1 A0_2 n0_2 c0_2 x1_0 A1_1 n1_1 c1_1 A1_2 n1_2 c1_2 w K) : Cll Try.prog 49 #[(.agg #[(.int .i64 x0_0), (.slice A0_1 n0_1 c0_1), (.slice A0_2 n0_2 c0_2)]), (.agg #[(.int .i64 x1_0), (.slice A1_1 n1_1 c1_1), (.slice A1_2 n1_2 c1_2)])] w K :=
  vcF_sound mixed (fn := Try.f49) (by kernel_rfl) (by kernel_rfl) (an := impl_SameWarp.ann) (args := [(.agg #[(.int .i64 x0_0), (.slice A0_1 n0_1 c0_1), (.slice A0_2 n0_2 c0_2)]), (.agg #[(.int .i64 x1_0), (.slice A1_1 n1_1 c1_1), (.slice A1_2 n1_2 c1_2)])]) (Eq.mpr (by kernel_rfl) h)

theorem impl_SameWarp.con {s0 : D.Warp} {A0_1 : Option Addr} {c0_1 : Nat} {A0_2 : Option Addr} {c0_2 : Nat} {s1 : D.Warp} {A1_1 : Option Addr} {c1_1 : Nat} {A1_2 : Option Addr} {c1_2 : Nat} {r : Bool} {w : World} (hp : M.impl_SameWarp_pre s0 s1) (hr : r = M.impl_SameWarp s0 s1) (R0_1 : Row el81 w A0_1 s0.Frames) (hc0_1 : s0.Frames.length ≤ c0_1) (R0_2 : Row el3 w A0_2 s0.Regs) (hc0_2 : s0.Regs.length ≤ c0_2) (R1_1 : Row el81 w A1_1 s1.Frames) (hc1_1 : s1.Frames.length ≤ c1_1) (R1_2 : Row el3 w A1_2 s1.Regs) (hc1_2 : s1.Regs.length ≤ c1_2) :
    Cll Try.prog 49 #[(.agg #[(.int .i64 s0.Number), (.slice A0_1 s0.Frames.length c0_1), (.slice A0_2 s0.Regs.length c0_2)]), (.agg #[(.int .i64 s1.Number), (.slice A1_1 s1.Frames.length c1_1), (.slice A1_2 s1.Regs.length c1_2)])] w (fun v_ w_ => v_ = (.bool r) ∧ Ext w w_) := by
  have H := wp.impl_SameWarp.math s0 s1 hp
  have hB := Ext.refl w
  refine impl_SameWarp.start ?_
  unfold impl_SameWarp.vc
  unfold wp.impl_SameWarp at H
  refine newBlk (fun g5_ w21 L5 P5 e22 => ?_)
  have O5 := P5
  have L5 := Nat.le_trans hB.size L5
  have hB := ethen hB e22
  refine newBlk (fun g6_ w23 L6 P6 e24 => ?_)
  have N5_6 := O5.ne L6
  have O5 := O5.ext e24
  have O6 := P6
  have L6 := Nat.le_trans hB.size L6
  have hB := ethen hB e24
  refine ⟨_, (O5.at 0 rfl rfl), ?_⟩
  refine ⟨_, (O6.at 0 rfl rfl), ?_⟩
  refine bcase_mk (fun hc36 => ?_) (fun hc36 => ?_)
  · have H := (bcase_iff.1 H).1 hc36
    refine ⟨_, _, _, (O5.at 1 rfl rfl), ?_⟩
    refine ⟨_, _, _, (O6.at 1 rfl rfl), ?_⟩
    obtain ⟨hp27, H⟩ := H
    obtain ⟨r25, hr26⟩ : ∃ r_, r_ = M.slices_Equal_impl_Frame_impl_Frame s0.Frames s1.Frames := ⟨_, rfl⟩
    have H := H r25 hr26
    refine (slices_Equal_impl_Frame_impl_Frame.con hp27 hr26 (R0_1.ext hB) hc0_1 (R1_1.ext hB) hc1_1).mono ?_
    rintro _ w28 ⟨rfl, e29⟩
    have O5 := O5.ext e29
    have O6 := O6.ext e29
    have hB := ethen hB e29
    refine ⟨r25, rfl, ?_⟩
    refine bcase_mk (fun hc35 => ?_) (fun hc35 => ?_)
    · have H := (bcase_iff.1 H).1 hc35
      refine ⟨_, _, _, (O5.at 2 rfl rfl), ?_⟩
      refine ⟨_, _, _, (O6.at 2 rfl rfl), ?_⟩
      obtain ⟨hp32, H⟩ := H
      obtain ⟨r30, hr31⟩ : ∃ r_, r_ = M.slices_Equal_int_int s0.Regs s1.Regs := ⟨_, rfl⟩
      have H := H r30 hr31
      refine (slices_Equal_int_int.con hp32 hr31 (R0_2.ext hB) hc0_2 (R1_2.ext hB) hc1_2).mono ?_
      rintro _ w33 ⟨rfl, e34⟩
      have O5 := O5.ext e34
      have O6 := O6.ext e34
      have hB := ethen hB e34
      refine ⟨r30, rfl, ?_⟩
      obtain rfl := hr.trans H.symm
      exact ⟨rfl, hB⟩
    have H := (bcase_iff.1 H).2 hc35
    obtain rfl := hr.trans H.symm
    exact ⟨rfl, hB⟩
  have H := (bcase_iff.1 H).2 hc36
  obtain rfl := hr.trans H.symm
  exact ⟨rfl, hB⟩
def impl_SameBlock.vc (A0_0 : Option Addr) (n0_0 : Nat) (c0_0 : Nat) (A0_1 : Option Addr) (n0_1 : Nat) (c0_1 : Nat) (A0_2 : Option Addr) (n0_2 : Nat) (c0_2 : Nat) (x0_3 : Int) (x0_4 : Int) (A1_0 : Option Addr) (n1_0 : Nat) (c1_0 : Nat) (A1_1 : Option Addr) (n1_1 : Nat) (c1_1 : Nat) (A1_2 : Option Addr) (n1_2 : Nat) (c1_2 : Nat) (x1_3 : Int) (x1_4 : Int) (w : World) (K : Value → World → Prop) : Prop :=
  newK w (.cells #[(.slice A0_0 n0_0 c0_0), (.slice A0_1 n0_1 c0_1), (.slice A0_2 n0_2 c0_2), (.int .i64 x0_3), (.int .i64 x0_4)] 41) fun g21 w22 => newK w22 (.cells #[(.slice A1_0 n1_0 c1_0), (.slice A1_1 n1_1 c1_1), (.slice A1_2 n1_2 c1_2), (.int .i64 x1_3), (.int .i64 x1_4)] 41) fun g23 w24 => ∃ (A25 : Option Addr) (n26 : Nat) (c27 : Nat), w24.cell? (((⟨g21, 0, none⟩ : Addr).add 0).add 0) = some (.slice A25 n26 c27) ∧ ∃ (A28 : Option Addr) (n29 : Nat) (c30 : Nat), w24.cell? (((⟨g23, 0, none⟩ : Addr).add 0).add 0) = some (.slice A28 n29 c30) ∧ Cll Try.prog 47 #[(.slice A25 n26 c27), (.slice A28 n29 c30)] w24 fun v31 w32 => (∃ (b33 : Bool), v31 = (.bool b33) ∧ bcase b33 (∃ (A34 : Option Addr) (n35 : Nat) (c36 : Nat), w32.cell? (((⟨g21, 0, none⟩ : Addr).add 1).add 0) = some (.slice A34 n35 c36) ∧ ∃ (A37 : Option Addr) (n38 : Nat) (c39 : Nat), w32.cell? (((⟨g23, 0, none⟩ : Addr).add 1).add 0) = some (.slice A37 n38 c39) ∧ Cll Try.prog 48 #[(.slice A34 n35 c36), (.slice A37 n38 c39), (.func (.func 49) #[] #[])] w32 fun v40 w41 => (∃ (b42 : Bool), v40 = (.bool b42) ∧ bcase b42 (∃ (A43 : Option Addr) (n44 : Nat) (c45 : Nat), w41.cell? (((⟨g21, 0, none⟩ : Addr).add 2).add 0) = some (.slice A43 n44 c45) ∧ ∃ (A46 : Option Addr) (n47 : Nat) (c48 : Nat), w41.cell? (((⟨g23, 0, none⟩ : Addr).add 2).add 0) = some (.slice A46 n47 c48) ∧ Cll Try.prog 50 #[(.slice A43 n44 c45), (.slice A46 n47 c48)] w41 fun v49 w50 => (∃ (b51 : Bool), v49 = (.bool b51) ∧ bcase b51 (∃ (n52 : Int), w50.cell? (((⟨g21, 0, none⟩ : Addr).add 3).add 0) = some (.int .i64 n52) ∧ ∃ (n53 : Int), w50.cell? (((⟨g23, 0, none⟩ : Addr).add 3).add 0) = some (.int .i64 n53) ∧ bcase (n52 == n53) (∃ (n54 : Int), w50.cell? (((⟨g21, 0, none⟩ : Addr).add 4).add 0) = some (.int .i64 n54) ∧ ∃ (n55 : Int), w50.cell? (((⟨g23, 0, none⟩ : Addr).add 4).add 0) = some (.int .i64 n55) ∧ K (.bool (n54 == n55)) w50) (K (.bool false) w50)) (K (.bool false) w50))) (K (.bool false) w41))) (K (.bool false) w32))

def impl_SameBlock.ann : Ann := (.seq .l (.seq .l .l))

theorem impl_SameBlock.start {A0_0 : Option Addr} {n0_0 : Nat} {c0_0 : Nat} {A0_1 : Option Addr} {n0_1 : Nat} {c0_1 : Nat} {A0_2 : Option Addr} {n0_2 : Nat} {c0_2 : Nat} {x0_3 : Int} {x0_4 : Int} {A1_0 : Option Addr} {n1_0 : Nat} {c1_0 : Nat} {A1_1 : Option Addr} {n1_1 : Nat} {c1_1 : Nat} {A1_2 : Option Addr} {n1_2 : Nat} {c1_2 : Nat} {x1_3 : Int} {x1_4 : Int} {w : World} {K : Value → World → Prop} (h : impl_SameBlock.vc A0_0 n0_0 c0_0 A0_1 n0_1 c0_1 A0_2 n0_2 c0_2 x0_3 x0_4 A1_0 n1_0 c1_0 A1_1 n1_1 c1_1 A1_2 n1_2 c1_2 x1_3 x1_4 w K) : Cll Try.prog 21 #[(.agg #[(.slice A0_0 n0_0 c0_0), (.slice A0_1 n0_1 c0_1), (.slice A0_2 n0_2 c0_2), (.int .i64 x0_3), (.int .i64 x0_4)]), (.agg #[(.slice A1_0 n1_0 c1_0), (.slice A1_1 n1_1 c1_1), (.slice A1_2 n1_2 c1_2), (.int .i64 x1_3), (.int .i64 x1_4)])] w K :=
  vcF_sound mixed (fn := Try.f21) (by kernel_rfl) (by kernel_rfl) (an := impl_SameBlock.ann) (args := [(.agg #[(.slice A0_0 n0_0 c0_0), (.slice A0_1 n0_1 c0_1), (.slice A0_2 n0_2 c0_2), (.int .i64 x0_3), (.int .i64 x0_4)]), (.agg #[(.slice A1_0 n1_0 c1_0), (.slice A1_1 n1_1 c1_1), (.slice A1_2 n1_2 c1_2), (.int .i64 x1_3), (.int .i64 x1_4)])]) (Eq.mpr (by kernel_rfl) h)

theorem impl_SameBlock.con {s0 : D.Block} {A0_0 : Option Addr} {c0_0 : Nat} {A0_1 : Option Addr} {c0_1 : Nat} {A0_2 : Option Addr} {c0_2 : Nat} {s1 : D.Block} {A1_0 : Option Addr} {c1_0 : Nat} {A1_1 : Option Addr} {c1_1 : Nat} {A1_2 : Option Addr} {c1_2 : Nat} {r : Bool} {w : World} (hp : M.impl_SameBlock_pre s0 s1) (hr : r = M.impl_SameBlock s0 s1) (R0_0 : Row el60 w A0_0 s0.Code) (hc0_0 : s0.Code.length ≤ c0_0) (R0_1 : RowW 30 el81 el3 w A0_1 s0.Warps) (hc0_1 : s0.Warps.length ≤ c0_1) (R0_2 : Row el3 w A0_2 s0.Memory) (hc0_2 : s0.Memory.length ≤ c0_2) (R1_0 : Row el60 w A1_0 s1.Code) (hc1_0 : s1.Code.length ≤ c1_0) (R1_1 : RowW 30 el81 el3 w A1_1 s1.Warps) (hc1_1 : s1.Warps.length ≤ c1_1) (R1_2 : Row el3 w A1_2 s1.Memory) (hc1_2 : s1.Memory.length ≤ c1_2) :
    Cll Try.prog 21 #[(.agg #[(.slice A0_0 s0.Code.length c0_0), (.slice A0_1 s0.Warps.length c0_1), (.slice A0_2 s0.Memory.length c0_2), (.int .i64 s0.Waiting), (.int .i64 s0.Phase)]), (.agg #[(.slice A1_0 s1.Code.length c1_0), (.slice A1_1 s1.Warps.length c1_1), (.slice A1_2 s1.Memory.length c1_2), (.int .i64 s1.Waiting), (.int .i64 s1.Phase)])] w (fun v_ w_ => v_ = (.bool r) ∧ Ext w w_) := by
  have H := wp.impl_SameBlock.math s0 s1 hp
  have hB := Ext.refl w
  refine impl_SameBlock.start ?_
  unfold impl_SameBlock.vc
  unfold wp.impl_SameBlock at H
  refine newBlk (fun g7_ w21 L7 P7 e22 => ?_)
  have O7 := P7
  have L7 := Nat.le_trans hB.size L7
  have hB := ethen hB e22
  refine newBlk (fun g8_ w23 L8 P8 e24 => ?_)
  have N7_8 := O7.ne L8
  have O7 := O7.ext e24
  have O8 := P8
  have L8 := Nat.le_trans hB.size L8
  have hB := ethen hB e24
  refine ⟨_, _, _, (O7.at 0 rfl rfl), ?_⟩
  refine ⟨_, _, _, (O8.at 0 rfl rfl), ?_⟩
  obtain ⟨hp27, H⟩ := H
  obtain ⟨r25, hr26⟩ : ∃ r_, r_ = M.slices_Equal_impl_Ins_impl_Ins s0.Code s1.Code := ⟨_, rfl⟩
  have H := H r25 hr26
  refine (slices_Equal_impl_Ins_impl_Ins.con hp27 hr26 (R0_0.ext hB) hc0_0 (R1_0.ext hB) hc1_0).mono ?_
  rintro _ w28 ⟨rfl, e29⟩
  have O7 := O7.ext e29
  have O8 := O8.ext e29
  have hB := ethen hB e29
  refine ⟨r25, rfl, ?_⟩
  refine bcase_mk (fun hc43 => ?_) (fun hc43 => ?_)
  · have H := (bcase_iff.1 H).1 hc43
    refine ⟨_, _, _, (O7.at 1 rfl rfl), ?_⟩
    refine ⟨_, _, _, (O8.at 1 rfl rfl), ?_⟩
    obtain ⟨hp32, H⟩ := H
    obtain ⟨r30, hr31⟩ : ∃ r_, r_ = M.slices_EqualFunc_impl_Warp_impl_Warp_impl_Warp_impl_Warp s0.Warps s1.Warps (fun z0_ z1_ => M.impl_SameWarp z0_ z1_) := ⟨_, rfl⟩
    have H := H r30 hr31
    refine (slices_EqualFunc_impl_Warp_impl_Warp_impl_Warp_impl_Warp.con hp32 hr31 (R0_1.ext hB) hc0_1 (R1_1.ext hB) hc1_1 (fun z0_ z1_ Az0_1 cz0_1 Az0_2 cz0_2 Az1_1 cz1_1 Az1_2 cz1_2 h_ w_ e_ rz0_1 lz0_1 rz0_2 lz0_2 rz1_1 lz1_1 rz1_2 lz1_2 => cllApp (l1 := [_, _]) (l2 := []) (impl_SameWarp.con h_ rfl rz0_1 lz0_1 rz0_2 lz0_2 rz1_1 lz1_1 rz1_2 lz1_2))).mono ?_
    rintro _ w33 ⟨rfl, e34⟩
    have O7 := O7.ext e34
    have O8 := O8.ext e34
    have hB := ethen hB e34
    refine ⟨r30, rfl, ?_⟩
    refine bcase_mk (fun hc42 => ?_) (fun hc42 => ?_)
    · have H := (bcase_iff.1 H).1 hc42
      refine ⟨_, _, _, (O7.at 2 rfl rfl), ?_⟩
      refine ⟨_, _, _, (O8.at 2 rfl rfl), ?_⟩
      obtain ⟨hp37, H⟩ := H
      obtain ⟨r35, hr36⟩ : ∃ r_, r_ = M.slices_Equal_int_int s0.Memory s1.Memory := ⟨_, rfl⟩
      have H := H r35 hr36
      refine (slices_Equal_int_int.con hp37 hr36 (R0_2.ext hB) hc0_2 (R1_2.ext hB) hc1_2).mono ?_
      rintro _ w38 ⟨rfl, e39⟩
      have O7 := O7.ext e39
      have O8 := O8.ext e39
      have hB := ethen hB e39
      refine ⟨r35, rfl, ?_⟩
      refine bcase_mk (fun hc41 => ?_) (fun hc41 => ?_)
      · have H := (bcase_iff.1 H).1 hc41
        refine ⟨_, (O7.at 3 rfl rfl), ?_⟩
        refine ⟨_, (O8.at 3 rfl rfl), ?_⟩
        refine bcase_mk (fun hc40 => ?_) (fun hc40 => ?_)
        · have H := (bcase_iff.1 H).1 hc40
          refine ⟨_, (O7.at 4 rfl rfl), ?_⟩
          refine ⟨_, (O8.at 4 rfl rfl), ?_⟩
          obtain rfl := hr.trans H.symm
          exact ⟨rfl, hB⟩
        have H := (bcase_iff.1 H).2 hc40
        obtain rfl := hr.trans H.symm
        exact ⟨rfl, hB⟩
      have H := (bcase_iff.1 H).2 hc41
      obtain rfl := hr.trans H.symm
      exact ⟨rfl, hB⟩
    have H := (bcase_iff.1 H).2 hc42
    obtain rfl := hr.trans H.symm
    exact ⟨rfl, hB⟩
  have H := (bcase_iff.1 H).2 hc43
  obtain rfl := hr.trans H.symm
  exact ⟨rfl, hB⟩
def slices_Clone_impl_Ins_impl_Ins.vc (A0 : Option Addr) (n0 : Nat) (c0 : Nat) (w : World) (K : Value → World → Prop) : Prop :=
  bcase (Option.isNone A0) (K (.slice none 0 0) w) (Run Try.prog (Instr.buildSlice 24 0 #[]) w fun v21 w22 => ∃ (A23 : Option Addr) (n24 c25 : Nat), v21 = .slice A23 n24 c25 ∧ Run Try.prog (Builtin.append_ #[24, 24] 24 #[(.slice A23 n24 c25), (.slice A0 n0 c0)]) w22 fun v26 w27 => ∃ (A28 : Option Addr) (n29 c30 : Nat), v26 = .slice A28 n29 c30 ∧ K (.slice A28 n29 c30) w27)

def slices_Clone_impl_Ins_impl_Ins.ann : Ann := (.seq .l (.seq (.seq .l (.two (.seq .l .l) .l)) (.seq .l .l)))

theorem slices_Clone_impl_Ins_impl_Ins.start {A0 : Option Addr} {n0 : Nat} {c0 : Nat} {w : World} {K : Value → World → Prop} (h : slices_Clone_impl_Ins_impl_Ins.vc A0 n0 c0 w K) : Cll Try.prog 31 #[(.slice A0 n0 c0)] w K :=
  vcF_sound mixed (fn := Try.f31) (by kernel_rfl) (by kernel_rfl) (an := slices_Clone_impl_Ins_impl_Ins.ann) (args := [(.slice A0 n0 c0)]) (Eq.mpr (by kernel_rfl) h)

theorem slices_Clone_impl_Ins_impl_Ins.con {xs0 : List D.Ins} {A0 : Option Addr} {c0 : Nat} {r : List D.Ins} {w : World} (hp : M.slices_Clone_impl_Ins_impl_Ins_pre xs0) (hr : r = M.slices_Clone_impl_Ins_impl_Ins xs0) (R0 : Row el60 w A0 xs0) (hc0 : xs0.length ≤ c0) :
    Cll Try.prog 31 #[(.slice A0 xs0.length c0)] w (fun v_ w_ => ∃ (A0_ : Option Addr) (c0_ : Nat), v_ = (.slice A0_ r.length c0_) ∧ Own el60 w_ w.heap.size A0_ c0_ r ∧ Ext w w_) := by
  have H := wp.slices_Clone_impl_Ins_impl_Ins.math xs0 hp
  have hB := Ext.refl w
  refine slices_Clone_impl_Ins_impl_Ins.start ?_
  unfold slices_Clone_impl_Ins_impl_Ins.vc
  unfold wp.slices_Clone_impl_Ins_impl_Ins at H
  obtain ⟨b21, hb22⟩ : ∃ b_, b_ = Option.isNone A0 := ⟨_, rfl⟩
  have H := H b21 (fun h_ => Row.isNone (R0.ext hB) (hb22.symm.trans h_))
  rw [← hb22]
  refine bcase_mk (fun hc31 => ?_) (fun hc31 => ?_)
  · have H := (bcase_iff.1 H).1 hc31
    obtain rfl := hr.trans H.symm
    exact ⟨none, 0, rfl, Own.nil, hB⟩
  have H := (bcase_iff.1 H).2 hc31
  refine buildOwn el60 ([] : List D.Ins) (fun _ => by kernel_rfl) rfl (fun A23 w24 P2 e25 => ?_)
  have O2 := P2.mono hB.size
  have hB := ethen hB e25
  obtain ⟨hl30, H⟩ := H
  refine appOwn slt24 slt24.under O2 (R0.ext hB) hB.size (by first | rfl | omega | (simp; done) | (simp; omega)) rfl hl30 (fun A26 c27 w28 P2 e29 => ?_)
  have hB := eapp hB e29 O2
  have O2 := P2
  obtain rfl := hr.trans H.symm
  exact ⟨A26, c27, rfl, O2, hB⟩
def impl_newWarp.vc (A0 : Option Addr) (n0 : Nat) (c0 : Nat) (x1 : Int) (w : World) (K : Value → World → Prop) : Prop :=
  newK w (.cells #[(.int .i64 0), (.slice none 0 0), (.slice none 0 0)] 30) fun g21 w22 => vcMake Try.prog 26 32 32 w22 fun g23 w24 => newK w24 (.cells #[(.int .i64 0), (.slice none 0 0), (.slice none 0 0)] 30) fun g25 w26 => stCells (⟨g25, 0, none⟩ : Addr) [(.int .i64 x1), (.slice none 0 0), (.slice (some (⟨g23, 0, none⟩ : Addr)) ((32 : Int).toNat) ((32 : Int).toNat))] 0 w26 fun w27 => bcase (decide (((n0 : Nat) : Int) > 0)) (Run Try.prog (Instr.buildSlice 28 1 #[(0, (.agg #[(.int .i64 0), (.int .i64 ((n0 : Nat) : Int)), (.int .i64 255)]))]) w27 fun v28 w29 => ∃ (A30 : Option Addr) (n31 c32 : Nat), v28 = .slice A30 n31 c32 ∧ stCells ((⟨g25, 0, none⟩ : Addr).add 1) [(.slice A30 n31 c32)] 0 w29 fun w33 => ∃ (n34 : Int), w33.cell? ((⟨g25, 0, none⟩ : Addr).add 0) = some (.int .i64 n34) ∧ ∃ (A35 : Option Addr) (n36 : Nat) (c37 : Nat), w33.cell? ((⟨g25, 0, none⟩ : Addr).add 1) = some (.slice A35 n36 c37) ∧ ∃ (A38 : Option Addr) (n39 : Nat) (c40 : Nat), w33.cell? ((⟨g25, 0, none⟩ : Addr).add 2) = some (.slice A38 n39 c40) ∧ stCells (⟨g21, 0, none⟩ : Addr) [(.int .i64 n34), (.slice A35 n36 c37), (.slice A38 n39 c40)] 0 w33 fun w41 => ∃ (n42 : Int), w41.cell? ((⟨g21, 0, none⟩ : Addr).add 0) = some (.int .i64 n42) ∧ ∃ (A43 : Option Addr) (n44 : Nat) (c45 : Nat), w41.cell? ((⟨g21, 0, none⟩ : Addr).add 1) = some (.slice A43 n44 c45) ∧ ∃ (A46 : Option Addr) (n47 : Nat) (c48 : Nat), w41.cell? ((⟨g21, 0, none⟩ : Addr).add 2) = some (.slice A46 n47 c48) ∧ K (.agg #[(.int .i64 n42), (.slice A43 n44 c45), (.slice A46 n47 c48)]) w41) (∃ (n49 : Int), w27.cell? ((⟨g25, 0, none⟩ : Addr).add 0) = some (.int .i64 n49) ∧ ∃ (A50 : Option Addr) (n51 : Nat) (c52 : Nat), w27.cell? ((⟨g25, 0, none⟩ : Addr).add 1) = some (.slice A50 n51 c52) ∧ ∃ (A53 : Option Addr) (n54 : Nat) (c55 : Nat), w27.cell? ((⟨g25, 0, none⟩ : Addr).add 2) = some (.slice A53 n54 c55) ∧ stCells (⟨g21, 0, none⟩ : Addr) [(.int .i64 n49), (.slice A50 n51 c52), (.slice A53 n54 c55)] 0 w27 fun w56 => ∃ (n57 : Int), w56.cell? ((⟨g21, 0, none⟩ : Addr).add 0) = some (.int .i64 n57) ∧ ∃ (A58 : Option Addr) (n59 : Nat) (c60 : Nat), w56.cell? ((⟨g21, 0, none⟩ : Addr).add 1) = some (.slice A58 n59 c60) ∧ ∃ (A61 : Option Addr) (n62 : Nat) (c63 : Nat), w56.cell? ((⟨g21, 0, none⟩ : Addr).add 2) = some (.slice A61 n62 c63) ∧ K (.agg #[(.int .i64 n57), (.slice A58 n59 c60), (.slice A61 n62 c63)]) w56)

def impl_newWarp.ann : Ann := (.seq .l (.seq .l (.seq (.seq .l (.two .l .l)) (.seq .l .l))))

theorem impl_newWarp.start {A0 : Option Addr} {n0 : Nat} {c0 : Nat} {x1 : Int} {w : World} {K : Value → World → Prop} (h : impl_newWarp.vc A0 n0 c0 x1 w K) : Cll Try.prog 27 #[(.slice A0 n0 c0), (.int .i64 x1)] w K :=
  vcF_sound mixed (fn := Try.f27) (by kernel_rfl) (by kernel_rfl) (an := impl_newWarp.ann) (args := [(.slice A0 n0 c0), (.int .i64 x1)]) (Eq.mpr (by kernel_rfl) h)

theorem impl_newWarp.con {xs0 : List D.Ins} {A0 : Option Addr} {c0 : Nat} {x1 : Int} {r : D.Warp} {w : World} (hp : M.impl_newWarp_pre xs0 x1) (hr : r = M.impl_newWarp xs0 x1) (R0 : Row el60 w A0 xs0) (hc0 : xs0.length ≤ c0) :
    Cll Try.prog 27 #[(.slice A0 xs0.length c0), (.int .i64 x1)] w (fun v_ w_ => ∃ (A0_ : Option Addr) (c0_ : Nat) (A1_ : Option Addr) (c1_ : Nat), v_ = (.agg #[(.int .i64 r.Number), (.slice A0_ r.Frames.length c0_), (.slice A1_ r.Regs.length c1_)]) ∧ Own el81 w_ w.heap.size A0_ c0_ r.Frames ∧ Own el3 w_ w.heap.size A1_ c1_ r.Regs ∧ Ext w w_) := by
  have H := wp.impl_newWarp.math xs0 x1 hp
  have hB := Ext.refl w
  refine impl_newWarp.start ?_
  unfold impl_newWarp.vc
  unfold wp.impl_newWarp at H
  refine newBlk (fun g2_ w21 L2 P2 e22 => ?_)
  have O2 := P2
  have L2 := Nat.le_trans hB.size L2
  have hB := ethen hB e22
  obtain ⟨⟨h0_26, h1_27⟩, H⟩ := H
  refine makeOwn slt26 h0_26 h1_27 (fun g23 w24 P3 e25 => ?_)
  have N3_2 := P3.apart_old O2.lt
  have O2 := O2.ext e25
  have O3 := P3.mono hB.size
  have hB := ethen hB e25
  refine newBlk (fun g4_ w28 L4 P4 e29 => ?_)
  have N2_4 := O2.ne L4
  have N3_4 := O3.apart_new L4
  have O2 := O2.ext e29
  have O3 := O3.ext e29
  have O4 := P4
  have L4 := Nat.le_trans hB.size L4
  have hB := ethen hB e29
  refine stBlk O4 (o := 0) (cs' := #[(.int .i64 x1), (.slice none 0 0), (.slice (some (⟨g23, 0, none⟩ : Addr)) ((32 : Int).toNat) ((32 : Int).toNat))]) rfl rfl (Nat.le_of_ble_eq_true rfl) rfl (fun w30 P4 e31 => ?_)
  have O2_ := O2.chg e31 N2_4
  have O3_ := O3.chg e31 N3_4
  have O2 := O2_
  have O3 := O3_
  have hB := echg hB e31 L4
  have O4 := P4
  refine bcase_mk (fun hc41 => ?_) (fun hc41 => ?_)
  · have H := (bcase_iff.1 H).1 hc41
    refine buildOwn el81 ([(⟨0, ((xs0.length : Nat) : Int), 255⟩ : D.Frame)] : List D.Frame) (fun _ => by kernel_rfl) rfl (fun A32 w33 P5 e34 => ?_)
    have N5_2 := P5.apart_old O2.lt
    have N3_5 := Own.apart2_new O3 P5 (Nat.le_refl _)
    have N5_4 := P5.apart_old O4.lt
    have O2 := O2.ext e34
    have O3 := O3.ext e34
    have O4 := O4.ext e34
    have O5 := P5.mono hB.size
    have hB := ethen hB e34
    refine stBlk O4 (o := 1) (cs' := #[(.int .i64 x1), (.slice A32 1 1), (.slice (some (⟨g23, 0, none⟩ : Addr)) ((32 : Int).toNat) ((32 : Int).toNat))]) rfl rfl (Nat.le_of_ble_eq_true rfl) rfl (fun w35 P4 e36 => ?_)
    have O2_ := O2.chg e36 N2_4
    have O3_ := O3.chg e36 N3_4
    have O5_ := O5.chg e36 N5_4
    have O2 := O2_
    have O3 := O3_
    have O5 := O5_
    have hB := echg hB e36 L4
    have O4 := P4
    refine ⟨_, (O4.at 0 rfl rfl), ?_⟩
    refine ⟨_, _, _, (O4.at 1 rfl rfl), ?_⟩
    refine ⟨_, _, _, (O4.at 2 rfl rfl), ?_⟩
    refine stBlk O2 (o := 0) (cs' := #[(.int .i64 x1), (.slice A32 1 1), (.slice (some (⟨g23, 0, none⟩ : Addr)) ((32 : Int).toNat) ((32 : Int).toNat))]) rfl rfl (Nat.le_of_ble_eq_true rfl) rfl (fun w37 P2 e38 => ?_)
    have O3_ := O3.chg e38 N3_2
    have O4_ := O4.chg e38 (N2_4).symm
    have O5_ := O5.chg e38 N5_2
    have O3 := O3_
    have O4 := O4_
    have O5 := O5_
    have hB := echg hB e38 L2
    have O2 := P2
    refine ⟨_, (O2.at 0 rfl rfl), ?_⟩
    refine ⟨_, _, _, (O2.at 1 rfl rfl), ?_⟩
    refine ⟨_, _, _, (O2.at 2 rfl rfl), ?_⟩
    obtain rfl := hr.trans H.symm
    exact ⟨A32, 1, (some (⟨g23, 0, none⟩ : Addr)), ((32 : Int).toNat), (by first | rfl | (simp; done) | (simp; omega) | (simp [*]; done)), (by first | exact O5 | (simp only [List.length_set]; exact O5)), (by first | exact O3 | (simp only [List.length_set]; exact O3)), hB⟩
  have H := (bcase_iff.1 H).2 hc41
  refine ⟨_, (O4.at 0 rfl rfl), ?_⟩
  refine ⟨_, _, _, (O4.at 1 rfl rfl), ?_⟩
  refine ⟨_, _, _, (O4.at 2 rfl rfl), ?_⟩
  refine stBlk O2 (o := 0) (cs' := #[(.int .i64 x1), (.slice none 0 0), (.slice (some (⟨g23, 0, none⟩ : Addr)) ((32 : Int).toNat) ((32 : Int).toNat))]) rfl rfl (Nat.le_of_ble_eq_true rfl) rfl (fun w39 P2 e40 => ?_)
  have O3_ := O3.chg e40 N3_2
  have O4_ := O4.chg e40 (N2_4).symm
  have O3 := O3_
  have O4 := O4_
  have hB := echg hB e40 L2
  have O2 := P2
  refine ⟨_, (O2.at 0 rfl rfl), ?_⟩
  refine ⟨_, _, _, (O2.at 1 rfl rfl), ?_⟩
  refine ⟨_, _, _, (O2.at 2 rfl rfl), ?_⟩
  obtain rfl := hr.trans H.symm
  exact ⟨none, 0, (some (⟨g23, 0, none⟩ : Addr)), ((32 : Int).toNat), (by first | rfl | (simp; done) | (simp; omega) | (simp [*]; done)), Own.nil, (by first | exact O3 | (simp only [List.length_set]; exact O3)), hB⟩
def impl_newBlock.vc (A0 : Option Addr) (n0 : Nat) (c0 : Nat) (x1 : Int) (w : World) (K : Value → World → Prop) : Prop :=
  newK w (.cells #[(.slice none 0 0), (.slice none 0 0), (.slice none 0 0), (.int .i64 0), (.int .i64 0)] 41) fun g21 w22 => JoinT (σ := Addr × Unit) (fun J23 => (∃ M24 : Nat → Prop, ((Cll Try.prog 31 #[(.slice A0 n0 c0)] w22.drew fun v25 w26 => (∃ (A27 : Option Addr) (n28 : Nat) (c29 : Nat), v25 = (.slice A27 n28 c29) ∧ SameBut M24 w22 w26 ∧ ((vcMake Try.prog 26 32 32 w26 fun g30 w31 => SameBut M24 w22 w31 ∧ newK w31 (.cells #[(.slice none 0 0), (.slice none 0 0), (.slice none 0 0), (.int .i64 0), (.int .i64 0)] 41) fun g32 w33 => SameBut M24 w22 w33 ∧ stCells (⟨g32, 0, none⟩ : Addr) [(.slice A27 n28 c29), (.slice none 0 0), (.slice (some (⟨g30, 0, none⟩ : Addr)) ((32 : Int).toNat) ((32 : Int).toNat)), (.int .i64 0), (.int .i64 0)] 0 w33 fun w34 => J23 ((⟨g32, 0, none⟩ : Addr), ()) w34) ∧ (newK w26 (.cells #[(.slice none 0 0), (.slice none 0 0), (.slice none 0 0), (.int .i64 0), (.int .i64 0)] 41) fun g35 w36 => SameBut M24 w22 w36 ∧ vcMake Try.prog 26 32 32 w36 fun g37 w38 => SameBut M24 w22 w38 ∧ stCells (⟨g35, 0, none⟩ : Addr) [(.slice A27 n28 c29), (.slice none 0 0), (.slice (some (⟨g37, 0, none⟩ : Addr)) ((32 : Int).toNat) ((32 : Int).toNat)), (.int .i64 0), (.int .i64 0)] 0 w38 fun w39 => J23 ((⟨g35, 0, none⟩ : Addr), ()) w39) ∧ True))) ∧ (vcMake Try.prog 26 32 32 w22.drew fun g40 w41 => SameBut M24 w22 w41 ∧ ((Cll Try.prog 31 #[(.slice A0 n0 c0)] w41 fun v42 w43 => (∃ (A44 : Option Addr) (n45 : Nat) (c46 : Nat), v42 = (.slice A44 n45 c46) ∧ SameBut M24 w22 w43 ∧ newK w43 (.cells #[(.slice none 0 0), (.slice none 0 0), (.slice none 0 0), (.int .i64 0), (.int .i64 0)] 41) fun g47 w48 => SameBut M24 w22 w48 ∧ stCells (⟨g47, 0, none⟩ : Addr) [(.slice A44 n45 c46), (.slice none 0 0), (.slice (some (⟨g40, 0, none⟩ : Addr)) ((32 : Int).toNat) ((32 : Int).toNat)), (.int .i64 0), (.int .i64 0)] 0 w48 fun w49 => J23 ((⟨g47, 0, none⟩ : Addr), ()) w49)) ∧ (newK w41 (.cells #[(.slice none 0 0), (.slice none 0 0), (.slice none 0 0), (.int .i64 0), (.int .i64 0)] 41) fun g50 w51 => SameBut M24 w22 w51 ∧ Cll Try.prog 31 #[(.slice A0 n0 c0)] w51 fun v52 w53 => (∃ (A54 : Option Addr) (n55 : Nat) (c56 : Nat), v52 = (.slice A54 n55 c56) ∧ SameBut M24 w22 w53 ∧ stCells (⟨g50, 0, none⟩ : Addr) [(.slice A54 n55 c56), (.slice none 0 0), (.slice (some (⟨g40, 0, none⟩ : Addr)) ((32 : Int).toNat) ((32 : Int).toNat)), (.int .i64 0), (.int .i64 0)] 0 w53 fun w57 => J23 ((⟨g50, 0, none⟩ : Addr), ()) w57)) ∧ True)) ∧ (newK w22.drew (.cells #[(.slice none 0 0), (.slice none 0 0), (.slice none 0 0), (.int .i64 0), (.int .i64 0)] 41) fun g58 w59 => SameBut M24 w22 w59 ∧ ((Cll Try.prog 31 #[(.slice A0 n0 c0)] w59 fun v60 w61 => (∃ (A62 : Option Addr) (n63 : Nat) (c64 : Nat), v60 = (.slice A62 n63 c64) ∧ SameBut M24 w22 w61 ∧ vcMake Try.prog 26 32 32 w61 fun g65 w66 => SameBut M24 w22 w66 ∧ stCells (⟨g58, 0, none⟩ : Addr) [(.slice A62 n63 c64), (.slice none 0 0), (.slice (some (⟨g65, 0, none⟩ : Addr)) ((32 : Int).toNat) ((32 : Int).toNat)), (.int .i64 0), (.int .i64 0)] 0 w66 fun w67 => J23 ((⟨g58, 0, none⟩ : Addr), ()) w67)) ∧ (vcMake Try.prog 26 32 32 w59 fun g68 w69 => SameBut M24 w22 w69 ∧ Cll Try.prog 31 #[(.slice A0 n0 c0)] w69 fun v70 w71 => (∃ (A72 : Option Addr) (n73 : Nat) (c74 : Nat), v70 = (.slice A72 n73 c74) ∧ SameBut M24 w22 w71 ∧ stCells (⟨g58, 0, none⟩ : Addr) [(.slice A72 n73 c74), (.slice none 0 0), (.slice (some (⟨g68, 0, none⟩ : Addr)) ((32 : Int).toNat) ((32 : Int).toNat)), (.int .i64 0), (.int .i64 0)] 0 w71 fun w75 => J23 ((⟨g58, 0, none⟩ : Addr), ()) w75)) ∧ True)) ∧ True))) fun z76 w77 => LoopT (σ := Int × Unit) (fun z78 w79 next80 => bcase (decide (z78.1 < x1)) ((∃ M81 : Nat → Prop, ∃ (A82 : Option Addr) (n83 : Nat) (c84 : Nat), (¬ M81 ((z76.1.add 1)).block ∧ w79.cell? ((z76.1.add 1).add 0) = some (.slice A82 n83 c84)) ∧ Cll Try.prog 27 #[(.slice A0 n0 c0), (.int .i64 z78.1)] w79.drew fun v85 w86 => (∃ (n87 : Int), True ∧ ∃ (A88 : Option Addr) (n89 : Nat) (c90 : Nat), True ∧ ∃ (A91 : Option Addr) (n92 : Nat) (c93 : Nat), True ∧ v85 = (.agg #[(.int .i64 n87), (.slice A88 n89 c90), (.slice A91 n92 c93)]) ∧ SameBut M81 w79 w86 ∧ Run Try.prog (Instr.buildSlice 39 1 #[(0, (.agg #[(.int .i64 n87), (.slice A88 n89 c90), (.slice A91 n92 c93)]))]) w86 fun v94 w95 => ∃ (A96 : Option Addr) (n97 c98 : Nat), v94 = .slice A96 n97 c98 ∧ SameBut M81 w79 w95 ∧ Run Try.prog (Builtin.append_ #[39, 39] 39 #[(.slice A82 n83 c84), (.slice A96 n97 c98)]) w95 fun v99 w100 => ∃ (A101 : Option Addr) (n102 c103 : Nat), v99 = .slice A101 n102 c103 ∧ SameBut M81 w79 w100 ∧ stCells (z76.1.add 1) [(.slice A101 n102 c103)] 0 w100 fun w104 => next80 ((IntKind.wrap .i64 (z78.1 + 1)), ()) w104))) (∃ (A105 : Option Addr) (n106 : Nat) (c107 : Nat), w79.cell? (z76.1.add 0) = some (.slice A105 n106 c107) ∧ ∃ (A108 : Option Addr) (n109 : Nat) (c110 : Nat), w79.cell? (z76.1.add 1) = some (.slice A108 n109 c110) ∧ ∃ (A111 : Option Addr) (n112 : Nat) (c113 : Nat), w79.cell? (z76.1.add 2) = some (.slice A111 n112 c113) ∧ ∃ (n114 : Int), w79.cell? (z76.1.add 3) = some (.int .i64 n114) ∧ ∃ (n115 : Int), w79.cell? (z76.1.add 4) = some (.int .i64 n115) ∧ stCells (⟨g21, 0, none⟩ : Addr) [(.slice A105 n106 c107), (.slice A108 n109 c110), (.slice A111 n112 c113), (.int .i64 n114), (.int .i64 n115)] 0 w79 fun w116 => ∃ (A117 : Option Addr) (n118 : Nat) (c119 : Nat), w116.cell? ((⟨g21, 0, none⟩ : Addr).add 0) = some (.slice A117 n118 c119) ∧ ∃ (A120 : Option Addr) (n121 : Nat) (c122 : Nat), w116.cell? ((⟨g21, 0, none⟩ : Addr).add 1) = some (.slice A120 n121 c122) ∧ ∃ (A123 : Option Addr) (n124 : Nat) (c125 : Nat), w116.cell? ((⟨g21, 0, none⟩ : Addr).add 2) = some (.slice A123 n124 c125) ∧ ∃ (n126 : Int), w116.cell? ((⟨g21, 0, none⟩ : Addr).add 3) = some (.int .i64 n126) ∧ ∃ (n127 : Int), w116.cell? ((⟨g21, 0, none⟩ : Addr).add 4) = some (.int .i64 n127) ∧ K (.agg #[(.slice A117 n118 c119), (.slice A120 n121 c122), (.slice A123 n124 c125), (.int .i64 n126), (.int .i64 n127)]) w116)) (0, ()) w77

def impl_newBlock.ann : Ann := (.seq .l (.cut [(5, .ptr)] .l (.seq (.seq .l (.one (.loop [(12, .int .i64)] (.seq .l (.seq (.two .l .l) (.seq (.one (.seq .l .l)) .l)))))) (.seq .l .l))))

theorem impl_newBlock.start {A0 : Option Addr} {n0 : Nat} {c0 : Nat} {x1 : Int} {w : World} {K : Value → World → Prop} (h : impl_newBlock.vc A0 n0 c0 x1 w K) : Cll Try.prog 42 #[(.slice A0 n0 c0), (.int .i64 x1)] w K :=
  vcF_sound mixed (fn := Try.f42) (by kernel_rfl) (by kernel_rfl) (an := impl_newBlock.ann) (args := [(.slice A0 n0 c0), (.int .i64 x1)]) (Eq.mpr (by kernel_rfl) h)

theorem impl_newBlock.con {xs0 : List D.Ins} {A0 : Option Addr} {c0 : Nat} {x1 : Int} {r : D.Block} {w : World} (hp : M.impl_newBlock_pre xs0 x1) (hr : r = M.impl_newBlock xs0 x1) (R0 : Row el60 w A0 xs0) (hc0 : xs0.length ≤ c0) :
    Cll Try.prog 42 #[(.slice A0 xs0.length c0), (.int .i64 x1)] w (fun v_ w_ => ∃ (A0_ : Option Addr) (c0_ : Nat) (A1_ : Option Addr) (c1_ : Nat) (F1_ : Nat → Prop) (A2_ : Option Addr) (c2_ : Nat), v_ = (.agg #[(.slice A0_ r.Code.length c0_), (.slice A1_ r.Warps.length c1_), (.slice A2_ r.Memory.length c2_), (.int .i64 r.Waiting), (.int .i64 r.Phase)]) ∧ Own el60 w_ w.heap.size A0_ c0_ r.Code ∧ OwnW 30 el81 el3 w_ w.heap.size F1_ A1_ c1_ r.Warps ∧ Own el3 w_ w.heap.size A2_ c2_ r.Memory ∧ Dis (InW A1_ F1_) (InB A2_) ∧ Ext w w_) := by
  have H := wp.impl_newBlock.math xs0 x1 hp
  have hB := Ext.refl w
  refine impl_newBlock.start ?_
  unfold impl_newBlock.vc
  unfold wp.impl_newBlock at H
  refine newBlk (fun g2_ w21 L2 P2 e22 => ?_)
  have O2 := P2
  have L2 := Nat.le_trans hB.size L2
  have hB := ethen hB e22
  obtain ⟨K302, hKK302, H⟩ := joinP_out H
  refine ⟨fun z_ w_ => ∃ (xs23 : List D.Ins) (xs27 : List D.Warp) (xs30 : List Int) (i33 : Int) (i34 : Int) (g18_ : Nat) (A24 : Option Addr) (c25 : Nat) (A28 : Option Addr) (c29 : Nat) (F26 : Nat → Prop) (A31 : Option Addr) (c32 : Nat), z_ = ((⟨g18_, 0, none⟩ : Addr), ()) ∧ K302 (xs23, xs27, xs30, i33, i34, ()) ∧ Ext w w_ ∧ Blk w_ g18_ 41 #[(.slice A24 xs23.length c25), (.slice A28 xs27.length c29), (.slice A31 xs30.length c32), (.int .i64 i33), (.int .i64 i34)] ∧ w.heap.size ≤ g18_ ∧ Own el60 w_ w.heap.size A24 c25 xs23 ∧ OwnW 30 el81 el3 w_ w.heap.size F26 A28 c29 xs27 ∧ Own el3 w_ w.heap.size A31 c32 xs30 ∧ Blk w_ g2_ 41 #[(.slice none 0 0), (.slice none 0 0), (.slice none 0 0), (.int .i64 0), (.int .i64 0)] ∧ g2_ ≠ g18_ ∧ Dis (InW A28 F26) (InB A31), ?_, ?_⟩
  · refine ⟨(fun _ => False), ?_⟩
    refine And.intro ?_ ?_
    · have H := H.1
      have hS38 := Chg.refl (fun _ => False) w21
      have O2 := O2.ext (Ext.drew _)
      have hB := ethen hB (Ext.drew _)
      have hS38 := hS38.then (Ext.drew _)
      obtain ⟨hp41, H⟩ := H
      obtain ⟨r39, hr40⟩ : ∃ r_, r_ = M.slices_Clone_impl_Ins_impl_Ins xs0 := ⟨_, rfl⟩
      have H := H r39 hr40
      refine (slices_Clone_impl_Ins_impl_Ins.con hp41 hr40 (R0.ext hB) hc0).mono ?_
      rintro _ w42 ⟨A44, c45, rfl, P22, e43⟩
      have N22_2 := P22.apart_old O2.lt
      have O2 := O2.ext e43
      have LB22 := (P22.mono hS38.size).low
      have O22 := P22.mono hB.size
      have hB := ethen hB e43
      have hS38 := hS38.then e43
      refine ⟨A44, r39.length, c45, rfl, ?_⟩
      refine ⟨sameBut_chg hS38, ?_⟩
      refine And.intro ?_ ?_
      · have H := H.1
        obtain ⟨⟨h0_49, h1_50⟩, H⟩ := H
        refine makeOwn slt26 h0_49 h1_50 (fun g46 w47 P23 e48 => ?_)
        have N23_2 := P23.apart_old O2.lt
        have N22_23 := Own.apart2_new O22 P23 (Nat.le_refl _)
        have O2 := O2.ext e48
        have O22 := O22.ext e48
        have LB23 := (P23.mono hS38.size).low
        have O23 := P23.mono hB.size
        have hB := ethen hB e48
        have hS38 := hS38.then e48
        refine ⟨sameBut_chg hS38, ?_⟩
        refine newBlk (fun g24_ w51 L24 P24 e52 => ?_)
        have N2_24 := O2.ne L24
        have N22_24 := O22.apart_new L24
        have N23_24 := O23.apart_new L24
        have O2 := O2.ext e52
        have O22 := O22.ext e52
        have O23 := O23.ext e52
        have O24 := P24
        have LB24 := Nat.le_trans hS38.size L24
        have L24 := Nat.le_trans hB.size L24
        have hB := ethen hB e52
        have hS38 := hS38.then e52
        refine ⟨sameBut_chg hS38, ?_⟩
        refine stBlk O24 (o := 0) (cs' := #[(.slice A44 r39.length c45), (.slice none 0 0), (.slice (some (⟨g46, 0, none⟩ : Addr)) ((32 : Int).toNat) ((32 : Int).toNat)), (.int .i64 0), (.int .i64 0)]) rfl rfl (Nat.le_of_ble_eq_true rfl) rfl (fun w53 P24 e54 => ?_)
        have O2_ := O2.chg e54 N2_24
        have O22_ := O22.chg e54 N22_24
        have O23_ := O23.chg e54 N23_24
        have O2 := O2_
        have O22 := O22_
        have O23 := O23_
        have hB := echg hB e54 L24
        have O24 := P24
        exact ⟨r39, [], (List.replicate ((32 : Int).toNat) (default : Int)), 0, 0, g24_, A44, c45, none, 0, (fun _ => False), (some (⟨g46, 0, none⟩ : Addr)), ((32 : Int).toNat), rfl, H, hB, O24, L24, O22, OwnW.nil, O23, O2, N2_24, nilW_dis⟩
      refine And.intro ?_ ?_
      · have H := H.2.1
        refine newBlk (fun g25_ w55 L25 P25 e56 => ?_)
        have N2_25 := O2.ne L25
        have N22_25 := O22.apart_new L25
        have O2 := O2.ext e56
        have O22 := O22.ext e56
        have O25 := P25
        have LB25 := Nat.le_trans hS38.size L25
        have L25 := Nat.le_trans hB.size L25
        have hB := ethen hB e56
        have hS38 := hS38.then e56
        refine ⟨sameBut_chg hS38, ?_⟩
        obtain ⟨⟨h0_60, h1_61⟩, H⟩ := H
        refine makeOwn slt26 h0_60 h1_61 (fun g57 w58 P26 e59 => ?_)
        have N26_2 := P26.apart_old O2.lt
        have N22_26 := Own.apart2_new O22 P26 (Nat.le_refl _)
        have N26_25 := P26.apart_old O25.lt
        have O2 := O2.ext e59
        have O22 := O22.ext e59
        have O25 := O25.ext e59
        have LB26 := (P26.mono hS38.size).low
        have O26 := P26.mono hB.size
        have hB := ethen hB e59
        have hS38 := hS38.then e59
        refine ⟨sameBut_chg hS38, ?_⟩
        refine stBlk O25 (o := 0) (cs' := #[(.slice A44 r39.length c45), (.slice none 0 0), (.slice (some (⟨g57, 0, none⟩ : Addr)) ((32 : Int).toNat) ((32 : Int).toNat)), (.int .i64 0), (.int .i64 0)]) rfl rfl (Nat.le_of_ble_eq_true rfl) rfl (fun w62 P25 e63 => ?_)
        have O2_ := O2.chg e63 N2_25
        have O22_ := O22.chg e63 N22_25
        have O26_ := O26.chg e63 N26_25
        have O2 := O2_
        have O22 := O22_
        have O26 := O26_
        have hB := echg hB e63 L25
        have O25 := P25
        exact ⟨r39, [], (List.replicate ((32 : Int).toNat) (default : Int)), 0, 0, g25_, A44, c45, none, 0, (fun _ => False), (some (⟨g57, 0, none⟩ : Addr)), ((32 : Int).toNat), rfl, H, hB, O25, L25, O22, OwnW.nil, O26, O2, N2_25, nilW_dis⟩
      exact trivial
    refine And.intro ?_ ?_
    · have H := H.2.1
      have hS38 := Chg.refl (fun _ => False) w21
      have O2 := O2.ext (Ext.drew _)
      have hB := ethen hB (Ext.drew _)
      have hS38 := hS38.then (Ext.drew _)
      obtain ⟨⟨h0_67, h1_68⟩, H⟩ := H
      refine makeOwn slt26 h0_67 h1_68 (fun g64 w65 P27 e66 => ?_)
      have N27_2 := P27.apart_old O2.lt
      have O2 := O2.ext e66
      have LB27 := (P27.mono hS38.size).low
      have O27 := P27.mono hB.size
      have hB := ethen hB e66
      have hS38 := hS38.then e66
      refine ⟨sameBut_chg hS38, ?_⟩
      refine And.intro ?_ ?_
      · have H := H.1
        obtain ⟨hp71, H⟩ := H
        obtain ⟨r69, hr70⟩ : ∃ r_, r_ = M.slices_Clone_impl_Ins_impl_Ins xs0 := ⟨_, rfl⟩
        have H := H r69 hr70
        refine (slices_Clone_impl_Ins_impl_Ins.con hp71 hr70 (R0.ext hB) hc0).mono ?_
        rintro _ w72 ⟨A74, c75, rfl, P28, e73⟩
        have N28_2 := P28.apart_old O2.lt
        have N27_28 := Own.apart2_new O27 P28 (Nat.le_refl _)
        have O2 := O2.ext e73
        have O27 := O27.ext e73
        have LB28 := (P28.mono hS38.size).low
        have O28 := P28.mono hB.size
        have hB := ethen hB e73
        have hS38 := hS38.then e73
        refine ⟨A74, r69.length, c75, rfl, ?_⟩
        refine ⟨sameBut_chg hS38, ?_⟩
        refine newBlk (fun g29_ w76 L29 P29 e77 => ?_)
        have N2_29 := O2.ne L29
        have N27_29 := O27.apart_new L29
        have N28_29 := O28.apart_new L29
        have O2 := O2.ext e77
        have O27 := O27.ext e77
        have O28 := O28.ext e77
        have O29 := P29
        have LB29 := Nat.le_trans hS38.size L29
        have L29 := Nat.le_trans hB.size L29
        have hB := ethen hB e77
        have hS38 := hS38.then e77
        refine ⟨sameBut_chg hS38, ?_⟩
        refine stBlk O29 (o := 0) (cs' := #[(.slice A74 r69.length c75), (.slice none 0 0), (.slice (some (⟨g64, 0, none⟩ : Addr)) ((32 : Int).toNat) ((32 : Int).toNat)), (.int .i64 0), (.int .i64 0)]) rfl rfl (Nat.le_of_ble_eq_true rfl) rfl (fun w78 P29 e79 => ?_)
        have O2_ := O2.chg e79 N2_29
        have O27_ := O27.chg e79 N27_29
        have O28_ := O28.chg e79 N28_29
        have O2 := O2_
        have O27 := O27_
        have O28 := O28_
        have hB := echg hB e79 L29
        have O29 := P29
        exact ⟨r69, [], (List.replicate ((32 : Int).toNat) (default : Int)), 0, 0, g29_, A74, c75, none, 0, (fun _ => False), (some (⟨g64, 0, none⟩ : Addr)), ((32 : Int).toNat), rfl, H, hB, O29, L29, O28, OwnW.nil, O27, O2, N2_29, nilW_dis⟩
      refine And.intro ?_ ?_
      · have H := H.2.1
        refine newBlk (fun g30_ w80 L30 P30 e81 => ?_)
        have N2_30 := O2.ne L30
        have N27_30 := O27.apart_new L30
        have O2 := O2.ext e81
        have O27 := O27.ext e81
        have O30 := P30
        have LB30 := Nat.le_trans hS38.size L30
        have L30 := Nat.le_trans hB.size L30
        have hB := ethen hB e81
        have hS38 := hS38.then e81
        refine ⟨sameBut_chg hS38, ?_⟩
        obtain ⟨hp84, H⟩ := H
        obtain ⟨r82, hr83⟩ : ∃ r_, r_ = M.slices_Clone_impl_Ins_impl_Ins xs0 := ⟨_, rfl⟩
        have H := H r82 hr83
        refine (slices_Clone_impl_Ins_impl_Ins.con hp84 hr83 (R0.ext hB) hc0).mono ?_
        rintro _ w85 ⟨A87, c88, rfl, P31, e86⟩
        have N31_2 := P31.apart_old O2.lt
        have N27_31 := Own.apart2_new O27 P31 (Nat.le_refl _)
        have N31_30 := P31.apart_old O30.lt
        have O2 := O2.ext e86
        have O27 := O27.ext e86
        have O30 := O30.ext e86
        have LB31 := (P31.mono hS38.size).low
        have O31 := P31.mono hB.size
        have hB := ethen hB e86
        have hS38 := hS38.then e86
        refine ⟨A87, r82.length, c88, rfl, ?_⟩
        refine ⟨sameBut_chg hS38, ?_⟩
        refine stBlk O30 (o := 0) (cs' := #[(.slice A87 r82.length c88), (.slice none 0 0), (.slice (some (⟨g64, 0, none⟩ : Addr)) ((32 : Int).toNat) ((32 : Int).toNat)), (.int .i64 0), (.int .i64 0)]) rfl rfl (Nat.le_of_ble_eq_true rfl) rfl (fun w89 P30 e90 => ?_)
        have O2_ := O2.chg e90 N2_30
        have O27_ := O27.chg e90 N27_30
        have O31_ := O31.chg e90 N31_30
        have O2 := O2_
        have O27 := O27_
        have O31 := O31_
        have hB := echg hB e90 L30
        have O30 := P30
        exact ⟨r82, [], (List.replicate ((32 : Int).toNat) (default : Int)), 0, 0, g30_, A87, c88, none, 0, (fun _ => False), (some (⟨g64, 0, none⟩ : Addr)), ((32 : Int).toNat), rfl, H, hB, O30, L30, O31, OwnW.nil, O27, O2, N2_30, nilW_dis⟩
      exact trivial
    refine And.intro ?_ ?_
    · have H := H.2.2.1
      have hS38 := Chg.refl (fun _ => False) w21
      have O2 := O2.ext (Ext.drew _)
      have hB := ethen hB (Ext.drew _)
      have hS38 := hS38.then (Ext.drew _)
      refine newBlk (fun g32_ w91 L32 P32 e92 => ?_)
      have N2_32 := O2.ne L32
      have O2 := O2.ext e92
      have O32 := P32
      have LB32 := Nat.le_trans hS38.size L32
      have L32 := Nat.le_trans hB.size L32
      have hB := ethen hB e92
      have hS38 := hS38.then e92
      refine ⟨sameBut_chg hS38, ?_⟩
      refine And.intro ?_ ?_
      · have H := H.1
        obtain ⟨hp95, H⟩ := H
        obtain ⟨r93, hr94⟩ : ∃ r_, r_ = M.slices_Clone_impl_Ins_impl_Ins xs0 := ⟨_, rfl⟩
        have H := H r93 hr94
        refine (slices_Clone_impl_Ins_impl_Ins.con hp95 hr94 (R0.ext hB) hc0).mono ?_
        rintro _ w96 ⟨A98, c99, rfl, P33, e97⟩
        have N33_2 := P33.apart_old O2.lt
        have N33_32 := P33.apart_old O32.lt
        have O2 := O2.ext e97
        have O32 := O32.ext e97
        have LB33 := (P33.mono hS38.size).low
        have O33 := P33.mono hB.size
        have hB := ethen hB e97
        have hS38 := hS38.then e97
        refine ⟨A98, r93.length, c99, rfl, ?_⟩
        refine ⟨sameBut_chg hS38, ?_⟩
        obtain ⟨⟨h0_103, h1_104⟩, H⟩ := H
        refine makeOwn slt26 h0_103 h1_104 (fun g100 w101 P34 e102 => ?_)
        have N34_2 := P34.apart_old O2.lt
        have N34_32 := P34.apart_old O32.lt
        have N33_34 := Own.apart2_new O33 P34 (Nat.le_refl _)
        have O2 := O2.ext e102
        have O32 := O32.ext e102
        have O33 := O33.ext e102
        have LB34 := (P34.mono hS38.size).low
        have O34 := P34.mono hB.size
        have hB := ethen hB e102
        have hS38 := hS38.then e102
        refine ⟨sameBut_chg hS38, ?_⟩
        refine stBlk O32 (o := 0) (cs' := #[(.slice A98 r93.length c99), (.slice none 0 0), (.slice (some (⟨g100, 0, none⟩ : Addr)) ((32 : Int).toNat) ((32 : Int).toNat)), (.int .i64 0), (.int .i64 0)]) rfl rfl (Nat.le_of_ble_eq_true rfl) rfl (fun w105 P32 e106 => ?_)
        have O2_ := O2.chg e106 N2_32
        have O33_ := O33.chg e106 N33_32
        have O34_ := O34.chg e106 N34_32
        have O2 := O2_
        have O33 := O33_
        have O34 := O34_
        have hB := echg hB e106 L32
        have O32 := P32
        exact ⟨r93, [], (List.replicate ((32 : Int).toNat) (default : Int)), 0, 0, g32_, A98, c99, none, 0, (fun _ => False), (some (⟨g100, 0, none⟩ : Addr)), ((32 : Int).toNat), rfl, H, hB, O32, L32, O33, OwnW.nil, O34, O2, N2_32, nilW_dis⟩
      refine And.intro ?_ ?_
      · have H := H.2.1
        obtain ⟨⟨h0_110, h1_111⟩, H⟩ := H
        refine makeOwn slt26 h0_110 h1_111 (fun g107 w108 P35 e109 => ?_)
        have N35_2 := P35.apart_old O2.lt
        have N35_32 := P35.apart_old O32.lt
        have O2 := O2.ext e109
        have O32 := O32.ext e109
        have LB35 := (P35.mono hS38.size).low
        have O35 := P35.mono hB.size
        have hB := ethen hB e109
        have hS38 := hS38.then e109
        refine ⟨sameBut_chg hS38, ?_⟩
        obtain ⟨hp114, H⟩ := H
        obtain ⟨r112, hr113⟩ : ∃ r_, r_ = M.slices_Clone_impl_Ins_impl_Ins xs0 := ⟨_, rfl⟩
        have H := H r112 hr113
        refine (slices_Clone_impl_Ins_impl_Ins.con hp114 hr113 (R0.ext hB) hc0).mono ?_
        rintro _ w115 ⟨A117, c118, rfl, P36, e116⟩
        have N36_2 := P36.apart_old O2.lt
        have N36_32 := P36.apart_old O32.lt
        have N35_36 := Own.apart2_new O35 P36 (Nat.le_refl _)
        have O2 := O2.ext e116
        have O32 := O32.ext e116
        have O35 := O35.ext e116
        have LB36 := (P36.mono hS38.size).low
        have O36 := P36.mono hB.size
        have hB := ethen hB e116
        have hS38 := hS38.then e116
        refine ⟨A117, r112.length, c118, rfl, ?_⟩
        refine ⟨sameBut_chg hS38, ?_⟩
        refine stBlk O32 (o := 0) (cs' := #[(.slice A117 r112.length c118), (.slice none 0 0), (.slice (some (⟨g107, 0, none⟩ : Addr)) ((32 : Int).toNat) ((32 : Int).toNat)), (.int .i64 0), (.int .i64 0)]) rfl rfl (Nat.le_of_ble_eq_true rfl) rfl (fun w119 P32 e120 => ?_)
        have O2_ := O2.chg e120 N2_32
        have O35_ := O35.chg e120 N35_32
        have O36_ := O36.chg e120 N36_32
        have O2 := O2_
        have O35 := O35_
        have O36 := O36_
        have hB := echg hB e120 L32
        have O32 := P32
        exact ⟨r112, [], (List.replicate ((32 : Int).toNat) (default : Int)), 0, 0, g32_, A117, c118, none, 0, (fun _ => False), (some (⟨g107, 0, none⟩ : Addr)), ((32 : Int).toNat), rfl, H, hB, O32, L32, O36, OwnW.nil, O35, O2, N2_32, nilW_dis⟩
      exact trivial
    exact trivial
  rintro _ w36 ⟨xs23, xs27, xs30, i33, i34, g18_, A24, c25, A28, c29, F26, A31, c32, rfl, H, hB, O18, L18, O19, O20, O21, O2, N2_18, N20_21⟩
  have H := hKK302 _ H
  try dsimp only at H ⊢
  obtain ⟨J240, ⟨m299, hJ298⟩, hS241⟩ := H
  refine ⟨fun m_ z_ w_ => ∃ (i232 : Int) (xs234 : List D.Warp) (i237 : Int) (i238 : Int) (A235 : Option Addr) (c236 : Nat) (F233 : Nat → Prop), z_ = (i232, ()) ∧ J240 m_ (i232, xs234, i237, i238, ()) ∧ Ext w w_ ∧ Blk w_ g18_ 41 #[(.slice A24 xs23.length c25), (.slice A235 xs234.length c236), (.slice A31 xs30.length c32), (.int .i64 i237), (.int .i64 i238)] ∧ OwnW 30 el81 el3 w_ w.heap.size F233 A235 c236 xs234 ∧ Blk w_ g2_ 41 #[(.slice none 0 0), (.slice none 0 0), (.slice none 0 0), (.int .i64 0), (.int .i64 0)] ∧ Own el60 w_ w.heap.size A24 c25 xs23 ∧ Own el3 w_ w.heap.size A31 c32 xs30 ∧ Dis (InW A235 F233) (InB A31), ⟨m299, 0, xs27, i33, i34, A28, c29, F26, rfl, hJ298, hB, O18, O20, O2, O19, O21, N20_21⟩, ?_⟩
  rintro m239 _ w243 ⟨i232, xs234, i237, i238, A235, c236, F233, rfl, hJ300, hB, O18, O49, O2, O19, O21, N49_21⟩
  have H := hS241 m239 _ hJ300
  clear hS241 hJ300
  try dsimp only at H ⊢
  refine bcase_mk (fun hc296 => ?_) (fun hc296 => ?_)
  · have H := (bcase_iff.1 H).1 hc296
    refine ⟨(InB A235), ?_⟩
    refine ⟨_, _, _, ⟨(notM1 (fun h_ => (OwnW.dis_blk O49 O18 (by decide) (by decide) (by decide)) (Or.inl h_)) (by first | rfl | (simp only [blk_add]))), (O18.at 1 rfl rfl)⟩, ?_⟩
    have hS244 := Chg.refl (InB A235) w243
    have O2 := O2.ext (Ext.drew _)
    have O18 := O18.ext (Ext.drew _)
    have O19 := O19.ext (Ext.drew _)
    have O21 := O21.ext (Ext.drew _)
    have O49 := O49.ext (Ext.drew _)
    have hB := ethen hB (Ext.drew _)
    have hS244 := hS244.then (Ext.drew _)
    obtain ⟨hp269, H⟩ := H
    obtain ⟨r267, hr268⟩ : ∃ r_, r_ = M.impl_newWarp xs0 i232 := ⟨_, rfl⟩
    have H := H r267 hr268
    refine (impl_newWarp.con hp269 hr268 (R0.ext hB) hc0).mono ?_
    rintro _ w270 ⟨A272, c273, A274, c275, rfl, P53, P54, e271⟩
    have N53_2 := P53.apart_old O2.lt
    have N53_18 := P53.apart_old O18.lt
    have N19_53 := Own.apart2_new O19 P53 (Nat.le_refl _)
    have N21_53 := Own.apart2_new O21 P53 (Nat.le_refl _)
    have N49_53 := O49.dis_new P53 (Nat.le_refl _)
    have N54_2 := P54.apart_old O2.lt
    have N54_18 := P54.apart_old O18.lt
    have N19_54 := Own.apart2_new O19 P54 (Nat.le_refl _)
    have N21_54 := Own.apart2_new O21 P54 (Nat.le_refl _)
    have N49_54 := O49.dis_new P54 (Nat.le_refl _)
    have O2 := O2.ext e271
    have O18 := O18.ext e271
    have O19 := O19.ext e271
    have O21 := O21.ext e271
    have O49 := O49.ext e271
    have LB53 := (P53.mono hS244.size).low
    have LB54 := (P54.mono hS244.size).low
    have O53 := P53.mono hB.size
    have O54 := P54.mono hB.size
    have hB := ethen hB e271
    have hS244 := hS244.then e271
    refine ⟨r267.Number, trivial, ?_⟩
    refine ⟨A272, r267.Frames.length, c273, trivial, ?_⟩
    refine ⟨A274, r267.Regs.length, c275, trivial, ?_⟩
    refine ⟨rfl, ?_⟩
    refine ⟨sameBut_chg hS244, ?_⟩
    refine buildOwn (elH 30) ([⟨r267, A272, c273, A274, c275⟩] : List HW) (fun _ => by kernel_rfl) rfl (fun A276 w277 P55 e278 => ?_)
    have Q55 : OwnW 30 el81 el3 _ _ _ _ _ _ := OwnW.one (P55.mono hB.size) (O53.ext e278) (O54.ext e278)
    have N55_21 : Dis (InW A276 (fun g => InB A272 g ∨ InB A274 g)) (InB A31) := fun g h_ hx_ => h_.elim (fun h_ => (Own.apart2_new O21 P55 (Nat.le_refl _)).inb g hx_ h_) (fun h_ => h_.elim (fun h_ => ((N21_53).symm).inb g h_ hx_) (fun h_ => ((N21_54).symm).inb g h_ hx_))
    have N55_49 : Dis (InW A276 (fun g => InB A272 g ∨ InB A274 g)) (InW A235 F233) := fun g h_ hx_ => h_.elim (fun h_ => O49.dis_new P55 (Nat.le_refl _) g hx_ h_) (fun h_ => h_.elim (fun h_ => N49_53 g hx_ h_) (fun h_ => N49_54 g hx_ h_))
    have O2 := O2.ext e278
    have O18 := O18.ext e278
    have O19 := O19.ext e278
    have O21 := O21.ext e278
    have O49 := O49.ext e278
    have LB55 : ∀ g, InW A276 (fun g => InB A272 g ∨ InB A274 g) g → _ := fun g h_ => h_.elim ((P55.mono hS244.size).low g) (fun h_ => h_.elim (fun h_ => LB53 g h_) (fun h_ => LB54 g h_))
    have O55 := Q55
    have hB := ethen hB e278
    have hS244 := hS244.then e278
    refine ⟨sameBut_chg hS244, ?_⟩
    obtain ⟨hl288, H⟩ := H
    refine appOwnW slt39 slt39.under O49 O55 (N55_49).symm (by decide) (by decide) hB.size rfl (by first | rfl | omega | (simp; done) | (simp; omega)) hl288 (fun A284 c285 w286 P49 e287 => ?_)
    have O2 := O2.app e287 (fun a_ ha_ hb_ => (OwnW.dis_blk O49 O2 (by decide) (by decide) (by decide)) (Or.inl ⟨a_, ha_, hb_⟩))
    have O18 := O18.app e287 (fun a_ ha_ hb_ => (OwnW.dis_blk O49 O18 (by decide) (by decide) (by decide)) (Or.inl ⟨a_, ha_, hb_⟩))
    have O19 := O19.app e287 (fun a_ b_ ha_ hb_ hab_ => (OwnW.dis_type O49 O19 (by decide) (by decide) (by decide)) _ (Or.inl ⟨b_, hb_, rfl⟩) ⟨a_, ha_, hab_⟩)
    have N49_21_ := dis_app N49_21 N55_21 e287 O21
    have O21 := O21.app e287 (fun a_ b_ ha_ hb_ hab_ => N49_21 _ (Or.inl ⟨b_, hb_, rfl⟩) ⟨a_, ha_, hab_⟩)
    have N49_21 := N49_21_
    have hsz49_ := hS244.size
    have hS244 := hS244.app e287 (fun g h_ => (Or.inr h_))
    have hB := eappW hB e287 O49
    have O49 := P49
    refine ⟨sameBut_chg hS244, ?_⟩
    refine stBlk O18 (o := 1) (cs' := #[(.slice A24 xs23.length c25), (.slice A284 (((xs234 ++ ([r267] : List D.Warp))).length) c285), (.slice A31 xs30.length c32), (.int .i64 i237), (.int .i64 i238)]) rfl rfl (Nat.le_of_ble_eq_true rfl) rfl (fun w289 P18 e290 => ?_)
    have O2_ := O2.chg e290 N2_18
    have O19_ := O19.chg e290 (O19.apart_type O18 (by decide))
    have O21_ := O21.chg e290 (O21.apart_type O18 (by decide))
    have O49_ := O49.chg e290 (OwnW.dis_blk O49 O18 (by decide) (by decide) (by decide))
    have O2 := O2_
    have O19 := O19_
    have O21 := O21_
    have O49 := O49_
    have hB := echg hB e290 L18
    have O18 := P18
    obtain ⟨m291, hm292, hJ293⟩ := H
    exact ⟨m291, hm292, (IntKind.wrap .i64 (i232 + 1)), (xs234 ++ ([r267] : List D.Warp)), i237, i238, A284, c285, (fun g => F233 g ∨ (fun g => InB A272 g ∨ InB A274 g) g), rfl, hJ293, hB, O18, O49, O2, O19, O21, N49_21⟩
  have H := (bcase_iff.1 H).2 hc296
  refine ⟨_, _, _, (O18.at 0 rfl rfl), ?_⟩
  refine ⟨_, _, _, (O18.at 1 rfl rfl), ?_⟩
  refine ⟨_, _, _, (O18.at 2 rfl rfl), ?_⟩
  refine ⟨_, (O18.at 3 rfl rfl), ?_⟩
  refine ⟨_, (O18.at 4 rfl rfl), ?_⟩
  refine stBlk O2 (o := 0) (cs' := #[(.slice A24 xs23.length c25), (.slice A235 xs234.length c236), (.slice A31 xs30.length c32), (.int .i64 i237), (.int .i64 i238)]) rfl rfl (Nat.le_of_ble_eq_true rfl) rfl (fun w294 P2 e295 => ?_)
  have O18_ := O18.chg e295 (N2_18).symm
  have O19_ := O19.chg e295 (O19.apart_type O2 (by decide))
  have O21_ := O21.chg e295 (O21.apart_type O2 (by decide))
  have O49_ := O49.chg e295 (OwnW.dis_blk O49 O2 (by decide) (by decide) (by decide))
  have O18 := O18_
  have O19 := O19_
  have O21 := O21_
  have O49 := O49_
  have hB := echg hB e295 L2
  have O2 := P2
  refine ⟨_, _, _, (O2.at 0 rfl rfl), ?_⟩
  refine ⟨_, _, _, (O2.at 1 rfl rfl), ?_⟩
  refine ⟨_, _, _, (O2.at 2 rfl rfl), ?_⟩
  refine ⟨_, (O2.at 3 rfl rfl), ?_⟩
  refine ⟨_, (O2.at 4 rfl rfl), ?_⟩
  obtain rfl := hr.trans H.symm
  exact ⟨A24, c25, A235, c236, F233, A31, c32, rfl, O19, O49, O21, N49_21, hB⟩
def impl_BlockNew.vc (A0 : Option Addr) (n0 : Nat) (c0 : Nat) (x1 : Int) (w : World) (K : Value → World → Prop) : Prop :=
  newK w (.cells #[(.slice none 0 0), (.slice none 0 0), (.slice none 0 0), (.int .i64 0), (.int .i64 0)] 41) fun g21 w22 => Cll Try.prog 32 #[(.slice A0 n0 c0)] w22 fun v23 w24 => (∃ (b25 : Bool), v23 = (.bool b25) ∧ bcase (!b25) (stCells (⟨g21, 0, none⟩ : Addr) [(.slice none 0 0), (.slice none 0 0), (.slice none 0 0), (.int .i64 0), (.int .i64 0)] 0 w24 fun w26 => ∃ (A27 : Option Addr) (n28 : Nat) (c29 : Nat), w26.cell? ((⟨g21, 0, none⟩ : Addr).add 0) = some (.slice A27 n28 c29) ∧ ∃ (A30 : Option Addr) (n31 : Nat) (c32 : Nat), w26.cell? ((⟨g21, 0, none⟩ : Addr).add 1) = some (.slice A30 n31 c32) ∧ ∃ (A33 : Option Addr) (n34 : Nat) (c35 : Nat), w26.cell? ((⟨g21, 0, none⟩ : Addr).add 2) = some (.slice A33 n34 c35) ∧ ∃ (n36 : Int), w26.cell? ((⟨g21, 0, none⟩ : Addr).add 3) = some (.int .i64 n36) ∧ ∃ (n37 : Int), w26.cell? ((⟨g21, 0, none⟩ : Addr).add 4) = some (.int .i64 n37) ∧ K (.tuple #[(.agg #[(.slice A27 n28 c29), (.slice A30 n31 c32), (.slice A33 n34 c35), (.int .i64 n36), (.int .i64 n37)]), (.bool false)]) w26) (Cll Try.prog 41 #[(.int .i64 x1)] w24 fun v38 w39 => (∃ (b40 : Bool), v38 = (.bool b40) ∧ bcase (!b40) (stCells (⟨g21, 0, none⟩ : Addr) [(.slice none 0 0), (.slice none 0 0), (.slice none 0 0), (.int .i64 0), (.int .i64 0)] 0 w39 fun w41 => ∃ (A42 : Option Addr) (n43 : Nat) (c44 : Nat), w41.cell? ((⟨g21, 0, none⟩ : Addr).add 0) = some (.slice A42 n43 c44) ∧ ∃ (A45 : Option Addr) (n46 : Nat) (c47 : Nat), w41.cell? ((⟨g21, 0, none⟩ : Addr).add 1) = some (.slice A45 n46 c47) ∧ ∃ (A48 : Option Addr) (n49 : Nat) (c50 : Nat), w41.cell? ((⟨g21, 0, none⟩ : Addr).add 2) = some (.slice A48 n49 c50) ∧ ∃ (n51 : Int), w41.cell? ((⟨g21, 0, none⟩ : Addr).add 3) = some (.int .i64 n51) ∧ ∃ (n52 : Int), w41.cell? ((⟨g21, 0, none⟩ : Addr).add 4) = some (.int .i64 n52) ∧ K (.tuple #[(.agg #[(.slice A42 n43 c44), (.slice A45 n46 c47), (.slice A48 n49 c50), (.int .i64 n51), (.int .i64 n52)]), (.bool false)]) w41) (Cll Try.prog 42 #[(.slice A0 n0 c0), (.int .i64 x1)] w39 fun v53 w54 => (∃ (A55 : Option Addr) (n56 : Nat) (c57 : Nat), True ∧ ∃ (A58 : Option Addr) (n59 : Nat) (c60 : Nat), True ∧ ∃ (A61 : Option Addr) (n62 : Nat) (c63 : Nat), True ∧ ∃ (n64 : Int), True ∧ ∃ (n65 : Int), True ∧ v53 = (.agg #[(.slice A55 n56 c57), (.slice A58 n59 c60), (.slice A61 n62 c63), (.int .i64 n64), (.int .i64 n65)]) ∧ stCells (⟨g21, 0, none⟩ : Addr) [(.slice A55 n56 c57), (.slice A58 n59 c60), (.slice A61 n62 c63), (.int .i64 n64), (.int .i64 n65)] 0 w54 fun w66 => ∃ (A67 : Option Addr) (n68 : Nat) (c69 : Nat), w66.cell? ((⟨g21, 0, none⟩ : Addr).add 0) = some (.slice A67 n68 c69) ∧ ∃ (A70 : Option Addr) (n71 : Nat) (c72 : Nat), w66.cell? ((⟨g21, 0, none⟩ : Addr).add 1) = some (.slice A70 n71 c72) ∧ ∃ (A73 : Option Addr) (n74 : Nat) (c75 : Nat), w66.cell? ((⟨g21, 0, none⟩ : Addr).add 2) = some (.slice A73 n74 c75) ∧ ∃ (n76 : Int), w66.cell? ((⟨g21, 0, none⟩ : Addr).add 3) = some (.int .i64 n76) ∧ ∃ (n77 : Int), w66.cell? ((⟨g21, 0, none⟩ : Addr).add 4) = some (.int .i64 n77) ∧ K (.tuple #[(.agg #[(.slice A67 n68 c69), (.slice A70 n71 c72), (.slice A73 n74 c75), (.int .i64 n76), (.int .i64 n77)]), (.bool true)]) w66)))))

def impl_BlockNew.ann : Ann := (.seq .l (.seq (.seq .l (.two (.seq .l .l) .l)) (.seq .l .l)))

theorem impl_BlockNew.start {A0 : Option Addr} {n0 : Nat} {c0 : Nat} {x1 : Int} {w : World} {K : Value → World → Prop} (h : impl_BlockNew.vc A0 n0 c0 x1 w K) : Cll Try.prog 17 #[(.slice A0 n0 c0), (.int .i64 x1)] w K :=
  vcF_sound mixed (fn := Try.f17) (by kernel_rfl) (by kernel_rfl) (an := impl_BlockNew.ann) (args := [(.slice A0 n0 c0), (.int .i64 x1)]) (Eq.mpr (by kernel_rfl) h)

theorem impl_BlockNew.con {xs0 : List D.Ins} {A0 : Option Addr} {c0 : Nat} {x1 : Int} {r : D.Block × Bool} {w : World} (hp : M.impl_BlockNew_pre xs0 x1) (hr : r = M.impl_BlockNew xs0 x1) (R0 : Row el60 w A0 xs0) (hc0 : xs0.length ≤ c0) :
    Cll Try.prog 17 #[(.slice A0 xs0.length c0), (.int .i64 x1)] w (fun v_ w_ => ∃ (A0_ : Option Addr) (c0_ : Nat) (A1_ : Option Addr) (c1_ : Nat) (F1_ : Nat → Prop) (A2_ : Option Addr) (c2_ : Nat), v_ = (.tuple #[(.agg #[(.slice A0_ r.1.Code.length c0_), (.slice A1_ r.1.Warps.length c1_), (.slice A2_ r.1.Memory.length c2_), (.int .i64 r.1.Waiting), (.int .i64 r.1.Phase)]), (.bool r.2)]) ∧ Own el60 w_ w.heap.size A0_ c0_ r.1.Code ∧ OwnW 30 el81 el3 w_ w.heap.size F1_ A1_ c1_ r.1.Warps ∧ Own el3 w_ w.heap.size A2_ c2_ r.1.Memory ∧ Dis (InW A1_ F1_) (InB A2_) ∧ Ext w w_) := by
  have H := wp.impl_BlockNew.math xs0 x1 hp
  have hB := Ext.refl w
  refine impl_BlockNew.start ?_
  unfold impl_BlockNew.vc
  unfold wp.impl_BlockNew at H
  refine newBlk (fun g2_ w21 L2 P2 e22 => ?_)
  have O2 := P2
  have L2 := Nat.le_trans hB.size L2
  have hB := ethen hB e22
  obtain ⟨hp25, H⟩ := H
  obtain ⟨r23, hr24⟩ : ∃ r_, r_ = M.impl_ProgramOk xs0 := ⟨_, rfl⟩
  have H := H r23 hr24
  refine (impl_ProgramOk.con hp25 hr24 (R0.ext hB) hc0).mono ?_
  rintro _ w26 ⟨rfl, e27⟩
  have O2 := O2.ext e27
  have hB := ethen hB e27
  refine ⟨r23, rfl, ?_⟩
  refine bcase_mk (fun hc52 => ?_) (fun hc52 => ?_)
  · have H := (bcase_iff.1 H).1 hc52
    refine stBlk O2 (o := 0) (cs' := #[(.slice none 0 0), (.slice none 0 0), (.slice none 0 0), (.int .i64 0), (.int .i64 0)]) rfl rfl (Nat.le_of_ble_eq_true rfl) rfl (fun w28 P2 e29 => ?_)
    have hB := echg hB e29 L2
    have O2 := P2
    refine ⟨_, _, _, (O2.at 0 rfl rfl), ?_⟩
    refine ⟨_, _, _, (O2.at 1 rfl rfl), ?_⟩
    refine ⟨_, _, _, (O2.at 2 rfl rfl), ?_⟩
    refine ⟨_, (O2.at 3 rfl rfl), ?_⟩
    refine ⟨_, (O2.at 4 rfl rfl), ?_⟩
    obtain rfl := hr.trans H.symm
    exact ⟨none, 0, none, 0, (fun _ => False), none, 0, rfl, Own.nil, OwnW.nil, Own.nil, nilW_dis, hB⟩
  have H := (bcase_iff.1 H).2 hc52
  obtain ⟨r30, hr31⟩ : ∃ r_, r_ = M.impl_isWarpCount x1 := ⟨_, rfl⟩
  have H := H r30 hr31
  refine (impl_isWarpCount.con hr31 ).mono ?_
  rintro _ w33 ⟨rfl, e34⟩
  have O2 := O2.ext e34
  have hB := ethen hB e34
  refine ⟨r30, rfl, ?_⟩
  refine bcase_mk (fun hc51 => ?_) (fun hc51 => ?_)
  · have H := (bcase_iff.1 H).1 hc51
    refine stBlk O2 (o := 0) (cs' := #[(.slice none 0 0), (.slice none 0 0), (.slice none 0 0), (.int .i64 0), (.int .i64 0)]) rfl rfl (Nat.le_of_ble_eq_true rfl) rfl (fun w35 P2 e36 => ?_)
    have hB := echg hB e36 L2
    have O2 := P2
    refine ⟨_, _, _, (O2.at 0 rfl rfl), ?_⟩
    refine ⟨_, _, _, (O2.at 1 rfl rfl), ?_⟩
    refine ⟨_, _, _, (O2.at 2 rfl rfl), ?_⟩
    refine ⟨_, (O2.at 3 rfl rfl), ?_⟩
    refine ⟨_, (O2.at 4 rfl rfl), ?_⟩
    obtain rfl := hr.trans H.symm
    exact ⟨none, 0, none, 0, (fun _ => False), none, 0, rfl, Own.nil, OwnW.nil, Own.nil, nilW_dis, hB⟩
  have H := (bcase_iff.1 H).2 hc51
  obtain ⟨hp39, H⟩ := H
  obtain ⟨r37, hr38⟩ : ∃ r_, r_ = M.impl_newBlock xs0 x1 := ⟨_, rfl⟩
  have H := H r37 hr38
  refine (impl_newBlock.con hp39 hr38 (R0.ext hB) hc0).mono ?_
  rintro _ w40 ⟨A42, c43, A44, c45, F48, A46, c47, rfl, P3, P4, P5, N4_5, e41⟩
  have N3_2 := P3.apart_old O2.lt
  have N4_2 := P4.new_disbox O2 (Nat.le_refl _)
  have N5_2 := P5.apart_old O2.lt
  have O2 := O2.ext e41
  have O3 := P3.mono hB.size
  have O4 := P4.mono hB.size
  have O5 := P5.mono hB.size
  have hB := ethen hB e41
  refine ⟨A42, r37.Code.length, c43, trivial, ?_⟩
  refine ⟨A44, r37.Warps.length, c45, trivial, ?_⟩
  refine ⟨A46, r37.Memory.length, c47, trivial, ?_⟩
  refine ⟨r37.Waiting, trivial, ?_⟩
  refine ⟨r37.Phase, trivial, ?_⟩
  refine ⟨rfl, ?_⟩
  refine stBlk O2 (o := 0) (cs' := #[(.slice A42 r37.Code.length c43), (.slice A44 r37.Warps.length c45), (.slice A46 r37.Memory.length c47), (.int .i64 r37.Waiting), (.int .i64 r37.Phase)]) rfl rfl (Nat.le_of_ble_eq_true rfl) rfl (fun w49 P2 e50 => ?_)
  have O3_ := O3.chg e50 N3_2
  have O4_ := O4.chg e50 N4_2
  have O5_ := O5.chg e50 N5_2
  have O3 := O3_
  have O4 := O4_
  have O5 := O5_
  have hB := echg hB e50 L2
  have O2 := P2
  refine ⟨_, _, _, (O2.at 0 rfl rfl), ?_⟩
  refine ⟨_, _, _, (O2.at 1 rfl rfl), ?_⟩
  refine ⟨_, _, _, (O2.at 2 rfl rfl), ?_⟩
  refine ⟨_, (O2.at 3 rfl rfl), ?_⟩
  refine ⟨_, (O2.at 4 rfl rfl), ?_⟩
  obtain rfl := hr.trans H.symm
  exact ⟨A42, c43, A44, c45, F48, A46, c47, rfl, O3, O4, O5, N4_5, hB⟩
def slices_Clone_impl_Frame_impl_Frame.vc (A0 : Option Addr) (n0 : Nat) (c0 : Nat) (w : World) (K : Value → World → Prop) : Prop :=
  bcase (Option.isNone A0) (K (.slice none 0 0) w) (Run Try.prog (Instr.buildSlice 28 0 #[]) w fun v21 w22 => ∃ (A23 : Option Addr) (n24 c25 : Nat), v21 = .slice A23 n24 c25 ∧ Run Try.prog (Builtin.append_ #[28, 28] 28 #[(.slice A23 n24 c25), (.slice A0 n0 c0)]) w22 fun v26 w27 => ∃ (A28 : Option Addr) (n29 c30 : Nat), v26 = .slice A28 n29 c30 ∧ K (.slice A28 n29 c30) w27)

def slices_Clone_impl_Frame_impl_Frame.ann : Ann := (.seq .l (.seq (.seq .l (.two (.seq .l .l) .l)) (.seq .l .l)))

theorem slices_Clone_impl_Frame_impl_Frame.start {A0 : Option Addr} {n0 : Nat} {c0 : Nat} {w : World} {K : Value → World → Prop} (h : slices_Clone_impl_Frame_impl_Frame.vc A0 n0 c0 w K) : Cll Try.prog 70 #[(.slice A0 n0 c0)] w K :=
  vcF_sound mixed (fn := Try.f70) (by kernel_rfl) (by kernel_rfl) (an := slices_Clone_impl_Frame_impl_Frame.ann) (args := [(.slice A0 n0 c0)]) (Eq.mpr (by kernel_rfl) h)

theorem slices_Clone_impl_Frame_impl_Frame.con {xs0 : List D.Frame} {A0 : Option Addr} {c0 : Nat} {r : List D.Frame} {w : World} (hp : M.slices_Clone_impl_Frame_impl_Frame_pre xs0) (hr : r = M.slices_Clone_impl_Frame_impl_Frame xs0) (R0 : Row el81 w A0 xs0) (hc0 : xs0.length ≤ c0) :
    Cll Try.prog 70 #[(.slice A0 xs0.length c0)] w (fun v_ w_ => ∃ (A0_ : Option Addr) (c0_ : Nat), v_ = (.slice A0_ r.length c0_) ∧ Own el81 w_ w.heap.size A0_ c0_ r ∧ Ext w w_) := by
  have H := wp.slices_Clone_impl_Frame_impl_Frame.math xs0 hp
  have hB := Ext.refl w
  refine slices_Clone_impl_Frame_impl_Frame.start ?_
  unfold slices_Clone_impl_Frame_impl_Frame.vc
  unfold wp.slices_Clone_impl_Frame_impl_Frame at H
  obtain ⟨b21, hb22⟩ : ∃ b_, b_ = Option.isNone A0 := ⟨_, rfl⟩
  have H := H b21 (fun h_ => Row.isNone (R0.ext hB) (hb22.symm.trans h_))
  rw [← hb22]
  refine bcase_mk (fun hc31 => ?_) (fun hc31 => ?_)
  · have H := (bcase_iff.1 H).1 hc31
    obtain rfl := hr.trans H.symm
    exact ⟨none, 0, rfl, Own.nil, hB⟩
  have H := (bcase_iff.1 H).2 hc31
  refine buildOwn el81 ([] : List D.Frame) (fun _ => by kernel_rfl) rfl (fun A23 w24 P2 e25 => ?_)
  have O2 := P2.mono hB.size
  have hB := ethen hB e25
  obtain ⟨hl30, H⟩ := H
  refine appOwn slt28 slt28.under O2 (R0.ext hB) hB.size (by first | rfl | omega | (simp; done) | (simp; omega)) rfl hl30 (fun A26 c27 w28 P2 e29 => ?_)
  have hB := eapp hB e29 O2
  have O2 := P2
  obtain rfl := hr.trans H.symm
  exact ⟨A26, c27, rfl, O2, hB⟩
def impl_copyWarp.vc (x0_0 : Int) (A0_1 : Option Addr) (n0_1 : Nat) (c0_1 : Nat) (A0_2 : Option Addr) (n0_2 : Nat) (c0_2 : Nat) (w : World) (K : Value → World → Prop) : Prop :=
  newK w (.cells #[(.int .i64 x0_0), (.slice A0_1 n0_1 c0_1), (.slice A0_2 n0_2 c0_2)] 30) fun g21 w22 => newK w22 (.cells #[(.int .i64 0), (.slice none 0 0), (.slice none 0 0)] 30) fun g23 w24 => ((∃ (A25 : Option Addr) (n26 : Nat) (c27 : Nat), w24.drew.cell? (((⟨g21, 0, none⟩ : Addr).add 1).add 0) = some (.slice A25 n26 c27) ∧ ((Cll Try.prog 70 #[(.slice A25 n26 c27)] w24.drew fun v28 w29 => (∃ (A30 : Option Addr) (n31 : Nat) (c32 : Nat), v28 = (.slice A30 n31 c32) ∧ ((∃ (A33 : Option Addr) (n34 : Nat) (c35 : Nat), w29.cell? (((⟨g21, 0, none⟩ : Addr).add 2).add 0) = some (.slice A33 n34 c35) ∧ ((Cll Try.prog 45 #[(.slice A33 n34 c35)] w29 fun v36 w37 => (∃ (A38 : Option Addr) (n39 : Nat) (c40 : Nat), v36 = (.slice A38 n39 c40) ∧ ((stCells ((⟨g21, 0, none⟩ : Addr).add 1) [(.slice A30 n31 c32)] 0 w37 fun w41 => ((stCells ((⟨g21, 0, none⟩ : Addr).add 2) [(.slice A38 n39 c40)] 0 w41 fun w42 => ∃ (n43 : Int), w42.cell? ((⟨g21, 0, none⟩ : Addr).add 0) = some (.int .i64 n43) ∧ ∃ (A44 : Option Addr) (n45 : Nat) (c46 : Nat), w42.cell? ((⟨g21, 0, none⟩ : Addr).add 1) = some (.slice A44 n45 c46) ∧ ∃ (A47 : Option Addr) (n48 : Nat) (c49 : Nat), w42.cell? ((⟨g21, 0, none⟩ : Addr).add 2) = some (.slice A47 n48 c49) ∧ stCells (⟨g23, 0, none⟩ : Addr) [(.int .i64 n43), (.slice A44 n45 c46), (.slice A47 n48 c49)] 0 w42 fun w50 => ∃ (n51 : Int), w50.cell? ((⟨g23, 0, none⟩ : Addr).add 0) = some (.int .i64 n51) ∧ ∃ (A52 : Option Addr) (n53 : Nat) (c54 : Nat), w50.cell? ((⟨g23, 0, none⟩ : Addr).add 1) = some (.slice A52 n53 c54) ∧ ∃ (A55 : Option Addr) (n56 : Nat) (c57 : Nat), w50.cell? ((⟨g23, 0, none⟩ : Addr).add 2) = some (.slice A55 n56 c57) ∧ K (.agg #[(.int .i64 n51), (.slice A52 n53 c54), (.slice A55 n56 c57)]) w50) ∧ True)) ∧ True))) ∧ True)) ∧ True))) ∧ (∃ (A58 : Option Addr) (n59 : Nat) (c60 : Nat), w24.drew.cell? (((⟨g21, 0, none⟩ : Addr).add 2).add 0) = some (.slice A58 n59 c60) ∧ ((Cll Try.prog 70 #[(.slice A25 n26 c27)] w24.drew fun v61 w62 => (∃ (A63 : Option Addr) (n64 : Nat) (c65 : Nat), v61 = (.slice A63 n64 c65) ∧ ((Cll Try.prog 45 #[(.slice A58 n59 c60)] w62 fun v66 w67 => (∃ (A68 : Option Addr) (n69 : Nat) (c70 : Nat), v66 = (.slice A68 n69 c70) ∧ ((stCells ((⟨g21, 0, none⟩ : Addr).add 1) [(.slice A63 n64 c65)] 0 w67 fun w71 => ((stCells ((⟨g21, 0, none⟩ : Addr).add 2) [(.slice A68 n69 c70)] 0 w71 fun w72 => ∃ (n73 : Int), w72.cell? ((⟨g21, 0, none⟩ : Addr).add 0) = some (.int .i64 n73) ∧ ∃ (A74 : Option Addr) (n75 : Nat) (c76 : Nat), w72.cell? ((⟨g21, 0, none⟩ : Addr).add 1) = some (.slice A74 n75 c76) ∧ ∃ (A77 : Option Addr) (n78 : Nat) (c79 : Nat), w72.cell? ((⟨g21, 0, none⟩ : Addr).add 2) = some (.slice A77 n78 c79) ∧ stCells (⟨g23, 0, none⟩ : Addr) [(.int .i64 n73), (.slice A74 n75 c76), (.slice A77 n78 c79)] 0 w72 fun w80 => ∃ (n81 : Int), w80.cell? ((⟨g23, 0, none⟩ : Addr).add 0) = some (.int .i64 n81) ∧ ∃ (A82 : Option Addr) (n83 : Nat) (c84 : Nat), w80.cell? ((⟨g23, 0, none⟩ : Addr).add 1) = some (.slice A82 n83 c84) ∧ ∃ (A85 : Option Addr) (n86 : Nat) (c87 : Nat), w80.cell? ((⟨g23, 0, none⟩ : Addr).add 2) = some (.slice A85 n86 c87) ∧ K (.agg #[(.int .i64 n81), (.slice A82 n83 c84), (.slice A85 n86 c87)]) w80) ∧ True)) ∧ True))) ∧ True))) ∧ True)) ∧ True)) ∧ (∃ (A88 : Option Addr) (n89 : Nat) (c90 : Nat), w24.drew.cell? (((⟨g21, 0, none⟩ : Addr).add 2).add 0) = some (.slice A88 n89 c90) ∧ ((∃ (A91 : Option Addr) (n92 : Nat) (c93 : Nat), w24.drew.cell? (((⟨g21, 0, none⟩ : Addr).add 1).add 0) = some (.slice A91 n92 c93) ∧ ((Cll Try.prog 70 #[(.slice A91 n92 c93)] w24.drew fun v94 w95 => (∃ (A96 : Option Addr) (n97 : Nat) (c98 : Nat), v94 = (.slice A96 n97 c98) ∧ ((Cll Try.prog 45 #[(.slice A88 n89 c90)] w95 fun v99 w100 => (∃ (A101 : Option Addr) (n102 : Nat) (c103 : Nat), v99 = (.slice A101 n102 c103) ∧ ((stCells ((⟨g21, 0, none⟩ : Addr).add 1) [(.slice A96 n97 c98)] 0 w100 fun w104 => ((stCells ((⟨g21, 0, none⟩ : Addr).add 2) [(.slice A101 n102 c103)] 0 w104 fun w105 => ∃ (n106 : Int), w105.cell? ((⟨g21, 0, none⟩ : Addr).add 0) = some (.int .i64 n106) ∧ ∃ (A107 : Option Addr) (n108 : Nat) (c109 : Nat), w105.cell? ((⟨g21, 0, none⟩ : Addr).add 1) = some (.slice A107 n108 c109) ∧ ∃ (A110 : Option Addr) (n111 : Nat) (c112 : Nat), w105.cell? ((⟨g21, 0, none⟩ : Addr).add 2) = some (.slice A110 n111 c112) ∧ stCells (⟨g23, 0, none⟩ : Addr) [(.int .i64 n106), (.slice A107 n108 c109), (.slice A110 n111 c112)] 0 w105 fun w113 => ∃ (n114 : Int), w113.cell? ((⟨g23, 0, none⟩ : Addr).add 0) = some (.int .i64 n114) ∧ ∃ (A115 : Option Addr) (n116 : Nat) (c117 : Nat), w113.cell? ((⟨g23, 0, none⟩ : Addr).add 1) = some (.slice A115 n116 c117) ∧ ∃ (A118 : Option Addr) (n119 : Nat) (c120 : Nat), w113.cell? ((⟨g23, 0, none⟩ : Addr).add 2) = some (.slice A118 n119 c120) ∧ K (.agg #[(.int .i64 n114), (.slice A115 n116 c117), (.slice A118 n119 c120)]) w113) ∧ True)) ∧ True))) ∧ True))) ∧ True)) ∧ True)) ∧ True)

def impl_copyWarp.ann : Ann := (.seq .l (.seq .each (.seq .l .l)))

theorem impl_copyWarp.start {x0_0 : Int} {A0_1 : Option Addr} {n0_1 : Nat} {c0_1 : Nat} {A0_2 : Option Addr} {n0_2 : Nat} {c0_2 : Nat} {w : World} {K : Value → World → Prop} (h : impl_copyWarp.vc x0_0 A0_1 n0_1 c0_1 A0_2 n0_2 c0_2 w K) : Cll Try.prog 54 #[(.agg #[(.int .i64 x0_0), (.slice A0_1 n0_1 c0_1), (.slice A0_2 n0_2 c0_2)])] w K :=
  vcF_sound mixed (fn := Try.f54) (by kernel_rfl) (by kernel_rfl) (an := impl_copyWarp.ann) (args := [(.agg #[(.int .i64 x0_0), (.slice A0_1 n0_1 c0_1), (.slice A0_2 n0_2 c0_2)])]) (Eq.mpr (by kernel_rfl) h)

theorem impl_copyWarp.con {s0 : D.Warp} {A0_1 : Option Addr} {c0_1 : Nat} {A0_2 : Option Addr} {c0_2 : Nat} {r : D.Warp} {w : World} (hp : M.impl_copyWarp_pre s0) (hr : r = M.impl_copyWarp s0) (R0_1 : Row el81 w A0_1 s0.Frames) (hc0_1 : s0.Frames.length ≤ c0_1) (R0_2 : Row el3 w A0_2 s0.Regs) (hc0_2 : s0.Regs.length ≤ c0_2) :
    Cll Try.prog 54 #[(.agg #[(.int .i64 s0.Number), (.slice A0_1 s0.Frames.length c0_1), (.slice A0_2 s0.Regs.length c0_2)])] w (fun v_ w_ => ∃ (A0_ : Option Addr) (c0_ : Nat) (A1_ : Option Addr) (c1_ : Nat), v_ = (.agg #[(.int .i64 r.Number), (.slice A0_ r.Frames.length c0_), (.slice A1_ r.Regs.length c1_)]) ∧ Own el81 w_ w.heap.size A0_ c0_ r.Frames ∧ Own el3 w_ w.heap.size A1_ c1_ r.Regs ∧ Ext w w_) := by
  have H := wp.impl_copyWarp.math s0 hp
  have hB := Ext.refl w
  refine impl_copyWarp.start ?_
  unfold impl_copyWarp.vc
  unfold wp.impl_copyWarp at H
  refine newBlk (fun g3_ w21 L3 P3 e22 => ?_)
  have O3 := P3
  have L3 := Nat.le_trans hB.size L3
  have hB := ethen hB e22
  refine newBlk (fun g4_ w23 L4 P4 e24 => ?_)
  have N3_4 := O3.ne L4
  have O3 := O3.ext e24
  have O4 := P4
  have L4 := Nat.le_trans hB.size L4
  have hB := ethen hB e24
  have O3 := O3.ext (Ext.drew _)
  have O4 := O4.ext (Ext.drew _)
  have hB := ethen hB (Ext.drew _)
  refine And.intro ?_ ?_
  · have H := H.1
    refine ⟨_, _, _, (O3.at 1 rfl rfl), ?_⟩
    refine And.intro ?_ ?_
    · have H := H.1
      obtain ⟨hp27, H⟩ := H
      obtain ⟨r25, hr26⟩ : ∃ r_, r_ = M.slices_Clone_impl_Frame_impl_Frame s0.Frames := ⟨_, rfl⟩
      have H := H r25 hr26
      refine (slices_Clone_impl_Frame_impl_Frame.con hp27 hr26 (R0_1.ext hB) hc0_1).mono ?_
      rintro _ w28 ⟨A30, c31, rfl, P5, e29⟩
      have N5_3 := P5.apart_old O3.lt
      have N5_4 := P5.apart_old O4.lt
      have O3 := O3.ext e29
      have O4 := O4.ext e29
      have O5 := P5.mono hB.size
      have hB := ethen hB e29
      refine ⟨A30, r25.length, c31, rfl, ?_⟩
      refine and_t ?_
      refine ⟨_, _, _, (O3.at 2 rfl rfl), ?_⟩
      refine and_t ?_
      obtain ⟨hp34, H⟩ := H
      obtain ⟨r32, hr33⟩ : ∃ r_, r_ = M.slices_Clone_int_int s0.Regs := ⟨_, rfl⟩
      have H := H r32 hr33
      refine (slices_Clone_int_int.con hp34 hr33 (R0_2.ext hB) hc0_2).mono ?_
      rintro _ w35 ⟨A37, c38, rfl, P6, e36⟩
      have N6_3 := P6.apart_old O3.lt
      have N6_4 := P6.apart_old O4.lt
      have N5_6 := Own.apart2_new O5 P6 (Nat.le_refl _)
      have O3 := O3.ext e36
      have O4 := O4.ext e36
      have O5 := O5.ext e36
      have O6 := P6.mono hB.size
      have hB := ethen hB e36
      refine ⟨A37, r32.length, c38, rfl, ?_⟩
      refine and_t ?_
      refine stBlk O3 (o := 1) (cs' := #[(.int .i64 s0.Number), (.slice A30 r25.length c31), (.slice A0_2 s0.Regs.length c0_2)]) rfl rfl (Nat.le_of_ble_eq_true rfl) rfl (fun w39 P3 e40 => ?_)
      have O4_ := O4.chg e40 (N3_4).symm
      have O5_ := O5.chg e40 N5_3
      have O6_ := O6.chg e40 N6_3
      have O4 := O4_
      have O5 := O5_
      have O6 := O6_
      have hB := echg hB e40 L3
      have O3 := P3
      refine and_t ?_
      refine stBlk O3 (o := 2) (cs' := #[(.int .i64 s0.Number), (.slice A30 r25.length c31), (.slice A37 r32.length c38)]) rfl rfl (Nat.le_of_ble_eq_true rfl) rfl (fun w41 P3 e42 => ?_)
      have O4_ := O4.chg e42 (N3_4).symm
      have O5_ := O5.chg e42 N5_3
      have O6_ := O6.chg e42 N6_3
      have O4 := O4_
      have O5 := O5_
      have O6 := O6_
      have hB := echg hB e42 L3
      have O3 := P3
      refine ⟨_, (O3.at 0 rfl rfl), ?_⟩
      refine ⟨_, _, _, (O3.at 1 rfl rfl), ?_⟩
      refine ⟨_, _, _, (O3.at 2 rfl rfl), ?_⟩
      refine stBlk O4 (o := 0) (cs' := #[(.int .i64 s0.Number), (.slice A30 r25.length c31), (.slice A37 r32.length c38)]) rfl rfl (Nat.le_of_ble_eq_true rfl) rfl (fun w43 P4 e44 => ?_)
      have O3_ := O3.chg e44 N3_4
      have O5_ := O5.chg e44 N5_4
      have O6_ := O6.chg e44 N6_4
      have O3 := O3_
      have O5 := O5_
      have O6 := O6_
      have hB := echg hB e44 L4
      have O4 := P4
      refine ⟨_, (O4.at 0 rfl rfl), ?_⟩
      refine ⟨_, _, _, (O4.at 1 rfl rfl), ?_⟩
      refine ⟨_, _, _, (O4.at 2 rfl rfl), ?_⟩
      obtain rfl := hr.trans H.symm
      exact ⟨A30, c31, A37, c38, rfl, O5, O6, hB⟩
    refine And.intro ?_ ?_
    · have H := H.2.1
      refine ⟨_, _, _, (O3.at 2 rfl rfl), ?_⟩
      refine and_t ?_
      obtain ⟨hp47, H⟩ := H
      obtain ⟨r45, hr46⟩ : ∃ r_, r_ = M.slices_Clone_impl_Frame_impl_Frame s0.Frames := ⟨_, rfl⟩
      have H := H r45 hr46
      refine (slices_Clone_impl_Frame_impl_Frame.con hp47 hr46 (R0_1.ext hB) hc0_1).mono ?_
      rintro _ w48 ⟨A50, c51, rfl, P7, e49⟩
      have N7_3 := P7.apart_old O3.lt
      have N7_4 := P7.apart_old O4.lt
      have O3 := O3.ext e49
      have O4 := O4.ext e49
      have O7 := P7.mono hB.size
      have hB := ethen hB e49
      refine ⟨A50, r45.length, c51, rfl, ?_⟩
      refine and_t ?_
      obtain ⟨hp54, H⟩ := H
      obtain ⟨r52, hr53⟩ : ∃ r_, r_ = M.slices_Clone_int_int s0.Regs := ⟨_, rfl⟩
      have H := H r52 hr53
      refine (slices_Clone_int_int.con hp54 hr53 (R0_2.ext hB) hc0_2).mono ?_
      rintro _ w55 ⟨A57, c58, rfl, P8, e56⟩
      have N8_3 := P8.apart_old O3.lt
      have N8_4 := P8.apart_old O4.lt
      have N7_8 := Own.apart2_new O7 P8 (Nat.le_refl _)
      have O3 := O3.ext e56
      have O4 := O4.ext e56
      have O7 := O7.ext e56
      have O8 := P8.mono hB.size
      have hB := ethen hB e56
      refine ⟨A57, r52.length, c58, rfl, ?_⟩
      refine and_t ?_
      refine stBlk O3 (o := 1) (cs' := #[(.int .i64 s0.Number), (.slice A50 r45.length c51), (.slice A0_2 s0.Regs.length c0_2)]) rfl rfl (Nat.le_of_ble_eq_true rfl) rfl (fun w59 P3 e60 => ?_)
      have O4_ := O4.chg e60 (N3_4).symm
      have O7_ := O7.chg e60 N7_3
      have O8_ := O8.chg e60 N8_3
      have O4 := O4_
      have O7 := O7_
      have O8 := O8_
      have hB := echg hB e60 L3
      have O3 := P3
      refine and_t ?_
      refine stBlk O3 (o := 2) (cs' := #[(.int .i64 s0.Number), (.slice A50 r45.length c51), (.slice A57 r52.length c58)]) rfl rfl (Nat.le_of_ble_eq_true rfl) rfl (fun w61 P3 e62 => ?_)
      have O4_ := O4.chg e62 (N3_4).symm
      have O7_ := O7.chg e62 N7_3
      have O8_ := O8.chg e62 N8_3
      have O4 := O4_
      have O7 := O7_
      have O8 := O8_
      have hB := echg hB e62 L3
      have O3 := P3
      refine ⟨_, (O3.at 0 rfl rfl), ?_⟩
      refine ⟨_, _, _, (O3.at 1 rfl rfl), ?_⟩
      refine ⟨_, _, _, (O3.at 2 rfl rfl), ?_⟩
      refine stBlk O4 (o := 0) (cs' := #[(.int .i64 s0.Number), (.slice A50 r45.length c51), (.slice A57 r52.length c58)]) rfl rfl (Nat.le_of_ble_eq_true rfl) rfl (fun w63 P4 e64 => ?_)
      have O3_ := O3.chg e64 N3_4
      have O7_ := O7.chg e64 N7_4
      have O8_ := O8.chg e64 N8_4
      have O3 := O3_
      have O7 := O7_
      have O8 := O8_
      have hB := echg hB e64 L4
      have O4 := P4
      refine ⟨_, (O4.at 0 rfl rfl), ?_⟩
      refine ⟨_, _, _, (O4.at 1 rfl rfl), ?_⟩
      refine ⟨_, _, _, (O4.at 2 rfl rfl), ?_⟩
      obtain rfl := hr.trans H.symm
      exact ⟨A50, c51, A57, c58, rfl, O7, O8, hB⟩
    exact trivial
  refine And.intro ?_ ?_
  · have H := H.2.1
    refine ⟨_, _, _, (O3.at 2 rfl rfl), ?_⟩
    refine and_t ?_
    refine ⟨_, _, _, (O3.at 1 rfl rfl), ?_⟩
    refine and_t ?_
    obtain ⟨hp67, H⟩ := H
    obtain ⟨r65, hr66⟩ : ∃ r_, r_ = M.slices_Clone_impl_Frame_impl_Frame s0.Frames := ⟨_, rfl⟩
    have H := H r65 hr66
    refine (slices_Clone_impl_Frame_impl_Frame.con hp67 hr66 (R0_1.ext hB) hc0_1).mono ?_
    rintro _ w68 ⟨A70, c71, rfl, P9, e69⟩
    have N9_3 := P9.apart_old O3.lt
    have N9_4 := P9.apart_old O4.lt
    have O3 := O3.ext e69
    have O4 := O4.ext e69
    have O9 := P9.mono hB.size
    have hB := ethen hB e69
    refine ⟨A70, r65.length, c71, rfl, ?_⟩
    refine and_t ?_
    obtain ⟨hp74, H⟩ := H
    obtain ⟨r72, hr73⟩ : ∃ r_, r_ = M.slices_Clone_int_int s0.Regs := ⟨_, rfl⟩
    have H := H r72 hr73
    refine (slices_Clone_int_int.con hp74 hr73 (R0_2.ext hB) hc0_2).mono ?_
    rintro _ w75 ⟨A77, c78, rfl, P10, e76⟩
    have N10_3 := P10.apart_old O3.lt
    have N10_4 := P10.apart_old O4.lt
    have N9_10 := Own.apart2_new O9 P10 (Nat.le_refl _)
    have O3 := O3.ext e76
    have O4 := O4.ext e76
    have O9 := O9.ext e76
    have O10 := P10.mono hB.size
    have hB := ethen hB e76
    refine ⟨A77, r72.length, c78, rfl, ?_⟩
    refine and_t ?_
    refine stBlk O3 (o := 1) (cs' := #[(.int .i64 s0.Number), (.slice A70 r65.length c71), (.slice A0_2 s0.Regs.length c0_2)]) rfl rfl (Nat.le_of_ble_eq_true rfl) rfl (fun w79 P3 e80 => ?_)
    have O4_ := O4.chg e80 (N3_4).symm
    have O9_ := O9.chg e80 N9_3
    have O10_ := O10.chg e80 N10_3
    have O4 := O4_
    have O9 := O9_
    have O10 := O10_
    have hB := echg hB e80 L3
    have O3 := P3
    refine and_t ?_
    refine stBlk O3 (o := 2) (cs' := #[(.int .i64 s0.Number), (.slice A70 r65.length c71), (.slice A77 r72.length c78)]) rfl rfl (Nat.le_of_ble_eq_true rfl) rfl (fun w81 P3 e82 => ?_)
    have O4_ := O4.chg e82 (N3_4).symm
    have O9_ := O9.chg e82 N9_3
    have O10_ := O10.chg e82 N10_3
    have O4 := O4_
    have O9 := O9_
    have O10 := O10_
    have hB := echg hB e82 L3
    have O3 := P3
    refine ⟨_, (O3.at 0 rfl rfl), ?_⟩
    refine ⟨_, _, _, (O3.at 1 rfl rfl), ?_⟩
    refine ⟨_, _, _, (O3.at 2 rfl rfl), ?_⟩
    refine stBlk O4 (o := 0) (cs' := #[(.int .i64 s0.Number), (.slice A70 r65.length c71), (.slice A77 r72.length c78)]) rfl rfl (Nat.le_of_ble_eq_true rfl) rfl (fun w83 P4 e84 => ?_)
    have O3_ := O3.chg e84 N3_4
    have O9_ := O9.chg e84 N9_4
    have O10_ := O10.chg e84 N10_4
    have O3 := O3_
    have O9 := O9_
    have O10 := O10_
    have hB := echg hB e84 L4
    have O4 := P4
    refine ⟨_, (O4.at 0 rfl rfl), ?_⟩
    refine ⟨_, _, _, (O4.at 1 rfl rfl), ?_⟩
    refine ⟨_, _, _, (O4.at 2 rfl rfl), ?_⟩
    obtain rfl := hr.trans H.symm
    exact ⟨A70, c71, A77, c78, rfl, O9, O10, hB⟩
  exact trivial
def impl_copyBlock.vc (A0_0 : Option Addr) (n0_0 : Nat) (c0_0 : Nat) (A0_1 : Option Addr) (n0_1 : Nat) (c0_1 : Nat) (A0_2 : Option Addr) (n0_2 : Nat) (c0_2 : Nat) (x0_3 : Int) (x0_4 : Int) (w : World) (K : Value → World → Prop) : Prop :=
  newK w (.cells #[(.slice A0_0 n0_0 c0_0), (.slice A0_1 n0_1 c0_1), (.slice A0_2 n0_2 c0_2), (.int .i64 x0_3), (.int .i64 x0_4)] 41) fun g21 w22 => newK w22 (.cells #[(.slice none 0 0), (.slice none 0 0), (.slice none 0 0), (.int .i64 0), (.int .i64 0)] 41) fun g23 w24 => JoinT (σ := Addr × Unit) (fun J25 => (∃ M26 : Nat → Prop, ∃ (A27 : Option Addr) (n28 : Nat) (c29 : Nat), (¬ M26 (((⟨g21, 0, none⟩ : Addr).add 0)).block ∧ w24.cell? (((⟨g21, 0, none⟩ : Addr).add 0).add 0) = some (.slice A27 n28 c29)) ∧ ∃ (A30 : Option Addr) (n31 : Nat) (c32 : Nat), (¬ M26 (((⟨g21, 0, none⟩ : Addr).add 2)).block ∧ w24.cell? (((⟨g21, 0, none⟩ : Addr).add 2).add 0) = some (.slice A30 n31 c32)) ∧ ∃ (n33 : Int), (¬ M26 (((⟨g21, 0, none⟩ : Addr).add 3)).block ∧ w24.cell? (((⟨g21, 0, none⟩ : Addr).add 3).add 0) = some (.int .i64 n33)) ∧ ∃ (n34 : Int), (¬ M26 (((⟨g21, 0, none⟩ : Addr).add 4)).block ∧ w24.cell? (((⟨g21, 0, none⟩ : Addr).add 4).add 0) = some (.int .i64 n34)) ∧ ((Cll Try.prog 31 #[(.slice A27 n28 c29)] w24.drew fun v35 w36 => (∃ (A37 : Option Addr) (n38 : Nat) (c39 : Nat), v35 = (.slice A37 n38 c39) ∧ SameBut M26 w24 w36 ∧ ((Cll Try.prog 45 #[(.slice A30 n31 c32)] w36 fun v40 w41 => (∃ (A42 : Option Addr) (n43 : Nat) (c44 : Nat), v40 = (.slice A42 n43 c44) ∧ SameBut M26 w24 w41 ∧ newK w41 (.cells #[(.slice none 0 0), (.slice none 0 0), (.slice none 0 0), (.int .i64 0), (.int .i64 0)] 41) fun g45 w46 => SameBut M26 w24 w46 ∧ stCells (⟨g45, 0, none⟩ : Addr) [(.slice A37 n38 c39), (.slice none 0 0), (.slice A42 n43 c44), (.int .i64 n33), (.int .i64 n34)] 0 w46 fun w47 => J25 ((⟨g45, 0, none⟩ : Addr), ()) w47)) ∧ (newK w36 (.cells #[(.slice none 0 0), (.slice none 0 0), (.slice none 0 0), (.int .i64 0), (.int .i64 0)] 41) fun g48 w49 => SameBut M26 w24 w49 ∧ Cll Try.prog 45 #[(.slice A30 n31 c32)] w49 fun v50 w51 => (∃ (A52 : Option Addr) (n53 : Nat) (c54 : Nat), v50 = (.slice A52 n53 c54) ∧ SameBut M26 w24 w51 ∧ stCells (⟨g48, 0, none⟩ : Addr) [(.slice A37 n38 c39), (.slice none 0 0), (.slice A52 n53 c54), (.int .i64 n33), (.int .i64 n34)] 0 w51 fun w55 => J25 ((⟨g48, 0, none⟩ : Addr), ()) w55)) ∧ True))) ∧ (newK w24.drew (.cells #[(.slice none 0 0), (.slice none 0 0), (.slice none 0 0), (.int .i64 0), (.int .i64 0)] 41) fun g56 w57 => SameBut M26 w24 w57 ∧ Cll Try.prog 31 #[(.slice A27 n28 c29)] w57 fun v58 w59 => (∃ (A60 : Option Addr) (n61 : Nat) (c62 : Nat), v58 = (.slice A60 n61 c62) ∧ SameBut M26 w24 w59 ∧ Cll Try.prog 45 #[(.slice A30 n31 c32)] w59 fun v63 w64 => (∃ (A65 : Option Addr) (n66 : Nat) (c67 : Nat), v63 = (.slice A65 n66 c67) ∧ SameBut M26 w24 w64 ∧ stCells (⟨g56, 0, none⟩ : Addr) [(.slice A60 n61 c62), (.slice none 0 0), (.slice A65 n66 c67), (.int .i64 n33), (.int .i64 n34)] 0 w64 fun w68 => J25 ((⟨g56, 0, none⟩ : Addr), ()) w68))) ∧ True))) fun z69 w70 => ∃ (A71 : Option Addr) (n72 : Nat) (c73 : Nat), w70.cell? (((⟨g21, 0, none⟩ : Addr).add 1).add 0) = some (.slice A71 n72 c73) ∧ LoopT (σ := Int × Unit) (fun z74 w75 next76 => bcase (decide (z74.1 < ((n72 : Nat) : Int))) (((0 : Int) ≤ z74.1 ∧ z74.1 < ((n72 : Nat) : Int) ∧ ∃ a77 : Addr, A71 = some a77 ∧ ∃ (n78 : Int), w75.cell? ((a77.add ((z74.1.toNat) * 3)).add 0) = some (.int .i64 n78) ∧ ∃ (A79 : Option Addr) (n80 : Nat) (c81 : Nat), w75.cell? ((a77.add ((z74.1.toNat) * 3)).add 1) = some (.slice A79 n80 c81) ∧ ∃ (A82 : Option Addr) (n83 : Nat) (c84 : Nat), w75.cell? ((a77.add ((z74.1.toNat) * 3)).add 2) = some (.slice A82 n83 c84) ∧ newK w75 (.cells #[(.int .i64 0), (.slice none 0 0), (.slice none 0 0)] 30) fun g85 w86 => stCells (⟨g85, 0, none⟩ : Addr) [(.int .i64 n78), (.slice A79 n80 c81), (.slice A82 n83 c84)] 0 w86 fun w87 => (∃ M88 : Nat → Prop, ∃ (A89 : Option Addr) (n90 : Nat) (c91 : Nat), (¬ M88 ((z69.1.add 1)).block ∧ w87.cell? ((z69.1.add 1).add 0) = some (.slice A89 n90 c91)) ∧ ∃ (n92 : Int), (¬ M88 ((⟨g85, 0, none⟩ : Addr)).block ∧ w87.cell? ((⟨g85, 0, none⟩ : Addr).add 0) = some (.int .i64 n92)) ∧ ∃ (A93 : Option Addr) (n94 : Nat) (c95 : Nat), (¬ M88 ((⟨g85, 0, none⟩ : Addr)).block ∧ w87.cell? ((⟨g85, 0, none⟩ : Addr).add 1) = some (.slice A93 n94 c95)) ∧ ∃ (A96 : Option Addr) (n97 : Nat) (c98 : Nat), (¬ M88 ((⟨g85, 0, none⟩ : Addr)).block ∧ w87.cell? ((⟨g85, 0, none⟩ : Addr).add 2) = some (.slice A96 n97 c98)) ∧ Cll Try.prog 54 #[(.agg #[(.int .i64 n92), (.slice A93 n94 c95), (.slice A96 n97 c98)])] w87.drew fun v99 w100 => (∃ (n101 : Int), True ∧ ∃ (A102 : Option Addr) (n103 : Nat) (c104 : Nat), True ∧ ∃ (A105 : Option Addr) (n106 : Nat) (c107 : Nat), True ∧ v99 = (.agg #[(.int .i64 n101), (.slice A102 n103 c104), (.slice A105 n106 c107)]) ∧ SameBut M88 w87 w100 ∧ Run Try.prog (Instr.buildSlice 39 1 #[(0, (.agg #[(.int .i64 n101), (.slice A102 n103 c104), (.slice A105 n106 c107)]))]) w100 fun v108 w109 => ∃ (A110 : Option Addr) (n111 c112 : Nat), v108 = .slice A110 n111 c112 ∧ SameBut M88 w87 w109 ∧ Run Try.prog (Builtin.append_ #[39, 39] 39 #[(.slice A89 n90 c91), (.slice A110 n111 c112)]) w109 fun v113 w114 => ∃ (A115 : Option Addr) (n116 c117 : Nat), v113 = .slice A115 n116 c117 ∧ SameBut M88 w87 w114 ∧ stCells (z69.1.add 1) [(.slice A115 n116 c117)] 0 w114 fun w118 => next76 ((IntKind.wrap .i64 (z74.1 + 1)), ()) w118)))) (∃ (A119 : Option Addr) (n120 : Nat) (c121 : Nat), w75.cell? (z69.1.add 0) = some (.slice A119 n120 c121) ∧ ∃ (A122 : Option Addr) (n123 : Nat) (c124 : Nat), w75.cell? (z69.1.add 1) = some (.slice A122 n123 c124) ∧ ∃ (A125 : Option Addr) (n126 : Nat) (c127 : Nat), w75.cell? (z69.1.add 2) = some (.slice A125 n126 c127) ∧ ∃ (n128 : Int), w75.cell? (z69.1.add 3) = some (.int .i64 n128) ∧ ∃ (n129 : Int), w75.cell? (z69.1.add 4) = some (.int .i64 n129) ∧ stCells (⟨g23, 0, none⟩ : Addr) [(.slice A119 n120 c121), (.slice A122 n123 c124), (.slice A125 n126 c127), (.int .i64 n128), (.int .i64 n129)] 0 w75 fun w130 => ∃ (A131 : Option Addr) (n132 : Nat) (c133 : Nat), w130.cell? ((⟨g23, 0, none⟩ : Addr).add 0) = some (.slice A131 n132 c133) ∧ ∃ (A134 : Option Addr) (n135 : Nat) (c136 : Nat), w130.cell? ((⟨g23, 0, none⟩ : Addr).add 1) = some (.slice A134 n135 c136) ∧ ∃ (A137 : Option Addr) (n138 : Nat) (c139 : Nat), w130.cell? ((⟨g23, 0, none⟩ : Addr).add 2) = some (.slice A137 n138 c139) ∧ ∃ (n140 : Int), w130.cell? ((⟨g23, 0, none⟩ : Addr).add 3) = some (.int .i64 n140) ∧ ∃ (n141 : Int), w130.cell? ((⟨g23, 0, none⟩ : Addr).add 4) = some (.int .i64 n141) ∧ K (.agg #[(.slice A131 n132 c133), (.slice A134 n135 c136), (.slice A137 n138 c139), (.int .i64 n140), (.int .i64 n141)]) w130)) (0, ()) w70

def impl_copyBlock.ann : Ann := (.seq .l (.cut [(3, .ptr)] .l (.seq (.seq .l (.one (.loop [(20, .int .i64)] (.seq .l (.seq (.two .l .l) (.seq (.one (.seq .l .l)) .l)))))) (.seq .l .l))))

theorem impl_copyBlock.start {A0_0 : Option Addr} {n0_0 : Nat} {c0_0 : Nat} {A0_1 : Option Addr} {n0_1 : Nat} {c0_1 : Nat} {A0_2 : Option Addr} {n0_2 : Nat} {c0_2 : Nat} {x0_3 : Int} {x0_4 : Int} {w : World} {K : Value → World → Prop} (h : impl_copyBlock.vc A0_0 n0_0 c0_0 A0_1 n0_1 c0_1 A0_2 n0_2 c0_2 x0_3 x0_4 w K) : Cll Try.prog 43 #[(.agg #[(.slice A0_0 n0_0 c0_0), (.slice A0_1 n0_1 c0_1), (.slice A0_2 n0_2 c0_2), (.int .i64 x0_3), (.int .i64 x0_4)])] w K :=
  vcF_sound mixed (fn := Try.f43) (by kernel_rfl) (by kernel_rfl) (an := impl_copyBlock.ann) (args := [(.agg #[(.slice A0_0 n0_0 c0_0), (.slice A0_1 n0_1 c0_1), (.slice A0_2 n0_2 c0_2), (.int .i64 x0_3), (.int .i64 x0_4)])]) (Eq.mpr (by kernel_rfl) h)

theorem impl_copyBlock.con {s0 : D.Block} {A0_0 : Option Addr} {c0_0 : Nat} {A0_1 : Option Addr} {c0_1 : Nat} {A0_2 : Option Addr} {c0_2 : Nat} {r : D.Block} {w : World} (hp : M.impl_copyBlock_pre s0) (hr : r = M.impl_copyBlock s0) (R0_0 : Row el60 w A0_0 s0.Code) (hc0_0 : s0.Code.length ≤ c0_0) (R0_1 : RowW 30 el81 el3 w A0_1 s0.Warps) (hc0_1 : s0.Warps.length ≤ c0_1) (R0_2 : Row el3 w A0_2 s0.Memory) (hc0_2 : s0.Memory.length ≤ c0_2) :
    Cll Try.prog 43 #[(.agg #[(.slice A0_0 s0.Code.length c0_0), (.slice A0_1 s0.Warps.length c0_1), (.slice A0_2 s0.Memory.length c0_2), (.int .i64 s0.Waiting), (.int .i64 s0.Phase)])] w (fun v_ w_ => ∃ (A0_ : Option Addr) (c0_ : Nat) (A1_ : Option Addr) (c1_ : Nat) (F1_ : Nat → Prop) (A2_ : Option Addr) (c2_ : Nat), v_ = (.agg #[(.slice A0_ r.Code.length c0_), (.slice A1_ r.Warps.length c1_), (.slice A2_ r.Memory.length c2_), (.int .i64 r.Waiting), (.int .i64 r.Phase)]) ∧ Own el60 w_ w.heap.size A0_ c0_ r.Code ∧ OwnW 30 el81 el3 w_ w.heap.size F1_ A1_ c1_ r.Warps ∧ Own el3 w_ w.heap.size A2_ c2_ r.Memory ∧ Dis (InW A1_ F1_) (InB A2_) ∧ Ext w w_) := by
  have H := wp.impl_copyBlock.math s0 hp
  have hB := Ext.refl w
  refine impl_copyBlock.start ?_
  unfold impl_copyBlock.vc
  unfold wp.impl_copyBlock at H
  refine newBlk (fun g4_ w21 L4 P4 e22 => ?_)
  have O4 := P4
  have L4 := Nat.le_trans hB.size L4
  have hB := ethen hB e22
  refine newBlk (fun g5_ w23 L5 P5 e24 => ?_)
  have N4_5 := O4.ne L5
  have O4 := O4.ext e24
  have O5 := P5
  have L5 := Nat.le_trans hB.size L5
  have hB := ethen hB e24
  obtain ⟨K329, hKK329, H⟩ := joinP_out H
  refine ⟨fun z_ w_ => ∃ (xs25 : List D.Ins) (xs29 : List D.Warp) (xs32 : List Int) (i35 : Int) (i36 : Int) (g14_ : Nat) (A26 : Option Addr) (c27 : Nat) (A30 : Option Addr) (c31 : Nat) (F28 : Nat → Prop) (A33 : Option Addr) (c34 : Nat), z_ = ((⟨g14_, 0, none⟩ : Addr), ()) ∧ K329 (xs25, xs29, xs32, i35, i36, ()) ∧ Ext w w_ ∧ Blk w_ g14_ 41 #[(.slice A26 xs25.length c27), (.slice A30 xs29.length c31), (.slice A33 xs32.length c34), (.int .i64 i35), (.int .i64 i36)] ∧ w.heap.size ≤ g14_ ∧ Own el60 w_ w.heap.size A26 c27 xs25 ∧ OwnW 30 el81 el3 w_ w.heap.size F28 A30 c31 xs29 ∧ Own el3 w_ w.heap.size A33 c34 xs32 ∧ Blk w_ g4_ 41 #[(.slice A0_0 s0.Code.length c0_0), (.slice A0_1 s0.Warps.length c0_1), (.slice A0_2 s0.Memory.length c0_2), (.int .i64 s0.Waiting), (.int .i64 s0.Phase)] ∧ Blk w_ g5_ 41 #[(.slice none 0 0), (.slice none 0 0), (.slice none 0 0), (.int .i64 0), (.int .i64 0)] ∧ g4_ ≠ g14_ ∧ g5_ ≠ g14_ ∧ Dis (InW A30 F28) (InB A33), ?_, ?_⟩
  · refine ⟨(fun _ => False), ?_⟩
    refine ⟨_, _, _, ⟨(fun h_ => h_), (O4.at 0 rfl rfl)⟩, ?_⟩
    refine ⟨_, _, _, ⟨(fun h_ => h_), (O4.at 2 rfl rfl)⟩, ?_⟩
    refine ⟨_, ⟨(fun h_ => h_), (O4.at 3 rfl rfl)⟩, ?_⟩
    refine ⟨_, ⟨(fun h_ => h_), (O4.at 4 rfl rfl)⟩, ?_⟩
    refine And.intro ?_ ?_
    · have H := H.1
      have hS40 := Chg.refl (fun _ => False) w23
      have O4 := O4.ext (Ext.drew _)
      have O5 := O5.ext (Ext.drew _)
      have hB := ethen hB (Ext.drew _)
      have hS40 := hS40.then (Ext.drew _)
      obtain ⟨hp43, H⟩ := H
      obtain ⟨r41, hr42⟩ : ∃ r_, r_ = M.slices_Clone_impl_Ins_impl_Ins s0.Code := ⟨_, rfl⟩
      have H := H r41 hr42
      refine (slices_Clone_impl_Ins_impl_Ins.con hp43 hr42 (R0_0.ext hB) hc0_0).mono ?_
      rintro _ w44 ⟨A46, c47, rfl, P18, e45⟩
      have N18_4 := P18.apart_old O4.lt
      have N18_5 := P18.apart_old O5.lt
      have O4 := O4.ext e45
      have O5 := O5.ext e45
      have LB18 := (P18.mono hS40.size).low
      have O18 := P18.mono hB.size
      have hB := ethen hB e45
      have hS40 := hS40.then e45
      refine ⟨A46, r41.length, c47, rfl, ?_⟩
      refine ⟨sameBut_chg hS40, ?_⟩
      refine And.intro ?_ ?_
      · have H := H.1
        obtain ⟨hp50, H⟩ := H
        obtain ⟨r48, hr49⟩ : ∃ r_, r_ = M.slices_Clone_int_int s0.Memory := ⟨_, rfl⟩
        have H := H r48 hr49
        refine (slices_Clone_int_int.con hp50 hr49 (R0_2.ext hB) hc0_2).mono ?_
        rintro _ w51 ⟨A53, c54, rfl, P19, e52⟩
        have N19_4 := P19.apart_old O4.lt
        have N19_5 := P19.apart_old O5.lt
        have N18_19 := Own.apart2_new O18 P19 (Nat.le_refl _)
        have O4 := O4.ext e52
        have O5 := O5.ext e52
        have O18 := O18.ext e52
        have LB19 := (P19.mono hS40.size).low
        have O19 := P19.mono hB.size
        have hB := ethen hB e52
        have hS40 := hS40.then e52
        refine ⟨A53, r48.length, c54, rfl, ?_⟩
        refine ⟨sameBut_chg hS40, ?_⟩
        refine newBlk (fun g20_ w55 L20 P20 e56 => ?_)
        have N4_20 := O4.ne L20
        have N5_20 := O5.ne L20
        have N18_20 := O18.apart_new L20
        have N19_20 := O19.apart_new L20
        have O4 := O4.ext e56
        have O5 := O5.ext e56
        have O18 := O18.ext e56
        have O19 := O19.ext e56
        have O20 := P20
        have LB20 := Nat.le_trans hS40.size L20
        have L20 := Nat.le_trans hB.size L20
        have hB := ethen hB e56
        have hS40 := hS40.then e56
        refine ⟨sameBut_chg hS40, ?_⟩
        refine stBlk O20 (o := 0) (cs' := #[(.slice A46 r41.length c47), (.slice none 0 0), (.slice A53 r48.length c54), (.int .i64 s0.Waiting), (.int .i64 s0.Phase)]) rfl rfl (Nat.le_of_ble_eq_true rfl) rfl (fun w57 P20 e58 => ?_)
        have O4_ := O4.chg e58 N4_20
        have O5_ := O5.chg e58 N5_20
        have O18_ := O18.chg e58 N18_20
        have O19_ := O19.chg e58 N19_20
        have O4 := O4_
        have O5 := O5_
        have O18 := O18_
        have O19 := O19_
        have hB := echg hB e58 L20
        have O20 := P20
        exact ⟨r41, [], r48, s0.Waiting, s0.Phase, g20_, A46, c47, none, 0, (fun _ => False), A53, c54, rfl, H, hB, O20, L20, O18, OwnW.nil, O19, O4, O5, N4_20, N5_20, nilW_dis⟩
      refine And.intro ?_ ?_
      · have H := H.2.1
        refine newBlk (fun g21_ w59 L21 P21 e60 => ?_)
        have N4_21 := O4.ne L21
        have N5_21 := O5.ne L21
        have N18_21 := O18.apart_new L21
        have O4 := O4.ext e60
        have O5 := O5.ext e60
        have O18 := O18.ext e60
        have O21 := P21
        have LB21 := Nat.le_trans hS40.size L21
        have L21 := Nat.le_trans hB.size L21
        have hB := ethen hB e60
        have hS40 := hS40.then e60
        refine ⟨sameBut_chg hS40, ?_⟩
        obtain ⟨hp63, H⟩ := H
        obtain ⟨r61, hr62⟩ : ∃ r_, r_ = M.slices_Clone_int_int s0.Memory := ⟨_, rfl⟩
        have H := H r61 hr62
        refine (slices_Clone_int_int.con hp63 hr62 (R0_2.ext hB) hc0_2).mono ?_
        rintro _ w64 ⟨A66, c67, rfl, P22, e65⟩
        have N22_4 := P22.apart_old O4.lt
        have N22_5 := P22.apart_old O5.lt
        have N18_22 := Own.apart2_new O18 P22 (Nat.le_refl _)
        have N22_21 := P22.apart_old O21.lt
        have O4 := O4.ext e65
        have O5 := O5.ext e65
        have O18 := O18.ext e65
        have O21 := O21.ext e65
        have LB22 := (P22.mono hS40.size).low
        have O22 := P22.mono hB.size
        have hB := ethen hB e65
        have hS40 := hS40.then e65
        refine ⟨A66, r61.length, c67, rfl, ?_⟩
        refine ⟨sameBut_chg hS40, ?_⟩
        refine stBlk O21 (o := 0) (cs' := #[(.slice A46 r41.length c47), (.slice none 0 0), (.slice A66 r61.length c67), (.int .i64 s0.Waiting), (.int .i64 s0.Phase)]) rfl rfl (Nat.le_of_ble_eq_true rfl) rfl (fun w68 P21 e69 => ?_)
        have O4_ := O4.chg e69 N4_21
        have O5_ := O5.chg e69 N5_21
        have O18_ := O18.chg e69 N18_21
        have O22_ := O22.chg e69 N22_21
        have O4 := O4_
        have O5 := O5_
        have O18 := O18_
        have O22 := O22_
        have hB := echg hB e69 L21
        have O21 := P21
        exact ⟨r41, [], r61, s0.Waiting, s0.Phase, g21_, A46, c47, none, 0, (fun _ => False), A66, c67, rfl, H, hB, O21, L21, O18, OwnW.nil, O22, O4, O5, N4_21, N5_21, nilW_dis⟩
      exact trivial
    refine And.intro ?_ ?_
    · have H := H.2.1
      have hS40 := Chg.refl (fun _ => False) w23
      have O4 := O4.ext (Ext.drew _)
      have O5 := O5.ext (Ext.drew _)
      have hB := ethen hB (Ext.drew _)
      have hS40 := hS40.then (Ext.drew _)
      refine newBlk (fun g23_ w70 L23 P23 e71 => ?_)
      have N4_23 := O4.ne L23
      have N5_23 := O5.ne L23
      have O4 := O4.ext e71
      have O5 := O5.ext e71
      have O23 := P23
      have LB23 := Nat.le_trans hS40.size L23
      have L23 := Nat.le_trans hB.size L23
      have hB := ethen hB e71
      have hS40 := hS40.then e71
      refine ⟨sameBut_chg hS40, ?_⟩
      obtain ⟨hp74, H⟩ := H
      obtain ⟨r72, hr73⟩ : ∃ r_, r_ = M.slices_Clone_impl_Ins_impl_Ins s0.Code := ⟨_, rfl⟩
      have H := H r72 hr73
      refine (slices_Clone_impl_Ins_impl_Ins.con hp74 hr73 (R0_0.ext hB) hc0_0).mono ?_
      rintro _ w75 ⟨A77, c78, rfl, P24, e76⟩
      have N24_4 := P24.apart_old O4.lt
      have N24_5 := P24.apart_old O5.lt
      have N24_23 := P24.apart_old O23.lt
      have O4 := O4.ext e76
      have O5 := O5.ext e76
      have O23 := O23.ext e76
      have LB24 := (P24.mono hS40.size).low
      have O24 := P24.mono hB.size
      have hB := ethen hB e76
      have hS40 := hS40.then e76
      refine ⟨A77, r72.length, c78, rfl, ?_⟩
      refine ⟨sameBut_chg hS40, ?_⟩
      obtain ⟨hp81, H⟩ := H
      obtain ⟨r79, hr80⟩ : ∃ r_, r_ = M.slices_Clone_int_int s0.Memory := ⟨_, rfl⟩
      have H := H r79 hr80
      refine (slices_Clone_int_int.con hp81 hr80 (R0_2.ext hB) hc0_2).mono ?_
      rintro _ w82 ⟨A84, c85, rfl, P25, e83⟩
      have N25_4 := P25.apart_old O4.lt
      have N25_5 := P25.apart_old O5.lt
      have N25_23 := P25.apart_old O23.lt
      have N24_25 := Own.apart2_new O24 P25 (Nat.le_refl _)
      have O4 := O4.ext e83
      have O5 := O5.ext e83
      have O23 := O23.ext e83
      have O24 := O24.ext e83
      have LB25 := (P25.mono hS40.size).low
      have O25 := P25.mono hB.size
      have hB := ethen hB e83
      have hS40 := hS40.then e83
      refine ⟨A84, r79.length, c85, rfl, ?_⟩
      refine ⟨sameBut_chg hS40, ?_⟩
      refine stBlk O23 (o := 0) (cs' := #[(.slice A77 r72.length c78), (.slice none 0 0), (.slice A84 r79.length c85), (.int .i64 s0.Waiting), (.int .i64 s0.Phase)]) rfl rfl (Nat.le_of_ble_eq_true rfl) rfl (fun w86 P23 e87 => ?_)
      have O4_ := O4.chg e87 N4_23
      have O5_ := O5.chg e87 N5_23
      have O24_ := O24.chg e87 N24_23
      have O25_ := O25.chg e87 N25_23
      have O4 := O4_
      have O5 := O5_
      have O24 := O24_
      have O25 := O25_
      have hB := echg hB e87 L23
      have O23 := P23
      exact ⟨r72, [], r79, s0.Waiting, s0.Phase, g23_, A77, c78, none, 0, (fun _ => False), A84, c85, rfl, H, hB, O23, L23, O24, OwnW.nil, O25, O4, O5, N4_23, N5_23, nilW_dis⟩
    exact trivial
  rintro _ w38 ⟨xs25, xs29, xs32, i35, i36, g14_, A26, c27, A30, c31, F28, A33, c34, rfl, H, hB, O14, L14, O15, O16, O17, O4, O5, N4_14, N5_14, N16_17⟩
  have H := hKK329 _ H
  try dsimp only at H ⊢
  refine ⟨_, _, _, (O4.at 1 rfl rfl), ?_⟩
  obtain ⟨J247, ⟨m326, hJ325⟩, hS248⟩ := H
  refine ⟨fun m_ z_ w_ => ∃ (i239 : Int) (xs241 : List D.Warp) (i244 : Int) (i245 : Int) (A242 : Option Addr) (c243 : Nat) (F240 : Nat → Prop), z_ = (i239, ()) ∧ J247 m_ (i239, xs241, i244, i245, ()) ∧ Ext w w_ ∧ Blk w_ g14_ 41 #[(.slice A26 xs25.length c27), (.slice A242 xs241.length c243), (.slice A33 xs32.length c34), (.int .i64 i244), (.int .i64 i245)] ∧ OwnW 30 el81 el3 w_ w.heap.size F240 A242 c243 xs241 ∧ Blk w_ g5_ 41 #[(.slice none 0 0), (.slice none 0 0), (.slice none 0 0), (.int .i64 0), (.int .i64 0)] ∧ Own el60 w_ w.heap.size A26 c27 xs25 ∧ Own el3 w_ w.heap.size A33 c34 xs32 ∧ Dis (InW A242 F240) (InB A33), ⟨m326, 0, xs29, i35, i36, A30, c31, F28, rfl, hJ325, hB, O14, O16, O5, O15, O17, N16_17⟩, ?_⟩
  rintro m246 _ w250 ⟨i239, xs241, i244, i245, A242, c243, F240, rfl, hJ327, hB, O14, O44, O5, O15, O17, N44_17⟩
  have H := hS248 m246 _ hJ327
  clear hS248 hJ327
  try dsimp only at H ⊢
  refine bcase_mk (fun hc323 => ?_) (fun hc323 => ?_)
  · have H := (bcase_iff.1 H).1 hc323
    obtain ⟨⟨h0_254, h1_255⟩, H⟩ := H
    obtain ⟨a252, ha253, A259, c260, A261, c262, f256, f257, f258, R263, hle265, R264, hle266⟩ := RowW.at R0_1 h0_254 h1_255
    refine ⟨h0_254, h1_255, a252, ha253, ?_⟩
    refine ⟨_, (Ext.cell hB f256), ?_⟩
    refine ⟨_, _, _, (Ext.cell hB f257), ?_⟩
    refine ⟨_, _, _, (Ext.cell hB f258), ?_⟩
    refine newBlk (fun g47_ w267 L47 P47 e268 => ?_)
    have N5_47 := O5.ne L47
    have N14_47 := O14.ne L47
    have N15_47 := O15.apart_new L47
    have N17_47 := O17.apart_new L47
    have N44_47 := O44.dis_newbox L47
    have O5 := O5.ext e268
    have O14 := O14.ext e268
    have O15 := O15.ext e268
    have O17 := O17.ext e268
    have O44 := O44.ext e268
    have O47 := P47
    have L47 := Nat.le_trans hB.size L47
    have hB := ethen hB e268
    refine stBlk O47 (o := 0) (cs' := #[(.int .i64 ((rd s0.Warps i239).Number)), (.slice A259 ((rd s0.Warps i239).Frames.length) c260), (.slice A261 ((rd s0.Warps i239).Regs.length) c262)]) rfl rfl (Nat.le_of_ble_eq_true rfl) rfl (fun w269 P47 e270 => ?_)
    have O5_ := O5.chg e270 N5_47
    have O14_ := O14.chg e270 N14_47
    have O15_ := O15.chg e270 N15_47
    have O17_ := O17.chg e270 N17_47
    have O44_ := O44.chg e270 N44_47
    have O5 := O5_
    have O14 := O14_
    have O15 := O15_
    have O17 := O17_
    have O44 := O44_
    have hB := echg hB e270 L47
    have O47 := P47
    refine ⟨(InB A242), ?_⟩
    refine ⟨_, _, _, ⟨(notM1 (fun h_ => (OwnW.dis_blk O44 O14 (by decide) (by decide) (by decide)) (Or.inl h_)) (by first | rfl | (simp only [blk_add]))), (O14.at 1 rfl rfl)⟩, ?_⟩
    refine ⟨_, ⟨(notM1 (fun h_ => N44_47 (Or.inl h_)) (by first | rfl | (simp only [blk_add]))), (O47.at 0 rfl rfl)⟩, ?_⟩
    refine ⟨_, _, _, ⟨(notM1 (fun h_ => N44_47 (Or.inl h_)) (by first | rfl | (simp only [blk_add]))), (O47.at 1 rfl rfl)⟩, ?_⟩
    refine ⟨_, _, _, ⟨(notM1 (fun h_ => N44_47 (Or.inl h_)) (by first | rfl | (simp only [blk_add]))), (O47.at 2 rfl rfl)⟩, ?_⟩
    have hS271 := Chg.refl (InB A242) w269
    have O5 := O5.ext (Ext.drew _)
    have O14 := O14.ext (Ext.drew _)
    have O15 := O15.ext (Ext.drew _)
    have O17 := O17.ext (Ext.drew _)
    have O44 := O44.ext (Ext.drew _)
    have O47 := O47.ext (Ext.drew _)
    have hB := ethen hB (Ext.drew _)
    have hS271 := hS271.then (Ext.drew _)
    obtain ⟨hp296, H⟩ := H
    obtain ⟨r294, hr295⟩ : ∃ r_, r_ = M.impl_copyWarp (rd s0.Warps i239) := ⟨_, rfl⟩
    have H := H r294 hr295
    refine (cllArgs (by first | (simp only [List.length_set]; done) | (simp; done)) (impl_copyWarp.con hp296 hr295 (R263.ext hB) hle265 (R264.ext hB) hle266)).mono ?_
    rintro _ w297 ⟨A299, c300, A301, c302, rfl, P51, P52, e298⟩
    have N51_5 := P51.apart_old O5.lt
    have N51_14 := P51.apart_old O14.lt
    have N15_51 := Own.apart2_new O15 P51 (Nat.le_refl _)
    have N17_51 := Own.apart2_new O17 P51 (Nat.le_refl _)
    have N44_51 := O44.dis_new P51 (Nat.le_refl _)
    have N51_47 := P51.apart_old O47.lt
    have N52_5 := P52.apart_old O5.lt
    have N52_14 := P52.apart_old O14.lt
    have N15_52 := Own.apart2_new O15 P52 (Nat.le_refl _)
    have N17_52 := Own.apart2_new O17 P52 (Nat.le_refl _)
    have N44_52 := O44.dis_new P52 (Nat.le_refl _)
    have N52_47 := P52.apart_old O47.lt
    have O5 := O5.ext e298
    have O14 := O14.ext e298
    have O15 := O15.ext e298
    have O17 := O17.ext e298
    have O44 := O44.ext e298
    have O47 := O47.ext e298
    have LB51 := (P51.mono hS271.size).low
    have LB52 := (P52.mono hS271.size).low
    have O51 := P51.mono hB.size
    have O52 := P52.mono hB.size
    have hB := ethen hB e298
    have hS271 := hS271.then e298
    refine ⟨r294.Number, trivial, ?_⟩
    refine ⟨A299, r294.Frames.length, c300, trivial, ?_⟩
    refine ⟨A301, r294.Regs.length, c302, trivial, ?_⟩
    refine ⟨rfl, ?_⟩
    refine ⟨sameBut_chg hS271, ?_⟩
    refine buildOwn (elH 30) ([⟨r294, A299, c300, A301, c302⟩] : List HW) (fun _ => by kernel_rfl) rfl (fun A303 w304 P53 e305 => ?_)
    have Q53 : OwnW 30 el81 el3 _ _ _ _ _ _ := OwnW.one (P53.mono hB.size) (O51.ext e305) (O52.ext e305)
    have N53_17 : Dis (InW A303 (fun g => InB A299 g ∨ InB A301 g)) (InB A33) := fun g h_ hx_ => h_.elim (fun h_ => (Own.apart2_new O17 P53 (Nat.le_refl _)).inb g hx_ h_) (fun h_ => h_.elim (fun h_ => ((N17_51).symm).inb g h_ hx_) (fun h_ => ((N17_52).symm).inb g h_ hx_))
    have N53_44 : Dis (InW A303 (fun g => InB A299 g ∨ InB A301 g)) (InW A242 F240) := fun g h_ hx_ => h_.elim (fun h_ => O44.dis_new P53 (Nat.le_refl _) g hx_ h_) (fun h_ => h_.elim (fun h_ => N44_51 g hx_ h_) (fun h_ => N44_52 g hx_ h_))
    have N53_47 : ¬ InW A303 (fun g => InB A299 g ∨ InB A301 g) g47_ := fun h_ => h_.elim (fun h_ => P53.apart_old O47.lt |>.inb h_) (fun h_ => h_.elim (N51_47).inb (N52_47).inb)
    have O5 := O5.ext e305
    have O14 := O14.ext e305
    have O15 := O15.ext e305
    have O17 := O17.ext e305
    have O44 := O44.ext e305
    have O47 := O47.ext e305
    have LB53 : ∀ g, InW A303 (fun g => InB A299 g ∨ InB A301 g) g → _ := fun g h_ => h_.elim ((P53.mono hS271.size).low g) (fun h_ => h_.elim (fun h_ => LB51 g h_) (fun h_ => LB52 g h_))
    have O53 := Q53
    have hB := ethen hB e305
    have hS271 := hS271.then e305
    refine ⟨sameBut_chg hS271, ?_⟩
    obtain ⟨hl315, H⟩ := H
    refine appOwnW slt39 slt39.under O44 O53 (N53_44).symm (by decide) (by decide) hB.size rfl (by first | rfl | omega | (simp; done) | (simp; omega)) hl315 (fun A311 c312 w313 P44 e314 => ?_)
    have O5 := O5.app e314 (fun a_ ha_ hb_ => (OwnW.dis_blk O44 O5 (by decide) (by decide) (by decide)) (Or.inl ⟨a_, ha_, hb_⟩))
    have O14 := O14.app e314 (fun a_ ha_ hb_ => (OwnW.dis_blk O44 O14 (by decide) (by decide) (by decide)) (Or.inl ⟨a_, ha_, hb_⟩))
    have O15 := O15.app e314 (fun a_ b_ ha_ hb_ hab_ => (OwnW.dis_type O44 O15 (by decide) (by decide) (by decide)) _ (Or.inl ⟨b_, hb_, rfl⟩) ⟨a_, ha_, hab_⟩)
    have N44_17_ := dis_app N44_17 N53_17 e314 O17
    have O17 := O17.app e314 (fun a_ b_ ha_ hb_ hab_ => N44_17 _ (Or.inl ⟨b_, hb_, rfl⟩) ⟨a_, ha_, hab_⟩)
    have N44_17 := N44_17_
    have N44_47_ := disb_app N44_47 N53_47 e314 O47
    have O47 := O47.app e314 (fun a_ ha_ hb_ => N44_47 (Or.inl ⟨a_, ha_, hb_⟩))
    have N44_47 := N44_47_
    have hsz44_ := hS271.size
    have hS271 := hS271.app e314 (fun g h_ => (Or.inr h_))
    have hB := eappW hB e314 O44
    have O44 := P44
    refine ⟨sameBut_chg hS271, ?_⟩
    refine stBlk O14 (o := 1) (cs' := #[(.slice A26 xs25.length c27), (.slice A311 (((xs241 ++ ([r294] : List D.Warp))).length) c312), (.slice A33 xs32.length c34), (.int .i64 i244), (.int .i64 i245)]) rfl rfl (Nat.le_of_ble_eq_true rfl) rfl (fun w316 P14 e317 => ?_)
    have O5_ := O5.chg e317 N5_14
    have O15_ := O15.chg e317 (O15.apart_type O14 (by decide))
    have O17_ := O17.chg e317 (O17.apart_type O14 (by decide))
    have O44_ := O44.chg e317 (OwnW.dis_blk O44 O14 (by decide) (by decide) (by decide))
    have O47_ := O47.chg e317 (N14_47).symm
    have O5 := O5_
    have O15 := O15_
    have O17 := O17_
    have O44 := O44_
    have O47 := O47_
    have hB := echg hB e317 L14
    have O14 := P14
    obtain ⟨m318, hm319, hJ320⟩ := H
    exact ⟨m318, hm319, (IntKind.wrap .i64 (i239 + 1)), (xs241 ++ ([r294] : List D.Warp)), i244, i245, A311, c312, (fun g => F240 g ∨ (fun g => InB A299 g ∨ InB A301 g) g), rfl, hJ320, hB, O14, O44, O5, O15, O17, N44_17⟩
  have H := (bcase_iff.1 H).2 hc323
  refine ⟨_, _, _, (O14.at 0 rfl rfl), ?_⟩
  refine ⟨_, _, _, (O14.at 1 rfl rfl), ?_⟩
  refine ⟨_, _, _, (O14.at 2 rfl rfl), ?_⟩
  refine ⟨_, (O14.at 3 rfl rfl), ?_⟩
  refine ⟨_, (O14.at 4 rfl rfl), ?_⟩
  refine stBlk O5 (o := 0) (cs' := #[(.slice A26 xs25.length c27), (.slice A242 xs241.length c243), (.slice A33 xs32.length c34), (.int .i64 i244), (.int .i64 i245)]) rfl rfl (Nat.le_of_ble_eq_true rfl) rfl (fun w321 P5 e322 => ?_)
  have O14_ := O14.chg e322 (N5_14).symm
  have O15_ := O15.chg e322 (O15.apart_type O5 (by decide))
  have O17_ := O17.chg e322 (O17.apart_type O5 (by decide))
  have O44_ := O44.chg e322 (OwnW.dis_blk O44 O5 (by decide) (by decide) (by decide))
  have O14 := O14_
  have O15 := O15_
  have O17 := O17_
  have O44 := O44_
  have hB := echg hB e322 L5
  have O5 := P5
  refine ⟨_, _, _, (O5.at 0 rfl rfl), ?_⟩
  refine ⟨_, _, _, (O5.at 1 rfl rfl), ?_⟩
  refine ⟨_, _, _, (O5.at 2 rfl rfl), ?_⟩
  refine ⟨_, (O5.at 3 rfl rfl), ?_⟩
  refine ⟨_, (O5.at 4 rfl rfl), ?_⟩
  obtain rfl := hr.trans H.symm
  exact ⟨A26, c27, A242, c243, F240, A33, c34, rfl, O15, O44, O17, N44_17, hB⟩
def impl_WithMemory.vc (A0_0 : Option Addr) (n0_0 : Nat) (c0_0 : Nat) (A0_1 : Option Addr) (n0_1 : Nat) (c0_1 : Nat) (A0_2 : Option Addr) (n0_2 : Nat) (c0_2 : Nat) (x0_3 : Int) (x0_4 : Int) (A1 : Option Addr) (n1 : Nat) (c1 : Nat) (w : World) (K : Value → World → Prop) : Prop :=
  newK w (.cells #[(.slice A0_0 n0_0 c0_0), (.slice A0_1 n0_1 c0_1), (.slice A0_2 n0_2 c0_2), (.int .i64 x0_3), (.int .i64 x0_4)] 41) fun g21 w22 => newK w22 (.cells #[(.slice none 0 0), (.slice none 0 0), (.slice none 0 0), (.int .i64 0), (.int .i64 0)] 41) fun g23 w24 => ∃ (A25 : Option Addr) (n26 : Nat) (c27 : Nat), w24.cell? ((⟨g21, 0, none⟩ : Addr).add 0) = some (.slice A25 n26 c27) ∧ ∃ (A28 : Option Addr) (n29 : Nat) (c30 : Nat), w24.cell? ((⟨g21, 0, none⟩ : Addr).add 1) = some (.slice A28 n29 c30) ∧ ∃ (A31 : Option Addr) (n32 : Nat) (c33 : Nat), w24.cell? ((⟨g21, 0, none⟩ : Addr).add 2) = some (.slice A31 n32 c33) ∧ ∃ (n34 : Int), w24.cell? ((⟨g21, 0, none⟩ : Addr).add 3) = some (.int .i64 n34) ∧ ∃ (n35 : Int), w24.cell? ((⟨g21, 0, none⟩ : Addr).add 4) = some (.int .i64 n35) ∧ Cll Try.prog 43 #[(.agg #[(.slice A25 n26 c27), (.slice A28 n29 c30), (.slice A31 n32 c33), (.int .i64 n34), (.int .i64 n35)])] w24 fun v36 w37 => (∃ (A38 : Option Addr) (n39 : Nat) (c40 : Nat), True ∧ ∃ (A41 : Option Addr) (n42 : Nat) (c43 : Nat), True ∧ ∃ (A44 : Option Addr) (n45 : Nat) (c46 : Nat), True ∧ ∃ (n47 : Int), True ∧ ∃ (n48 : Int), True ∧ v36 = (.agg #[(.slice A38 n39 c40), (.slice A41 n42 c43), (.slice A44 n45 c46), (.int .i64 n47), (.int .i64 n48)]) ∧ newK w37 (.cells #[(.slice none 0 0), (.slice none 0 0), (.slice none 0 0), (.int .i64 0), (.int .i64 0)] 41) fun g49 w50 => stCells (⟨g49, 0, none⟩ : Addr) [(.slice A38 n39 c40), (.slice A41 n42 c43), (.slice A44 n45 c46), (.int .i64 n47), (.int .i64 n48)] 0 w50 fun w51 => ∃ (A53 : Option Addr) (n54 : Nat) (c55 : Nat), w51.cell? ((⟨g21, 0, none⟩ : Addr).add 0) = some (.slice A53 n54 c55) ∧ ∃ (A56 : Option Addr) (n57 : Nat) (c58 : Nat), w51.cell? ((⟨g21, 0, none⟩ : Addr).add 1) = some (.slice A56 n57 c58) ∧ ∃ (A59 : Option Addr) (n60 : Nat) (c61 : Nat), w51.cell? ((⟨g21, 0, none⟩ : Addr).add 2) = some (.slice A59 n60 c61) ∧ ∃ (n62 : Int), w51.cell? ((⟨g21, 0, none⟩ : Addr).add 3) = some (.int .i64 n62) ∧ ∃ (n63 : Int), w51.cell? ((⟨g21, 0, none⟩ : Addr).add 4) = some (.int .i64 n63) ∧ Cll Try.prog 19 #[(.agg #[(.slice A53 n54 c55), (.slice A56 n57 c58), (.slice A59 n60 c61), (.int .i64 n62), (.int .i64 n63)])] w51 fun v64 w65 => (∃ (b66 : Bool), v64 = (.bool b66) ∧ bcase (!b66) (∃ (A67 : Option Addr) (n68 : Nat) (c69 : Nat), w65.cell? ((⟨g49, 0, none⟩ : Addr).add 0) = some (.slice A67 n68 c69) ∧ ∃ (A70 : Option Addr) (n71 : Nat) (c72 : Nat), w65.cell? ((⟨g49, 0, none⟩ : Addr).add 1) = some (.slice A70 n71 c72) ∧ ∃ (A73 : Option Addr) (n74 : Nat) (c75 : Nat), w65.cell? ((⟨g49, 0, none⟩ : Addr).add 2) = some (.slice A73 n74 c75) ∧ ∃ (n76 : Int), w65.cell? ((⟨g49, 0, none⟩ : Addr).add 3) = some (.int .i64 n76) ∧ ∃ (n77 : Int), w65.cell? ((⟨g49, 0, none⟩ : Addr).add 4) = some (.int .i64 n77) ∧ stCells (⟨g23, 0, none⟩ : Addr) [(.slice A67 n68 c69), (.slice A70 n71 c72), (.slice A73 n74 c75), (.int .i64 n76), (.int .i64 n77)] 0 w65 fun w78 => ∃ (A79 : Option Addr) (n80 : Nat) (c81 : Nat), w78.cell? ((⟨g23, 0, none⟩ : Addr).add 0) = some (.slice A79 n80 c81) ∧ ∃ (A82 : Option Addr) (n83 : Nat) (c84 : Nat), w78.cell? ((⟨g23, 0, none⟩ : Addr).add 1) = some (.slice A82 n83 c84) ∧ ∃ (A85 : Option Addr) (n86 : Nat) (c87 : Nat), w78.cell? ((⟨g23, 0, none⟩ : Addr).add 2) = some (.slice A85 n86 c87) ∧ ∃ (n88 : Int), w78.cell? ((⟨g23, 0, none⟩ : Addr).add 3) = some (.int .i64 n88) ∧ ∃ (n89 : Int), w78.cell? ((⟨g23, 0, none⟩ : Addr).add 4) = some (.int .i64 n89) ∧ K (.tuple #[(.agg #[(.slice A79 n80 c81), (.slice A82 n83 c84), (.slice A85 n86 c87), (.int .i64 n88), (.int .i64 n89)]), (.bool false)]) w78) (Cll Try.prog 44 #[(.slice A1 n1 c1)] w65 fun v90 w91 => (∃ (b92 : Bool), v90 = (.bool b92) ∧ bcase (!b92) (∃ (A93 : Option Addr) (n94 : Nat) (c95 : Nat), w91.cell? ((⟨g49, 0, none⟩ : Addr).add 0) = some (.slice A93 n94 c95) ∧ ∃ (A96 : Option Addr) (n97 : Nat) (c98 : Nat), w91.cell? ((⟨g49, 0, none⟩ : Addr).add 1) = some (.slice A96 n97 c98) ∧ ∃ (A99 : Option Addr) (n100 : Nat) (c101 : Nat), w91.cell? ((⟨g49, 0, none⟩ : Addr).add 2) = some (.slice A99 n100 c101) ∧ ∃ (n102 : Int), w91.cell? ((⟨g49, 0, none⟩ : Addr).add 3) = some (.int .i64 n102) ∧ ∃ (n103 : Int), w91.cell? ((⟨g49, 0, none⟩ : Addr).add 4) = some (.int .i64 n103) ∧ stCells (⟨g23, 0, none⟩ : Addr) [(.slice A93 n94 c95), (.slice A96 n97 c98), (.slice A99 n100 c101), (.int .i64 n102), (.int .i64 n103)] 0 w91 fun w104 => ∃ (A105 : Option Addr) (n106 : Nat) (c107 : Nat), w104.cell? ((⟨g23, 0, none⟩ : Addr).add 0) = some (.slice A105 n106 c107) ∧ ∃ (A108 : Option Addr) (n109 : Nat) (c110 : Nat), w104.cell? ((⟨g23, 0, none⟩ : Addr).add 1) = some (.slice A108 n109 c110) ∧ ∃ (A111 : Option Addr) (n112 : Nat) (c113 : Nat), w104.cell? ((⟨g23, 0, none⟩ : Addr).add 2) = some (.slice A111 n112 c113) ∧ ∃ (n114 : Int), w104.cell? ((⟨g23, 0, none⟩ : Addr).add 3) = some (.int .i64 n114) ∧ ∃ (n115 : Int), w104.cell? ((⟨g23, 0, none⟩ : Addr).add 4) = some (.int .i64 n115) ∧ K (.tuple #[(.agg #[(.slice A105 n106 c107), (.slice A108 n109 c110), (.slice A111 n112 c113), (.int .i64 n114), (.int .i64 n115)]), (.bool false)]) w104) (Cll Try.prog 45 #[(.slice A1 n1 c1)] w91 fun v116 w117 => (∃ (A118 : Option Addr) (n119 : Nat) (c120 : Nat), v116 = (.slice A118 n119 c120) ∧ stCells ((⟨g49, 0, none⟩ : Addr).add 2) [(.slice A118 n119 c120)] 0 w117 fun w121 => ∃ (A122 : Option Addr) (n123 : Nat) (c124 : Nat), w121.cell? ((⟨g49, 0, none⟩ : Addr).add 0) = some (.slice A122 n123 c124) ∧ ∃ (A125 : Option Addr) (n126 : Nat) (c127 : Nat), w121.cell? ((⟨g49, 0, none⟩ : Addr).add 1) = some (.slice A125 n126 c127) ∧ ∃ (A128 : Option Addr) (n129 : Nat) (c130 : Nat), w121.cell? ((⟨g49, 0, none⟩ : Addr).add 2) = some (.slice A128 n129 c130) ∧ ∃ (n131 : Int), w121.cell? ((⟨g49, 0, none⟩ : Addr).add 3) = some (.int .i64 n131) ∧ ∃ (n132 : Int), w121.cell? ((⟨g49, 0, none⟩ : Addr).add 4) = some (.int .i64 n132) ∧ stCells (⟨g23, 0, none⟩ : Addr) [(.slice A122 n123 c124), (.slice A125 n126 c127), (.slice A128 n129 c130), (.int .i64 n131), (.int .i64 n132)] 0 w121 fun w133 => ∃ (A134 : Option Addr) (n135 : Nat) (c136 : Nat), w133.cell? ((⟨g23, 0, none⟩ : Addr).add 0) = some (.slice A134 n135 c136) ∧ ∃ (A137 : Option Addr) (n138 : Nat) (c139 : Nat), w133.cell? ((⟨g23, 0, none⟩ : Addr).add 1) = some (.slice A137 n138 c139) ∧ ∃ (A140 : Option Addr) (n141 : Nat) (c142 : Nat), w133.cell? ((⟨g23, 0, none⟩ : Addr).add 2) = some (.slice A140 n141 c142) ∧ ∃ (n143 : Int), w133.cell? ((⟨g23, 0, none⟩ : Addr).add 3) = some (.int .i64 n143) ∧ ∃ (n144 : Int), w133.cell? ((⟨g23, 0, none⟩ : Addr).add 4) = some (.int .i64 n144) ∧ K (.tuple #[(.agg #[(.slice A134 n135 c136), (.slice A137 n138 c139), (.slice A140 n141 c142), (.int .i64 n143), (.int .i64 n144)]), (.bool true)]) w133))))))

def impl_WithMemory.ann : Ann := (.seq .l (.seq .l (.seq (.seq .l (.two (.seq .l .l) .l)) (.seq .l (.seq .l .l)))))

theorem impl_WithMemory.start {A0_0 : Option Addr} {n0_0 : Nat} {c0_0 : Nat} {A0_1 : Option Addr} {n0_1 : Nat} {c0_1 : Nat} {A0_2 : Option Addr} {n0_2 : Nat} {c0_2 : Nat} {x0_3 : Int} {x0_4 : Int} {A1 : Option Addr} {n1 : Nat} {c1 : Nat} {w : World} {K : Value → World → Prop} (h : impl_WithMemory.vc A0_0 n0_0 c0_0 A0_1 n0_1 c0_1 A0_2 n0_2 c0_2 x0_3 x0_4 A1 n1 c1 w K) : Cll Try.prog 18 #[(.agg #[(.slice A0_0 n0_0 c0_0), (.slice A0_1 n0_1 c0_1), (.slice A0_2 n0_2 c0_2), (.int .i64 x0_3), (.int .i64 x0_4)]), (.slice A1 n1 c1)] w K :=
  vcF_sound mixed (fn := Try.f18) (by kernel_rfl) (by kernel_rfl) (an := impl_WithMemory.ann) (args := [(.agg #[(.slice A0_0 n0_0 c0_0), (.slice A0_1 n0_1 c0_1), (.slice A0_2 n0_2 c0_2), (.int .i64 x0_3), (.int .i64 x0_4)]), (.slice A1 n1 c1)]) (Eq.mpr (by kernel_rfl) h)

theorem impl_WithMemory.con {s0 : D.Block} {A0_0 : Option Addr} {c0_0 : Nat} {A0_1 : Option Addr} {c0_1 : Nat} {A0_2 : Option Addr} {c0_2 : Nat} {xs1 : List Int} {A1 : Option Addr} {c1 : Nat} {r : D.Block × Bool} {w : World} (hp : M.impl_WithMemory_pre s0 xs1) (hr : r = M.impl_WithMemory s0 xs1) (R0_0 : Row el60 w A0_0 s0.Code) (hc0_0 : s0.Code.length ≤ c0_0) (R0_1 : RowW 30 el81 el3 w A0_1 s0.Warps) (hc0_1 : s0.Warps.length ≤ c0_1) (R0_2 : Row el3 w A0_2 s0.Memory) (hc0_2 : s0.Memory.length ≤ c0_2) (R1 : Row el3 w A1 xs1) (hc1 : xs1.length ≤ c1) :
    Cll Try.prog 18 #[(.agg #[(.slice A0_0 s0.Code.length c0_0), (.slice A0_1 s0.Warps.length c0_1), (.slice A0_2 s0.Memory.length c0_2), (.int .i64 s0.Waiting), (.int .i64 s0.Phase)]), (.slice A1 xs1.length c1)] w (fun v_ w_ => ∃ (A0_ : Option Addr) (c0_ : Nat) (A1_ : Option Addr) (c1_ : Nat) (F1_ : Nat → Prop) (A2_ : Option Addr) (c2_ : Nat), v_ = (.tuple #[(.agg #[(.slice A0_ r.1.Code.length c0_), (.slice A1_ r.1.Warps.length c1_), (.slice A2_ r.1.Memory.length c2_), (.int .i64 r.1.Waiting), (.int .i64 r.1.Phase)]), (.bool r.2)]) ∧ Own el60 w_ w.heap.size A0_ c0_ r.1.Code ∧ OwnW 30 el81 el3 w_ w.heap.size F1_ A1_ c1_ r.1.Warps ∧ Own el3 w_ w.heap.size A2_ c2_ r.1.Memory ∧ Dis (InW A1_ F1_) (InB A2_) ∧ Ext w w_) := by
  have H := wp.impl_WithMemory.math s0 xs1 hp
  have hB := Ext.refl w
  refine impl_WithMemory.start ?_
  unfold impl_WithMemory.vc
  unfold wp.impl_WithMemory at H
  refine newBlk (fun g5_ w21 L5 P5 e22 => ?_)
  have O5 := P5
  have L5 := Nat.le_trans hB.size L5
  have hB := ethen hB e22
  refine newBlk (fun g6_ w23 L6 P6 e24 => ?_)
  have N5_6 := O5.ne L6
  have O5 := O5.ext e24
  have O6 := P6
  have L6 := Nat.le_trans hB.size L6
  have hB := ethen hB e24
  refine ⟨_, _, _, (O5.at 0 rfl rfl), ?_⟩
  refine ⟨_, _, _, (O5.at 1 rfl rfl), ?_⟩
  refine ⟨_, _, _, (O5.at 2 rfl rfl), ?_⟩
  refine ⟨_, (O5.at 3 rfl rfl), ?_⟩
  refine ⟨_, (O5.at 4 rfl rfl), ?_⟩
  obtain ⟨hp27, H⟩ := H
  obtain ⟨r25, hr26⟩ : ∃ r_, r_ = M.impl_copyBlock s0 := ⟨_, rfl⟩
  have H := H r25 hr26
  refine (impl_copyBlock.con hp27 hr26 (R0_0.ext hB) hc0_0 (R0_1.ext hB) hc0_1 (R0_2.ext hB) hc0_2).mono ?_
  rintro _ w28 ⟨A30, c31, A32, c33, F36, A34, c35, rfl, P7, P8, P9, N8_9, e29⟩
  have N7_5 := P7.apart_old O5.lt
  have N7_6 := P7.apart_old O6.lt
  have N8_5 := P8.new_disbox O5 (Nat.le_refl _)
  have N8_6 := P8.new_disbox O6 (Nat.le_refl _)
  have N9_5 := P9.apart_old O5.lt
  have N9_6 := P9.apart_old O6.lt
  have O5 := O5.ext e29
  have O6 := O6.ext e29
  have O7 := P7.mono hB.size
  have O8 := P8.mono hB.size
  have O9 := P9.mono hB.size
  have hB := ethen hB e29
  refine ⟨A30, r25.Code.length, c31, trivial, ?_⟩
  refine ⟨A32, r25.Warps.length, c33, trivial, ?_⟩
  refine ⟨A34, r25.Memory.length, c35, trivial, ?_⟩
  refine ⟨r25.Waiting, trivial, ?_⟩
  refine ⟨r25.Phase, trivial, ?_⟩
  refine ⟨rfl, ?_⟩
  refine newBlk (fun g10_ w37 L10 P10 e38 => ?_)
  have N5_10 := O5.ne L10
  have N6_10 := O6.ne L10
  have N7_10 := O7.apart_new L10
  have N8_10 := O8.dis_newbox L10
  have N9_10 := O9.apart_new L10
  have O5 := O5.ext e38
  have O6 := O6.ext e38
  have O7 := O7.ext e38
  have O8 := O8.ext e38
  have O9 := O9.ext e38
  have O10 := P10
  have L10 := Nat.le_trans hB.size L10
  have hB := ethen hB e38
  refine stBlk O10 (o := 0) (cs' := #[(.slice A30 r25.Code.length c31), (.slice A32 r25.Warps.length c33), (.slice A34 r25.Memory.length c35), (.int .i64 r25.Waiting), (.int .i64 r25.Phase)]) rfl rfl (Nat.le_of_ble_eq_true rfl) rfl (fun w39 P10 e40 => ?_)
  have O5_ := O5.chg e40 N5_10
  have O6_ := O6.chg e40 N6_10
  have O7_ := O7.chg e40 N7_10
  have O8_ := O8.chg e40 N8_10
  have O9_ := O9.chg e40 N9_10
  have O5 := O5_
  have O6 := O6_
  have O7 := O7_
  have O8 := O8_
  have O9 := O9_
  have hB := echg hB e40 L10
  have O10 := P10
  refine ⟨_, _, _, (O5.at 0 rfl rfl), ?_⟩
  refine ⟨_, _, _, (O5.at 1 rfl rfl), ?_⟩
  refine ⟨_, _, _, (O5.at 2 rfl rfl), ?_⟩
  refine ⟨_, (O5.at 3 rfl rfl), ?_⟩
  refine ⟨_, (O5.at 4 rfl rfl), ?_⟩
  obtain ⟨hp43, H⟩ := H
  obtain ⟨r41, hr42⟩ : ∃ r_, r_ = M.impl_BlockOk s0 := ⟨_, rfl⟩
  have H := H r41 hr42
  refine (impl_BlockOk.con hp43 hr42 (R0_0.ext hB) hc0_0 (R0_1.ext hB) hc0_1 (R0_2.ext hB) hc0_2).mono ?_
  rintro _ w44 ⟨rfl, e45⟩
  have O5 := O5.ext e45
  have O6 := O6.ext e45
  have O7 := O7.ext e45
  have O8 := O8.ext e45
  have O9 := O9.ext e45
  have O10 := O10.ext e45
  have hB := ethen hB e45
  refine ⟨r41, rfl, ?_⟩
  refine bcase_mk (fun hc67 => ?_) (fun hc67 => ?_)
  · have H := (bcase_iff.1 H).1 hc67
    refine ⟨_, _, _, (O10.at 0 rfl rfl), ?_⟩
    refine ⟨_, _, _, (O10.at 1 rfl rfl), ?_⟩
    refine ⟨_, _, _, (O10.at 2 rfl rfl), ?_⟩
    refine ⟨_, (O10.at 3 rfl rfl), ?_⟩
    refine ⟨_, (O10.at 4 rfl rfl), ?_⟩
    refine stBlk O6 (o := 0) (cs' := #[(.slice A30 r25.Code.length c31), (.slice A32 r25.Warps.length c33), (.slice A34 r25.Memory.length c35), (.int .i64 r25.Waiting), (.int .i64 r25.Phase)]) rfl rfl (Nat.le_of_ble_eq_true rfl) rfl (fun w46 P6 e47 => ?_)
    have O7_ := O7.chg e47 N7_6
    have O8_ := O8.chg e47 N8_6
    have O9_ := O9.chg e47 N9_6
    have O10_ := O10.chg e47 (N6_10).symm
    have O7 := O7_
    have O8 := O8_
    have O9 := O9_
    have O10 := O10_
    have hB := echg hB e47 L6
    have O6 := P6
    refine ⟨_, _, _, (O6.at 0 rfl rfl), ?_⟩
    refine ⟨_, _, _, (O6.at 1 rfl rfl), ?_⟩
    refine ⟨_, _, _, (O6.at 2 rfl rfl), ?_⟩
    refine ⟨_, (O6.at 3 rfl rfl), ?_⟩
    refine ⟨_, (O6.at 4 rfl rfl), ?_⟩
    obtain rfl := hr.trans H.symm
    exact ⟨A30, c31, A32, c33, F36, A34, c35, rfl, O7, O8, O9, N8_9, hB⟩
  have H := (bcase_iff.1 H).2 hc67
  obtain ⟨hp50, H⟩ := H
  obtain ⟨r48, hr49⟩ : ∃ r_, r_ = M.impl_isMemory xs1 := ⟨_, rfl⟩
  have H := H r48 hr49
  refine (impl_isMemory.con hp50 hr49 (R1.ext hB) hc1).mono ?_
  rintro _ w51 ⟨rfl, e52⟩
  have O5 := O5.ext e52
  have O6 := O6.ext e52
  have O7 := O7.ext e52
  have O8 := O8.ext e52
  have O9 := O9.ext e52
  have O10 := O10.ext e52
  have hB := ethen hB e52
  refine ⟨r48, rfl, ?_⟩
  refine bcase_mk (fun hc66 => ?_) (fun hc66 => ?_)
  · have H := (bcase_iff.1 H).1 hc66
    refine ⟨_, _, _, (O10.at 0 rfl rfl), ?_⟩
    refine ⟨_, _, _, (O10.at 1 rfl rfl), ?_⟩
    refine ⟨_, _, _, (O10.at 2 rfl rfl), ?_⟩
    refine ⟨_, (O10.at 3 rfl rfl), ?_⟩
    refine ⟨_, (O10.at 4 rfl rfl), ?_⟩
    refine stBlk O6 (o := 0) (cs' := #[(.slice A30 r25.Code.length c31), (.slice A32 r25.Warps.length c33), (.slice A34 r25.Memory.length c35), (.int .i64 r25.Waiting), (.int .i64 r25.Phase)]) rfl rfl (Nat.le_of_ble_eq_true rfl) rfl (fun w53 P6 e54 => ?_)
    have O7_ := O7.chg e54 N7_6
    have O8_ := O8.chg e54 N8_6
    have O9_ := O9.chg e54 N9_6
    have O10_ := O10.chg e54 (N6_10).symm
    have O7 := O7_
    have O8 := O8_
    have O9 := O9_
    have O10 := O10_
    have hB := echg hB e54 L6
    have O6 := P6
    refine ⟨_, _, _, (O6.at 0 rfl rfl), ?_⟩
    refine ⟨_, _, _, (O6.at 1 rfl rfl), ?_⟩
    refine ⟨_, _, _, (O6.at 2 rfl rfl), ?_⟩
    refine ⟨_, (O6.at 3 rfl rfl), ?_⟩
    refine ⟨_, (O6.at 4 rfl rfl), ?_⟩
    obtain rfl := hr.trans H.symm
    exact ⟨A30, c31, A32, c33, F36, A34, c35, rfl, O7, O8, O9, N8_9, hB⟩
  have H := (bcase_iff.1 H).2 hc66
  obtain ⟨hp57, H⟩ := H
  obtain ⟨r55, hr56⟩ : ∃ r_, r_ = M.slices_Clone_int_int xs1 := ⟨_, rfl⟩
  have H := H r55 hr56
  refine (slices_Clone_int_int.con hp57 hr56 (R1.ext hB) hc1).mono ?_
  rintro _ w58 ⟨A60, c61, rfl, P11, e59⟩
  have N11_6 := P11.apart_old O6.lt
  have N7_11 := Own.apart2_new O7 P11 (Nat.le_refl _)
  have N8_11 := O8.dis_new P11 (Nat.le_refl _)
  have N9_11 := Own.apart2_new O9 P11 (Nat.le_refl _)
  have N11_10 := P11.apart_old O10.lt
  have O6 := O6.ext e59
  have O7 := O7.ext e59
  have O8 := O8.ext e59
  have O9 := O9.ext e59
  have O10 := O10.ext e59
  have O11 := P11.mono hB.size
  have hB := ethen hB e59
  refine ⟨A60, r55.length, c61, rfl, ?_⟩
  refine stBlk O10 (o := 2) (cs' := #[(.slice A30 r25.Code.length c31), (.slice A32 r25.Warps.length c33), (.slice A60 r55.length c61), (.int .i64 r25.Waiting), (.int .i64 r25.Phase)]) rfl rfl (Nat.le_of_ble_eq_true rfl) rfl (fun w62 P10 e63 => ?_)
  have O6_ := O6.chg e63 N6_10
  have O7_ := O7.chg e63 N7_10
  have O8_ := O8.chg e63 N8_10
  have O9_ := O9.chg e63 N9_10
  have O11_ := O11.chg e63 N11_10
  have O6 := O6_
  have O7 := O7_
  have O8 := O8_
  have O9 := O9_
  have O11 := O11_
  have hB := echg hB e63 L10
  have O10 := P10
  refine ⟨_, _, _, (O10.at 0 rfl rfl), ?_⟩
  refine ⟨_, _, _, (O10.at 1 rfl rfl), ?_⟩
  refine ⟨_, _, _, (O10.at 2 rfl rfl), ?_⟩
  refine ⟨_, (O10.at 3 rfl rfl), ?_⟩
  refine ⟨_, (O10.at 4 rfl rfl), ?_⟩
  refine stBlk O6 (o := 0) (cs' := #[(.slice A30 r25.Code.length c31), (.slice A32 r25.Warps.length c33), (.slice A60 r55.length c61), (.int .i64 r25.Waiting), (.int .i64 r25.Phase)]) rfl rfl (Nat.le_of_ble_eq_true rfl) rfl (fun w64 P6 e65 => ?_)
  have O7_ := O7.chg e65 N7_6
  have O8_ := O8.chg e65 N8_6
  have O10_ := O10.chg e65 (N6_10).symm
  have O11_ := O11.chg e65 N11_6
  have O7 := O7_
  have O8 := O8_
  have O10 := O10_
  have O11 := O11_
  have hB := echg hB e65 L6
  have O6 := P6
  refine ⟨_, _, _, (O6.at 0 rfl rfl), ?_⟩
  refine ⟨_, _, _, (O6.at 1 rfl rfl), ?_⟩
  refine ⟨_, _, _, (O6.at 2 rfl rfl), ?_⟩
  refine ⟨_, (O6.at 3 rfl rfl), ?_⟩
  refine ⟨_, (O6.at 4 rfl rfl), ?_⟩
  obtain rfl := hr.trans H.symm
  exact ⟨A30, c31, A32, c33, F36, A60, c61, rfl, O7, O8, O11, N8_11, hB⟩
def spec_l01Once.vc (p0 : Addr) (x1 : Int) (w : World) (K : Value → World → Prop) : Prop :=
  Cll Try.prog 24 #[(.pointer (some p0)), (.int .i64 x1)] w fun v21 w22 => (∃ (n23 : Int), v21 = (.int .i64 n23) ∧ K (.bool (n23 == 0)) w22)

def spec_l01Once.ann : Ann := (.seq .l (.seq .l .l))

theorem spec_l01Once.start {p0 : Addr} {x1 : Int} {w : World} {K : Value → World → Prop} (h : spec_l01Once.vc p0 x1 w K) : Cll Try.prog 51 #[(.pointer (some p0)), (.int .i64 x1)] w K :=
  vcF_sound mixed (fn := Try.f51) (by kernel_rfl) (by kernel_rfl) (an := spec_l01Once.ann) (args := [(.pointer (some p0)), (.int .i64 x1)]) (Eq.mpr (by kernel_rfl) h)

theorem spec_l01Once.con {s0 : D.Cur} {g1_ : Nat} {A0_0 : Option Addr} {c0_0 : Nat} {x1 : Int} {r : Bool × D.Cur} {w : World} (hp : M.spec_l01Once_pre s0 x1) (hr : r = M.spec_l01Once s0 x1) (O1 : Blk w g1_ 77 #[(.slice A0_0 s0.b.length c0_0), (.int .i64 s0.i), (.int .i64 s0.h)]) (R0_0 : Row el5 w A0_0 s0.b) (hc0_0 : s0.b.length ≤ c0_0) (D0_0 : s0.b ≠ [] → ∀ g, InB A0_0 g → ¬ (fun k_ => k_ = g1_) g) :
    Cll Try.prog 51 #[(.pointer (some (⟨g1_, 0, none⟩ : Addr))), (.int .i64 x1)] w (fun v_ w_ => v_ = (.bool r.1) ∧ Blk w_ g1_ 77 #[(.slice A0_0 r.2.b.length c0_0), (.int .i64 r.2.i), (.int .i64 r.2.h)] ∧ r.2.b = s0.b ∧ Chg (fun k_ => k_ = g1_) w w_) := by
  have H := wp.spec_l01Once.math s0 x1 hp
  have hB := Chg.refl (fun k_ => k_ = g1_) w
  refine spec_l01Once.start ?_
  unfold spec_l01Once.vc
  unfold wp.spec_l01Once at H
  obtain ⟨hp23, H⟩ := H
  obtain ⟨r21, hr22⟩ : ∃ r_, r_ = M.spec_l01Below s0 x1 := ⟨_, rfl⟩
  have H := H r21 hr22
  refine (spec_l01Below.con hp23 hr22 O1 (R0_0.chgS hB D0_0) hc0_0 (fun hx_ => (fun g h_ hS_ => D0_0 hx_ g h_ hS_))).mono ?_
  rintro _ w24 ⟨rfl, Q1, hq26, e25⟩
  rw [hq26] at Q1
  have hB := hB.chg e25 (fun g h_ => Or.inr h_)
  have O1 := Q1
  refine ⟨r21.1, rfl, ?_⟩
  obtain rfl := hr.trans H.symm
  exact ⟨rfl, O1, rfl, hB⟩
end Go.V
