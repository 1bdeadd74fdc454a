import Derived.Test.YtnbkmenlaogblaaMath3
import Derived.Test.YtnbkmenlaogblaaSeat
import Derived.Test.YtnbkmenlaogblaaCon2
namespace Go.V
open Go.Proofs
set_option linter.unusedVariables false
set_option linter.unusedSimpArgs false
set_option maxRecDepth 100000

def slices_IndexFunc_int_int.vc (A0 : Option Addr) (n0 : Nat) (c0 : Nat) (f1 : Nat) (cap1 : Array Value) (w : World) (K : Value → World → Prop) : Prop :=
  LoopT (σ := Int × Unit) (fun z21 w22 next23 => bcase (decide (z21.1 < ((n0 : Nat) : Int))) (((0 : Int) ≤ z21.1 ∧ z21.1 < ((n0 : Nat) : Int) ∧ ∃ a24 : Addr, A0 = some a24 ∧ ∃ (n25 : Int), w22.cell? ((a24.add ((z21.1.toNat) * 1)).add 0) = some (.int .i64 n25) ∧ Cll Try.prog f1 (#[(.int .i64 n25)] ++ cap1) w22 fun v26 w27 => (∃ (b28 : Bool), v26 = (.bool b28) ∧ bcase b28 (K (.int .i64 z21.1) w27) (next23 ((IntKind.wrap .i64 (z21.1 + 1)), ()) w27)))) (K (.int .i64 (-1)) w22)) (0, ()) w

def slices_IndexFunc_int_int.ann : Ann := (.seq .l (.seq (.seq .l (.one (.loop [(8, .int .i64)] (.seq .l (.seq (.two .l .l) (.seq (.one (.seq .l (.seq .l (.two (.seq .l .l) .l)))) .l)))))) (.seq .l .l)))

theorem slices_IndexFunc_int_int.vc_eq (A0 : Option Addr) (n0 : Nat) (c0 : Nat) (f1 : Nat) (cap1 : Array Value) (w : World) (K : Value → World → Prop) : vcF Try.prog Try.f132 slices_IndexFunc_int_int.ann [(.slice A0 n0 c0), (.func (.func f1) #[] cap1)] K w = slices_IndexFunc_int_int.vc A0 n0 c0 f1 cap1 w K := by kernel_rfl

theorem slices_IndexFunc_int_int.start {A0 : Option Addr} {n0 : Nat} {c0 : Nat} {f1 : Nat} {cap1 : Array Value} {w : World} {K : Value → World → Prop} (h : slices_IndexFunc_int_int.vc A0 n0 c0 f1 cap1 w K) : Cll Try.prog 132 #[(.slice A0 n0 c0), (.func (.func f1) #[] cap1)] w K :=
  vcF_sound mixed (fn := Try.f132) (by kernel_rfl) (by kernel_rfl) (an := slices_IndexFunc_int_int.ann) (args := [(.slice A0 n0 c0), (.func (.func f1) #[] cap1)]) (by rw [slices_IndexFunc_int_int.vc_eq]; exact h)

theorem slices_IndexFunc_int_int.con {xs0 : List Int} {A0 : Option Addr} {c0 : Nat} {f1 : Nat} {cap1 : Array Value} {g1 : Int → Bool} {D1 : Int → Prop} {r : Int} {w : World} (hp : M.slices_IndexFunc_int_int_pre xs0 g1 D1) (hr : r = M.slices_IndexFunc_int_int xs0 g1) (R0 : Row el3 w A0 xs0) (hc0 : xs0.length ≤ c0) (F1 : ∀ (z0_ : Int), D1 z0_ → ∀ w_ : World, Ext w w_ → Cll Try.prog f1 (#[(.int .i64 z0_)] ++ cap1) w_ (fun v_ w1_ => v_ = (.bool (g1 z0_)) ∧ Ext w_ w1_)) :
    Cll Try.prog 132 #[(.slice A0 xs0.length c0), (.func (.func f1) #[] cap1)] w (fun v_ w_ => v_ = (.int .i64 r) ∧ Ext w w_) := by
  have H := wp.slices_IndexFunc_int_int.math xs0 g1 D1 hp
  have hB := Ext.refl w
  refine slices_IndexFunc_int_int.start ?_
  unfold slices_IndexFunc_int_int.vc
  unfold wp.slices_IndexFunc_int_int at H
  obtain ⟨J23, ⟨m44, hJ43⟩, hS24⟩ := H
  refine ⟨fun m_ z_ w_ => ∃ (i21 : Int), z_ = (i21, ()) ∧ J23 m_ (i21, ()) ∧ Ext w w_, ⟨m44, 0, rfl, hJ43, hB⟩, ?_⟩
  rintro m22 _ w26 ⟨i21, rfl, hJ45, hB⟩
  have H := hS24 m22 _ hJ45
  clear hS24 hJ45
  dsimp only at H ⊢
  refine bcase_mk (fun hc41 => ?_) (fun hc41 => ?_)
  · have H := (bcase_iff.1 H).1 hc41
    obtain ⟨⟨h0_30, h1_31⟩, H⟩ := H
    obtain ⟨a28, ha29, hat27⟩ := Row.at (R0.ext hB) h0_30 h1_31
    refine ⟨h0_30, h1_31, a28, ha29, ?_⟩
    refine ⟨_, (hat27 0 _ rfl), ?_⟩
    obtain ⟨hd34, H⟩ := H
    obtain ⟨r32, hr33⟩ : ∃ r_, r_ = g1 (rd xs0 i21) := ⟨_, rfl⟩
    have H := H r32 hr33
    refine (F1 (rd xs0 i21) hd34 _ hB).mono ?_
    rintro _ w35 ⟨rfl, e36⟩
    rw [← hr33]
    have hB := ethen hB e36
    refine ⟨r32, rfl, ?_⟩
    refine bcase_mk (fun hc40 => ?_) (fun hc40 => ?_)
    · have H := (bcase_iff.1 H).1 hc40
      obtain rfl := hr.trans H.symm
      exact ⟨rfl, hB⟩
    · have H := (bcase_iff.1 H).2 hc40
      obtain ⟨m37, hm38, hJ39⟩ := H
      exact ⟨m37, hm38, (IntKind.wrap .i64 (i21 + 1)), rfl, hJ39, hB⟩
  · have H := (bcase_iff.1 H).2 hc41
    obtain rfl := hr.trans H.symm
    exact ⟨rfl, hB⟩

def slices_ContainsFunc_int_int.vc (A0 : Option Addr) (n0 : Nat) (c0 : Nat) (f1 : Nat) (cap1 : Array Value) (w : World) (K : Value → World → Prop) : Prop :=
  Cll Try.prog 132 #[(.slice A0 n0 c0), (.func (.func f1) #[] cap1)] w fun v21 w22 => (∃ (n23 : Int), v21 = (.int .i64 n23) ∧ K (.bool (decide (n23 ≥ 0))) w22)

def slices_ContainsFunc_int_int.ann : Ann := (.seq .l (.seq .l .l))

theorem slices_ContainsFunc_int_int.vc_eq (A0 : Option Addr) (n0 : Nat) (c0 : Nat) (f1 : Nat) (cap1 : Array Value) (w : World) (K : Value → World → Prop) : vcF Try.prog Try.f77 slices_ContainsFunc_int_int.ann [(.slice A0 n0 c0), (.func (.func f1) #[] cap1)] K w = slices_ContainsFunc_int_int.vc A0 n0 c0 f1 cap1 w K := by kernel_rfl

theorem slices_ContainsFunc_int_int.start {A0 : Option Addr} {n0 : Nat} {c0 : Nat} {f1 : Nat} {cap1 : Array Value} {w : World} {K : Value → World → Prop} (h : slices_ContainsFunc_int_int.vc A0 n0 c0 f1 cap1 w K) : Cll Try.prog 77 #[(.slice A0 n0 c0), (.func (.func f1) #[] cap1)] w K :=
  vcF_sound mixed (fn := Try.f77) (by kernel_rfl) (by kernel_rfl) (an := slices_ContainsFunc_int_int.ann) (args := [(.slice A0 n0 c0), (.func (.func f1) #[] cap1)]) (by rw [slices_ContainsFunc_int_int.vc_eq]; exact h)

theorem slices_ContainsFunc_int_int.con {xs0 : List Int} {A0 : Option Addr} {c0 : Nat} {f1 : Nat} {cap1 : Array Value} {g1 : Int → Bool} {D1 : Int → Prop} {r : Bool} {w : World} (hp : M.slices_ContainsFunc_int_int_pre xs0 g1 D1) (hr : r = M.slices_ContainsFunc_int_int xs0 g1) (R0 : Row el3 w A0 xs0) (hc0 : xs0.length ≤ c0) (F1 : ∀ (z0_ : Int), D1 z0_ → ∀ w_ : World, Ext w w_ → Cll Try.prog f1 (#[(.int .i64 z0_)] ++ cap1) w_ (fun v_ w1_ => v_ = (.bool (g1 z0_)) ∧ Ext w_ w1_)) :
    Cll Try.prog 77 #[(.slice A0 xs0.length c0), (.func (.func f1) #[] cap1)] w (fun v_ w_ => v_ = (.bool r) ∧ Ext w w_) := by
  have H := wp.slices_ContainsFunc_int_int.math xs0 g1 D1 hp
  have hB := Ext.refl w
  refine slices_ContainsFunc_int_int.start ?_
  unfold slices_ContainsFunc_int_int.vc
  unfold wp.slices_ContainsFunc_int_int at H
  obtain ⟨hp23, H⟩ := H
  obtain ⟨r21, hr22⟩ : ∃ r_, r_ = M.slices_IndexFunc_int_int xs0 g1 := ⟨_, rfl⟩
  have H := H r21 hr22
  refine (slices_IndexFunc_int_int.con hp23 hr22 (R0.ext hB) hc0 (fun z0_  h_ w_ e_ => F1 z0_  h_ w_ (ethen hB e_))).mono ?_
  rintro _ w24 ⟨rfl, e25⟩
  have hB := ethen hB e25
  refine ⟨r21, rfl, ?_⟩
  obtain rfl := hr.trans H.symm
  exact ⟨rfl, hB⟩

def impl_AreWords_1.vc (x0 : Int) (w : World) (K : Value → World → Prop) : Prop :=
  Cll Try.prog 164 #[(.int .i64 x0)] w fun v21 w22 => (∃ (b23 : Bool), v21 = (.bool b23) ∧ K (.bool (!b23)) w22)

def impl_AreWords_1.ann : Ann := (.seq .l (.seq .l .l))

theorem impl_AreWords_1.vc_eq (x0 : Int) (w : World) (K : Value → World → Prop) : vcF Try.prog Try.f163 impl_AreWords_1.ann [(.int .i64 x0)] K w = impl_AreWords_1.vc x0 w K := by kernel_rfl

theorem impl_AreWords_1.start {x0 : Int} {w : World} {K : Value → World → Prop} (h : impl_AreWords_1.vc x0 w K) : Cll Try.prog 163 #[(.int .i64 x0)] w K :=
  vcF_sound mixed (fn := Try.f163) (by kernel_rfl) (by kernel_rfl) (an := impl_AreWords_1.ann) (args := [(.int .i64 x0)]) (by rw [impl_AreWords_1.vc_eq]; exact h)

theorem impl_AreWords_1.con {x0 : Int} {r : Bool} {w : World} (hr : r = M.impl_AreWords_1 x0)  :
    Cll Try.prog 163 #[(.int .i64 x0)] w (fun v_ w_ => v_ = (.bool r) ∧ Ext w w_) := by
  have H := wp.impl_AreWords_1.math x0
  have hB := Ext.refl w
  refine impl_AreWords_1.start ?_
  unfold impl_AreWords_1.vc
  unfold wp.impl_AreWords_1 at H
  obtain ⟨r21, hr22⟩ : ∃ r_, r_ = M.impl_IsWord x0 := ⟨_, rfl⟩
  have H := H r21 hr22
  refine (impl_IsWord.con hr22 ).mono ?_
  rintro _ w24 ⟨rfl, e25⟩
  have hB := ethen hB e25
  refine ⟨r21, rfl, ?_⟩
  obtain rfl := hr.trans H.symm
  exact ⟨rfl, hB⟩

def impl_AreWords.vc (A0 : Option Addr) (n0 : Nat) (c0 : Nat) (w : World) (K : Value → World → Prop) : Prop :=
  Cll Try.prog 77 #[(.slice A0 n0 c0), (.func (.func 163) #[] #[])] w fun v21 w22 => (∃ (b23 : Bool), v21 = (.bool b23) ∧ K (.bool (!b23)) w22)

def impl_AreWords.ann : Ann := (.seq .l (.seq .l .l))

theorem impl_AreWords.vc_eq (A0 : Option Addr) (n0 : Nat) (c0 : Nat) (w : World) (K : Value → World → Prop) : vcF Try.prog Try.f122 impl_AreWords.ann [(.slice A0 n0 c0)] K w = impl_AreWords.vc A0 n0 c0 w K := by kernel_rfl

theorem impl_AreWords.start {A0 : Option Addr} {n0 : Nat} {c0 : Nat} {w : World} {K : Value → World → Prop} (h : impl_AreWords.vc A0 n0 c0 w K) : Cll Try.prog 122 #[(.slice A0 n0 c0)] w K :=
  vcF_sound mixed (fn := Try.f122) (by kernel_rfl) (by kernel_rfl) (an := impl_AreWords.ann) (args := [(.slice A0 n0 c0)]) (by rw [impl_AreWords.vc_eq]; exact h)

theorem impl_AreWords.con {xs0 : List Int} {A0 : Option Addr} {c0 : Nat} {r : Bool} {w : World} (hp : M.impl_AreWords_pre xs0) (hr : r = M.impl_AreWords xs0) (R0 : Row el3 w A0 xs0) (hc0 : xs0.length ≤ c0) :
    Cll Try.prog 122 #[(.slice A0 xs0.length c0)] w (fun v_ w_ => v_ = (.bool r) ∧ Ext w w_) := by
  have H := wp.impl_AreWords.math xs0 hp
  have hB := Ext.refl w
  refine impl_AreWords.start ?_
  unfold impl_AreWords.vc
  unfold wp.impl_AreWords at H
  obtain ⟨hp23, H⟩ := H
  obtain ⟨r21, hr22⟩ : ∃ r_, r_ = M.slices_ContainsFunc_int_int xs0 (fun z0_ => M.impl_AreWords_1 z0_) := ⟨_, rfl⟩
  have H := H r21 hr22
  refine (slices_ContainsFunc_int_int.con hp23 hr22 (R0.ext hB) hc0 (fun z0_ h_ w_ e_ => cllApp (l1 := [_]) (l2 := []) (impl_AreWords_1.con rfl))).mono ?_
  rintro _ w24 ⟨rfl, e25⟩
  have hB := ethen hB e25
  refine ⟨r21, rfl, ?_⟩
  obtain rfl := hr.trans H.symm
  exact ⟨rfl, hB⟩

def impl_WrapWord.vc (x0 : Int) (w : World) (K : Value → World → Prop) : Prop :=
  K (.int .i64 (bitAnd .i64 x0 65535)) w

def impl_WrapWord.ann : Ann := (.seq .l (.seq .l .l))

theorem impl_WrapWord.vc_eq (x0 : Int) (w : World) (K : Value → World → Prop) : vcF Try.prog Try.f230 impl_WrapWord.ann [(.int .i64 x0)] K w = impl_WrapWord.vc x0 w K := by kernel_rfl

theorem impl_WrapWord.start {x0 : Int} {w : World} {K : Value → World → Prop} (h : impl_WrapWord.vc x0 w K) : Cll Try.prog 230 #[(.int .i64 x0)] w K :=
  vcF_sound mixed (fn := Try.f230) (by kernel_rfl) (by kernel_rfl) (an := impl_WrapWord.ann) (args := [(.int .i64 x0)]) (by rw [impl_WrapWord.vc_eq]; exact h)

theorem impl_WrapWord.con {x0 : Int} {r : Int} {w : World} (hr : r = M.impl_WrapWord x0)  :
    Cll Try.prog 230 #[(.int .i64 x0)] w (fun v_ w_ => v_ = (.int .i64 r) ∧ Ext w w_) := by
  have H := wp.impl_WrapWord.math x0
  have hB := Ext.refl w
  refine impl_WrapWord.start ?_
  unfold impl_WrapWord.vc
  unfold wp.impl_WrapWord at H
  obtain rfl := hr.trans H.symm
  exact ⟨rfl, hB⟩

def impl_wrapped.vc (x0 : Int) (x1 : Int) (x2 : Int) (w : World) (K : Value → World → Prop) : Prop :=
  Cll Try.prog 164 #[(.int .i64 x0)] w fun v21 w22 => (∃ (b23 : Bool), v21 = (.bool b23) ∧ bcase (!b23) (K (.int .i64 0) w22) (Cll Try.prog 164 #[(.int .i64 x1)] w22 fun v24 w25 => (∃ (b26 : Bool), v24 = (.bool b26) ∧ bcase (!b26) (K (.int .i64 0) w25) (Cll Try.prog 230 #[(.int .i64 x2)] w25 fun v27 w28 => (∃ (n29 : Int), v27 = (.int .i64 n29) ∧ K (.int .i64 n29) w28)))))

def impl_wrapped.ann : Ann := (.seq .l (.seq (.seq .l (.two (.seq .l .l) .l)) (.seq .l .l)))

theorem impl_wrapped.vc_eq (x0 : Int) (x1 : Int) (x2 : Int) (w : World) (K : Value → World → Prop) : vcF Try.prog Try.f228 impl_wrapped.ann [(.int .i64 x0), (.int .i64 x1), (.int .i64 x2)] K w = impl_wrapped.vc x0 x1 x2 w K := by kernel_rfl

theorem impl_wrapped.start {x0 : Int} {x1 : Int} {x2 : Int} {w : World} {K : Value → World → Prop} (h : impl_wrapped.vc x0 x1 x2 w K) : Cll Try.prog 228 #[(.int .i64 x0), (.int .i64 x1), (.int .i64 x2)] w K :=
  vcF_sound mixed (fn := Try.f228) (by kernel_rfl) (by kernel_rfl) (an := impl_wrapped.ann) (args := [(.int .i64 x0), (.int .i64 x1), (.int .i64 x2)]) (by rw [impl_wrapped.vc_eq]; exact h)

theorem impl_wrapped.con {x0 : Int} {x1 : Int} {x2 : Int} {r : Int} {w : World} (hr : r = M.impl_wrapped x0 x1 x2)  :
    Cll Try.prog 228 #[(.int .i64 x0), (.int .i64 x1), (.int .i64 x2)] w (fun v_ w_ => v_ = (.int .i64 r) ∧ Ext w w_) := by
  have H := wp.impl_wrapped.math x0 x1 x2
  have hB := Ext.refl w
  refine impl_wrapped.start ?_
  unfold impl_wrapped.vc
  unfold wp.impl_wrapped at H
  obtain ⟨r21, hr22⟩ : ∃ r_, r_ = M.impl_IsWord x0 := ⟨_, rfl⟩
  have H := H r21 hr22
  refine (impl_IsWord.con hr22 ).mono ?_
  rintro _ w24 ⟨rfl, e25⟩
  have hB := ethen hB e25
  refine ⟨r21, rfl, ?_⟩
  refine bcase_mk (fun hc37 => ?_) (fun hc37 => ?_)
  · have H := (bcase_iff.1 H).1 hc37
    obtain rfl := hr.trans H.symm
    exact ⟨rfl, hB⟩
  · have H := (bcase_iff.1 H).2 hc37
    obtain ⟨r26, hr27⟩ : ∃ r_, r_ = M.impl_IsWord x1 := ⟨_, rfl⟩
    have H := H r26 hr27
    refine (impl_IsWord.con hr27 ).mono ?_
    rintro _ w29 ⟨rfl, e30⟩
    have hB := ethen hB e30
    refine ⟨r26, rfl, ?_⟩
    refine bcase_mk (fun hc36 => ?_) (fun hc36 => ?_)
    · have H := (bcase_iff.1 H).1 hc36
      obtain rfl := hr.trans H.symm
      exact ⟨rfl, hB⟩
    · have H := (bcase_iff.1 H).2 hc36
      obtain ⟨r31, hr32⟩ : ∃ r_, r_ = M.impl_WrapWord x2 := ⟨_, rfl⟩
      have H := H r31 hr32
      refine (impl_WrapWord.con hr32 ).mono ?_
      rintro _ w34 ⟨rfl, e35⟩
      have hB := ethen hB e35
      refine ⟨r31, rfl, ?_⟩
      obtain rfl := hr.trans H.symm
      exact ⟨rfl, hB⟩

def impl_AddWords.vc (x0 : Int) (x1 : Int) (w : World) (K : Value → World → Prop) : Prop :=
  Cll Try.prog 228 #[(.int .i64 x0), (.int .i64 x1), (.int .i64 (IntKind.wrap .i64 (x0 + x1)))] w fun v21 w22 => (∃ (n23 : Int), v21 = (.int .i64 n23) ∧ K (.int .i64 n23) w22)

def impl_AddWords.ann : Ann := (.seq .l (.seq .l .l))

theorem impl_AddWords.vc_eq (x0 : Int) (x1 : Int) (w : World) (K : Value → World → Prop) : vcF Try.prog Try.f217 impl_AddWords.ann [(.int .i64 x0), (.int .i64 x1)] K w = impl_AddWords.vc x0 x1 w K := by kernel_rfl

theorem impl_AddWords.start {x0 : Int} {x1 : Int} {w : World} {K : Value → World → Prop} (h : impl_AddWords.vc x0 x1 w K) : Cll Try.prog 217 #[(.int .i64 x0), (.int .i64 x1)] w K :=
  vcF_sound mixed (fn := Try.f217) (by kernel_rfl) (by kernel_rfl) (an := impl_AddWords.ann) (args := [(.int .i64 x0), (.int .i64 x1)]) (by rw [impl_AddWords.vc_eq]; exact h)

theorem impl_AddWords.con {x0 : Int} {x1 : Int} {r : Int} {w : World} (hr : r = M.impl_AddWords x0 x1)  :
    Cll Try.prog 217 #[(.int .i64 x0), (.int .i64 x1)] w (fun v_ w_ => v_ = (.int .i64 r) ∧ Ext w w_) := by
  have H := wp.impl_AddWords.math x0 x1
  have hB := Ext.refl w
  refine impl_AddWords.start ?_
  unfold impl_AddWords.vc
  unfold wp.impl_AddWords at H
  obtain ⟨r21, hr22⟩ : ∃ r_, r_ = M.impl_wrapped x0 x1 (IntKind.wrap .i64 (x0 + x1)) := ⟨_, rfl⟩
  have H := H r21 hr22
  refine (impl_wrapped.con hr22 ).mono ?_
  rintro _ w24 ⟨rfl, e25⟩
  have hB := ethen hB e25
  refine ⟨r21, rfl, ?_⟩
  obtain rfl := hr.trans H.symm
  exact ⟨rfl, hB⟩

def spec_IsMask.vc (x0 : Int) (w : World) (K : Value → World → Prop) : Prop :=
  Cll Try.prog 103 #[(.int .i64 x0), (.int .i64 0), (.int .i64 255)] w fun v21 w22 => (∃ (b23 : Bool), v21 = (.bool b23) ∧ K (.bool b23) w22)

def spec_IsMask.ann : Ann := (.seq .l (.seq .l .l))

theorem spec_IsMask.vc_eq (x0 : Int) (w : World) (K : Value → World → Prop) : vcF Try.prog Try.f156 spec_IsMask.ann [(.int .i64 x0)] K w = spec_IsMask.vc x0 w K := by kernel_rfl

theorem spec_IsMask.start {x0 : Int} {w : World} {K : Value → World → Prop} (h : spec_IsMask.vc x0 w K) : Cll Try.prog 156 #[(.int .i64 x0)] w K :=
  vcF_sound mixed (fn := Try.f156) (by kernel_rfl) (by kernel_rfl) (an := spec_IsMask.ann) (args := [(.int .i64 x0)]) (by rw [spec_IsMask.vc_eq]; exact h)

theorem spec_IsMask.con {x0 : Int} {r : Bool} {w : World} (hr : r = M.spec_IsMask x0)  :
    Cll Try.prog 156 #[(.int .i64 x0)] w (fun v_ w_ => v_ = (.bool r) ∧ Ext w w_) := by
  have H := wp.spec_IsMask.math x0
  have hB := Ext.refl w
  refine spec_IsMask.start ?_
  unfold spec_IsMask.vc
  unfold wp.spec_IsMask at H
  obtain ⟨r21, hr22⟩ : ∃ r_, r_ = M.spec_l01In x0 0 255 := ⟨_, rfl⟩
  have H := H r21 hr22
  refine (spec_l01In.con hr22 ).mono ?_
  rintro _ w24 ⟨rfl, e25⟩
  have hB := ethen hB e25
  refine ⟨r21, rfl, ?_⟩
  obtain rfl := hr.trans H.symm
  exact ⟨rfl, hB⟩

def spec_HasLane.vc (x0 : Int) (x1 : Int) (w : World) (K : Value → World → Prop) : Prop :=
  Cll Try.prog 156 #[(.int .i64 x0)] w fun v21 w22 => (∃ (b23 : Bool), v21 = (.bool b23) ∧ bcase b23 (Cll Try.prog 103 #[(.int .i64 x1), (.int .i64 0), (.int .i64 7)] w22 fun v24 w25 => (∃ (b26 : Bool), v24 = (.bool b26) ∧ bcase b26 (((0 : Int) ≤ x1 ∧ K (.bool ((bitAnd .i64 (Int.fdiv x0 (2 ^ (min (x1.toNat) (IntKind.bits .i64)))) 1) == 1)) w25)) (K (.bool false) w25))) (K (.bool false) w22))

def spec_HasLane.ann : Ann := (.seq .l (.seq .l .l))

theorem spec_HasLane.vc_eq (x0 : Int) (x1 : Int) (w : World) (K : Value → World → Prop) : vcF Try.prog Try.f210 spec_HasLane.ann [(.int .i64 x0), (.int .i64 x1)] K w = spec_HasLane.vc x0 x1 w K := by kernel_rfl

theorem spec_HasLane.start {x0 : Int} {x1 : Int} {w : World} {K : Value → World → Prop} (h : spec_HasLane.vc x0 x1 w K) : Cll Try.prog 210 #[(.int .i64 x0), (.int .i64 x1)] w K :=
  vcF_sound mixed (fn := Try.f210) (by kernel_rfl) (by kernel_rfl) (an := spec_HasLane.ann) (args := [(.int .i64 x0), (.int .i64 x1)]) (by rw [spec_HasLane.vc_eq]; exact h)

theorem spec_HasLane.con {x0 : Int} {x1 : Int} {r : Bool} {w : World} (hr : r = M.spec_HasLane x0 x1)  :
    Cll Try.prog 210 #[(.int .i64 x0), (.int .i64 x1)] w (fun v_ w_ => v_ = (.bool r) ∧ Ext w w_) := by
  have H := wp.spec_HasLane.math x0 x1
  have hB := Ext.refl w
  refine spec_HasLane.start ?_
  unfold spec_HasLane.vc
  unfold wp.spec_HasLane at H
  obtain ⟨r21, hr22⟩ : ∃ r_, r_ = M.spec_IsMask x0 := ⟨_, rfl⟩
  have H := H r21 hr22
  refine (spec_IsMask.con hr22 ).mono ?_
  rintro _ w24 ⟨rfl, e25⟩
  have hB := ethen hB e25
  refine ⟨r21, rfl, ?_⟩
  refine bcase_mk (fun hc33 => ?_) (fun hc33 => ?_)
  · have H := (bcase_iff.1 H).1 hc33
    obtain ⟨r26, hr27⟩ : ∃ r_, r_ = M.spec_l01In x1 0 7 := ⟨_, rfl⟩
    have H := H r26 hr27
    refine (spec_l01In.con hr27 ).mono ?_
    rintro _ w29 ⟨rfl, e30⟩
    have hB := ethen hB e30
    refine ⟨r26, rfl, ?_⟩
    refine bcase_mk (fun hc32 => ?_) (fun hc32 => ?_)
    · have H := (bcase_iff.1 H).1 hc32
      obtain ⟨hc31, H⟩ := H
      refine ⟨hc31, ?_⟩
      obtain rfl := hr.trans H.symm
      exact ⟨rfl, hB⟩
    · have H := (bcase_iff.1 H).2 hc32
      obtain rfl := hr.trans H.symm
      exact ⟨rfl, hB⟩
  · have H := (bcase_iff.1 H).2 hc33
    obtain rfl := hr.trans H.symm
    exact ⟨rfl, hB⟩

end Go.V
