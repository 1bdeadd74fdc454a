import Derived.Test.YtdjkglkcohknbaaGreatKPrMath2
import Derived.Test.YtdjkglkcohknbaaGreatSeat
import Derived.Test.YtdjkglkcohknbaaGreatVFoc
namespace Go.V
open Go.Proofs
set_option linter.unusedVariables false
set_option linter.unusedSimpArgs false
set_option maxRecDepth 100000
def impl_within.vc (x0 : Int) (x1 : Int) (x2 : Int) (w : World) (K : Value → World → Prop) : Prop :=
  bcase (decide (x0 ≥ x1)) (K (.bool (decide (x0 ≤ x2))) w) (K (.bool false) w)

def impl_within.ann : Ann := (.seq .l (.seq .l .l))

theorem impl_within.con {x0 : Int} {x1 : Int} {x2 : Int} {r : Bool} {w : World} (hr : r = M.impl_within x0 x1 x2)  :
    Cll Tryz.prog 58 #[(.int .i64 x0), (.int .i64 x1), (.int .i64 x2)] w (fun v_ w_ => v_ = (.bool r) ∧ Ext w w_) := by
  have H := wp.impl_within.math x0 x1 x2
  have hB := Ext.refl w
  refine beginF mixed (fn := Tryz.f58) (by kernel_rfl) (by kernel_rfl) (an := impl_within.ann) (V := impl_within.vc x0 x1 x2) (by kernel_rfl) ?_
  unfold impl_within.vc
  unfold wp.impl_within at H
  refine brc H (fun hc21 H => ?_) (fun hc21 H => ?_)
  ·obtain rfl := hr.trans H.symm
   exact ⟨rfl, hB⟩
  obtain rfl := hr.trans H.symm
  exact ⟨rfl, hB⟩
def impl_IsWord.vc (x0 : Int) (w : World) (K : Value → World → Prop) : Prop :=
  Cll Tryz.prog 58 #[(.int .i64 x0), (.int .i64 0), (.int .i64 65535)] w fun v21 w22 => (∃ (b23 : Bool), v21 = (.bool b23) ∧ K (.bool b23) w22)

def impl_IsWord.ann : Ann := (.seq .l (.seq .l .l))

theorem impl_IsWord.con {x0 : Int} {r : Bool} {w : World} (hr : r = M.impl_IsWord x0)  :
    Cll Tryz.prog 183 #[(.int .i64 x0)] w (fun v_ w_ => v_ = (.bool r) ∧ Ext w w_) := by
  have H := wp.impl_IsWord.math x0
  have hB := Ext.refl w
  refine beginF mixed (fn := Tryz.f183) (by kernel_rfl) (by kernel_rfl) (an := impl_IsWord.ann) (V := impl_IsWord.vc x0) (by kernel_rfl) ?_
  unfold impl_IsWord.vc
  unfold wp.impl_IsWord at H
  obtain ⟨r21, hr22, H⟩ := callO H
  refine (impl_within.con hr22 ).mono ?_
  rintro _ w24 ⟨rfl, e25⟩
  have hB := ethen hB e25
  refine ⟨r21, rfl, ?_⟩
  obtain rfl := hr.trans H.symm
  exact ⟨rfl, hB⟩
def impl_IsMask.vc (x0 : Int) (w : World) (K : Value → World → Prop) : Prop :=
  Cll Tryz.prog 58 #[(.int .i64 x0), (.int .i64 0), (.int .i64 255)] w fun v21 w22 => (∃ (b23 : Bool), v21 = (.bool b23) ∧ K (.bool b23) w22)

def impl_IsMask.ann : Ann := (.seq .l (.seq .l .l))

theorem impl_IsMask.con {x0 : Int} {r : Bool} {w : World} (hr : r = M.impl_IsMask x0)  :
    Cll Tryz.prog 121 #[(.int .i64 x0)] w (fun v_ w_ => v_ = (.bool r) ∧ Ext w w_) := by
  have H := wp.impl_IsMask.math x0
  have hB := Ext.refl w
  refine beginF mixed (fn := Tryz.f121) (by kernel_rfl) (by kernel_rfl) (an := impl_IsMask.ann) (V := impl_IsMask.vc x0) (by kernel_rfl) ?_
  unfold impl_IsMask.vc
  unfold wp.impl_IsMask at H
  obtain ⟨r21, hr22, H⟩ := callO H
  refine (impl_within.con hr22 ).mono ?_
  rintro _ w24 ⟨rfl, e25⟩
  have hB := ethen hB e25
  refine ⟨r21, rfl, ?_⟩
  obtain rfl := hr.trans H.symm
  exact ⟨rfl, hB⟩
def impl_isLane.vc (x0 : Int) (w : World) (K : Value → World → Prop) : Prop :=
  Cll Tryz.prog 58 #[(.int .i64 x0), (.int .i64 0), (.int .i64 7)] w fun v21 w22 => (∃ (b23 : Bool), v21 = (.bool b23) ∧ K (.bool b23) w22)

def impl_isLane.ann : Ann := (.seq .l (.seq .l .l))

theorem impl_isLane.con {x0 : Int} {r : Bool} {w : World} (hr : r = M.impl_isLane x0)  :
    Cll Tryz.prog 212 #[(.int .i64 x0)] w (fun v_ w_ => v_ = (.bool r) ∧ Ext w w_) := by
  have H := wp.impl_isLane.math x0
  have hB := Ext.refl w
  refine beginF mixed (fn := Tryz.f212) (by kernel_rfl) (by kernel_rfl) (an := impl_isLane.ann) (V := impl_isLane.vc x0) (by kernel_rfl) ?_
  unfold impl_isLane.vc
  unfold wp.impl_isLane at H
  obtain ⟨r21, hr22, H⟩ := callO H
  refine (impl_within.con hr22 ).mono ?_
  rintro _ w24 ⟨rfl, e25⟩
  have hB := ethen hB e25
  refine ⟨r21, rfl, ?_⟩
  obtain rfl := hr.trans H.symm
  exact ⟨rfl, hB⟩
def impl_HasLane.vc (x0 : Int) (x1 : Int) (w : World) (K : Value → World → Prop) : Prop :=
  Cll Tryz.prog 121 #[(.int .i64 x0)] w fun v21 w22 => (∃ (b23 : Bool), v21 = (.bool b23) ∧ bcase b23 (Cll Tryz.prog 212 #[(.int .i64 x1)] w22 fun v24 w25 => (∃ (b26 : Bool), v24 = (.bool b26) ∧ bcase b26 (((0 : Int) ≤ x1 ∧ K (.bool ((bitAnd .i64 (Int.fdiv x0 (2 ^ (min (x1.toNat) (IntKind.bits .i64)))) 1) == 1)) w25)) (K (.bool false) w25))) (K (.bool false) w22))

def impl_HasLane.ann : Ann := (.seq .l (.seq .l .l))

theorem impl_HasLane.con {x0 : Int} {x1 : Int} {r : Bool} {w : World} (hr : r = M.impl_HasLane x0 x1)  :
    Cll Tryz.prog 188 #[(.int .i64 x0), (.int .i64 x1)] w (fun v_ w_ => v_ = (.bool r) ∧ Ext w w_) := by
  have H := wp.impl_HasLane.math x0 x1
  have hB := Ext.refl w
  refine beginF mixed (fn := Tryz.f188) (by kernel_rfl) (by kernel_rfl) (an := impl_HasLane.ann) (V := impl_HasLane.vc x0 x1) (by kernel_rfl) ?_
  unfold impl_HasLane.vc
  unfold wp.impl_HasLane at H
  obtain ⟨r21, hr22, H⟩ := callO H
  refine (impl_IsMask.con hr22 ).mono ?_
  rintro _ w24 ⟨rfl, e25⟩
  have hB := ethen hB e25
  refine ⟨r21, rfl, ?_⟩
  refine brc H (fun hc33 H => ?_) (fun hc33 H => ?_)
  ·obtain ⟨r26, hr27, H⟩ := callO H
   refine (impl_isLane.con hr27 ).mono ?_
   rintro _ w29 ⟨rfl, e30⟩
   have hB := ethen hB e30
   refine ⟨r26, rfl, ?_⟩
   refine brc H (fun hc32 H => ?_) (fun hc32 H => ?_)
   ·obtain ⟨hc31, H⟩ := H
    refine ⟨hc31, ?_⟩
    obtain rfl := hr.trans H.symm
    exact ⟨rfl, hB⟩
   obtain rfl := hr.trans H.symm
   exact ⟨rfl, hB⟩
  obtain rfl := hr.trans H.symm
  exact ⟨rfl, hB⟩
def impl_LanesOf.vc (x0 : Int) (w : World) (K : Value → World → Prop) : Prop :=
  Run Tryz.prog (Instr.buildSlice 27 0 #[]) w fun v21 w22 => ∃ (A23 : Option Addr) (n24 c25 : Nat), v21 = .slice A23 n24 c25 ∧ LoopT (σ := (Option Addr × Nat × Nat) × Int × Unit) (fun z26 w27 next28 => bcase (decide (z26.2.1 < 8)) (Cll Tryz.prog 188 #[(.int .i64 x0), (.int .i64 z26.2.1)] w27 fun v29 w30 => (∃ (b31 : Bool), v29 = (.bool b31) ∧ bcase b31 (Run Tryz.prog (Instr.buildSlice 27 1 #[(0, (.int .i64 z26.2.1))]) w30 fun v32 w33 => ∃ (A34 : Option Addr) (n35 c36 : Nat), v32 = .slice A34 n35 c36 ∧ Run Tryz.prog (Builtin.append_ #[27, 27] 27 #[(.slice z26.1.1 z26.1.2.1 z26.1.2.2), (.slice A34 n35 c36)]) w33 fun v37 w38 => ∃ (A39 : Option Addr) (n40 c41 : Nat), v37 = .slice A39 n40 c41 ∧ next28 ((A39, n40, c41), (IntKind.wrap .i64 (z26.2.1 + 1)), ()) w38) (next28 ((z26.1.1, z26.1.2.1, z26.1.2.2), (IntKind.wrap .i64 (z26.2.1 + 1)), ()) w30))) (K (.slice z26.1.1 z26.1.2.1 z26.1.2.2) w27)) ((A23, n24, c25), 0, ()) w22

def impl_LanesOf.ann : Ann := (.seq .l (.seq .l (.seq (.seq .l (.one (.loop [(3, .sl), (6, .int .i64)] (.seq .l (.seq (.two .l .l) (.seq (.one (.seq .l (.seq .l (.two .l .l)))) .l)))))) (.seq .l .l))))

theorem impl_LanesOf.con {x0 : Int} {r : List Int} {w : World} (hr : r = M.impl_LanesOf x0)  :
    Cll Tryz.prog 154 #[(.int .i64 x0)] w (fun v_ w_ => ∃ (A0_ : Option Addr) (c0_ : Nat), v_ = (.slice A0_ r.length c0_) ∧ Own el3 w_ w.heap.size A0_ c0_ r ∧ Ext w w_) := by
  have H := wp.impl_LanesOf.math x0
  have hB := Ext.refl w
  refine beginF mixed (fn := Tryz.f154) (by kernel_rfl) (by kernel_rfl) (an := impl_LanesOf.ann) (V := impl_LanesOf.vc x0) (by kernel_rfl) ?_
  unfold impl_LanesOf.vc
  unfold wp.impl_LanesOf at H
  refine buildOwn el3 ([] : List Int) (fun _ => by kernel_rfl) rfl (fun A21 w22 P1 e23 => ?_)
  have O1 := P1.mono hB.size
  have hB := ethen hB e23
  obtain ⟨J29, ⟨m56, hJ55⟩, hS30⟩ := H
  refine ⟨fun m_ z_ w_ => ∃ (xs24 : List Int) (i27 : Int) (A25 : Option Addr) (c26 : Nat), z_ = ((A25, xs24.length, c26), i27, ()) ∧ J29 m_ (xs24, i27, ()) ∧ Ext w w_ ∧ Own el3 w_ w.heap.size A25 c26 xs24, ⟨m56, ([] : List Int), 0, A21, 0, rfl, hJ55, hB, O1⟩, ?_⟩
  rintro m28 _ w32 ⟨xs24, i27, A25, c26, rfl, hJ57, hB, O2⟩
  have H := hS30 m28 _ hJ57
  clear hS30 hJ57
  try dsimp only at H ⊢
  refine brc H (fun hc53 H => ?_) (fun hc53 H => ?_)
  ·obtain ⟨r33, hr34, H⟩ := callO H
   refine (impl_HasLane.con hr34 ).mono ?_
   rintro _ w36 ⟨rfl, e37⟩
   have O2 := O2.ext e37
   have hB := ethen hB e37
   refine ⟨r33, rfl, ?_⟩
   refine brc H (fun hc52 H => ?_) (fun hc52 H => ?_)
   ·refine buildOwn el3 ([i27] : List Int) (fun _ => by kernel_rfl) rfl (fun A38 w39 P3 e40 => ?_)
    have N2_3 := Own.apart2_new O2 P3 (Nat.le_refl _)
    have O2 := O2.ext e40
    have O3 := P3.mono hB.size
    have hB := ethen hB e40
    obtain ⟨hl45, H⟩ := H
    refine appOwn slt27 slt27.under O2 O3.row hB.size rfl (by first | rfl | omega | (simp; done) | (simp; omega)) hl45 (fun A41 c42 w43 P2 e44 => ?_)
    have N3_2_ := Apart2.app (N2_3).symm e44 O3
    have O3 := O3.app e44 (N2_3).symm
    have N3_2 := N3_2_
    have hB := eapp hB e44 O2
    have O2 := P2
    obtain ⟨m46, hm47, hJ48⟩ := H
    exact ⟨m46, hm47, (xs24 ++ ([i27] : List Int)), (IntKind.wrap .i64 (i27 + 1)), A41, c42, rfl, hJ48, hB, O2⟩
   obtain ⟨m49, hm50, hJ51⟩ := H
   exact ⟨m49, hm50, xs24, (IntKind.wrap .i64 (i27 + 1)), A25, c26, rfl, hJ51, hB, O2⟩
  obtain rfl := hr.trans H.symm
  exact ⟨A25, c26, rfl, O2, hB⟩
def slices_IndexFunc_int_int.vc (A0 : Option Addr) (n0 : Nat) (c0 : Nat) (f1 : Nat) (cap1 : Array Value) (w : World) (K : Value → World → Prop) : Prop :=
  LoopT (σ := Int × Unit) (fun z21 w22 next23 => bcase (decide (z21.1 < ((n0 : Nat) : Int))) (((0 : Int) ≤ z21.1 ∧ z21.1 < ((n0 : Nat) : Int) ∧ ∃ a24 : Addr, A0 = some a24 ∧ ∃ (n25 : Int), w22.cell? ((a24.add ((z21.1.toNat) * 1)).add 0) = some (.int .i64 n25) ∧ Cll Tryz.prog f1 (#[(.int .i64 n25)] ++ cap1) w22 fun v26 w27 => (∃ (b28 : Bool), v26 = (.bool b28) ∧ bcase b28 (K (.int .i64 z21.1) w27) (next23 ((IntKind.wrap .i64 (z21.1 + 1)), ()) w27)))) (K (.int .i64 (-1)) w22)) (0, ()) w

def slices_IndexFunc_int_int.ann : Ann := (.seq .l (.seq (.seq .l (.one (.loop [(8, .int .i64)] (.seq .l (.seq (.two .l .l) (.seq (.one (.seq .l (.seq .l (.two (.seq .l .l) .l)))) .l)))))) (.seq .l .l)))

theorem slices_IndexFunc_int_int.start {A0 : Option Addr} {n0 : Nat} {c0 : Nat} {f1 : Nat} {cap1 : Array Value} {w : World} {K : Value → World → Prop} (h : slices_IndexFunc_int_int.vc A0 n0 c0 f1 cap1 w K) : Cll Tryz.prog 148 #[(.slice A0 n0 c0), (.func (.func f1) #[] cap1)] w K :=
  vcF_sound mixed (fn := Tryz.f148) (by kernel_rfl) (by kernel_rfl) (an := slices_IndexFunc_int_int.ann) (args := [(.slice A0 n0 c0), (.func (.func f1) #[] cap1)]) (Eq.mpr (by kernel_rfl) h)

theorem slices_IndexFunc_int_int.con {xs0 : List Int} {A0 : Option Addr} {c0 : Nat} {f1 : Nat} {cap1 : Array Value} {g1 : Int → Bool} {D1 : Int → Prop} {r : Int} {w : World} (hp : M.slices_IndexFunc_int_int_pre xs0 g1 D1) (hr : r = M.slices_IndexFunc_int_int xs0 g1) (R0 : Row el3 w A0 xs0) (hc0 : xs0.length ≤ c0) (F1 : ∀ (z0_ : Int), D1 z0_ → ∀ w_ : World, Ext w w_ → Cll Tryz.prog f1 (#[(.int .i64 z0_)] ++ cap1) w_ (fun v_ w1_ => v_ = (.bool (g1 z0_)) ∧ Ext w_ w1_)) :
    Cll Tryz.prog 148 #[(.slice A0 xs0.length c0), (.func (.func f1) #[] cap1)] w (fun v_ w_ => v_ = (.int .i64 r) ∧ Ext w w_) := by
  have H := wp.slices_IndexFunc_int_int.math xs0 g1 D1 hp
  have hB := Ext.refl w
  refine slices_IndexFunc_int_int.start ?_
  unfold slices_IndexFunc_int_int.vc
  unfold wp.slices_IndexFunc_int_int at H
  obtain ⟨J23, ⟨m44, hJ43⟩, hS24⟩ := H
  refine ⟨fun m_ z_ w_ => ∃ (i21 : Int), z_ = (i21, ()) ∧ J23 m_ (i21, ()) ∧ Ext w w_, ⟨m44, 0, rfl, hJ43, hB⟩, ?_⟩
  rintro m22 _ w26 ⟨i21, rfl, hJ45, hB⟩
  have H := hS24 m22 _ hJ45
  clear hS24 hJ45
  try dsimp only at H ⊢
  refine brc H (fun hc41 H => ?_) (fun hc41 H => ?_)
  ·obtain ⟨⟨h0_30, h1_31⟩, H⟩ := H
   obtain ⟨a28, ha29, hat27⟩ := Row.at (R0.ext hB) h0_30 h1_31
   refine ⟨h0_30, h1_31, a28, ha29, _, (hat27 0 _ rfl), ?_⟩
   obtain ⟨hd34, H⟩ := H
   obtain ⟨r32, hr33, H⟩ := callO H
   refine (F1 (rd xs0 i21) hd34 _ hB).mono ?_
   rintro _ w35 ⟨rfl, e36⟩
   rw [← hr33]
   have hB := ethen hB e36
   refine ⟨r32, rfl, ?_⟩
   refine brc H (fun hc40 H => ?_) (fun hc40 H => ?_)
   ·obtain rfl := hr.trans H.symm
    exact ⟨rfl, hB⟩
   obtain ⟨m37, hm38, hJ39⟩ := H
   exact ⟨m37, hm38, (IntKind.wrap .i64 (i21 + 1)), rfl, hJ39, hB⟩
  obtain rfl := hr.trans H.symm
  exact ⟨rfl, hB⟩
def slices_ContainsFunc_int_int.vc (A0 : Option Addr) (n0 : Nat) (c0 : Nat) (f1 : Nat) (cap1 : Array Value) (w : World) (K : Value → World → Prop) : Prop :=
  Cll Tryz.prog 148 #[(.slice A0 n0 c0), (.func (.func f1) #[] cap1)] w fun v21 w22 => (∃ (n23 : Int), v21 = (.int .i64 n23) ∧ K (.bool (decide (n23 ≥ 0))) w22)

def slices_ContainsFunc_int_int.ann : Ann := (.seq .l (.seq .l .l))

theorem slices_ContainsFunc_int_int.start {A0 : Option Addr} {n0 : Nat} {c0 : Nat} {f1 : Nat} {cap1 : Array Value} {w : World} {K : Value → World → Prop} (h : slices_ContainsFunc_int_int.vc A0 n0 c0 f1 cap1 w K) : Cll Tryz.prog 104 #[(.slice A0 n0 c0), (.func (.func f1) #[] cap1)] w K :=
  vcF_sound mixed (fn := Tryz.f104) (by kernel_rfl) (by kernel_rfl) (an := slices_ContainsFunc_int_int.ann) (args := [(.slice A0 n0 c0), (.func (.func f1) #[] cap1)]) (Eq.mpr (by kernel_rfl) h)

theorem slices_ContainsFunc_int_int.con {xs0 : List Int} {A0 : Option Addr} {c0 : Nat} {f1 : Nat} {cap1 : Array Value} {g1 : Int → Bool} {D1 : Int → Prop} {r : Bool} {w : World} (hp : M.slices_ContainsFunc_int_int_pre xs0 g1 D1) (hr : r = M.slices_ContainsFunc_int_int xs0 g1) (R0 : Row el3 w A0 xs0) (hc0 : xs0.length ≤ c0) (F1 : ∀ (z0_ : Int), D1 z0_ → ∀ w_ : World, Ext w w_ → Cll Tryz.prog f1 (#[(.int .i64 z0_)] ++ cap1) w_ (fun v_ w1_ => v_ = (.bool (g1 z0_)) ∧ Ext w_ w1_)) :
    Cll Tryz.prog 104 #[(.slice A0 xs0.length c0), (.func (.func f1) #[] cap1)] w (fun v_ w_ => v_ = (.bool r) ∧ Ext w w_) := by
  have H := wp.slices_ContainsFunc_int_int.math xs0 g1 D1 hp
  have hB := Ext.refl w
  refine slices_ContainsFunc_int_int.start ?_
  unfold slices_ContainsFunc_int_int.vc
  unfold wp.slices_ContainsFunc_int_int at H
  obtain ⟨hp23, H⟩ := H
  obtain ⟨r21, hr22, H⟩ := callO H
  refine (slices_IndexFunc_int_int.con hp23 hr22 (R0.ext hB) hc0 (fun z0_  h_ w_ e_ => F1 z0_  h_ w_ (ethen hB e_))).mono ?_
  rintro _ w24 ⟨rfl, e25⟩
  have hB := ethen hB e25
  refine ⟨r21, rfl, ?_⟩
  obtain rfl := hr.trans H.symm
  exact ⟨rfl, hB⟩
def impl_AreWords_1.vc (x0 : Int) (w : World) (K : Value → World → Prop) : Prop :=
  Cll Tryz.prog 183 #[(.int .i64 x0)] w fun v21 w22 => (∃ (b23 : Bool), v21 = (.bool b23) ∧ K (.bool (!b23)) w22)

def impl_AreWords_1.ann : Ann := (.seq .l (.seq .l .l))

theorem impl_AreWords_1.con {x0 : Int} {r : Bool} {w : World} (hr : r = M.impl_AreWords_1 x0)  :
    Cll Tryz.prog 182 #[(.int .i64 x0)] w (fun v_ w_ => v_ = (.bool r) ∧ Ext w w_) := by
  have H := wp.impl_AreWords_1.math x0
  have hB := Ext.refl w
  refine beginF mixed (fn := Tryz.f182) (by kernel_rfl) (by kernel_rfl) (an := impl_AreWords_1.ann) (V := impl_AreWords_1.vc x0) (by kernel_rfl) ?_
  unfold impl_AreWords_1.vc
  unfold wp.impl_AreWords_1 at H
  obtain ⟨r21, hr22, H⟩ := callO H
  refine (impl_IsWord.con hr22 ).mono ?_
  rintro _ w24 ⟨rfl, e25⟩
  have hB := ethen hB e25
  refine ⟨r21, rfl, ?_⟩
  obtain rfl := hr.trans H.symm
  exact ⟨rfl, hB⟩
def impl_AreWords.vc (A0 : Option Addr) (n0 : Nat) (c0 : Nat) (w : World) (K : Value → World → Prop) : Prop :=
  Cll Tryz.prog 104 #[(.slice A0 n0 c0), (.func (.func 182) #[] #[])] w fun v21 w22 => (∃ (b23 : Bool), v21 = (.bool b23) ∧ K (.bool (!b23)) w22)

def impl_AreWords.ann : Ann := (.seq .l (.seq .l .l))

theorem impl_AreWords.con {xs0 : List Int} {A0 : Option Addr} {c0 : Nat} {r : Bool} {w : World} (hp : M.impl_AreWords_pre xs0) (hr : r = M.impl_AreWords xs0) (R0 : Row el3 w A0 xs0) (hc0 : xs0.length ≤ c0) :
    Cll Tryz.prog 142 #[(.slice A0 xs0.length c0)] w (fun v_ w_ => v_ = (.bool r) ∧ Ext w w_) := by
  have H := wp.impl_AreWords.math xs0 hp
  have hB := Ext.refl w
  refine beginF mixed (fn := Tryz.f142) (by kernel_rfl) (by kernel_rfl) (an := impl_AreWords.ann) (V := impl_AreWords.vc A0 xs0.length c0) (by kernel_rfl) ?_
  unfold impl_AreWords.vc
  unfold wp.impl_AreWords at H
  obtain ⟨hp23, H⟩ := H
  obtain ⟨r21, hr22, H⟩ := callO H
  refine (slices_ContainsFunc_int_int.con hp23 hr22 (R0.ext hB) hc0 (fun z0_ h_ w_ e_ => cllApp (l1 := [_]) (l2 := []) (impl_AreWords_1.con rfl))).mono ?_
  rintro _ w24 ⟨rfl, e25⟩
  have hB := ethen hB e25
  refine ⟨r21, rfl, ?_⟩
  obtain rfl := hr.trans H.symm
  exact ⟨rfl, hB⟩
def impl_WrapWord.vc (x0 : Int) (w : World) (K : Value → World → Prop) : Prop :=
  K (.int .i64 (bitAnd .i64 x0 65535)) w

def impl_WrapWord.ann : Ann := (.seq .l (.seq .l .l))

theorem impl_WrapWord.con {x0 : Int} {r : Int} {w : World} (hr : r = M.impl_WrapWord x0)  :
    Cll Tryz.prog 234 #[(.int .i64 x0)] w (fun v_ w_ => v_ = (.int .i64 r) ∧ Ext w w_) := by
  have H := wp.impl_WrapWord.math x0
  have hB := Ext.refl w
  refine beginF mixed (fn := Tryz.f234) (by kernel_rfl) (by kernel_rfl) (an := impl_WrapWord.ann) (V := impl_WrapWord.vc x0) (by kernel_rfl) ?_
  unfold impl_WrapWord.vc
  unfold wp.impl_WrapWord at H
  obtain rfl := hr.trans H.symm
  exact ⟨rfl, hB⟩
def impl_wrapped.vc (x0 : Int) (x1 : Int) (x2 : Int) (w : World) (K : Value → World → Prop) : Prop :=
  Cll Tryz.prog 183 #[(.int .i64 x0)] w fun v21 w22 => (∃ (b23 : Bool), v21 = (.bool b23) ∧ bcase (!b23) (K (.int .i64 0) w22) (Cll Tryz.prog 183 #[(.int .i64 x1)] w22 fun v24 w25 => (∃ (b26 : Bool), v24 = (.bool b26) ∧ bcase (!b26) (K (.int .i64 0) w25) (Cll Tryz.prog 234 #[(.int .i64 x2)] w25 fun v27 w28 => (∃ (n29 : Int), v27 = (.int .i64 n29) ∧ K (.int .i64 n29) w28)))))

def impl_wrapped.ann : Ann := (.seq .l (.seq (.seq .l (.two (.seq .l .l) .l)) (.seq .l .l)))

theorem impl_wrapped.con {x0 : Int} {x1 : Int} {x2 : Int} {r : Int} {w : World} (hr : r = M.impl_wrapped x0 x1 x2)  :
    Cll Tryz.prog 206 #[(.int .i64 x0), (.int .i64 x1), (.int .i64 x2)] w (fun v_ w_ => v_ = (.int .i64 r) ∧ Ext w w_) := by
  have H := wp.impl_wrapped.math x0 x1 x2
  have hB := Ext.refl w
  refine beginF mixed (fn := Tryz.f206) (by kernel_rfl) (by kernel_rfl) (an := impl_wrapped.ann) (V := impl_wrapped.vc x0 x1 x2) (by kernel_rfl) ?_
  unfold impl_wrapped.vc
  unfold wp.impl_wrapped at H
  obtain ⟨r21, hr22, H⟩ := callO H
  refine (impl_IsWord.con hr22 ).mono ?_
  rintro _ w24 ⟨rfl, e25⟩
  have hB := ethen hB e25
  refine ⟨r21, rfl, ?_⟩
  refine brc H (fun hc37 H => ?_) (fun hc37 H => ?_)
  ·obtain rfl := hr.trans H.symm
   exact ⟨rfl, hB⟩
  obtain ⟨r26, hr27, H⟩ := callO H
  refine (impl_IsWord.con hr27 ).mono ?_
  rintro _ w29 ⟨rfl, e30⟩
  have hB := ethen hB e30
  refine ⟨r26, rfl, ?_⟩
  refine brc H (fun hc36 H => ?_) (fun hc36 H => ?_)
  ·obtain rfl := hr.trans H.symm
   exact ⟨rfl, hB⟩
  obtain ⟨r31, hr32, H⟩ := callO H
  refine (impl_WrapWord.con hr32 ).mono ?_
  rintro _ w34 ⟨rfl, e35⟩
  have hB := ethen hB e35
  refine ⟨r31, rfl, ?_⟩
  obtain rfl := hr.trans H.symm
  exact ⟨rfl, hB⟩
def impl_AddWords.vc (x0 : Int) (x1 : Int) (w : World) (K : Value → World → Prop) : Prop :=
  Cll Tryz.prog 206 #[(.int .i64 x0), (.int .i64 x1), (.int .i64 (IntKind.wrap .i64 (x0 + x1)))] w fun v21 w22 => (∃ (n23 : Int), v21 = (.int .i64 n23) ∧ K (.int .i64 n23) w22)

def impl_AddWords.ann : Ann := (.seq .l (.seq .l .l))

theorem impl_AddWords.con {x0 : Int} {x1 : Int} {r : Int} {w : World} (hr : r = M.impl_AddWords x0 x1)  :
    Cll Tryz.prog 181 #[(.int .i64 x0), (.int .i64 x1)] w (fun v_ w_ => v_ = (.int .i64 r) ∧ Ext w w_) := by
  have H := wp.impl_AddWords.math x0 x1
  have hB := Ext.refl w
  refine beginF mixed (fn := Tryz.f181) (by kernel_rfl) (by kernel_rfl) (an := impl_AddWords.ann) (V := impl_AddWords.vc x0 x1) (by kernel_rfl) ?_
  unfold impl_AddWords.vc
  unfold wp.impl_AddWords at H
  obtain ⟨r21, hr22, H⟩ := callO H
  refine (impl_wrapped.con hr22 ).mono ?_
  rintro _ w24 ⟨rfl, e25⟩
  have hB := ethen hB e25
  refine ⟨r21, rfl, ?_⟩
  obtain rfl := hr.trans H.symm
  exact ⟨rfl, hB⟩
def impl_isThread.vc (x0 : Int) (w : World) (K : Value → World → Prop) : Prop :=
  Cll Tryz.prog 58 #[(.int .i64 x0), (.int .i64 0), (.int .i64 23)] w fun v21 w22 => (∃ (b23 : Bool), v21 = (.bool b23) ∧ K (.bool b23) w22)

def impl_isThread.ann : Ann := (.seq .l (.seq .l .l))

theorem impl_isThread.con {x0 : Int} {r : Bool} {w : World} (hr : r = M.impl_isThread x0)  :
    Cll Tryz.prog 59 #[(.int .i64 x0)] w (fun v_ w_ => v_ = (.bool r) ∧ Ext w w_) := by
  have H := wp.impl_isThread.math x0
  have hB := Ext.refl w
  refine beginF mixed (fn := Tryz.f59) (by kernel_rfl) (by kernel_rfl) (an := impl_isThread.ann) (V := impl_isThread.vc x0) (by kernel_rfl) ?_
  unfold impl_isThread.vc
  unfold wp.impl_isThread at H
  obtain ⟨r21, hr22, H⟩ := callO H
  refine (impl_within.con hr22 ).mono ?_
  rintro _ w24 ⟨rfl, e25⟩
  have hB := ethen hB e25
  refine ⟨r21, rfl, ?_⟩
  obtain rfl := hr.trans H.symm
  exact ⟨rfl, hB⟩
def impl_LaneNew.vc (x0 : Int) (w : World) (K : Value → World → Prop) : Prop :=
  newK w (.cells #[(.int .i64 0), (.int .i64 0), (.slice none 0 0)] 79) fun g21 w22 => Cll Tryz.prog 59 #[(.int .i64 x0)] w22 fun v23 w24 => (∃ (b25 : Bool), v23 = (.bool b25) ∧ bcase (!b25) (stCells (⟨g21, 0, none⟩ : Addr) [(.int .i64 0), (.int .i64 0), (.slice none 0 0)] 0 w24 fun w26 => ∃ (n27 : Int), w26.cell? ((⟨g21, 0, none⟩ : Addr).add 0) = some (.int .i64 n27) ∧ ∃ (n28 : Int), w26.cell? ((⟨g21, 0, none⟩ : Addr).add 1) = some (.int .i64 n28) ∧ ∃ (A29 : Option Addr) (n30 : Nat) (c31 : Nat), w26.cell? ((⟨g21, 0, none⟩ : Addr).add 2) = some (.slice A29 n30 c31) ∧ K (.agg #[(.int .i64 n27), (.int .i64 n28), (.slice A29 n30 c31)]) w26) (vcMake Tryz.prog 27 4 4 w24 fun g32 w33 => stCells (⟨g21, 0, none⟩ : Addr) [(.int .i64 x0), (.int .i64 0), (.slice (some (⟨g32, 0, none⟩ : Addr)) ((4 : Int).toNat) ((4 : Int).toNat))] 0 w33 fun w34 => ∃ (n35 : Int), w34.cell? ((⟨g21, 0, none⟩ : Addr).add 0) = some (.int .i64 n35) ∧ ∃ (n36 : Int), w34.cell? ((⟨g21, 0, none⟩ : Addr).add 1) = some (.int .i64 n36) ∧ ∃ (A37 : Option Addr) (n38 : Nat) (c39 : Nat), w34.cell? ((⟨g21, 0, none⟩ : Addr).add 2) = some (.slice A37 n38 c39) ∧ K (.agg #[(.int .i64 n35), (.int .i64 n36), (.slice A37 n38 c39)]) w34))

def impl_LaneNew.ann : Ann := (.seq .l (.seq (.seq .l (.two (.seq .l .l) .l)) (.seq .l .l)))

theorem impl_LaneNew.con {x0 : Int} {r : D.Lane} {w : World} (hr : r = M.impl_LaneNew x0)  :
    Cll Tryz.prog 164 #[(.int .i64 x0)] w (fun v_ w_ => ∃ (A0_ : Option Addr) (c0_ : Nat), v_ = (.agg #[(.int .i64 r.Thread), (.int .i64 r.Pc), (.slice A0_ r.Regs.length c0_)]) ∧ Own el3 w_ w.heap.size A0_ c0_ r.Regs ∧ Ext w w_) := by
  have H := wp.impl_LaneNew.math x0
  have hB := Ext.refl w
  refine beginF mixed (fn := Tryz.f164) (by kernel_rfl) (by kernel_rfl) (an := impl_LaneNew.ann) (V := impl_LaneNew.vc x0) (by kernel_rfl) ?_
  unfold impl_LaneNew.vc
  unfold wp.impl_LaneNew at H
  refine newBlk (fun g1_ w21 L1 P1 e22 => ?_)
  have O1 := P1
  have L1 := Nat.le_trans hB.size L1
  have hB := ethen hB e22
  obtain ⟨r23, hr24, H⟩ := callO H
  refine (impl_isThread.con hr24 ).mono ?_
  rintro _ w26 ⟨rfl, e27⟩
  have O1 := O1.ext e27
  have hB := ethen hB e27
  refine ⟨r23, rfl, ?_⟩
  refine brc H (fun hc37 H => ?_) (fun hc37 H => ?_)
  ·refine stBlk O1 (o := 0) (cs' := #[(.int .i64 0), (.int .i64 0), (.slice none 0 0)]) rfl rfl (Nat.le_of_ble_eq_true rfl) rfl (fun w28 P1 e29 => ?_)
   have hB := echg hB e29 L1
   have O1 := P1
   refine ⟨_, (O1.at 0 rfl rfl), _, (O1.at 1 rfl rfl), _, _, _, (O1.at 2 rfl rfl), ?_⟩
   obtain rfl := hr.trans H.symm
   exact ⟨none, 0, rfl, Own.nil, hB⟩
  obtain ⟨⟨h0_33, h1_34⟩, H⟩ := H
  refine makeOwn slt27 h0_33 h1_34 (fun g30 w31 P2 e32 => ?_)
  have N2_1 := P2.apart_old O1.lt
  have O1 := O1.ext e32
  have O2 := P2.mono hB.size
  have hB := ethen hB e32
  refine stBlk O1 (o := 0) (cs' := #[(.int .i64 x0), (.int .i64 0), (.slice (some (⟨g30, 0, none⟩ : Addr)) ((4 : Int).toNat) ((4 : Int).toNat))]) rfl rfl (Nat.le_of_ble_eq_true rfl) rfl (fun w35 P1 e36 => ?_)
  have O2_ := O2.chg e36 N2_1
  have O2 := O2_
  have hB := echg hB e36 L1
  have O1 := P1
  refine ⟨_, (O1.at 0 rfl rfl), _, (O1.at 1 rfl rfl), _, _, _, (O1.at 2 rfl rfl), ?_⟩
  obtain rfl := hr.trans H.symm
  exact ⟨(some (⟨g30, 0, none⟩ : Addr)), ((4 : Int).toNat), (by first | rfl | (simp; done) | (simp; omega) | (simp [*]; done)), (by first | exact O2 | (simp only [List.length_set]; exact O2)), hB⟩
def slices_Clone_int_int.vc (A0 : Option Addr) (n0 : Nat) (c0 : Nat) (w : World) (K : Value → World → Prop) : Prop :=
  bcase (Option.isNone A0) (K (.slice none 0 0) w) (Run Tryz.prog (Instr.buildSlice 27 0 #[]) w fun v21 w22 => ∃ (A23 : Option Addr) (n24 c25 : Nat), v21 = .slice A23 n24 c25 ∧ Run Tryz.prog (Builtin.append_ #[27, 27] 27 #[(.slice A23 n24 c25), (.slice A0 n0 c0)]) w22 fun v26 w27 => ∃ (A28 : Option Addr) (n29 c30 : Nat), v26 = .slice A28 n29 c30 ∧ K (.slice A28 n29 c30) w27)

def slices_Clone_int_int.ann : Ann := (.seq .l (.seq (.seq .l (.two (.seq .l .l) .l)) (.seq .l .l)))

theorem slices_Clone_int_int.con {xs0 : List Int} {A0 : Option Addr} {c0 : Nat} {r : List Int} {w : World} (hp : M.slices_Clone_int_int_pre xs0) (hr : r = M.slices_Clone_int_int xs0) (R0 : Row el3 w A0 xs0) (hc0 : xs0.length ≤ c0) :
    Cll Tryz.prog 139 #[(.slice A0 xs0.length c0)] w (fun v_ w_ => ∃ (A0_ : Option Addr) (c0_ : Nat), v_ = (.slice A0_ r.length c0_) ∧ Own el3 w_ w.heap.size A0_ c0_ r ∧ Ext w w_) := by
  have H := wp.slices_Clone_int_int.math xs0 hp
  have hB := Ext.refl w
  refine beginF mixed (fn := Tryz.f139) (by kernel_rfl) (by kernel_rfl) (an := slices_Clone_int_int.ann) (V := slices_Clone_int_int.vc A0 xs0.length c0) (by kernel_rfl) ?_
  unfold slices_Clone_int_int.vc
  unfold wp.slices_Clone_int_int at H
  obtain ⟨b21, hb22⟩ : ∃ b_, b_ = Option.isNone A0 := ⟨_, rfl⟩
  have H := H b21 (fun h_ => Row.isNone (R0.ext hB) (hb22.symm.trans h_))
  rw [← hb22]
  refine brc H (fun hc31 H => ?_) (fun hc31 H => ?_)
  ·obtain rfl := hr.trans H.symm
   exact ⟨none, 0, rfl, Own.nil, hB⟩
  refine buildOwn el3 ([] : List Int) (fun _ => by kernel_rfl) rfl (fun A23 w24 P2 e25 => ?_)
  have O2 := P2.mono hB.size
  have hB := ethen hB e25
  obtain ⟨hl30, H⟩ := H
  refine appOwn slt27 slt27.under O2 (R0.ext hB) hB.size (by first | rfl | omega | (simp; done) | (simp; omega)) rfl hl30 (fun A26 c27 w28 P2 e29 => ?_)
  have hB := eapp hB e29 O2
  have O2 := P2
  obtain rfl := hr.trans H.symm
  exact ⟨A26, c27, rfl, O2, hB⟩
def impl_copyLane.vc (x0_0 : Int) (x0_1 : Int) (A0_2 : Option Addr) (n0_2 : Nat) (c0_2 : Nat) (w : World) (K : Value → World → Prop) : Prop :=
  newK w (.cells #[(.int .i64 x0_0), (.int .i64 x0_1), (.slice A0_2 n0_2 c0_2)] 79) fun g21 w22 => newK w22 (.cells #[(.int .i64 0), (.int .i64 0), (.slice none 0 0)] 79) fun g23 w24 => ∃ (A25 : Option Addr) (n26 : Nat) (c27 : Nat), w24.cell? (((⟨g21, 0, none⟩ : Addr).add 2).add 0) = some (.slice A25 n26 c27) ∧ Cll Tryz.prog 139 #[(.slice A25 n26 c27)] w24 fun v28 w29 => (∃ (A30 : Option Addr) (n31 : Nat) (c32 : Nat), v28 = (.slice A30 n31 c32) ∧ stCells ((⟨g21, 0, none⟩ : Addr).add 2) [(.slice A30 n31 c32)] 0 w29 fun w33 => ∃ (n34 : Int), w33.cell? ((⟨g21, 0, none⟩ : Addr).add 0) = some (.int .i64 n34) ∧ ∃ (n35 : Int), w33.cell? ((⟨g21, 0, none⟩ : Addr).add 1) = some (.int .i64 n35) ∧ ∃ (A36 : Option Addr) (n37 : Nat) (c38 : Nat), w33.cell? ((⟨g21, 0, none⟩ : Addr).add 2) = some (.slice A36 n37 c38) ∧ stCells (⟨g23, 0, none⟩ : Addr) [(.int .i64 n34), (.int .i64 n35), (.slice A36 n37 c38)] 0 w33 fun w39 => ∃ (n40 : Int), w39.cell? ((⟨g23, 0, none⟩ : Addr).add 0) = some (.int .i64 n40) ∧ ∃ (n41 : Int), w39.cell? ((⟨g23, 0, none⟩ : Addr).add 1) = some (.int .i64 n41) ∧ ∃ (A42 : Option Addr) (n43 : Nat) (c44 : Nat), w39.cell? ((⟨g23, 0, none⟩ : Addr).add 2) = some (.slice A42 n43 c44) ∧ K (.agg #[(.int .i64 n40), (.int .i64 n41), (.slice A42 n43 c44)]) w39)

def impl_copyLane.ann : Ann := (.seq .l (.seq .l (.seq .l .l)))

theorem impl_copyLane.con {s0 : D.Lane} {A0_2 : Option Addr} {c0_2 : Nat} {r : D.Lane} {w : World} (hp : M.impl_copyLane_pre s0) (hr : r = M.impl_copyLane s0) (R0_2 : Row el3 w A0_2 s0.Regs) (hc0_2 : s0.Regs.length ≤ c0_2) :
    Cll Tryz.prog 193 #[(.agg #[(.int .i64 s0.Thread), (.int .i64 s0.Pc), (.slice A0_2 s0.Regs.length c0_2)])] w (fun v_ w_ => ∃ (A0_ : Option Addr) (c0_ : Nat), v_ = (.agg #[(.int .i64 r.Thread), (.int .i64 r.Pc), (.slice A0_ r.Regs.length c0_)]) ∧ Own el3 w_ w.heap.size A0_ c0_ r.Regs ∧ Ext w w_) := by
  have H := wp.impl_copyLane.math s0 hp
  have hB := Ext.refl w
  refine beginF mixed (fn := Tryz.f193) (by kernel_rfl) (by kernel_rfl) (an := impl_copyLane.ann) (V := impl_copyLane.vc s0.Thread s0.Pc A0_2 s0.Regs.length c0_2) (by kernel_rfl) ?_
  unfold impl_copyLane.vc
  unfold wp.impl_copyLane at H
  refine newBlk (fun g2_ w21 L2 P2 e22 => ?_)
  have O2 := P2
  have L2 := Nat.le_trans hB.size L2
  have hB := ethen hB e22
  refine newBlk (fun g3_ w23 L3 P3 e24 => ?_)
  have N2_3 := O2.ne L3
  have O2 := O2.ext e24
  have O3 := P3
  have L3 := Nat.le_trans hB.size L3
  have hB := ethen hB e24
  refine ⟨_, _, _, (O2.at 2 rfl rfl), ?_⟩
  obtain ⟨hp27, H⟩ := H
  obtain ⟨r25, hr26, H⟩ := callO H
  refine (slices_Clone_int_int.con hp27 hr26 (R0_2.ext hB) hc0_2).mono ?_
  rintro _ w28 ⟨A30, c31, rfl, P4, e29⟩
  have N4_2 := P4.apart_old O2.lt
  have N4_3 := P4.apart_old O3.lt
  have O2 := O2.ext e29
  have O3 := O3.ext e29
  have O4 := P4.mono hB.size
  have hB := ethen hB e29
  refine ⟨A30, r25.length, c31, rfl, ?_⟩
  refine stBlk O2 (o := 2) (cs' := #[(.int .i64 s0.Thread), (.int .i64 s0.Pc), (.slice A30 r25.length c31)]) rfl rfl (Nat.le_of_ble_eq_true rfl) rfl (fun w32 P2 e33 => ?_)
  have O3_ := O3.chg e33 (N2_3).symm
  have O4_ := O4.chg e33 N4_2
  have O3 := O3_
  have O4 := O4_
  have hB := echg hB e33 L2
  have O2 := P2
  refine ⟨_, (O2.at 0 rfl rfl), _, (O2.at 1 rfl rfl), _, _, _, (O2.at 2 rfl rfl), ?_⟩
  refine stBlk O3 (o := 0) (cs' := #[(.int .i64 s0.Thread), (.int .i64 s0.Pc), (.slice A30 r25.length c31)]) rfl rfl (Nat.le_of_ble_eq_true rfl) rfl (fun w34 P3 e35 => ?_)
  have O2_ := O2.chg e35 N2_3
  have O4_ := O4.chg e35 N4_3
  have O2 := O2_
  have O4 := O4_
  have hB := echg hB e35 L3
  have O3 := P3
  refine ⟨_, (O3.at 0 rfl rfl), _, (O3.at 1 rfl rfl), _, _, _, (O3.at 2 rfl rfl), ?_⟩
  obtain rfl := hr.trans H.symm
  exact ⟨A30, c31, rfl, O4, hB⟩
def impl_formOf.vc (x0 : Int) (w : World) (K : Value → World → Prop) : Prop :=
  Cll Tryz.prog 58 #[(.int .i64 x0), (.int .i64 0), (.int .i64 16)] w fun v21 w22 => (∃ (b23 : Bool), v21 = (.bool b23) ∧ bcase (!b23) (K (.string (⟨#[]⟩)) w22) (Run Tryz.prog (Instr.buildSlice 177 17 #[(0, (.string (⟨#[45, 45, 45]⟩))), (1, (.string (⟨#[82, 87, 45]⟩))), (2, (.string (⟨#[82, 82, 45]⟩))), (3, (.string (⟨#[82, 82, 82]⟩))), (4, (.string (⟨#[82, 82, 82]⟩))), (5, (.string (⟨#[82, 82, 82]⟩))), (6, (.string (⟨#[82, 82, 82]⟩))), (7, (.string (⟨#[82, 82, 82]⟩))), (8, (.string (⟨#[82, 45, 45]⟩))), (9, (.string (⟨#[82, 82, 82]⟩))), (10, (.string (⟨#[82, 84, 45]⟩))), (11, (.string (⟨#[45, 84, 45]⟩))), (12, (.string (⟨#[45, 45, 45]⟩))), (13, (.string (⟨#[82, 82, 45]⟩))), (14, (.string (⟨#[82, 82, 45]⟩))), (15, (.string (⟨#[82, 82, 45]⟩))), (16, (.string (⟨#[45, 45, 45]⟩)))]) w22 fun v24 w25 => ∃ (A26 : Option Addr) (n27 c28 : Nat), v24 = .slice A26 n27 c28 ∧ ((0 : Int) ≤ x0 ∧ x0 < ((n27 : Nat) : Int) ∧ ∃ a29 : Addr, A26 = some a29 ∧ ∃ (s30 : ByteArray), w25.cell? ((a29.add ((x0.toNat) * 1)).add 0) = some (.string s30) ∧ K (.string s30) w25)))

def impl_formOf.ann : Ann := (.seq .l (.seq (.seq .l (.two (.seq .l .l) .l)) (.seq .l .l)))

theorem impl_formOf.con {x0 : Int} {r : ByteArray} {w : World} (hr : r = M.impl_formOf x0)  :
    Cll Tryz.prog 170 #[(.int .i64 x0)] w (fun v_ w_ => v_ = (.string r) ∧ Ext w w_) := by
  have H := wp.impl_formOf.math x0
  have hB := Ext.refl w
  refine beginF mixed (fn := Tryz.f170) (by kernel_rfl) (by kernel_rfl) (an := impl_formOf.ann) (V := impl_formOf.vc x0) (by kernel_rfl) ?_
  unfold impl_formOf.vc
  unfold wp.impl_formOf at H
  obtain ⟨r21, hr22, H⟩ := callO H
  refine (impl_within.con hr22 ).mono ?_
  rintro _ w24 ⟨rfl, e25⟩
  have hB := ethen hB e25
  refine ⟨r21, rfl, ?_⟩
  refine brc H (fun hc34 H => ?_) (fun hc34 H => ?_)
  ·obtain rfl := hr.trans H.symm
   exact ⟨rfl, hB⟩
  refine buildOwn el9 ([⟨#[45, 45, 45]⟩, ⟨#[82, 87, 45]⟩, ⟨#[82, 82, 45]⟩, ⟨#[82, 82, 82]⟩, ⟨#[82, 82, 82]⟩, ⟨#[82, 82, 82]⟩, ⟨#[82, 82, 82]⟩, ⟨#[82, 82, 82]⟩, ⟨#[82, 45, 45]⟩, ⟨#[82, 82, 82]⟩, ⟨#[82, 84, 45]⟩, ⟨#[45, 84, 45]⟩, ⟨#[45, 45, 45]⟩, ⟨#[82, 82, 45]⟩, ⟨#[82, 82, 45]⟩, ⟨#[82, 82, 45]⟩, ⟨#[45, 45, 45]⟩] : List ByteArray) (fun _ => by kernel_rfl) rfl (fun A26 w27 P1 e28 => ?_)
  have O1 := P1.mono hB.size
  have hB := ethen hB e28
  obtain ⟨⟨h0_32, h1_33⟩, H⟩ := H
  obtain ⟨a30, ha31, hat29⟩ := Row.at O1.row h0_32 h1_33
  refine ⟨h0_32, (by first | exact h1_33 | omega | (simp at h1_33 ⊢; omega)), a30, ha31, _, (hat29 0 _ rfl), ?_⟩
  obtain rfl := hr.trans H.symm
  exact ⟨rfl, hB⟩
def impl_isReg.vc (x0 : Int) (w : World) (K : Value → World → Prop) : Prop :=
  Cll Tryz.prog 58 #[(.int .i64 x0), (.int .i64 0), (.int .i64 3)] w fun v21 w22 => (∃ (b23 : Bool), v21 = (.bool b23) ∧ K (.bool b23) w22)

def impl_isReg.ann : Ann := (.seq .l (.seq .l .l))

theorem impl_isReg.con {x0 : Int} {r : Bool} {w : World} (hr : r = M.impl_isReg x0)  :
    Cll Tryz.prog 196 #[(.int .i64 x0)] w (fun v_ w_ => v_ = (.bool r) ∧ Ext w w_) := by
  have H := wp.impl_isReg.math x0
  have hB := Ext.refl w
  refine beginF mixed (fn := Tryz.f196) (by kernel_rfl) (by kernel_rfl) (an := impl_isReg.ann) (V := impl_isReg.vc x0) (by kernel_rfl) ?_
  unfold impl_isReg.vc
  unfold wp.impl_isReg at H
  obtain ⟨r21, hr22, H⟩ := callO H
  refine (impl_within.con hr22 ).mono ?_
  rintro _ w24 ⟨rfl, e25⟩
  have hB := ethen hB e25
  refine ⟨r21, rfl, ?_⟩
  obtain rfl := hr.trans H.symm
  exact ⟨rfl, hB⟩
def impl_isField.vc (x0 : Int) (x1 : Int) (x2 : Int) (w : World) (K : Value → World → Prop) : Prop :=
  bcase (x0 == 82) (Cll Tryz.prog 196 #[(.int .i64 x1)] w fun v21 w22 => (∃ (b23 : Bool), v21 = (.bool b23) ∧ K (.bool b23) w22)) (bcase (x0 == 87) (Cll Tryz.prog 183 #[(.int .i64 x1)] w fun v24 w25 => (∃ (b26 : Bool), v24 = (.bool b26) ∧ K (.bool b26) w25)) (bcase (x0 == 84) (Cll Tryz.prog 58 #[(.int .i64 x1), (.int .i64 0), (.int .i64 x2)] w fun v27 w28 => (∃ (b29 : Bool), v27 = (.bool b29) ∧ K (.bool b29) w28)) (K (.bool (x1 == 0)) w)))

def impl_isField.ann : Ann := (.seq .l (.seq (.seq .l (.one (.seq .l (.two (.seq .l .l) (.seq .l (.two (.seq .l .l) (.seq .l (.two (.seq .l .l) .l)))))))) (.seq .l .l)))

theorem impl_isField.con {x0 : Int} {x1 : Int} {x2 : Int} {r : Bool} {w : World} (hp : M.impl_isField_pre x0 x1 x2) (hr : r = M.impl_isField x0 x1 x2)  :
    Cll Tryz.prog 171 #[(.int .u8 x0), (.int .i64 x1), (.int .i64 x2)] w (fun v_ w_ => v_ = (.bool r) ∧ Ext w w_) := by
  have H := wp.impl_isField.math x0 x1 x2 hp
  have hB := Ext.refl w
  refine beginF mixed (fn := Tryz.f171) (by kernel_rfl) (by kernel_rfl) (an := impl_isField.ann) (V := impl_isField.vc x0 x1 x2) (by kernel_rfl) ?_
  unfold impl_isField.vc
  unfold wp.impl_isField at H
  refine brc H (fun hc38 H => ?_) (fun hc38 H => ?_)
  ·obtain ⟨r21, hr22, H⟩ := callO H
   refine (impl_isReg.con hr22 ).mono ?_
   rintro _ w24 ⟨rfl, e25⟩
   have hB := ethen hB e25
   refine ⟨r21, rfl, ?_⟩
   obtain rfl := hr.trans H.symm
   exact ⟨rfl, hB⟩
  refine brc H (fun hc37 H => ?_) (fun hc37 H => ?_)
  ·obtain ⟨r26, hr27, H⟩ := callO H
   refine (impl_IsWord.con hr27 ).mono ?_
   rintro _ w29 ⟨rfl, e30⟩
   have hB := ethen hB e30
   refine ⟨r26, rfl, ?_⟩
   obtain rfl := hr.trans H.symm
   exact ⟨rfl, hB⟩
  refine brc H (fun hc36 H => ?_) (fun hc36 H => ?_)
  ·obtain ⟨r31, hr32, H⟩ := callO H
   refine (impl_within.con hr32 ).mono ?_
   rintro _ w34 ⟨rfl, e35⟩
   have hB := ethen hB e35
   refine ⟨r31, rfl, ?_⟩
   obtain rfl := hr.trans H.symm
   exact ⟨rfl, hB⟩
  obtain rfl := hr.trans H.symm
  exact ⟨rfl, hB⟩
def impl_InsOk.vc (x0_0 : Int) (x0_1 : Int) (x0_2 : Int) (x0_3 : Int) (x1 : Int) (w : World) (K : Value → World → Prop) : Prop :=
  newK w (.cells #[(.int .i64 x0_0), (.int .i64 x0_1), (.int .i64 x0_2), (.int .i64 x0_3)] 91) fun g21 w22 => ∃ (n23 : Int), w22.cell? (((⟨g21, 0, none⟩ : Addr).add 0).add 0) = some (.int .i64 n23) ∧ Cll Tryz.prog 170 #[(.int .i64 n23)] w22 fun v24 w25 => (∃ (s26 : ByteArray), v24 = (.string s26) ∧ bcase (!(ByteArray.toList s26 == ByteArray.toList (⟨#[]⟩))) (((Cll Tryz.prog 58 #[(.int .i64 x1), (.int .i64 0), (.int .i64 32)] w25.drew fun v27 w28 => (∃ (b29 : Bool), v27 = (.bool b29) ∧ bcase b29 (((0 : Int) ≤ 0 ∧ ∃ y30 : UInt8, (s26 : ByteArray)[((0 : Int).toNat)]? = some y30 ∧ ((∃ (n31 : Int), w28.cell? (((⟨g21, 0, none⟩ : Addr).add 1).add 0) = some (.int .i64 n31) ∧ ((Cll Tryz.prog 171 #[(.int .u8 ((y30.toNat : Nat) : Int)), (.int .i64 n31), (.int .i64 x1)] w28 fun v32 w33 => (∃ (b34 : Bool), v32 = (.bool b34) ∧ bcase b34 (((0 : Int) ≤ 1 ∧ ∃ y35 : UInt8, (s26 : ByteArray)[((1 : Int).toNat)]? = some y35 ∧ ((∃ (n36 : Int), w33.cell? (((⟨g21, 0, none⟩ : Addr).add 2).add 0) = some (.int .i64 n36) ∧ ((Cll Tryz.prog 171 #[(.int .u8 ((y35.toNat : Nat) : Int)), (.int .i64 n36), (.int .i64 x1)] w33 fun v37 w38 => (∃ (b39 : Bool), v37 = (.bool b39) ∧ bcase b39 (((0 : Int) ≤ 2 ∧ ∃ y40 : UInt8, (s26 : ByteArray)[((2 : Int).toNat)]? = some y40 ∧ ((∃ (n41 : Int), w38.cell? (((⟨g21, 0, none⟩ : Addr).add 3).add 0) = some (.int .i64 n41) ∧ ((Cll Tryz.prog 171 #[(.int .u8 ((y40.toNat : Nat) : Int)), (.int .i64 n41), (.int .i64 x1)] w38 fun v42 w43 => (∃ (b44 : Bool), v42 = (.bool b44) ∧ K (.bool b44) w43)) ∧ True)) ∧ True))) (((((K (.bool false) w38) ∧ True)) ∧ True)))) ∧ True)) ∧ True))) (((((((((K (.bool false) w33) ∧ True)) ∧ True)) ∧ True)) ∧ True)))) ∧ True)) ∧ True))) (((((((((((((K (.bool false) w28) ∧ True)) ∧ True)) ∧ True)) ∧ True)) ∧ True)) ∧ True)))) ∧ True)) (((((((((((((((K (.bool false) w25.drew) ∧ True)) ∧ True)) ∧ True)) ∧ True)) ∧ True)) ∧ True)) ∧ True)))

def impl_InsOk.ann : Ann := (.seq .l (.seq .l (.seq .each .l)))

theorem impl_InsOk.con {s0 : D.Ins} {x1 : Int} {r : Bool} {w : World} (hr : r = M.impl_InsOk s0 x1)  :
    Cll Tryz.prog 127 #[(.agg #[(.int .i64 s0.Op), (.int .i64 s0.A), (.int .i64 s0.B), (.int .i64 s0.C)]), (.int .i64 x1)] w (fun v_ w_ => v_ = (.bool r) ∧ Ext w w_) := by
  have H := wp.impl_InsOk.math s0 x1
  have hB := Ext.refl w
  refine beginF mixed (fn := Tryz.f127) (by kernel_rfl) (by kernel_rfl) (an := impl_InsOk.ann) (V := impl_InsOk.vc s0.Op s0.A s0.B s0.C x1) (by kernel_rfl) ?_
  unfold impl_InsOk.vc
  unfold wp.impl_InsOk at H
  refine newBlk (fun g1_ w21 L1 P1 e22 => ?_)
  have O1 := P1
  have L1 := Nat.le_trans hB.size L1
  have hB := ethen hB e22
  refine ⟨_, (O1.at 0 rfl rfl), ?_⟩
  obtain ⟨r23, hr24, H⟩ := callO H
  refine (impl_formOf.con hr24 ).mono ?_
  rintro _ w26 ⟨rfl, e27⟩
  have O1 := O1.ext e27
  have hB := ethen hB e27
  refine ⟨r23, rfl, ?_⟩
  have O1 := O1.ext (Ext.drew _)
  have hB := ethen hB (Ext.drew _)
  refine brc H (fun hc66 H => ?_) (fun hc66 H => ?_)
  ·refine and_t ?_
   obtain ⟨r28, hr29, H⟩ := callO H
   refine (impl_within.con hr29 ).mono ?_
   rintro _ w31 ⟨rfl, e32⟩
   have O1 := O1.ext e32
   have hB := ethen hB e32
   refine ⟨r28, rfl, ?_⟩
   refine brc H (fun hc65 H => ?_) (fun hc65 H => ?_)
   ·obtain ⟨⟨h0_36, h1_37⟩, H⟩ := H
    obtain ⟨y33, hy34, hyb35⟩ := strAt h0_36 h1_37
    refine ⟨h0_36, y33, hy34, ?_⟩
    rw [hyb35]
    refine and_t ?_
    refine ⟨_, (O1.at 1 rfl rfl), ?_⟩
    refine and_t ?_
    obtain ⟨hp40, H⟩ := H
    obtain ⟨r38, hr39, H⟩ := callO H
    refine (impl_isField.con hp40 hr39 ).mono ?_
    rintro _ w41 ⟨rfl, e42⟩
    have O1 := O1.ext e42
    have hB := ethen hB e42
    refine ⟨r38, rfl, ?_⟩
    refine brc H (fun hc64 H => ?_) (fun hc64 H => ?_)
    ·obtain ⟨⟨h0_46, h1_47⟩, H⟩ := H
     obtain ⟨y43, hy44, hyb45⟩ := strAt h0_46 h1_47
     refine ⟨h0_46, y43, hy44, ?_⟩
     rw [hyb45]
     refine and_t ?_
     refine ⟨_, (O1.at 2 rfl rfl), ?_⟩
     refine and_t ?_
     obtain ⟨hp50, H⟩ := H
     obtain ⟨r48, hr49, H⟩ := callO H
     refine (impl_isField.con hp50 hr49 ).mono ?_
     rintro _ w51 ⟨rfl, e52⟩
     have O1 := O1.ext e52
     have hB := ethen hB e52
     refine ⟨r48, rfl, ?_⟩
     refine brc H (fun hc63 H => ?_) (fun hc63 H => ?_)
     ·obtain ⟨⟨h0_56, h1_57⟩, H⟩ := H
      obtain ⟨y53, hy54, hyb55⟩ := strAt h0_56 h1_57
      refine ⟨h0_56, y53, hy54, ?_⟩
      rw [hyb55]
      refine and_t ?_
      refine ⟨_, (O1.at 3 rfl rfl), ?_⟩
      refine and_t ?_
      obtain ⟨hp60, H⟩ := H
      obtain ⟨r58, hr59, H⟩ := callO H
      refine (impl_isField.con hp60 hr59 ).mono ?_
      rintro _ w61 ⟨rfl, e62⟩
      have O1 := O1.ext e62
      have hB := ethen hB e62
      refine ⟨r58, rfl, ?_⟩
      obtain rfl := hr.trans H.symm
      exact ⟨rfl, hB⟩
     refine and_t ?_
     refine and_t ?_
     obtain rfl := hr.trans H.symm
     exact ⟨rfl, hB⟩
    refine and_t ?_
    refine and_t ?_
    refine and_t ?_
    refine and_t ?_
    obtain rfl := hr.trans H.symm
    exact ⟨rfl, hB⟩
   refine and_t ?_
   refine and_t ?_
   refine and_t ?_
   refine and_t ?_
   refine and_t ?_
   refine and_t ?_
   obtain rfl := hr.trans H.symm
   exact ⟨rfl, hB⟩
  refine and_t ?_
  refine and_t ?_
  refine and_t ?_
  refine and_t ?_
  refine and_t ?_
  refine and_t ?_
  refine and_t ?_
  obtain rfl := hr.trans H.symm
  exact ⟨rfl, hB⟩
def impl_ProgramOk_1.vc (x0_0 : Int) (x0_1 : Int) (x0_2 : Int) (x0_3 : Int) (p1 : Addr) (w : World) (K : Value → World → Prop) : Prop :=
  newK w (.cells #[(.int .i64 x0_0), (.int .i64 x0_1), (.int .i64 x0_2), (.int .i64 x0_3)] 91) fun g21 w22 => ∃ (n23 : Int), w22.cell? ((⟨g21, 0, none⟩ : Addr).add 0) = some (.int .i64 n23) ∧ ∃ (n24 : Int), w22.cell? ((⟨g21, 0, none⟩ : Addr).add 1) = some (.int .i64 n24) ∧ ∃ (n25 : Int), w22.cell? ((⟨g21, 0, none⟩ : Addr).add 2) = some (.int .i64 n25) ∧ ∃ (n26 : Int), w22.cell? ((⟨g21, 0, none⟩ : Addr).add 3) = some (.int .i64 n26) ∧ ∃ (A27 : Option Addr) (n28 : Nat) (c29 : Nat), w22.cell? (p1.add 0) = some (.slice A27 n28 c29) ∧ Cll Tryz.prog 127 #[(.agg #[(.int .i64 n23), (.int .i64 n24), (.int .i64 n25), (.int .i64 n26)]), (.int .i64 ((n28 : Nat) : Int))] w22 fun v30 w31 => (∃ (b32 : Bool), v30 = (.bool b32) ∧ K (.bool (!b32)) w31)

def impl_ProgramOk_1.ann : Ann := (.seq .l (.seq .l .l))

theorem impl_ProgramOk_1.con {s0 : D.Ins} {xs1 : List D.Ins} {g1_ : Nat} {A1_0 : Option Addr} {c1_0 : Nat} {r : Bool} {w : World} (hr : r = M.impl_ProgramOk_1 s0 xs1) (O1 : Blk w g1_ 24 #[(.slice A1_0 xs1.length c1_0)]) (R1_0 : Row el91 w A1_0 xs1) (hc1_0 : xs1.length ≤ c1_0) :
    Cll Tryz.prog 126 #[(.agg #[(.int .i64 s0.Op), (.int .i64 s0.A), (.int .i64 s0.B), (.int .i64 s0.C)]), (.pointer (some (⟨g1_, 0, none⟩ : Addr)))] w (fun v_ w_ => v_ = (.bool r) ∧ Ext w w_) := by
  have H := wp.impl_ProgramOk_1.math s0 xs1
  have hB := Ext.refl w
  refine beginF mixed (fn := Tryz.f126) (by kernel_rfl) (by kernel_rfl) (an := impl_ProgramOk_1.ann) (V := impl_ProgramOk_1.vc s0.Op s0.A s0.B s0.C (⟨g1_, 0, none⟩ : Addr)) (by kernel_rfl) ?_
  unfold impl_ProgramOk_1.vc
  unfold wp.impl_ProgramOk_1 at H
  refine newBlk (fun g3_ w21 L3 P3 e22 => ?_)
  have N1_3 := O1.ne L3
  have O1 := O1.ext e22
  have O3 := P3
  have L3 := Nat.le_trans hB.size L3
  have hB := ethen hB e22
  refine ⟨_, (O3.at 0 rfl rfl), _, (O3.at 1 rfl rfl), _, (O3.at 2 rfl rfl), _, (O3.at 3 rfl rfl), _, _, _, (O1.at 0 rfl rfl), ?_⟩
  obtain ⟨r23, hr24, H⟩ := callO H
  refine (impl_InsOk.con hr24 ).mono ?_
  rintro _ w26 ⟨rfl, e27⟩
  have O1 := O1.ext e27
  have O3 := O3.ext e27
  have hB := ethen hB e27
  refine ⟨r23, rfl, ?_⟩
  obtain rfl := hr.trans H.symm
  exact ⟨rfl, hB⟩
def slices_IndexFunc_impl_Ins_impl_Ins.vc (A0 : Option Addr) (n0 : Nat) (c0 : Nat) (f1 : Nat) (cap1 : Array Value) (w : World) (K : Value → World → Prop) : Prop :=
  LoopT (σ := Int × Unit) (fun z21 w22 next23 => bcase (decide (z21.1 < ((n0 : Nat) : Int))) (((0 : Int) ≤ z21.1 ∧ z21.1 < ((n0 : Nat) : Int) ∧ ∃ a24 : Addr, A0 = some a24 ∧ ∃ (n25 : Int), w22.cell? ((a24.add ((z21.1.toNat) * 4)).add 0) = some (.int .i64 n25) ∧ ∃ (n26 : Int), w22.cell? ((a24.add ((z21.1.toNat) * 4)).add 1) = some (.int .i64 n26) ∧ ∃ (n27 : Int), w22.cell? ((a24.add ((z21.1.toNat) * 4)).add 2) = some (.int .i64 n27) ∧ ∃ (n28 : Int), w22.cell? ((a24.add ((z21.1.toNat) * 4)).add 3) = some (.int .i64 n28) ∧ Cll Tryz.prog f1 (#[(.agg #[(.int .i64 n25), (.int .i64 n26), (.int .i64 n27), (.int .i64 n28)])] ++ cap1) w22 fun v29 w30 => (∃ (b31 : Bool), v29 = (.bool b31) ∧ bcase b31 (K (.int .i64 z21.1) w30) (next23 ((IntKind.wrap .i64 (z21.1 + 1)), ()) w30)))) (K (.int .i64 (-1)) w22)) (0, ()) w

def slices_IndexFunc_impl_Ins_impl_Ins.ann : Ann := (.seq .l (.seq (.seq .l (.one (.loop [(8, .int .i64)] (.seq .l (.seq (.two .l .l) (.seq (.one (.seq .l (.seq .l (.two (.seq .l .l) .l)))) .l)))))) (.seq .l .l)))

theorem slices_IndexFunc_impl_Ins_impl_Ins.start {A0 : Option Addr} {n0 : Nat} {c0 : Nat} {f1 : Nat} {cap1 : Array Value} {w : World} {K : Value → World → Prop} (h : slices_IndexFunc_impl_Ins_impl_Ins.vc A0 n0 c0 f1 cap1 w K) : Cll Tryz.prog 128 #[(.slice A0 n0 c0), (.func (.func f1) #[] cap1)] w K :=
  vcF_sound mixed (fn := Tryz.f128) (by kernel_rfl) (by kernel_rfl) (an := slices_IndexFunc_impl_Ins_impl_Ins.ann) (args := [(.slice A0 n0 c0), (.func (.func f1) #[] cap1)]) (Eq.mpr (by kernel_rfl) h)

theorem slices_IndexFunc_impl_Ins_impl_Ins.con {xs0 : List D.Ins} {A0 : Option Addr} {c0 : Nat} {f1 : Nat} {cap1 : Array Value} {g1 : D.Ins → Bool} {D1 : D.Ins → Prop} {r : Int} {w : World} (hp : M.slices_IndexFunc_impl_Ins_impl_Ins_pre xs0 g1 D1) (hr : r = M.slices_IndexFunc_impl_Ins_impl_Ins xs0 g1) (R0 : Row el91 w A0 xs0) (hc0 : xs0.length ≤ c0) (F1 : ∀ (z0_ : D.Ins), D1 z0_ → ∀ w_ : World, Ext w w_ → Cll Tryz.prog f1 (#[(.agg #[(.int .i64 z0_.Op), (.int .i64 z0_.A), (.int .i64 z0_.B), (.int .i64 z0_.C)])] ++ cap1) w_ (fun v_ w1_ => v_ = (.bool (g1 z0_)) ∧ Ext w_ w1_)) :
    Cll Tryz.prog 128 #[(.slice A0 xs0.length c0), (.func (.func f1) #[] cap1)] w (fun v_ w_ => v_ = (.int .i64 r) ∧ Ext w w_) := by
  have H := wp.slices_IndexFunc_impl_Ins_impl_Ins.math xs0 g1 D1 hp
  have hB := Ext.refl w
  refine slices_IndexFunc_impl_Ins_impl_Ins.start ?_
  unfold slices_IndexFunc_impl_Ins_impl_Ins.vc
  unfold wp.slices_IndexFunc_impl_Ins_impl_Ins at H
  obtain ⟨J23, ⟨m44, hJ43⟩, hS24⟩ := H
  refine ⟨fun m_ z_ w_ => ∃ (i21 : Int), z_ = (i21, ()) ∧ J23 m_ (i21, ()) ∧ Ext w w_, ⟨m44, 0, rfl, hJ43, hB⟩, ?_⟩
  rintro m22 _ w26 ⟨i21, rfl, hJ45, hB⟩
  have H := hS24 m22 _ hJ45
  clear hS24 hJ45
  try dsimp only at H ⊢
  refine brc H (fun hc41 H => ?_) (fun hc41 H => ?_)
  ·obtain ⟨⟨h0_30, h1_31⟩, H⟩ := H
   obtain ⟨a28, ha29, hat27⟩ := Row.at (R0.ext hB) h0_30 h1_31
   refine ⟨h0_30, h1_31, a28, ha29, _, (hat27 0 _ rfl), _, (hat27 1 _ rfl), _, (hat27 2 _ rfl), _, (hat27 3 _ rfl), ?_⟩
   obtain ⟨hd34, H⟩ := H
   obtain ⟨r32, hr33, H⟩ := callO H
   refine (F1 (rd xs0 i21) hd34 _ hB).mono ?_
   rintro _ w35 ⟨rfl, e36⟩
   rw [← hr33]
   have hB := ethen hB e36
   refine ⟨r32, rfl, ?_⟩
   refine brc H (fun hc40 H => ?_) (fun hc40 H => ?_)
   ·obtain rfl := hr.trans H.symm
    exact ⟨rfl, hB⟩
   obtain ⟨m37, hm38, hJ39⟩ := H
   exact ⟨m37, hm38, (IntKind.wrap .i64 (i21 + 1)), rfl, hJ39, hB⟩
  obtain rfl := hr.trans H.symm
  exact ⟨rfl, hB⟩
def slices_ContainsFunc_impl_Ins_impl_Ins.vc (A0 : Option Addr) (n0 : Nat) (c0 : Nat) (f1 : Nat) (cap1 : Array Value) (w : World) (K : Value → World → Prop) : Prop :=
  Cll Tryz.prog 128 #[(.slice A0 n0 c0), (.func (.func f1) #[] cap1)] w fun v21 w22 => (∃ (n23 : Int), v21 = (.int .i64 n23) ∧ K (.bool (decide (n23 ≥ 0))) w22)

def slices_ContainsFunc_impl_Ins_impl_Ins.ann : Ann := (.seq .l (.seq .l .l))

theorem slices_ContainsFunc_impl_Ins_impl_Ins.start {A0 : Option Addr} {n0 : Nat} {c0 : Nat} {f1 : Nat} {cap1 : Array Value} {w : World} {K : Value → World → Prop} (h : slices_ContainsFunc_impl_Ins_impl_Ins.vc A0 n0 c0 f1 cap1 w K) : Cll Tryz.prog 74 #[(.slice A0 n0 c0), (.func (.func f1) #[] cap1)] w K :=
  vcF_sound mixed (fn := Tryz.f74) (by kernel_rfl) (by kernel_rfl) (an := slices_ContainsFunc_impl_Ins_impl_Ins.ann) (args := [(.slice A0 n0 c0), (.func (.func f1) #[] cap1)]) (Eq.mpr (by kernel_rfl) h)

theorem slices_ContainsFunc_impl_Ins_impl_Ins.con {xs0 : List D.Ins} {A0 : Option Addr} {c0 : Nat} {f1 : Nat} {cap1 : Array Value} {g1 : D.Ins → Bool} {D1 : D.Ins → Prop} {r : Bool} {w : World} (hp : M.slices_ContainsFunc_impl_Ins_impl_Ins_pre xs0 g1 D1) (hr : r = M.slices_ContainsFunc_impl_Ins_impl_Ins xs0 g1) (R0 : Row el91 w A0 xs0) (hc0 : xs0.length ≤ c0) (F1 : ∀ (z0_ : D.Ins), D1 z0_ → ∀ w_ : World, Ext w w_ → Cll Tryz.prog f1 (#[(.agg #[(.int .i64 z0_.Op), (.int .i64 z0_.A), (.int .i64 z0_.B), (.int .i64 z0_.C)])] ++ cap1) w_ (fun v_ w1_ => v_ = (.bool (g1 z0_)) ∧ Ext w_ w1_)) :
    Cll Tryz.prog 74 #[(.slice A0 xs0.length c0), (.func (.func f1) #[] cap1)] w (fun v_ w_ => v_ = (.bool r) ∧ Ext w w_) := by
  have H := wp.slices_ContainsFunc_impl_Ins_impl_Ins.math xs0 g1 D1 hp
  have hB := Ext.refl w
  refine slices_ContainsFunc_impl_Ins_impl_Ins.start ?_
  unfold slices_ContainsFunc_impl_Ins_impl_Ins.vc
  unfold wp.slices_ContainsFunc_impl_Ins_impl_Ins at H
  obtain ⟨hp23, H⟩ := H
  obtain ⟨r21, hr22, H⟩ := callO H
  refine (slices_IndexFunc_impl_Ins_impl_Ins.con hp23 hr22 (R0.ext hB) hc0 (fun z0_  h_ w_ e_ => F1 z0_  h_ w_ (ethen hB e_))).mono ?_
  rintro _ w24 ⟨rfl, e25⟩
  have hB := ethen hB e25
  refine ⟨r21, rfl, ?_⟩
  obtain rfl := hr.trans H.symm
  exact ⟨rfl, hB⟩
def impl_ProgramOk.vc (A0 : Option Addr) (n0 : Nat) (c0 : Nat) (w : World) (K : Value → World → Prop) : Prop :=
  newK w (.cells #[(.slice A0 n0 c0)] 24) fun g21 w22 => ∃ (A23 : Option Addr) (n24 : Nat) (c25 : Nat), w22.cell? ((⟨g21, 0, none⟩ : Addr).add 0) = some (.slice A23 n24 c25) ∧ bcase (decide (((n24 : Nat) : Int) ≤ 32)) (∃ (A26 : Option Addr) (n27 : Nat) (c28 : Nat), w22.cell? ((⟨g21, 0, none⟩ : Addr).add 0) = some (.slice A26 n27 c28) ∧ Cll Tryz.prog 74 #[(.slice A26 n27 c28), (.func (.func 126) #[] #[(.pointer (some (⟨g21, 0, none⟩ : Addr)))])] w22 fun v29 w30 => (∃ (b31 : Bool), v29 = (.bool b31) ∧ K (.bool (!b31)) w30)) (K (.bool false) w22)

def impl_ProgramOk.ann : Ann := (.seq .l (.seq .l .l))

theorem impl_ProgramOk.con {xs0 : List D.Ins} {A0 : Option Addr} {c0 : Nat} {r : Bool} {w : World} (hp : M.impl_ProgramOk_pre xs0) (hr : r = M.impl_ProgramOk xs0) (R0 : Row el91 w A0 xs0) (hc0 : xs0.length ≤ c0) :
    Cll Tryz.prog 73 #[(.slice A0 xs0.length c0)] w (fun v_ w_ => v_ = (.bool r) ∧ Ext w w_) := by
  have H := wp.impl_ProgramOk.math xs0 hp
  have hB := Ext.refl w
  refine beginF mixed (fn := Tryz.f73) (by kernel_rfl) (by kernel_rfl) (an := impl_ProgramOk.ann) (V := impl_ProgramOk.vc A0 xs0.length c0) (by kernel_rfl) ?_
  unfold impl_ProgramOk.vc
  unfold wp.impl_ProgramOk at H
  refine newBlk (fun g2_ w21 L2 P2 e22 => ?_)
  have O2 := P2
  have L2 := Nat.le_trans hB.size L2
  have hB := ethen hB e22
  refine ⟨_, _, _, (O2.at 0 rfl rfl), ?_⟩
  refine brc H (fun hc28 H => ?_) (fun hc28 H => ?_)
  ·refine ⟨_, _, _, (O2.at 0 rfl rfl), ?_⟩
   obtain ⟨hp25, H⟩ := H
   obtain ⟨r23, hr24, H⟩ := callO H
   refine (slices_ContainsFunc_impl_Ins_impl_Ins.con hp25 hr24 (R0.ext hB) hc0 (fun z0_ h_ w_ e_ => cllApp (l1 := [_]) (l2 := [_]) (impl_ProgramOk_1.con rfl (O2.ext e_) (R0.ext (ethen hB e_)) hc0))).mono ?_
   rintro _ w26 ⟨rfl, e27⟩
   have O2 := O2.ext e27
   have hB := ethen hB e27
   refine ⟨r23, rfl, ?_⟩
   obtain rfl := hr.trans H.symm
   exact ⟨rfl, hB⟩
  obtain rfl := hr.trans H.symm
  exact ⟨rfl, hB⟩
def impl_IsLocal.vc (x0_0 : Int) (x0_1 : Int) (x0_2 : Int) (x0_3 : Int) (w : World) (K : Value → World → Prop) : Prop :=
  newK w (.cells #[(.int .i64 x0_0), (.int .i64 x0_1), (.int .i64 x0_2), (.int .i64 x0_3)] 91) fun g21 w22 => ∃ (n23 : Int), w22.cell? (((⟨g21, 0, none⟩ : Addr).add 0).add 0) = some (.int .i64 n23) ∧ Cll Tryz.prog 58 #[(.int .i64 n23), (.int .i64 0), (.int .i64 12)] w22 fun v24 w25 => (∃ (b26 : Bool), v24 = (.bool b26) ∧ K (.bool b26) w25)

def impl_IsLocal.ann : Ann := (.seq .l (.seq .l .l))

theorem impl_IsLocal.con {s0 : D.Ins} {r : Bool} {w : World} (hr : r = M.impl_IsLocal s0)  :
    Cll Tryz.prog 76 #[(.agg #[(.int .i64 s0.Op), (.int .i64 s0.A), (.int .i64 s0.B), (.int .i64 s0.C)])] w (fun v_ w_ => v_ = (.bool r) ∧ Ext w w_) := by
  have H := wp.impl_IsLocal.math s0
  have hB := Ext.refl w
  refine beginF mixed (fn := Tryz.f76) (by kernel_rfl) (by kernel_rfl) (an := impl_IsLocal.ann) (V := impl_IsLocal.vc s0.Op s0.A s0.B s0.C) (by kernel_rfl) ?_
  unfold impl_IsLocal.vc
  unfold wp.impl_IsLocal at H
  refine newBlk (fun g1_ w21 L1 P1 e22 => ?_)
  have O1 := P1
  have L1 := Nat.le_trans hB.size L1
  have hB := ethen hB e22
  refine ⟨_, (O1.at 0 rfl rfl), ?_⟩
  obtain ⟨r23, hr24, H⟩ := callO H
  refine (impl_within.con hr24 ).mono ?_
  rintro _ w26 ⟨rfl, e27⟩
  have O1 := O1.ext e27
  have hB := ethen hB e27
  refine ⟨r23, rfl, ?_⟩
  obtain rfl := hr.trans H.symm
  exact ⟨rfl, hB⟩
def impl_IsQuiet_1.vc (x0_0 : Int) (x0_1 : Int) (x0_2 : Int) (x0_3 : Int) (w : World) (K : Value → World → Prop) : Prop :=
  newK w (.cells #[(.int .i64 x0_0), (.int .i64 x0_1), (.int .i64 x0_2), (.int .i64 x0_3)] 91) fun g21 w22 => ∃ (n23 : Int), w22.cell? ((⟨g21, 0, none⟩ : Addr).add 0) = some (.int .i64 n23) ∧ ∃ (n24 : Int), w22.cell? ((⟨g21, 0, none⟩ : Addr).add 1) = some (.int .i64 n24) ∧ ∃ (n25 : Int), w22.cell? ((⟨g21, 0, none⟩ : Addr).add 2) = some (.int .i64 n25) ∧ ∃ (n26 : Int), w22.cell? ((⟨g21, 0, none⟩ : Addr).add 3) = some (.int .i64 n26) ∧ Cll Tryz.prog 76 #[(.agg #[(.int .i64 n23), (.int .i64 n24), (.int .i64 n25), (.int .i64 n26)])] w22 fun v27 w28 => (∃ (b29 : Bool), v27 = (.bool b29) ∧ K (.bool (!b29)) w28)

def impl_IsQuiet_1.ann : Ann := (.seq .l (.seq .l .l))

theorem impl_IsQuiet_1.con {s0 : D.Ins} {r : Bool} {w : World} (hr : r = M.impl_IsQuiet_1 s0)  :
    Cll Tryz.prog 75 #[(.agg #[(.int .i64 s0.Op), (.int .i64 s0.A), (.int .i64 s0.B), (.int .i64 s0.C)])] w (fun v_ w_ => v_ = (.bool r) ∧ Ext w w_) := by
  have H := wp.impl_IsQuiet_1.math s0
  have hB := Ext.refl w
  refine beginF mixed (fn := Tryz.f75) (by kernel_rfl) (by kernel_rfl) (an := impl_IsQuiet_1.ann) (V := impl_IsQuiet_1.vc s0.Op s0.A s0.B s0.C) (by kernel_rfl) ?_
  unfold impl_IsQuiet_1.vc
  unfold wp.impl_IsQuiet_1 at H
  refine newBlk (fun g1_ w21 L1 P1 e22 => ?_)
  have O1 := P1
  have L1 := Nat.le_trans hB.size L1
  have hB := ethen hB e22
  refine ⟨_, (O1.at 0 rfl rfl), _, (O1.at 1 rfl rfl), _, (O1.at 2 rfl rfl), _, (O1.at 3 rfl rfl), ?_⟩
  obtain ⟨r23, hr24, H⟩ := callO H
  refine (impl_IsLocal.con hr24 ).mono ?_
  rintro _ w26 ⟨rfl, e27⟩
  have O1 := O1.ext e27
  have hB := ethen hB e27
  refine ⟨r23, rfl, ?_⟩
  obtain rfl := hr.trans H.symm
  exact ⟨rfl, hB⟩
def impl_IsQuiet.vc (A0 : Option Addr) (n0 : Nat) (c0 : Nat) (w : World) (K : Value → World → Prop) : Prop :=
  Cll Tryz.prog 73 #[(.slice A0 n0 c0)] w fun v21 w22 => (∃ (b23 : Bool), v21 = (.bool b23) ∧ bcase b23 (Cll Tryz.prog 74 #[(.slice A0 n0 c0), (.func (.func 75) #[] #[])] w22 fun v24 w25 => (∃ (b26 : Bool), v24 = (.bool b26) ∧ K (.bool (!b26)) w25)) (K (.bool false) w22))

def impl_IsQuiet.ann : Ann := (.seq .l (.seq .l .l))

theorem impl_IsQuiet.con {xs0 : List D.Ins} {A0 : Option Addr} {c0 : Nat} {r : Bool} {w : World} (hp : M.impl_IsQuiet_pre xs0) (hr : r = M.impl_IsQuiet xs0) (R0 : Row el91 w A0 xs0) (hc0 : xs0.length ≤ c0) :
    Cll Tryz.prog 27 #[(.slice A0 xs0.length c0)] w (fun v_ w_ => v_ = (.bool r) ∧ Ext w w_) := by
  have H := wp.impl_IsQuiet.math xs0 hp
  have hB := Ext.refl w
  refine beginF mixed (fn := Tryz.f27) (by kernel_rfl) (by kernel_rfl) (an := impl_IsQuiet.ann) (V := impl_IsQuiet.vc A0 xs0.length c0) (by kernel_rfl) ?_
  unfold impl_IsQuiet.vc
  unfold wp.impl_IsQuiet at H
  obtain ⟨hp23, H⟩ := H
  obtain ⟨r21, hr22, H⟩ := callO H
  refine (impl_ProgramOk.con hp23 hr22 (R0.ext hB) hc0).mono ?_
  rintro _ w24 ⟨rfl, e25⟩
  have hB := ethen hB e25
  refine ⟨r21, rfl, ?_⟩
  refine brc H (fun hc31 H => ?_) (fun hc31 H => ?_)
  ·obtain ⟨hp28, H⟩ := H
   obtain ⟨r26, hr27, H⟩ := callO H
   refine (slices_ContainsFunc_impl_Ins_impl_Ins.con hp28 hr27 (R0.ext hB) hc0 (fun z0_ h_ w_ e_ => cllApp (l1 := [_]) (l2 := []) (impl_IsQuiet_1.con rfl))).mono ?_
   rintro _ w29 ⟨rfl, e30⟩
   have hB := ethen hB e30
   refine ⟨r26, rfl, ?_⟩
   obtain rfl := hr.trans H.symm
   exact ⟨rfl, hB⟩
  obtain rfl := hr.trans H.symm
  exact ⟨rfl, hB⟩
def impl_areRegs.vc (A0 : Option Addr) (n0 : Nat) (c0 : Nat) (w : World) (K : Value → World → Prop) : Prop :=
  bcase (((n0 : Nat) : Int) == 4) (Cll Tryz.prog 142 #[(.slice A0 n0 c0)] w fun v21 w22 => (∃ (b23 : Bool), v21 = (.bool b23) ∧ K (.bool b23) w22)) (K (.bool false) w)

def impl_areRegs.ann : Ann := (.seq .l (.seq .l .l))

theorem impl_areRegs.con {xs0 : List Int} {A0 : Option Addr} {c0 : Nat} {r : Bool} {w : World} (hr : r = M.impl_areRegs xs0) (R0 : Row el3 w A0 xs0) (hc0 : xs0.length ≤ c0) :
    Cll Tryz.prog 252 #[(.slice A0 xs0.length c0)] w (fun v_ w_ => v_ = (.bool r) ∧ Ext w w_) := by
  have H := wp.impl_areRegs.math xs0
  have hB := Ext.refl w
  refine beginF mixed (fn := Tryz.f252) (by kernel_rfl) (by kernel_rfl) (an := impl_areRegs.ann) (V := impl_areRegs.vc A0 xs0.length c0) (by kernel_rfl) ?_
  unfold impl_areRegs.vc
  unfold wp.impl_areRegs at H
  refine brc H (fun hc26 H => ?_) (fun hc26 H => ?_)
  ·obtain ⟨hp23, H⟩ := H
   obtain ⟨r21, hr22, H⟩ := callO H
   refine (impl_AreWords.con hp23 hr22 (R0.ext hB) hc0).mono ?_
   rintro _ w24 ⟨rfl, e25⟩
   have hB := ethen hB e25
   refine ⟨r21, rfl, ?_⟩
   obtain rfl := hr.trans H.symm
   exact ⟨rfl, hB⟩
  obtain rfl := hr.trans H.symm
  exact ⟨rfl, hB⟩
def impl_isLaneOf.vc (A0 : Option Addr) (n0 : Nat) (c0 : Nat) (x1_0 : Int) (x1_1 : Int) (A1_2 : Option Addr) (n1_2 : Nat) (c1_2 : Nat) (w : World) (K : Value → World → Prop) : Prop :=
  newK w (.cells #[(.int .i64 x1_0), (.int .i64 x1_1), (.slice A1_2 n1_2 c1_2)] 79) fun g21 w22 => ∃ (n23 : Int), w22.cell? (((⟨g21, 0, none⟩ : Addr).add 0).add 0) = some (.int .i64 n23) ∧ Cll Tryz.prog 59 #[(.int .i64 n23)] w22 fun v24 w25 => (∃ (b26 : Bool), v24 = (.bool b26) ∧ bcase b26 (∃ (n27 : Int), w25.cell? (((⟨g21, 0, none⟩ : Addr).add 1).add 0) = some (.int .i64 n27) ∧ Cll Tryz.prog 58 #[(.int .i64 n27), (.int .i64 0), (.int .i64 ((n0 : Nat) : Int))] w25 fun v28 w29 => (∃ (b30 : Bool), v28 = (.bool b30) ∧ bcase b30 (∃ (A31 : Option Addr) (n32 : Nat) (c33 : Nat), w29.cell? (((⟨g21, 0, none⟩ : Addr).add 2).add 0) = some (.slice A31 n32 c33) ∧ Cll Tryz.prog 252 #[(.slice A31 n32 c33)] w29 fun v34 w35 => (∃ (b36 : Bool), v34 = (.bool b36) ∧ K (.bool b36) w35)) (K (.bool false) w29))) (K (.bool false) w25))

def impl_isLaneOf.ann : Ann := (.seq .l (.seq .l .l))

theorem impl_isLaneOf.con {xs0 : List D.Ins} {A0 : Option Addr} {c0 : Nat} {s1 : D.Lane} {A1_2 : Option Addr} {c1_2 : Nat} {r : Bool} {w : World} (hp : M.impl_isLaneOf_pre xs0 s1) (hr : r = M.impl_isLaneOf xs0 s1) (R0 : Row el91 w A0 xs0) (hc0 : xs0.length ≤ c0) (R1_2 : Row el3 w A1_2 s1.Regs) (hc1_2 : s1.Regs.length ≤ c1_2) :
    Cll Tryz.prog 226 #[(.slice A0 xs0.length c0), (.agg #[(.int .i64 s1.Thread), (.int .i64 s1.Pc), (.slice A1_2 s1.Regs.length c1_2)])] w (fun v_ w_ => v_ = (.bool r) ∧ Ext w w_) := by
  have H := wp.impl_isLaneOf.math xs0 s1 hp
  have hB := Ext.refl w
  refine beginF mixed (fn := Tryz.f226) (by kernel_rfl) (by kernel_rfl) (an := impl_isLaneOf.ann) (V := impl_isLaneOf.vc A0 xs0.length c0 s1.Thread s1.Pc A1_2 s1.Regs.length c1_2) (by kernel_rfl) ?_
  unfold impl_isLaneOf.vc
  unfold wp.impl_isLaneOf at H
  refine newBlk (fun g3_ w21 L3 P3 e22 => ?_)
  have O3 := P3
  have L3 := Nat.le_trans hB.size L3
  have hB := ethen hB e22
  refine ⟨_, (O3.at 0 rfl rfl), ?_⟩
  obtain ⟨r23, hr24, H⟩ := callO H
  refine (impl_isThread.con hr24 ).mono ?_
  rintro _ w26 ⟨rfl, e27⟩
  have O3 := O3.ext e27
  have hB := ethen hB e27
  refine ⟨r23, rfl, ?_⟩
  refine brc H (fun hc39 H => ?_) (fun hc39 H => ?_)
  ·refine ⟨_, (O3.at 1 rfl rfl), ?_⟩
   obtain ⟨r28, hr29, H⟩ := callO H
   refine (impl_within.con hr29 ).mono ?_
   rintro _ w31 ⟨rfl, e32⟩
   have O3 := O3.ext e32
   have hB := ethen hB e32
   refine ⟨r28, rfl, ?_⟩
   refine brc H (fun hc38 H => ?_) (fun hc38 H => ?_)
   ·refine ⟨_, _, _, (O3.at 2 rfl rfl), ?_⟩
    obtain ⟨r33, hr34, H⟩ := callO H
    refine (impl_areRegs.con hr34 (R1_2.ext hB) hc1_2).mono ?_
    rintro _ w36 ⟨rfl, e37⟩
    have O3 := O3.ext e37
    have hB := ethen hB e37
    refine ⟨r33, rfl, ?_⟩
    obtain rfl := hr.trans H.symm
    exact ⟨rfl, hB⟩
   obtain rfl := hr.trans H.symm
   exact ⟨rfl, hB⟩
  obtain rfl := hr.trans H.symm
  exact ⟨rfl, hB⟩
def impl_LaneOk.vc (A0 : Option Addr) (n0 : Nat) (c0 : Nat) (x1_0 : Int) (x1_1 : Int) (A1_2 : Option Addr) (n1_2 : Nat) (c1_2 : Nat) (w : World) (K : Value → World → Prop) : Prop :=
  newK w (.cells #[(.int .i64 x1_0), (.int .i64 x1_1), (.slice A1_2 n1_2 c1_2)] 79) fun g21 w22 => Cll Tryz.prog 73 #[(.slice A0 n0 c0)] w22 fun v23 w24 => (∃ (b25 : Bool), v23 = (.bool b25) ∧ bcase b25 (∃ (n26 : Int), w24.cell? ((⟨g21, 0, none⟩ : Addr).add 0) = some (.int .i64 n26) ∧ ∃ (n27 : Int), w24.cell? ((⟨g21, 0, none⟩ : Addr).add 1) = some (.int .i64 n27) ∧ ∃ (A28 : Option Addr) (n29 : Nat) (c30 : Nat), w24.cell? ((⟨g21, 0, none⟩ : Addr).add 2) = some (.slice A28 n29 c30) ∧ Cll Tryz.prog 226 #[(.slice A0 n0 c0), (.agg #[(.int .i64 n26), (.int .i64 n27), (.slice A28 n29 c30)])] w24 fun v31 w32 => (∃ (b33 : Bool), v31 = (.bool b33) ∧ K (.bool b33) w32)) (K (.bool false) w24))

def impl_LaneOk.ann : Ann := (.seq .l (.seq .l .l))

theorem impl_LaneOk.con {xs0 : List D.Ins} {A0 : Option Addr} {c0 : Nat} {s1 : D.Lane} {A1_2 : Option Addr} {c1_2 : Nat} {r : Bool} {w : World} (hp : M.impl_LaneOk_pre xs0 s1) (hr : r = M.impl_LaneOk xs0 s1) (R0 : Row el91 w A0 xs0) (hc0 : xs0.length ≤ c0) (R1_2 : Row el3 w A1_2 s1.Regs) (hc1_2 : s1.Regs.length ≤ c1_2) :
    Cll Tryz.prog 194 #[(.slice A0 xs0.length c0), (.agg #[(.int .i64 s1.Thread), (.int .i64 s1.Pc), (.slice A1_2 s1.Regs.length c1_2)])] w (fun v_ w_ => v_ = (.bool r) ∧ Ext w w_) := by
  have H := wp.impl_LaneOk.math xs0 s1 hp
  have hB := Ext.refl w
  refine beginF mixed (fn := Tryz.f194) (by kernel_rfl) (by kernel_rfl) (an := impl_LaneOk.ann) (V := impl_LaneOk.vc A0 xs0.length c0 s1.Thread s1.Pc A1_2 s1.Regs.length c1_2) (by kernel_rfl) ?_
  unfold impl_LaneOk.vc
  unfold wp.impl_LaneOk at H
  refine newBlk (fun g3_ w21 L3 P3 e22 => ?_)
  have O3 := P3
  have L3 := Nat.le_trans hB.size L3
  have hB := ethen hB e22
  obtain ⟨hp25, H⟩ := H
  obtain ⟨r23, hr24, H⟩ := callO H
  refine (impl_ProgramOk.con hp25 hr24 (R0.ext hB) hc0).mono ?_
  rintro _ w26 ⟨rfl, e27⟩
  have O3 := O3.ext e27
  have hB := ethen hB e27
  refine ⟨r23, rfl, ?_⟩
  refine brc H (fun hc33 H => ?_) (fun hc33 H => ?_)
  ·refine ⟨_, (O3.at 0 rfl rfl), _, (O3.at 1 rfl rfl), _, _, _, (O3.at 2 rfl rfl), ?_⟩
   obtain ⟨hp30, H⟩ := H
   obtain ⟨r28, hr29, H⟩ := callO H
   refine (impl_isLaneOf.con hp30 hr29 (R0.ext hB) hc0 (R1_2.ext hB) hc1_2).mono ?_
   rintro _ w31 ⟨rfl, e32⟩
   have O3 := O3.ext e32
   have hB := ethen hB e32
   refine ⟨r28, rfl, ?_⟩
   obtain rfl := hr.trans H.symm
   exact ⟨rfl, hB⟩
  obtain rfl := hr.trans H.symm
  exact ⟨rfl, hB⟩
def impl_SubWords.vc (x0 : Int) (x1 : Int) (w : World) (K : Value → World → Prop) : Prop :=
  Cll Tryz.prog 206 #[(.int .i64 x0), (.int .i64 x1), (.int .i64 (IntKind.wrap .i64 (x0 - x1)))] w fun v21 w22 => (∃ (n23 : Int), v21 = (.int .i64 n23) ∧ K (.int .i64 n23) w22)

def impl_SubWords.ann : Ann := (.seq .l (.seq .l .l))

theorem impl_SubWords.con {x0 : Int} {x1 : Int} {r : Int} {w : World} (hr : r = M.impl_SubWords x0 x1)  :
    Cll Tryz.prog 223 #[(.int .i64 x0), (.int .i64 x1)] w (fun v_ w_ => v_ = (.int .i64 r) ∧ Ext w w_) := by
  have H := wp.impl_SubWords.math x0 x1
  have hB := Ext.refl w
  refine beginF mixed (fn := Tryz.f223) (by kernel_rfl) (by kernel_rfl) (an := impl_SubWords.ann) (V := impl_SubWords.vc x0 x1) (by kernel_rfl) ?_
  unfold impl_SubWords.vc
  unfold wp.impl_SubWords at H
  obtain ⟨r21, hr22, H⟩ := callO H
  refine (impl_wrapped.con hr22 ).mono ?_
  rintro _ w24 ⟨rfl, e25⟩
  have hB := ethen hB e25
  refine ⟨r21, rfl, ?_⟩
  obtain rfl := hr.trans H.symm
  exact ⟨rfl, hB⟩
def impl_MulWords.vc (x0 : Int) (x1 : Int) (w : World) (K : Value → World → Prop) : Prop :=
  Cll Tryz.prog 206 #[(.int .i64 x0), (.int .i64 x1), (.int .i64 (IntKind.wrap .i64 (x0 * x1)))] w fun v21 w22 => (∃ (n23 : Int), v21 = (.int .i64 n23) ∧ K (.int .i64 n23) w22)

def impl_MulWords.ann : Ann := (.seq .l (.seq .l .l))

theorem impl_MulWords.con {x0 : Int} {x1 : Int} {r : Int} {w : World} (hr : r = M.impl_MulWords x0 x1)  :
    Cll Tryz.prog 224 #[(.int .i64 x0), (.int .i64 x1)] w (fun v_ w_ => v_ = (.int .i64 r) ∧ Ext w w_) := by
  have H := wp.impl_MulWords.math x0 x1
  have hB := Ext.refl w
  refine beginF mixed (fn := Tryz.f224) (by kernel_rfl) (by kernel_rfl) (an := impl_MulWords.ann) (V := impl_MulWords.vc x0 x1) (by kernel_rfl) ?_
  unfold impl_MulWords.vc
  unfold wp.impl_MulWords at H
  obtain ⟨r21, hr22, H⟩ := callO H
  refine (impl_wrapped.con hr22 ).mono ?_
  rintro _ w24 ⟨rfl, e25⟩
  have hB := ethen hB e25
  refine ⟨r21, rfl, ?_⟩
  obtain rfl := hr.trans H.symm
  exact ⟨rfl, hB⟩
def impl_LessWords.vc (x0 : Int) (x1 : Int) (w : World) (K : Value → World → Prop) : Prop :=
  Cll Tryz.prog 183 #[(.int .i64 x0)] w fun v21 w22 => (∃ (b23 : Bool), v21 = (.bool b23) ∧ bcase b23 (Cll Tryz.prog 183 #[(.int .i64 x1)] w22 fun v24 w25 => (∃ (b26 : Bool), v24 = (.bool b26) ∧ bcase b26 (bcase (decide (x0 < x1)) (K (.int .i64 1) w25) (K (.int .i64 0) w25)) (K (.int .i64 0) w25))) (K (.int .i64 0) w22))

def impl_LessWords.ann : Ann := (.seq .l (.seq (.seq .l (.two (.seq .l .l) .l)) (.seq .l .l)))

theorem impl_LessWords.con {x0 : Int} {x1 : Int} {r : Int} {w : World} (hr : r = M.impl_LessWords x0 x1)  :
    Cll Tryz.prog 225 #[(.int .i64 x0), (.int .i64 x1)] w (fun v_ w_ => v_ = (.int .i64 r) ∧ Ext w w_) := by
  have H := wp.impl_LessWords.math x0 x1
  have hB := Ext.refl w
  refine beginF mixed (fn := Tryz.f225) (by kernel_rfl) (by kernel_rfl) (an := impl_LessWords.ann) (V := impl_LessWords.vc x0 x1) (by kernel_rfl) ?_
  unfold impl_LessWords.vc
  unfold wp.impl_LessWords at H
  obtain ⟨r21, hr22, H⟩ := callO H
  refine (impl_IsWord.con hr22 ).mono ?_
  rintro _ w24 ⟨rfl, e25⟩
  have hB := ethen hB e25
  refine ⟨r21, rfl, ?_⟩
  refine brc H (fun hc33 H => ?_) (fun hc33 H => ?_)
  ·obtain ⟨r26, hr27, H⟩ := callO H
   refine (impl_IsWord.con hr27 ).mono ?_
   rintro _ w29 ⟨rfl, e30⟩
   have hB := ethen hB e30
   refine ⟨r26, rfl, ?_⟩
   refine brc H (fun hc32 H => ?_) (fun hc32 H => ?_)
   ·refine brc H (fun hc31 H => ?_) (fun hc31 H => ?_)
    ·obtain rfl := hr.trans H.symm
     exact ⟨rfl, hB⟩
    obtain rfl := hr.trans H.symm
    exact ⟨rfl, hB⟩
   obtain rfl := hr.trans H.symm
   exact ⟨rfl, hB⟩
  obtain rfl := hr.trans H.symm
  exact ⟨rfl, hB⟩
def impl_apply.vc (x0_0 : Int) (x0_1 : Int) (x0_2 : Int) (x0_3 : Int) (x1 : Int) (A2 : Option Addr) (n2 : Nat) (c2 : Nat) (w : World) (K : Value → World → Prop) : Prop :=
  newK w (.cells #[(.int .i64 x0_0), (.int .i64 x0_1), (.int .i64 x0_2), (.int .i64 x0_3)] 91) fun g21 w22 => ∃ (n23 : Int), w22.cell? (((⟨g21, 0, none⟩ : Addr).add 0).add 0) = some (.int .i64 n23) ∧ bcase (n23 == 1) (∃ (n24 : Int), w22.cell? (((⟨g21, 0, none⟩ : Addr).add 1).add 0) = some (.int .i64 n24) ∧ ∃ (n25 : Int), w22.cell? (((⟨g21, 0, none⟩ : Addr).add 2).add 0) = some (.int .i64 n25) ∧ ((0 : Int) ≤ n24 ∧ n24 < ((n2 : Nat) : Int) ∧ ∃ a26 : Addr, A2 = some a26 ∧ stCells (a26.add ((n24.toNat) * 1)) [(.int .i64 n25)] 0 w22 fun w27 => K (.tuple #[]) w27)) (bcase (n23 == 2) ((∃ M28 : Nat → Prop, ∃ (n29 : Int), (¬ M28 (((⟨g21, 0, none⟩ : Addr).add 1)).block ∧ w22.cell? (((⟨g21, 0, none⟩ : Addr).add 1).add 0) = some (.int .i64 n29)) ∧ ∃ (n30 : Int), (¬ M28 (((⟨g21, 0, none⟩ : Addr).add 2)).block ∧ w22.cell? (((⟨g21, 0, none⟩ : Addr).add 2).add 0) = some (.int .i64 n30)) ∧ ((0 : Int) ≤ n30 ∧ n30 < ((n2 : Nat) : Int) ∧ ∃ a31 : Addr, A2 = some a31 ∧ ∃ (n32 : Int), (¬ M28 ((a31.add ((n30.toNat) * 1))).block ∧ w22.cell? ((a31.add ((n30.toNat) * 1)).add 0) = some (.int .i64 n32)) ∧ ((0 : Int) ≤ n29 ∧ n29 < ((n2 : Nat) : Int) ∧ ∃ a33 : Addr, A2 = some a33 ∧ stCells (a33.add ((n29.toNat) * 1)) [(.int .i64 n32)] 0 w22.drew fun w34 => K (.tuple #[]) w34)))) (bcase (n23 == 3) ((∃ M35 : Nat → Prop, ∃ (n36 : Int), (¬ M35 (((⟨g21, 0, none⟩ : Addr).add 1)).block ∧ w22.cell? (((⟨g21, 0, none⟩ : Addr).add 1).add 0) = some (.int .i64 n36)) ∧ ∃ (n37 : Int), (¬ M35 (((⟨g21, 0, none⟩ : Addr).add 2)).block ∧ w22.cell? (((⟨g21, 0, none⟩ : Addr).add 2).add 0) = some (.int .i64 n37)) ∧ ((0 : Int) ≤ n37 ∧ n37 < ((n2 : Nat) : Int) ∧ ∃ a38 : Addr, A2 = some a38 ∧ ∃ (n39 : Int), (¬ M35 ((a38.add ((n37.toNat) * 1))).block ∧ w22.cell? ((a38.add ((n37.toNat) * 1)).add 0) = some (.int .i64 n39)) ∧ ∃ (n40 : Int), (¬ M35 (((⟨g21, 0, none⟩ : Addr).add 3)).block ∧ w22.cell? (((⟨g21, 0, none⟩ : Addr).add 3).add 0) = some (.int .i64 n40)) ∧ ((0 : Int) ≤ n40 ∧ n40 < ((n2 : Nat) : Int) ∧ ∃ a41 : Addr, A2 = some a41 ∧ ∃ (n42 : Int), (¬ M35 ((a41.add ((n40.toNat) * 1))).block ∧ w22.cell? ((a41.add ((n40.toNat) * 1)).add 0) = some (.int .i64 n42)) ∧ Cll Tryz.prog 181 #[(.int .i64 n39), (.int .i64 n42)] w22.drew fun v43 w44 => (∃ (n45 : Int), v43 = (.int .i64 n45) ∧ SameBut M35 w22 w44 ∧ ((0 : Int) ≤ n36 ∧ n36 < ((n2 : Nat) : Int) ∧ ∃ a46 : Addr, A2 = some a46 ∧ stCells (a46.add ((n36.toNat) * 1)) [(.int .i64 n45)] 0 w44 fun w47 => K (.tuple #[]) w47)))))) (bcase (n23 == 4) ((∃ M48 : Nat → Prop, ∃ (n49 : Int), (¬ M48 (((⟨g21, 0, none⟩ : Addr).add 1)).block ∧ w22.cell? (((⟨g21, 0, none⟩ : Addr).add 1).add 0) = some (.int .i64 n49)) ∧ ∃ (n50 : Int), (¬ M48 (((⟨g21, 0, none⟩ : Addr).add 2)).block ∧ w22.cell? (((⟨g21, 0, none⟩ : Addr).add 2).add 0) = some (.int .i64 n50)) ∧ ((0 : Int) ≤ n50 ∧ n50 < ((n2 : Nat) : Int) ∧ ∃ a51 : Addr, A2 = some a51 ∧ ∃ (n52 : Int), (¬ M48 ((a51.add ((n50.toNat) * 1))).block ∧ w22.cell? ((a51.add ((n50.toNat) * 1)).add 0) = some (.int .i64 n52)) ∧ ∃ (n53 : Int), (¬ M48 (((⟨g21, 0, none⟩ : Addr).add 3)).block ∧ w22.cell? (((⟨g21, 0, none⟩ : Addr).add 3).add 0) = some (.int .i64 n53)) ∧ ((0 : Int) ≤ n53 ∧ n53 < ((n2 : Nat) : Int) ∧ ∃ a54 : Addr, A2 = some a54 ∧ ∃ (n55 : Int), (¬ M48 ((a54.add ((n53.toNat) * 1))).block ∧ w22.cell? ((a54.add ((n53.toNat) * 1)).add 0) = some (.int .i64 n55)) ∧ Cll Tryz.prog 223 #[(.int .i64 n52), (.int .i64 n55)] w22.drew fun v56 w57 => (∃ (n58 : Int), v56 = (.int .i64 n58) ∧ SameBut M48 w22 w57 ∧ ((0 : Int) ≤ n49 ∧ n49 < ((n2 : Nat) : Int) ∧ ∃ a59 : Addr, A2 = some a59 ∧ stCells (a59.add ((n49.toNat) * 1)) [(.int .i64 n58)] 0 w57 fun w60 => K (.tuple #[]) w60)))))) (bcase (n23 == 5) ((∃ M61 : Nat → Prop, ∃ (n62 : Int), (¬ M61 (((⟨g21, 0, none⟩ : Addr).add 1)).block ∧ w22.cell? (((⟨g21, 0, none⟩ : Addr).add 1).add 0) = some (.int .i64 n62)) ∧ ∃ (n63 : Int), (¬ M61 (((⟨g21, 0, none⟩ : Addr).add 2)).block ∧ w22.cell? (((⟨g21, 0, none⟩ : Addr).add 2).add 0) = some (.int .i64 n63)) ∧ ((0 : Int) ≤ n63 ∧ n63 < ((n2 : Nat) : Int) ∧ ∃ a64 : Addr, A2 = some a64 ∧ ∃ (n65 : Int), (¬ M61 ((a64.add ((n63.toNat) * 1))).block ∧ w22.cell? ((a64.add ((n63.toNat) * 1)).add 0) = some (.int .i64 n65)) ∧ ∃ (n66 : Int), (¬ M61 (((⟨g21, 0, none⟩ : Addr).add 3)).block ∧ w22.cell? (((⟨g21, 0, none⟩ : Addr).add 3).add 0) = some (.int .i64 n66)) ∧ ((0 : Int) ≤ n66 ∧ n66 < ((n2 : Nat) : Int) ∧ ∃ a67 : Addr, A2 = some a67 ∧ ∃ (n68 : Int), (¬ M61 ((a67.add ((n66.toNat) * 1))).block ∧ w22.cell? ((a67.add ((n66.toNat) * 1)).add 0) = some (.int .i64 n68)) ∧ Cll Tryz.prog 224 #[(.int .i64 n65), (.int .i64 n68)] w22.drew fun v69 w70 => (∃ (n71 : Int), v69 = (.int .i64 n71) ∧ SameBut M61 w22 w70 ∧ ((0 : Int) ≤ n62 ∧ n62 < ((n2 : Nat) : Int) ∧ ∃ a72 : Addr, A2 = some a72 ∧ stCells (a72.add ((n62.toNat) * 1)) [(.int .i64 n71)] 0 w70 fun w73 => K (.tuple #[]) w73)))))) (bcase (n23 == 6) ((∃ M74 : Nat → Prop, ∃ (n75 : Int), (¬ M74 (((⟨g21, 0, none⟩ : Addr).add 1)).block ∧ w22.cell? (((⟨g21, 0, none⟩ : Addr).add 1).add 0) = some (.int .i64 n75)) ∧ ∃ (n76 : Int), (¬ M74 (((⟨g21, 0, none⟩ : Addr).add 2)).block ∧ w22.cell? (((⟨g21, 0, none⟩ : Addr).add 2).add 0) = some (.int .i64 n76)) ∧ ((0 : Int) ≤ n76 ∧ n76 < ((n2 : Nat) : Int) ∧ ∃ a77 : Addr, A2 = some a77 ∧ ∃ (n78 : Int), (¬ M74 ((a77.add ((n76.toNat) * 1))).block ∧ w22.cell? ((a77.add ((n76.toNat) * 1)).add 0) = some (.int .i64 n78)) ∧ ∃ (n79 : Int), (¬ M74 (((⟨g21, 0, none⟩ : Addr).add 3)).block ∧ w22.cell? (((⟨g21, 0, none⟩ : Addr).add 3).add 0) = some (.int .i64 n79)) ∧ ((0 : Int) ≤ n79 ∧ n79 < ((n2 : Nat) : Int) ∧ ∃ a80 : Addr, A2 = some a80 ∧ ∃ (n81 : Int), (¬ M74 ((a80.add ((n79.toNat) * 1))).block ∧ w22.cell? ((a80.add ((n79.toNat) * 1)).add 0) = some (.int .i64 n81)) ∧ ((0 : Int) ≤ n75 ∧ n75 < ((n2 : Nat) : Int) ∧ ∃ a82 : Addr, A2 = some a82 ∧ stCells (a82.add ((n75.toNat) * 1)) [(.int .i64 (bitXor .i64 n78 n81))] 0 w22.drew fun w83 => K (.tuple #[]) w83))))) (bcase (n23 == 7) ((∃ M84 : Nat → Prop, ∃ (n85 : Int), (¬ M84 (((⟨g21, 0, none⟩ : Addr).add 1)).block ∧ w22.cell? (((⟨g21, 0, none⟩ : Addr).add 1).add 0) = some (.int .i64 n85)) ∧ ∃ (n86 : Int), (¬ M84 (((⟨g21, 0, none⟩ : Addr).add 2)).block ∧ w22.cell? (((⟨g21, 0, none⟩ : Addr).add 2).add 0) = some (.int .i64 n86)) ∧ ((0 : Int) ≤ n86 ∧ n86 < ((n2 : Nat) : Int) ∧ ∃ a87 : Addr, A2 = some a87 ∧ ∃ (n88 : Int), (¬ M84 ((a87.add ((n86.toNat) * 1))).block ∧ w22.cell? ((a87.add ((n86.toNat) * 1)).add 0) = some (.int .i64 n88)) ∧ ∃ (n89 : Int), (¬ M84 (((⟨g21, 0, none⟩ : Addr).add 3)).block ∧ w22.cell? (((⟨g21, 0, none⟩ : Addr).add 3).add 0) = some (.int .i64 n89)) ∧ ((0 : Int) ≤ n89 ∧ n89 < ((n2 : Nat) : Int) ∧ ∃ a90 : Addr, A2 = some a90 ∧ ∃ (n91 : Int), (¬ M84 ((a90.add ((n89.toNat) * 1))).block ∧ w22.cell? ((a90.add ((n89.toNat) * 1)).add 0) = some (.int .i64 n91)) ∧ Cll Tryz.prog 225 #[(.int .i64 n88), (.int .i64 n91)] w22.drew fun v92 w93 => (∃ (n94 : Int), v92 = (.int .i64 n94) ∧ SameBut M84 w22 w93 ∧ ((0 : Int) ≤ n85 ∧ n85 < ((n2 : Nat) : Int) ∧ ∃ a95 : Addr, A2 = some a95 ∧ stCells (a95.add ((n85.toNat) * 1)) [(.int .i64 n94)] 0 w93 fun w96 => K (.tuple #[]) w96)))))) (bcase (n23 == 8) (∃ (n97 : Int), w22.cell? (((⟨g21, 0, none⟩ : Addr).add 1).add 0) = some (.int .i64 n97) ∧ ((0 : Int) ≤ n97 ∧ n97 < ((n2 : Nat) : Int) ∧ ∃ a98 : Addr, A2 = some a98 ∧ stCells (a98.add ((n97.toNat) * 1)) [(.int .i64 x1)] 0 w22 fun w99 => K (.tuple #[]) w99)) (bcase (n23 == 9) (∃ (n100 : Int), w22.cell? (((⟨g21, 0, none⟩ : Addr).add 3).add 0) = some (.int .i64 n100) ∧ ((0 : Int) ≤ n100 ∧ n100 < ((n2 : Nat) : Int) ∧ ∃ a101 : Addr, A2 = some a101 ∧ ∃ (n102 : Int), w22.cell? ((a101.add ((n100.toNat) * 1)).add 0) = some (.int .i64 n102) ∧ bcase (n102 != 0) ((∃ M103 : Nat → Prop, ∃ (n104 : Int), (¬ M103 (((⟨g21, 0, none⟩ : Addr).add 1)).block ∧ w22.cell? (((⟨g21, 0, none⟩ : Addr).add 1).add 0) = some (.int .i64 n104)) ∧ ∃ (n105 : Int), (¬ M103 (((⟨g21, 0, none⟩ : Addr).add 2)).block ∧ w22.cell? (((⟨g21, 0, none⟩ : Addr).add 2).add 0) = some (.int .i64 n105)) ∧ ((0 : Int) ≤ n105 ∧ n105 < ((n2 : Nat) : Int) ∧ ∃ a106 : Addr, A2 = some a106 ∧ ∃ (n107 : Int), (¬ M103 ((a106.add ((n105.toNat) * 1))).block ∧ w22.cell? ((a106.add ((n105.toNat) * 1)).add 0) = some (.int .i64 n107)) ∧ ((0 : Int) ≤ n104 ∧ n104 < ((n2 : Nat) : Int) ∧ ∃ a108 : Addr, A2 = some a108 ∧ stCells (a108.add ((n104.toNat) * 1)) [(.int .i64 n107)] 0 w22.drew fun w109 => K (.tuple #[]) w109)))) (K (.tuple #[]) w22))) (K (.tuple #[]) w22)))))))))

def impl_apply.ann : Ann := (.seq .l (.seq .l (.one (.seq .l (.two .l (.seq .l (.two .l (.seq .l (.two .l (.seq .l (.two .l (.seq .l (.two .l (.seq .l (.two .l (.seq .l (.two .l (.seq .l (.two .l (.seq .l (.two (.seq .l (.two .l .l)) .l)))))))))))))))))))))

theorem impl_apply.con {s0 : D.Ins} {x1 : Int} {xs2 : List Int} {A2 : Option Addr} {c2 : Nat} {r : (List Int)} {w : World} (hp : M.impl_apply_pre s0 x1 xs2) (hr : r = M.impl_apply s0 x1 xs2) (O1 : Own el3 w 0 A2 c2 xs2) :
    Cll Tryz.prog 192 #[(.agg #[(.int .i64 s0.Op), (.int .i64 s0.A), (.int .i64 s0.B), (.int .i64 s0.C)]), (.int .i64 x1), (.slice A2 xs2.length c2)] w (fun v_ w_ => v_ = (.tuple #[]) ∧ Own el3 w_ 0 A2 c2 r ∧ r.length = xs2.length ∧ Chg (InB A2) w w_) := by
  have H := wp.impl_apply.math s0 x1 xs2 hp
  have hB := Chg.refl (InB A2) w
  refine beginF mixed (fn := Tryz.f192) (by kernel_rfl) (by kernel_rfl) (an := impl_apply.ann) (V := impl_apply.vc s0.Op s0.A s0.B s0.C x1 A2 xs2.length c2) (by kernel_rfl) ?_
  unfold impl_apply.vc
  unfold wp.impl_apply at H
  refine newBlk (fun g2_ w21 L2 P2 e22 => ?_)
  have N1_2 := O1.apart_new L2
  have O1 := O1.ext e22
  have O2 := P2
  have L2 := Nat.le_trans hB.size L2
  have hB := hB.then e22
  refine ⟨_, (O2.at 0 rfl rfl), ?_⟩
  refine brc H (fun hc276 H => ?_) (fun hc276 H => ?_)
  ·refine ⟨_, (O2.at 1 rfl rfl), _, (O2.at 2 rfl rfl), ?_⟩
   obtain ⟨⟨h0_26, h1_27⟩, H⟩ := H
   obtain ⟨a24, ha25, hat23⟩ := Row.at O1.row h0_26 h1_27
   refine ⟨h0_26, h1_27, a24, ha25, ?_⟩
   refine Own.storeAt O1 ha25 h0_26 h1_27 0 [(.int .i64 s0.B)] s0.B rfl (Nat.le_of_ble_eq_true rfl) rfl (fun w28 P1 e29 hb30 => ?_)
   have O2_ := O2.chg e29 (fun h_ => (N1_2) _ ha25 h_.symm)
   have O2 := O2_
   have hB := hB.chgb e29 (Or.inr ⟨_, ha25, rfl⟩)
   have O1 := P1
   obtain rfl := hr.trans H.symm
   exact ⟨rfl, O1, (by first | (simp only [List.length_set]; done) | (simp only [List.length_set, List.length_set]; done) | (simp; done) | (simp; omega) | omega), hB⟩
  refine brc H (fun hc275 H => ?_) (fun hc275 H => ?_)
  ·refine ⟨(fun _ => False), _, ⟨(fun h_ => h_), (O2.at 1 rfl rfl)⟩, _, ⟨(fun h_ => h_), (O2.at 2 rfl rfl)⟩, ?_⟩
   obtain ⟨⟨h0_35, h1_36⟩, H⟩ := H
   obtain ⟨a33, ha34, hat32⟩ := Row.at O1.row h0_35 h1_36
   refine ⟨h0_35, h1_36, a33, ha34, _, ⟨(fun h_ => h_), (hat32 0 _ rfl)⟩, ?_⟩
   obtain ⟨⟨h0_40, h1_41⟩, H⟩ := H
   obtain ⟨a38, ha39, hat37⟩ := Row.at O1.row h0_40 h1_41
   refine ⟨h0_40, h1_41, a38, ha39, ?_⟩
   have hS31 := Chg.refl (fun _ => False) w21
   have O1 := O1.ext (Ext.drew _)
   have O2 := O2.ext (Ext.drew _)
   have hB := hB.then (Ext.drew _)
   have hS31 := hS31.then (Ext.drew _)
   refine Own.storeAt O1 ha39 h0_40 h1_41 0 [(.int .i64 (rd xs2 s0.B))] (rd xs2 s0.B) rfl (Nat.le_of_ble_eq_true rfl) rfl (fun w42 P1 e43 hb44 => ?_)
   have O2_ := O2.chg e43 (fun h_ => (N1_2) _ ha39 h_.symm)
   have O2 := O2_
   have hB := hB.chgb e43 (Or.inr ⟨_, ha39, rfl⟩)
   have O1 := P1
   obtain rfl := hr.trans H.symm
   exact ⟨rfl, O1, (by first | (simp only [List.length_set]; done) | (simp only [List.length_set, List.length_set]; done) | (simp; done) | (simp; omega) | omega), hB⟩
  refine brc H (fun hc274 H => ?_) (fun hc274 H => ?_)
  ·refine ⟨(fun _ => False), ?_⟩
   have hBz := hB
   have Z1 := O1
   have Z2 := O2
   refine ⟨_, ⟨(fun h_ => h_), (O2.at 1 rfl rfl)⟩, _, ⟨(fun h_ => h_), (O2.at 2 rfl rfl)⟩, ?_⟩
   obtain ⟨⟨h0_69, h1_70⟩, H⟩ := H
   obtain ⟨a67, ha68, hat66⟩ := Row.at O1.row h0_69 h1_70
   refine ⟨h0_69, h1_70, a67, ha68, _, ⟨(fun h_ => h_), (hat66 0 _ rfl)⟩, _, ⟨(fun h_ => h_), (O2.at 3 rfl rfl)⟩, ?_⟩
   obtain ⟨⟨h0_74, h1_75⟩, H⟩ := H
   obtain ⟨a72, ha73, hat71⟩ := Row.at O1.row h0_74 h1_75
   refine ⟨h0_74, h1_75, a72, ha73, _, ⟨(fun h_ => h_), (hat71 0 _ rfl)⟩, ?_⟩
   have hS45 := Chg.refl (fun _ => False) w21
   have O1 := O1.ext (Ext.drew _)
   have O2 := O2.ext (Ext.drew _)
   have hB := hB.then (Ext.drew _)
   have hS45 := hS45.then (Ext.drew _)
   obtain ⟨r76, hr77, H⟩ := callO H
   refine (impl_AddWords.con hr77 ).mono ?_
   rintro _ w79 ⟨rfl, e80⟩
   have O1 := O1.ext e80
   have O2 := O2.ext e80
   have hB := hB.then e80
   have hS45 := hS45.then e80
   refine ⟨r76, rfl, sameBut_chg hS45, ?_⟩
   obtain ⟨⟨h0_84, h1_85⟩, H⟩ := H
   obtain ⟨a82, ha83, hat81⟩ := Row.at Z1.row h0_84 h1_85
   refine ⟨h0_84, h1_85, a82, ha83, ?_⟩
   refine Own.storeAt O1 ha83 h0_84 h1_85 0 [(.int .i64 r76)] r76 rfl (Nat.le_of_ble_eq_true rfl) rfl (fun w86 P1 e87 hb88 => ?_)
   have O2_ := O2.chg e87 (fun h_ => (N1_2) _ ha83 h_.symm)
   have O2 := O2_
   have hB := hB.chgb e87 (Or.inr ⟨_, ha83, rfl⟩)
   have O1 := P1
   obtain rfl := hr.trans H.symm
   exact ⟨rfl, O1, (by first | (simp only [List.length_set]; done) | (simp only [List.length_set, List.length_set]; done) | (simp; done) | (simp; omega) | omega), hB⟩
  refine brc H (fun hc273 H => ?_) (fun hc273 H => ?_)
  ·refine ⟨(fun _ => False), ?_⟩
   have hBz := hB
   have Z1 := O1
   have Z2 := O2
   refine ⟨_, ⟨(fun h_ => h_), (O2.at 1 rfl rfl)⟩, _, ⟨(fun h_ => h_), (O2.at 2 rfl rfl)⟩, ?_⟩
   obtain ⟨⟨h0_113, h1_114⟩, H⟩ := H
   obtain ⟨a111, ha112, hat110⟩ := Row.at O1.row h0_113 h1_114
   refine ⟨h0_113, h1_114, a111, ha112, _, ⟨(fun h_ => h_), (hat110 0 _ rfl)⟩, _, ⟨(fun h_ => h_), (O2.at 3 rfl rfl)⟩, ?_⟩
   obtain ⟨⟨h0_118, h1_119⟩, H⟩ := H
   obtain ⟨a116, ha117, hat115⟩ := Row.at O1.row h0_118 h1_119
   refine ⟨h0_118, h1_119, a116, ha117, _, ⟨(fun h_ => h_), (hat115 0 _ rfl)⟩, ?_⟩
   have hS89 := Chg.refl (fun _ => False) w21
   have O1 := O1.ext (Ext.drew _)
   have O2 := O2.ext (Ext.drew _)
   have hB := hB.then (Ext.drew _)
   have hS89 := hS89.then (Ext.drew _)
   obtain ⟨r120, hr121, H⟩ := callO H
   refine (impl_SubWords.con hr121 ).mono ?_
   rintro _ w123 ⟨rfl, e124⟩
   have O1 := O1.ext e124
   have O2 := O2.ext e124
   have hB := hB.then e124
   have hS89 := hS89.then e124
   refine ⟨r120, rfl, sameBut_chg hS89, ?_⟩
   obtain ⟨⟨h0_128, h1_129⟩, H⟩ := H
   obtain ⟨a126, ha127, hat125⟩ := Row.at Z1.row h0_128 h1_129
   refine ⟨h0_128, h1_129, a126, ha127, ?_⟩
   refine Own.storeAt O1 ha127 h0_128 h1_129 0 [(.int .i64 r120)] r120 rfl (Nat.le_of_ble_eq_true rfl) rfl (fun w130 P1 e131 hb132 => ?_)
   have O2_ := O2.chg e131 (fun h_ => (N1_2) _ ha127 h_.symm)
   have O2 := O2_
   have hB := hB.chgb e131 (Or.inr ⟨_, ha127, rfl⟩)
   have O1 := P1
   obtain rfl := hr.trans H.symm
   exact ⟨rfl, O1, (by first | (simp only [List.length_set]; done) | (simp only [List.length_set, List.length_set]; done) | (simp; done) | (simp; omega) | omega), hB⟩
  refine brc H (fun hc272 H => ?_) (fun hc272 H => ?_)
  ·refine ⟨(fun _ => False), ?_⟩
   have hBz := hB
   have Z1 := O1
   have Z2 := O2
   refine ⟨_, ⟨(fun h_ => h_), (O2.at 1 rfl rfl)⟩, _, ⟨(fun h_ => h_), (O2.at 2 rfl rfl)⟩, ?_⟩
   obtain ⟨⟨h0_157, h1_158⟩, H⟩ := H
   obtain ⟨a155, ha156, hat154⟩ := Row.at O1.row h0_157 h1_158
   refine ⟨h0_157, h1_158, a155, ha156, _, ⟨(fun h_ => h_), (hat154 0 _ rfl)⟩, _, ⟨(fun h_ => h_), (O2.at 3 rfl rfl)⟩, ?_⟩
   obtain ⟨⟨h0_162, h1_163⟩, H⟩ := H
   obtain ⟨a160, ha161, hat159⟩ := Row.at O1.row h0_162 h1_163
   refine ⟨h0_162, h1_163, a160, ha161, _, ⟨(fun h_ => h_), (hat159 0 _ rfl)⟩, ?_⟩
   have hS133 := Chg.refl (fun _ => False) w21
   have O1 := O1.ext (Ext.drew _)
   have O2 := O2.ext (Ext.drew _)
   have hB := hB.then (Ext.drew _)
   have hS133 := hS133.then (Ext.drew _)
   obtain ⟨r164, hr165, H⟩ := callO H
   refine (impl_MulWords.con hr165 ).mono ?_
   rintro _ w167 ⟨rfl, e168⟩
   have O1 := O1.ext e168
   have O2 := O2.ext e168
   have hB := hB.then e168
   have hS133 := hS133.then e168
   refine ⟨r164, rfl, sameBut_chg hS133, ?_⟩
   obtain ⟨⟨h0_172, h1_173⟩, H⟩ := H
   obtain ⟨a170, ha171, hat169⟩ := Row.at Z1.row h0_172 h1_173
   refine ⟨h0_172, h1_173, a170, ha171, ?_⟩
   refine Own.storeAt O1 ha171 h0_172 h1_173 0 [(.int .i64 r164)] r164 rfl (Nat.le_of_ble_eq_true rfl) rfl (fun w174 P1 e175 hb176 => ?_)
   have O2_ := O2.chg e175 (fun h_ => (N1_2) _ ha171 h_.symm)
   have O2 := O2_
   have hB := hB.chgb e175 (Or.inr ⟨_, ha171, rfl⟩)
   have O1 := P1
   obtain rfl := hr.trans H.symm
   exact ⟨rfl, O1, (by first | (simp only [List.length_set]; done) | (simp only [List.length_set, List.length_set]; done) | (simp; done) | (simp; omega) | omega), hB⟩
  refine brc H (fun hc271 H => ?_) (fun hc271 H => ?_)
  ·refine ⟨(fun _ => False), _, ⟨(fun h_ => h_), (O2.at 1 rfl rfl)⟩, _, ⟨(fun h_ => h_), (O2.at 2 rfl rfl)⟩, ?_⟩
   obtain ⟨⟨h0_181, h1_182⟩, H⟩ := H
   obtain ⟨a179, ha180, hat178⟩ := Row.at O1.row h0_181 h1_182
   refine ⟨h0_181, h1_182, a179, ha180, _, ⟨(fun h_ => h_), (hat178 0 _ rfl)⟩, _, ⟨(fun h_ => h_), (O2.at 3 rfl rfl)⟩, ?_⟩
   obtain ⟨⟨h0_186, h1_187⟩, H⟩ := H
   obtain ⟨a184, ha185, hat183⟩ := Row.at O1.row h0_186 h1_187
   refine ⟨h0_186, h1_187, a184, ha185, _, ⟨(fun h_ => h_), (hat183 0 _ rfl)⟩, ?_⟩
   obtain ⟨⟨h0_191, h1_192⟩, H⟩ := H
   obtain ⟨a189, ha190, hat188⟩ := Row.at O1.row h0_191 h1_192
   refine ⟨h0_191, h1_192, a189, ha190, ?_⟩
   have hS177 := Chg.refl (fun _ => False) w21
   have O1 := O1.ext (Ext.drew _)
   have O2 := O2.ext (Ext.drew _)
   have hB := hB.then (Ext.drew _)
   have hS177 := hS177.then (Ext.drew _)
   refine Own.storeAt O1 ha190 h0_191 h1_192 0 [(.int .i64 (bitXor .i64 (rd xs2 s0.B) (rd xs2 s0.C)))] (bitXor .i64 (rd xs2 s0.B) (rd xs2 s0.C)) rfl (Nat.le_of_ble_eq_true rfl) rfl (fun w193 P1 e194 hb195 => ?_)
   have O2_ := O2.chg e194 (fun h_ => (N1_2) _ ha190 h_.symm)
   have O2 := O2_
   have hB := hB.chgb e194 (Or.inr ⟨_, ha190, rfl⟩)
   have O1 := P1
   obtain rfl := hr.trans H.symm
   exact ⟨rfl, O1, (by first | (simp only [List.length_set]; done) | (simp only [List.length_set, List.length_set]; done) | (simp; done) | (simp; omega) | omega), hB⟩
  refine brc H (fun hc270 H => ?_) (fun hc270 H => ?_)
  ·refine ⟨(fun _ => False), ?_⟩
   have hBz := hB
   have Z1 := O1
   have Z2 := O2
   refine ⟨_, ⟨(fun h_ => h_), (O2.at 1 rfl rfl)⟩, _, ⟨(fun h_ => h_), (O2.at 2 rfl rfl)⟩, ?_⟩
   obtain ⟨⟨h0_220, h1_221⟩, H⟩ := H
   obtain ⟨a218, ha219, hat217⟩ := Row.at O1.row h0_220 h1_221
   refine ⟨h0_220, h1_221, a218, ha219, _, ⟨(fun h_ => h_), (hat217 0 _ rfl)⟩, _, ⟨(fun h_ => h_), (O2.at 3 rfl rfl)⟩, ?_⟩
   obtain ⟨⟨h0_225, h1_226⟩, H⟩ := H
   obtain ⟨a223, ha224, hat222⟩ := Row.at O1.row h0_225 h1_226
   refine ⟨h0_225, h1_226, a223, ha224, _, ⟨(fun h_ => h_), (hat222 0 _ rfl)⟩, ?_⟩
   have hS196 := Chg.refl (fun _ => False) w21
   have O1 := O1.ext (Ext.drew _)
   have O2 := O2.ext (Ext.drew _)
   have hB := hB.then (Ext.drew _)
   have hS196 := hS196.then (Ext.drew _)
   obtain ⟨r227, hr228, H⟩ := callO H
   refine (impl_LessWords.con hr228 ).mono ?_
   rintro _ w230 ⟨rfl, e231⟩
   have O1 := O1.ext e231
   have O2 := O2.ext e231
   have hB := hB.then e231
   have hS196 := hS196.then e231
   refine ⟨r227, rfl, sameBut_chg hS196, ?_⟩
   obtain ⟨⟨h0_235, h1_236⟩, H⟩ := H
   obtain ⟨a233, ha234, hat232⟩ := Row.at Z1.row h0_235 h1_236
   refine ⟨h0_235, h1_236, a233, ha234, ?_⟩
   refine Own.storeAt O1 ha234 h0_235 h1_236 0 [(.int .i64 r227)] r227 rfl (Nat.le_of_ble_eq_true rfl) rfl (fun w237 P1 e238 hb239 => ?_)
   have O2_ := O2.chg e238 (fun h_ => (N1_2) _ ha234 h_.symm)
   have O2 := O2_
   have hB := hB.chgb e238 (Or.inr ⟨_, ha234, rfl⟩)
   have O1 := P1
   obtain rfl := hr.trans H.symm
   exact ⟨rfl, O1, (by first | (simp only [List.length_set]; done) | (simp only [List.length_set, List.length_set]; done) | (simp; done) | (simp; omega) | omega), hB⟩
  refine brc H (fun hc269 H => ?_) (fun hc269 H => ?_)
  ·refine ⟨_, (O2.at 1 rfl rfl), ?_⟩
   obtain ⟨⟨h0_243, h1_244⟩, H⟩ := H
   obtain ⟨a241, ha242, hat240⟩ := Row.at O1.row h0_243 h1_244
   refine ⟨h0_243, h1_244, a241, ha242, ?_⟩
   refine Own.storeAt O1 ha242 h0_243 h1_244 0 [(.int .i64 x1)] x1 rfl (Nat.le_of_ble_eq_true rfl) rfl (fun w245 P1 e246 hb247 => ?_)
   have O2_ := O2.chg e246 (fun h_ => (N1_2) _ ha242 h_.symm)
   have O2 := O2_
   have hB := hB.chgb e246 (Or.inr ⟨_, ha242, rfl⟩)
   have O1 := P1
   obtain rfl := hr.trans H.symm
   exact ⟨rfl, O1, (by first | (simp only [List.length_set]; done) | (simp only [List.length_set, List.length_set]; done) | (simp; done) | (simp; omega) | omega), hB⟩
  refine brc H (fun hc268 H => ?_) (fun hc268 H => ?_)
  ·refine ⟨_, (O2.at 3 rfl rfl), ?_⟩
   obtain ⟨⟨h0_251, h1_252⟩, H⟩ := H
   obtain ⟨a249, ha250, hat248⟩ := Row.at O1.row h0_251 h1_252
   refine ⟨h0_251, h1_252, a249, ha250, _, (hat248 0 _ rfl), ?_⟩
   refine brc H (fun hc267 H => ?_) (fun hc267 H => ?_)
   ·refine ⟨(fun _ => False), _, ⟨(fun h_ => h_), (O2.at 1 rfl rfl)⟩, _, ⟨(fun h_ => h_), (O2.at 2 rfl rfl)⟩, ?_⟩
    obtain ⟨⟨h0_257, h1_258⟩, H⟩ := H
    obtain ⟨a255, ha256, hat254⟩ := Row.at O1.row h0_257 h1_258
    refine ⟨h0_257, h1_258, a255, ha256, _, ⟨(fun h_ => h_), (hat254 0 _ rfl)⟩, ?_⟩
    obtain ⟨⟨h0_262, h1_263⟩, H⟩ := H
    obtain ⟨a260, ha261, hat259⟩ := Row.at O1.row h0_262 h1_263
    refine ⟨h0_262, h1_263, a260, ha261, ?_⟩
    have hS253 := Chg.refl (fun _ => False) w21
    have O1 := O1.ext (Ext.drew _)
    have O2 := O2.ext (Ext.drew _)
    have hB := hB.then (Ext.drew _)
    have hS253 := hS253.then (Ext.drew _)
    refine Own.storeAt O1 ha261 h0_262 h1_263 0 [(.int .i64 (rd xs2 s0.B))] (rd xs2 s0.B) rfl (Nat.le_of_ble_eq_true rfl) rfl (fun w264 P1 e265 hb266 => ?_)
    have O2_ := O2.chg e265 (fun h_ => (N1_2) _ ha261 h_.symm)
    have O2 := O2_
    have hB := hB.chgb e265 (Or.inr ⟨_, ha261, rfl⟩)
    have O1 := P1
    obtain rfl := hr.trans H.symm
    exact ⟨rfl, O1, (by first | (simp only [List.length_set]; done) | (simp only [List.length_set, List.length_set]; done) | (simp; done) | (simp; omega) | omega), hB⟩
   obtain rfl := hr.trans H.symm
   exact ⟨rfl, O1, rfl, hB⟩
  obtain rfl := hr.trans H.symm
  exact ⟨rfl, O1, rfl, hB⟩
def impl_Lane_pass.vc (p0 : Addr) (A1 : Option Addr) (n1 : Nat) (c1 : Nat) (w : World) (K : Value → World → Prop) : Prop :=
  ∃ (n22 : Int), w.cell? ((p0.add 1).add 0) = some (.int .i64 n22) ∧ bcase (n22 == ((n1 : Nat) : Int)) (K (.bool false) w) (∃ (n23 : Int), w.cell? ((p0.add 1).add 0) = some (.int .i64 n23) ∧ ((0 : Int) ≤ n23 ∧ n23 < ((n1 : Nat) : Int) ∧ ∃ a24 : Addr, A1 = some a24 ∧ ∃ (n25 : Int), w.cell? ((a24.add ((n23.toNat) * 4)).add 0) = some (.int .i64 n25) ∧ ∃ (n26 : Int), w.cell? ((a24.add ((n23.toNat) * 4)).add 1) = some (.int .i64 n26) ∧ ∃ (n27 : Int), w.cell? ((a24.add ((n23.toNat) * 4)).add 2) = some (.int .i64 n27) ∧ ∃ (n28 : Int), w.cell? ((a24.add ((n23.toNat) * 4)).add 3) = some (.int .i64 n28) ∧ Cll Tryz.prog 76 #[(.agg #[(.int .i64 n25), (.int .i64 n26), (.int .i64 n27), (.int .i64 n28)])] w fun v29 w30 => (∃ (b31 : Bool), v29 = (.bool b31) ∧ bcase (!b31) (K (.bool false) w30) (∃ (n32 : Int), w30.cell? ((p0.add 1).add 0) = some (.int .i64 n32) ∧ ((0 : Int) ≤ n32 ∧ n32 < ((n1 : Nat) : Int) ∧ ∃ a33 : Addr, A1 = some a33 ∧ ∃ (n34 : Int), w30.cell? ((a33.add ((n32.toNat) * 4)).add 0) = some (.int .i64 n34) ∧ ∃ (n35 : Int), w30.cell? ((a33.add ((n32.toNat) * 4)).add 1) = some (.int .i64 n35) ∧ ∃ (n36 : Int), w30.cell? ((a33.add ((n32.toNat) * 4)).add 2) = some (.int .i64 n36) ∧ ∃ (n37 : Int), w30.cell? ((a33.add ((n32.toNat) * 4)).add 3) = some (.int .i64 n37) ∧ newK w30 (.cells #[(.int .i64 0), (.int .i64 0), (.int .i64 0), (.int .i64 0)] 91) fun g38 w39 => stCells (⟨g38, 0, none⟩ : Addr) [(.int .i64 n34), (.int .i64 n35), (.int .i64 n36), (.int .i64 n37)] 0 w39 fun w40 => ∃ (n41 : Int), w40.cell? (((⟨g38, 0, none⟩ : Addr).add 0).add 0) = some (.int .i64 n41) ∧ bcase (n41 == 12) (stCells (p0.add 1) [(.int .i64 ((n1 : Nat) : Int))] 0 w40 fun w42 => K (.bool true) w42) (JoinT (σ := Bool × Unit) (fun J43 => ∃ (n44 : Int), w40.cell? (((⟨g38, 0, none⟩ : Addr).add 0).add 0) = some (.int .i64 n44) ∧ bcase (n44 == 11) (J43 (true, ()) w40.drew) (∃ (n45 : Int), w40.cell? (((⟨g38, 0, none⟩ : Addr).add 0).add 0) = some (.int .i64 n45) ∧ bcase (n45 == 10) (∃ (A46 : Option Addr) (n47 : Nat) (c48 : Nat), w40.cell? ((p0.add 2).add 0) = some (.slice A46 n47 c48) ∧ ∃ (n49 : Int), w40.cell? (((⟨g38, 0, none⟩ : Addr).add 1).add 0) = some (.int .i64 n49) ∧ ((0 : Int) ≤ n49 ∧ n49 < ((n47 : Nat) : Int) ∧ ∃ a50 : Addr, A46 = some a50 ∧ ∃ (n51 : Int), w40.cell? ((a50.add ((n49.toNat) * 1)).add 0) = some (.int .i64 n51) ∧ J43 ((n51 == 0), ()) w40.drew)) (J43 (false, ()) w40.drew))) fun z52 w53 => bcase z52.1 (∃ (n54 : Int), w53.cell? (((⟨g38, 0, none⟩ : Addr).add 2).add 0) = some (.int .i64 n54) ∧ stCells (p0.add 1) [(.int .i64 n54)] 0 w53 fun w55 => K (.bool true) w55) ((∃ M56 : Nat → Prop, ∃ (n57 : Int), (¬ M56 ((⟨g38, 0, none⟩ : Addr)).block ∧ w53.cell? ((⟨g38, 0, none⟩ : Addr).add 0) = some (.int .i64 n57)) ∧ ∃ (n58 : Int), (¬ M56 ((⟨g38, 0, none⟩ : Addr)).block ∧ w53.cell? ((⟨g38, 0, none⟩ : Addr).add 1) = some (.int .i64 n58)) ∧ ∃ (n59 : Int), (¬ M56 ((⟨g38, 0, none⟩ : Addr)).block ∧ w53.cell? ((⟨g38, 0, none⟩ : Addr).add 2) = some (.int .i64 n59)) ∧ ∃ (n60 : Int), (¬ M56 ((⟨g38, 0, none⟩ : Addr)).block ∧ w53.cell? ((⟨g38, 0, none⟩ : Addr).add 3) = some (.int .i64 n60)) ∧ ∃ (n61 : Int), (¬ M56 ((p0.add 0)).block ∧ w53.cell? ((p0.add 0).add 0) = some (.int .i64 n61)) ∧ ∃ (A62 : Option Addr) (n63 : Nat) (c64 : Nat), (¬ M56 ((p0.add 2)).block ∧ w53.cell? ((p0.add 2).add 0) = some (.slice A62 n63 c64)) ∧ Cll Tryz.prog 192 #[(.agg #[(.int .i64 n57), (.int .i64 n58), (.int .i64 n59), (.int .i64 n60)]), (.int .i64 n61), (.slice A62 n63 c64)] w53.drew fun v65 w66 => (v65 = (.tuple #[]) ∧ SameBut M56 w53 w66 ∧ ∃ (n67 : Int), w66.cell? ((p0.add 1).add 0) = some (.int .i64 n67) ∧ stCells (p0.add 1) [(.int .i64 (IntKind.wrap .i64 (n67 + 1)))] 0 w66 fun w68 => K (.bool true) w68)))))))))

def impl_Lane_pass.ann : Ann := (.seq .l (.seq (.seq .l (.two (.seq .l .l) .l)) (.seq .l (.seq (.one (.seq .l (.two .l (.cut [(57, .bool)] .l (.two .l (.seq .l .l)))))) (.seq .l .l)))))

theorem impl_Lane_pass.con {s0 : D.Lane} {g1_ : Nat} {A0_2 : Option Addr} {c0_2 : Nat} {xs1 : List D.Ins} {A1 : Option Addr} {c1 : Nat} {r : Bool × D.Lane} {w : World} (hp : M.impl_Lane_pass_pre s0 xs1) (hr : r = M.impl_Lane_pass s0 xs1) (O1 : Blk w g1_ 79 #[(.int .i64 s0.Thread), (.int .i64 s0.Pc), (.slice A0_2 s0.Regs.length c0_2)]) (O2 : Own el3 w 0 A0_2 c0_2 s0.Regs) (R1 : Row el91 w A1 xs1) (hc1 : xs1.length ≤ c1) (D1 : xs1 ≠ [] → ∀ g, InB A1 g → ¬ (fun k_ => InB A0_2 k_ ∨ k_ = g1_) g) :
    Cll Tryz.prog 195 #[(.pointer (some (⟨g1_, 0, none⟩ : Addr))), (.slice A1 xs1.length c1)] w (fun v_ w_ => ∃ (A0_ : Option Addr) (c0_ : Nat), v_ = (.bool r.1) ∧ Blk w_ g1_ 79 #[(.int .i64 r.2.Thread), (.int .i64 r.2.Pc), (.slice A0_ r.2.Regs.length c0_)] ∧ Own el3 w_ 0 A0_ c0_ r.2.Regs ∧ Mov w A0_2 A0_ ∧ Chg (fun k_ => InB A0_2 k_ ∨ k_ = g1_) w w_) := by
  have H := wp.impl_Lane_pass.math s0 xs1 hp
  have hB := Chg.refl (fun k_ => InB A0_2 k_ ∨ k_ = g1_) w
  refine beginF mixed (fn := Tryz.f195) (by kernel_rfl) (by kernel_rfl) (an := impl_Lane_pass.ann) (V := impl_Lane_pass.vc (⟨g1_, 0, none⟩ : Addr) A1 xs1.length c1) (by kernel_rfl) ?_
  unfold impl_Lane_pass.vc
  unfold wp.impl_Lane_pass at H
  refine ⟨_, (O1.at 1 rfl rfl), ?_⟩
  refine brc H (fun hc76 H => ?_) (fun hc76 H => ?_)
  ·obtain rfl := hr.trans H.symm
   exact ⟨A0_2, c0_2, rfl, O1, (O2.mono (Nat.zero_le _)), (Mov.same _ _), hB⟩
  refine ⟨_, (O1.at 1 rfl rfl), ?_⟩
  obtain ⟨⟨h0_24, h1_25⟩, H⟩ := H
  obtain ⟨a22, ha23, hat21⟩ := Row.at (R1.chgS hB D1) h0_24 h1_25
  refine ⟨h0_24, h1_25, a22, ha23, _, (hat21 0 _ rfl), _, (hat21 1 _ rfl), _, (hat21 2 _ rfl), _, (hat21 3 _ rfl), ?_⟩
  obtain ⟨r26, hr27, H⟩ := callO H
  refine (impl_IsLocal.con hr27 ).mono ?_
  rintro _ w29 ⟨rfl, e30⟩
  have O1 := O1.ext e30
  have O2 := O2.ext e30
  have hB := hB.then e30
  refine ⟨r26, rfl, ?_⟩
  refine brc H (fun hc75 H => ?_) (fun hc75 H => ?_)
  ·obtain rfl := hr.trans H.symm
   exact ⟨A0_2, c0_2, rfl, O1, (O2.mono (Nat.zero_le _)), (Mov.same _ _), hB⟩
  refine ⟨_, (O1.at 1 rfl rfl), ?_⟩
  obtain ⟨⟨h0_34, h1_35⟩, H⟩ := H
  obtain ⟨a32, ha33, hat31⟩ := Row.at (R1.chgS hB D1) h0_34 h1_35
  refine ⟨h0_34, h1_35, a32, ha33, _, (hat31 0 _ rfl), _, (hat31 1 _ rfl), _, (hat31 2 _ rfl), _, (hat31 3 _ rfl), ?_⟩
  refine newBlk (fun g4_ w36 L4 P4 e37 => ?_)
  have N1_4 := O1.ne L4
  have N2_4 := O2.apart_new L4
  have O1 := O1.ext e37
  have O2 := O2.ext e37
  have O4 := P4
  have L4 := Nat.le_trans hB.size L4
  have hB := hB.then e37
  refine stBlk O4 (o := 0) (cs' := #[(.int .i64 ((rd xs1 s0.Pc).Op)), (.int .i64 ((rd xs1 s0.Pc).A)), (.int .i64 ((rd xs1 s0.Pc).B)), (.int .i64 ((rd xs1 s0.Pc).C))]) rfl rfl (Nat.le_of_ble_eq_true rfl) rfl (fun w38 P4 e39 => ?_)
  have O1_ := O1.chg e39 N1_4
  have O2_ := O2.chg e39 N2_4
  have O1 := O1_
  have O2 := O2_
  have hB := hB.chgb e39 (Or.inl L4)
  have O4 := P4
  refine ⟨_, (O4.at 0 rfl rfl), ?_⟩
  refine brc H (fun hc74 H => ?_) (fun hc74 H => ?_)
  ·refine stBlk O1 (o := 1) (cs' := #[(.int .i64 s0.Thread), (.int .i64 ((xs1.length : Nat) : Int)), (.slice A0_2 s0.Regs.length c0_2)]) rfl rfl (Nat.le_of_ble_eq_true rfl) rfl (fun w40 P1 e41 => ?_)
   have O2_ := O2.chg e41 (O2.apart_type O1 (by decide))
   have O4_ := O4.chg e41 (N1_4).symm
   have O2 := O2_
   have O4 := O4_
   have hB := hB.chgb e41 (Or.inr (Or.inr rfl))
   have O1 := P1
   obtain rfl := hr.trans H.symm
   exact ⟨A0_2, c0_2, rfl, O1, (O2.mono (Nat.zero_le _)), (Mov.same _ _), hB⟩
  obtain ⟨K73, hKK73, H⟩ := joinP_out H
  refine ⟨fun z_ w_ => ∃ (b42 : Bool), z_ = (b42, ()) ∧ K73 (b42, ()) ∧ Chg (fun k_ => InB A0_2 k_ ∨ k_ = g1_) w w_ ∧ Blk w_ g1_ 79 #[(.int .i64 s0.Thread), (.int .i64 s0.Pc), (.slice A0_2 s0.Regs.length c0_2)] ∧ Own el3 w_ 0 A0_2 c0_2 s0.Regs ∧ Blk w_ g4_ 91 #[(.int .i64 ((rd xs1 s0.Pc).Op)), (.int .i64 ((rd xs1 s0.Pc).A)), (.int .i64 ((rd xs1 s0.Pc).B)), (.int .i64 ((rd xs1 s0.Pc).C))], ?_, ?_⟩
  ·refine ⟨_, (O4.at 0 rfl rfl), ?_⟩
   refine brc H (fun hc53 H => ?_) (fun hc53 H => ?_)
   ·have O1 := O1.ext (Ext.drew _)
    have O2 := O2.ext (Ext.drew _)
    have O4 := O4.ext (Ext.drew _)
    have hB := hB.then (Ext.drew _)
    exact ⟨true, rfl, H, hB, O1, O2, O4⟩
   refine ⟨_, (O4.at 0 rfl rfl), ?_⟩
   refine brc H (fun hc52 H => ?_) (fun hc52 H => ?_)
   ·refine ⟨_, _, _, (O1.at 2 rfl rfl), _, (O4.at 1 rfl rfl), ?_⟩
    obtain ⟨⟨h0_50, h1_51⟩, H⟩ := H
    obtain ⟨a48, ha49, hat47⟩ := Row.at O2.row h0_50 h1_51
    refine ⟨h0_50, h1_51, a48, ha49, _, (hat47 0 _ rfl), ?_⟩
    have O1 := O1.ext (Ext.drew _)
    have O2 := O2.ext (Ext.drew _)
    have O4 := O4.ext (Ext.drew _)
    have hB := hB.then (Ext.drew _)
    exact ⟨((rd s0.Regs ((rd xs1 s0.Pc).A)) == 0), rfl, H, hB, O1, O2, O4⟩
   have O1 := O1.ext (Ext.drew _)
   have O2 := O2.ext (Ext.drew _)
   have O4 := O4.ext (Ext.drew _)
   have hB := hB.then (Ext.drew _)
   exact ⟨false, rfl, H, hB, O1, O2, O4⟩
  rintro _ w44 ⟨b42, rfl, H, hB, O1, O2, O4⟩
  have H := hKK73 _ H
  try dsimp only at H ⊢
  refine brc H (fun hc71 H => ?_) (fun hc71 H => ?_)
  ·refine ⟨_, (O4.at 2 rfl rfl), ?_⟩
   refine stBlk O1 (o := 1) (cs' := #[(.int .i64 s0.Thread), (.int .i64 ((rd xs1 s0.Pc).B)), (.slice A0_2 s0.Regs.length c0_2)]) rfl rfl (Nat.le_of_ble_eq_true rfl) rfl (fun w54 P1 e55 => ?_)
   have O2_ := O2.chg e55 (O2.apart_type O1 (by decide))
   have O4_ := O4.chg e55 (N1_4).symm
   have O2 := O2_
   have O4 := O4_
   have hB := hB.chgb e55 (Or.inr (Or.inr rfl))
   have O1 := P1
   obtain rfl := hr.trans H.symm
   exact ⟨A0_2, c0_2, rfl, O1, (O2.mono (Nat.zero_le _)), (Mov.same _ _), hB⟩
  refine ⟨(InB A0_2), _, ⟨(notM1 (N2_4).inb (by first | rfl | (simp only [blk_add]))), (O4.at 0 rfl rfl)⟩, _, ⟨(notM1 (N2_4).inb (by first | rfl | (simp only [blk_add]))), (O4.at 1 rfl rfl)⟩, _, ⟨(notM1 (N2_4).inb (by first | rfl | (simp only [blk_add]))), (O4.at 2 rfl rfl)⟩, _, ⟨(notM1 (N2_4).inb (by first | rfl | (simp only [blk_add]))), (O4.at 3 rfl rfl)⟩, _, ⟨(notM1 ((O2.apart_type O1 (by decide))).inb (by first | rfl | (simp only [blk_add]))), (O1.at 0 rfl rfl)⟩, _, _, _, ⟨(notM1 ((O2.apart_type O1 (by decide))).inb (by first | rfl | (simp only [blk_add]))), (O1.at 2 rfl rfl)⟩, ?_⟩
  have hS56 := Chg.refl (InB A0_2) w44
  have O1 := O1.ext (Ext.drew _)
  have O2 := O2.ext (Ext.drew _)
  have O4 := O4.ext (Ext.drew _)
  have hB := hB.then (Ext.drew _)
  have hS56 := hS56.then (Ext.drew _)
  obtain ⟨hp65, H⟩ := H
  obtain ⟨r63, hr64, H⟩ := callO H
  refine (impl_apply.con hp65 hr64 (O2.mono (Nat.zero_le _))).mono ?_
  rintro _ w66 ⟨rfl, Q2, hl68, e67⟩
  have O1 := O1.chgS e67 ((O2.apart_type O1 (by decide))).inb
  have O4 := O4.chgS e67 (N2_4).inb
  have hS56 := hS56.chg e67 (fun g => (fun h_ => (Or.inr h_)))
  have hB := hB.chg e67 (fun g h_ => (Or.inr (Or.inl h_)))
  have O2 := Q2
  refine ⟨rfl, sameBut_chg hS56, _, (O1.at 1 rfl rfl), ?_⟩
  refine stBlk O1 (o := 1) (cs' := #[(.int .i64 s0.Thread), (.int .i64 (IntKind.wrap .i64 (s0.Pc + 1))), (.slice A0_2 s0.Regs.length c0_2)]) rfl rfl (Nat.le_of_ble_eq_true rfl) rfl (fun w69 P1 e70 => ?_)
  have O2_ := O2.chg e70 (O2.apart_type O1 (by decide))
  have O2 := O2_
  have hB := hB.chgb e70 (Or.inr (Or.inr rfl))
  have O1 := P1
  obtain rfl := hr.trans H.symm
  exact ⟨A0_2, c0_2, rfl, (by first | exact O1 | (simp only [List.length_set, hl68]; exact O1)), (O2.mono (Nat.zero_le _)), (Mov.same _ _), hB⟩
def impl_RunLane.vc (A0 : Option Addr) (n0 : Nat) (c0 : Nat) (x1_0 : Int) (x1_1 : Int) (A1_2 : Option Addr) (n1_2 : Nat) (c1_2 : Nat) (x2 : Int) (w : World) (K : Value → World → Prop) : Prop :=
  newK w (.cells #[(.int .i64 x1_0), (.int .i64 x1_1), (.slice A1_2 n1_2 c1_2)] 79) fun g21 w22 => newK w22 (.cells #[(.int .i64 0), (.int .i64 0), (.slice none 0 0)] 79) fun g23 w24 => ∃ (n25 : Int), w24.cell? ((⟨g21, 0, none⟩ : Addr).add 0) = some (.int .i64 n25) ∧ ∃ (n26 : Int), w24.cell? ((⟨g21, 0, none⟩ : Addr).add 1) = some (.int .i64 n26) ∧ ∃ (A27 : Option Addr) (n28 : Nat) (c29 : Nat), w24.cell? ((⟨g21, 0, none⟩ : Addr).add 2) = some (.slice A27 n28 c29) ∧ Cll Tryz.prog 193 #[(.agg #[(.int .i64 n25), (.int .i64 n26), (.slice A27 n28 c29)])] w24 fun v30 w31 => (∃ (n32 : Int), True ∧ ∃ (n33 : Int), True ∧ ∃ (A34 : Option Addr) (n35 : Nat) (c36 : Nat), True ∧ v30 = (.agg #[(.int .i64 n32), (.int .i64 n33), (.slice A34 n35 c36)]) ∧ newK w31 (.cells #[(.int .i64 0), (.int .i64 0), (.slice none 0 0)] 79) fun g37 w38 => stCells (⟨g37, 0, none⟩ : Addr) [(.int .i64 n32), (.int .i64 n33), (.slice A34 n35 c36)] 0 w38 fun w39 => Cll Tryz.prog 27 #[(.slice A0 n0 c0)] w39 fun v41 w42 => (∃ (b43 : Bool), v41 = (.bool b43) ∧ bcase (!b43) (∃ (n44 : Int), w42.cell? ((⟨g37, 0, none⟩ : Addr).add 0) = some (.int .i64 n44) ∧ ∃ (n45 : Int), w42.cell? ((⟨g37, 0, none⟩ : Addr).add 1) = some (.int .i64 n45) ∧ ∃ (A46 : Option Addr) (n47 : Nat) (c48 : Nat), w42.cell? ((⟨g37, 0, none⟩ : Addr).add 2) = some (.slice A46 n47 c48) ∧ stCells (⟨g23, 0, none⟩ : Addr) [(.int .i64 n44), (.int .i64 n45), (.slice A46 n47 c48)] 0 w42 fun w49 => ∃ (n50 : Int), w49.cell? ((⟨g23, 0, none⟩ : Addr).add 0) = some (.int .i64 n50) ∧ ∃ (n51 : Int), w49.cell? ((⟨g23, 0, none⟩ : Addr).add 1) = some (.int .i64 n51) ∧ ∃ (A52 : Option Addr) (n53 : Nat) (c54 : Nat), w49.cell? ((⟨g23, 0, none⟩ : Addr).add 2) = some (.slice A52 n53 c54) ∧ K (.tuple #[(.agg #[(.int .i64 n50), (.int .i64 n51), (.slice A52 n53 c54)]), (.int .i64 (-1))]) w49) (∃ (n55 : Int), w42.cell? ((⟨g21, 0, none⟩ : Addr).add 0) = some (.int .i64 n55) ∧ ∃ (n56 : Int), w42.cell? ((⟨g21, 0, none⟩ : Addr).add 1) = some (.int .i64 n56) ∧ ∃ (A57 : Option Addr) (n58 : Nat) (c59 : Nat), w42.cell? ((⟨g21, 0, none⟩ : Addr).add 2) = some (.slice A57 n58 c59) ∧ Cll Tryz.prog 194 #[(.slice A0 n0 c0), (.agg #[(.int .i64 n55), (.int .i64 n56), (.slice A57 n58 c59)])] w42 fun v60 w61 => (∃ (b62 : Bool), v60 = (.bool b62) ∧ bcase (!b62) (∃ (n63 : Int), w61.cell? ((⟨g37, 0, none⟩ : Addr).add 0) = some (.int .i64 n63) ∧ ∃ (n64 : Int), w61.cell? ((⟨g37, 0, none⟩ : Addr).add 1) = some (.int .i64 n64) ∧ ∃ (A65 : Option Addr) (n66 : Nat) (c67 : Nat), w61.cell? ((⟨g37, 0, none⟩ : Addr).add 2) = some (.slice A65 n66 c67) ∧ stCells (⟨g23, 0, none⟩ : Addr) [(.int .i64 n63), (.int .i64 n64), (.slice A65 n66 c67)] 0 w61 fun w68 => ∃ (n69 : Int), w68.cell? ((⟨g23, 0, none⟩ : Addr).add 0) = some (.int .i64 n69) ∧ ∃ (n70 : Int), w68.cell? ((⟨g23, 0, none⟩ : Addr).add 1) = some (.int .i64 n70) ∧ ∃ (A71 : Option Addr) (n72 : Nat) (c73 : Nat), w68.cell? ((⟨g23, 0, none⟩ : Addr).add 2) = some (.slice A71 n72 c73) ∧ K (.tuple #[(.agg #[(.int .i64 n69), (.int .i64 n70), (.slice A71 n72 c73)]), (.int .i64 (-1))]) w68) (Cll Tryz.prog 58 #[(.int .i64 x2), (.int .i64 0), (.int .i64 1000)] w61 fun v74 w75 => (∃ (b76 : Bool), v74 = (.bool b76) ∧ bcase (!b76) (∃ (n77 : Int), w75.cell? ((⟨g37, 0, none⟩ : Addr).add 0) = some (.int .i64 n77) ∧ ∃ (n78 : Int), w75.cell? ((⟨g37, 0, none⟩ : Addr).add 1) = some (.int .i64 n78) ∧ ∃ (A79 : Option Addr) (n80 : Nat) (c81 : Nat), w75.cell? ((⟨g37, 0, none⟩ : Addr).add 2) = some (.slice A79 n80 c81) ∧ stCells (⟨g23, 0, none⟩ : Addr) [(.int .i64 n77), (.int .i64 n78), (.slice A79 n80 c81)] 0 w75 fun w82 => ∃ (n83 : Int), w82.cell? ((⟨g23, 0, none⟩ : Addr).add 0) = some (.int .i64 n83) ∧ ∃ (n84 : Int), w82.cell? ((⟨g23, 0, none⟩ : Addr).add 1) = some (.int .i64 n84) ∧ ∃ (A85 : Option Addr) (n86 : Nat) (c87 : Nat), w82.cell? ((⟨g23, 0, none⟩ : Addr).add 2) = some (.slice A85 n86 c87) ∧ K (.tuple #[(.agg #[(.int .i64 n83), (.int .i64 n84), (.slice A85 n86 c87)]), (.int .i64 (-1))]) w82) (LoopT (σ := Int × Unit) (fun z88 w89 next90 => bcase (decide (z88.1 < x2)) (Cll Tryz.prog 195 #[(.pointer (some (⟨g37, 0, none⟩ : Addr))), (.slice A0 n0 c0)] w89 fun v91 w92 => (∃ (b93 : Bool), v91 = (.bool b93) ∧ bcase b93 (next90 ((IntKind.wrap .i64 (z88.1 + 1)), ()) w92) (∃ (n94 : Int), w92.cell? ((⟨g37, 0, none⟩ : Addr).add 0) = some (.int .i64 n94) ∧ ∃ (n95 : Int), w92.cell? ((⟨g37, 0, none⟩ : Addr).add 1) = some (.int .i64 n95) ∧ ∃ (A96 : Option Addr) (n97 : Nat) (c98 : Nat), w92.cell? ((⟨g37, 0, none⟩ : Addr).add 2) = some (.slice A96 n97 c98) ∧ stCells (⟨g23, 0, none⟩ : Addr) [(.int .i64 n94), (.int .i64 n95), (.slice A96 n97 c98)] 0 w92 fun w99 => ∃ (n100 : Int), w99.cell? ((⟨g23, 0, none⟩ : Addr).add 0) = some (.int .i64 n100) ∧ ∃ (n101 : Int), w99.cell? ((⟨g23, 0, none⟩ : Addr).add 1) = some (.int .i64 n101) ∧ ∃ (A102 : Option Addr) (n103 : Nat) (c104 : Nat), w99.cell? ((⟨g23, 0, none⟩ : Addr).add 2) = some (.slice A102 n103 c104) ∧ K (.tuple #[(.agg #[(.int .i64 n100), (.int .i64 n101), (.slice A102 n103 c104)]), (.int .i64 z88.1)]) w99))) (∃ (n105 : Int), w89.cell? ((⟨g37, 0, none⟩ : Addr).add 0) = some (.int .i64 n105) ∧ ∃ (n106 : Int), w89.cell? ((⟨g37, 0, none⟩ : Addr).add 1) = some (.int .i64 n106) ∧ ∃ (A107 : Option Addr) (n108 : Nat) (c109 : Nat), w89.cell? ((⟨g37, 0, none⟩ : Addr).add 2) = some (.slice A107 n108 c109) ∧ stCells (⟨g23, 0, none⟩ : Addr) [(.int .i64 n105), (.int .i64 n106), (.slice A107 n108 c109)] 0 w89 fun w110 => ∃ (n111 : Int), w110.cell? ((⟨g23, 0, none⟩ : Addr).add 0) = some (.int .i64 n111) ∧ ∃ (n112 : Int), w110.cell? ((⟨g23, 0, none⟩ : Addr).add 1) = some (.int .i64 n112) ∧ ∃ (A113 : Option Addr) (n114 : Nat) (c115 : Nat), w110.cell? ((⟨g23, 0, none⟩ : Addr).add 2) = some (.slice A113 n114 c115) ∧ K (.tuple #[(.agg #[(.int .i64 n111), (.int .i64 n112), (.slice A113 n114 c115)]), (.int .i64 z88.1)]) w110)) (0, ()) w75)))))))

def impl_RunLane.ann : Ann := (.seq .l (.seq .l (.seq (.seq .l (.two (.seq .l .l) .l)) (.seq .l (.seq (.one (.loop [(9, .int .i64)] (.seq (.seq .l (.two .l .l)) (.one .l)))) (.seq .l .l))))))

theorem impl_RunLane.con {xs0 : List D.Ins} {A0 : Option Addr} {c0 : Nat} {s1 : D.Lane} {A1_2 : Option Addr} {c1_2 : Nat} {x2 : Int} {r : D.Lane × Int} {w : World} (hp : M.impl_RunLane_pre xs0 s1 x2) (hr : r = M.impl_RunLane xs0 s1 x2) (R0 : Row el91 w A0 xs0) (hc0 : xs0.length ≤ c0) (R1_2 : Row el3 w A1_2 s1.Regs) (hc1_2 : s1.Regs.length ≤ c1_2) :
    Cll Tryz.prog 163 #[(.slice A0 xs0.length c0), (.agg #[(.int .i64 s1.Thread), (.int .i64 s1.Pc), (.slice A1_2 s1.Regs.length c1_2)]), (.int .i64 x2)] w (fun v_ w_ => ∃ (A0_ : Option Addr) (c0_ : Nat), v_ = (.tuple #[(.agg #[(.int .i64 r.1.Thread), (.int .i64 r.1.Pc), (.slice A0_ r.1.Regs.length c0_)]), (.int .i64 r.2)]) ∧ Own el3 w_ w.heap.size A0_ c0_ r.1.Regs ∧ Ext w w_) := by
  have H := wp.impl_RunLane.math xs0 s1 x2 hp
  have hB := Ext.refl w
  refine beginF mixed (fn := Tryz.f163) (by kernel_rfl) (by kernel_rfl) (an := impl_RunLane.ann) (V := impl_RunLane.vc A0 xs0.length c0 s1.Thread s1.Pc A1_2 s1.Regs.length c1_2 x2) (by kernel_rfl) ?_
  unfold impl_RunLane.vc
  unfold wp.impl_RunLane at H
  refine newBlk (fun g3_ w21 L3 P3 e22 => ?_)
  have O3 := P3
  have L3 := Nat.le_trans hB.size L3
  have hB := ethen hB e22
  refine newBlk (fun g4_ w23 L4 P4 e24 => ?_)
  have N3_4 := O3.ne L4
  have O3 := O3.ext e24
  have O4 := P4
  have L4 := Nat.le_trans hB.size L4
  have hB := ethen hB e24
  refine ⟨_, (O3.at 0 rfl rfl), _, (O3.at 1 rfl rfl), _, _, _, (O3.at 2 rfl rfl), ?_⟩
  obtain ⟨hp27, H⟩ := H
  obtain ⟨r25, hr26, H⟩ := callO H
  refine (impl_copyLane.con hp27 hr26 (R1_2.ext hB) hc1_2).mono ?_
  rintro _ w28 ⟨A30, c31, rfl, P5, e29⟩
  have N5_3 := P5.apart_old O3.lt
  have N5_4 := P5.apart_old O4.lt
  have O3 := O3.ext e29
  have O4 := O4.ext e29
  have O5 := P5.mono hB.size
  have hB := ethen hB e29
  refine ⟨r25.Thread, trivial, r25.Pc, trivial, A30, r25.Regs.length, c31, trivial, rfl, ?_⟩
  refine newBlk (fun g6_ w32 L6 P6 e33 => ?_)
  have N3_6 := O3.ne L6
  have N4_6 := O4.ne L6
  have N5_6 := O5.apart_new L6
  have O3 := O3.ext e33
  have O4 := O4.ext e33
  have O5 := O5.ext e33
  have O6 := P6
  have L6 := Nat.le_trans hB.size L6
  have hB := ethen hB e33
  refine stBlk O6 (o := 0) (cs' := #[(.int .i64 r25.Thread), (.int .i64 r25.Pc), (.slice A30 r25.Regs.length c31)]) rfl rfl (Nat.le_of_ble_eq_true rfl) rfl (fun w34 P6 e35 => ?_)
  have O3_ := O3.chg e35 N3_6
  have O4_ := O4.chg e35 N4_6
  have O5_ := O5.chg e35 N5_6
  have O3 := O3_
  have O4 := O4_
  have O5 := O5_
  have hB := echg hB e35 L6
  have O6 := P6
  obtain ⟨hp38, H⟩ := H
  obtain ⟨r36, hr37, H⟩ := callO H
  refine (impl_IsQuiet.con hp38 hr37 (R0.ext hB) hc0).mono ?_
  rintro _ w39 ⟨rfl, e40⟩
  have O3 := O3.ext e40
  have O4 := O4.ext e40
  have O5 := O5.ext e40
  have O6 := O6.ext e40
  have hB := ethen hB e40
  refine ⟨r36, rfl, ?_⟩
  refine brc H (fun hc103 H => ?_) (fun hc103 H => ?_)
  ·refine ⟨_, (O6.at 0 rfl rfl), _, (O6.at 1 rfl rfl), _, _, _, (O6.at 2 rfl rfl), ?_⟩
   refine stBlk O4 (o := 0) (cs' := #[(.int .i64 r25.Thread), (.int .i64 r25.Pc), (.slice A30 r25.Regs.length c31)]) rfl rfl (Nat.le_of_ble_eq_true rfl) rfl (fun w41 P4 e42 => ?_)
   have O5_ := O5.chg e42 N5_4
   have O6_ := O6.chg e42 (N4_6).symm
   have O5 := O5_
   have O6 := O6_
   have hB := echg hB e42 L4
   have O4 := P4
   refine ⟨_, (O4.at 0 rfl rfl), _, (O4.at 1 rfl rfl), _, _, _, (O4.at 2 rfl rfl), ?_⟩
   obtain rfl := hr.trans H.symm
   exact ⟨A30, c31, rfl, O5, hB⟩
  refine ⟨_, (O3.at 0 rfl rfl), _, (O3.at 1 rfl rfl), _, _, _, (O3.at 2 rfl rfl), ?_⟩
  obtain ⟨hp45, H⟩ := H
  obtain ⟨r43, hr44, H⟩ := callO H
  refine (impl_LaneOk.con hp45 hr44 (R0.ext hB) hc0 (R1_2.ext hB) hc1_2).mono ?_
  rintro _ w46 ⟨rfl, e47⟩
  have O3 := O3.ext e47
  have O4 := O4.ext e47
  have O5 := O5.ext e47
  have O6 := O6.ext e47
  have hB := ethen hB e47
  refine ⟨r43, rfl, ?_⟩
  refine brc H (fun hc102 H => ?_) (fun hc102 H => ?_)
  ·refine ⟨_, (O6.at 0 rfl rfl), _, (O6.at 1 rfl rfl), _, _, _, (O6.at 2 rfl rfl), ?_⟩
   refine stBlk O4 (o := 0) (cs' := #[(.int .i64 r25.Thread), (.int .i64 r25.Pc), (.slice A30 r25.Regs.length c31)]) rfl rfl (Nat.le_of_ble_eq_true rfl) rfl (fun w48 P4 e49 => ?_)
   have O5_ := O5.chg e49 N5_4
   have O6_ := O6.chg e49 (N4_6).symm
   have O5 := O5_
   have O6 := O6_
   have hB := echg hB e49 L4
   have O4 := P4
   refine ⟨_, (O4.at 0 rfl rfl), _, (O4.at 1 rfl rfl), _, _, _, (O4.at 2 rfl rfl), ?_⟩
   obtain rfl := hr.trans H.symm
   exact ⟨A30, c31, rfl, O5, hB⟩
  obtain ⟨r50, hr51, H⟩ := callO H
  refine (impl_within.con hr51 ).mono ?_
  rintro _ w53 ⟨rfl, e54⟩
  have O3 := O3.ext e54
  have O4 := O4.ext e54
  have O5 := O5.ext e54
  have O6 := O6.ext e54
  have hB := ethen hB e54
  refine ⟨r50, rfl, ?_⟩
  refine brc H (fun hc101 H => ?_) (fun hc101 H => ?_)
  ·refine ⟨_, (O6.at 0 rfl rfl), _, (O6.at 1 rfl rfl), _, _, _, (O6.at 2 rfl rfl), ?_⟩
   refine stBlk O4 (o := 0) (cs' := #[(.int .i64 r25.Thread), (.int .i64 r25.Pc), (.slice A30 r25.Regs.length c31)]) rfl rfl (Nat.le_of_ble_eq_true rfl) rfl (fun w55 P4 e56 => ?_)
   have O5_ := O5.chg e56 N5_4
   have O6_ := O6.chg e56 (N4_6).symm
   have O5 := O5_
   have O6 := O6_
   have hB := echg hB e56 L4
   have O4 := P4
   refine ⟨_, (O4.at 0 rfl rfl), _, (O4.at 1 rfl rfl), _, _, _, (O4.at 2 rfl rfl), ?_⟩
   obtain rfl := hr.trans H.symm
   exact ⟨A30, c31, rfl, O5, hB⟩
  obtain ⟨J77, ⟨m99, hJ98⟩, hS78⟩ := H
  refine ⟨fun m_ z_ w_ => ∃ (i70 : Int) (i71 : Int) (i72 : Int) (xs73 : List Int) (A74 : Option Addr) (c75 : Nat), z_ = (i70, ()) ∧ J77 m_ (i70, i71, i72, xs73, ()) ∧ Ext w w_ ∧ Blk w_ g6_ 79 #[(.int .i64 i71), (.int .i64 i72), (.slice A74 xs73.length c75)] ∧ Own el3 w_ w.heap.size A74 c75 xs73 ∧ Blk w_ g4_ 79 #[(.int .i64 0), (.int .i64 0), (.slice none 0 0)], ⟨m99, 0, r25.Thread, r25.Pc, r25.Regs, A30, c31, rfl, hJ98, hB, O6, O5, O4⟩, ?_⟩
  rintro m76 _ w80 ⟨i70, i71, i72, xs73, A74, c75, rfl, hJ100, hB, O6, O8, O4⟩
  have H := hS78 m76 _ hJ100
  clear hS78 hJ100
  try dsimp only at H ⊢
  refine brc H (fun hc96 H => ?_) (fun hc96 H => ?_)
  ·obtain ⟨hp83, H⟩ := H
   obtain ⟨r81, hr82, H⟩ := callO H
   refine (impl_Lane_pass.con hp83 hr82 O6 (O8.mono (Nat.zero_le _)) (R0.ext hB) hc0 (fun hx_ => (fun g h_ => (fun hS_ => hS_.elim ((fun g h_ hS_ => Nat.not_le.2 (R0.old hx_ g h_) (O8.low g hS_)) g h_) ((fun g h_ hS_ => Nat.not_le.2 (R0.old hx_ g h_) (box_low L6 _ hS_)) g h_))))).mono ?_
   rintro _ w84 ⟨A86, c87, rfl, Q6, Q9, Mv9, e85⟩
   have Lw9 := Mv9.low O8.low hB.size
   have O4 := O4.chgS e85 (fun hS_ => hS_.elim ((O8.apart_type O4 (by decide))).inb (N4_6))
   have hB := Chg.ext hB e85 (fun g => (fun hS_ => hS_.elim (O8.low g) ((box_low L6) g)))
   have O6 := Q6
   have O9 := Q9.lift Lw9
   refine ⟨r81.1, rfl, ?_⟩
   refine brc H (fun hc93 H => ?_) (fun hc93 H => ?_)
   ·obtain ⟨m88, hm89, hJ90⟩ := H
    exact ⟨m88, hm89, (IntKind.wrap .i64 (i70 + 1)), r81.2.Thread, r81.2.Pc, r81.2.Regs, A86, c87, rfl, hJ90, hB, O6, O9, O4⟩
   refine ⟨_, (O6.at 0 rfl rfl), _, (O6.at 1 rfl rfl), _, _, _, (O6.at 2 rfl rfl), ?_⟩
   refine stBlk O4 (o := 0) (cs' := #[(.int .i64 r81.2.Thread), (.int .i64 r81.2.Pc), (.slice A86 r81.2.Regs.length c87)]) rfl rfl (Nat.le_of_ble_eq_true rfl) rfl (fun w91 P4 e92 => ?_)
   have O6_ := O6.chg e92 (N4_6).symm
   have O9_ := O9.chg e92 (O9.apart_type O4 (by decide))
   have O6 := O6_
   have O9 := O9_
   have hB := echg hB e92 L4
   have O4 := P4
   refine ⟨_, (O4.at 0 rfl rfl), _, (O4.at 1 rfl rfl), _, _, _, (O4.at 2 rfl rfl), ?_⟩
   obtain rfl := hr.trans H.symm
   exact ⟨A86, c87, rfl, O9, hB⟩
  refine ⟨_, (O6.at 0 rfl rfl), _, (O6.at 1 rfl rfl), _, _, _, (O6.at 2 rfl rfl), ?_⟩
  refine stBlk O4 (o := 0) (cs' := #[(.int .i64 i71), (.int .i64 i72), (.slice A74 xs73.length c75)]) rfl rfl (Nat.le_of_ble_eq_true rfl) rfl (fun w94 P4 e95 => ?_)
  have O6_ := O6.chg e95 (N4_6).symm
  have O8_ := O8.chg e95 (O8.apart_type O4 (by decide))
  have O6 := O6_
  have O8 := O8_
  have hB := echg hB e95 L4
  have O4 := P4
  refine ⟨_, (O4.at 0 rfl rfl), _, (O4.at 1 rfl rfl), _, _, _, (O4.at 2 rfl rfl), ?_⟩
  obtain rfl := hr.trans H.symm
  exact ⟨A74, c75, rfl, O8, hB⟩
def impl_alone.vc (A0 : Option Addr) (n0 : Nat) (c0 : Nat) (x1 : Int) (w : World) (K : Value → World → Prop) : Prop :=
  newK w (.cells #[(.int .i64 0), (.int .i64 0), (.slice none 0 0)] 79) fun g21 w22 => Cll Tryz.prog 59 #[(.int .i64 x1)] w22 fun v23 w24 => (∃ (b25 : Bool), v23 = (.bool b25) ∧ bcase (!b25) (stCells (⟨g21, 0, none⟩ : Addr) [(.int .i64 0), (.int .i64 0), (.slice none 0 0)] 0 w24 fun w26 => ∃ (n27 : Int), w26.cell? ((⟨g21, 0, none⟩ : Addr).add 0) = some (.int .i64 n27) ∧ ∃ (n28 : Int), w26.cell? ((⟨g21, 0, none⟩ : Addr).add 1) = some (.int .i64 n28) ∧ ∃ (A29 : Option Addr) (n30 : Nat) (c31 : Nat), w26.cell? ((⟨g21, 0, none⟩ : Addr).add 2) = some (.slice A29 n30 c31) ∧ K (.tuple #[(.agg #[(.int .i64 n27), (.int .i64 n28), (.slice A29 n30 c31)]), (.int .i64 0), (.bool false)]) w26) (Cll Tryz.prog 164 #[(.int .i64 x1)] w24 fun v32 w33 => (∃ (n34 : Int), True ∧ ∃ (n35 : Int), True ∧ ∃ (A36 : Option Addr) (n37 : Nat) (c38 : Nat), True ∧ v32 = (.agg #[(.int .i64 n34), (.int .i64 n35), (.slice A36 n37 c38)]) ∧ Cll Tryz.prog 163 #[(.slice A0 n0 c0), (.agg #[(.int .i64 n34), (.int .i64 n35), (.slice A36 n37 c38)]), (.int .i64 1000)] w33 fun v39 w40 => (∃ u41 : Value, (∃ (n42 : Int), True ∧ ∃ (n43 : Int), True ∧ ∃ (A44 : Option Addr) (n45 : Nat) (c46 : Nat), True ∧ u41 = (.agg #[(.int .i64 n42), (.int .i64 n43), (.slice A44 n45 c46)]) ∧ ∃ u47 : Value, (∃ (n48 : Int), u47 = (.int .i64 n48) ∧ v39 = (.tuple #[(.agg #[(.int .i64 n42), (.int .i64 n43), (.slice A44 n45 c46)]), (.int .i64 n48)]) ∧ newK w40 (.cells #[(.int .i64 0), (.int .i64 0), (.slice none 0 0)] 79) fun g49 w50 => stCells (⟨g49, 0, none⟩ : Addr) [(.int .i64 n42), (.int .i64 n43), (.slice A44 n45 c46)] 0 w50 fun w51 => bcase (decide (n48 < 0)) (stCells (⟨g21, 0, none⟩ : Addr) [(.int .i64 0), (.int .i64 0), (.slice none 0 0)] 0 w51 fun w52 => ∃ (n53 : Int), w52.cell? ((⟨g21, 0, none⟩ : Addr).add 0) = some (.int .i64 n53) ∧ ∃ (n54 : Int), w52.cell? ((⟨g21, 0, none⟩ : Addr).add 1) = some (.int .i64 n54) ∧ ∃ (A55 : Option Addr) (n56 : Nat) (c57 : Nat), w52.cell? ((⟨g21, 0, none⟩ : Addr).add 2) = some (.slice A55 n56 c57) ∧ K (.tuple #[(.agg #[(.int .i64 n53), (.int .i64 n54), (.slice A55 n56 c57)]), (.int .i64 0), (.bool false)]) w52) (∃ (n58 : Int), w51.cell? (((⟨g49, 0, none⟩ : Addr).add 1).add 0) = some (.int .i64 n58) ∧ bcase (n58 != ((n0 : Nat) : Int)) (stCells (⟨g21, 0, none⟩ : Addr) [(.int .i64 0), (.int .i64 0), (.slice none 0 0)] 0 w51 fun w59 => ∃ (n60 : Int), w59.cell? ((⟨g21, 0, none⟩ : Addr).add 0) = some (.int .i64 n60) ∧ ∃ (n61 : Int), w59.cell? ((⟨g21, 0, none⟩ : Addr).add 1) = some (.int .i64 n61) ∧ ∃ (A62 : Option Addr) (n63 : Nat) (c64 : Nat), w59.cell? ((⟨g21, 0, none⟩ : Addr).add 2) = some (.slice A62 n63 c64) ∧ K (.tuple #[(.agg #[(.int .i64 n60), (.int .i64 n61), (.slice A62 n63 c64)]), (.int .i64 0), (.bool false)]) w59) (∃ (n65 : Int), w51.cell? ((⟨g49, 0, none⟩ : Addr).add 0) = some (.int .i64 n65) ∧ ∃ (n66 : Int), w51.cell? ((⟨g49, 0, none⟩ : Addr).add 1) = some (.int .i64 n66) ∧ ∃ (A67 : Option Addr) (n68 : Nat) (c69 : Nat), w51.cell? ((⟨g49, 0, none⟩ : Addr).add 2) = some (.slice A67 n68 c69) ∧ stCells (⟨g21, 0, none⟩ : Addr) [(.int .i64 n65), (.int .i64 n66), (.slice A67 n68 c69)] 0 w51 fun w70 => ∃ (n71 : Int), w70.cell? ((⟨g21, 0, none⟩ : Addr).add 0) = some (.int .i64 n71) ∧ ∃ (n72 : Int), w70.cell? ((⟨g21, 0, none⟩ : Addr).add 1) = some (.int .i64 n72) ∧ ∃ (A73 : Option Addr) (n74 : Nat) (c75 : Nat), w70.cell? ((⟨g21, 0, none⟩ : Addr).add 2) = some (.slice A73 n74 c75) ∧ K (.tuple #[(.agg #[(.int .i64 n71), (.int .i64 n72), (.slice A73 n74 c75)]), (.int .i64 n48), (.bool true)]) w70))))))))

def impl_alone.ann : Ann := (.seq .l (.seq (.seq .l (.two (.seq .l .l) .l)) (.seq .l (.seq (.seq .l (.two (.seq .l .l) .l)) (.seq .l .l)))))

theorem impl_alone.con {xs0 : List D.Ins} {A0 : Option Addr} {c0 : Nat} {x1 : Int} {r : D.Lane × Int × Bool} {w : World} (hp : M.impl_alone_pre xs0 x1) (hr : r = M.impl_alone xs0 x1) (R0 : Row el91 w A0 xs0) (hc0 : xs0.length ≤ c0) :
    Cll Tryz.prog 117 #[(.slice A0 xs0.length c0), (.int .i64 x1)] w (fun v_ w_ => ∃ (A0_ : Option Addr) (c0_ : Nat), v_ = (.tuple #[(.agg #[(.int .i64 r.1.Thread), (.int .i64 r.1.Pc), (.slice A0_ r.1.Regs.length c0_)]), (.int .i64 r.2.1), (.bool r.2.2)]) ∧ Own el3 w_ w.heap.size A0_ c0_ r.1.Regs ∧ Ext w w_) := by
  have H := wp.impl_alone.math xs0 x1 hp
  have hB := Ext.refl w
  refine beginF mixed (fn := Tryz.f117) (by kernel_rfl) (by kernel_rfl) (an := impl_alone.ann) (V := impl_alone.vc A0 xs0.length c0 x1) (by kernel_rfl) ?_
  unfold impl_alone.vc
  unfold wp.impl_alone at H
  refine newBlk (fun g2_ w21 L2 P2 e22 => ?_)
  have O2 := P2
  have L2 := Nat.le_trans hB.size L2
  have hB := ethen hB e22
  obtain ⟨r23, hr24, H⟩ := callO H
  refine (impl_isThread.con hr24 ).mono ?_
  rintro _ w26 ⟨rfl, e27⟩
  have O2 := O2.ext e27
  have hB := ethen hB e27
  refine ⟨r23, rfl, ?_⟩
  refine brc H (fun hc56 H => ?_) (fun hc56 H => ?_)
  ·refine stBlk O2 (o := 0) (cs' := #[(.int .i64 0), (.int .i64 0), (.slice none 0 0)]) rfl rfl (Nat.le_of_ble_eq_true rfl) rfl (fun w28 P2 e29 => ?_)
   have hB := echg hB e29 L2
   have O2 := P2
   refine ⟨_, (O2.at 0 rfl rfl), _, (O2.at 1 rfl rfl), _, _, _, (O2.at 2 rfl rfl), ?_⟩
   obtain rfl := hr.trans H.symm
   exact ⟨none, 0, rfl, Own.nil, hB⟩
  obtain ⟨r30, hr31, H⟩ := callO H
  refine (impl_LaneNew.con hr31 ).mono ?_
  rintro _ w33 ⟨A35, c36, rfl, P3, e34⟩
  have N3_2 := P3.apart_old O2.lt
  have O2 := O2.ext e34
  have O3 := P3.mono hB.size
  have hB := ethen hB e34
  refine ⟨r30.Thread, trivial, r30.Pc, trivial, A35, r30.Regs.length, c36, trivial, rfl, ?_⟩
  obtain ⟨hp39, H⟩ := H
  obtain ⟨r37, hr38, H⟩ := callO H
  refine (impl_RunLane.con hp39 hr38 (R0.ext hB) hc0 O3.row O3.le).mono ?_
  rintro _ w40 ⟨A42, c43, rfl, P4, e41⟩
  have N4_2 := P4.apart_old O2.lt
  have N3_4 := Own.apart2_new O3 P4 (Nat.le_refl _)
  have O2 := O2.ext e41
  have O3 := O3.ext e41
  have O4 := P4.mono hB.size
  have hB := ethen hB e41
  refine ⟨(.agg #[(.int .i64 r37.1.Thread), (.int .i64 r37.1.Pc), (.slice A42 r37.1.Regs.length c43)]), r37.1.Thread, trivial, r37.1.Pc, trivial, A42, r37.1.Regs.length, c43, trivial, rfl, (.int .i64 r37.2), r37.2, rfl, rfl, ?_⟩
  refine newBlk (fun g5_ w44 L5 P5 e45 => ?_)
  have N2_5 := O2.ne L5
  have N3_5 := O3.apart_new L5
  have N4_5 := O4.apart_new L5
  have O2 := O2.ext e45
  have O3 := O3.ext e45
  have O4 := O4.ext e45
  have O5 := P5
  have L5 := Nat.le_trans hB.size L5
  have hB := ethen hB e45
  refine stBlk O5 (o := 0) (cs' := #[(.int .i64 r37.1.Thread), (.int .i64 r37.1.Pc), (.slice A42 r37.1.Regs.length c43)]) rfl rfl (Nat.le_of_ble_eq_true rfl) rfl (fun w46 P5 e47 => ?_)
  have O2_ := O2.chg e47 N2_5
  have O3_ := O3.chg e47 N3_5
  have O4_ := O4.chg e47 N4_5
  have O2 := O2_
  have O3 := O3_
  have O4 := O4_
  have hB := echg hB e47 L5
  have O5 := P5
  refine brc H (fun hc55 H => ?_) (fun hc55 H => ?_)
  ·refine stBlk O2 (o := 0) (cs' := #[(.int .i64 0), (.int .i64 0), (.slice none 0 0)]) rfl rfl (Nat.le_of_ble_eq_true rfl) rfl (fun w48 P2 e49 => ?_)
   have O4_ := O4.chg e49 N4_2
   have O5_ := O5.chg e49 (N2_5).symm
   have O4 := O4_
   have O5 := O5_
   have hB := echg hB e49 L2
   have O2 := P2
   refine ⟨_, (O2.at 0 rfl rfl), _, (O2.at 1 rfl rfl), _, _, _, (O2.at 2 rfl rfl), ?_⟩
   obtain rfl := hr.trans H.symm
   exact ⟨none, 0, rfl, Own.nil, hB⟩
  refine ⟨_, (O5.at 1 rfl rfl), ?_⟩
  refine brc H (fun hc54 H => ?_) (fun hc54 H => ?_)
  ·refine stBlk O2 (o := 0) (cs' := #[(.int .i64 0), (.int .i64 0), (.slice none 0 0)]) rfl rfl (Nat.le_of_ble_eq_true rfl) rfl (fun w50 P2 e51 => ?_)
   have O4_ := O4.chg e51 N4_2
   have O5_ := O5.chg e51 (N2_5).symm
   have O4 := O4_
   have O5 := O5_
   have hB := echg hB e51 L2
   have O2 := P2
   refine ⟨_, (O2.at 0 rfl rfl), _, (O2.at 1 rfl rfl), _, _, _, (O2.at 2 rfl rfl), ?_⟩
   obtain rfl := hr.trans H.symm
   exact ⟨none, 0, rfl, Own.nil, hB⟩
  refine ⟨_, (O5.at 0 rfl rfl), _, (O5.at 1 rfl rfl), _, _, _, (O5.at 2 rfl rfl), ?_⟩
  refine stBlk O2 (o := 0) (cs' := #[(.int .i64 r37.1.Thread), (.int .i64 r37.1.Pc), (.slice A42 r37.1.Regs.length c43)]) rfl rfl (Nat.le_of_ble_eq_true rfl) rfl (fun w52 P2 e53 => ?_)
  have O4_ := O4.chg e53 N4_2
  have O5_ := O5.chg e53 (N2_5).symm
  have O4 := O4_
  have O5 := O5_
  have hB := echg hB e53 L2
  have O2 := P2
  refine ⟨_, (O2.at 0 rfl rfl), _, (O2.at 1 rfl rfl), _, _, _, (O2.at 2 rfl rfl), ?_⟩
  obtain rfl := hr.trans H.symm
  exact ⟨A42, c43, rfl, O4, hB⟩
def impl_RunAlone.vc (A0 : Option Addr) (n0 : Nat) (c0 : Nat) (x1 : Int) (w : World) (K : Value → World → Prop) : Prop :=
  newK w (.cells #[(.int .i64 0), (.int .i64 0), (.slice none 0 0)] 79) fun g21 w22 => Cll Tryz.prog 117 #[(.slice A0 n0 c0), (.int .i64 x1)] w22 fun v23 w24 => (∃ u25 : Value, (∃ (n26 : Int), True ∧ ∃ (n27 : Int), True ∧ ∃ (A28 : Option Addr) (n29 : Nat) (c30 : Nat), True ∧ u25 = (.agg #[(.int .i64 n26), (.int .i64 n27), (.slice A28 n29 c30)]) ∧ ∃ u31 : Value, (∃ (n32 : Int), u31 = (.int .i64 n32) ∧ ∃ u33 : Value, (∃ (b34 : Bool), u33 = (.bool b34) ∧ v23 = (.tuple #[(.agg #[(.int .i64 n26), (.int .i64 n27), (.slice A28 n29 c30)]), (.int .i64 n32), (.bool b34)]) ∧ newK w24 (.cells #[(.int .i64 0), (.int .i64 0), (.slice none 0 0)] 79) fun g35 w36 => stCells (⟨g35, 0, none⟩ : Addr) [(.int .i64 n26), (.int .i64 n27), (.slice A28 n29 c30)] 0 w36 fun w37 => ∃ (n38 : Int), w37.cell? ((⟨g35, 0, none⟩ : Addr).add 0) = some (.int .i64 n38) ∧ ∃ (n39 : Int), w37.cell? ((⟨g35, 0, none⟩ : Addr).add 1) = some (.int .i64 n39) ∧ ∃ (A40 : Option Addr) (n41 : Nat) (c42 : Nat), w37.cell? ((⟨g35, 0, none⟩ : Addr).add 2) = some (.slice A40 n41 c42) ∧ stCells (⟨g21, 0, none⟩ : Addr) [(.int .i64 n38), (.int .i64 n39), (.slice A40 n41 c42)] 0 w37 fun w43 => ∃ (n44 : Int), w43.cell? ((⟨g21, 0, none⟩ : Addr).add 0) = some (.int .i64 n44) ∧ ∃ (n45 : Int), w43.cell? ((⟨g21, 0, none⟩ : Addr).add 1) = some (.int .i64 n45) ∧ ∃ (A46 : Option Addr) (n47 : Nat) (c48 : Nat), w43.cell? ((⟨g21, 0, none⟩ : Addr).add 2) = some (.slice A46 n47 c48) ∧ K (.tuple #[(.agg #[(.int .i64 n44), (.int .i64 n45), (.slice A46 n47 c48)]), (.bool b34)]) w43))))

def impl_RunAlone.ann : Ann := (.seq .l (.seq .l (.seq .l .l)))

theorem impl_RunAlone.con {xs0 : List D.Ins} {A0 : Option Addr} {c0 : Nat} {x1 : Int} {r : D.Lane × Bool} {w : World} (hp : M.impl_RunAlone_pre xs0 x1) (hr : r = M.impl_RunAlone xs0 x1) (R0 : Row el91 w A0 xs0) (hc0 : xs0.length ≤ c0) :
    Cll Tryz.prog 60 #[(.slice A0 xs0.length c0), (.int .i64 x1)] w (fun v_ w_ => ∃ (A0_ : Option Addr) (c0_ : Nat), v_ = (.tuple #[(.agg #[(.int .i64 r.1.Thread), (.int .i64 r.1.Pc), (.slice A0_ r.1.Regs.length c0_)]), (.bool r.2)]) ∧ Own el3 w_ w.heap.size A0_ c0_ r.1.Regs ∧ Ext w w_) := by
  have H := wp.impl_RunAlone.math xs0 x1 hp
  have hB := Ext.refl w
  refine beginF mixed (fn := Tryz.f60) (by kernel_rfl) (by kernel_rfl) (an := impl_RunAlone.ann) (V := impl_RunAlone.vc A0 xs0.length c0 x1) (by kernel_rfl) ?_
  unfold impl_RunAlone.vc
  unfold wp.impl_RunAlone at H
  refine newBlk (fun g2_ w21 L2 P2 e22 => ?_)
  have O2 := P2
  have L2 := Nat.le_trans hB.size L2
  have hB := ethen hB e22
  obtain ⟨hp25, H⟩ := H
  obtain ⟨r23, hr24, H⟩ := callO H
  refine (impl_alone.con hp25 hr24 (R0.ext hB) hc0).mono ?_
  rintro _ w26 ⟨A28, c29, rfl, P3, e27⟩
  have N3_2 := P3.apart_old O2.lt
  have O2 := O2.ext e27
  have O3 := P3.mono hB.size
  have hB := ethen hB e27
  refine ⟨(.agg #[(.int .i64 r23.1.Thread), (.int .i64 r23.1.Pc), (.slice A28 r23.1.Regs.length c29)]), r23.1.Thread, trivial, r23.1.Pc, trivial, A28, r23.1.Regs.length, c29, trivial, rfl, (.int .i64 r23.2.1), r23.2.1, rfl, (.bool r23.2.2), r23.2.2, rfl, rfl, ?_⟩
  refine newBlk (fun g4_ w30 L4 P4 e31 => ?_)
  have N2_4 := O2.ne L4
  have N3_4 := O3.apart_new L4
  have O2 := O2.ext e31
  have O3 := O3.ext e31
  have O4 := P4
  have L4 := Nat.le_trans hB.size L4
  have hB := ethen hB e31
  refine stBlk O4 (o := 0) (cs' := #[(.int .i64 r23.1.Thread), (.int .i64 r23.1.Pc), (.slice A28 r23.1.Regs.length c29)]) rfl rfl (Nat.le_of_ble_eq_true rfl) rfl (fun w32 P4 e33 => ?_)
  have O2_ := O2.chg e33 N2_4
  have O3_ := O3.chg e33 N3_4
  have O2 := O2_
  have O3 := O3_
  have hB := echg hB e33 L4
  have O4 := P4
  refine ⟨_, (O4.at 0 rfl rfl), _, (O4.at 1 rfl rfl), _, _, _, (O4.at 2 rfl rfl), ?_⟩
  refine stBlk O2 (o := 0) (cs' := #[(.int .i64 r23.1.Thread), (.int .i64 r23.1.Pc), (.slice A28 r23.1.Regs.length c29)]) rfl rfl (Nat.le_of_ble_eq_true rfl) rfl (fun w34 P2 e35 => ?_)
  have O3_ := O3.chg e35 N3_2
  have O4_ := O4.chg e35 (N2_4).symm
  have O3 := O3_
  have O4 := O4_
  have hB := echg hB e35 L2
  have O2 := P2
  refine ⟨_, (O2.at 0 rfl rfl), _, (O2.at 1 rfl rfl), _, _, _, (O2.at 2 rfl rfl), ?_⟩
  obtain rfl := hr.trans H.symm
  exact ⟨A28, c29, rfl, O3, hB⟩
def impl_isWarpNumber.vc (x0 : Int) (w : World) (K : Value → World → Prop) : Prop :=
  Cll Tryz.prog 58 #[(.int .i64 x0), (.int .i64 0), (.int .i64 2)] w fun v21 w22 => (∃ (b23 : Bool), v21 = (.bool b23) ∧ K (.bool b23) w22)

def impl_isWarpNumber.ann : Ann := (.seq .l (.seq .l .l))

theorem impl_isWarpNumber.con {x0 : Int} {r : Bool} {w : World} (hr : r = M.impl_isWarpNumber x0)  :
    Cll Tryz.prog 55 #[(.int .i64 x0)] w (fun v_ w_ => v_ = (.bool r) ∧ Ext w w_) := by
  have H := wp.impl_isWarpNumber.math x0
  have hB := Ext.refl w
  refine beginF mixed (fn := Tryz.f55) (by kernel_rfl) (by kernel_rfl) (an := impl_isWarpNumber.ann) (V := impl_isWarpNumber.vc x0) (by kernel_rfl) ?_
  unfold impl_isWarpNumber.vc
  unfold wp.impl_isWarpNumber at H
  obtain ⟨r21, hr22, H⟩ := callO H
  refine (impl_within.con hr22 ).mono ?_
  rintro _ w24 ⟨rfl, e25⟩
  have hB := ethen hB e25
  refine ⟨r21, rfl, ?_⟩
  obtain rfl := hr.trans H.symm
  exact ⟨rfl, hB⟩
def slices_Index_int_int.vc (A0 : Option Addr) (n0 : Nat) (c0 : Nat) (x1 : Int) (w : World) (K : Value → World → Prop) : Prop :=
  LoopT (σ := Int × Unit) (fun z21 w22 next23 => bcase (decide (z21.1 < ((n0 : Nat) : Int))) (((0 : Int) ≤ z21.1 ∧ z21.1 < ((n0 : Nat) : Int) ∧ ∃ a24 : Addr, A0 = some a24 ∧ ∃ (n25 : Int), w22.cell? ((a24.add ((z21.1.toNat) * 1)).add 0) = some (.int .i64 n25) ∧ bcase (x1 == n25) (K (.int .i64 z21.1) w22) (next23 ((IntKind.wrap .i64 (z21.1 + 1)), ()) w22))) (K (.int .i64 (-1)) w22)) (0, ()) w

def slices_Index_int_int.ann : Ann := (.seq .l (.seq (.seq .l (.one (.loop [(8, .int .i64)] (.seq .l (.seq (.two .l .l) (.seq (.one (.seq .l (.seq .l (.two (.seq .l .l) .l)))) .l)))))) (.seq .l .l)))

theorem slices_Index_int_int.con {xs0 : List Int} {A0 : Option Addr} {c0 : Nat} {x1 : Int} {r : Int} {w : World} (hp : M.slices_Index_int_int_pre xs0 x1) (hr : r = M.slices_Index_int_int xs0 x1) (R0 : Row el3 w A0 xs0) (hc0 : xs0.length ≤ c0) :
    Cll Tryz.prog 165 #[(.slice A0 xs0.length c0), (.int .i64 x1)] w (fun v_ w_ => v_ = (.int .i64 r) ∧ Ext w w_) := by
  have H := wp.slices_Index_int_int.math xs0 x1 hp
  have hB := Ext.refl w
  refine beginF mixed (fn := Tryz.f165) (by kernel_rfl) (by kernel_rfl) (an := slices_Index_int_int.ann) (V := slices_Index_int_int.vc A0 xs0.length c0 x1) (by kernel_rfl) ?_
  unfold slices_Index_int_int.vc
  unfold wp.slices_Index_int_int at H
  obtain ⟨J23, ⟨m39, hJ38⟩, hS24⟩ := H
  refine ⟨fun m_ z_ w_ => ∃ (i21 : Int), z_ = (i21, ()) ∧ J23 m_ (i21, ()) ∧ Ext w w_, ⟨m39, 0, rfl, hJ38, hB⟩, ?_⟩
  rintro m22 _ w26 ⟨i21, rfl, hJ40, hB⟩
  have H := hS24 m22 _ hJ40
  clear hS24 hJ40
  try dsimp only at H ⊢
  refine brc H (fun hc36 H => ?_) (fun hc36 H => ?_)
  ·obtain ⟨⟨h0_30, h1_31⟩, H⟩ := H
   obtain ⟨a28, ha29, hat27⟩ := Row.at (R0.ext hB) h0_30 h1_31
   refine ⟨h0_30, h1_31, a28, ha29, _, (hat27 0 _ rfl), ?_⟩
   refine brc H (fun hc35 H => ?_) (fun hc35 H => ?_)
   ·obtain rfl := hr.trans H.symm
    exact ⟨rfl, hB⟩
   obtain ⟨m32, hm33, hJ34⟩ := H
   exact ⟨m32, hm33, (IntKind.wrap .i64 (i21 + 1)), rfl, hJ34, hB⟩
  obtain rfl := hr.trans H.symm
  exact ⟨rfl, hB⟩
def slices_Contains_int_int.vc (A0 : Option Addr) (n0 : Nat) (c0 : Nat) (x1 : Int) (w : World) (K : Value → World → Prop) : Prop :=
  Cll Tryz.prog 165 #[(.slice A0 n0 c0), (.int .i64 x1)] w fun v21 w22 => (∃ (n23 : Int), v21 = (.int .i64 n23) ∧ K (.bool (decide (n23 ≥ 0))) w22)

def slices_Contains_int_int.ann : Ann := (.seq .l (.seq .l .l))

theorem slices_Contains_int_int.con {xs0 : List Int} {A0 : Option Addr} {c0 : Nat} {x1 : Int} {r : Bool} {w : World} (hp : M.slices_Contains_int_int_pre xs0 x1) (hr : r = M.slices_Contains_int_int xs0 x1) (R0 : Row el3 w A0 xs0) (hc0 : xs0.length ≤ c0) :
    Cll Tryz.prog 120 #[(.slice A0 xs0.length c0), (.int .i64 x1)] w (fun v_ w_ => v_ = (.bool r) ∧ Ext w w_) := by
  have H := wp.slices_Contains_int_int.math xs0 x1 hp
  have hB := Ext.refl w
  refine beginF mixed (fn := Tryz.f120) (by kernel_rfl) (by kernel_rfl) (an := slices_Contains_int_int.ann) (V := slices_Contains_int_int.vc A0 xs0.length c0 x1) (by kernel_rfl) ?_
  unfold slices_Contains_int_int.vc
  unfold wp.slices_Contains_int_int at H
  obtain ⟨hp23, H⟩ := H
  obtain ⟨r21, hr22, H⟩ := callO H
  refine (slices_Index_int_int.con hp23 hr22 (R0.ext hB) hc0).mono ?_
  rintro _ w24 ⟨rfl, e25⟩
  have hB := ethen hB e25
  refine ⟨r21, rfl, ?_⟩
  obtain rfl := hr.trans H.symm
  exact ⟨rfl, hB⟩
def impl_EndRegs.vc (A0 : Option Addr) (n0 : Nat) (c0 : Nat) (x1 : Int) (x2 : Int) (w : World) (K : Value → World → Prop) : Prop :=
  Cll Tryz.prog 58 #[(.int .i64 x2), (.int .i64 1), (.int .i64 24)] w fun v22 w23 => (∃ (b24 : Bool), v22 = (.bool b24) ∧ bcase (!b24) (K (.tuple #[(.slice none 0 0), (.bool false)]) w23) (Cll Tryz.prog 59 #[(.int .i64 x1)] w23 fun v25 w26 => (∃ (b27 : Bool), v25 = (.bool b27) ∧ bcase (!b27) (K (.tuple #[(.slice none 0 0), (.bool false)]) w26) (Run Tryz.prog (Instr.buildSlice 27 0 #[]) w26 fun v28 w29 => ∃ (A30 : Option Addr) (n31 c32 : Nat), v28 = .slice A30 n31 c32 ∧ LoopT (σ := (Option Addr × Nat × Nat) × Int × Unit) (fun z33 w34 next35 => bcase (decide (z33.2.1 < x2)) (Cll Tryz.prog 60 #[(.slice A0 n0 c0), (.int .i64 (IntKind.wrap .i64 (x1 + z33.2.1)))] w34 fun v36 w37 => (∃ u38 : Value, (∃ (n39 : Int), True ∧ ∃ (n40 : Int), True ∧ ∃ (A41 : Option Addr) (n42 : Nat) (c43 : Nat), True ∧ u38 = (.agg #[(.int .i64 n39), (.int .i64 n40), (.slice A41 n42 c43)]) ∧ ∃ u44 : Value, (∃ (b45 : Bool), u44 = (.bool b45) ∧ v36 = (.tuple #[(.agg #[(.int .i64 n39), (.int .i64 n40), (.slice A41 n42 c43)]), (.bool b45)]) ∧ newK w37 (.cells #[(.int .i64 0), (.int .i64 0), (.slice none 0 0)] 79) fun g46 w47 => stCells (⟨g46, 0, none⟩ : Addr) [(.int .i64 n39), (.int .i64 n40), (.slice A41 n42 c43)] 0 w47 fun w48 => bcase (!b45) (K (.tuple #[(.slice none 0 0), (.bool false)]) w48) (∃ (A49 : Option Addr) (n50 : Nat) (c51 : Nat), w48.cell? (((⟨g46, 0, none⟩ : Addr).add 2).add 0) = some (.slice A49 n50 c51) ∧ Run Tryz.prog (Builtin.append_ #[27, 27] 27 #[(.slice z33.1.1 z33.1.2.1 z33.1.2.2), (.slice A49 n50 c51)]) w48 fun v52 w53 => ∃ (A54 : Option Addr) (n55 c56 : Nat), v52 = .slice A54 n55 c56 ∧ next35 ((A54, n55, c56), (IntKind.wrap .i64 (z33.2.1 + 1)), ()) w53))))) (K (.tuple #[(.slice z33.1.1 z33.1.2.1 z33.1.2.2), (.bool true)]) w34)) ((A30, n31, c32), 0, ()) w29))))

def impl_EndRegs.ann : Ann := (.seq .l (.seq (.seq .l (.two (.seq .l .l) .l)) (.seq .l (.seq (.seq .l (.one (.loop [(8, .sl), (22, .int .i64)] (.seq .l (.seq (.two .l .l) (.seq (.one (.seq .l (.seq .l (.seq (.seq .l (.two (.seq .l .l) .l)) .l)))) .l)))))) (.seq .l .l)))))

theorem impl_EndRegs.con {xs0 : List D.Ins} {A0 : Option Addr} {c0 : Nat} {x1 : Int} {x2 : Int} {r : (List Int) × Bool} {w : World} (hp : M.impl_EndRegs_pre xs0 x1 x2) (hr : r = M.impl_EndRegs xs0 x1 x2) (R0 : Row el91 w A0 xs0) (hc0 : xs0.length ≤ c0) :
    Cll Tryz.prog 15 #[(.slice A0 xs0.length c0), (.int .i64 x1), (.int .i64 x2)] w (fun v_ w_ => ∃ (A0_ : Option Addr) (c0_ : Nat), v_ = (.tuple #[(.slice A0_ r.1.length c0_), (.bool r.2)]) ∧ Own el3 w_ w.heap.size A0_ c0_ r.1 ∧ Ext w w_) := by
  have H := wp.impl_EndRegs.math xs0 x1 x2 hp
  have hB := Ext.refl w
  refine beginF mixed (fn := Tryz.f15) (by kernel_rfl) (by kernel_rfl) (an := impl_EndRegs.ann) (V := impl_EndRegs.vc A0 xs0.length c0 x1 x2) (by kernel_rfl) ?_
  unfold impl_EndRegs.vc
  unfold wp.impl_EndRegs at H
  obtain ⟨r21, hr22, H⟩ := callO H
  refine (impl_within.con hr22 ).mono ?_
  rintro _ w24 ⟨rfl, e25⟩
  have hB := ethen hB e25
  refine ⟨r21, rfl, ?_⟩
  refine brc H (fun hc69 H => ?_) (fun hc69 H => ?_)
  ·obtain rfl := hr.trans H.symm
   exact ⟨none, 0, rfl, Own.nil, hB⟩
  obtain ⟨r26, hr27, H⟩ := callO H
  refine (impl_isThread.con hr27 ).mono ?_
  rintro _ w29 ⟨rfl, e30⟩
  have hB := ethen hB e30
  refine ⟨r26, rfl, ?_⟩
  refine brc H (fun hc68 H => ?_) (fun hc68 H => ?_)
  ·obtain rfl := hr.trans H.symm
   exact ⟨none, 0, rfl, Own.nil, hB⟩
  refine buildOwn el3 ([] : List Int) (fun _ => by kernel_rfl) rfl (fun A31 w32 P2 e33 => ?_)
  have O2 := P2.mono hB.size
  have hB := ethen hB e33
  obtain ⟨J39, ⟨m66, hJ65⟩, hS40⟩ := H
  refine ⟨fun m_ z_ w_ => ∃ (xs34 : List Int) (i37 : Int) (A35 : Option Addr) (c36 : Nat), z_ = ((A35, xs34.length, c36), i37, ()) ∧ J39 m_ (xs34, i37, ()) ∧ Ext w w_ ∧ Own el3 w_ w.heap.size A35 c36 xs34, ⟨m66, ([] : List Int), 0, A31, 0, rfl, hJ65, hB, O2⟩, ?_⟩
  rintro m38 _ w42 ⟨xs34, i37, A35, c36, rfl, hJ67, hB, O3⟩
  have H := hS40 m38 _ hJ67
  clear hS40 hJ67
  try dsimp only at H ⊢
  refine brc H (fun hc63 H => ?_) (fun hc63 H => ?_)
  ·obtain ⟨hp45, H⟩ := H
   obtain ⟨r43, hr44, H⟩ := callO H
   refine (impl_RunAlone.con hp45 hr44 (R0.ext hB) hc0).mono ?_
   rintro _ w46 ⟨A48, c49, rfl, P4, e47⟩
   have N3_4 := Own.apart2_new O3 P4 (Nat.le_refl _)
   have O3 := O3.ext e47
   have O4 := P4.mono hB.size
   have hB := ethen hB e47
   refine ⟨(.agg #[(.int .i64 r43.1.Thread), (.int .i64 r43.1.Pc), (.slice A48 r43.1.Regs.length c49)]), r43.1.Thread, trivial, r43.1.Pc, trivial, A48, r43.1.Regs.length, c49, trivial, rfl, (.bool r43.2), r43.2, rfl, rfl, ?_⟩
   refine newBlk (fun g5_ w50 L5 P5 e51 => ?_)
   have N3_5 := O3.apart_new L5
   have N4_5 := O4.apart_new L5
   have O3 := O3.ext e51
   have O4 := O4.ext e51
   have O5 := P5
   have L5 := Nat.le_trans hB.size L5
   have hB := ethen hB e51
   refine stBlk O5 (o := 0) (cs' := #[(.int .i64 r43.1.Thread), (.int .i64 r43.1.Pc), (.slice A48 r43.1.Regs.length c49)]) rfl rfl (Nat.le_of_ble_eq_true rfl) rfl (fun w52 P5 e53 => ?_)
   have O3_ := O3.chg e53 N3_5
   have O4_ := O4.chg e53 N4_5
   have O3 := O3_
   have O4 := O4_
   have hB := echg hB e53 L5
   have O5 := P5
   refine brc H (fun hc62 H => ?_) (fun hc62 H => ?_)
   ·obtain rfl := hr.trans H.symm
    exact ⟨none, 0, rfl, Own.nil, hB⟩
   refine ⟨_, _, _, (O5.at 2 rfl rfl), ?_⟩
   obtain ⟨hl58, H⟩ := H
   refine appOwn slt27 slt27.under O3 O4.row hB.size rfl rfl hl58 (fun A54 c55 w56 P3 e57 => ?_)
   have N4_3_ := Apart2.app (N3_4).symm e57 O4
   have O4 := O4.app e57 (N3_4).symm
   have N3_5_ := Apart.app N3_5 e57 O5.lt
   have O5 := O5.app e57 N3_5
   have N4_3 := N4_3_
   have N3_5 := N3_5_
   have hB := eapp hB e57 O3
   have O3 := P3
   obtain ⟨m59, hm60, hJ61⟩ := H
   exact ⟨m59, hm60, (xs34 ++ r43.1.Regs), (IntKind.wrap .i64 (i37 + 1)), A54, c55, rfl, hJ61, hB, O3⟩
  obtain rfl := hr.trans H.symm
  exact ⟨A35, c36, rfl, O3, hB⟩
def impl_DifferingLanes.vc (A0 : Option Addr) (n0 : Nat) (c0 : Nat) (A1 : Option Addr) (n1 : Nat) (c1 : Nat) (x2 : Int) (w : World) (K : Value → World → Prop) : Prop :=
  Cll Tryz.prog 55 #[(.int .i64 x2)] w fun v21 w22 => (∃ (b23 : Bool), v21 = (.bool b23) ∧ bcase (!b23) (K (.int .i64 (-1)) w22) (Cll Tryz.prog 15 #[(.slice A0 n0 c0), (.int .i64 (IntKind.wrap .i64 (x2 * 8))), (.int .i64 8)] w22 fun v24 w25 => (∃ u26 : Value, (∃ (A27 : Option Addr) (n28 : Nat) (c29 : Nat), u26 = (.slice A27 n28 c29) ∧ ∃ u30 : Value, (∃ (b31 : Bool), u30 = (.bool b31) ∧ v24 = (.tuple #[(.slice A27 n28 c29), (.bool b31)]) ∧ Cll Tryz.prog 15 #[(.slice A1 n1 c1), (.int .i64 (IntKind.wrap .i64 (x2 * 8))), (.int .i64 8)] w25 fun v32 w33 => (∃ u34 : Value, (∃ (A35 : Option Addr) (n36 : Nat) (c37 : Nat), u34 = (.slice A35 n36 c37) ∧ ∃ u38 : Value, (∃ (b39 : Bool), u38 = (.bool b39) ∧ v32 = (.tuple #[(.slice A35 n36 c37), (.bool b39)]) ∧ bcase (!b31) (K (.int .i64 (-1)) w33) (bcase (!b39) (K (.int .i64 (-1)) w33) (LoopT (σ := Int × Int × Unit) (fun z41 w42 next43 => bcase (decide (z41.2.1 < ((n28 : Nat) : Int))) (((0 : Int) ≤ z41.2.1 ∧ z41.2.1 < ((n28 : Nat) : Int) ∧ ∃ a44 : Addr, A27 = some a44 ∧ ∃ (n45 : Int), w42.cell? ((a44.add ((z41.2.1.toNat) * 1)).add 0) = some (.int .i64 n45) ∧ ((0 : Int) ≤ z41.2.1 ∧ z41.2.1 < ((n36 : Nat) : Int) ∧ ∃ a46 : Addr, A35 = some a46 ∧ ∃ (n47 : Int), w42.cell? ((a46.add ((z41.2.1.toNat) * 1)).add 0) = some (.int .i64 n47) ∧ bcase (n45 != n47) (((4 : Int) ≠ 0 ∧ ((0 : Int) ≤ (IntKind.wrap .i64 (Int.tdiv z41.2.1 4)) ∧ next43 ((bitOr .i64 z41.1 (IntKind.wrap .i64 (1 * 2 ^ (min ((IntKind.wrap .i64 (Int.tdiv z41.2.1 4)).toNat) (IntKind.bits .i64))))), (IntKind.wrap .i64 (z41.2.1 + 1)), ()) w42.drew))) (next43 (z41.1, (IntKind.wrap .i64 (z41.2.1 + 1)), ()) w42.drew)))) (K (.int .i64 z41.1) w42)) (0, 0, ()) w33))))))))))

def impl_DifferingLanes.ann : Ann := (.seq .l (.seq (.seq .l (.two (.seq .l .l) .l)) (.seq .l (.seq .l (.seq (.seq .l (.two (.seq .l .l) .l)) (.seq .l (.seq (.seq .l (.one (.loop [(11, .int .i64), (38, .int .i64)] (.seq .l (.seq (.two .l .l) (.seq (.one (.seq .l (.seq .l (.two .l .l)))) .l)))))) (.seq .l .l))))))))

theorem impl_DifferingLanes.con {xs0 : List D.Ins} {A0 : Option Addr} {c0 : Nat} {xs1 : List D.Ins} {A1 : Option Addr} {c1 : Nat} {x2 : Int} {r : Int} {w : World} (hp : M.impl_DifferingLanes_pre xs0 xs1 x2) (hr : r = M.impl_DifferingLanes xs0 xs1 x2) (R0 : Row el91 w A0 xs0) (hc0 : xs0.length ≤ c0) (R1 : Row el91 w A1 xs1) (hc1 : xs1.length ≤ c1) :
    Cll Tryz.prog 28 #[(.slice A0 xs0.length c0), (.slice A1 xs1.length c1), (.int .i64 x2)] w (fun v_ w_ => v_ = (.int .i64 r) ∧ Ext w w_) := by
  have H := wp.impl_DifferingLanes.math xs0 xs1 x2 hp
  have hB := Ext.refl w
  refine beginF mixed (fn := Tryz.f28) (by kernel_rfl) (by kernel_rfl) (an := impl_DifferingLanes.ann) (V := impl_DifferingLanes.vc A0 xs0.length c0 A1 xs1.length c1 x2) (by kernel_rfl) ?_
  unfold impl_DifferingLanes.vc
  unfold wp.impl_DifferingLanes at H
  obtain ⟨r21, hr22, H⟩ := callO H
  refine (impl_isWarpNumber.con hr22 ).mono ?_
  rintro _ w24 ⟨rfl, e25⟩
  have hB := ethen hB e25
  refine ⟨r21, rfl, ?_⟩
  refine brc H (fun hc74 H => ?_) (fun hc74 H => ?_)
  ·obtain rfl := hr.trans H.symm
   exact ⟨rfl, hB⟩
  obtain ⟨hp28, H⟩ := H
  obtain ⟨r26, hr27, H⟩ := callO H
  refine (impl_EndRegs.con hp28 hr27 (R0.ext hB) hc0).mono ?_
  rintro _ w29 ⟨A31, c32, rfl, P3, e30⟩
  have O3 := P3.mono hB.size
  have hB := ethen hB e30
  refine ⟨(.slice A31 r26.1.length c32), A31, r26.1.length, c32, rfl, (.bool r26.2), r26.2, rfl, rfl, ?_⟩
  obtain ⟨hp35, H⟩ := H
  obtain ⟨r33, hr34, H⟩ := callO H
  refine (impl_EndRegs.con hp35 hr34 (R1.ext hB) hc1).mono ?_
  rintro _ w36 ⟨A38, c39, rfl, P4, e37⟩
  have N3_4 := Own.apart2_new O3 P4 (Nat.le_refl _)
  have O3 := O3.ext e37
  have O4 := P4.mono hB.size
  have hB := ethen hB e37
  refine ⟨(.slice A38 r33.1.length c39), A38, r33.1.length, c39, rfl, (.bool r33.2), r33.2, rfl, rfl, ?_⟩
  refine brc H (fun hc73 H => ?_) (fun hc73 H => ?_)
  ·obtain rfl := hr.trans H.symm
   exact ⟨rfl, hB⟩
  refine brc H (fun hc72 H => ?_) (fun hc72 H => ?_)
  ·obtain rfl := hr.trans H.symm
   exact ⟨rfl, hB⟩
  obtain ⟨J43, ⟨m70, hJ69⟩, hS44⟩ := H
  refine ⟨fun m_ z_ w_ => ∃ (i40 : Int) (i41 : Int), z_ = (i40, i41, ()) ∧ J43 m_ (i40, i41, ()) ∧ Ext w w_ ∧ Own el3 w_ w.heap.size A31 c32 r26.1 ∧ Own el3 w_ w.heap.size A38 c39 r33.1, ⟨m70, 0, 0, rfl, hJ69, hB, O3, O4⟩, ?_⟩
  rintro m42 _ w46 ⟨i40, i41, rfl, hJ71, hB, O3, O4⟩
  have H := hS44 m42 _ hJ71
  clear hS44 hJ71
  try dsimp only at H ⊢
  refine brc H (fun hc67 H => ?_) (fun hc67 H => ?_)
  ·obtain ⟨⟨h0_51, h1_52⟩, H⟩ := H
   obtain ⟨a49, ha50, hat48⟩ := Row.at O3.row h0_51 h1_52
   refine ⟨h0_51, h1_52, a49, ha50, _, (hat48 0 _ rfl), ?_⟩
   obtain ⟨⟨h0_56, h1_57⟩, H⟩ := H
   obtain ⟨a54, ha55, hat53⟩ := Row.at O4.row h0_56 h1_57
   refine ⟨h0_56, h1_57, a54, ha55, _, (hat53 0 _ rfl), ?_⟩
   have O3 := O3.ext (Ext.drew _)
   have O4 := O4.ext (Ext.drew _)
   have hB := ethen hB (Ext.drew _)
   refine brc H (fun hc66 H => ?_) (fun hc66 H => ?_)
   ·refine ⟨by decide, ?_⟩
    obtain ⟨hc59, H⟩ := H
    refine ⟨hc59, ?_⟩
    obtain ⟨m60, hm61, hJ62⟩ := H
    exact ⟨m60, hm61, (bitOr .i64 i40 (IntKind.wrap .i64 (1 * 2 ^ (min ((IntKind.wrap .i64 (Int.tdiv i41 4)).toNat) (IntKind.bits .i64))))), (IntKind.wrap .i64 (i41 + 1)), rfl, hJ62, hB, O3, O4⟩
   obtain ⟨m63, hm64, hJ65⟩ := H
   exact ⟨m63, hm64, i40, (IntKind.wrap .i64 (i41 + 1)), rfl, hJ65, hB, O3, O4⟩
  obtain rfl := hr.trans H.symm
  exact ⟨rfl, hB⟩
def spec_l01New.vc (A0 : Option Addr) (n0 : Nat) (c0 : Nat) (w : World) (K : Value → World → Prop) : Prop :=
  LoopT (σ := Int × Int × Unit) (fun z21 w22 next23 => bcase (decide (z21.2.1 < ((n0 : Nat) : Int))) (bcase (decide (z21.2.1 < 4000)) (((0 : Int) ≤ z21.2.1 ∧ z21.2.1 < ((n0 : Nat) : Int) ∧ ∃ a25 : Addr, A0 = some a25 ∧ ∃ (n26 : Int), w22.cell? ((a25.add ((z21.2.1.toNat) * 1)).add 0) = some (.int .u8 n26) ∧ next23 ((bitAnd .i64 (IntKind.wrap .i64 ((IntKind.wrap .i64 ((IntKind.wrap .i64 (z21.1 * 131)) + (IntKind.wrap .i64 n26))) + 7)) 1073741823), (IntKind.wrap .i64 (z21.2.1 + 1)), ()) w22)) (newK w22 (.cells #[(.slice A0 n0 c0), (.int .i64 0), (.int .i64 z21.1)] 123) fun g27 w28 => K (.pointer (some (⟨g27, 0, none⟩ : Addr))) w28)) (newK w22 (.cells #[(.slice A0 n0 c0), (.int .i64 0), (.int .i64 z21.1)] 123) fun g29 w30 => K (.pointer (some (⟨g29, 0, none⟩ : Addr))) w30)) ((IntKind.wrap .i64 (98561 + ((n0 : Nat) : Int))), 0, ()) w

def spec_l01New.ann : Ann := (.seq .l (.seq .l (.seq (.seq .l (.one (.loop [(3, .int .i64), (4, .int .i64)] (.seq (.seq .l (.two .l .l)) (.seq (.one .l) .l))))) (.seq .l .l))))

theorem spec_l01New.con {xs0 : List Int} {A0 : Option Addr} {c0 : Nat} {r : D.Cur} {w : World} (hp : M.spec_l01New_pre xs0) (hr : r = M.spec_l01New xs0) (R0 : Row el5 w A0 xs0) (hc0 : xs0.length ≤ c0) :
    Cll Tryz.prog 54 #[(.slice A0 xs0.length c0)] w (fun v_ w_ => ∃ (g0_ : Nat), v_ = (.pointer (some (⟨g0_, 0, none⟩ : Addr))) ∧ Blk w_ g0_ 123 #[(.slice A0 r.b.length c0), (.int .i64 r.i), (.int .i64 r.h)] ∧ r.b = xs0 ∧ w.heap.size ≤ g0_ ∧ Ext w w_) := by
  have H := wp.spec_l01New.math xs0 hp
  have hB := Ext.refl w
  refine beginF mixed (fn := Tryz.f54) (by kernel_rfl) (by kernel_rfl) (an := spec_l01New.ann) (V := spec_l01New.vc A0 xs0.length c0) (by kernel_rfl) ?_
  unfold spec_l01New.vc
  unfold wp.spec_l01New at H
  obtain ⟨J24, ⟨m44, hJ43⟩, hS25⟩ := H
  refine ⟨fun m_ z_ w_ => ∃ (i21 : Int) (i22 : Int), z_ = (i21, i22, ()) ∧ J24 m_ (i21, i22, ()) ∧ Ext w w_, ⟨m44, (IntKind.wrap .i64 (98561 + ((xs0.length : Nat) : Int))), 0, rfl, hJ43, hB⟩, ?_⟩
  rintro m23 _ w27 ⟨i21, i22, rfl, hJ45, hB⟩
  have H := hS25 m23 _ hJ45
  clear hS25 hJ45
  try dsimp only at H ⊢
  refine brc H (fun hc41 H => ?_) (fun hc41 H => ?_)
  ·refine brc H (fun hc38 H => ?_) (fun hc38 H => ?_)
   ·obtain ⟨⟨h0_31, h1_32⟩, H⟩ := H
    obtain ⟨a29, ha30, hat28⟩ := Row.at (R0.ext hB) h0_31 h1_32
    refine ⟨h0_31, h1_32, a29, ha30, _, (hat28 0 _ rfl), ?_⟩
    obtain ⟨m33, hm34, hJ35⟩ := H
    exact ⟨m33, hm34, (bitAnd .i64 (IntKind.wrap .i64 ((IntKind.wrap .i64 ((IntKind.wrap .i64 (i21 * 131)) + (IntKind.wrap .i64 (rd xs0 i22)))) + 7)) 1073741823), (IntKind.wrap .i64 (i22 + 1)), rfl, hJ35, hB⟩
   refine newBlk (fun g2_ w36 L2 P2 e37 => ?_)
   have O2 := P2
   have L2 := Nat.le_trans hB.size L2
   have hB := ethen hB e37
   obtain rfl := hr.trans H.symm
   exact ⟨g2_, rfl, O2, rfl, L2, hB⟩
  refine newBlk (fun g3_ w39 L3 P3 e40 => ?_)
  have O3 := P3
  have L3 := Nat.le_trans hB.size L3
  have hB := ethen hB e40
  obtain rfl := hr.trans H.symm
  exact ⟨g3_, rfl, O3, rfl, L3, hB⟩
def spec_l01Byte.vc (p0 : Addr) (w : World) (K : Value → World → Prop) : Prop :=
  ∃ (n21 : Int), w.cell? ((p0.add 2).add 0) = some (.int .i64 n21) ∧ stCells (p0.add 2) [(.int .i64 (IntKind.wrap .i64 ((IntKind.wrap .i64 (n21 * 6364136223846793005)) + 1442695040888963407)))] 0 w fun w22 => ∃ (n23 : Int), w22.cell? ((p0.add 2).add 0) = some (.int .i64 n23) ∧ ((0 : Int) ≤ 33 ∧ ∃ (n24 : Int), w22.cell? ((p0.add 2).add 0) = some (.int .i64 n24) ∧ ((0 : Int) ≤ 45 ∧ ∃ (n25 : Int), w22.drew.cell? ((p0.add 1).add 0) = some (.int .i64 n25) ∧ ∃ (A26 : Option Addr) (n27 : Nat) (c28 : Nat), w22.drew.cell? ((p0.add 0).add 0) = some (.slice A26 n27 c28) ∧ bcase (decide (n25 < ((n27 : Nat) : Int))) (∃ (A29 : Option Addr) (n30 : Nat) (c31 : Nat), w22.drew.drew.cell? ((p0.add 0).add 0) = some (.slice A29 n30 c31) ∧ ∃ (n32 : Int), w22.drew.drew.cell? ((p0.add 1).add 0) = some (.int .i64 n32) ∧ ((0 : Int) ≤ n32 ∧ n32 < ((n30 : Nat) : Int) ∧ ∃ a33 : Addr, A29 = some a33 ∧ ∃ (n34 : Int), w22.drew.drew.cell? ((a33.add ((n32.toNat) * 1)).add 0) = some (.int .u8 n34) ∧ ∃ (n35 : Int), w22.drew.drew.drew.cell? ((p0.add 1).add 0) = some (.int .i64 n35) ∧ stCells (p0.add 1) [(.int .i64 (IntKind.wrap .i64 (n35 + 1)))] 0 w22.drew.drew.drew fun w36 => K (.int .i64 (bitAnd .i64 (IntKind.wrap .i64 ((bitAnd .i64 (bitXor .i64 (Int.fdiv n23 (2 ^ (min ((33 : Int).toNat) (IntKind.bits .i64)))) (Int.fdiv n24 (2 ^ (min ((45 : Int).toNat) (IntKind.bits .i64))))) 255) + (IntKind.wrap .i64 n34))) 255)) w36)) (K (.int .i64 (bitAnd .i64 (bitXor .i64 (Int.fdiv n23 (2 ^ (min ((33 : Int).toNat) (IntKind.bits .i64)))) (Int.fdiv n24 (2 ^ (min ((45 : Int).toNat) (IntKind.bits .i64))))) 255)) w22.drew.drew)))

def spec_l01Byte.ann : Ann := (.seq .l (.seq .l (.seq .l (.seq (.seq .l (.two (.seq .l .l) .l)) (.seq .l .l)))))

theorem spec_l01Byte.con {s0 : D.Cur} {g1_ : Nat} {A0_0 : Option Addr} {c0_0 : Nat} {r : Int × D.Cur} {w : World} (hp : M.spec_l01Byte_pre s0) (hr : r = M.spec_l01Byte s0) (O1 : Blk w g1_ 123 #[(.slice A0_0 s0.b.length c0_0), (.int .i64 s0.i), (.int .i64 s0.h)]) (R0_0 : Row el5 w A0_0 s0.b) (hc0_0 : s0.b.length ≤ c0_0) (D0_0 : s0.b ≠ [] → ∀ g, InB A0_0 g → ¬ (fun k_ => k_ = g1_) g) :
    Cll Tryz.prog 118 #[(.pointer (some (⟨g1_, 0, none⟩ : Addr)))] w (fun v_ w_ => v_ = (.int .i64 r.1) ∧ Blk w_ g1_ 123 #[(.slice A0_0 r.2.b.length c0_0), (.int .i64 r.2.i), (.int .i64 r.2.h)] ∧ r.2.b = s0.b ∧ Chg (fun k_ => k_ = g1_) w w_) := by
  have H := wp.spec_l01Byte.math s0 hp
  have hB := Chg.refl (fun k_ => k_ = g1_) w
  refine beginF mixed (fn := Tryz.f118) (by kernel_rfl) (by kernel_rfl) (an := spec_l01Byte.ann) (V := spec_l01Byte.vc (⟨g1_, 0, none⟩ : Addr)) (by kernel_rfl) ?_
  unfold spec_l01Byte.vc
  unfold wp.spec_l01Byte at H
  refine ⟨_, (O1.at 2 rfl rfl), ?_⟩
  refine stBlk O1 (o := 2) (cs' := #[(.slice A0_0 s0.b.length c0_0), (.int .i64 s0.i), (.int .i64 (IntKind.wrap .i64 ((IntKind.wrap .i64 (s0.h * 6364136223846793005)) + 1442695040888963407)))]) rfl rfl (Nat.le_of_ble_eq_true rfl) rfl (fun w21 P1 e22 => ?_)
  have hB := hB.chgb e22 (Or.inr rfl)
  have O1 := P1
  refine ⟨_, (O1.at 2 rfl rfl), by decide, _, (O1.at 2 rfl rfl), by decide, ?_⟩
  have O1 := O1.ext (Ext.drew _)
  have hB := hB.then (Ext.drew _)
  refine ⟨_, (O1.at 1 rfl rfl), _, _, _, (O1.at 0 rfl rfl), ?_⟩
  have O1 := O1.ext (Ext.drew _)
  have hB := hB.then (Ext.drew _)
  refine brc H (fun hc35 H => ?_) (fun hc35 H => ?_)
  ·refine ⟨_, _, _, (O1.at 0 rfl rfl), _, (O1.at 1 rfl rfl), ?_⟩
   obtain ⟨⟨h0_31, h1_32⟩, H⟩ := H
   obtain ⟨a29, ha30, hat28⟩ := Row.at (R0_0.chgS hB D0_0) h0_31 h1_32
   refine ⟨h0_31, h1_32, a29, ha30, _, (hat28 0 _ rfl), ?_⟩
   have O1 := O1.ext (Ext.drew _)
   have hB := hB.then (Ext.drew _)
   refine ⟨_, (O1.at 1 rfl rfl), ?_⟩
   refine stBlk O1 (o := 1) (cs' := #[(.slice A0_0 s0.b.length c0_0), (.int .i64 (IntKind.wrap .i64 (s0.i + 1))), (.int .i64 (IntKind.wrap .i64 ((IntKind.wrap .i64 (s0.h * 6364136223846793005)) + 1442695040888963407)))]) rfl rfl (Nat.le_of_ble_eq_true rfl) rfl (fun w33 P1 e34 => ?_)
   have hB := hB.chgb e34 (Or.inr rfl)
   have O1 := P1
   obtain rfl := hr.trans H.symm
   exact ⟨rfl, O1, rfl, hB⟩
  obtain rfl := hr.trans H.symm
  exact ⟨rfl, O1, rfl, hB⟩
def spec_l01Below.vc (p0 : Addr) (x1 : Int) (w : World) (K : Value → World → Prop) : Prop :=
  bcase (decide (x1 ≤ 0)) (K (.int .i64 0) w) (bcase (decide (x1 ≤ 256)) (Cll Tryz.prog 118 #[(.pointer (some p0))] w fun v21 w22 => (∃ (n23 : Int), v21 = (.int .i64 n23) ∧ ((x1 : Int) ≠ 0 ∧ K (.int .i64 (Int.tmod n23 x1)) w22))) (Cll Tryz.prog 118 #[(.pointer (some p0))] w fun v24 w25 => (∃ (n26 : Int), v24 = (.int .i64 n26) ∧ Cll Tryz.prog 118 #[(.pointer (some p0))] w25 fun v27 w28 => (∃ (n29 : Int), v27 = (.int .i64 n29) ∧ Cll Tryz.prog 118 #[(.pointer (some p0))] w28 fun v30 w31 => (∃ (n32 : Int), v30 = (.int .i64 n32) ∧ Cll Tryz.prog 118 #[(.pointer (some p0))] w31 fun v33 w34 => (∃ (n35 : Int), v33 = (.int .i64 n35) ∧ ((x1 : Int) ≠ 0 ∧ K (.int .i64 (Int.tmod (IntKind.wrap .i64 ((IntKind.wrap .i64 ((IntKind.wrap .i64 ((IntKind.wrap .i64 (n26 * 16777216)) + (IntKind.wrap .i64 (n29 * 65536)))) + (IntKind.wrap .i64 (n32 * 256)))) + n35)) x1)) w34)))))))

def spec_l01Below.ann : Ann := (.seq .l (.seq (.seq .l (.two (.seq .l .l) .l)) (.seq (.seq .l (.two (.seq .l .l) .l)) (.seq .l (.seq .l (.seq .l (.seq .l (.seq .l .l))))))))

theorem spec_l01Below.con {s0 : D.Cur} {g1_ : Nat} {A0_0 : Option Addr} {c0_0 : Nat} {x1 : Int} {r : Int × D.Cur} {w : World} (hp : M.spec_l01Below_pre s0 x1) (hr : r = M.spec_l01Below s0 x1) (O1 : Blk w g1_ 123 #[(.slice A0_0 s0.b.length c0_0), (.int .i64 s0.i), (.int .i64 s0.h)]) (R0_0 : Row el5 w A0_0 s0.b) (hc0_0 : s0.b.length ≤ c0_0) (D0_0 : s0.b ≠ [] → ∀ g, InB A0_0 g → ¬ (fun k_ => k_ = g1_) g) :
    Cll Tryz.prog 62 #[(.pointer (some (⟨g1_, 0, none⟩ : Addr))), (.int .i64 x1)] w (fun v_ w_ => v_ = (.int .i64 r.1) ∧ Blk w_ g1_ 123 #[(.slice A0_0 r.2.b.length c0_0), (.int .i64 r.2.i), (.int .i64 r.2.h)] ∧ r.2.b = s0.b ∧ Chg (fun k_ => k_ = g1_) w w_) := by
  have H := wp.spec_l01Below.math s0 x1 hp
  have hB := Chg.refl (fun k_ => k_ = g1_) w
  refine beginF mixed (fn := Tryz.f62) (by kernel_rfl) (by kernel_rfl) (an := spec_l01Below.ann) (V := spec_l01Below.vc (⟨g1_, 0, none⟩ : Addr) x1) (by kernel_rfl) ?_
  unfold spec_l01Below.vc
  unfold wp.spec_l01Below at H
  refine brc H (fun hc54 H => ?_) (fun hc54 H => ?_)
  ·obtain rfl := hr.trans H.symm
   exact ⟨rfl, O1, rfl, hB⟩
  refine brc H (fun hc53 H => ?_) (fun hc53 H => ?_)
  ·obtain ⟨hp23, H⟩ := H
   obtain ⟨r21, hr22, H⟩ := callO H
   refine (spec_l01Byte.con hp23 hr22 O1 (R0_0.chgS hB D0_0) hc0_0 (fun hx_ => (fun g h_ hS_ => D0_0 hx_ g h_ hS_))).mono ?_
   rintro _ w24 ⟨rfl, Q1, hq26, e25⟩
   rw [hq26] at Q1
   have hB := hB.chg e25 (fun g h_ => Or.inr h_)
   have O1 := Q1
   refine ⟨r21.1, rfl, ?_⟩
   obtain ⟨hc27, H⟩ := H
   refine ⟨hc27, ?_⟩
   obtain rfl := hr.trans H.symm
   exact ⟨rfl, O1, rfl, hB⟩
  obtain ⟨hp30, H⟩ := H
  obtain ⟨r28, hr29, H⟩ := callO H
  refine (spec_l01Byte.con hp30 hr29 O1 (R0_0.chgS hB D0_0) hc0_0 (fun hx_ => (fun g h_ hS_ => D0_0 hx_ g h_ hS_))).mono ?_
  rintro _ w31 ⟨rfl, Q1, hq33, e32⟩
  rw [hq33] at Q1
  have hB := hB.chg e32 (fun g h_ => Or.inr h_)
  have O1 := Q1
  refine ⟨r28.1, rfl, ?_⟩
  obtain ⟨hp36, H⟩ := H
  obtain ⟨r34, hr35, H⟩ := callO H
  refine (spec_l01Byte.con hp36 hr35 O1 (R0_0.chgS hB D0_0) hc0_0 (fun hx_ => (fun g h_ hS_ => D0_0 hx_ g h_ hS_))).mono ?_
  rintro _ w37 ⟨rfl, Q1, hq39, e38⟩
  rw [hq39] at Q1
  have hB := hB.chg e38 (fun g h_ => Or.inr h_)
  have O1 := Q1
  refine ⟨r34.1, rfl, ?_⟩
  obtain ⟨hp42, H⟩ := H
  obtain ⟨r40, hr41, H⟩ := callO H
  refine (spec_l01Byte.con hp42 hr41 O1 (R0_0.chgS hB D0_0) hc0_0 (fun hx_ => (fun g h_ hS_ => D0_0 hx_ g h_ hS_))).mono ?_
  rintro _ w43 ⟨rfl, Q1, hq45, e44⟩
  rw [hq45] at Q1
  have hB := hB.chg e44 (fun g h_ => Or.inr h_)
  have O1 := Q1
  refine ⟨r40.1, rfl, ?_⟩
  obtain ⟨hp48, H⟩ := H
  obtain ⟨r46, hr47, H⟩ := callO H
  refine (spec_l01Byte.con hp48 hr47 O1 (R0_0.chgS hB D0_0) hc0_0 (fun hx_ => (fun g h_ hS_ => D0_0 hx_ g h_ hS_))).mono ?_
  rintro _ w49 ⟨rfl, Q1, hq51, e50⟩
  rw [hq51] at Q1
  have hB := hB.chg e50 (fun g h_ => Or.inr h_)
  have O1 := Q1
  refine ⟨r46.1, rfl, ?_⟩
  obtain ⟨hc52, H⟩ := H
  refine ⟨hc52, ?_⟩
  obtain rfl := hr.trans H.symm
  exact ⟨rfl, O1, rfl, hB⟩
def spec_l04Plain.vc (p0 : Addr) (w : World) (K : Value → World → Prop) : Prop :=
  newK w (.cells #[(.int .i64 0), (.int .i64 0), (.int .i64 0), (.int .i64 0)] 91) fun g21 w22 => Cll Tryz.prog 62 #[(.pointer (some p0)), (.int .i64 9)] w22 fun v23 w24 => (∃ (n25 : Int), v23 = (.int .i64 n25) ∧ Cll Tryz.prog 62 #[(.pointer (some p0)), (.int .i64 4)] w24 fun v26 w27 => (∃ (n28 : Int), v26 = (.int .i64 n28) ∧ newK w27 (.cells #[(.int .i64 0), (.int .i64 0), (.int .i64 0), (.int .i64 0)] 91) fun g29 w30 => stCells (⟨g29, 0, none⟩ : Addr) [(.int .i64 (IntKind.wrap .i64 (1 + n25))), (.int .i64 n28), (.int .i64 0), (.int .i64 0)] 0 w30 fun w31 => ∃ (n32 : Int), w31.cell? (((⟨g29, 0, none⟩ : Addr).add 0).add 0) = some (.int .i64 n32) ∧ bcase (n32 == 1) (Cll Tryz.prog 62 #[(.pointer (some p0)), (.int .i64 6)] w31 fun v33 w34 => (∃ (n35 : Int), v33 = (.int .i64 n35) ∧ stCells ((⟨g29, 0, none⟩ : Addr).add 2) [(.int .i64 n35)] 0 w34 fun w36 => ∃ (n37 : Int), w36.cell? ((⟨g29, 0, none⟩ : Addr).add 0) = some (.int .i64 n37) ∧ ∃ (n38 : Int), w36.cell? ((⟨g29, 0, none⟩ : Addr).add 1) = some (.int .i64 n38) ∧ ∃ (n39 : Int), w36.cell? ((⟨g29, 0, none⟩ : Addr).add 2) = some (.int .i64 n39) ∧ ∃ (n40 : Int), w36.cell? ((⟨g29, 0, none⟩ : Addr).add 3) = some (.int .i64 n40) ∧ stCells (⟨g21, 0, none⟩ : Addr) [(.int .i64 n37), (.int .i64 n38), (.int .i64 n39), (.int .i64 n40)] 0 w36 fun w41 => ∃ (n42 : Int), w41.cell? ((⟨g21, 0, none⟩ : Addr).add 0) = some (.int .i64 n42) ∧ ∃ (n43 : Int), w41.cell? ((⟨g21, 0, none⟩ : Addr).add 1) = some (.int .i64 n43) ∧ ∃ (n44 : Int), w41.cell? ((⟨g21, 0, none⟩ : Addr).add 2) = some (.int .i64 n44) ∧ ∃ (n45 : Int), w41.cell? ((⟨g21, 0, none⟩ : Addr).add 3) = some (.int .i64 n45) ∧ K (.agg #[(.int .i64 n42), (.int .i64 n43), (.int .i64 n44), (.int .i64 n45)]) w41)) (bcase (n32 == 8) (∃ (n46 : Int), w31.cell? ((⟨g29, 0, none⟩ : Addr).add 0) = some (.int .i64 n46) ∧ ∃ (n47 : Int), w31.cell? ((⟨g29, 0, none⟩ : Addr).add 1) = some (.int .i64 n47) ∧ ∃ (n48 : Int), w31.cell? ((⟨g29, 0, none⟩ : Addr).add 2) = some (.int .i64 n48) ∧ ∃ (n49 : Int), w31.cell? ((⟨g29, 0, none⟩ : Addr).add 3) = some (.int .i64 n49) ∧ stCells (⟨g21, 0, none⟩ : Addr) [(.int .i64 n46), (.int .i64 n47), (.int .i64 n48), (.int .i64 n49)] 0 w31 fun w50 => ∃ (n51 : Int), w50.cell? ((⟨g21, 0, none⟩ : Addr).add 0) = some (.int .i64 n51) ∧ ∃ (n52 : Int), w50.cell? ((⟨g21, 0, none⟩ : Addr).add 1) = some (.int .i64 n52) ∧ ∃ (n53 : Int), w50.cell? ((⟨g21, 0, none⟩ : Addr).add 2) = some (.int .i64 n53) ∧ ∃ (n54 : Int), w50.cell? ((⟨g21, 0, none⟩ : Addr).add 3) = some (.int .i64 n54) ∧ K (.agg #[(.int .i64 n51), (.int .i64 n52), (.int .i64 n53), (.int .i64 n54)]) w50) (bcase (n32 == 2) (Cll Tryz.prog 62 #[(.pointer (some p0)), (.int .i64 4)] w31 fun v55 w56 => (∃ (n57 : Int), v55 = (.int .i64 n57) ∧ stCells ((⟨g29, 0, none⟩ : Addr).add 2) [(.int .i64 n57)] 0 w56 fun w58 => ∃ (n59 : Int), w58.cell? ((⟨g29, 0, none⟩ : Addr).add 0) = some (.int .i64 n59) ∧ ∃ (n60 : Int), w58.cell? ((⟨g29, 0, none⟩ : Addr).add 1) = some (.int .i64 n60) ∧ ∃ (n61 : Int), w58.cell? ((⟨g29, 0, none⟩ : Addr).add 2) = some (.int .i64 n61) ∧ ∃ (n62 : Int), w58.cell? ((⟨g29, 0, none⟩ : Addr).add 3) = some (.int .i64 n62) ∧ stCells (⟨g21, 0, none⟩ : Addr) [(.int .i64 n59), (.int .i64 n60), (.int .i64 n61), (.int .i64 n62)] 0 w58 fun w63 => ∃ (n64 : Int), w63.cell? ((⟨g21, 0, none⟩ : Addr).add 0) = some (.int .i64 n64) ∧ ∃ (n65 : Int), w63.cell? ((⟨g21, 0, none⟩ : Addr).add 1) = some (.int .i64 n65) ∧ ∃ (n66 : Int), w63.cell? ((⟨g21, 0, none⟩ : Addr).add 2) = some (.int .i64 n66) ∧ ∃ (n67 : Int), w63.cell? ((⟨g21, 0, none⟩ : Addr).add 3) = some (.int .i64 n67) ∧ K (.agg #[(.int .i64 n64), (.int .i64 n65), (.int .i64 n66), (.int .i64 n67)]) w63)) (Cll Tryz.prog 62 #[(.pointer (some p0)), (.int .i64 4)] w31 fun v68 w69 => (∃ (n70 : Int), v68 = (.int .i64 n70) ∧ stCells ((⟨g29, 0, none⟩ : Addr).add 2) [(.int .i64 n70)] 0 w69 fun w71 => Cll Tryz.prog 62 #[(.pointer (some p0)), (.int .i64 4)] w71 fun v72 w73 => (∃ (n74 : Int), v72 = (.int .i64 n74) ∧ stCells ((⟨g29, 0, none⟩ : Addr).add 3) [(.int .i64 n74)] 0 w73 fun w75 => ∃ (n76 : Int), w75.cell? ((⟨g29, 0, none⟩ : Addr).add 0) = some (.int .i64 n76) ∧ ∃ (n77 : Int), w75.cell? ((⟨g29, 0, none⟩ : Addr).add 1) = some (.int .i64 n77) ∧ ∃ (n78 : Int), w75.cell? ((⟨g29, 0, none⟩ : Addr).add 2) = some (.int .i64 n78) ∧ ∃ (n79 : Int), w75.cell? ((⟨g29, 0, none⟩ : Addr).add 3) = some (.int .i64 n79) ∧ stCells (⟨g21, 0, none⟩ : Addr) [(.int .i64 n76), (.int .i64 n77), (.int .i64 n78), (.int .i64 n79)] 0 w75 fun w80 => ∃ (n81 : Int), w80.cell? ((⟨g21, 0, none⟩ : Addr).add 0) = some (.int .i64 n81) ∧ ∃ (n82 : Int), w80.cell? ((⟨g21, 0, none⟩ : Addr).add 1) = some (.int .i64 n82) ∧ ∃ (n83 : Int), w80.cell? ((⟨g21, 0, none⟩ : Addr).add 2) = some (.int .i64 n83) ∧ ∃ (n84 : Int), w80.cell? ((⟨g21, 0, none⟩ : Addr).add 3) = some (.int .i64 n84) ∧ K (.agg #[(.int .i64 n81), (.int .i64 n82), (.int .i64 n83), (.int .i64 n84)]) w80)))))))

def spec_l04Plain.ann : Ann := (.seq .l (.seq .l (.seq (.seq .l (.one (.seq .l (.two .l (.seq .l (.two .l (.seq .l (.two .l (.seq .l .l))))))))) (.seq .l .l))))

theorem spec_l04Plain.con {s0 : D.Cur} {g1_ : Nat} {A0_0 : Option Addr} {c0_0 : Nat} {r : D.Ins × D.Cur} {w : World} (hp : M.spec_l04Plain_pre s0) (hr : r = M.spec_l04Plain s0) (O1 : Blk w g1_ 123 #[(.slice A0_0 s0.b.length c0_0), (.int .i64 s0.i), (.int .i64 s0.h)]) (R0_0 : Row el5 w A0_0 s0.b) (hc0_0 : s0.b.length ≤ c0_0) (D0_0 : s0.b ≠ [] → ∀ g, InB A0_0 g → ¬ (fun k_ => k_ = g1_) g) :
    Cll Tryz.prog 124 #[(.pointer (some (⟨g1_, 0, none⟩ : Addr)))] w (fun v_ w_ => v_ = (.agg #[(.int .i64 r.1.Op), (.int .i64 r.1.A), (.int .i64 r.1.B), (.int .i64 r.1.C)]) ∧ Blk w_ g1_ 123 #[(.slice A0_0 r.2.b.length c0_0), (.int .i64 r.2.i), (.int .i64 r.2.h)] ∧ r.2.b = s0.b ∧ Chg (fun k_ => k_ = g1_) w w_) := by
  have H := wp.spec_l04Plain.math s0 hp
  have hB := Chg.refl (fun k_ => k_ = g1_) w
  refine beginF mixed (fn := Tryz.f124) (by kernel_rfl) (by kernel_rfl) (an := spec_l04Plain.ann) (V := spec_l04Plain.vc (⟨g1_, 0, none⟩ : Addr)) (by kernel_rfl) ?_
  unfold spec_l04Plain.vc
  unfold wp.spec_l04Plain at H
  refine newBlk (fun g3_ w21 L3 P3 e22 => ?_)
  have N1_3 := O1.ne L3
  have O1 := O1.ext e22
  have O3 := P3
  have L3 := Nat.le_trans hB.size L3
  have hB := hB.then e22
  obtain ⟨hp25, H⟩ := H
  obtain ⟨r23, hr24, H⟩ := callO H
  refine (spec_l01Below.con hp25 hr24 O1 (R0_0.chgS hB D0_0) hc0_0 (fun hx_ => (fun g h_ hS_ => D0_0 hx_ g h_ hS_))).mono ?_
  rintro _ w26 ⟨rfl, Q1, hq28, e27⟩
  rw [hq28] at Q1
  have O3 := O3.chgS e27 ((N1_3).symm)
  have hB := hB.chg e27 (fun g h_ => Or.inr h_)
  have O1 := Q1
  refine ⟨r23.1, rfl, ?_⟩
  obtain ⟨hp31, H⟩ := H
  obtain ⟨r29, hr30, H⟩ := callO H
  refine (spec_l01Below.con hp31 hr30 O1 (R0_0.chgS hB D0_0) hc0_0 (fun hx_ => (fun g h_ hS_ => D0_0 hx_ g h_ hS_))).mono ?_
  rintro _ w32 ⟨rfl, Q1, hq34, e33⟩
  rw [hq34] at Q1
  have O3 := O3.chgS e33 ((N1_3).symm)
  have hB := hB.chg e33 (fun g h_ => Or.inr h_)
  have O1 := Q1
  refine ⟨r29.1, rfl, ?_⟩
  refine newBlk (fun g4_ w35 L4 P4 e36 => ?_)
  have N1_4 := O1.ne L4
  have N3_4 := O3.ne L4
  have O1 := O1.ext e36
  have O3 := O3.ext e36
  have O4 := P4
  have L4 := Nat.le_trans hB.size L4
  have hB := hB.then e36
  refine stBlk O4 (o := 0) (cs' := #[(.int .i64 (IntKind.wrap .i64 (1 + r23.1))), (.int .i64 r29.1), (.int .i64 0), (.int .i64 0)]) rfl rfl (Nat.le_of_ble_eq_true rfl) rfl (fun w37 P4 e38 => ?_)
  have O1_ := O1.chg e38 N1_4
  have O3_ := O3.chg e38 N3_4
  have O1 := O1_
  have O3 := O3_
  have hB := hB.chgb e38 (Or.inl L4)
  have O4 := P4
  refine ⟨_, (O4.at 0 rfl rfl), ?_⟩
  refine brc H (fun hc81 H => ?_) (fun hc81 H => ?_)
  ·obtain ⟨hp41, H⟩ := H
   obtain ⟨r39, hr40, H⟩ := callO H
   refine (spec_l01Below.con hp41 hr40 O1 (R0_0.chgS hB D0_0) hc0_0 (fun hx_ => (fun g h_ hS_ => D0_0 hx_ g h_ hS_))).mono ?_
   rintro _ w42 ⟨rfl, Q1, hq44, e43⟩
   rw [hq44] at Q1
   have O3 := O3.chgS e43 ((N1_3).symm)
   have O4 := O4.chgS e43 ((N1_4).symm)
   have hB := hB.chg e43 (fun g h_ => Or.inr h_)
   have O1 := Q1
   refine ⟨r39.1, rfl, ?_⟩
   refine stBlk O4 (o := 2) (cs' := #[(.int .i64 (IntKind.wrap .i64 (1 + r23.1))), (.int .i64 r29.1), (.int .i64 r39.1), (.int .i64 0)]) rfl rfl (Nat.le_of_ble_eq_true rfl) rfl (fun w45 P4 e46 => ?_)
   have O1_ := O1.chg e46 N1_4
   have O3_ := O3.chg e46 N3_4
   have O1 := O1_
   have O3 := O3_
   have hB := hB.chgb e46 (Or.inl L4)
   have O4 := P4
   refine ⟨_, (O4.at 0 rfl rfl), _, (O4.at 1 rfl rfl), _, (O4.at 2 rfl rfl), _, (O4.at 3 rfl rfl), ?_⟩
   refine stBlk O3 (o := 0) (cs' := #[(.int .i64 (IntKind.wrap .i64 (1 + r23.1))), (.int .i64 r29.1), (.int .i64 r39.1), (.int .i64 0)]) rfl rfl (Nat.le_of_ble_eq_true rfl) rfl (fun w47 P3 e48 => ?_)
   have O1_ := O1.chg e48 N1_3
   have O4_ := O4.chg e48 (N3_4).symm
   have O1 := O1_
   have O4 := O4_
   have hB := hB.chgb e48 (Or.inl L3)
   have O3 := P3
   refine ⟨_, (O3.at 0 rfl rfl), _, (O3.at 1 rfl rfl), _, (O3.at 2 rfl rfl), _, (O3.at 3 rfl rfl), ?_⟩
   obtain rfl := hr.trans H.symm
   exact ⟨rfl, O1, rfl, hB⟩
  refine brc H (fun hc80 H => ?_) (fun hc80 H => ?_)
  ·refine ⟨_, (O4.at 0 rfl rfl), _, (O4.at 1 rfl rfl), _, (O4.at 2 rfl rfl), _, (O4.at 3 rfl rfl), ?_⟩
   refine stBlk O3 (o := 0) (cs' := #[(.int .i64 (IntKind.wrap .i64 (1 + r23.1))), (.int .i64 r29.1), (.int .i64 0), (.int .i64 0)]) rfl rfl (Nat.le_of_ble_eq_true rfl) rfl (fun w49 P3 e50 => ?_)
   have O1_ := O1.chg e50 N1_3
   have O4_ := O4.chg e50 (N3_4).symm
   have O1 := O1_
   have O4 := O4_
   have hB := hB.chgb e50 (Or.inl L3)
   have O3 := P3
   refine ⟨_, (O3.at 0 rfl rfl), _, (O3.at 1 rfl rfl), _, (O3.at 2 rfl rfl), _, (O3.at 3 rfl rfl), ?_⟩
   obtain rfl := hr.trans H.symm
   exact ⟨rfl, O1, rfl, hB⟩
  refine brc H (fun hc79 H => ?_) (fun hc79 H => ?_)
  ·obtain ⟨hp53, H⟩ := H
   obtain ⟨r51, hr52, H⟩ := callO H
   refine (spec_l01Below.con hp53 hr52 O1 (R0_0.chgS hB D0_0) hc0_0 (fun hx_ => (fun g h_ hS_ => D0_0 hx_ g h_ hS_))).mono ?_
   rintro _ w54 ⟨rfl, Q1, hq56, e55⟩
   rw [hq56] at Q1
   have O3 := O3.chgS e55 ((N1_3).symm)
   have O4 := O4.chgS e55 ((N1_4).symm)
   have hB := hB.chg e55 (fun g h_ => Or.inr h_)
   have O1 := Q1
   refine ⟨r51.1, rfl, ?_⟩
   refine stBlk O4 (o := 2) (cs' := #[(.int .i64 (IntKind.wrap .i64 (1 + r23.1))), (.int .i64 r29.1), (.int .i64 r51.1), (.int .i64 0)]) rfl rfl (Nat.le_of_ble_eq_true rfl) rfl (fun w57 P4 e58 => ?_)
   have O1_ := O1.chg e58 N1_4
   have O3_ := O3.chg e58 N3_4
   have O1 := O1_
   have O3 := O3_
   have hB := hB.chgb e58 (Or.inl L4)
   have O4 := P4
   refine ⟨_, (O4.at 0 rfl rfl), _, (O4.at 1 rfl rfl), _, (O4.at 2 rfl rfl), _, (O4.at 3 rfl rfl), ?_⟩
   refine stBlk O3 (o := 0) (cs' := #[(.int .i64 (IntKind.wrap .i64 (1 + r23.1))), (.int .i64 r29.1), (.int .i64 r51.1), (.int .i64 0)]) rfl rfl (Nat.le_of_ble_eq_true rfl) rfl (fun w59 P3 e60 => ?_)
   have O1_ := O1.chg e60 N1_3
   have O4_ := O4.chg e60 (N3_4).symm
   have O1 := O1_
   have O4 := O4_
   have hB := hB.chgb e60 (Or.inl L3)
   have O3 := P3
   refine ⟨_, (O3.at 0 rfl rfl), _, (O3.at 1 rfl rfl), _, (O3.at 2 rfl rfl), _, (O3.at 3 rfl rfl), ?_⟩
   obtain rfl := hr.trans H.symm
   exact ⟨rfl, O1, rfl, hB⟩
  obtain ⟨hp63, H⟩ := H
  obtain ⟨r61, hr62, H⟩ := callO H
  refine (spec_l01Below.con hp63 hr62 O1 (R0_0.chgS hB D0_0) hc0_0 (fun hx_ => (fun g h_ hS_ => D0_0 hx_ g h_ hS_))).mono ?_
  rintro _ w64 ⟨rfl, Q1, hq66, e65⟩
  rw [hq66] at Q1
  have O3 := O3.chgS e65 ((N1_3).symm)
  have O4 := O4.chgS e65 ((N1_4).symm)
  have hB := hB.chg e65 (fun g h_ => Or.inr h_)
  have O1 := Q1
  refine ⟨r61.1, rfl, ?_⟩
  refine stBlk O4 (o := 2) (cs' := #[(.int .i64 (IntKind.wrap .i64 (1 + r23.1))), (.int .i64 r29.1), (.int .i64 r61.1), (.int .i64 0)]) rfl rfl (Nat.le_of_ble_eq_true rfl) rfl (fun w67 P4 e68 => ?_)
  have O1_ := O1.chg e68 N1_4
  have O3_ := O3.chg e68 N3_4
  have O1 := O1_
  have O3 := O3_
  have hB := hB.chgb e68 (Or.inl L4)
  have O4 := P4
  obtain ⟨hp71, H⟩ := H
  obtain ⟨r69, hr70, H⟩ := callO H
  refine (spec_l01Below.con hp71 hr70 O1 (R0_0.chgS hB D0_0) hc0_0 (fun hx_ => (fun g h_ hS_ => D0_0 hx_ g h_ hS_))).mono ?_
  rintro _ w72 ⟨rfl, Q1, hq74, e73⟩
  rw [hq74] at Q1
  have O3 := O3.chgS e73 ((N1_3).symm)
  have O4 := O4.chgS e73 ((N1_4).symm)
  have hB := hB.chg e73 (fun g h_ => Or.inr h_)
  have O1 := Q1
  refine ⟨r69.1, rfl, ?_⟩
  refine stBlk O4 (o := 3) (cs' := #[(.int .i64 (IntKind.wrap .i64 (1 + r23.1))), (.int .i64 r29.1), (.int .i64 r61.1), (.int .i64 r69.1)]) rfl rfl (Nat.le_of_ble_eq_true rfl) rfl (fun w75 P4 e76 => ?_)
  have O1_ := O1.chg e76 N1_4
  have O3_ := O3.chg e76 N3_4
  have O1 := O1_
  have O3 := O3_
  have hB := hB.chgb e76 (Or.inl L4)
  have O4 := P4
  refine ⟨_, (O4.at 0 rfl rfl), _, (O4.at 1 rfl rfl), _, (O4.at 2 rfl rfl), _, (O4.at 3 rfl rfl), ?_⟩
  refine stBlk O3 (o := 0) (cs' := #[(.int .i64 (IntKind.wrap .i64 (1 + r23.1))), (.int .i64 r29.1), (.int .i64 r61.1), (.int .i64 r69.1)]) rfl rfl (Nat.le_of_ble_eq_true rfl) rfl (fun w77 P3 e78 => ?_)
  have O1_ := O1.chg e78 N1_3
  have O4_ := O4.chg e78 (N3_4).symm
  have O1 := O1_
  have O4 := O4_
  have hB := hB.chgb e78 (Or.inl L3)
  have O3 := P3
  refine ⟨_, (O3.at 0 rfl rfl), _, (O3.at 1 rfl rfl), _, (O3.at 2 rfl rfl), _, (O3.at 3 rfl rfl), ?_⟩
  obtain rfl := hr.trans H.symm
  exact ⟨rfl, O1, rfl, hB⟩
def spec_DrawPlaces.vc (A0 : Option Addr) (n0 : Nat) (c0 : Nat) (w : World) (K : Value → World → Prop) : Prop :=
  Cll Tryz.prog 54 #[(.slice A0 n0 c0)] w fun v21 w22 => (∃ (p23 : Addr), v21 = (.pointer (some p23)) ∧ Run Tryz.prog (Instr.buildSlice 27 0 #[]) w22 fun v24 w25 => ∃ (A26 : Option Addr) (n27 c28 : Nat), v24 = .slice A26 n27 c28 ∧ LoopT (σ := (Option Addr × Nat × Nat) × Int × Unit) (fun z29 w30 next31 => bcase (decide (z29.2.1 < 12)) (Cll Tryz.prog 62 #[(.pointer (some p23)), (.int .i64 10000)] w30 fun v32 w33 => (∃ (n34 : Int), v32 = (.int .i64 n34) ∧ Run Tryz.prog (Instr.buildSlice 27 1 #[(0, (.int .i64 n34))]) w33 fun v35 w36 => ∃ (A37 : Option Addr) (n38 c39 : Nat), v35 = .slice A37 n38 c39 ∧ Run Tryz.prog (Builtin.append_ #[27, 27] 27 #[(.slice z29.1.1 z29.1.2.1 z29.1.2.2), (.slice A37 n38 c39)]) w36 fun v40 w41 => ∃ (A42 : Option Addr) (n43 c44 : Nat), v40 = .slice A42 n43 c44 ∧ next31 ((A42, n43, c44), (IntKind.wrap .i64 (z29.2.1 + 1)), ()) w41)) (K (.slice z29.1.1 z29.1.2.1 z29.1.2.2) w30)) ((A26, n27, c28), 0, ()) w25)

def spec_DrawPlaces.ann : Ann := (.seq .l (.seq .l (.seq .l (.seq (.seq .l (.one (.loop [(4, .sl), (5, .int .i64)] (.seq (.seq .l (.two .l .l)) (.seq (.one .l) .l))))) (.seq .l .l)))))

theorem spec_DrawPlaces.con {xs0 : List Int} {A0 : Option Addr} {c0 : Nat} {r : List Int} {w : World} (hp : M.spec_DrawPlaces_pre xs0) (hr : r = M.spec_DrawPlaces xs0) (R0 : Row el5 w A0 xs0) (hc0 : xs0.length ≤ c0) :
    Cll Tryz.prog 18 #[(.slice A0 xs0.length c0)] w (fun v_ w_ => ∃ (A0_ : Option Addr) (c0_ : Nat), v_ = (.slice A0_ r.length c0_) ∧ Own el3 w_ w.heap.size A0_ c0_ r ∧ Ext w w_) := by
  have H := wp.spec_DrawPlaces.math xs0 hp
  have hB := Ext.refl w
  refine beginF mixed (fn := Tryz.f18) (by kernel_rfl) (by kernel_rfl) (an := spec_DrawPlaces.ann) (V := spec_DrawPlaces.vc A0 xs0.length c0) (by kernel_rfl) ?_
  unfold spec_DrawPlaces.vc
  unfold wp.spec_DrawPlaces at H
  obtain ⟨hp23, H⟩ := H
  obtain ⟨r21, hr22, H⟩ := callO H
  refine (spec_l01New.con hp23 hr22 (R0.ext hB) hc0).mono ?_
  rintro _ w24 ⟨g2_, rfl, P2, hq26, L2, e25⟩
  rw [hq26] at P2
  have L2 := Nat.le_trans hB.size L2
  have O2 := P2
  have hB := ethen hB e25
  refine ⟨(⟨g2_, 0, none⟩ : Addr), rfl, ?_⟩
  refine buildOwn el3 ([] : List Int) (fun _ => by kernel_rfl) rfl (fun A27 w28 P3 e29 => ?_)
  have N3_2 := P3.apart_old O2.lt
  have O2 := O2.ext e29
  have O3 := P3.mono hB.size
  have hB := ethen hB e29
  obtain ⟨J60, ⟨m84, hJ83⟩, hS61⟩ := H
  refine ⟨fun m_ z_ w_ => ∃ (xs53 : List Int) (i56 : Int) (i57 : Int) (i58 : Int) (A54 : Option Addr) (c55 : Nat), z_ = ((A54, xs53.length, c55), i56, ()) ∧ J60 m_ (xs53, i56, i57, i58, ()) ∧ Ext w w_ ∧ Own el3 w_ w.heap.size A54 c55 xs53 ∧ Blk w_ g2_ 123 #[(.slice A0 xs0.length c0), (.int .i64 i57), (.int .i64 i58)], ⟨m84, ([] : List Int), 0, r21.i, r21.h, A27, 0, rfl, hJ83, hB, O3, O2⟩, ?_⟩
  rintro m59 _ w63 ⟨xs53, i56, i57, i58, A54, c55, rfl, hJ85, hB, O6, O2⟩
  have H := hS61 m59 _ hJ85
  clear hS61 hJ85
  try dsimp only at H ⊢
  refine brc H (fun hc81 H => ?_) (fun hc81 H => ?_)
  ·obtain ⟨hp66, H⟩ := H
   obtain ⟨r64, hr65, H⟩ := callO H
   refine (spec_l01Below.con hp66 hr65 O2 (R0.ext hB) hc0 (fun hx_ => (fun g h_ hS_ => Nat.not_le.2 (R0.old hx_ g h_) (box_low L2 _ hS_)))).mono ?_
   rintro _ w67 ⟨rfl, Q2, hq69, e68⟩
   rw [hq69] at Q2
   have O6 := O6.chgS e68 (box_inb (O6.apart_type O2 (by decide)))
   have hB := Chg.ext hB e68 (box_low L2)
   have O2 := Q2
   refine ⟨r64.1, rfl, ?_⟩
   refine buildOwn el3 ([r64.1] : List Int) (fun _ => by kernel_rfl) rfl (fun A70 w71 P7 e72 => ?_)
   have N7_2 := P7.apart_old O2.lt
   have N6_7 := Own.apart2_new O6 P7 (Nat.le_refl _)
   have O2 := O2.ext e72
   have O6 := O6.ext e72
   have O7 := P7.mono hB.size
   have hB := ethen hB e72
   obtain ⟨hl77, H⟩ := H
   refine appOwn slt27 slt27.under O6 O7.row hB.size rfl (by first | rfl | omega | (simp; done) | (simp; omega)) hl77 (fun A73 c74 w75 P6 e76 => ?_)
   have N6_2_ := Apart.app (O6.apart_type O2 (by decide)) e76 O2.lt
   have O2 := O2.app e76 (O6.apart_type O2 (by decide))
   have N7_6_ := Apart2.app (N6_7).symm e76 O7
   have O7 := O7.app e76 (N6_7).symm
   have N6_2 := N6_2_
   have N7_6 := N7_6_
   have hB := eapp hB e76 O6
   have O6 := P6
   obtain ⟨m78, hm79, hJ80⟩ := H
   exact ⟨m78, hm79, (xs53 ++ ([r64.1] : List Int)), (IntKind.wrap .i64 (i56 + 1)), r64.2.i, r64.2.h, A73, c74, rfl, hJ80, hB, O6, O2⟩
  obtain rfl := hr.trans H.symm
  exact ⟨A54, c55, rfl, O6, hB⟩
def laws_big.vc (A0 : Option Addr) (n0 : Nat) (c0 : Nat) (w : World) (K : Value → World → Prop) : Prop :=
  K (.bool (decide (((n0 : Nat) : Int) > 1048576))) w

def laws_big.ann : Ann := (.seq .l (.seq .l .l))

theorem laws_big.con {xs0 : List Int} {A0 : Option Addr} {c0 : Nat} {r : Bool} {w : World} (hr : r = M.laws_big xs0) (R0 : Row el5 w A0 xs0) (hc0 : xs0.length ≤ c0) :
    Cll Tryz.prog 12 #[(.slice A0 xs0.length c0)] w (fun v_ w_ => v_ = (.bool r) ∧ Ext w w_) := by
  have H := wp.laws_big.math xs0
  have hB := Ext.refl w
  refine beginF mixed (fn := Tryz.f12) (by kernel_rfl) (by kernel_rfl) (an := laws_big.ann) (V := laws_big.vc A0 xs0.length c0) (by kernel_rfl) ?_
  unfold laws_big.vc
  unfold wp.laws_big at H
  obtain rfl := hr.trans H.symm
  exact ⟨rfl, hB⟩
def impl_areAllRegs.vc (A0 : Option Addr) (n0 : Nat) (c0 : Nat) (w : World) (K : Value → World → Prop) : Prop :=
  K (.bool (((n0 : Nat) : Int) == 32)) w

def impl_areAllRegs.ann : Ann := (.seq .l (.seq .l .l))

theorem impl_areAllRegs.con {xs0 : List Int} {A0 : Option Addr} {c0 : Nat} {r : Bool} {w : World} (hr : r = M.impl_areAllRegs xs0) (R0 : Row el3 w A0 xs0) (hc0 : xs0.length ≤ c0) :
    Cll Tryz.prog 143 #[(.slice A0 xs0.length c0)] w (fun v_ w_ => v_ = (.bool r) ∧ Ext w w_) := by
  have H := wp.impl_areAllRegs.math xs0
  have hB := Ext.refl w
  refine beginF mixed (fn := Tryz.f143) (by kernel_rfl) (by kernel_rfl) (an := impl_areAllRegs.ann) (V := impl_areAllRegs.vc A0 xs0.length c0) (by kernel_rfl) ?_
  unfold impl_areAllRegs.vc
  unfold wp.impl_areAllRegs at H
  obtain rfl := hr.trans H.symm
  exact ⟨rfl, hB⟩
def impl_areFrames.vc (A0 : Option Addr) (n0 : Nat) (c0 : Nat) (x1 : Int) (w : World) (K : Value → World → Prop) : Prop :=
  LoopT (σ := Int × Unit) (fun z21 w22 next23 => bcase (decide (z21.1 < ((n0 : Nat) : Int))) (((0 : Int) ≤ z21.1 ∧ z21.1 < ((n0 : Nat) : Int) ∧ ∃ a24 : Addr, A0 = some a24 ∧ ∃ (n25 : Int), w22.cell? ((a24.add ((z21.1.toNat) * 3)).add 0) = some (.int .i64 n25) ∧ ∃ (n26 : Int), w22.cell? ((a24.add ((z21.1.toNat) * 3)).add 1) = some (.int .i64 n26) ∧ ∃ (n27 : Int), w22.cell? ((a24.add ((z21.1.toNat) * 3)).add 2) = some (.int .i64 n27) ∧ newK w22 (.cells #[(.int .i64 0), (.int .i64 0), (.int .i64 0)] 105) fun g28 w29 => stCells (⟨g28, 0, none⟩ : Addr) [(.int .i64 n25), (.int .i64 n26), (.int .i64 n27)] 0 w29 fun w30 => ∃ (n31 : Int), w30.cell? (((⟨g28, 0, none⟩ : Addr).add 0).add 0) = some (.int .i64 n31) ∧ Cll Tryz.prog 58 #[(.int .i64 n31), (.int .i64 0), (.int .i64 x1)] w30 fun v32 w33 => (∃ (b34 : Bool), v32 = (.bool b34) ∧ bcase (!b34) (K (.bool false) w33) (∃ (n35 : Int), w33.cell? (((⟨g28, 0, none⟩ : Addr).add 1).add 0) = some (.int .i64 n35) ∧ Cll Tryz.prog 58 #[(.int .i64 n35), (.int .i64 0), (.int .i64 x1)] w33 fun v36 w37 => (∃ (b38 : Bool), v36 = (.bool b38) ∧ bcase (!b38) (K (.bool false) w37) (∃ (n39 : Int), w37.cell? (((⟨g28, 0, none⟩ : Addr).add 2).add 0) = some (.int .i64 n39) ∧ Cll Tryz.prog 121 #[(.int .i64 n39)] w37 fun v40 w41 => (∃ (b42 : Bool), v40 = (.bool b42) ∧ bcase (!b42) (K (.bool false) w41) (∃ (n43 : Int), w41.cell? (((⟨g28, 0, none⟩ : Addr).add 2).add 0) = some (.int .i64 n43) ∧ bcase (n43 == 0) (K (.bool false) w41) (next23 ((IntKind.wrap .i64 (z21.1 + 1)), ()) w41))))))))) (bcase (((n0 : Nat) : Int) == 0) (K (.bool true) w22) (((0 : Int) ≤ (IntKind.wrap .i64 (((n0 : Nat) : Int) - 1)) ∧ (IntKind.wrap .i64 (((n0 : Nat) : Int) - 1)) < ((n0 : Nat) : Int) ∧ ∃ a44 : Addr, A0 = some a44 ∧ ∃ (n45 : Int), w22.cell? ((a44.add (((IntKind.wrap .i64 (((n0 : Nat) : Int) - 1)).toNat) * 3)).add 0) = some (.int .i64 n45) ∧ ∃ (n46 : Int), w22.cell? ((a44.add (((IntKind.wrap .i64 (((n0 : Nat) : Int) - 1)).toNat) * 3)).add 1) = some (.int .i64 n46) ∧ ∃ (n47 : Int), w22.cell? ((a44.add (((IntKind.wrap .i64 (((n0 : Nat) : Int) - 1)).toNat) * 3)).add 2) = some (.int .i64 n47) ∧ newK w22 (.cells #[(.int .i64 0), (.int .i64 0), (.int .i64 0)] 105) fun g48 w49 => stCells (⟨g48, 0, none⟩ : Addr) [(.int .i64 n45), (.int .i64 n46), (.int .i64 n47)] 0 w49 fun w50 => bcase (decide (((n0 : Nat) : Int) ≤ 24)) (∃ (n51 : Int), w50.cell? (((⟨g48, 0, none⟩ : Addr).add 0).add 0) = some (.int .i64 n51) ∧ ∃ (n52 : Int), w50.cell? (((⟨g48, 0, none⟩ : Addr).add 1).add 0) = some (.int .i64 n52) ∧ bcase (n51 != n52) (∃ (n53 : Int), w50.cell? (((⟨g48, 0, none⟩ : Addr).add 0).add 0) = some (.int .i64 n53) ∧ bcase (n53 != x1) (((0 : Int) ≤ 0 ∧ 0 < ((n0 : Nat) : Int) ∧ ∃ a54 : Addr, A0 = some a54 ∧ ∃ (n55 : Int), w50.cell? (((a54.add (((0 : Int).toNat) * 3)).add 1).add 0) = some (.int .i64 n55) ∧ bcase (n55 == x1) (((0 : Int) ≤ 0 ∧ 0 < ((n0 : Nat) : Int) ∧ ∃ a56 : Addr, A0 = some a56 ∧ ∃ (n57 : Int), w50.cell? (((a56.add (((0 : Int).toNat) * 3)).add 2).add 0) = some (.int .i64 n57) ∧ K (.bool (n57 == 255)) w50)) (K (.bool false) w50))) (K (.bool false) w50)) (K (.bool false) w50)) (K (.bool false) w50))))) (0, ()) w

def impl_areFrames.ann : Ann := (.seq .l (.seq (.seq .l (.one (.loop [(10, .int .i64)] (.seq .l (.seq (.two .l .l) (.seq (.one (.seq .l (.seq .l (.two (.seq .l .l) .l)))) .l)))))) (.seq (.seq .l (.two (.seq .l .l) .l)) (.seq .l (.seq .l .l)))))

theorem impl_areFrames.con {xs0 : List D.Frame} {A0 : Option Addr} {c0 : Nat} {x1 : Int} {r : Bool} {w : World} (hp : M.impl_areFrames_pre xs0 x1) (hr : r = M.impl_areFrames xs0 x1) (R0 : Row el105 w A0 xs0) (hc0 : xs0.length ≤ c0) :
    Cll Tryz.prog 144 #[(.slice A0 xs0.length c0), (.int .i64 x1)] w (fun v_ w_ => v_ = (.bool r) ∧ Ext w w_) := by
  have H := wp.impl_areFrames.math xs0 x1 hp
  have hB := Ext.refl w
  refine beginF mixed (fn := Tryz.f144) (by kernel_rfl) (by kernel_rfl) (an := impl_areFrames.ann) (V := impl_areFrames.vc A0 xs0.length c0 x1) (by kernel_rfl) ?_
  unfold impl_areFrames.vc
  unfold wp.impl_areFrames at H
  obtain ⟨J23, ⟨m85, hJ84⟩, hS24⟩ := H
  refine ⟨fun m_ z_ w_ => ∃ (i21 : Int), z_ = (i21, ()) ∧ J23 m_ (i21, ()) ∧ Ext w w_, ⟨m85, 0, rfl, hJ84, hB⟩, ?_⟩
  rintro m22 _ w26 ⟨i21, rfl, hJ86, hB⟩
  have H := hS24 m22 _ hJ86
  clear hS24 hJ86
  try dsimp only at H ⊢
  refine brc H (fun hc82 H => ?_) (fun hc82 H => ?_)
  ·obtain ⟨⟨h0_30, h1_31⟩, H⟩ := H
   obtain ⟨a28, ha29, hat27⟩ := Row.at (R0.ext hB) h0_30 h1_31
   refine ⟨h0_30, h1_31, a28, ha29, _, (hat27 0 _ rfl), _, (hat27 1 _ rfl), _, (hat27 2 _ rfl), ?_⟩
   refine newBlk (fun g2_ w32 L2 P2 e33 => ?_)
   have O2 := P2
   have L2 := Nat.le_trans hB.size L2
   have hB := ethen hB e33
   refine stBlk O2 (o := 0) (cs' := #[(.int .i64 ((rd xs0 i21).Pc)), (.int .i64 ((rd xs0 i21).Stop)), (.int .i64 ((rd xs0 i21).Mask))]) rfl rfl (Nat.le_of_ble_eq_true rfl) rfl (fun w34 P2 e35 => ?_)
   have hB := echg hB e35 L2
   have O2 := P2
   refine ⟨_, (O2.at 0 rfl rfl), ?_⟩
   obtain ⟨r36, hr37, H⟩ := callO H
   refine (impl_within.con hr37 ).mono ?_
   rintro _ w39 ⟨rfl, e40⟩
   have O2 := O2.ext e40
   have hB := ethen hB e40
   refine ⟨r36, rfl, ?_⟩
   refine brc H (fun hc57 H => ?_) (fun hc57 H => ?_)
   ·obtain rfl := hr.trans H.symm
    exact ⟨rfl, hB⟩
   refine ⟨_, (O2.at 1 rfl rfl), ?_⟩
   obtain ⟨r41, hr42, H⟩ := callO H
   refine (impl_within.con hr42 ).mono ?_
   rintro _ w44 ⟨rfl, e45⟩
   have O2 := O2.ext e45
   have hB := ethen hB e45
   refine ⟨r41, rfl, ?_⟩
   refine brc H (fun hc56 H => ?_) (fun hc56 H => ?_)
   ·obtain rfl := hr.trans H.symm
    exact ⟨rfl, hB⟩
   refine ⟨_, (O2.at 2 rfl rfl), ?_⟩
   obtain ⟨r46, hr47, H⟩ := callO H
   refine (impl_IsMask.con hr47 ).mono ?_
   rintro _ w49 ⟨rfl, e50⟩
   have O2 := O2.ext e50
   have hB := ethen hB e50
   refine ⟨r46, rfl, ?_⟩
   refine brc H (fun hc55 H => ?_) (fun hc55 H => ?_)
   ·obtain rfl := hr.trans H.symm
    exact ⟨rfl, hB⟩
   refine ⟨_, (O2.at 2 rfl rfl), ?_⟩
   refine brc H (fun hc54 H => ?_) (fun hc54 H => ?_)
   ·obtain rfl := hr.trans H.symm
    exact ⟨rfl, hB⟩
   obtain ⟨m51, hm52, hJ53⟩ := H
   exact ⟨m51, hm52, (IntKind.wrap .i64 (i21 + 1)), rfl, hJ53, hB⟩
  refine brc H (fun hc81 H => ?_) (fun hc81 H => ?_)
  ·obtain rfl := hr.trans H.symm
   exact ⟨rfl, hB⟩
  obtain ⟨⟨h0_61, h1_62⟩, H⟩ := H
  obtain ⟨a59, ha60, hat58⟩ := Row.at (R0.ext hB) h0_61 h1_62
  refine ⟨h0_61, h1_62, a59, ha60, _, (hat58 0 _ rfl), _, (hat58 1 _ rfl), _, (hat58 2 _ rfl), ?_⟩
  refine newBlk (fun g3_ w63 L3 P3 e64 => ?_)
  have O3 := P3
  have L3 := Nat.le_trans hB.size L3
  have hB := ethen hB e64
  refine stBlk O3 (o := 0) (cs' := #[(.int .i64 ((rd xs0 (IntKind.wrap .i64 (((xs0.length : Nat) : Int) - 1))).Pc)), (.int .i64 ((rd xs0 (IntKind.wrap .i64 (((xs0.length : Nat) : Int) - 1))).Stop)), (.int .i64 ((rd xs0 (IntKind.wrap .i64 (((xs0.length : Nat) : Int) - 1))).Mask))]) rfl rfl (Nat.le_of_ble_eq_true rfl) rfl (fun w65 P3 e66 => ?_)
  have hB := echg hB e66 L3
  have O3 := P3
  refine brc H (fun hc80 H => ?_) (fun hc80 H => ?_)
  ·refine ⟨_, (O3.at 0 rfl rfl), _, (O3.at 1 rfl rfl), ?_⟩
   refine brc H (fun hc79 H => ?_) (fun hc79 H => ?_)
   ·refine ⟨_, (O3.at 0 rfl rfl), ?_⟩
    refine brc H (fun hc78 H => ?_) (fun hc78 H => ?_)
    ·obtain ⟨⟨h0_70, h1_71⟩, H⟩ := H
     obtain ⟨a68, ha69, hat67⟩ := Row.at (R0.ext hB) h0_70 h1_71
     refine ⟨h0_70, h1_71, a68, ha69, _, (hat67 1 _ rfl), ?_⟩
     refine brc H (fun hc77 H => ?_) (fun hc77 H => ?_)
     ·obtain ⟨⟨h0_75, h1_76⟩, H⟩ := H
      obtain ⟨a73, ha74, hat72⟩ := Row.at (R0.ext hB) h0_75 h1_76
      refine ⟨h0_75, h1_76, a73, ha74, _, (hat72 2 _ rfl), ?_⟩
      obtain rfl := hr.trans H.symm
      exact ⟨rfl, hB⟩
     obtain rfl := hr.trans H.symm
     exact ⟨rfl, hB⟩
    obtain rfl := hr.trans H.symm
    exact ⟨rfl, hB⟩
   obtain rfl := hr.trans H.symm
   exact ⟨rfl, hB⟩
  obtain rfl := hr.trans H.symm
  exact ⟨rfl, hB⟩
def impl_isWarpOf.vc (A0 : Option Addr) (n0 : Nat) (c0 : Nat) (x1_0 : Int) (A1_1 : Option Addr) (n1_1 : Nat) (c1_1 : Nat) (A1_2 : Option Addr) (n1_2 : Nat) (c1_2 : Nat) (w : World) (K : Value → World → Prop) : Prop :=
  newK w (.cells #[(.int .i64 x1_0), (.slice A1_1 n1_1 c1_1), (.slice A1_2 n1_2 c1_2)] 29) fun g21 w22 => ∃ (n23 : Int), w22.cell? (((⟨g21, 0, none⟩ : Addr).add 0).add 0) = some (.int .i64 n23) ∧ Cll Tryz.prog 55 #[(.int .i64 n23)] w22 fun v24 w25 => (∃ (b26 : Bool), v24 = (.bool b26) ∧ bcase b26 (∃ (A27 : Option Addr) (n28 : Nat) (c29 : Nat), w25.cell? (((⟨g21, 0, none⟩ : Addr).add 2).add 0) = some (.slice A27 n28 c29) ∧ Cll Tryz.prog 143 #[(.slice A27 n28 c29)] w25 fun v30 w31 => (∃ (b32 : Bool), v30 = (.bool b32) ∧ bcase b32 (∃ (A33 : Option Addr) (n34 : Nat) (c35 : Nat), w31.cell? (((⟨g21, 0, none⟩ : Addr).add 2).add 0) = some (.slice A33 n34 c35) ∧ Cll Tryz.prog 142 #[(.slice A33 n34 c35)] w31 fun v36 w37 => (∃ (b38 : Bool), v36 = (.bool b38) ∧ bcase b38 (∃ (A39 : Option Addr) (n40 : Nat) (c41 : Nat), w37.cell? (((⟨g21, 0, none⟩ : Addr).add 1).add 0) = some (.slice A39 n40 c41) ∧ Cll Tryz.prog 144 #[(.slice A39 n40 c41), (.int .i64 ((n0 : Nat) : Int))] w37 fun v42 w43 => (∃ (b44 : Bool), v42 = (.bool b44) ∧ K (.bool b44) w43)) (K (.bool false) w37))) (K (.bool false) w31))) (K (.bool false) w25))

def impl_isWarpOf.ann : Ann := (.seq .l (.seq .l .l))

theorem impl_isWarpOf.con {xs0 : List D.Ins} {A0 : Option Addr} {c0 : Nat} {s1 : D.Warp} {A1_1 : Option Addr} {c1_1 : Nat} {A1_2 : Option Addr} {c1_2 : Nat} {r : Bool} {w : World} (hp : M.impl_isWarpOf_pre xs0 s1) (hr : r = M.impl_isWarpOf xs0 s1) (R0 : Row el91 w A0 xs0) (hc0 : xs0.length ≤ c0) (R1_1 : Row el105 w A1_1 s1.Frames) (hc1_1 : s1.Frames.length ≤ c1_1) (R1_2 : Row el3 w A1_2 s1.Regs) (hc1_2 : s1.Regs.length ≤ c1_2) :
    Cll Tryz.prog 93 #[(.slice A0 xs0.length c0), (.agg #[(.int .i64 s1.Number), (.slice A1_1 s1.Frames.length c1_1), (.slice A1_2 s1.Regs.length c1_2)])] w (fun v_ w_ => v_ = (.bool r) ∧ Ext w w_) := by
  have H := wp.impl_isWarpOf.math xs0 s1 hp
  have hB := Ext.refl w
  refine beginF mixed (fn := Tryz.f93) (by kernel_rfl) (by kernel_rfl) (an := impl_isWarpOf.ann) (V := impl_isWarpOf.vc A0 xs0.length c0 s1.Number A1_1 s1.Frames.length c1_1 A1_2 s1.Regs.length c1_2) (by kernel_rfl) ?_
  unfold impl_isWarpOf.vc
  unfold wp.impl_isWarpOf at H
  refine newBlk (fun g4_ w21 L4 P4 e22 => ?_)
  have O4 := P4
  have L4 := Nat.le_trans hB.size L4
  have hB := ethen hB e22
  refine ⟨_, (O4.at 0 rfl rfl), ?_⟩
  obtain ⟨r23, hr24, H⟩ := callO H
  refine (impl_isWarpNumber.con hr24 ).mono ?_
  rintro _ w26 ⟨rfl, e27⟩
  have O4 := O4.ext e27
  have hB := ethen hB e27
  refine ⟨r23, rfl, ?_⟩
  refine brc H (fun hc45 H => ?_) (fun hc45 H => ?_)
  ·refine ⟨_, _, _, (O4.at 2 rfl rfl), ?_⟩
   obtain ⟨r28, hr29, H⟩ := callO H
   refine (impl_areAllRegs.con hr29 (R1_2.ext hB) hc1_2).mono ?_
   rintro _ w31 ⟨rfl, e32⟩
   have O4 := O4.ext e32
   have hB := ethen hB e32
   refine ⟨r28, rfl, ?_⟩
   refine brc H (fun hc44 H => ?_) (fun hc44 H => ?_)
   ·refine ⟨_, _, _, (O4.at 2 rfl rfl), ?_⟩
    obtain ⟨hp35, H⟩ := H
    obtain ⟨r33, hr34, H⟩ := callO H
    refine (impl_AreWords.con hp35 hr34 (R1_2.ext hB) hc1_2).mono ?_
    rintro _ w36 ⟨rfl, e37⟩
    have O4 := O4.ext e37
    have hB := ethen hB e37
    refine ⟨r33, rfl, ?_⟩
    refine brc H (fun hc43 H => ?_) (fun hc43 H => ?_)
    ·refine ⟨_, _, _, (O4.at 1 rfl rfl), ?_⟩
     obtain ⟨hp40, H⟩ := H
     obtain ⟨r38, hr39, H⟩ := callO H
     refine (impl_areFrames.con hp40 hr39 (R1_1.ext hB) hc1_1).mono ?_
     rintro _ w41 ⟨rfl, e42⟩
     have O4 := O4.ext e42
     have hB := ethen hB e42
     refine ⟨r38, rfl, ?_⟩
     obtain rfl := hr.trans H.symm
     exact ⟨rfl, hB⟩
    obtain rfl := hr.trans H.symm
    exact ⟨rfl, hB⟩
   obtain rfl := hr.trans H.symm
   exact ⟨rfl, hB⟩
  obtain rfl := hr.trans H.symm
  exact ⟨rfl, hB⟩
def slices_Clone_impl_Ins_impl_Ins.vc (A0 : Option Addr) (n0 : Nat) (c0 : Nat) (w : World) (K : Value → World → Prop) : Prop :=
  bcase (Option.isNone A0) (K (.slice none 0 0) w) (Run Tryz.prog (Instr.buildSlice 24 0 #[]) w fun v21 w22 => ∃ (A23 : Option Addr) (n24 c25 : Nat), v21 = .slice A23 n24 c25 ∧ Run Tryz.prog (Builtin.append_ #[24, 24] 24 #[(.slice A23 n24 c25), (.slice A0 n0 c0)]) w22 fun v26 w27 => ∃ (A28 : Option Addr) (n29 c30 : Nat), v26 = .slice A28 n29 c30 ∧ K (.slice A28 n29 c30) w27)

def slices_Clone_impl_Ins_impl_Ins.ann : Ann := (.seq .l (.seq (.seq .l (.two (.seq .l .l) .l)) (.seq .l .l)))

theorem slices_Clone_impl_Ins_impl_Ins.con {xs0 : List D.Ins} {A0 : Option Addr} {c0 : Nat} {r : List D.Ins} {w : World} (hp : M.slices_Clone_impl_Ins_impl_Ins_pre xs0) (hr : r = M.slices_Clone_impl_Ins_impl_Ins xs0) (R0 : Row el91 w A0 xs0) (hc0 : xs0.length ≤ c0) :
    Cll Tryz.prog 71 #[(.slice A0 xs0.length c0)] w (fun v_ w_ => ∃ (A0_ : Option Addr) (c0_ : Nat), v_ = (.slice A0_ r.length c0_) ∧ Own el91 w_ w.heap.size A0_ c0_ r ∧ Ext w w_) := by
  have H := wp.slices_Clone_impl_Ins_impl_Ins.math xs0 hp
  have hB := Ext.refl w
  refine beginF mixed (fn := Tryz.f71) (by kernel_rfl) (by kernel_rfl) (an := slices_Clone_impl_Ins_impl_Ins.ann) (V := slices_Clone_impl_Ins_impl_Ins.vc A0 xs0.length c0) (by kernel_rfl) ?_
  unfold slices_Clone_impl_Ins_impl_Ins.vc
  unfold wp.slices_Clone_impl_Ins_impl_Ins at H
  obtain ⟨b21, hb22⟩ : ∃ b_, b_ = Option.isNone A0 := ⟨_, rfl⟩
  have H := H b21 (fun h_ => Row.isNone (R0.ext hB) (hb22.symm.trans h_))
  rw [← hb22]
  refine brc H (fun hc31 H => ?_) (fun hc31 H => ?_)
  ·obtain rfl := hr.trans H.symm
   exact ⟨none, 0, rfl, Own.nil, hB⟩
  refine buildOwn el91 ([] : List D.Ins) (fun _ => by kernel_rfl) rfl (fun A23 w24 P2 e25 => ?_)
  have O2 := P2.mono hB.size
  have hB := ethen hB e25
  obtain ⟨hl30, H⟩ := H
  refine appOwn slt24 slt24.under O2 (R0.ext hB) hB.size (by first | rfl | omega | (simp; done) | (simp; omega)) rfl hl30 (fun A26 c27 w28 P2 e29 => ?_)
  have hB := eapp hB e29 O2
  have O2 := P2
  obtain rfl := hr.trans H.symm
  exact ⟨A26, c27, rfl, O2, hB⟩
def impl_newWarp.vc (A0 : Option Addr) (n0 : Nat) (c0 : Nat) (x1 : Int) (w : World) (K : Value → World → Prop) : Prop :=
  newK w (.cells #[(.int .i64 0), (.slice none 0 0), (.slice none 0 0)] 29) fun g21 w22 => vcMake Tryz.prog 27 32 32 w22 fun g23 w24 => newK w24 (.cells #[(.int .i64 0), (.slice none 0 0), (.slice none 0 0)] 29) fun g25 w26 => stCells (⟨g25, 0, none⟩ : Addr) [(.int .i64 x1), (.slice none 0 0), (.slice (some (⟨g23, 0, none⟩ : Addr)) ((32 : Int).toNat) ((32 : Int).toNat))] 0 w26 fun w27 => bcase (decide (((n0 : Nat) : Int) > 0)) (Run Tryz.prog (Instr.buildSlice 26 1 #[(0, (.agg #[(.int .i64 0), (.int .i64 ((n0 : Nat) : Int)), (.int .i64 255)]))]) w27 fun v28 w29 => ∃ (A30 : Option Addr) (n31 c32 : Nat), v28 = .slice A30 n31 c32 ∧ stCells ((⟨g25, 0, none⟩ : Addr).add 1) [(.slice A30 n31 c32)] 0 w29 fun w33 => ∃ (n34 : Int), w33.cell? ((⟨g25, 0, none⟩ : Addr).add 0) = some (.int .i64 n34) ∧ ∃ (A35 : Option Addr) (n36 : Nat) (c37 : Nat), w33.cell? ((⟨g25, 0, none⟩ : Addr).add 1) = some (.slice A35 n36 c37) ∧ ∃ (A38 : Option Addr) (n39 : Nat) (c40 : Nat), w33.cell? ((⟨g25, 0, none⟩ : Addr).add 2) = some (.slice A38 n39 c40) ∧ stCells (⟨g21, 0, none⟩ : Addr) [(.int .i64 n34), (.slice A35 n36 c37), (.slice A38 n39 c40)] 0 w33 fun w41 => ∃ (n42 : Int), w41.cell? ((⟨g21, 0, none⟩ : Addr).add 0) = some (.int .i64 n42) ∧ ∃ (A43 : Option Addr) (n44 : Nat) (c45 : Nat), w41.cell? ((⟨g21, 0, none⟩ : Addr).add 1) = some (.slice A43 n44 c45) ∧ ∃ (A46 : Option Addr) (n47 : Nat) (c48 : Nat), w41.cell? ((⟨g21, 0, none⟩ : Addr).add 2) = some (.slice A46 n47 c48) ∧ K (.agg #[(.int .i64 n42), (.slice A43 n44 c45), (.slice A46 n47 c48)]) w41) (∃ (n49 : Int), w27.cell? ((⟨g25, 0, none⟩ : Addr).add 0) = some (.int .i64 n49) ∧ ∃ (A50 : Option Addr) (n51 : Nat) (c52 : Nat), w27.cell? ((⟨g25, 0, none⟩ : Addr).add 1) = some (.slice A50 n51 c52) ∧ ∃ (A53 : Option Addr) (n54 : Nat) (c55 : Nat), w27.cell? ((⟨g25, 0, none⟩ : Addr).add 2) = some (.slice A53 n54 c55) ∧ stCells (⟨g21, 0, none⟩ : Addr) [(.int .i64 n49), (.slice A50 n51 c52), (.slice A53 n54 c55)] 0 w27 fun w56 => ∃ (n57 : Int), w56.cell? ((⟨g21, 0, none⟩ : Addr).add 0) = some (.int .i64 n57) ∧ ∃ (A58 : Option Addr) (n59 : Nat) (c60 : Nat), w56.cell? ((⟨g21, 0, none⟩ : Addr).add 1) = some (.slice A58 n59 c60) ∧ ∃ (A61 : Option Addr) (n62 : Nat) (c63 : Nat), w56.cell? ((⟨g21, 0, none⟩ : Addr).add 2) = some (.slice A61 n62 c63) ∧ K (.agg #[(.int .i64 n57), (.slice A58 n59 c60), (.slice A61 n62 c63)]) w56)

def impl_newWarp.ann : Ann := (.seq .l (.seq .l (.seq (.seq .l (.two .l .l)) (.seq .l .l))))

theorem impl_newWarp.con {xs0 : List D.Ins} {A0 : Option Addr} {c0 : Nat} {x1 : Int} {r : D.Warp} {w : World} (hp : M.impl_newWarp_pre xs0 x1) (hr : r = M.impl_newWarp xs0 x1) (R0 : Row el91 w A0 xs0) (hc0 : xs0.length ≤ c0) :
    Cll Tryz.prog 57 #[(.slice A0 xs0.length c0), (.int .i64 x1)] w (fun v_ w_ => ∃ (A0_ : Option Addr) (c0_ : Nat) (A1_ : Option Addr) (c1_ : Nat), v_ = (.agg #[(.int .i64 r.Number), (.slice A0_ r.Frames.length c0_), (.slice A1_ r.Regs.length c1_)]) ∧ Own el105 w_ w.heap.size A0_ c0_ r.Frames ∧ Own el3 w_ w.heap.size A1_ c1_ r.Regs ∧ Ext w w_) := by
  have H := wp.impl_newWarp.math xs0 x1 hp
  have hB := Ext.refl w
  refine beginF mixed (fn := Tryz.f57) (by kernel_rfl) (by kernel_rfl) (an := impl_newWarp.ann) (V := impl_newWarp.vc A0 xs0.length c0 x1) (by kernel_rfl) ?_
  unfold impl_newWarp.vc
  unfold wp.impl_newWarp at H
  refine newBlk (fun g2_ w21 L2 P2 e22 => ?_)
  have O2 := P2
  have L2 := Nat.le_trans hB.size L2
  have hB := ethen hB e22
  obtain ⟨⟨h0_26, h1_27⟩, H⟩ := H
  refine makeOwn slt27 h0_26 h1_27 (fun g23 w24 P3 e25 => ?_)
  have N3_2 := P3.apart_old O2.lt
  have O2 := O2.ext e25
  have O3 := P3.mono hB.size
  have hB := ethen hB e25
  refine newBlk (fun g4_ w28 L4 P4 e29 => ?_)
  have N2_4 := O2.ne L4
  have N3_4 := O3.apart_new L4
  have O2 := O2.ext e29
  have O3 := O3.ext e29
  have O4 := P4
  have L4 := Nat.le_trans hB.size L4
  have hB := ethen hB e29
  refine stBlk O4 (o := 0) (cs' := #[(.int .i64 x1), (.slice none 0 0), (.slice (some (⟨g23, 0, none⟩ : Addr)) ((32 : Int).toNat) ((32 : Int).toNat))]) rfl rfl (Nat.le_of_ble_eq_true rfl) rfl (fun w30 P4 e31 => ?_)
  have O2_ := O2.chg e31 N2_4
  have O3_ := O3.chg e31 N3_4
  have O2 := O2_
  have O3 := O3_
  have hB := echg hB e31 L4
  have O4 := P4
  refine brc H (fun hc41 H => ?_) (fun hc41 H => ?_)
  ·refine buildOwn el105 ([(⟨0, ((xs0.length : Nat) : Int), 255⟩ : D.Frame)] : List D.Frame) (fun _ => by kernel_rfl) rfl (fun A32 w33 P5 e34 => ?_)
   have N5_2 := P5.apart_old O2.lt
   have N3_5 := Own.apart2_new O3 P5 (Nat.le_refl _)
   have N5_4 := P5.apart_old O4.lt
   have O2 := O2.ext e34
   have O3 := O3.ext e34
   have O4 := O4.ext e34
   have O5 := P5.mono hB.size
   have hB := ethen hB e34
   refine stBlk O4 (o := 1) (cs' := #[(.int .i64 x1), (.slice A32 1 1), (.slice (some (⟨g23, 0, none⟩ : Addr)) ((32 : Int).toNat) ((32 : Int).toNat))]) rfl rfl (Nat.le_of_ble_eq_true rfl) rfl (fun w35 P4 e36 => ?_)
   have O2_ := O2.chg e36 N2_4
   have O3_ := O3.chg e36 N3_4
   have O5_ := O5.chg e36 N5_4
   have O2 := O2_
   have O3 := O3_
   have O5 := O5_
   have hB := echg hB e36 L4
   have O4 := P4
   refine ⟨_, (O4.at 0 rfl rfl), _, _, _, (O4.at 1 rfl rfl), _, _, _, (O4.at 2 rfl rfl), ?_⟩
   refine stBlk O2 (o := 0) (cs' := #[(.int .i64 x1), (.slice A32 1 1), (.slice (some (⟨g23, 0, none⟩ : Addr)) ((32 : Int).toNat) ((32 : Int).toNat))]) rfl rfl (Nat.le_of_ble_eq_true rfl) rfl (fun w37 P2 e38 => ?_)
   have O3_ := O3.chg e38 N3_2
   have O4_ := O4.chg e38 (N2_4).symm
   have O5_ := O5.chg e38 N5_2
   have O3 := O3_
   have O4 := O4_
   have O5 := O5_
   have hB := echg hB e38 L2
   have O2 := P2
   refine ⟨_, (O2.at 0 rfl rfl), _, _, _, (O2.at 1 rfl rfl), _, _, _, (O2.at 2 rfl rfl), ?_⟩
   obtain rfl := hr.trans H.symm
   exact ⟨A32, 1, (some (⟨g23, 0, none⟩ : Addr)), ((32 : Int).toNat), (by first | rfl | (simp; done) | (simp; omega) | (simp [*]; done)), (by first | exact O5 | (simp only [List.length_set]; exact O5)), (by first | exact O3 | (simp only [List.length_set]; exact O3)), hB⟩
  refine ⟨_, (O4.at 0 rfl rfl), _, _, _, (O4.at 1 rfl rfl), _, _, _, (O4.at 2 rfl rfl), ?_⟩
  refine stBlk O2 (o := 0) (cs' := #[(.int .i64 x1), (.slice none 0 0), (.slice (some (⟨g23, 0, none⟩ : Addr)) ((32 : Int).toNat) ((32 : Int).toNat))]) rfl rfl (Nat.le_of_ble_eq_true rfl) rfl (fun w39 P2 e40 => ?_)
  have O3_ := O3.chg e40 N3_2
  have O4_ := O4.chg e40 (N2_4).symm
  have O3 := O3_
  have O4 := O4_
  have hB := echg hB e40 L2
  have O2 := P2
  refine ⟨_, (O2.at 0 rfl rfl), _, _, _, (O2.at 1 rfl rfl), _, _, _, (O2.at 2 rfl rfl), ?_⟩
  obtain rfl := hr.trans H.symm
  exact ⟨none, 0, (some (⟨g23, 0, none⟩ : Addr)), ((32 : Int).toNat), (by first | rfl | (simp; done) | (simp; omega) | (simp [*]; done)), Own.nil, (by first | exact O3 | (simp only [List.length_set]; exact O3)), hB⟩
def slices_Clone_impl_Frame_impl_Frame.vc (A0 : Option Addr) (n0 : Nat) (c0 : Nat) (w : World) (K : Value → World → Prop) : Prop :=
  bcase (Option.isNone A0) (K (.slice none 0 0) w) (Run Tryz.prog (Instr.buildSlice 26 0 #[]) w fun v21 w22 => ∃ (A23 : Option Addr) (n24 c25 : Nat), v21 = .slice A23 n24 c25 ∧ Run Tryz.prog (Builtin.append_ #[26, 26] 26 #[(.slice A23 n24 c25), (.slice A0 n0 c0)]) w22 fun v26 w27 => ∃ (A28 : Option Addr) (n29 c30 : Nat), v26 = .slice A28 n29 c30 ∧ K (.slice A28 n29 c30) w27)

def slices_Clone_impl_Frame_impl_Frame.ann : Ann := (.seq .l (.seq (.seq .l (.two (.seq .l .l) .l)) (.seq .l .l)))

theorem slices_Clone_impl_Frame_impl_Frame.con {xs0 : List D.Frame} {A0 : Option Addr} {c0 : Nat} {r : List D.Frame} {w : World} (hp : M.slices_Clone_impl_Frame_impl_Frame_pre xs0) (hr : r = M.slices_Clone_impl_Frame_impl_Frame xs0) (R0 : Row el105 w A0 xs0) (hc0 : xs0.length ≤ c0) :
    Cll Tryz.prog 160 #[(.slice A0 xs0.length c0)] w (fun v_ w_ => ∃ (A0_ : Option Addr) (c0_ : Nat), v_ = (.slice A0_ r.length c0_) ∧ Own el105 w_ w.heap.size A0_ c0_ r ∧ Ext w w_) := by
  have H := wp.slices_Clone_impl_Frame_impl_Frame.math xs0 hp
  have hB := Ext.refl w
  refine beginF mixed (fn := Tryz.f160) (by kernel_rfl) (by kernel_rfl) (an := slices_Clone_impl_Frame_impl_Frame.ann) (V := slices_Clone_impl_Frame_impl_Frame.vc A0 xs0.length c0) (by kernel_rfl) ?_
  unfold slices_Clone_impl_Frame_impl_Frame.vc
  unfold wp.slices_Clone_impl_Frame_impl_Frame at H
  obtain ⟨b21, hb22⟩ : ∃ b_, b_ = Option.isNone A0 := ⟨_, rfl⟩
  have H := H b21 (fun h_ => Row.isNone (R0.ext hB) (hb22.symm.trans h_))
  rw [← hb22]
  refine brc H (fun hc31 H => ?_) (fun hc31 H => ?_)
  ·obtain rfl := hr.trans H.symm
   exact ⟨none, 0, rfl, Own.nil, hB⟩
  refine buildOwn el105 ([] : List D.Frame) (fun _ => by kernel_rfl) rfl (fun A23 w24 P2 e25 => ?_)
  have O2 := P2.mono hB.size
  have hB := ethen hB e25
  obtain ⟨hl30, H⟩ := H
  refine appOwn slt26 slt26.under O2 (R0.ext hB) hB.size (by first | rfl | omega | (simp; done) | (simp; omega)) rfl hl30 (fun A26 c27 w28 P2 e29 => ?_)
  have hB := eapp hB e29 O2
  have O2 := P2
  obtain rfl := hr.trans H.symm
  exact ⟨A26, c27, rfl, O2, hB⟩
def impl_copyWarp.vc (x0_0 : Int) (A0_1 : Option Addr) (n0_1 : Nat) (c0_1 : Nat) (A0_2 : Option Addr) (n0_2 : Nat) (c0_2 : Nat) (w : World) (K : Value → World → Prop) : Prop :=
  newK w (.cells #[(.int .i64 x0_0), (.slice A0_1 n0_1 c0_1), (.slice A0_2 n0_2 c0_2)] 29) fun g21 w22 => newK w22 (.cells #[(.int .i64 0), (.slice none 0 0), (.slice none 0 0)] 29) fun g23 w24 => ((∃ (A25 : Option Addr) (n26 : Nat) (c27 : Nat), w24.drew.cell? (((⟨g21, 0, none⟩ : Addr).add 1).add 0) = some (.slice A25 n26 c27) ∧ ((Cll Tryz.prog 160 #[(.slice A25 n26 c27)] w24.drew fun v28 w29 => (∃ (A30 : Option Addr) (n31 : Nat) (c32 : Nat), v28 = (.slice A30 n31 c32) ∧ ((∃ (A33 : Option Addr) (n34 : Nat) (c35 : Nat), w29.cell? (((⟨g21, 0, none⟩ : Addr).add 2).add 0) = some (.slice A33 n34 c35) ∧ ((Cll Tryz.prog 139 #[(.slice A33 n34 c35)] w29 fun v36 w37 => (∃ (A38 : Option Addr) (n39 : Nat) (c40 : Nat), v36 = (.slice A38 n39 c40) ∧ ((stCells ((⟨g21, 0, none⟩ : Addr).add 1) [(.slice A30 n31 c32)] 0 w37 fun w41 => ((stCells ((⟨g21, 0, none⟩ : Addr).add 2) [(.slice A38 n39 c40)] 0 w41 fun w42 => ∃ (n43 : Int), w42.cell? ((⟨g21, 0, none⟩ : Addr).add 0) = some (.int .i64 n43) ∧ ∃ (A44 : Option Addr) (n45 : Nat) (c46 : Nat), w42.cell? ((⟨g21, 0, none⟩ : Addr).add 1) = some (.slice A44 n45 c46) ∧ ∃ (A47 : Option Addr) (n48 : Nat) (c49 : Nat), w42.cell? ((⟨g21, 0, none⟩ : Addr).add 2) = some (.slice A47 n48 c49) ∧ stCells (⟨g23, 0, none⟩ : Addr) [(.int .i64 n43), (.slice A44 n45 c46), (.slice A47 n48 c49)] 0 w42 fun w50 => ∃ (n51 : Int), w50.cell? ((⟨g23, 0, none⟩ : Addr).add 0) = some (.int .i64 n51) ∧ ∃ (A52 : Option Addr) (n53 : Nat) (c54 : Nat), w50.cell? ((⟨g23, 0, none⟩ : Addr).add 1) = some (.slice A52 n53 c54) ∧ ∃ (A55 : Option Addr) (n56 : Nat) (c57 : Nat), w50.cell? ((⟨g23, 0, none⟩ : Addr).add 2) = some (.slice A55 n56 c57) ∧ K (.agg #[(.int .i64 n51), (.slice A52 n53 c54), (.slice A55 n56 c57)]) w50) ∧ True)) ∧ True))) ∧ True)) ∧ True))) ∧ (∃ (A58 : Option Addr) (n59 : Nat) (c60 : Nat), w24.drew.cell? (((⟨g21, 0, none⟩ : Addr).add 2).add 0) = some (.slice A58 n59 c60) ∧ ((Cll Tryz.prog 160 #[(.slice A25 n26 c27)] w24.drew fun v61 w62 => (∃ (A63 : Option Addr) (n64 : Nat) (c65 : Nat), v61 = (.slice A63 n64 c65) ∧ ((Cll Tryz.prog 139 #[(.slice A58 n59 c60)] w62 fun v66 w67 => (∃ (A68 : Option Addr) (n69 : Nat) (c70 : Nat), v66 = (.slice A68 n69 c70) ∧ ((stCells ((⟨g21, 0, none⟩ : Addr).add 1) [(.slice A63 n64 c65)] 0 w67 fun w71 => ((stCells ((⟨g21, 0, none⟩ : Addr).add 2) [(.slice A68 n69 c70)] 0 w71 fun w72 => ∃ (n73 : Int), w72.cell? ((⟨g21, 0, none⟩ : Addr).add 0) = some (.int .i64 n73) ∧ ∃ (A74 : Option Addr) (n75 : Nat) (c76 : Nat), w72.cell? ((⟨g21, 0, none⟩ : Addr).add 1) = some (.slice A74 n75 c76) ∧ ∃ (A77 : Option Addr) (n78 : Nat) (c79 : Nat), w72.cell? ((⟨g21, 0, none⟩ : Addr).add 2) = some (.slice A77 n78 c79) ∧ stCells (⟨g23, 0, none⟩ : Addr) [(.int .i64 n73), (.slice A74 n75 c76), (.slice A77 n78 c79)] 0 w72 fun w80 => ∃ (n81 : Int), w80.cell? ((⟨g23, 0, none⟩ : Addr).add 0) = some (.int .i64 n81) ∧ ∃ (A82 : Option Addr) (n83 : Nat) (c84 : Nat), w80.cell? ((⟨g23, 0, none⟩ : Addr).add 1) = some (.slice A82 n83 c84) ∧ ∃ (A85 : Option Addr) (n86 : Nat) (c87 : Nat), w80.cell? ((⟨g23, 0, none⟩ : Addr).add 2) = some (.slice A85 n86 c87) ∧ K (.agg #[(.int .i64 n81), (.slice A82 n83 c84), (.slice A85 n86 c87)]) w80) ∧ True)) ∧ True))) ∧ True))) ∧ True)) ∧ True)) ∧ (∃ (A88 : Option Addr) (n89 : Nat) (c90 : Nat), w24.drew.cell? (((⟨g21, 0, none⟩ : Addr).add 2).add 0) = some (.slice A88 n89 c90) ∧ ((∃ (A91 : Option Addr) (n92 : Nat) (c93 : Nat), w24.drew.cell? (((⟨g21, 0, none⟩ : Addr).add 1).add 0) = some (.slice A91 n92 c93) ∧ ((Cll Tryz.prog 160 #[(.slice A91 n92 c93)] w24.drew fun v94 w95 => (∃ (A96 : Option Addr) (n97 : Nat) (c98 : Nat), v94 = (.slice A96 n97 c98) ∧ ((Cll Tryz.prog 139 #[(.slice A88 n89 c90)] w95 fun v99 w100 => (∃ (A101 : Option Addr) (n102 : Nat) (c103 : Nat), v99 = (.slice A101 n102 c103) ∧ ((stCells ((⟨g21, 0, none⟩ : Addr).add 1) [(.slice A96 n97 c98)] 0 w100 fun w104 => ((stCells ((⟨g21, 0, none⟩ : Addr).add 2) [(.slice A101 n102 c103)] 0 w104 fun w105 => ∃ (n106 : Int), w105.cell? ((⟨g21, 0, none⟩ : Addr).add 0) = some (.int .i64 n106) ∧ ∃ (A107 : Option Addr) (n108 : Nat) (c109 : Nat), w105.cell? ((⟨g21, 0, none⟩ : Addr).add 1) = some (.slice A107 n108 c109) ∧ ∃ (A110 : Option Addr) (n111 : Nat) (c112 : Nat), w105.cell? ((⟨g21, 0, none⟩ : Addr).add 2) = some (.slice A110 n111 c112) ∧ stCells (⟨g23, 0, none⟩ : Addr) [(.int .i64 n106), (.slice A107 n108 c109), (.slice A110 n111 c112)] 0 w105 fun w113 => ∃ (n114 : Int), w113.cell? ((⟨g23, 0, none⟩ : Addr).add 0) = some (.int .i64 n114) ∧ ∃ (A115 : Option Addr) (n116 : Nat) (c117 : Nat), w113.cell? ((⟨g23, 0, none⟩ : Addr).add 1) = some (.slice A115 n116 c117) ∧ ∃ (A118 : Option Addr) (n119 : Nat) (c120 : Nat), w113.cell? ((⟨g23, 0, none⟩ : Addr).add 2) = some (.slice A118 n119 c120) ∧ K (.agg #[(.int .i64 n114), (.slice A115 n116 c117), (.slice A118 n119 c120)]) w113) ∧ True)) ∧ True))) ∧ True))) ∧ True)) ∧ True)) ∧ True)

def impl_copyWarp.ann : Ann := (.seq .l (.seq .each (.seq .l .l)))

theorem impl_copyWarp.con {s0 : D.Warp} {A0_1 : Option Addr} {c0_1 : Nat} {A0_2 : Option Addr} {c0_2 : Nat} {r : D.Warp} {w : World} (hp : M.impl_copyWarp_pre s0) (hr : r = M.impl_copyWarp s0) (R0_1 : Row el105 w A0_1 s0.Frames) (hc0_1 : s0.Frames.length ≤ c0_1) (R0_2 : Row el3 w A0_2 s0.Regs) (hc0_2 : s0.Regs.length ≤ c0_2) :
    Cll Tryz.prog 114 #[(.agg #[(.int .i64 s0.Number), (.slice A0_1 s0.Frames.length c0_1), (.slice A0_2 s0.Regs.length c0_2)])] w (fun v_ w_ => ∃ (A0_ : Option Addr) (c0_ : Nat) (A1_ : Option Addr) (c1_ : Nat), v_ = (.agg #[(.int .i64 r.Number), (.slice A0_ r.Frames.length c0_), (.slice A1_ r.Regs.length c1_)]) ∧ Own el105 w_ w.heap.size A0_ c0_ r.Frames ∧ Own el3 w_ w.heap.size A1_ c1_ r.Regs ∧ Ext w w_) := by
  have H := wp.impl_copyWarp.math s0 hp
  have hB := Ext.refl w
  refine beginF mixed (fn := Tryz.f114) (by kernel_rfl) (by kernel_rfl) (an := impl_copyWarp.ann) (V := impl_copyWarp.vc s0.Number A0_1 s0.Frames.length c0_1 A0_2 s0.Regs.length c0_2) (by kernel_rfl) ?_
  unfold impl_copyWarp.vc
  unfold wp.impl_copyWarp at H
  refine newBlk (fun g3_ w21 L3 P3 e22 => ?_)
  have O3 := P3
  have L3 := Nat.le_trans hB.size L3
  have hB := ethen hB e22
  refine newBlk (fun g4_ w23 L4 P4 e24 => ?_)
  have N3_4 := O3.ne L4
  have O3 := O3.ext e24
  have O4 := P4
  have L4 := Nat.le_trans hB.size L4
  have hB := ethen hB e24
  have O3 := O3.ext (Ext.drew _)
  have O4 := O4.ext (Ext.drew _)
  have hB := ethen hB (Ext.drew _)
  refine And.intro ?_ ?_
  ·have H := H.1
   refine ⟨_, _, _, (O3.at 1 rfl rfl), ?_⟩
   refine And.intro ?_ ?_
   ·have H := H.1
    obtain ⟨hp27, H⟩ := H
    obtain ⟨r25, hr26, H⟩ := callO H
    refine (slices_Clone_impl_Frame_impl_Frame.con hp27 hr26 (R0_1.ext hB) hc0_1).mono ?_
    rintro _ w28 ⟨A30, c31, rfl, P5, e29⟩
    have N5_3 := P5.apart_old O3.lt
    have N5_4 := P5.apart_old O4.lt
    have O3 := O3.ext e29
    have O4 := O4.ext e29
    have O5 := P5.mono hB.size
    have hB := ethen hB e29
    refine ⟨A30, r25.length, c31, rfl, ?_⟩
    refine and_t ?_
    refine ⟨_, _, _, (O3.at 2 rfl rfl), ?_⟩
    refine and_t ?_
    obtain ⟨hp34, H⟩ := H
    obtain ⟨r32, hr33, H⟩ := callO H
    refine (slices_Clone_int_int.con hp34 hr33 (R0_2.ext hB) hc0_2).mono ?_
    rintro _ w35 ⟨A37, c38, rfl, P6, e36⟩
    have N6_3 := P6.apart_old O3.lt
    have N6_4 := P6.apart_old O4.lt
    have N5_6 := Own.apart2_new O5 P6 (Nat.le_refl _)
    have O3 := O3.ext e36
    have O4 := O4.ext e36
    have O5 := O5.ext e36
    have O6 := P6.mono hB.size
    have hB := ethen hB e36
    refine ⟨A37, r32.length, c38, rfl, ?_⟩
    refine and_t ?_
    refine stBlk O3 (o := 1) (cs' := #[(.int .i64 s0.Number), (.slice A30 r25.length c31), (.slice A0_2 s0.Regs.length c0_2)]) rfl rfl (Nat.le_of_ble_eq_true rfl) rfl (fun w39 P3 e40 => ?_)
    have O4_ := O4.chg e40 (N3_4).symm
    have O5_ := O5.chg e40 N5_3
    have O6_ := O6.chg e40 N6_3
    have O4 := O4_
    have O5 := O5_
    have O6 := O6_
    have hB := echg hB e40 L3
    have O3 := P3
    refine and_t ?_
    refine stBlk O3 (o := 2) (cs' := #[(.int .i64 s0.Number), (.slice A30 r25.length c31), (.slice A37 r32.length c38)]) rfl rfl (Nat.le_of_ble_eq_true rfl) rfl (fun w41 P3 e42 => ?_)
    have O4_ := O4.chg e42 (N3_4).symm
    have O5_ := O5.chg e42 N5_3
    have O6_ := O6.chg e42 N6_3
    have O4 := O4_
    have O5 := O5_
    have O6 := O6_
    have hB := echg hB e42 L3
    have O3 := P3
    refine ⟨_, (O3.at 0 rfl rfl), _, _, _, (O3.at 1 rfl rfl), _, _, _, (O3.at 2 rfl rfl), ?_⟩
    refine stBlk O4 (o := 0) (cs' := #[(.int .i64 s0.Number), (.slice A30 r25.length c31), (.slice A37 r32.length c38)]) rfl rfl (Nat.le_of_ble_eq_true rfl) rfl (fun w43 P4 e44 => ?_)
    have O3_ := O3.chg e44 N3_4
    have O5_ := O5.chg e44 N5_4
    have O6_ := O6.chg e44 N6_4
    have O3 := O3_
    have O5 := O5_
    have O6 := O6_
    have hB := echg hB e44 L4
    have O4 := P4
    refine ⟨_, (O4.at 0 rfl rfl), _, _, _, (O4.at 1 rfl rfl), _, _, _, (O4.at 2 rfl rfl), ?_⟩
    obtain rfl := hr.trans H.symm
    exact ⟨A30, c31, A37, c38, rfl, O5, O6, hB⟩
   refine And.intro ?_ ?_
   ·have H := H.2.1
    refine ⟨_, _, _, (O3.at 2 rfl rfl), ?_⟩
    refine and_t ?_
    obtain ⟨hp47, H⟩ := H
    obtain ⟨r45, hr46, H⟩ := callO H
    refine (slices_Clone_impl_Frame_impl_Frame.con hp47 hr46 (R0_1.ext hB) hc0_1).mono ?_
    rintro _ w48 ⟨A50, c51, rfl, P7, e49⟩
    have N7_3 := P7.apart_old O3.lt
    have N7_4 := P7.apart_old O4.lt
    have O3 := O3.ext e49
    have O4 := O4.ext e49
    have O7 := P7.mono hB.size
    have hB := ethen hB e49
    refine ⟨A50, r45.length, c51, rfl, ?_⟩
    refine and_t ?_
    obtain ⟨hp54, H⟩ := H
    obtain ⟨r52, hr53, H⟩ := callO H
    refine (slices_Clone_int_int.con hp54 hr53 (R0_2.ext hB) hc0_2).mono ?_
    rintro _ w55 ⟨A57, c58, rfl, P8, e56⟩
    have N8_3 := P8.apart_old O3.lt
    have N8_4 := P8.apart_old O4.lt
    have N7_8 := Own.apart2_new O7 P8 (Nat.le_refl _)
    have O3 := O3.ext e56
    have O4 := O4.ext e56
    have O7 := O7.ext e56
    have O8 := P8.mono hB.size
    have hB := ethen hB e56
    refine ⟨A57, r52.length, c58, rfl, ?_⟩
    refine and_t ?_
    refine stBlk O3 (o := 1) (cs' := #[(.int .i64 s0.Number), (.slice A50 r45.length c51), (.slice A0_2 s0.Regs.length c0_2)]) rfl rfl (Nat.le_of_ble_eq_true rfl) rfl (fun w59 P3 e60 => ?_)
    have O4_ := O4.chg e60 (N3_4).symm
    have O7_ := O7.chg e60 N7_3
    have O8_ := O8.chg e60 N8_3
    have O4 := O4_
    have O7 := O7_
    have O8 := O8_
    have hB := echg hB e60 L3
    have O3 := P3
    refine and_t ?_
    refine stBlk O3 (o := 2) (cs' := #[(.int .i64 s0.Number), (.slice A50 r45.length c51), (.slice A57 r52.length c58)]) rfl rfl (Nat.le_of_ble_eq_true rfl) rfl (fun w61 P3 e62 => ?_)
    have O4_ := O4.chg e62 (N3_4).symm
    have O7_ := O7.chg e62 N7_3
    have O8_ := O8.chg e62 N8_3
    have O4 := O4_
    have O7 := O7_
    have O8 := O8_
    have hB := echg hB e62 L3
    have O3 := P3
    refine ⟨_, (O3.at 0 rfl rfl), _, _, _, (O3.at 1 rfl rfl), _, _, _, (O3.at 2 rfl rfl), ?_⟩
    refine stBlk O4 (o := 0) (cs' := #[(.int .i64 s0.Number), (.slice A50 r45.length c51), (.slice A57 r52.length c58)]) rfl rfl (Nat.le_of_ble_eq_true rfl) rfl (fun w63 P4 e64 => ?_)
    have O3_ := O3.chg e64 N3_4
    have O7_ := O7.chg e64 N7_4
    have O8_ := O8.chg e64 N8_4
    have O3 := O3_
    have O7 := O7_
    have O8 := O8_
    have hB := echg hB e64 L4
    have O4 := P4
    refine ⟨_, (O4.at 0 rfl rfl), _, _, _, (O4.at 1 rfl rfl), _, _, _, (O4.at 2 rfl rfl), ?_⟩
    obtain rfl := hr.trans H.symm
    exact ⟨A50, c51, A57, c58, rfl, O7, O8, hB⟩
   exact trivial
  refine And.intro ?_ ?_
  ·have H := H.2.1
   refine ⟨_, _, _, (O3.at 2 rfl rfl), ?_⟩
   refine and_t ?_
   refine ⟨_, _, _, (O3.at 1 rfl rfl), ?_⟩
   refine and_t ?_
   obtain ⟨hp67, H⟩ := H
   obtain ⟨r65, hr66, H⟩ := callO H
   refine (slices_Clone_impl_Frame_impl_Frame.con hp67 hr66 (R0_1.ext hB) hc0_1).mono ?_
   rintro _ w68 ⟨A70, c71, rfl, P9, e69⟩
   have N9_3 := P9.apart_old O3.lt
   have N9_4 := P9.apart_old O4.lt
   have O3 := O3.ext e69
   have O4 := O4.ext e69
   have O9 := P9.mono hB.size
   have hB := ethen hB e69
   refine ⟨A70, r65.length, c71, rfl, ?_⟩
   refine and_t ?_
   obtain ⟨hp74, H⟩ := H
   obtain ⟨r72, hr73, H⟩ := callO H
   refine (slices_Clone_int_int.con hp74 hr73 (R0_2.ext hB) hc0_2).mono ?_
   rintro _ w75 ⟨A77, c78, rfl, P10, e76⟩
   have N10_3 := P10.apart_old O3.lt
   have N10_4 := P10.apart_old O4.lt
   have N9_10 := Own.apart2_new O9 P10 (Nat.le_refl _)
   have O3 := O3.ext e76
   have O4 := O4.ext e76
   have O9 := O9.ext e76
   have O10 := P10.mono hB.size
   have hB := ethen hB e76
   refine ⟨A77, r72.length, c78, rfl, ?_⟩
   refine and_t ?_
   refine stBlk O3 (o := 1) (cs' := #[(.int .i64 s0.Number), (.slice A70 r65.length c71), (.slice A0_2 s0.Regs.length c0_2)]) rfl rfl (Nat.le_of_ble_eq_true rfl) rfl (fun w79 P3 e80 => ?_)
   have O4_ := O4.chg e80 (N3_4).symm
   have O9_ := O9.chg e80 N9_3
   have O10_ := O10.chg e80 N10_3
   have O4 := O4_
   have O9 := O9_
   have O10 := O10_
   have hB := echg hB e80 L3
   have O3 := P3
   refine and_t ?_
   refine stBlk O3 (o := 2) (cs' := #[(.int .i64 s0.Number), (.slice A70 r65.length c71), (.slice A77 r72.length c78)]) rfl rfl (Nat.le_of_ble_eq_true rfl) rfl (fun w81 P3 e82 => ?_)
   have O4_ := O4.chg e82 (N3_4).symm
   have O9_ := O9.chg e82 N9_3
   have O10_ := O10.chg e82 N10_3
   have O4 := O4_
   have O9 := O9_
   have O10 := O10_
   have hB := echg hB e82 L3
   have O3 := P3
   refine ⟨_, (O3.at 0 rfl rfl), _, _, _, (O3.at 1 rfl rfl), _, _, _, (O3.at 2 rfl rfl), ?_⟩
   refine stBlk O4 (o := 0) (cs' := #[(.int .i64 s0.Number), (.slice A70 r65.length c71), (.slice A77 r72.length c78)]) rfl rfl (Nat.le_of_ble_eq_true rfl) rfl (fun w83 P4 e84 => ?_)
   have O3_ := O3.chg e84 N3_4
   have O9_ := O9.chg e84 N9_4
   have O10_ := O10.chg e84 N10_4
   have O3 := O3_
   have O9 := O9_
   have O10 := O10_
   have hB := echg hB e84 L4
   have O4 := P4
   refine ⟨_, (O4.at 0 rfl rfl), _, _, _, (O4.at 1 rfl rfl), _, _, _, (O4.at 2 rfl rfl), ?_⟩
   obtain rfl := hr.trans H.symm
   exact ⟨A70, c71, A77, c78, rfl, O9, O10, hB⟩
  exact trivial
def impl_Warp_lane.vc (x0_0 : Int) (A0_1 : Option Addr) (n0_1 : Nat) (c0_1 : Nat) (A0_2 : Option Addr) (n0_2 : Nat) (c0_2 : Nat) (x1 : Int) (w : World) (K : Value → World → Prop) : Prop :=
  newK w (.cells #[(.int .i64 x0_0), (.slice A0_1 n0_1 c0_1), (.slice A0_2 n0_2 c0_2)] 29) fun g21 w22 => ∃ (A23 : Option Addr) (n24 : Nat) (c25 : Nat), w22.cell? (((⟨g21, 0, none⟩ : Addr).add 2).add 0) = some (.slice A23 n24 c25) ∧ ((0 : Int) ≤ (IntKind.wrap .i64 ((IntKind.wrap .i64 (x1 + 1)) * 4)) ∧ (IntKind.wrap .i64 ((IntKind.wrap .i64 (x1 + 1)) * 4)) ≤ ((c25 : Nat) : Int) ∧ ((0 : Int) ≤ (IntKind.wrap .i64 (x1 * 4)) ∧ (IntKind.wrap .i64 (x1 * 4)) ≤ ((((IntKind.wrap .i64 ((IntKind.wrap .i64 (x1 + 1)) * 4)).toNat) : Nat) : Int) ∧ K (.slice (if c25 = ((IntKind.wrap .i64 (x1 * 4)).toNat) then A23 else A23.map (·.add (((IntKind.wrap .i64 (x1 * 4)).toNat) * szOf Tryz.prog 3))) (((IntKind.wrap .i64 ((IntKind.wrap .i64 (x1 + 1)) * 4)).toNat) - ((IntKind.wrap .i64 (x1 * 4)).toNat)) (c25 - ((IntKind.wrap .i64 (x1 * 4)).toNat))) w22))

def impl_Warp_lane.ann : Ann := (.seq .l (.seq .l .l))

theorem impl_Warp_lane.vc_eq (x0_0 : Int) (A0_1 : Option Addr) (n0_1 : Nat) (c0_1 : Nat) (A0_2 : Option Addr) (n0_2 : Nat) (c0_2 : Nat) (x1 : Int) (w : World) (K : Value → World → Prop) : vcF Tryz.prog Tryz.f155 impl_Warp_lane.ann [(.agg #[(.int .i64 x0_0), (.slice A0_1 n0_1 c0_1), (.slice A0_2 n0_2 c0_2)]), (.int .i64 x1)] K w = impl_Warp_lane.vc x0_0 A0_1 n0_1 c0_1 A0_2 n0_2 c0_2 x1 w K := by kernel_rfl

theorem impl_Warp_lane.start {x0_0 : Int} {A0_1 : Option Addr} {n0_1 : Nat} {c0_1 : Nat} {A0_2 : Option Addr} {n0_2 : Nat} {c0_2 : Nat} {x1 : Int} {w : World} {K : Value → World → Prop} (h : impl_Warp_lane.vc x0_0 A0_1 n0_1 c0_1 A0_2 n0_2 c0_2 x1 w K) : Cll Tryz.prog 155 #[(.agg #[(.int .i64 x0_0), (.slice A0_1 n0_1 c0_1), (.slice A0_2 n0_2 c0_2)]), (.int .i64 x1)] w K :=
  vcF_sound mixed (fn := Tryz.f155) (by kernel_rfl) (by kernel_rfl) (an := impl_Warp_lane.ann) (args := [(.agg #[(.int .i64 x0_0), (.slice A0_1 n0_1 c0_1), (.slice A0_2 n0_2 c0_2)]), (.int .i64 x1)]) (by rw [impl_Warp_lane.vc_eq]; exact h)
end Go.V
set_option linter.unusedVariables false
set_option linter.unusedSimpArgs false
set_option maxRecDepth 100000
namespace Go.V
open Go.Proofs
/-- a lane's registers: a cut of the warp's -/
theorem impl_Warp_lane.con {s0 : D.Warp} {A0_1 : Option Addr} {c0_1 : Nat} {A0_2 : Option Addr} {c0_2 : Nat} {x1 : Int} {w : World} (hp : M.impl_Warp_lane_pre s0 x1) (R0_1 : Row el105 w A0_1 s0.Frames) (hc0_1 : s0.Frames.length ≤ c0_1) (R0_2 : Row el3 w A0_2 s0.Regs) (hc0_2 : s0.Regs.length ≤ c0_2) :
    Cll Tryz.prog 155 #[(.agg #[(.int .i64 s0.Number), (.slice A0_1 s0.Frames.length c0_1), (.slice A0_2 s0.Regs.length c0_2)]), (.int .i64 x1)] w (fun v_ w_ => v_ = (.slice (cutA c0_2 ((IntKind.wrap .i64 (x1 * 4)).toNat) A0_2 1) (List.drop ((IntKind.wrap .i64 (x1 * 4)).toNat) (List.take ((IntKind.wrap .i64 ((IntKind.wrap .i64 (x1 + 1)) * 4)).toNat) s0.Regs)).length (c0_2 - (IntKind.wrap .i64 (x1 * 4)).toNat)) ∧ Ext w w_) := by
  obtain ⟨h32, h0, h7⟩ := hp
  refine impl_Warp_lane.start ?_
  unfold impl_Warp_lane.vc
  refine newBlk fun g w1 L P e => ?_
  have a1 : IntKind.wrap .i64 (x1 * 4) = x1 * 4 := w64 (by omega) (by omega)
  have a2 : IntKind.wrap .i64 ((IntKind.wrap .i64 (x1 + 1)) * 4) = x1 * 4 + 4 := by rw [w64 (x := x1 + 1) (by omega) (by omega), w64 (by omega) (by omega)]; omega
  refine ⟨_, _, _, P.at 2 rfl rfl, ?_⟩
  rw [a1, a2]
  refine ⟨by omega, by omega, by omega, by omega, ?_, e⟩
  have hl : (List.drop (x1 * 4).toNat (List.take (x1 * 4 + 4).toNat s0.Regs)).length = (x1 * 4 + 4).toNat - (x1 * 4).toNat := by simp; omega
  rw [hl]
  have hz : szOf Tryz.prog 3 = 1 := by kernel_rfl
  rw [hz]
  rfl
theorem impl_Warp_lane.cut {x : D.Warp} {l : Int} (h : M.impl_Warp_lane_pre x l) : (IntKind.wrap .i64 (l * 4)).toNat ≤ (List.take ((IntKind.wrap .i64 ((IntKind.wrap .i64 (l + 1)) * 4)).toNat) x.Regs).length := by
  obtain ⟨h1, h2, h3⟩ := h
  rw [w64 (x := l * 4) (by omega) (by omega), w64 (x := l + 1) (by omega) (by omega), w64 (by omega) (by omega), List.length_take]
  omega
def impl_ActiveMask.vc (x0_0 : Int) (A0_1 : Option Addr) (n0_1 : Nat) (c0_1 : Nat) (A0_2 : Option Addr) (n0_2 : Nat) (c0_2 : Nat) (w : World) (K : Value → World → Prop) : Prop :=
  newK w (.cells #[(.int .i64 x0_0), (.slice A0_1 n0_1 c0_1), (.slice A0_2 n0_2 c0_2)] 29) fun g21 w22 => ∃ (A23 : Option Addr) (n24 : Nat) (c25 : Nat), w22.cell? (((⟨g21, 0, none⟩ : Addr).add 1).add 0) = some (.slice A23 n24 c25) ∧ bcase (((n24 : Nat) : Int) == 0) (K (.int .i64 0) w22) (∃ (A26 : Option Addr) (n27 : Nat) (c28 : Nat), w22.cell? (((⟨g21, 0, none⟩ : Addr).add 1).add 0) = some (.slice A26 n27 c28) ∧ ∃ (A29 : Option Addr) (n30 : Nat) (c31 : Nat), w22.cell? (((⟨g21, 0, none⟩ : Addr).add 1).add 0) = some (.slice A29 n30 c31) ∧ ((0 : Int) ≤ (IntKind.wrap .i64 (((n30 : Nat) : Int) - 1)) ∧ (IntKind.wrap .i64 (((n30 : Nat) : Int) - 1)) < ((n27 : Nat) : Int) ∧ ∃ a32 : Addr, A26 = some a32 ∧ ∃ (n33 : Int), w22.cell? (((a32.add (((IntKind.wrap .i64 (((n30 : Nat) : Int) - 1)).toNat) * 3)).add 2).add 0) = some (.int .i64 n33) ∧ K (.int .i64 n33) w22))

def impl_ActiveMask.ann : Ann := (.seq .l (.seq (.seq .l (.two (.seq .l .l) .l)) (.seq .l .l)))

theorem impl_ActiveMask.con {s0 : D.Warp} {A0_1 : Option Addr} {c0_1 : Nat} {A0_2 : Option Addr} {c0_2 : Nat} {r : Int} {w : World} (hp : M.impl_ActiveMask_pre s0) (hr : r = M.impl_ActiveMask s0) (R0_1 : Row el105 w A0_1 s0.Frames) (hc0_1 : s0.Frames.length ≤ c0_1) (R0_2 : Row el3 w A0_2 s0.Regs) (hc0_2 : s0.Regs.length ≤ c0_2) :
    Cll Tryz.prog 68 #[(.agg #[(.int .i64 s0.Number), (.slice A0_1 s0.Frames.length c0_1), (.slice A0_2 s0.Regs.length c0_2)])] w (fun v_ w_ => v_ = (.int .i64 r) ∧ Ext w w_) := by
  have H := wp.impl_ActiveMask.math s0 hp
  have hB := Ext.refl w
  refine beginF mixed (fn := Tryz.f68) (by kernel_rfl) (by kernel_rfl) (an := impl_ActiveMask.ann) (V := impl_ActiveMask.vc s0.Number A0_1 s0.Frames.length c0_1 A0_2 s0.Regs.length c0_2) (by kernel_rfl) ?_
  unfold impl_ActiveMask.vc
  unfold wp.impl_ActiveMask at H
  refine newBlk (fun g3_ w21 L3 P3 e22 => ?_)
  have O3 := P3
  have L3 := Nat.le_trans hB.size L3
  have hB := ethen hB e22
  refine ⟨_, _, _, (O3.at 1 rfl rfl), ?_⟩
  refine brc H (fun hc28 H => ?_) (fun hc28 H => ?_)
  ·obtain rfl := hr.trans H.symm
   exact ⟨rfl, hB⟩
  refine ⟨_, _, _, (O3.at 1 rfl rfl), _, _, _, (O3.at 1 rfl rfl), ?_⟩
  obtain ⟨⟨h0_26, h1_27⟩, H⟩ := H
  obtain ⟨a24, ha25, hat23⟩ := Row.at (R0_1.ext hB) h0_26 h1_27
  refine ⟨h0_26, h1_27, a24, ha25, _, (hat23 2 _ rfl), ?_⟩
  obtain rfl := hr.trans H.symm
  exact ⟨rfl, hB⟩
def impl_Warp_zeroMask.vc (x0_0 : Int) (A0_1 : Option Addr) (n0_1 : Nat) (c0_1 : Nat) (A0_2 : Option Addr) (n0_2 : Nat) (c0_2 : Nat) (x1 : Int) (w : World) (K : Value → World → Prop) : Prop :=
  newK w (.cells #[(.int .i64 x0_0), (.slice A0_1 n0_1 c0_1), (.slice A0_2 n0_2 c0_2)] 29) fun g21 w22 => ∃ (n23 : Int), w22.cell? ((⟨g21, 0, none⟩ : Addr).add 0) = some (.int .i64 n23) ∧ ∃ (A24 : Option Addr) (n25 : Nat) (c26 : Nat), w22.cell? ((⟨g21, 0, none⟩ : Addr).add 1) = some (.slice A24 n25 c26) ∧ ∃ (A27 : Option Addr) (n28 : Nat) (c29 : Nat), w22.cell? ((⟨g21, 0, none⟩ : Addr).add 2) = some (.slice A27 n28 c29) ∧ Cll Tryz.prog 68 #[(.agg #[(.int .i64 n23), (.slice A24 n25 c26), (.slice A27 n28 c29)])] w22 fun v30 w31 => (∃ (n32 : Int), v30 = (.int .i64 n32) ∧ Cll Tryz.prog 154 #[(.int .i64 n32)] w31 fun v33 w34 => (∃ (A35 : Option Addr) (n36 : Nat) (c37 : Nat), v33 = (.slice A35 n36 c37) ∧ LoopT (σ := Int × Int × Unit) (fun z38 w39 next40 => bcase (decide (z38.2.1 < ((n36 : Nat) : Int))) (((0 : Int) ≤ z38.2.1 ∧ z38.2.1 < ((n36 : Nat) : Int) ∧ ∃ a41 : Addr, A35 = some a41 ∧ ∃ (n42 : Int), w39.cell? ((a41.add ((z38.2.1.toNat) * 1)).add 0) = some (.int .i64 n42) ∧ ∃ (n43 : Int), w39.cell? ((⟨g21, 0, none⟩ : Addr).add 0) = some (.int .i64 n43) ∧ ∃ (A44 : Option Addr) (n45 : Nat) (c46 : Nat), w39.cell? ((⟨g21, 0, none⟩ : Addr).add 1) = some (.slice A44 n45 c46) ∧ ∃ (A47 : Option Addr) (n48 : Nat) (c49 : Nat), w39.cell? ((⟨g21, 0, none⟩ : Addr).add 2) = some (.slice A47 n48 c49) ∧ Cll Tryz.prog 155 #[(.agg #[(.int .i64 n43), (.slice A44 n45 c46), (.slice A47 n48 c49)]), (.int .i64 n42)] w39 fun v50 w51 => (∃ (A52 : Option Addr) (n53 : Nat) (c54 : Nat), v50 = (.slice A52 n53 c54) ∧ ((0 : Int) ≤ x1 ∧ x1 < ((n53 : Nat) : Int) ∧ ∃ a55 : Addr, A52 = some a55 ∧ ∃ (n56 : Int), w51.cell? ((a55.add ((x1.toNat) * 1)).add 0) = some (.int .i64 n56) ∧ bcase (n56 == 0) (((0 : Int) ≤ n42 ∧ next40 ((bitOr .i64 z38.1 (IntKind.wrap .i64 (1 * 2 ^ (min (n42.toNat) (IntKind.bits .i64))))), (IntKind.wrap .i64 (z38.2.1 + 1)), ()) w51)) (next40 (z38.1, (IntKind.wrap .i64 (z38.2.1 + 1)), ()) w51))))) (K (.int .i64 z38.1) w39)) (0, 0, ()) w34))

def impl_Warp_zeroMask.ann : Ann := (.seq .l (.seq .l (.seq (.seq .l (.one (.loop [(5, .int .i64), (12, .int .i64)] (.seq .l (.seq (.two .l .l) (.seq (.one (.seq .l (.seq .l (.two .l .l)))) .l)))))) (.seq .l .l))))

theorem impl_Warp_zeroMask.con {s0 : D.Warp} {A0_1 : Option Addr} {c0_1 : Nat} {A0_2 : Option Addr} {c0_2 : Nat} {x1 : Int} {r : Int} {w : World} (hp : M.impl_Warp_zeroMask_pre s0 x1) (hr : r = M.impl_Warp_zeroMask s0 x1) (R0_1 : Row el105 w A0_1 s0.Frames) (hc0_1 : s0.Frames.length ≤ c0_1) (R0_2 : Row el3 w A0_2 s0.Regs) (hc0_2 : s0.Regs.length ≤ c0_2) :
    Cll Tryz.prog 123 #[(.agg #[(.int .i64 s0.Number), (.slice A0_1 s0.Frames.length c0_1), (.slice A0_2 s0.Regs.length c0_2)]), (.int .i64 x1)] w (fun v_ w_ => v_ = (.int .i64 r) ∧ Ext w w_) := by
  have H := wp.impl_Warp_zeroMask.math s0 x1 hp
  have hB := Ext.refl w
  refine beginF mixed (fn := Tryz.f123) (by kernel_rfl) (by kernel_rfl) (an := impl_Warp_zeroMask.ann) (V := impl_Warp_zeroMask.vc s0.Number A0_1 s0.Frames.length c0_1 A0_2 s0.Regs.length c0_2 x1) (by kernel_rfl) ?_
  unfold impl_Warp_zeroMask.vc
  unfold wp.impl_Warp_zeroMask at H
  refine newBlk (fun g3_ w21 L3 P3 e22 => ?_)
  have O3 := P3
  have L3 := Nat.le_trans hB.size L3
  have hB := ethen hB e22
  refine ⟨_, (O3.at 0 rfl rfl), _, _, _, (O3.at 1 rfl rfl), _, _, _, (O3.at 2 rfl rfl), ?_⟩
  obtain ⟨hp25, H⟩ := H
  obtain ⟨r23, hr24, H⟩ := callO H
  refine (impl_ActiveMask.con hp25 hr24 (R0_1.ext hB) hc0_1 (R0_2.ext hB) hc0_2).mono ?_
  rintro _ w26 ⟨rfl, e27⟩
  have O3 := O3.ext e27
  have hB := ethen hB e27
  refine ⟨r23, rfl, ?_⟩
  obtain ⟨r28, hr29, H⟩ := callO H
  refine (impl_LanesOf.con hr29 ).mono ?_
  rintro _ w31 ⟨A33, c34, rfl, P4, e32⟩
  have N4_3 := P4.apart_old O3.lt
  have O3 := O3.ext e32
  have O4 := P4.mono hB.size
  have hB := ethen hB e32
  refine ⟨A33, r28.length, c34, rfl, ?_⟩
  obtain ⟨J38, ⟨m66, hJ65⟩, hS39⟩ := H
  refine ⟨fun m_ z_ w_ => ∃ (i35 : Int) (i36 : Int), z_ = (i35, i36, ()) ∧ J38 m_ (i35, i36, ()) ∧ Ext w w_ ∧ Blk w_ g3_ 29 #[(.int .i64 s0.Number), (.slice A0_1 s0.Frames.length c0_1), (.slice A0_2 s0.Regs.length c0_2)] ∧ Own el3 w_ w.heap.size A33 c34 r28, ⟨m66, 0, 0, rfl, hJ65, hB, O3, O4⟩, ?_⟩
  rintro m37 _ w41 ⟨i35, i36, rfl, hJ67, hB, O3, O4⟩
  have H := hS39 m37 _ hJ67
  clear hS39 hJ67
  try dsimp only at H ⊢
  refine brc H (fun hc63 H => ?_) (fun hc63 H => ?_)
  ·obtain ⟨⟨h0_45, h1_46⟩, H⟩ := H
   obtain ⟨a43, ha44, hat42⟩ := Row.at O4.row h0_45 h1_46
   refine ⟨h0_45, h1_46, a43, ha44, _, (hat42 0 _ rfl), _, (O3.at 0 rfl rfl), _, _, _, (O3.at 1 rfl rfl), _, _, _, (O3.at 2 rfl rfl), ?_⟩
   obtain ⟨hp47, H⟩ := H
   refine (impl_Warp_lane.con hp47 (R0_1.ext hB) hc0_1 (R0_2.ext hB) hc0_2).mono ?_
   rintro _ w48 ⟨rfl, e49⟩
   have O3 := O3.ext e49
   have O4 := O4.ext e49
   have hB := ethen hB e49
   have R5_ := (R0_2.take ((IntKind.wrap .i64 ((IntKind.wrap .i64 ((rd r28 i36) + 1)) * 4)).toNat)).drop (l := ((IntKind.wrap .i64 ((rd r28 i36) * 4)).toNat)) (m := c0_2) (by have := hc0_2; simp; omega)
   have le5_ : (List.drop ((IntKind.wrap .i64 ((rd r28 i36) * 4)).toNat) (List.take ((IntKind.wrap .i64 ((IntKind.wrap .i64 ((rd r28 i36) + 1)) * 4)).toNat) s0.Regs)).length ≤ (c0_2 - ((IntKind.wrap .i64 ((rd r28 i36) * 4)).toNat)) := by have := hc0_2; simp; omega
   refine ⟨(cutA c0_2 ((IntKind.wrap .i64 ((rd r28 i36) * 4)).toNat) A0_2 1), (List.drop ((IntKind.wrap .i64 ((rd r28 i36) * 4)).toNat) (List.take ((IntKind.wrap .i64 ((IntKind.wrap .i64 ((rd r28 i36) + 1)) * 4)).toNat) s0.Regs)).length, (c0_2 - ((IntKind.wrap .i64 ((rd r28 i36) * 4)).toNat)), rfl, ?_⟩
   obtain ⟨⟨h0_53, h1_54⟩, H⟩ := H
   obtain ⟨a51, ha52, hat50⟩ := Row.at (R5_.ext hB) h0_53 h1_54
   refine ⟨h0_53, h1_54, a51, ha52, _, (hat50 0 _ rfl), ?_⟩
   refine brc H (fun hc62 H => ?_) (fun hc62 H => ?_)
   ·obtain ⟨hc55, H⟩ := H
    refine ⟨hc55, ?_⟩
    obtain ⟨m56, hm57, hJ58⟩ := H
    exact ⟨m56, hm57, (bitOr .i64 i35 (IntKind.wrap .i64 (1 * 2 ^ (min ((rd r28 i36).toNat) (IntKind.bits .i64))))), (IntKind.wrap .i64 (i36 + 1)), rfl, hJ58, hB, O3, O4⟩
   obtain ⟨m59, hm60, hJ61⟩ := H
   exact ⟨m59, hm60, i35, (IntKind.wrap .i64 (i36 + 1)), rfl, hJ61, hB, O3, O4⟩
  obtain rfl := hr.trans H.symm
  exact ⟨rfl, hB⟩
def impl_Warp_splits.vc (x0_0 : Int) (A0_1 : Option Addr) (n0_1 : Nat) (c0_1 : Nat) (A0_2 : Option Addr) (n0_2 : Nat) (c0_2 : Nat) (A1 : Option Addr) (n1 : Nat) (c1 : Nat) (w : World) (K : Value → World → Prop) : Prop :=
  newK w (.cells #[(.int .i64 x0_0), (.slice A0_1 n0_1 c0_1), (.slice A0_2 n0_2 c0_2)] 29) fun g21 w22 => ∃ (A23 : Option Addr) (n24 : Nat) (c25 : Nat), w22.cell? (((⟨g21, 0, none⟩ : Addr).add 1).add 0) = some (.slice A23 n24 c25) ∧ ∃ (A26 : Option Addr) (n27 : Nat) (c28 : Nat), w22.cell? (((⟨g21, 0, none⟩ : Addr).add 1).add 0) = some (.slice A26 n27 c28) ∧ ((0 : Int) ≤ (IntKind.wrap .i64 (((n27 : Nat) : Int) - 1)) ∧ (IntKind.wrap .i64 (((n27 : Nat) : Int) - 1)) < ((n24 : Nat) : Int) ∧ ∃ a29 : Addr, A23 = some a29 ∧ ∃ (n30 : Int), w22.cell? (((a29.add (((IntKind.wrap .i64 (((n27 : Nat) : Int) - 1)).toNat) * 3)).add 0).add 0) = some (.int .i64 n30) ∧ ((0 : Int) ≤ n30 ∧ n30 < ((n1 : Nat) : Int) ∧ ∃ a32 : Addr, A1 = some a32 ∧ ∃ (n33 : Int), w22.cell? (((a32.add ((n30.toNat) * 4)).add 0).add 0) = some (.int .i64 n33) ∧ bcase (n33 != 10) (K (.bool false) w22) (((0 : Int) ≤ n30 ∧ n30 < ((n1 : Nat) : Int) ∧ ∃ a34 : Addr, A1 = some a34 ∧ ∃ (n35 : Int), w22.cell? (((a34.add ((n30.toNat) * 4)).add 2).add 0) = some (.int .i64 n35) ∧ bcase (n35 == (IntKind.wrap .i64 (n30 + 1))) (K (.bool false) w22) ((∃ M36 : Nat → Prop, ∃ (n37 : Int), (¬ M36 ((⟨g21, 0, none⟩ : Addr)).block ∧ w22.cell? ((⟨g21, 0, none⟩ : Addr).add 0) = some (.int .i64 n37)) ∧ ∃ (A38 : Option Addr) (n39 : Nat) (c40 : Nat), (¬ M36 ((⟨g21, 0, none⟩ : Addr)).block ∧ w22.cell? ((⟨g21, 0, none⟩ : Addr).add 1) = some (.slice A38 n39 c40)) ∧ ∃ (A41 : Option Addr) (n42 : Nat) (c43 : Nat), (¬ M36 ((⟨g21, 0, none⟩ : Addr)).block ∧ w22.cell? ((⟨g21, 0, none⟩ : Addr).add 2) = some (.slice A41 n42 c43)) ∧ ((0 : Int) ≤ n30 ∧ n30 < ((n1 : Nat) : Int) ∧ ∃ a44 : Addr, A1 = some a44 ∧ ∃ (n45 : Int), (¬ M36 (((a44.add ((n30.toNat) * 4)).add 1)).block ∧ w22.cell? (((a44.add ((n30.toNat) * 4)).add 1).add 0) = some (.int .i64 n45)) ∧ Cll Tryz.prog 123 #[(.agg #[(.int .i64 n37), (.slice A38 n39 c40), (.slice A41 n42 c43)]), (.int .i64 n45)] w22.drew fun v46 w47 => (∃ (n48 : Int), v46 = (.int .i64 n48) ∧ SameBut M36 w22 w47 ∧ bcase (n48 != 0) (∃ (n49 : Int), w47.cell? ((⟨g21, 0, none⟩ : Addr).add 0) = some (.int .i64 n49) ∧ ∃ (A50 : Option Addr) (n51 : Nat) (c52 : Nat), w47.cell? ((⟨g21, 0, none⟩ : Addr).add 1) = some (.slice A50 n51 c52) ∧ ∃ (A53 : Option Addr) (n54 : Nat) (c55 : Nat), w47.cell? ((⟨g21, 0, none⟩ : Addr).add 2) = some (.slice A53 n54 c55) ∧ Cll Tryz.prog 68 #[(.agg #[(.int .i64 n49), (.slice A50 n51 c52), (.slice A53 n54 c55)])] w47 fun v56 w57 => (∃ (n58 : Int), v56 = (.int .i64 n58) ∧ K (.bool (n48 != n58)) w57)) (K (.bool false) w47)))))))))

def impl_Warp_splits.ann : Ann := (.seq .l (.seq .l (.seq (.seq .l (.two (.seq .l .l) .l)) (.seq .l (.seq .l .l)))))

theorem impl_Warp_splits.con {s0 : D.Warp} {A0_1 : Option Addr} {c0_1 : Nat} {A0_2 : Option Addr} {c0_2 : Nat} {xs1 : List D.Ins} {A1 : Option Addr} {c1 : Nat} {r : Bool} {w : World} (hp : M.impl_Warp_splits_pre s0 xs1) (hr : r = M.impl_Warp_splits s0 xs1) (R0_1 : Row el105 w A0_1 s0.Frames) (hc0_1 : s0.Frames.length ≤ c0_1) (R0_2 : Row el3 w A0_2 s0.Regs) (hc0_2 : s0.Regs.length ≤ c0_2) (R1 : Row el91 w A1 xs1) (hc1 : xs1.length ≤ c1) :
    Cll Tryz.prog 69 #[(.agg #[(.int .i64 s0.Number), (.slice A0_1 s0.Frames.length c0_1), (.slice A0_2 s0.Regs.length c0_2)]), (.slice A1 xs1.length c1)] w (fun v_ w_ => v_ = (.bool r) ∧ Ext w w_) := by
  have H := wp.impl_Warp_splits.math s0 xs1 hp
  have hB := Ext.refl w
  refine beginF mixed (fn := Tryz.f69) (by kernel_rfl) (by kernel_rfl) (an := impl_Warp_splits.ann) (V := impl_Warp_splits.vc s0.Number A0_1 s0.Frames.length c0_1 A0_2 s0.Regs.length c0_2 A1 xs1.length c1) (by kernel_rfl) ?_
  unfold impl_Warp_splits.vc
  unfold wp.impl_Warp_splits at H
  refine newBlk (fun g4_ w21 L4 P4 e22 => ?_)
  have O4 := P4
  have L4 := Nat.le_trans hB.size L4
  have hB := ethen hB e22
  refine ⟨_, _, _, (O4.at 1 rfl rfl), _, _, _, (O4.at 1 rfl rfl), ?_⟩
  obtain ⟨⟨h0_26, h1_27⟩, H⟩ := H
  obtain ⟨a24, ha25, hat23⟩ := Row.at (R0_1.ext hB) h0_26 h1_27
  refine ⟨h0_26, h1_27, a24, ha25, _, (hat23 0 _ rfl), ?_⟩
  obtain ⟨⟨h0_31, h1_32⟩, H⟩ := H
  obtain ⟨a29, ha30, hat28⟩ := Row.at (R1.ext hB) h0_31 h1_32
  refine ⟨h0_31, h1_32, a29, ha30, _, (hat28 0 _ rfl), ?_⟩
  refine brc H (fun hc56 H => ?_) (fun hc56 H => ?_)
  ·obtain rfl := hr.trans H.symm
   exact ⟨rfl, hB⟩
  obtain ⟨⟨h0_36, h1_37⟩, H⟩ := H
  obtain ⟨a34, ha35, hat33⟩ := Row.at (R1.ext hB) h0_36 h1_37
  refine ⟨h0_36, h1_37, a34, ha35, _, (hat33 2 _ rfl), ?_⟩
  refine brc H (fun hc55 H => ?_) (fun hc55 H => ?_)
  ·obtain rfl := hr.trans H.symm
   exact ⟨rfl, hB⟩
  refine ⟨(fun _ => False), _, ⟨(fun h_ => h_), (O4.at 0 rfl rfl)⟩, _, _, _, ⟨(fun h_ => h_), (O4.at 1 rfl rfl)⟩, _, _, _, ⟨(fun h_ => h_), (O4.at 2 rfl rfl)⟩, ?_⟩
  obtain ⟨⟨h0_42, h1_43⟩, H⟩ := H
  obtain ⟨a40, ha41, hat39⟩ := Row.at (R1.ext hB) h0_42 h1_43
  refine ⟨h0_42, h1_43, a40, ha41, _, ⟨(fun h_ => h_), (hat39 1 _ rfl)⟩, ?_⟩
  have hS38 := Chg.refl (fun _ => False) w21
  have O4 := O4.ext (Ext.drew _)
  have hB := ethen hB (Ext.drew _)
  have hS38 := hS38.then (Ext.drew _)
  obtain ⟨hp46, H⟩ := H
  obtain ⟨r44, hr45, H⟩ := callO H
  refine (impl_Warp_zeroMask.con hp46 hr45 (R0_1.ext hB) hc0_1 (R0_2.ext hB) hc0_2).mono ?_
  rintro _ w47 ⟨rfl, e48⟩
  have O4 := O4.ext e48
  have hB := ethen hB e48
  have hS38 := hS38.then e48
  refine ⟨r44, rfl, sameBut_chg hS38, ?_⟩
  refine brc H (fun hc54 H => ?_) (fun hc54 H => ?_)
  ·refine ⟨_, (O4.at 0 rfl rfl), _, _, _, (O4.at 1 rfl rfl), _, _, _, (O4.at 2 rfl rfl), ?_⟩
   obtain ⟨hp51, H⟩ := H
   obtain ⟨r49, hr50, H⟩ := callO H
   refine (impl_ActiveMask.con hp51 hr50 (R0_1.ext hB) hc0_1 (R0_2.ext hB) hc0_2).mono ?_
   rintro _ w52 ⟨rfl, e53⟩
   have O4 := O4.ext e53
   have hB := ethen hB e53
   refine ⟨r49, rfl, ?_⟩
   obtain rfl := hr.trans H.symm
   exact ⟨rfl, hB⟩
  obtain rfl := hr.trans H.symm
  exact ⟨rfl, hB⟩
def cmp_isNaN_int.vc (x0 : Int) (w : World) (K : Value → World → Prop) : Prop :=
  K (.bool (x0 != x0)) w

def cmp_isNaN_int.ann : Ann := (.seq .l (.seq .l .l))

theorem cmp_isNaN_int.con {x0 : Int} {r : Bool} {w : World} (hr : r = M.cmp_isNaN_int x0)  :
    Cll Tryz.prog 191 #[(.int .i64 x0)] w (fun v_ w_ => v_ = (.bool r) ∧ Ext w w_) := by
  have H := wp.cmp_isNaN_int.math x0
  have hB := Ext.refl w
  refine beginF mixed (fn := Tryz.f191) (by kernel_rfl) (by kernel_rfl) (an := cmp_isNaN_int.ann) (V := cmp_isNaN_int.vc x0) (by kernel_rfl) ?_
  unfold cmp_isNaN_int.vc
  unfold wp.cmp_isNaN_int at H
  obtain rfl := hr.trans H.symm
  exact ⟨rfl, hB⟩
def cmp_Less_int.vc (x0 : Int) (x1 : Int) (w : World) (K : Value → World → Prop) : Prop :=
  Cll Tryz.prog 191 #[(.int .i64 x0)] w fun v21 w22 => (∃ (b23 : Bool), v21 = (.bool b23) ∧ bcase b23 (Cll Tryz.prog 191 #[(.int .i64 x1)] w22 fun v24 w25 => (∃ (b26 : Bool), v24 = (.bool b26) ∧ bcase (!b26) (K (.bool true) w25) (K (.bool (decide (x0 < x1))) w25))) (K (.bool (decide (x0 < x1))) w22))

def cmp_Less_int.ann : Ann := (.seq .l (.seq .l .l))

theorem cmp_Less_int.con {x0 : Int} {x1 : Int} {r : Bool} {w : World} (hr : r = M.cmp_Less_int x0 x1)  :
    Cll Tryz.prog 241 #[(.int .i64 x0), (.int .i64 x1)] w (fun v_ w_ => v_ = (.bool r) ∧ Ext w w_) := by
  have H := wp.cmp_Less_int.math x0 x1
  have hB := Ext.refl w
  refine beginF mixed (fn := Tryz.f241) (by kernel_rfl) (by kernel_rfl) (an := cmp_Less_int.ann) (V := cmp_Less_int.vc x0 x1) (by kernel_rfl) ?_
  unfold cmp_Less_int.vc
  unfold wp.cmp_Less_int at H
  obtain ⟨r21, hr22, H⟩ := callO H
  refine (cmp_isNaN_int.con hr22 ).mono ?_
  rintro _ w24 ⟨rfl, e25⟩
  have hB := ethen hB e25
  refine ⟨r21, rfl, ?_⟩
  refine brc H (fun hc32 H => ?_) (fun hc32 H => ?_)
  ·obtain ⟨r26, hr27, H⟩ := callO H
   refine (cmp_isNaN_int.con hr27 ).mono ?_
   rintro _ w29 ⟨rfl, e30⟩
   have hB := ethen hB e30
   refine ⟨r26, rfl, ?_⟩
   refine brc H (fun hc31 H => ?_) (fun hc31 H => ?_)
   ·obtain rfl := hr.trans H.symm
    exact ⟨rfl, hB⟩
   obtain rfl := hr.trans H.symm
   exact ⟨rfl, hB⟩
  obtain rfl := hr.trans H.symm
  exact ⟨rfl, hB⟩
def slices_insertionSortOrdered_int.vc (A0 : Option Addr) (n0 : Nat) (c0 : Nat) (x1 : Int) (x2 : Int) (w : World) (K : Value → World → Prop) : Prop :=
  LoopT (σ := Int × Unit) (fun z21 w22 next23 => bcase (decide (z21.1 < x2)) (LoopT (σ := Int × Unit) (fun z24 w25 next26 => JoinT (σ := Unit) (fun J27 => bcase (decide (z24.1 > x1)) (((0 : Int) ≤ z24.1 ∧ z24.1 < ((n0 : Nat) : Int) ∧ ∃ a28 : Addr, A0 = some a28 ∧ ((0 : Int) ≤ (IntKind.wrap .i64 (z24.1 - 1)) ∧ (IntKind.wrap .i64 (z24.1 - 1)) < ((n0 : Nat) : Int) ∧ ∃ a29 : Addr, A0 = some a29 ∧ ((∃ (n30 : Int), w25.drew.cell? ((a28.add ((z24.1.toNat) * 1)).add 0) = some (.int .i64 n30) ∧ ((∃ (n31 : Int), w25.drew.cell? ((a29.add (((IntKind.wrap .i64 (z24.1 - 1)).toNat) * 1)).add 0) = some (.int .i64 n31) ∧ ((Cll Tryz.prog 241 #[(.int .i64 n30), (.int .i64 n31)] w25.drew fun v32 w33 => (∃ (b34 : Bool), v32 = (.bool b34) ∧ bcase b34 (J27 () w33) (next23 ((IntKind.wrap .i64 (z21.1 + 1)), ()) w33))) ∧ True)) ∧ True)) ∧ (∃ (n35 : Int), w25.drew.cell? ((a29.add (((IntKind.wrap .i64 (z24.1 - 1)).toNat) * 1)).add 0) = some (.int .i64 n35) ∧ ((∃ (n36 : Int), w25.drew.cell? ((a28.add ((z24.1.toNat) * 1)).add 0) = some (.int .i64 n36) ∧ ((Cll Tryz.prog 241 #[(.int .i64 n36), (.int .i64 n35)] w25.drew fun v37 w38 => (∃ (b39 : Bool), v37 = (.bool b39) ∧ bcase b39 (J27 () w38) (next23 ((IntKind.wrap .i64 (z21.1 + 1)), ()) w38))) ∧ True)) ∧ True)) ∧ True)))) (((((((next23 ((IntKind.wrap .i64 (z21.1 + 1)), ()) w25.drew) ∧ True)) ∧ True)) ∧ (((((next23 ((IntKind.wrap .i64 (z21.1 + 1)), ()) w25.drew) ∧ True)) ∧ True)) ∧ True))) fun z40 w41 => ((0 : Int) ≤ (IntKind.wrap .i64 (z24.1 - 1)) ∧ (IntKind.wrap .i64 (z24.1 - 1)) < ((n0 : Nat) : Int) ∧ ∃ a42 : Addr, A0 = some a42 ∧ ((0 : Int) ≤ z24.1 ∧ z24.1 < ((n0 : Nat) : Int) ∧ ∃ a43 : Addr, A0 = some a43 ∧ ((∃ (n44 : Int), w41.drew.cell? ((a42.add (((IntKind.wrap .i64 (z24.1 - 1)).toNat) * 1)).add 0) = some (.int .i64 n44) ∧ ((∃ (n45 : Int), w41.drew.cell? ((a43.add ((z24.1.toNat) * 1)).add 0) = some (.int .i64 n45) ∧ ((0 : Int) ≤ z24.1 ∧ z24.1 < ((n0 : Nat) : Int) ∧ ∃ a46 : Addr, A0 = some a46 ∧ ((stCells (a46.add ((z24.1.toNat) * 1)) [(.int .i64 n44)] 0 w41.drew fun w47 => ((0 : Int) ≤ (IntKind.wrap .i64 (z24.1 - 1)) ∧ (IntKind.wrap .i64 (z24.1 - 1)) < ((n0 : Nat) : Int) ∧ ∃ a48 : Addr, A0 = some a48 ∧ ((stCells (a48.add (((IntKind.wrap .i64 (z24.1 - 1)).toNat) * 1)) [(.int .i64 n45)] 0 w47 fun w49 => next26 ((IntKind.wrap .i64 (z24.1 - 1)), ()) w49) ∧ True))) ∧ True))) ∧ True)) ∧ (∃ (n50 : Int), w41.drew.cell? ((a43.add ((z24.1.toNat) * 1)).add 0) = some (.int .i64 n50) ∧ ((∃ (n51 : Int), w41.drew.cell? ((a42.add (((IntKind.wrap .i64 (z24.1 - 1)).toNat) * 1)).add 0) = some (.int .i64 n51) ∧ ((0 : Int) ≤ z24.1 ∧ z24.1 < ((n0 : Nat) : Int) ∧ ∃ a52 : Addr, A0 = some a52 ∧ ((stCells (a52.add ((z24.1.toNat) * 1)) [(.int .i64 n51)] 0 w41.drew fun w53 => ((0 : Int) ≤ (IntKind.wrap .i64 (z24.1 - 1)) ∧ (IntKind.wrap .i64 (z24.1 - 1)) < ((n0 : Nat) : Int) ∧ ∃ a54 : Addr, A0 = some a54 ∧ ((stCells (a54.add (((IntKind.wrap .i64 (z24.1 - 1)).toNat) * 1)) [(.int .i64 n50)] 0 w53 fun w55 => next26 ((IntKind.wrap .i64 (z24.1 - 1)), ()) w55) ∧ True))) ∧ True))) ∧ True)) ∧ True)))) (z21.1, ()) w22) (K (.tuple #[]) w22)) ((IntKind.wrap .i64 (x1 + 1)), ()) w

def slices_insertionSortOrdered_int.ann : Ann := (.seq .l (.one (.loop [(6, .int .i64)] (.seq (.seq .l (.two .l .l)) (.seq (.one (.seq .l (.one (.loop [(7, .int .i64)] (.cut [] (.seq .each (.two .l .l)) (.seq (.one .each) .l)))))) .l)))))

theorem slices_insertionSortOrdered_int.con {xs0 : List Int} {A0 : Option Addr} {c0 : Nat} {x1 : Int} {x2 : Int} {r : (List Int)} {w : World} (hp : M.slices_insertionSortOrdered_int_pre xs0 x1 x2) (hr : r = M.slices_insertionSortOrdered_int xs0 x1 x2) (O1 : Own el3 w 0 A0 c0 xs0) :
    Cll Tryz.prog 235 #[(.slice A0 xs0.length c0), (.int .i64 x1), (.int .i64 x2)] w (fun v_ w_ => v_ = (.tuple #[]) ∧ Own el3 w_ 0 A0 c0 r ∧ r.length = xs0.length ∧ Chg (InB A0) w w_) := by
  have H := wp.slices_insertionSortOrdered_int.math xs0 x1 x2 hp
  have hB := Chg.refl (InB A0) w
  refine beginF mixed (fn := Tryz.f235) (by kernel_rfl) (by kernel_rfl) (an := slices_insertionSortOrdered_int.ann) (V := slices_insertionSortOrdered_int.vc A0 xs0.length c0 x1 x2) (by kernel_rfl) ?_
  unfold slices_insertionSortOrdered_int.vc
  unfold wp.slices_insertionSortOrdered_int at H
  obtain ⟨J124, ⟨m301, hJ300⟩, hS125⟩ := H
  refine ⟨fun m_ z_ w_ => ∃ (i120 : Int) (xs121 : List Int), z_ = (i120, ()) ∧ J124 m_ (i120, xs121, ()) ∧ Chg (InB A0) w w_ ∧ Own el3 w_ 0 A0 c0 xs121 ∧ xs0.length = xs121.length, ⟨m301, (IntKind.wrap .i64 (x1 + 1)), xs0, rfl, hJ300, hB, O1, (by first | rfl | assumption | omega | (simp; done) | (simp; omega) | (simp; assumption))⟩, ?_⟩
  rintro m123 _ w127 ⟨i120, xs121, rfl, hJ302, hB, O1, hn122⟩
  have H := hS125 m123 _ hJ302
  clear hS125 hJ302
  try dsimp only at H ⊢
  refine brc H (fun hc298 H => ?_) (fun hc298 H => ?_)
  ·obtain ⟨J202, ⟨m296, hJ295⟩, hS203⟩ := H
   refine ⟨fun m_ z_ w_ => ∃ (i198 : Int) (xs199 : List Int), z_ = (i198, ()) ∧ J202 m_ (i198, xs199, ()) ∧ Chg (InB A0) w w_ ∧ Own el3 w_ 0 A0 c0 xs199 ∧ xs0.length = xs199.length, ⟨m296, i120, xs121, rfl, hJ295, hB, O1, (by first | rfl | assumption | omega | (simp; done) | (simp; omega) | (simp; assumption))⟩, ?_⟩
   rintro m201 _ w205 ⟨i198, xs199, rfl, hJ297, hB, O1, hn200⟩
   have H := hS203 m201 _ hJ297
   clear hS203 hJ297
   try dsimp only at H ⊢
   obtain ⟨K293, hKK293, H⟩ := joinP_out H
   refine ⟨fun z_ w_ => z_ = (()) ∧ K293 (()) ∧ Chg (InB A0) w w_ ∧ Own el3 w_ 0 A0 c0 xs199, ?_, ?_⟩
   ·have O1 := O1.ext (Ext.drew _)
    have hB := hB.then (Ext.drew _)
    refine brc H (fun hc243 H => ?_) (fun hc243 H => ?_)
    ·obtain ⟨⟨h0_212, h1_213⟩, H⟩ := H
     obtain ⟨a210, ha211, hat209⟩ := Row.at O1.row h0_212 h1_213
     refine ⟨h0_212, (by first | exact h1_213 | omega | (simp at h1_213 ⊢; omega)), a210, ha211, ?_⟩
     obtain ⟨⟨h0_217, h1_218⟩, H⟩ := H
     obtain ⟨a215, ha216, hat214⟩ := Row.at O1.row h0_217 h1_218
     refine ⟨h0_217, (by first | exact h1_218 | omega | (simp at h1_218 ⊢; omega)), a215, ha216, ?_⟩
     refine And.intro ?_ ?_
     ·have H := H.1
      refine ⟨_, (hat209 0 _ rfl), ?_⟩
      refine and_t ?_
      refine ⟨_, (hat214 0 _ rfl), ?_⟩
      refine and_t ?_
      obtain ⟨r219, hr220, H⟩ := callO H
      refine (cmp_Less_int.con hr220 ).mono ?_
      rintro _ w222 ⟨rfl, e223⟩
      have O1 := O1.ext e223
      have hB := hB.then e223
      refine ⟨r219, rfl, ?_⟩
      refine brc H (fun hc227 H => ?_) (fun hc227 H => ?_)
      ·exact ⟨rfl, H, hB, O1⟩
      obtain ⟨m224, hm225, hJ226⟩ := H
      exact ⟨m224, hm225, (IntKind.wrap .i64 (i120 + 1)), xs199, rfl, hJ226, hB, O1, (by first | rfl | assumption | omega | (simp; done) | (simp; omega) | (simp; assumption))⟩
     refine And.intro ?_ ?_
     ·have H := H.2.1
      refine ⟨_, (hat214 0 _ rfl), ?_⟩
      refine and_t ?_
      refine ⟨_, (hat209 0 _ rfl), ?_⟩
      refine and_t ?_
      obtain ⟨r228, hr229, H⟩ := callO H
      refine (cmp_Less_int.con hr229 ).mono ?_
      rintro _ w231 ⟨rfl, e232⟩
      have O1 := O1.ext e232
      have hB := hB.then e232
      refine ⟨r228, rfl, ?_⟩
      refine brc H (fun hc236 H => ?_) (fun hc236 H => ?_)
      ·exact ⟨rfl, H, hB, O1⟩
      obtain ⟨m233, hm234, hJ235⟩ := H
      exact ⟨m233, hm234, (IntKind.wrap .i64 (i120 + 1)), xs199, rfl, hJ235, hB, O1, (by first | rfl | assumption | omega | (simp; done) | (simp; omega) | (simp; assumption))⟩
     exact trivial
    refine And.intro ?_ ?_
    ·have H := H.1
     refine and_t ?_
     refine and_t ?_
     obtain ⟨m237, hm238, hJ239⟩ := H
     exact ⟨m237, hm238, (IntKind.wrap .i64 (i120 + 1)), xs199, rfl, hJ239, hB, O1, (by first | rfl | assumption | omega | (simp; done) | (simp; omega) | (simp; assumption))⟩
    refine And.intro ?_ ?_
    ·have H := H.2.1
     refine and_t ?_
     refine and_t ?_
     obtain ⟨m240, hm241, hJ242⟩ := H
     exact ⟨m240, hm241, (IntKind.wrap .i64 (i120 + 1)), xs199, rfl, hJ242, hB, O1, (by first | rfl | assumption | omega | (simp; done) | (simp; omega) | (simp; assumption))⟩
    exact trivial
   rintro _ w207 ⟨rfl, H, hB, O1⟩
   have H := hKK293 _ H
   try dsimp only at H ⊢
   have O1 := O1.ext (Ext.drew _)
   have hB := hB.then (Ext.drew _)
   obtain ⟨⟨h0_247, h1_248⟩, H⟩ := H
   obtain ⟨a245, ha246, hat244⟩ := Row.at O1.row h0_247 h1_248
   refine ⟨h0_247, (by first | exact h1_248 | omega | (simp at h1_248 ⊢; omega)), a245, ha246, ?_⟩
   obtain ⟨⟨h0_252, h1_253⟩, H⟩ := H
   obtain ⟨a250, ha251, hat249⟩ := Row.at O1.row h0_252 h1_253
   refine ⟨h0_252, (by first | exact h1_253 | omega | (simp at h1_253 ⊢; omega)), a250, ha251, ?_⟩
   refine And.intro ?_ ?_
   ·have H := H.1
    refine ⟨_, (hat244 0 _ rfl), ?_⟩
    refine and_t ?_
    refine ⟨_, (hat249 0 _ rfl), ?_⟩
    obtain ⟨⟨h0_257, h1_258⟩, H⟩ := H
    obtain ⟨a255, ha256, hat254⟩ := Row.at O1.row h0_257 h1_258
    refine ⟨h0_257, (by first | exact h1_258 | omega | (simp at h1_258 ⊢; omega)), a255, ha256, ?_⟩
    refine and_t ?_
    refine Own.storeAt O1 ha256 h0_257 h1_258 0 [(.int .i64 (rd xs199 (IntKind.wrap .i64 (i198 - 1))))] (rd xs199 (IntKind.wrap .i64 (i198 - 1))) rfl (Nat.le_of_ble_eq_true rfl) rfl (fun w259 P1 e260 hb261 => ?_)
    have hB := hB.chgb e260 (Or.inr ⟨_, ha256, rfl⟩)
    have O1 := P1
    obtain ⟨⟨h0_265, h1_266⟩, H⟩ := H
    obtain ⟨a263, ha264, hat262⟩ := Row.at O1.row h0_265 h1_266
    refine ⟨h0_265, (by first | exact h1_266 | omega | (simp at h1_266 ⊢; omega)), a263, ha264, ?_⟩
    refine and_t ?_
    refine Own.storeAt O1 ha264 h0_265 h1_266 0 [(.int .i64 (rd xs199 i198))] (rd xs199 i198) rfl (Nat.le_of_ble_eq_true rfl) rfl (fun w267 P1 e268 hb269 => ?_)
    have hB := hB.chgb e268 (Or.inr ⟨_, ha264, rfl⟩)
    have O1 := P1
    obtain ⟨m270, hm271, hJ272⟩ := H
    exact ⟨m270, hm271, (IntKind.wrap .i64 (i198 - 1)), (List.set (List.set xs199 (i198.toNat) (rd xs199 (IntKind.wrap .i64 (i198 - 1)))) ((IntKind.wrap .i64 (i198 - 1)).toNat) (rd xs199 i198)), rfl, hJ272, hB, O1, (by first | rfl | assumption | omega | (simp; done) | (simp; omega) | (simp; assumption))⟩
   refine And.intro ?_ ?_
   ·have H := H.2.1
    refine ⟨_, (hat249 0 _ rfl), ?_⟩
    refine and_t ?_
    refine ⟨_, (hat244 0 _ rfl), ?_⟩
    obtain ⟨⟨h0_276, h1_277⟩, H⟩ := H
    obtain ⟨a274, ha275, hat273⟩ := Row.at O1.row h0_276 h1_277
    refine ⟨h0_276, (by first | exact h1_277 | omega | (simp at h1_277 ⊢; omega)), a274, ha275, ?_⟩
    refine and_t ?_
    refine Own.storeAt O1 ha275 h0_276 h1_277 0 [(.int .i64 (rd xs199 (IntKind.wrap .i64 (i198 - 1))))] (rd xs199 (IntKind.wrap .i64 (i198 - 1))) rfl (Nat.le_of_ble_eq_true rfl) rfl (fun w278 P1 e279 hb280 => ?_)
    have hB := hB.chgb e279 (Or.inr ⟨_, ha275, rfl⟩)
    have O1 := P1
    obtain ⟨⟨h0_284, h1_285⟩, H⟩ := H
    obtain ⟨a282, ha283, hat281⟩ := Row.at O1.row h0_284 h1_285
    refine ⟨h0_284, (by first | exact h1_285 | omega | (simp at h1_285 ⊢; omega)), a282, ha283, ?_⟩
    refine and_t ?_
    refine Own.storeAt O1 ha283 h0_284 h1_285 0 [(.int .i64 (rd xs199 i198))] (rd xs199 i198) rfl (Nat.le_of_ble_eq_true rfl) rfl (fun w286 P1 e287 hb288 => ?_)
    have hB := hB.chgb e287 (Or.inr ⟨_, ha283, rfl⟩)
    have O1 := P1
    obtain ⟨m289, hm290, hJ291⟩ := H
    exact ⟨m289, hm290, (IntKind.wrap .i64 (i198 - 1)), (List.set (List.set xs199 (i198.toNat) (rd xs199 (IntKind.wrap .i64 (i198 - 1)))) ((IntKind.wrap .i64 (i198 - 1)).toNat) (rd xs199 i198)), rfl, hJ291, hB, O1, (by first | rfl | assumption | omega | (simp; done) | (simp; omega) | (simp; assumption))⟩
   exact trivial
  obtain rfl := hr.trans H.symm
  exact ⟨rfl, O1, (by first | (simp only [List.length_set]; done) | (simp only [List.length_set, ← hn122]; done) | (simp; done) | (simp; omega) | omega), hB⟩
def math_bits_Len64.vc (x0 : Int) (w : World) (K : Value → World → Prop) : Prop :=
  JoinT (σ := Int × Int × Unit) (fun J21 => bcase (decide (x0 ≥ 4294967296)) (((0 : Int) ≤ 32 ∧ J21 ((Int.fdiv x0 (2 ^ (min ((32 : Int).toNat) (IntKind.bits .u64)))), 32, ()) w)) (J21 (x0, 0, ()) w)) fun z22 w23 => JoinT (σ := Int × Int × Unit) (fun J24 => bcase (decide (z22.1 ≥ 65536)) (((0 : Int) ≤ 16 ∧ J24 ((Int.fdiv z22.1 (2 ^ (min ((16 : Int).toNat) (IntKind.bits .u64)))), (IntKind.wrap .i64 (z22.2.1 + 16)), ()) w23)) (J24 (z22.1, z22.2.1, ()) w23)) fun z25 w26 => JoinT (σ := Int × Int × Unit) (fun J27 => bcase (decide (z25.1 ≥ 256)) (((0 : Int) ≤ 8 ∧ J27 ((Int.fdiv z25.1 (2 ^ (min ((8 : Int).toNat) (IntKind.bits .u64)))), (IntKind.wrap .i64 (z25.2.1 + 8)), ()) w26)) (J27 (z25.1, z25.2.1, ()) w26)) fun z28 w29 => ((0 : Int) ≤ IntKind.wrap .u8 z28.1 ∧ ∃ y30 : UInt8, ((⟨#[0, 1, 2, 2, 3, 3, 3, 3, 4, 4, 4, 4, 4, 4, 4, 4, 5, 5, 5, 5, 5, 5, 5, 5, 5, 5, 5, 5, 5, 5, 5, 5, 6, 6, 6, 6, 6, 6, 6, 6, 6, 6, 6, 6, 6, 6, 6, 6, 6, 6, 6, 6, 6, 6, 6, 6, 6, 6, 6, 6, 6, 6, 6, 6, 7, 7, 7, 7, 7, 7, 7, 7, 7, 7, 7, 7, 7, 7, 7, 7, 7, 7, 7, 7, 7, 7, 7, 7, 7, 7, 7, 7, 7, 7, 7, 7, 7, 7, 7, 7, 7, 7, 7, 7, 7, 7, 7, 7, 7, 7, 7, 7, 7, 7, 7, 7, 7, 7, 7, 7, 7, 7, 7, 7, 7, 7, 7, 7, 8, 8, 8, 8, 8, 8, 8, 8, 8, 8, 8, 8, 8, 8, 8, 8, 8, 8, 8, 8, 8, 8, 8, 8, 8, 8, 8, 8, 8, 8, 8, 8, 8, 8, 8, 8, 8, 8, 8, 8, 8, 8, 8, 8, 8, 8, 8, 8, 8, 8, 8, 8, 8, 8, 8, 8, 8, 8, 8, 8, 8, 8, 8, 8, 8, 8, 8, 8, 8, 8, 8, 8, 8, 8, 8, 8, 8, 8, 8, 8, 8, 8, 8, 8, 8, 8, 8, 8, 8, 8, 8, 8, 8, 8, 8, 8, 8, 8, 8, 8, 8, 8, 8, 8, 8, 8, 8, 8, 8, 8, 8, 8, 8, 8, 8, 8, 8, 8, 8, 8, 8, 8, 8, 8, 8, 8, 8, 8]⟩) : ByteArray)[((IntKind.wrap .u8 z28.1).toNat)]? = some y30 ∧ K (.int .i64 (IntKind.wrap .i64 (z28.2.1 + (IntKind.wrap .i64 ((y30.toNat : Nat) : Int))))) w29)

def math_bits_Len64.ann : Ann := (.seq .l (.cut [(0, .int .u64), (2, .int .i64)] (.seq .l (.two (.seq .l .l) .l)) (.cut [(0, .int .u64), (2, .int .i64)] (.seq .l (.two (.seq .l .l) .l)) (.cut [(0, .int .u64), (2, .int .i64)] (.seq .l (.two (.seq .l .l) .l)) (.seq .l .l)))))

theorem math_bits_Len64.con {x0 : Int} {r : Int} {w : World} (hp : M.math_bits_Len64_pre x0) (hr : r = M.math_bits_Len64 x0)  :
    Cll Tryz.prog 222 #[(.int .u64 x0)] w (fun v_ w_ => v_ = (.int .i64 r) ∧ Ext w w_) := by
  have H := wp.math_bits_Len64.math x0 hp
  have hB := Ext.refl w
  refine beginF mixed (fn := Tryz.f222) (by kernel_rfl) (by kernel_rfl) (an := math_bits_Len64.ann) (V := math_bits_Len64.vc x0) (by kernel_rfl) ?_
  unfold math_bits_Len64.vc
  unfold wp.math_bits_Len64 at H
  obtain ⟨K52, hKK52, H⟩ := joinP_out H
  refine ⟨fun z_ w_ => ∃ (i21 : Int) (i22 : Int), z_ = (i21, i22, ()) ∧ K52 (i21, i22, ()) ∧ Ext w w_, ?_, ?_⟩
  ·refine brc H (fun hc27 H => ?_) (fun hc27 H => ?_)
   ·refine ⟨by decide, ?_⟩
    exact ⟨(Int.fdiv x0 (2 ^ (min ((32 : Int).toNat) (IntKind.bits .u64)))), 32, rfl, H, hB⟩
   exact ⟨x0, 0, rfl, H, hB⟩
  rintro _ w24 ⟨i21, i22, rfl, H, hB⟩
  have H := hKK52 _ H
  try dsimp only at H ⊢
  obtain ⟨K50, hKK50, H⟩ := joinP_out H
  refine ⟨fun z_ w_ => ∃ (i28 : Int) (i29 : Int), z_ = (i28, i29, ()) ∧ K50 (i28, i29, ()) ∧ Ext w w_, ?_, ?_⟩
  ·refine brc H (fun hc34 H => ?_) (fun hc34 H => ?_)
   ·refine ⟨by decide, ?_⟩
    exact ⟨(Int.fdiv i21 (2 ^ (min ((16 : Int).toNat) (IntKind.bits .u64)))), (IntKind.wrap .i64 (i22 + 16)), rfl, H, hB⟩
   exact ⟨i21, i22, rfl, H, hB⟩
  rintro _ w31 ⟨i28, i29, rfl, H, hB⟩
  have H := hKK50 _ H
  try dsimp only at H ⊢
  obtain ⟨K48, hKK48, H⟩ := joinP_out H
  refine ⟨fun z_ w_ => ∃ (i35 : Int) (i36 : Int), z_ = (i35, i36, ()) ∧ K48 (i35, i36, ()) ∧ Ext w w_, ?_, ?_⟩
  ·refine brc H (fun hc41 H => ?_) (fun hc41 H => ?_)
   ·refine ⟨by decide, ?_⟩
    exact ⟨(Int.fdiv i28 (2 ^ (min ((8 : Int).toNat) (IntKind.bits .u64)))), (IntKind.wrap .i64 (i29 + 8)), rfl, H, hB⟩
   exact ⟨i28, i29, rfl, H, hB⟩
  rintro _ w38 ⟨i35, i36, rfl, H, hB⟩
  have H := hKK48 _ H
  try dsimp only at H ⊢
  obtain ⟨⟨h0_45, h1_46⟩, H⟩ := H
  obtain ⟨y42, hy43, hyb44⟩ := strAt h0_45 h1_46
  refine ⟨h0_45, y42, hy43, ?_⟩
  rw [hyb44]
  obtain rfl := hr.trans H.symm
  exact ⟨rfl, hB⟩
def math_bits_Len.vc (x0 : Int) (w : World) (K : Value → World → Prop) : Prop :=
  Cll Tryz.prog 222 #[(.int .u64 x0)] w fun v21 w22 => (∃ (n23 : Int), v21 = (.int .i64 n23) ∧ K (.int .i64 n23) w22)

def math_bits_Len.ann : Ann := (.seq .l (.seq (.two (.seq .l .l) .l) (.seq .l .l)))

theorem math_bits_Len.con {x0 : Int} {r : Int} {w : World} (hp : M.math_bits_Len_pre x0) (hr : r = M.math_bits_Len x0)  :
    Cll Tryz.prog 190 #[(.int .u64 x0)] w (fun v_ w_ => v_ = (.int .i64 r) ∧ Ext w w_) := by
  have H := wp.math_bits_Len.math x0 hp
  have hB := Ext.refl w
  refine beginF mixed (fn := Tryz.f190) (by kernel_rfl) (by kernel_rfl) (an := math_bits_Len.ann) (V := math_bits_Len.vc x0) (by kernel_rfl) ?_
  unfold math_bits_Len.vc
  unfold wp.math_bits_Len at H
  obtain ⟨hp23, H⟩ := H
  obtain ⟨r21, hr22, H⟩ := callO H
  refine (math_bits_Len64.con hp23 hr22 ).mono ?_
  rintro _ w24 ⟨rfl, e25⟩
  have hB := ethen hB e25
  refine ⟨r21, rfl, ?_⟩
  obtain rfl := hr.trans H.symm
  exact ⟨rfl, hB⟩
def slices_pdqsortOrdered_int.vc (A0 : Option Addr) (n0 : Nat) (c0 : Nat) (x1 : Int) (x2 : Int) (x3 : Int) (w : World) (K : Value → World → Prop) : Prop :=
  LoopT (σ := Int × Int × Int × Bool × Bool × Unit) (fun z21 w22 next23 => bcase (decide ((IntKind.wrap .i64 (z21.2.1 - z21.1)) ≤ 12)) (Cll Tryz.prog 235 #[(.slice A0 n0 c0), (.int .i64 z21.1), (.int .i64 z21.2.1)] w22 fun v24 w25 => (v24 = (.tuple #[]) ∧ K (.tuple #[]) w25)) (bcase (z21.2.2.1 == 0) (Cll Tryz.prog 236 #[(.slice A0 n0 c0), (.int .i64 z21.1), (.int .i64 z21.2.1)] w22 fun v26 w27 => (v26 = (.tuple #[]) ∧ K (.tuple #[]) w27)) (JoinT (σ := Int × Unit) (fun J28 => bcase (!z21.2.2.2.1) (Cll Tryz.prog 237 #[(.slice A0 n0 c0), (.int .i64 z21.1), (.int .i64 z21.2.1)] w22 fun v29 w30 => (v29 = (.tuple #[]) ∧ J28 ((IntKind.wrap .i64 (z21.2.2.1 - 1)), ()) w30)) (J28 (z21.2.2.1, ()) w22)) fun z31 w32 => Cll Tryz.prog 238 #[(.slice A0 n0 c0), (.int .i64 z21.1), (.int .i64 z21.2.1)] w32 fun v33 w34 => (∃ u35 : Value, (∃ (n36 : Int), u35 = (.int .i64 n36) ∧ ∃ u37 : Value, (∃ (n38 : Int), u37 = (.int .i64 n38) ∧ v33 = (.tuple #[(.int .i64 n36), (.int .i64 n38)]) ∧ JoinT (σ := Int × Int × Unit) (fun J39 => bcase (n38 == 2) (Cll Tryz.prog 239 #[(.slice A0 n0 c0), (.int .i64 z21.1), (.int .i64 z21.2.1)] w34 fun v40 w41 => (v40 = (.tuple #[]) ∧ J39 ((IntKind.wrap .i64 ((IntKind.wrap .i64 (z21.2.1 - 1)) - (IntKind.wrap .i64 (n36 - z21.1)))), 1, ()) w41)) (J39 (n36, n38, ()) w34)) fun z42 w43 => JoinT (σ := Unit) (fun J44 => bcase z21.2.2.2.1 (bcase z21.2.2.2.2.1 (bcase (z42.2.1 == 1) (Cll Tryz.prog 240 #[(.slice A0 n0 c0), (.int .i64 z21.1), (.int .i64 z21.2.1)] w43 fun v45 w46 => (∃ (b47 : Bool), v45 = (.bool b47) ∧ bcase b47 (K (.tuple #[]) w46) (J44 () w46))) (J44 () w43)) (J44 () w43)) (J44 () w43)) fun z48 w49 => JoinT (σ := Bool × Unit) (fun J51 => (∃ M52 : Nat → Prop, bcase (decide (z21.1 > 0)) (((0 : Int) ≤ (IntKind.wrap .i64 (z21.1 - 1)) ∧ (IntKind.wrap .i64 (z21.1 - 1)) < ((n0 : Nat) : Int) ∧ ∃ a53 : Addr, A0 = some a53 ∧ ∃ (n54 : Int), (¬ M52 ((a53.add (((IntKind.wrap .i64 (z21.1 - 1)).toNat) * 1))).block ∧ w49.cell? ((a53.add (((IntKind.wrap .i64 (z21.1 - 1)).toNat) * 1)).add 0) = some (.int .i64 n54)) ∧ ((0 : Int) ≤ z42.1 ∧ z42.1 < ((n0 : Nat) : Int) ∧ ∃ a55 : Addr, A0 = some a55 ∧ ∃ (n56 : Int), (¬ M52 ((a55.add ((z42.1.toNat) * 1))).block ∧ w49.cell? ((a55.add ((z42.1.toNat) * 1)).add 0) = some (.int .i64 n56)) ∧ Cll Tryz.prog 241 #[(.int .i64 n54), (.int .i64 n56)] w49.drew fun v57 w58 => (∃ (b59 : Bool), v57 = (.bool b59) ∧ SameBut M52 w49 w58 ∧ J51 ((!b59), ()) w58)))) (J51 (false, ()) w49.drew))) fun z60 w61 => bcase z60.1 (Cll Tryz.prog 242 #[(.slice A0 n0 c0), (.int .i64 z21.1), (.int .i64 z21.2.1), (.int .i64 z42.1)] w61 fun v62 w63 => (∃ (n64 : Int), v62 = (.int .i64 n64) ∧ next23 (n64, z21.2.1, z31.1, z21.2.2.2.1, z21.2.2.2.2.1, ()) w63)) (Cll Tryz.prog 243 #[(.slice A0 n0 c0), (.int .i64 z21.1), (.int .i64 z21.2.1), (.int .i64 z42.1)] w61 fun v65 w66 => (∃ u67 : Value, (∃ (n68 : Int), u67 = (.int .i64 n68) ∧ ∃ u69 : Value, (∃ (b70 : Bool), u69 = (.bool b70) ∧ v65 = (.tuple #[(.int .i64 n68), (.bool b70)]) ∧ ((8 : Int) ≠ 0 ∧ bcase (decide ((IntKind.wrap .i64 (n68 - z21.1)) < (IntKind.wrap .i64 (z21.2.1 - n68)))) (Cll Tryz.prog 207 #[(.slice A0 n0 c0), (.int .i64 z21.1), (.int .i64 n68), (.int .i64 z31.1)] w66 fun v71 w72 => (v71 = (.tuple #[]) ∧ next23 ((IntKind.wrap .i64 (n68 + 1)), z21.2.1, z31.1, (decide ((IntKind.wrap .i64 (n68 - z21.1)) ≥ (IntKind.wrap .i64 (Int.tdiv (IntKind.wrap .i64 (z21.2.1 - z21.1)) 8)))), b70, ()) w72)) (Cll Tryz.prog 207 #[(.slice A0 n0 c0), (.int .i64 (IntKind.wrap .i64 (n68 + 1))), (.int .i64 z21.2.1), (.int .i64 z31.1)] w66 fun v73 w74 => (v73 = (.tuple #[]) ∧ next23 (z21.1, n68, z31.1, (decide ((IntKind.wrap .i64 (z21.2.1 - n68)) ≥ (IntKind.wrap .i64 (Int.tdiv (IntKind.wrap .i64 (z21.2.1 - z21.1)) 8)))), b70, ()) w74))))))))))))) (x1, x2, x3, true, true, ()) w

def slices_pdqsortOrdered_int.ann : Ann := (.seq .l (.seq .l (.one (.loop [(1, .int .i64), (2, .int .i64), (3, .int .i64), (8, .bool), (9, .bool)] (.one (.seq .l (.seq (.seq .l (.two (.seq .l .l) .l)) (.seq (.seq .l (.two (.seq .l .l) .l)) (.cut [(3, .int .i64)] (.seq .l (.two (.seq .l .l) .l)) (.seq .l (.cut [(11, .int .i64), (12, .int .i64)] (.seq .l (.two (.seq .l (.seq .l .l)) .l)) (.cut [] (.seq .l (.two (.seq .l (.two .l .l)) .l)) (.seq (.cut [(87, .bool)] .l (.two (.seq .l (.seq .l .l)) .l)) (.seq .l (.seq .l (.seq .l (.seq .l (.seq .l (.two (.seq .l (.seq .l .l)) (.seq .l (.seq .l .l)))))))))))))))))))))

theorem slices_pdqsortOrdered_int.con {xs0 : List Int} {A0 : Option Addr} {c0 : Nat} {x1 : Int} {x2 : Int} {x3 : Int} {r : (List Int)} {w : World} (hp : M.slices_pdqsortOrdered_int_pre xs0 x1 x2 x3) (hr : r = M.slices_pdqsortOrdered_int xs0 x1 x2 x3) (O1 : Own el3 w 0 A0 c0 xs0) :
    Cll Tryz.prog 207 #[(.slice A0 xs0.length c0), (.int .i64 x1), (.int .i64 x2), (.int .i64 x3)] w (fun v_ w_ => v_ = (.tuple #[]) ∧ Own el3 w_ 0 A0 c0 r ∧ r.length = xs0.length ∧ Chg (InB A0) w w_) := by
  have H := wp.slices_pdqsortOrdered_int.math xs0 x1 x2 x3 hp
  have hB := Chg.refl (InB A0) w
  refine beginF mixed (fn := Tryz.f207) (by kernel_rfl) (by kernel_rfl) (an := slices_pdqsortOrdered_int.ann) (V := slices_pdqsortOrdered_int.vc A0 xs0.length c0 x1 x2 x3) (by kernel_rfl) ?_
  unfold slices_pdqsortOrdered_int.vc
  unfold wp.slices_pdqsortOrdered_int at H
  obtain ⟨J27, ⟨m46, hJ45⟩, hS28⟩ := H
  refine ⟨fun m_ z_ w_ => ∃ (i21 : Int) (i22 : Int) (i23 : Int) (b24 : Bool) (b25 : Bool), z_ = (i21, i22, i23, b24, b25, ()) ∧ J27 m_ (i21, i22, i23, b24, b25, ()) ∧ Chg (InB A0) w w_ ∧ Own el3 w_ 0 A0 c0 xs0, ⟨m46, x1, x2, x3, true, true, rfl, hJ45, hB, O1⟩, ?_⟩
  rintro m26 _ w30 ⟨i21, i22, i23, b24, b25, rfl, hJ47, hB, O1⟩
  have H := hS28 m26 _ hJ47
  clear hS28 hJ47
  try dsimp only at H ⊢
  refine brc H (fun hc43 H => ?_) (fun hc43 H => ?_)
  ·obtain ⟨hp33, H⟩ := H
   obtain ⟨r31, hr32, H⟩ := callO H
   refine (slices_insertionSortOrdered_int.con hp33 hr32 (O1.mono (Nat.zero_le _))).mono ?_
   rintro _ w34 ⟨rfl, Q1, hl36, e35⟩
   have hB := hB.chg e35 (fun g h_ => (Or.inr h_))
   have O1 := Q1
   refine ⟨rfl, ?_⟩
   obtain rfl := hr.trans H.symm
   exact ⟨rfl, O1, (by first | (simp only [List.length_set]; done) | (simp only [List.length_set, hl36]; done) | (simp; done) | (simp; omega) | omega), hB⟩
  refine brc H (fun hc42 H => ?_) (fun hc42 H => ?_)
  ·exact H.elim
  exact H.elim
def slices_Sort_int_int.vc (A0 : Option Addr) (n0 : Nat) (c0 : Nat) (w : World) (K : Value → World → Prop) : Prop :=
  Cll Tryz.prog 190 #[(.int .u64 (IntKind.wrap .u64 ((n0 : Nat) : Int)))] w fun v21 w22 => (∃ (n23 : Int), v21 = (.int .i64 n23) ∧ Cll Tryz.prog 207 #[(.slice A0 n0 c0), (.int .i64 0), (.int .i64 ((n0 : Nat) : Int)), (.int .i64 n23)] w22 fun v24 w25 => (v24 = (.tuple #[]) ∧ K (.tuple #[]) w25))

def slices_Sort_int_int.ann : Ann := (.seq .l .l)

theorem slices_Sort_int_int.con {xs0 : List Int} {A0 : Option Addr} {c0 : Nat} {r : (List Int)} {w : World} (hp : M.slices_Sort_int_int_pre xs0) (hr : r = M.slices_Sort_int_int xs0) (O1 : Own el3 w 0 A0 c0 xs0) :
    Cll Tryz.prog 184 #[(.slice A0 xs0.length c0)] w (fun v_ w_ => v_ = (.tuple #[]) ∧ Own el3 w_ 0 A0 c0 r ∧ r.length = xs0.length ∧ Chg (InB A0) w w_) := by
  have H := wp.slices_Sort_int_int.math xs0 hp
  have hB := Chg.refl (InB A0) w
  refine beginF mixed (fn := Tryz.f184) (by kernel_rfl) (by kernel_rfl) (an := slices_Sort_int_int.ann) (V := slices_Sort_int_int.vc A0 xs0.length c0) (by kernel_rfl) ?_
  unfold slices_Sort_int_int.vc
  unfold wp.slices_Sort_int_int at H
  obtain ⟨hp23, H⟩ := H
  obtain ⟨r21, hr22, H⟩ := callO H
  refine (math_bits_Len.con hp23 hr22 ).mono ?_
  rintro _ w24 ⟨rfl, e25⟩
  have O1 := O1.ext e25
  have hB := hB.then e25
  refine ⟨r21, rfl, ?_⟩
  obtain ⟨hp28, H⟩ := H
  obtain ⟨r26, hr27, H⟩ := callO H
  refine (slices_pdqsortOrdered_int.con hp28 hr27 (O1.mono (Nat.zero_le _))).mono ?_
  rintro _ w29 ⟨rfl, Q1, hl31, e30⟩
  have hB := hB.chg e30 (fun g h_ => (Or.inr h_))
  have O1 := Q1
  refine ⟨rfl, ?_⟩
  obtain rfl := hr.trans H.symm
  exact ⟨rfl, O1, (by first | (simp only [List.length_set]; done) | (simp only [List.length_set, hl31]; done) | (simp; done) | (simp; omega) | omega), hB⟩
end Go.V
