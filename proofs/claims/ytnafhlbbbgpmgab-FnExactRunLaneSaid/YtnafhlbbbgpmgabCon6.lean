import Derived.Test.YtnafhlbbbgpmgabMath6
import Derived.Test.YtnafhlbbbgpmgabSeat
import Derived.Test.YtnafhlbbbgpmgabCon5
namespace Go.V
open Go.Proofs
set_option linter.unusedVariables false
set_option linter.unusedSimpArgs false
set_option maxRecDepth 100000

def spec_l15Alone.vc (A0 : Option Addr) (n0 : Nat) (c0 : Nat) (x1 : Int) (w : World) (K : Value → World → Prop) : Prop :=
  Run Try.prog (Instr.buildSlice 26 0 #[]) w fun v21 w22 => ∃ (A23 : Option Addr) (n24 c25 : Nat), v21 = .slice A23 n24 c25 ∧ Cll Try.prog 48 #[(.int .i64 x1), (.int .i64 0), (.int .i64 2)] w22 fun v26 w27 => (∃ (b28 : Bool), v26 = (.bool b28) ∧ bcase (!b28) (K (.tuple #[(.slice A23 n24 c25), (.bool false)]) w27) (LoopT (σ := (Option Addr × Nat × Nat) × Int × Unit) (fun z29 w30 next31 => bcase (decide (z29.2.1 < 8)) (Cll Try.prog 116 #[(.slice A0 n0 c0), (.int .i64 (IntKind.wrap .i64 ((IntKind.wrap .i64 (x1 * 8)) + z29.2.1)))] w30 fun v32 w33 => (∃ (n34 : Int), v32 = (.int .i64 n34) ∧ bcase (decide (n34 < 0)) (Run Try.prog (Instr.buildSlice 26 0 #[]) w33 fun v35 w36 => ∃ (A37 : Option Addr) (n38 c39 : Nat), v35 = .slice A37 n38 c39 ∧ K (.tuple #[(.slice A37 n38 c39), (.bool false)]) w36) (Run Try.prog (Instr.buildSlice 26 1 #[(0, (.int .i64 n34))]) w33 fun v40 w41 => ∃ (A42 : Option Addr) (n43 c44 : Nat), v40 = .slice A42 n43 c44 ∧ Run Try.prog (Builtin.append_ #[26, 26] 26 #[(.slice z29.1.1 z29.1.2.1 z29.1.2.2), (.slice A42 n43 c44)]) w41 fun v45 w46 => ∃ (A47 : Option Addr) (n48 c49 : Nat), v45 = .slice A47 n48 c49 ∧ next31 ((A47, n48, c49), (IntKind.wrap .i64 (z29.2.1 + 1)), ()) w46))) (K (.tuple #[(.slice z29.1.1 z29.1.2.1 z29.1.2.2), (.bool true)]) w30)) ((A23, n24, c25), 0, ()) w27))

def spec_l15Alone.ann : Ann := (.seq .l (.seq .l (.seq (.seq .l (.two (.seq .l .l) .l)) (.seq (.seq .l (.one (.loop [(6, .sl), (7, .int .i64)] (.seq (.seq .l (.two .l .l)) (.seq (.one (.seq .l (.seq (.seq .l (.two (.seq .l .l) .l)) .l))) .l))))) (.seq .l .l)))))

theorem spec_l15Alone.vc_eq (A0 : Option Addr) (n0 : Nat) (c0 : Nat) (x1 : Int) (w : World) (K : Value → World → Prop) : vcF Try.prog Try.f83 spec_l15Alone.ann [(.slice A0 n0 c0), (.int .i64 x1)] K w = spec_l15Alone.vc A0 n0 c0 x1 w K := by kernel_rfl

theorem spec_l15Alone.start {A0 : Option Addr} {n0 : Nat} {c0 : Nat} {x1 : Int} {w : World} {K : Value → World → Prop} (h : spec_l15Alone.vc A0 n0 c0 x1 w K) : Cll Try.prog 83 #[(.slice A0 n0 c0), (.int .i64 x1)] w K :=
  vcF_sound mixed (fn := Try.f83) (by kernel_rfl) (by kernel_rfl) (an := spec_l15Alone.ann) (args := [(.slice A0 n0 c0), (.int .i64 x1)]) (by rw [spec_l15Alone.vc_eq]; exact h)

theorem spec_l15Alone.con {xs0 : List D.Ins} {A0 : Option Addr} {c0 : Nat} {x1 : Int} {r : (List Int) × Bool} {w : World} (hp : M.spec_l15Alone_pre xs0 x1) (hr : r = M.spec_l15Alone xs0 x1) (R0 : Row el68 w A0 xs0) (hc0 : xs0.length ≤ c0) :
    Cll Try.prog 83 #[(.slice A0 xs0.length c0), (.int .i64 x1)] w (fun v_ w_ => ∃ (A0_ : Option Addr) (c0_ : Nat), v_ = (.tuple #[(.slice A0_ r.1.length c0_), (.bool r.2)]) ∧ Own el3 w_ w.heap.size A0_ c0_ r.1 ∧ Ext w w_) := by
  have H := wp.spec_l15Alone.math xs0 x1 hp
  have hB := Ext.refl w
  refine spec_l15Alone.start ?_
  unfold spec_l15Alone.vc
  unfold wp.spec_l15Alone at H
  refine buildOwn el3 ([] : List Int) (fun _ => by kernel_rfl) rfl (fun A21 w22 P2 e23 => ?_)
  have O2 := P2.mono hB.size
  have hB := ethen hB e23
  obtain ⟨r24, hr25⟩ : ∃ r_, r_ = M.spec_l01In x1 0 2 := ⟨_, rfl⟩
  have H := H r24 hr25
  refine (spec_l01In.con hr25 ).mono ?_
  rintro _ w27 ⟨rfl, e28⟩
  have O2 := O2.ext e28
  have hB := ethen hB e28
  refine ⟨r24, rfl, ?_⟩
  refine bcase_mk (fun hc63 => ?_) (fun hc63 => ?_)
  · have H := (bcase_iff.1 H).1 hc63
    obtain rfl := hr.trans H.symm
    exact ⟨A21, 0, (by first | rfl | (simp; done) | (simp; omega) | (simp [*]; done)), (by first | exact O2 | (simp only [List.length_set]; exact O2)), hB⟩
  · have H := (bcase_iff.1 H).2 hc63
    obtain ⟨J34, ⟨m61, hJ60⟩, hS35⟩ := H
    refine ⟨fun m_ z_ w_ => ∃ (xs29 : List Int) (i32 : Int) (A30 : Option Addr) (c31 : Nat), z_ = ((A30, xs29.length, c31), i32, ()) ∧ J34 m_ (xs29, i32, ()) ∧ Ext w w_ ∧ Own el3 w_ w.heap.size A30 c31 xs29, ⟨m61, ([] : List Int), 0, A21, 0, rfl, hJ60, hB, O2⟩, ?_⟩
    rintro m33 _ w37 ⟨xs29, i32, A30, c31, rfl, hJ62, hB, O3⟩
    have H := hS35 m33 _ hJ62
    clear hS35 hJ62
    dsimp only at H ⊢
    refine bcase_mk (fun hc58 => ?_) (fun hc58 => ?_)
    · have H := (bcase_iff.1 H).1 hc58
      obtain ⟨hp40, H⟩ := H
      obtain ⟨r38, hr39⟩ : ∃ r_, r_ = M.spec_StepsAlone xs0 (IntKind.wrap .i64 ((IntKind.wrap .i64 (x1 * 8)) + i32)) := ⟨_, rfl⟩
      have H := H r38 hr39
      refine (spec_StepsAlone.con hp40 hr39 (R0.ext hB) hc0).mono ?_
      rintro _ w41 ⟨rfl, e42⟩
      have O3 := O3.ext e42
      have hB := ethen hB e42
      refine ⟨r38, rfl, ?_⟩
      refine bcase_mk (fun hc57 => ?_) (fun hc57 => ?_)
      · have H := (bcase_iff.1 H).1 hc57
        refine buildOwn el3 ([] : List Int) (fun _ => by kernel_rfl) rfl (fun A43 w44 P4 e45 => ?_)
        have N3_4 := Own.apart2_new O3 P4 (Nat.le_refl _)
        have O3 := O3.ext e45
        have O4 := P4.mono hB.size
        have hB := ethen hB e45
        obtain rfl := hr.trans H.symm
        exact ⟨A43, 0, (by first | rfl | (simp; done) | (simp; omega) | (simp [*]; done)), (by first | exact O4 | (simp only [List.length_set]; exact O4)), hB⟩
      · have H := (bcase_iff.1 H).2 hc57
        refine buildOwn el3 ([r38] : List Int) (fun _ => by kernel_rfl) rfl (fun A46 w47 P5 e48 => ?_)
        have N3_5 := Own.apart2_new O3 P5 (Nat.le_refl _)
        have O3 := O3.ext e48
        have O5 := P5.mono hB.size
        have hB := ethen hB e48
        obtain ⟨hl53, H⟩ := H
        refine appOwn slt26 slt26.under O3 O5.row hB.size rfl (by first | rfl | omega | (simp; done) | (simp; omega)) hl53 (fun A49 c50 w51 P3 e52 => ?_)
        have N5_3_ := Apart2.app (N3_5).symm e52 O5
        have O5 := O5.app e52 (N3_5).symm
        have N5_3 := N5_3_
        have hB := eapp hB e52 O3
        have O3 := P3
        obtain ⟨m54, hm55, hJ56⟩ := H
        exact ⟨m54, hm55, (xs29 ++ ([r38] : List Int)), (IntKind.wrap .i64 (i32 + 1)), A49, c50, rfl, hJ56, hB, O3⟩
    · have H := (bcase_iff.1 H).2 hc58
      obtain rfl := hr.trans H.symm
      exact ⟨A30, c31, rfl, O3, hB⟩

def spec_SumAlone.vc (A0 : Option Addr) (n0 : Nat) (c0 : Nat) (x1 : Int) (w : World) (K : Value → World → Prop) : Prop :=
  Cll Try.prog 83 #[(.slice A0 n0 c0), (.int .i64 x1)] w fun v21 w22 => (∃ u23 : Value, (∃ (A24 : Option Addr) (n25 : Nat) (c26 : Nat), u23 = (.slice A24 n25 c26) ∧ ∃ u27 : Value, (∃ (b28 : Bool), u27 = (.bool b28) ∧ v21 = (.tuple #[(.slice A24 n25 c26), (.bool b28)]) ∧ bcase (!b28) (K (.int .i64 (-1)) w22) (LoopT (σ := Int × Int × Unit) (fun z29 w30 next31 => bcase (decide (z29.2.1 < ((n25 : Nat) : Int))) (((0 : Int) ≤ z29.2.1 ∧ z29.2.1 < ((n25 : Nat) : Int) ∧ ∃ a32 : Addr, A24 = some a32 ∧ ∃ (n33 : Int), w30.cell? ((a32.add ((z29.2.1.toNat) * 1)).add 0) = some (.int .i64 n33) ∧ next31 ((IntKind.wrap .i64 (z29.1 + n33)), (IntKind.wrap .i64 (z29.2.1 + 1)), ()) w30)) (K (.int .i64 z29.1) w30)) (0, 0, ()) w22))))

def spec_SumAlone.ann : Ann := (.seq .l (.seq .l (.seq (.seq .l (.two (.seq .l .l) .l)) (.seq .l (.seq (.seq .l (.one (.loop [(7, .int .i64), (8, .int .i64)] (.seq (.seq .l (.two .l .l)) (.seq (.one .l) .l))))) (.seq .l .l))))))

theorem spec_SumAlone.vc_eq (A0 : Option Addr) (n0 : Nat) (c0 : Nat) (x1 : Int) (w : World) (K : Value → World → Prop) : vcF Try.prog Try.f39 spec_SumAlone.ann [(.slice A0 n0 c0), (.int .i64 x1)] K w = spec_SumAlone.vc A0 n0 c0 x1 w K := by kernel_rfl

theorem spec_SumAlone.start {A0 : Option Addr} {n0 : Nat} {c0 : Nat} {x1 : Int} {w : World} {K : Value → World → Prop} (h : spec_SumAlone.vc A0 n0 c0 x1 w K) : Cll Try.prog 39 #[(.slice A0 n0 c0), (.int .i64 x1)] w K :=
  vcF_sound mixed (fn := Try.f39) (by kernel_rfl) (by kernel_rfl) (an := spec_SumAlone.ann) (args := [(.slice A0 n0 c0), (.int .i64 x1)]) (by rw [spec_SumAlone.vc_eq]; exact h)

theorem spec_SumAlone.con {xs0 : List D.Ins} {A0 : Option Addr} {c0 : Nat} {x1 : Int} {r : Int} {w : World} (hp : M.spec_SumAlone_pre xs0 x1) (hr : r = M.spec_SumAlone xs0 x1) (R0 : Row el68 w A0 xs0) (hc0 : xs0.length ≤ c0) :
    Cll Try.prog 39 #[(.slice A0 xs0.length c0), (.int .i64 x1)] w (fun v_ w_ => v_ = (.int .i64 r) ∧ Ext w w_) := by
  have H := wp.spec_SumAlone.math xs0 x1 hp
  have hB := Ext.refl w
  refine spec_SumAlone.start ?_
  unfold spec_SumAlone.vc
  unfold wp.spec_SumAlone at H
  obtain ⟨hp23, H⟩ := H
  obtain ⟨r21, hr22⟩ : ∃ r_, r_ = M.spec_l15Alone xs0 x1 := ⟨_, rfl⟩
  have H := H r21 hr22
  refine (spec_l15Alone.con hp23 hr22 (R0.ext hB) hc0).mono ?_
  rintro _ w24 ⟨A26, c27, rfl, P2, e25⟩
  have O2 := P2.mono hB.size
  have hB := ethen hB e25
  refine ⟨(.slice A26 r21.1.length c27), ?_⟩
  refine ⟨A26, r21.1.length, c27, rfl, ?_⟩
  refine ⟨(.bool r21.2), ?_⟩
  refine ⟨r21.2, rfl, ?_⟩
  refine ⟨rfl, ?_⟩
  refine bcase_mk (fun hc48 => ?_) (fun hc48 => ?_)
  · have H := (bcase_iff.1 H).1 hc48
    obtain rfl := hr.trans H.symm
    exact ⟨rfl, hB⟩
  · have H := (bcase_iff.1 H).2 hc48
    obtain ⟨J31, ⟨m46, hJ45⟩, hS32⟩ := H
    refine ⟨fun m_ z_ w_ => ∃ (i28 : Int) (i29 : Int), z_ = (i28, i29, ()) ∧ J31 m_ (i28, i29, ()) ∧ Ext w w_ ∧ Own el3 w_ w.heap.size A26 c27 r21.1, ⟨m46, 0, 0, rfl, hJ45, hB, O2⟩, ?_⟩
    rintro m30 _ w34 ⟨i28, i29, rfl, hJ47, hB, O2⟩
    have H := hS32 m30 _ hJ47
    clear hS32 hJ47
    dsimp only at H ⊢
    refine bcase_mk (fun hc43 => ?_) (fun hc43 => ?_)
    · have H := (bcase_iff.1 H).1 hc43
      obtain ⟨⟨h0_38, h1_39⟩, H⟩ := H
      obtain ⟨a36, ha37, hat35⟩ := Row.at O2.row h0_38 h1_39
      refine ⟨h0_38, h1_39, a36, ha37, ?_⟩
      refine ⟨_, (hat35 0 _ rfl), ?_⟩
      obtain ⟨m40, hm41, hJ42⟩ := H
      exact ⟨m40, hm41, (IntKind.wrap .i64 (i28 + (rd r21.1 i29))), (IntKind.wrap .i64 (i29 + 1)), rfl, hJ42, hB, O2⟩
    · have H := (bcase_iff.1 H).2 hc43
      obtain rfl := hr.trans H.symm
      exact ⟨rfl, hB⟩

def impl_isWarpNumber.vc (x0 : Int) (w : World) (K : Value → World → Prop) : Prop :=
  Cll Try.prog 81 #[(.int .i64 x0), (.int .i64 0), (.int .i64 2)] w fun v21 w22 => (∃ (b23 : Bool), v21 = (.bool b23) ∧ K (.bool b23) w22)

def impl_isWarpNumber.ann : Ann := (.seq .l (.seq .l .l))

theorem impl_isWarpNumber.vc_eq (x0 : Int) (w : World) (K : Value → World → Prop) : vcF Try.prog Try.f86 impl_isWarpNumber.ann [(.int .i64 x0)] K w = impl_isWarpNumber.vc x0 w K := by kernel_rfl

theorem impl_isWarpNumber.start {x0 : Int} {w : World} {K : Value → World → Prop} (h : impl_isWarpNumber.vc x0 w K) : Cll Try.prog 86 #[(.int .i64 x0)] w K :=
  vcF_sound mixed (fn := Try.f86) (by kernel_rfl) (by kernel_rfl) (an := impl_isWarpNumber.ann) (args := [(.int .i64 x0)]) (by rw [impl_isWarpNumber.vc_eq]; exact h)

theorem impl_isWarpNumber.con {x0 : Int} {r : Bool} {w : World} (hr : r = M.impl_isWarpNumber x0)  :
    Cll Try.prog 86 #[(.int .i64 x0)] w (fun v_ w_ => v_ = (.bool r) ∧ Ext w w_) := by
  have H := wp.impl_isWarpNumber.math x0
  have hB := Ext.refl w
  refine impl_isWarpNumber.start ?_
  unfold impl_isWarpNumber.vc
  unfold wp.impl_isWarpNumber at H
  obtain ⟨r21, hr22⟩ : ∃ r_, r_ = M.impl_within x0 0 2 := ⟨_, rfl⟩
  have H := H r21 hr22
  refine (impl_within.con hr22 ).mono ?_
  rintro _ w24 ⟨rfl, e25⟩
  have hB := ethen hB e25
  refine ⟨r21, rfl, ?_⟩
  obtain rfl := hr.trans H.symm
  exact ⟨rfl, hB⟩

def slices_Index_int_int.vc (A0 : Option Addr) (n0 : Nat) (c0 : Nat) (x1 : Int) (w : World) (K : Value → World → Prop) : Prop :=
  LoopT (σ := Int × Unit) (fun z21 w22 next23 => bcase (decide (z21.1 < ((n0 : Nat) : Int))) (((0 : Int) ≤ z21.1 ∧ z21.1 < ((n0 : Nat) : Int) ∧ ∃ a24 : Addr, A0 = some a24 ∧ ∃ (n25 : Int), w22.cell? ((a24.add ((z21.1.toNat) * 1)).add 0) = some (.int .i64 n25) ∧ bcase (x1 == n25) (K (.int .i64 z21.1) w22) (next23 ((IntKind.wrap .i64 (z21.1 + 1)), ()) w22))) (K (.int .i64 (-1)) w22)) (0, ()) w

def slices_Index_int_int.ann : Ann := (.seq .l (.seq (.seq .l (.one (.loop [(8, .int .i64)] (.seq .l (.seq (.two .l .l) (.seq (.one (.seq .l (.seq .l (.two (.seq .l .l) .l)))) .l)))))) (.seq .l .l)))

theorem slices_Index_int_int.vc_eq (A0 : Option Addr) (n0 : Nat) (c0 : Nat) (x1 : Int) (w : World) (K : Value → World → Prop) : vcF Try.prog Try.f143 slices_Index_int_int.ann [(.slice A0 n0 c0), (.int .i64 x1)] K w = slices_Index_int_int.vc A0 n0 c0 x1 w K := by kernel_rfl

theorem slices_Index_int_int.start {A0 : Option Addr} {n0 : Nat} {c0 : Nat} {x1 : Int} {w : World} {K : Value → World → Prop} (h : slices_Index_int_int.vc A0 n0 c0 x1 w K) : Cll Try.prog 143 #[(.slice A0 n0 c0), (.int .i64 x1)] w K :=
  vcF_sound mixed (fn := Try.f143) (by kernel_rfl) (by kernel_rfl) (an := slices_Index_int_int.ann) (args := [(.slice A0 n0 c0), (.int .i64 x1)]) (by rw [slices_Index_int_int.vc_eq]; exact h)

theorem slices_Index_int_int.con {xs0 : List Int} {A0 : Option Addr} {c0 : Nat} {x1 : Int} {r : Int} {w : World} (hp : M.slices_Index_int_int_pre xs0 x1) (hr : r = M.slices_Index_int_int xs0 x1) (R0 : Row el3 w A0 xs0) (hc0 : xs0.length ≤ c0) :
    Cll Try.prog 143 #[(.slice A0 xs0.length c0), (.int .i64 x1)] w (fun v_ w_ => v_ = (.int .i64 r) ∧ Ext w w_) := by
  have H := wp.slices_Index_int_int.math xs0 x1 hp
  have hB := Ext.refl w
  refine slices_Index_int_int.start ?_
  unfold slices_Index_int_int.vc
  unfold wp.slices_Index_int_int at H
  obtain ⟨J23, ⟨m39, hJ38⟩, hS24⟩ := H
  refine ⟨fun m_ z_ w_ => ∃ (i21 : Int), z_ = (i21, ()) ∧ J23 m_ (i21, ()) ∧ Ext w w_, ⟨m39, 0, rfl, hJ38, hB⟩, ?_⟩
  rintro m22 _ w26 ⟨i21, rfl, hJ40, hB⟩
  have H := hS24 m22 _ hJ40
  clear hS24 hJ40
  dsimp only at H ⊢
  refine bcase_mk (fun hc36 => ?_) (fun hc36 => ?_)
  · have H := (bcase_iff.1 H).1 hc36
    obtain ⟨⟨h0_30, h1_31⟩, H⟩ := H
    obtain ⟨a28, ha29, hat27⟩ := Row.at (R0.ext hB) h0_30 h1_31
    refine ⟨h0_30, h1_31, a28, ha29, ?_⟩
    refine ⟨_, (hat27 0 _ rfl), ?_⟩
    refine bcase_mk (fun hc35 => ?_) (fun hc35 => ?_)
    · have H := (bcase_iff.1 H).1 hc35
      obtain rfl := hr.trans H.symm
      exact ⟨rfl, hB⟩
    · have H := (bcase_iff.1 H).2 hc35
      obtain ⟨m32, hm33, hJ34⟩ := H
      exact ⟨m32, hm33, (IntKind.wrap .i64 (i21 + 1)), rfl, hJ34, hB⟩
  · have H := (bcase_iff.1 H).2 hc36
    obtain rfl := hr.trans H.symm
    exact ⟨rfl, hB⟩

def slices_Contains_int_int.vc (A0 : Option Addr) (n0 : Nat) (c0 : Nat) (x1 : Int) (w : World) (K : Value → World → Prop) : Prop :=
  Cll Try.prog 143 #[(.slice A0 n0 c0), (.int .i64 x1)] w fun v21 w22 => (∃ (n23 : Int), v21 = (.int .i64 n23) ∧ K (.bool (decide (n23 ≥ 0))) w22)

def slices_Contains_int_int.ann : Ann := (.seq .l (.seq .l .l))

theorem slices_Contains_int_int.vc_eq (A0 : Option Addr) (n0 : Nat) (c0 : Nat) (x1 : Int) (w : World) (K : Value → World → Prop) : vcF Try.prog Try.f118 slices_Contains_int_int.ann [(.slice A0 n0 c0), (.int .i64 x1)] K w = slices_Contains_int_int.vc A0 n0 c0 x1 w K := by kernel_rfl

theorem slices_Contains_int_int.start {A0 : Option Addr} {n0 : Nat} {c0 : Nat} {x1 : Int} {w : World} {K : Value → World → Prop} (h : slices_Contains_int_int.vc A0 n0 c0 x1 w K) : Cll Try.prog 118 #[(.slice A0 n0 c0), (.int .i64 x1)] w K :=
  vcF_sound mixed (fn := Try.f118) (by kernel_rfl) (by kernel_rfl) (an := slices_Contains_int_int.ann) (args := [(.slice A0 n0 c0), (.int .i64 x1)]) (by rw [slices_Contains_int_int.vc_eq]; exact h)

theorem slices_Contains_int_int.con {xs0 : List Int} {A0 : Option Addr} {c0 : Nat} {x1 : Int} {r : Bool} {w : World} (hp : M.slices_Contains_int_int_pre xs0 x1) (hr : r = M.slices_Contains_int_int xs0 x1) (R0 : Row el3 w A0 xs0) (hc0 : xs0.length ≤ c0) :
    Cll Try.prog 118 #[(.slice A0 xs0.length c0), (.int .i64 x1)] w (fun v_ w_ => v_ = (.bool r) ∧ Ext w w_) := by
  have H := wp.slices_Contains_int_int.math xs0 x1 hp
  have hB := Ext.refl w
  refine slices_Contains_int_int.start ?_
  unfold slices_Contains_int_int.vc
  unfold wp.slices_Contains_int_int at H
  obtain ⟨hp23, H⟩ := H
  obtain ⟨r21, hr22⟩ : ∃ r_, r_ = M.slices_Index_int_int xs0 x1 := ⟨_, rfl⟩
  have H := H r21 hr22
  refine (slices_Index_int_int.con hp23 hr22 (R0.ext hB) hc0).mono ?_
  rintro _ w24 ⟨rfl, e25⟩
  have hB := ethen hB e25
  refine ⟨r21, rfl, ?_⟩
  obtain rfl := hr.trans H.symm
  exact ⟨rfl, hB⟩

def impl_stepsOf.vc (A0 : Option Addr) (n0 : Nat) (c0 : Nat) (x1 : Int) (w : World) (K : Value → World → Prop) : Prop :=
  Cll Try.prog 86 #[(.int .i64 x1)] w fun v21 w22 => (∃ (b23 : Bool), v21 = (.bool b23) ∧ bcase (!b23) (K (.tuple #[(.slice none 0 0), (.bool false)]) w22) (Run Try.prog (Instr.buildSlice 26 0 #[]) w22 fun v24 w25 => ∃ (A26 : Option Addr) (n27 c28 : Nat), v24 = .slice A26 n27 c28 ∧ LoopT (σ := (Option Addr × Nat × Nat) × Int × Unit) (fun z29 w30 next31 => bcase (decide (z29.2.1 < 8)) (Cll Try.prog 117 #[(.slice A0 n0 c0), (.int .i64 (IntKind.wrap .i64 ((IntKind.wrap .i64 (x1 * 8)) + z29.2.1)))] w30 fun v32 w33 => (∃ (n34 : Int), v32 = (.int .i64 n34) ∧ Run Try.prog (Instr.buildSlice 26 1 #[(0, (.int .i64 n34))]) w33 fun v35 w36 => ∃ (A37 : Option Addr) (n38 c39 : Nat), v35 = .slice A37 n38 c39 ∧ Run Try.prog (Builtin.append_ #[26, 26] 26 #[(.slice z29.1.1 z29.1.2.1 z29.1.2.2), (.slice A37 n38 c39)]) w36 fun v40 w41 => ∃ (A42 : Option Addr) (n43 c44 : Nat), v40 = .slice A42 n43 c44 ∧ next31 ((A42, n43, c44), (IntKind.wrap .i64 (z29.2.1 + 1)), ()) w41)) (Cll Try.prog 118 #[(.slice z29.1.1 z29.1.2.1 z29.1.2.2), (.int .i64 (-1))] w30 fun v45 w46 => (∃ (b47 : Bool), v45 = (.bool b47) ∧ K (.tuple #[(.slice z29.1.1 z29.1.2.1 z29.1.2.2), (.bool (!b47))]) w46))) ((A26, n27, c28), 0, ()) w25))

def impl_stepsOf.ann : Ann := (.seq .l (.seq (.seq .l (.two (.seq .l .l) .l)) (.seq .l (.seq (.seq .l (.one (.loop [(6, .sl), (12, .int .i64)] (.seq .l (.seq (.two .l .l) (.seq (.one (.seq .l .l)) .l)))))) (.seq .l .l)))))

theorem impl_stepsOf.vc_eq (A0 : Option Addr) (n0 : Nat) (c0 : Nat) (x1 : Int) (w : World) (K : Value → World → Prop) : vcF Try.prog Try.f84 impl_stepsOf.ann [(.slice A0 n0 c0), (.int .i64 x1)] K w = impl_stepsOf.vc A0 n0 c0 x1 w K := by kernel_rfl

theorem impl_stepsOf.start {A0 : Option Addr} {n0 : Nat} {c0 : Nat} {x1 : Int} {w : World} {K : Value → World → Prop} (h : impl_stepsOf.vc A0 n0 c0 x1 w K) : Cll Try.prog 84 #[(.slice A0 n0 c0), (.int .i64 x1)] w K :=
  vcF_sound mixed (fn := Try.f84) (by kernel_rfl) (by kernel_rfl) (an := impl_stepsOf.ann) (args := [(.slice A0 n0 c0), (.int .i64 x1)]) (by rw [impl_stepsOf.vc_eq]; exact h)

theorem impl_stepsOf.con {xs0 : List D.Ins} {A0 : Option Addr} {c0 : Nat} {x1 : Int} {r : (List Int) × Bool} {w : World} (hp : M.impl_stepsOf_pre xs0 x1) (hr : r = M.impl_stepsOf xs0 x1) (R0 : Row el68 w A0 xs0) (hc0 : xs0.length ≤ c0) :
    Cll Try.prog 84 #[(.slice A0 xs0.length c0), (.int .i64 x1)] w (fun v_ w_ => ∃ (A0_ : Option Addr) (c0_ : Nat), v_ = (.tuple #[(.slice A0_ r.1.length c0_), (.bool r.2)]) ∧ Own el3 w_ w.heap.size A0_ c0_ r.1 ∧ Ext w w_) := by
  have H := wp.impl_stepsOf.math xs0 x1 hp
  have hB := Ext.refl w
  refine impl_stepsOf.start ?_
  unfold impl_stepsOf.vc
  unfold wp.impl_stepsOf at H
  obtain ⟨r21, hr22⟩ : ∃ r_, r_ = M.impl_isWarpNumber x1 := ⟨_, rfl⟩
  have H := H r21 hr22
  refine (impl_isWarpNumber.con hr22 ).mono ?_
  rintro _ w24 ⟨rfl, e25⟩
  have hB := ethen hB e25
  refine ⟨r21, rfl, ?_⟩
  refine bcase_mk (fun hc64 => ?_) (fun hc64 => ?_)
  · have H := (bcase_iff.1 H).1 hc64
    obtain rfl := hr.trans H.symm
    exact ⟨none, 0, rfl, Own.nil, hB⟩
  · have H := (bcase_iff.1 H).2 hc64
    refine buildOwn el3 ([] : List Int) (fun _ => by kernel_rfl) rfl (fun A26 w27 P2 e28 => ?_)
    have O2 := P2.mono hB.size
    have hB := ethen hB e28
    obtain ⟨J34, ⟨m62, hJ61⟩, hS35⟩ := H
    refine ⟨fun m_ z_ w_ => ∃ (xs29 : List Int) (i32 : Int) (A30 : Option Addr) (c31 : Nat), z_ = ((A30, xs29.length, c31), i32, ()) ∧ J34 m_ (xs29, i32, ()) ∧ Ext w w_ ∧ Own el3 w_ w.heap.size A30 c31 xs29, ⟨m62, ([] : List Int), 0, A26, 0, rfl, hJ61, hB, O2⟩, ?_⟩
    rintro m33 _ w37 ⟨xs29, i32, A30, c31, rfl, hJ63, hB, O3⟩
    have H := hS35 m33 _ hJ63
    clear hS35 hJ63
    dsimp only at H ⊢
    refine bcase_mk (fun hc59 => ?_) (fun hc59 => ?_)
    · have H := (bcase_iff.1 H).1 hc59
      obtain ⟨hp40, H⟩ := H
      obtain ⟨r38, hr39⟩ : ∃ r_, r_ = M.impl_StepsAlone xs0 (IntKind.wrap .i64 ((IntKind.wrap .i64 (x1 * 8)) + i32)) := ⟨_, rfl⟩
      have H := H r38 hr39
      refine (impl_StepsAlone.con hp40 hr39 (R0.ext hB) hc0).mono ?_
      rintro _ w41 ⟨rfl, e42⟩
      have O3 := O3.ext e42
      have hB := ethen hB e42
      refine ⟨r38, rfl, ?_⟩
      refine buildOwn el3 ([r38] : List Int) (fun _ => by kernel_rfl) rfl (fun A43 w44 P4 e45 => ?_)
      have N3_4 := Own.apart2_new O3 P4 (Nat.le_refl _)
      have O3 := O3.ext e45
      have O4 := P4.mono hB.size
      have hB := ethen hB e45
      obtain ⟨hl50, H⟩ := H
      refine appOwn slt26 slt26.under O3 O4.row hB.size rfl (by first | rfl | omega | (simp; done) | (simp; omega)) hl50 (fun A46 c47 w48 P3 e49 => ?_)
      have N4_3_ := Apart2.app (N3_4).symm e49 O4
      have O4 := O4.app e49 (N3_4).symm
      have N4_3 := N4_3_
      have hB := eapp hB e49 O3
      have O3 := P3
      obtain ⟨m51, hm52, hJ53⟩ := H
      exact ⟨m51, hm52, (xs29 ++ ([r38] : List Int)), (IntKind.wrap .i64 (i32 + 1)), A46, c47, rfl, hJ53, hB, O3⟩
    · have H := (bcase_iff.1 H).2 hc59
      obtain ⟨hp56, H⟩ := H
      obtain ⟨r54, hr55⟩ : ∃ r_, r_ = M.slices_Contains_int_int xs29 (-1) := ⟨_, rfl⟩
      have H := H r54 hr55
      refine (slices_Contains_int_int.con hp56 hr55 O3.row O3.le).mono ?_
      rintro _ w57 ⟨rfl, e58⟩
      have O3 := O3.ext e58
      have hB := ethen hB e58
      refine ⟨r54, rfl, ?_⟩
      obtain rfl := hr.trans H.symm
      exact ⟨A30, c31, rfl, O3, hB⟩

def impl_SumAlone.vc (A0 : Option Addr) (n0 : Nat) (c0 : Nat) (x1 : Int) (w : World) (K : Value → World → Prop) : Prop :=
  Cll Try.prog 84 #[(.slice A0 n0 c0), (.int .i64 x1)] w fun v21 w22 => (∃ u23 : Value, (∃ (A24 : Option Addr) (n25 : Nat) (c26 : Nat), u23 = (.slice A24 n25 c26) ∧ ∃ u27 : Value, (∃ (b28 : Bool), u27 = (.bool b28) ∧ v21 = (.tuple #[(.slice A24 n25 c26), (.bool b28)]) ∧ bcase (!b28) (K (.int .i64 (-1)) w22) (LoopT (σ := Int × Int × Unit) (fun z29 w30 next31 => bcase (decide (z29.2.1 < ((n25 : Nat) : Int))) (((0 : Int) ≤ z29.2.1 ∧ z29.2.1 < ((n25 : Nat) : Int) ∧ ∃ a32 : Addr, A24 = some a32 ∧ ∃ (n33 : Int), w30.cell? ((a32.add ((z29.2.1.toNat) * 1)).add 0) = some (.int .i64 n33) ∧ next31 ((IntKind.wrap .i64 (z29.1 + n33)), (IntKind.wrap .i64 (z29.2.1 + 1)), ()) w30)) (K (.int .i64 z29.1) w30)) (0, 0, ()) w22))))

def impl_SumAlone.ann : Ann := (.seq .l (.seq .l (.seq (.seq .l (.two (.seq .l .l) .l)) (.seq .l (.seq (.seq .l (.one (.loop [(7, .int .i64), (20, .int .i64)] (.seq .l (.seq (.two .l .l) (.seq (.one (.seq .l .l)) .l)))))) (.seq .l .l))))))

theorem impl_SumAlone.vc_eq (A0 : Option Addr) (n0 : Nat) (c0 : Nat) (x1 : Int) (w : World) (K : Value → World → Prop) : vcF Try.prog Try.f40 impl_SumAlone.ann [(.slice A0 n0 c0), (.int .i64 x1)] K w = impl_SumAlone.vc A0 n0 c0 x1 w K := by kernel_rfl

theorem impl_SumAlone.start {A0 : Option Addr} {n0 : Nat} {c0 : Nat} {x1 : Int} {w : World} {K : Value → World → Prop} (h : impl_SumAlone.vc A0 n0 c0 x1 w K) : Cll Try.prog 40 #[(.slice A0 n0 c0), (.int .i64 x1)] w K :=
  vcF_sound mixed (fn := Try.f40) (by kernel_rfl) (by kernel_rfl) (an := impl_SumAlone.ann) (args := [(.slice A0 n0 c0), (.int .i64 x1)]) (by rw [impl_SumAlone.vc_eq]; exact h)

theorem impl_SumAlone.con {xs0 : List D.Ins} {A0 : Option Addr} {c0 : Nat} {x1 : Int} {r : Int} {w : World} (hp : M.impl_SumAlone_pre xs0 x1) (hr : r = M.impl_SumAlone xs0 x1) (R0 : Row el68 w A0 xs0) (hc0 : xs0.length ≤ c0) :
    Cll Try.prog 40 #[(.slice A0 xs0.length c0), (.int .i64 x1)] w (fun v_ w_ => v_ = (.int .i64 r) ∧ Ext w w_) := by
  have H := wp.impl_SumAlone.math xs0 x1 hp
  have hB := Ext.refl w
  refine impl_SumAlone.start ?_
  unfold impl_SumAlone.vc
  unfold wp.impl_SumAlone at H
  obtain ⟨hp23, H⟩ := H
  obtain ⟨r21, hr22⟩ : ∃ r_, r_ = M.impl_stepsOf xs0 x1 := ⟨_, rfl⟩
  have H := H r21 hr22
  refine (impl_stepsOf.con hp23 hr22 (R0.ext hB) hc0).mono ?_
  rintro _ w24 ⟨A26, c27, rfl, P2, e25⟩
  have O2 := P2.mono hB.size
  have hB := ethen hB e25
  refine ⟨(.slice A26 r21.1.length c27), ?_⟩
  refine ⟨A26, r21.1.length, c27, rfl, ?_⟩
  refine ⟨(.bool r21.2), ?_⟩
  refine ⟨r21.2, rfl, ?_⟩
  refine ⟨rfl, ?_⟩
  refine bcase_mk (fun hc48 => ?_) (fun hc48 => ?_)
  · have H := (bcase_iff.1 H).1 hc48
    obtain rfl := hr.trans H.symm
    exact ⟨rfl, hB⟩
  · have H := (bcase_iff.1 H).2 hc48
    obtain ⟨J31, ⟨m46, hJ45⟩, hS32⟩ := H
    refine ⟨fun m_ z_ w_ => ∃ (i28 : Int) (i29 : Int), z_ = (i28, i29, ()) ∧ J31 m_ (i28, i29, ()) ∧ Ext w w_ ∧ Own el3 w_ w.heap.size A26 c27 r21.1, ⟨m46, 0, 0, rfl, hJ45, hB, O2⟩, ?_⟩
    rintro m30 _ w34 ⟨i28, i29, rfl, hJ47, hB, O2⟩
    have H := hS32 m30 _ hJ47
    clear hS32 hJ47
    dsimp only at H ⊢
    refine bcase_mk (fun hc43 => ?_) (fun hc43 => ?_)
    · have H := (bcase_iff.1 H).1 hc43
      obtain ⟨⟨h0_38, h1_39⟩, H⟩ := H
      obtain ⟨a36, ha37, hat35⟩ := Row.at O2.row h0_38 h1_39
      refine ⟨h0_38, h1_39, a36, ha37, ?_⟩
      refine ⟨_, (hat35 0 _ rfl), ?_⟩
      obtain ⟨m40, hm41, hJ42⟩ := H
      exact ⟨m40, hm41, (IntKind.wrap .i64 (i28 + (rd r21.1 i29))), (IntKind.wrap .i64 (i29 + 1)), rfl, hJ42, hB, O2⟩
    · have H := (bcase_iff.1 H).2 hc43
      obtain rfl := hr.trans H.symm
      exact ⟨rfl, hB⟩

def laws_FnExactSumAlone.vc (A0 : Option Addr) (n0 : Nat) (c0 : Nat) (x1 : Int) (w : World) (K : Value → World → Prop) : Prop :=
  Cll Try.prog 13 #[(.slice A0 n0 c0), (.int .i64 1048576)] w fun v21 w22 => (∃ (n23 : Int), v21 = (.int .i64 n23) ∧ bcase (decide (n23 < 0)) (K (.bool true) w22) (Cll Try.prog 15 #[(.slice A0 n0 c0)] w22 fun v24 w25 => (∃ (A26 : Option Addr) (n27 : Nat) (c28 : Nat), v24 = (.slice A26 n27 c28) ∧ Cll Try.prog 39 #[(.slice A26 n27 c28), (.int .i64 x1)] w25 fun v29 w30 => (∃ (n31 : Int), v29 = (.int .i64 n31) ∧ Cll Try.prog 15 #[(.slice A0 n0 c0)] w30 fun v32 w33 => (∃ (A34 : Option Addr) (n35 : Nat) (c36 : Nat), v32 = (.slice A34 n35 c36) ∧ Cll Try.prog 40 #[(.slice A34 n35 c36), (.int .i64 x1)] w33 fun v37 w38 => (∃ (n39 : Int), v37 = (.int .i64 n39) ∧ bcase (n39 != n31) (K (.bool false) w38) (Cll Try.prog 15 #[(.slice A0 n0 c0)] w38 fun v40 w41 => (∃ (A42 : Option Addr) (n43 : Nat) (c44 : Nat), v40 = (.slice A42 n43 c44) ∧ Cll Try.prog 18 #[(.slice A34 n35 c36), (.slice A42 n43 c44)] w41 fun v45 w46 => (∃ (b47 : Bool), v45 = (.bool b47) ∧ bcase (!b47) (K (.bool false) w46) (K (.bool true) w46))))))))))

def laws_FnExactSumAlone.ann : Ann := (.seq .l (.seq .l (.seq .l (.seq (.seq .l (.two (.seq .l .l) .l)) (.seq .l (.seq .l (.seq .l (.seq (.seq .l (.two (.seq .l .l) .l)) (.seq (.seq .l (.two (.seq .l .l) .l)) (.seq .l .l))))))))))

theorem laws_FnExactSumAlone.vc_eq (A0 : Option Addr) (n0 : Nat) (c0 : Nat) (x1 : Int) (w : World) (K : Value → World → Prop) : vcF Try.prog Try.f9 laws_FnExactSumAlone.ann [(.slice A0 n0 c0), (.int .i64 x1)] K w = laws_FnExactSumAlone.vc A0 n0 c0 x1 w K := by kernel_rfl

theorem laws_FnExactSumAlone.start {A0 : Option Addr} {n0 : Nat} {c0 : Nat} {x1 : Int} {w : World} {K : Value → World → Prop} (h : laws_FnExactSumAlone.vc A0 n0 c0 x1 w K) : Cll Try.prog 9 #[(.slice A0 n0 c0), (.int .i64 x1)] w K :=
  vcF_sound mixed (fn := Try.f9) (by kernel_rfl) (by kernel_rfl) (an := laws_FnExactSumAlone.ann) (args := [(.slice A0 n0 c0), (.int .i64 x1)]) (by rw [laws_FnExactSumAlone.vc_eq]; exact h)

theorem laws_FnExactSumAlone.con {xs0 : List D.Ins} {A0 : Option Addr} {c0 : Nat} {x1 : Int} {r : Bool} {w : World} (hp : M.laws_FnExactSumAlone_pre xs0 x1) (hr : r = M.laws_FnExactSumAlone xs0 x1) (R0 : Row el70 w A0 xs0) (hc0 : xs0.length ≤ c0) :
    Cll Try.prog 9 #[(.slice A0 xs0.length c0), (.int .i64 x1)] w (fun v_ w_ => v_ = (.bool r) ∧ Ext w w_) := by
  have H := wp.laws_FnExactSumAlone.math xs0 x1 hp
  have hB := Ext.refl w
  refine laws_FnExactSumAlone.start ?_
  unfold laws_FnExactSumAlone.vc
  unfold wp.laws_FnExactSumAlone at H
  obtain ⟨hp23, H⟩ := H
  obtain ⟨r21, hr22⟩ : ∃ r_, r_ = M.laws_szInsS xs0 1048576 := ⟨_, rfl⟩
  have H := H r21 hr22
  refine (laws_szInsS.con hp23 hr22 (R0.ext hB) hc0).mono ?_
  rintro _ w24 ⟨rfl, e25⟩
  have hB := ethen hB e25
  refine ⟨r21, rfl, ?_⟩
  refine bcase_mk (fun hc64 => ?_) (fun hc64 => ?_)
  · have H := (bcase_iff.1 H).1 hc64
    obtain rfl := hr.trans H.symm
    exact ⟨rfl, hB⟩
  · have H := (bcase_iff.1 H).2 hc64
    obtain ⟨hp28, H⟩ := H
    obtain ⟨r26, hr27⟩ : ∃ r_, r_ = M.laws_toInsS xs0 := ⟨_, rfl⟩
    have H := H r26 hr27
    refine (laws_toInsS.con hp28 hr27 (R0.ext hB) hc0).mono ?_
    rintro _ w29 ⟨A31, c32, rfl, P2, e30⟩
    have O2 := P2.mono hB.size
    have hB := ethen hB e30
    refine ⟨A31, r26.length, c32, rfl, ?_⟩
    obtain ⟨hp35, H⟩ := H
    obtain ⟨r33, hr34⟩ : ∃ r_, r_ = M.spec_SumAlone r26 x1 := ⟨_, rfl⟩
    have H := H r33 hr34
    refine (spec_SumAlone.con hp35 hr34 O2.row O2.le).mono ?_
    rintro _ w36 ⟨rfl, e37⟩
    have O2 := O2.ext e37
    have hB := ethen hB e37
    refine ⟨r33, rfl, ?_⟩
    obtain ⟨hp40, H⟩ := H
    obtain ⟨r38, hr39⟩ : ∃ r_, r_ = M.laws_toInsS xs0 := ⟨_, rfl⟩
    have H := H r38 hr39
    refine (laws_toInsS.con hp40 hr39 (R0.ext hB) hc0).mono ?_
    rintro _ w41 ⟨A43, c44, rfl, P3, e42⟩
    have N2_3 := Own.apart2_new O2 P3 (Nat.le_refl _)
    have O2 := O2.ext e42
    have O3 := P3.mono hB.size
    have hB := ethen hB e42
    refine ⟨A43, r38.length, c44, rfl, ?_⟩
    obtain ⟨hp47, H⟩ := H
    obtain ⟨r45, hr46⟩ : ∃ r_, r_ = M.impl_SumAlone r38 x1 := ⟨_, rfl⟩
    have H := H r45 hr46
    refine (impl_SumAlone.con hp47 hr46 O3.row O3.le).mono ?_
    rintro _ w48 ⟨rfl, e49⟩
    have O2 := O2.ext e49
    have O3 := O3.ext e49
    have hB := ethen hB e49
    refine ⟨r45, rfl, ?_⟩
    refine bcase_mk (fun hc63 => ?_) (fun hc63 => ?_)
    · have H := (bcase_iff.1 H).1 hc63
      obtain rfl := hr.trans H.symm
      exact ⟨rfl, hB⟩
    · have H := (bcase_iff.1 H).2 hc63
      obtain ⟨hp52, H⟩ := H
      obtain ⟨r50, hr51⟩ : ∃ r_, r_ = M.laws_toInsS xs0 := ⟨_, rfl⟩
      have H := H r50 hr51
      refine (laws_toInsS.con hp52 hr51 (R0.ext hB) hc0).mono ?_
      rintro _ w53 ⟨A55, c56, rfl, P4, e54⟩
      have N2_4 := Own.apart2_new O2 P4 (Nat.le_refl _)
      have N3_4 := Own.apart2_new O3 P4 (Nat.le_refl _)
      have O2 := O2.ext e54
      have O3 := O3.ext e54
      have O4 := P4.mono hB.size
      have hB := ethen hB e54
      refine ⟨A55, r50.length, c56, rfl, ?_⟩
      obtain ⟨hp59, H⟩ := H
      obtain ⟨r57, hr58⟩ : ∃ r_, r_ = M.laws_eqInsS r38 r50 := ⟨_, rfl⟩
      have H := H r57 hr58
      refine (laws_eqInsS.con hp59 hr58 O3.row O3.le O4.row O4.le).mono ?_
      rintro _ w60 ⟨rfl, e61⟩
      have O2 := O2.ext e61
      have O3 := O3.ext e61
      have O4 := O4.ext e61
      have hB := ethen hB e61
      refine ⟨r57, rfl, ?_⟩
      refine bcase_mk (fun hc62 => ?_) (fun hc62 => ?_)
      · have H := (bcase_iff.1 H).1 hc62
        obtain rfl := hr.trans H.symm
        exact ⟨rfl, hB⟩
      · have H := (bcase_iff.1 H).2 hc62
        obtain rfl := hr.trans H.symm
        exact ⟨rfl, hB⟩

def spec_MostAlone.vc (A0 : Option Addr) (n0 : Nat) (c0 : Nat) (x1 : Int) (w : World) (K : Value → World → Prop) : Prop :=
  Cll Try.prog 83 #[(.slice A0 n0 c0), (.int .i64 x1)] w fun v21 w22 => (∃ u23 : Value, (∃ (A24 : Option Addr) (n25 : Nat) (c26 : Nat), u23 = (.slice A24 n25 c26) ∧ ∃ u27 : Value, (∃ (b28 : Bool), u27 = (.bool b28) ∧ v21 = (.tuple #[(.slice A24 n25 c26), (.bool b28)]) ∧ bcase (!b28) (K (.int .i64 (-1)) w22) (LoopT (σ := Int × Int × Unit) (fun z29 w30 next31 => bcase (decide (z29.2.1 < ((n25 : Nat) : Int))) (((0 : Int) ≤ z29.2.1 ∧ z29.2.1 < ((n25 : Nat) : Int) ∧ ∃ a32 : Addr, A24 = some a32 ∧ ∃ (n33 : Int), w30.cell? ((a32.add ((z29.2.1.toNat) * 1)).add 0) = some (.int .i64 n33) ∧ next31 ((if n33 > z29.1 then n33 else z29.1), (IntKind.wrap .i64 (z29.2.1 + 1)), ()) w30)) (K (.int .i64 z29.1) w30)) (0, 0, ()) w22))))

def spec_MostAlone.ann : Ann := (.seq .l (.seq .l (.seq (.seq .l (.two (.seq .l .l) .l)) (.seq .l (.seq (.seq .l (.one (.loop [(7, .int .i64), (8, .int .i64)] (.seq (.seq .l (.two .l .l)) (.seq (.one .l) .l))))) (.seq .l .l))))))

theorem spec_MostAlone.vc_eq (A0 : Option Addr) (n0 : Nat) (c0 : Nat) (x1 : Int) (w : World) (K : Value → World → Prop) : vcF Try.prog Try.f45 spec_MostAlone.ann [(.slice A0 n0 c0), (.int .i64 x1)] K w = spec_MostAlone.vc A0 n0 c0 x1 w K := by kernel_rfl

theorem spec_MostAlone.start {A0 : Option Addr} {n0 : Nat} {c0 : Nat} {x1 : Int} {w : World} {K : Value → World → Prop} (h : spec_MostAlone.vc A0 n0 c0 x1 w K) : Cll Try.prog 45 #[(.slice A0 n0 c0), (.int .i64 x1)] w K :=
  vcF_sound mixed (fn := Try.f45) (by kernel_rfl) (by kernel_rfl) (an := spec_MostAlone.ann) (args := [(.slice A0 n0 c0), (.int .i64 x1)]) (by rw [spec_MostAlone.vc_eq]; exact h)

theorem spec_MostAlone.con {xs0 : List D.Ins} {A0 : Option Addr} {c0 : Nat} {x1 : Int} {r : Int} {w : World} (hp : M.spec_MostAlone_pre xs0 x1) (hr : r = M.spec_MostAlone xs0 x1) (R0 : Row el68 w A0 xs0) (hc0 : xs0.length ≤ c0) :
    Cll Try.prog 45 #[(.slice A0 xs0.length c0), (.int .i64 x1)] w (fun v_ w_ => v_ = (.int .i64 r) ∧ Ext w w_) := by
  have H := wp.spec_MostAlone.math xs0 x1 hp
  have hB := Ext.refl w
  refine spec_MostAlone.start ?_
  unfold spec_MostAlone.vc
  unfold wp.spec_MostAlone at H
  obtain ⟨hp23, H⟩ := H
  obtain ⟨r21, hr22⟩ : ∃ r_, r_ = M.spec_l15Alone xs0 x1 := ⟨_, rfl⟩
  have H := H r21 hr22
  refine (spec_l15Alone.con hp23 hr22 (R0.ext hB) hc0).mono ?_
  rintro _ w24 ⟨A26, c27, rfl, P2, e25⟩
  have O2 := P2.mono hB.size
  have hB := ethen hB e25
  refine ⟨(.slice A26 r21.1.length c27), ?_⟩
  refine ⟨A26, r21.1.length, c27, rfl, ?_⟩
  refine ⟨(.bool r21.2), ?_⟩
  refine ⟨r21.2, rfl, ?_⟩
  refine ⟨rfl, ?_⟩
  refine bcase_mk (fun hc48 => ?_) (fun hc48 => ?_)
  · have H := (bcase_iff.1 H).1 hc48
    obtain rfl := hr.trans H.symm
    exact ⟨rfl, hB⟩
  · have H := (bcase_iff.1 H).2 hc48
    obtain ⟨J31, ⟨m46, hJ45⟩, hS32⟩ := H
    refine ⟨fun m_ z_ w_ => ∃ (i28 : Int) (i29 : Int), z_ = (i28, i29, ()) ∧ J31 m_ (i28, i29, ()) ∧ Ext w w_ ∧ Own el3 w_ w.heap.size A26 c27 r21.1, ⟨m46, 0, 0, rfl, hJ45, hB, O2⟩, ?_⟩
    rintro m30 _ w34 ⟨i28, i29, rfl, hJ47, hB, O2⟩
    have H := hS32 m30 _ hJ47
    clear hS32 hJ47
    dsimp only at H ⊢
    refine bcase_mk (fun hc43 => ?_) (fun hc43 => ?_)
    · have H := (bcase_iff.1 H).1 hc43
      obtain ⟨⟨h0_38, h1_39⟩, H⟩ := H
      obtain ⟨a36, ha37, hat35⟩ := Row.at O2.row h0_38 h1_39
      refine ⟨h0_38, h1_39, a36, ha37, ?_⟩
      refine ⟨_, (hat35 0 _ rfl), ?_⟩
      obtain ⟨m40, hm41, hJ42⟩ := H
      exact ⟨m40, hm41, (if (rd r21.1 i29) > i28 then (rd r21.1 i29) else i28), (IntKind.wrap .i64 (i29 + 1)), rfl, hJ42, hB, O2⟩
    · have H := (bcase_iff.1 H).2 hc43
      obtain rfl := hr.trans H.symm
      exact ⟨rfl, hB⟩

def slices_Max_int_int.vc (A0 : Option Addr) (n0 : Nat) (c0 : Nat) (w : World) (K : Value → World → Prop) : Prop :=
  bcase (decide (((n0 : Nat) : Int) < 1)) (False) (((0 : Int) ≤ 0 ∧ 0 < ((n0 : Nat) : Int) ∧ ∃ a21 : Addr, A0 = some a21 ∧ ∃ (n22 : Int), w.cell? ((a21.add (((0 : Int).toNat) * 1)).add 0) = some (.int .i64 n22) ∧ LoopT (σ := Int × Int × Unit) (fun z23 w24 next25 => bcase (decide (z23.2.1 < ((n0 : Nat) : Int))) (((0 : Int) ≤ z23.2.1 ∧ z23.2.1 < ((n0 : Nat) : Int) ∧ ∃ a26 : Addr, A0 = some a26 ∧ ∃ (n27 : Int), w24.cell? ((a26.add ((z23.2.1.toNat) * 1)).add 0) = some (.int .i64 n27) ∧ next25 ((if n27 > z23.1 then n27 else z23.1), (IntKind.wrap .i64 (z23.2.1 + 1)), ()) w24)) (K (.int .i64 z23.1) w24)) (n22, 1, ()) w))

def slices_Max_int_int.ann : Ann := (.seq .l (.seq (.seq .l (.two .l .l)) (.seq .l (.seq (.seq .l (.one (.loop [(3, .int .i64), (4, .int .i64)] (.seq (.seq .l (.two .l .l)) (.seq (.one .l) .l))))) (.seq .l .l)))))

theorem slices_Max_int_int.vc_eq (A0 : Option Addr) (n0 : Nat) (c0 : Nat) (w : World) (K : Value → World → Prop) : vcF Try.prog Try.f90 slices_Max_int_int.ann [(.slice A0 n0 c0)] K w = slices_Max_int_int.vc A0 n0 c0 w K := by kernel_rfl

theorem slices_Max_int_int.start {A0 : Option Addr} {n0 : Nat} {c0 : Nat} {w : World} {K : Value → World → Prop} (h : slices_Max_int_int.vc A0 n0 c0 w K) : Cll Try.prog 90 #[(.slice A0 n0 c0)] w K :=
  vcF_sound mixed (fn := Try.f90) (by kernel_rfl) (by kernel_rfl) (an := slices_Max_int_int.ann) (args := [(.slice A0 n0 c0)]) (by rw [slices_Max_int_int.vc_eq]; exact h)

theorem slices_Max_int_int.con {xs0 : List Int} {A0 : Option Addr} {c0 : Nat} {r : Int} {w : World} (hp : M.slices_Max_int_int_pre xs0) (hr : r = M.slices_Max_int_int xs0) (R0 : Row el3 w A0 xs0) (hc0 : xs0.length ≤ c0) :
    Cll Try.prog 90 #[(.slice A0 xs0.length c0)] w (fun v_ w_ => v_ = (.int .i64 r) ∧ Ext w w_) := by
  have H := wp.slices_Max_int_int.math xs0 hp
  have hB := Ext.refl w
  refine slices_Max_int_int.start ?_
  unfold slices_Max_int_int.vc
  unfold wp.slices_Max_int_int at H
  refine bcase_mk (fun hc46 => ?_) (fun hc46 => ?_)
  · have H := (bcase_iff.1 H).1 hc46
    exact H.elim
  · have H := (bcase_iff.1 H).2 hc46
    obtain ⟨⟨h0_24, h1_25⟩, H⟩ := H
    obtain ⟨a22, ha23, hat21⟩ := Row.at (R0.ext hB) h0_24 h1_25
    refine ⟨h0_24, h1_25, a22, ha23, ?_⟩
    refine ⟨_, (hat21 0 _ rfl), ?_⟩
    obtain ⟨J29, ⟨m44, hJ43⟩, hS30⟩ := H
    refine ⟨fun m_ z_ w_ => ∃ (i26 : Int) (i27 : Int), z_ = (i26, i27, ()) ∧ J29 m_ (i26, i27, ()) ∧ Ext w w_, ⟨m44, (rd xs0 0), 1, rfl, hJ43, hB⟩, ?_⟩
    rintro m28 _ w32 ⟨i26, i27, rfl, hJ45, hB⟩
    have H := hS30 m28 _ hJ45
    clear hS30 hJ45
    dsimp only at H ⊢
    refine bcase_mk (fun hc41 => ?_) (fun hc41 => ?_)
    · have H := (bcase_iff.1 H).1 hc41
      obtain ⟨⟨h0_36, h1_37⟩, H⟩ := H
      obtain ⟨a34, ha35, hat33⟩ := Row.at (R0.ext hB) h0_36 h1_37
      refine ⟨h0_36, h1_37, a34, ha35, ?_⟩
      refine ⟨_, (hat33 0 _ rfl), ?_⟩
      obtain ⟨m38, hm39, hJ40⟩ := H
      exact ⟨m38, hm39, (if (rd xs0 i27) > i26 then (rd xs0 i27) else i26), (IntKind.wrap .i64 (i27 + 1)), rfl, hJ40, hB⟩
    · have H := (bcase_iff.1 H).2 hc41
      obtain rfl := hr.trans H.symm
      exact ⟨rfl, hB⟩

def impl_MostAlone.vc (A0 : Option Addr) (n0 : Nat) (c0 : Nat) (x1 : Int) (w : World) (K : Value → World → Prop) : Prop :=
  Cll Try.prog 84 #[(.slice A0 n0 c0), (.int .i64 x1)] w fun v21 w22 => (∃ u23 : Value, (∃ (A24 : Option Addr) (n25 : Nat) (c26 : Nat), u23 = (.slice A24 n25 c26) ∧ ∃ u27 : Value, (∃ (b28 : Bool), u27 = (.bool b28) ∧ v21 = (.tuple #[(.slice A24 n25 c26), (.bool b28)]) ∧ bcase (!b28) (K (.int .i64 (-1)) w22) (Cll Try.prog 90 #[(.slice A24 n25 c26)] w22 fun v29 w30 => (∃ (n31 : Int), v29 = (.int .i64 n31) ∧ K (.int .i64 n31) w30)))))

def impl_MostAlone.ann : Ann := (.seq .l (.seq .l (.seq (.seq .l (.two (.seq .l .l) .l)) (.seq .l .l))))

theorem impl_MostAlone.vc_eq (A0 : Option Addr) (n0 : Nat) (c0 : Nat) (x1 : Int) (w : World) (K : Value → World → Prop) : vcF Try.prog Try.f46 impl_MostAlone.ann [(.slice A0 n0 c0), (.int .i64 x1)] K w = impl_MostAlone.vc A0 n0 c0 x1 w K := by kernel_rfl

theorem impl_MostAlone.start {A0 : Option Addr} {n0 : Nat} {c0 : Nat} {x1 : Int} {w : World} {K : Value → World → Prop} (h : impl_MostAlone.vc A0 n0 c0 x1 w K) : Cll Try.prog 46 #[(.slice A0 n0 c0), (.int .i64 x1)] w K :=
  vcF_sound mixed (fn := Try.f46) (by kernel_rfl) (by kernel_rfl) (an := impl_MostAlone.ann) (args := [(.slice A0 n0 c0), (.int .i64 x1)]) (by rw [impl_MostAlone.vc_eq]; exact h)

theorem impl_MostAlone.con {xs0 : List D.Ins} {A0 : Option Addr} {c0 : Nat} {x1 : Int} {r : Int} {w : World} (hp : M.impl_MostAlone_pre xs0 x1) (hr : r = M.impl_MostAlone xs0 x1) (R0 : Row el68 w A0 xs0) (hc0 : xs0.length ≤ c0) :
    Cll Try.prog 46 #[(.slice A0 xs0.length c0), (.int .i64 x1)] w (fun v_ w_ => v_ = (.int .i64 r) ∧ Ext w w_) := by
  have H := wp.impl_MostAlone.math xs0 x1 hp
  have hB := Ext.refl w
  refine impl_MostAlone.start ?_
  unfold impl_MostAlone.vc
  unfold wp.impl_MostAlone at H
  obtain ⟨hp23, H⟩ := H
  obtain ⟨r21, hr22⟩ : ∃ r_, r_ = M.impl_stepsOf xs0 x1 := ⟨_, rfl⟩
  have H := H r21 hr22
  refine (impl_stepsOf.con hp23 hr22 (R0.ext hB) hc0).mono ?_
  rintro _ w24 ⟨A26, c27, rfl, P2, e25⟩
  have O2 := P2.mono hB.size
  have hB := ethen hB e25
  refine ⟨(.slice A26 r21.1.length c27), ?_⟩
  refine ⟨A26, r21.1.length, c27, rfl, ?_⟩
  refine ⟨(.bool r21.2), ?_⟩
  refine ⟨r21.2, rfl, ?_⟩
  refine ⟨rfl, ?_⟩
  refine bcase_mk (fun hc33 => ?_) (fun hc33 => ?_)
  · have H := (bcase_iff.1 H).1 hc33
    obtain rfl := hr.trans H.symm
    exact ⟨rfl, hB⟩
  · have H := (bcase_iff.1 H).2 hc33
    obtain ⟨hp30, H⟩ := H
    obtain ⟨r28, hr29⟩ : ∃ r_, r_ = M.slices_Max_int_int r21.1 := ⟨_, rfl⟩
    have H := H r28 hr29
    refine (slices_Max_int_int.con hp30 hr29 O2.row O2.le).mono ?_
    rintro _ w31 ⟨rfl, e32⟩
    have O2 := O2.ext e32
    have hB := ethen hB e32
    refine ⟨r28, rfl, ?_⟩
    obtain rfl := hr.trans H.symm
    exact ⟨rfl, hB⟩

def laws_FnExactMostAlone.vc (A0 : Option Addr) (n0 : Nat) (c0 : Nat) (x1 : Int) (w : World) (K : Value → World → Prop) : Prop :=
  Cll Try.prog 13 #[(.slice A0 n0 c0), (.int .i64 1048576)] w fun v21 w22 => (∃ (n23 : Int), v21 = (.int .i64 n23) ∧ bcase (decide (n23 < 0)) (K (.bool true) w22) (Cll Try.prog 15 #[(.slice A0 n0 c0)] w22 fun v24 w25 => (∃ (A26 : Option Addr) (n27 : Nat) (c28 : Nat), v24 = (.slice A26 n27 c28) ∧ Cll Try.prog 45 #[(.slice A26 n27 c28), (.int .i64 x1)] w25 fun v29 w30 => (∃ (n31 : Int), v29 = (.int .i64 n31) ∧ Cll Try.prog 15 #[(.slice A0 n0 c0)] w30 fun v32 w33 => (∃ (A34 : Option Addr) (n35 : Nat) (c36 : Nat), v32 = (.slice A34 n35 c36) ∧ Cll Try.prog 46 #[(.slice A34 n35 c36), (.int .i64 x1)] w33 fun v37 w38 => (∃ (n39 : Int), v37 = (.int .i64 n39) ∧ bcase (n39 != n31) (K (.bool false) w38) (Cll Try.prog 15 #[(.slice A0 n0 c0)] w38 fun v40 w41 => (∃ (A42 : Option Addr) (n43 : Nat) (c44 : Nat), v40 = (.slice A42 n43 c44) ∧ Cll Try.prog 18 #[(.slice A34 n35 c36), (.slice A42 n43 c44)] w41 fun v45 w46 => (∃ (b47 : Bool), v45 = (.bool b47) ∧ bcase (!b47) (K (.bool false) w46) (K (.bool true) w46))))))))))

def laws_FnExactMostAlone.ann : Ann := (.seq .l (.seq .l (.seq .l (.seq (.seq .l (.two (.seq .l .l) .l)) (.seq .l (.seq .l (.seq .l (.seq (.seq .l (.two (.seq .l .l) .l)) (.seq (.seq .l (.two (.seq .l .l) .l)) (.seq .l .l))))))))))

theorem laws_FnExactMostAlone.vc_eq (A0 : Option Addr) (n0 : Nat) (c0 : Nat) (x1 : Int) (w : World) (K : Value → World → Prop) : vcF Try.prog Try.f12 laws_FnExactMostAlone.ann [(.slice A0 n0 c0), (.int .i64 x1)] K w = laws_FnExactMostAlone.vc A0 n0 c0 x1 w K := by kernel_rfl

theorem laws_FnExactMostAlone.start {A0 : Option Addr} {n0 : Nat} {c0 : Nat} {x1 : Int} {w : World} {K : Value → World → Prop} (h : laws_FnExactMostAlone.vc A0 n0 c0 x1 w K) : Cll Try.prog 12 #[(.slice A0 n0 c0), (.int .i64 x1)] w K :=
  vcF_sound mixed (fn := Try.f12) (by kernel_rfl) (by kernel_rfl) (an := laws_FnExactMostAlone.ann) (args := [(.slice A0 n0 c0), (.int .i64 x1)]) (by rw [laws_FnExactMostAlone.vc_eq]; exact h)

theorem laws_FnExactMostAlone.con {xs0 : List D.Ins} {A0 : Option Addr} {c0 : Nat} {x1 : Int} {r : Bool} {w : World} (hp : M.laws_FnExactMostAlone_pre xs0 x1) (hr : r = M.laws_FnExactMostAlone xs0 x1) (R0 : Row el70 w A0 xs0) (hc0 : xs0.length ≤ c0) :
    Cll Try.prog 12 #[(.slice A0 xs0.length c0), (.int .i64 x1)] w (fun v_ w_ => v_ = (.bool r) ∧ Ext w w_) := by
  have H := wp.laws_FnExactMostAlone.math xs0 x1 hp
  have hB := Ext.refl w
  refine laws_FnExactMostAlone.start ?_
  unfold laws_FnExactMostAlone.vc
  unfold wp.laws_FnExactMostAlone at H
  obtain ⟨hp23, H⟩ := H
  obtain ⟨r21, hr22⟩ : ∃ r_, r_ = M.laws_szInsS xs0 1048576 := ⟨_, rfl⟩
  have H := H r21 hr22
  refine (laws_szInsS.con hp23 hr22 (R0.ext hB) hc0).mono ?_
  rintro _ w24 ⟨rfl, e25⟩
  have hB := ethen hB e25
  refine ⟨r21, rfl, ?_⟩
  refine bcase_mk (fun hc64 => ?_) (fun hc64 => ?_)
  · have H := (bcase_iff.1 H).1 hc64
    obtain rfl := hr.trans H.symm
    exact ⟨rfl, hB⟩
  · have H := (bcase_iff.1 H).2 hc64
    obtain ⟨hp28, H⟩ := H
    obtain ⟨r26, hr27⟩ : ∃ r_, r_ = M.laws_toInsS xs0 := ⟨_, rfl⟩
    have H := H r26 hr27
    refine (laws_toInsS.con hp28 hr27 (R0.ext hB) hc0).mono ?_
    rintro _ w29 ⟨A31, c32, rfl, P2, e30⟩
    have O2 := P2.mono hB.size
    have hB := ethen hB e30
    refine ⟨A31, r26.length, c32, rfl, ?_⟩
    obtain ⟨hp35, H⟩ := H
    obtain ⟨r33, hr34⟩ : ∃ r_, r_ = M.spec_MostAlone r26 x1 := ⟨_, rfl⟩
    have H := H r33 hr34
    refine (spec_MostAlone.con hp35 hr34 O2.row O2.le).mono ?_
    rintro _ w36 ⟨rfl, e37⟩
    have O2 := O2.ext e37
    have hB := ethen hB e37
    refine ⟨r33, rfl, ?_⟩
    obtain ⟨hp40, H⟩ := H
    obtain ⟨r38, hr39⟩ : ∃ r_, r_ = M.laws_toInsS xs0 := ⟨_, rfl⟩
    have H := H r38 hr39
    refine (laws_toInsS.con hp40 hr39 (R0.ext hB) hc0).mono ?_
    rintro _ w41 ⟨A43, c44, rfl, P3, e42⟩
    have N2_3 := Own.apart2_new O2 P3 (Nat.le_refl _)
    have O2 := O2.ext e42
    have O3 := P3.mono hB.size
    have hB := ethen hB e42
    refine ⟨A43, r38.length, c44, rfl, ?_⟩
    obtain ⟨hp47, H⟩ := H
    obtain ⟨r45, hr46⟩ : ∃ r_, r_ = M.impl_MostAlone r38 x1 := ⟨_, rfl⟩
    have H := H r45 hr46
    refine (impl_MostAlone.con hp47 hr46 O3.row O3.le).mono ?_
    rintro _ w48 ⟨rfl, e49⟩
    have O2 := O2.ext e49
    have O3 := O3.ext e49
    have hB := ethen hB e49
    refine ⟨r45, rfl, ?_⟩
    refine bcase_mk (fun hc63 => ?_) (fun hc63 => ?_)
    · have H := (bcase_iff.1 H).1 hc63
      obtain rfl := hr.trans H.symm
      exact ⟨rfl, hB⟩
    · have H := (bcase_iff.1 H).2 hc63
      obtain ⟨hp52, H⟩ := H
      obtain ⟨r50, hr51⟩ : ∃ r_, r_ = M.laws_toInsS xs0 := ⟨_, rfl⟩
      have H := H r50 hr51
      refine (laws_toInsS.con hp52 hr51 (R0.ext hB) hc0).mono ?_
      rintro _ w53 ⟨A55, c56, rfl, P4, e54⟩
      have N2_4 := Own.apart2_new O2 P4 (Nat.le_refl _)
      have N3_4 := Own.apart2_new O3 P4 (Nat.le_refl _)
      have O2 := O2.ext e54
      have O3 := O3.ext e54
      have O4 := P4.mono hB.size
      have hB := ethen hB e54
      refine ⟨A55, r50.length, c56, rfl, ?_⟩
      obtain ⟨hp59, H⟩ := H
      obtain ⟨r57, hr58⟩ : ∃ r_, r_ = M.laws_eqInsS r38 r50 := ⟨_, rfl⟩
      have H := H r57 hr58
      refine (laws_eqInsS.con hp59 hr58 O3.row O3.le O4.row O4.le).mono ?_
      rintro _ w60 ⟨rfl, e61⟩
      have O2 := O2.ext e61
      have O3 := O3.ext e61
      have O4 := O4.ext e61
      have hB := ethen hB e61
      refine ⟨r57, rfl, ?_⟩
      refine bcase_mk (fun hc62 => ?_) (fun hc62 => ?_)
      · have H := (bcase_iff.1 H).1 hc62
        obtain rfl := hr.trans H.symm
        exact ⟨rfl, hB⟩
      · have H := (bcase_iff.1 H).2 hc62
        obtain rfl := hr.trans H.symm
        exact ⟨rfl, hB⟩

end Go.V
