import Derived.Test.YtdjkglkcohknbaaGreatKWtCon2
namespace Go.V
open Go.Proofs
set_option linter.unusedVariables false
set_option linter.unusedSimpArgs false
set_option maxRecDepth 100000
def laws_FnWarpTime.vc (A0 : Option Addr) (n0 : Nat) (c0 : Nat) (w : World) (K : Value → World → Prop) : Prop :=
  Cll Tryz.prog 12 #[(.slice A0 n0 c0)] w fun v21 w22 => (∃ (b23 : Bool), v21 = (.bool b23) ∧ bcase b23 (K (.bool true) w22) (Cll Tryz.prog 13 #[(.slice A0 n0 c0)] w22 fun v24 w25 => (∃ (A26 : Option Addr) (n27 : Nat) (c28 : Nat), v24 = (.slice A26 n27 c28) ∧ Cll Tryz.prog 18 #[(.slice A0 n0 c0)] w25 fun v29 w30 => (∃ (A31 : Option Addr) (n32 : Nat) (c33 : Nat), v29 = (.slice A31 n32 c33) ∧ ((0 : Int) ≤ 0 ∧ 0 < ((n32 : Nat) : Int) ∧ ∃ a34 : Addr, A31 = some a34 ∧ ∃ (n35 : Int), w30.cell? ((a34.add (((0 : Int).toNat) * 1)).add 0) = some (.int .i64 n35) ∧ ((3 : Int) ≠ 0 ∧ Cll Tryz.prog 14 #[(.slice A26 n27 c28), (.int .i64 (Int.tmod n35 3))] w30 fun v36 w37 => (∃ u38 : Value, (∃ (n39 : Int), True ∧ ∃ (A40 : Option Addr) (n41 : Nat) (c42 : Nat), True ∧ ∃ (A43 : Option Addr) (n44 : Nat) (c45 : Nat), True ∧ u38 = (.agg #[(.int .i64 n39), (.slice A40 n41 c42), (.slice A43 n44 c45)]) ∧ ∃ u46 : Value, (∃ (n47 : Int), u46 = (.int .i64 n47) ∧ ∃ u48 : Value, (∃ (b49 : Bool), u48 = (.bool b49) ∧ v36 = (.tuple #[(.agg #[(.int .i64 n39), (.slice A40 n41 c42), (.slice A43 n44 c45)]), (.int .i64 n47), (.bool b49)]) ∧ newK w37 (.cells #[(.int .i64 0), (.slice none 0 0), (.slice none 0 0)] 29) fun g50 w51 => stCells (⟨g50, 0, none⟩ : Addr) [(.int .i64 n39), (.slice A40 n41 c42), (.slice A43 n44 c45)] 0 w51 fun w52 => bcase b49 (Cll Tryz.prog 19 #[(.slice A26 n27 c28), (.int .i64 (Int.tmod n35 3))] w52 fun v53 w54 => (∃ (n55 : Int), v53 = (.int .i64 n55) ∧ bcase (decide (n55 ≤ n47)) (Cll Tryz.prog 20 #[(.slice A26 n27 c28), (.int .i64 (Int.tmod n35 3))] w54 fun v56 w57 => (∃ (n58 : Int), v56 = (.int .i64 n58) ∧ K (.bool (decide (n47 ≤ n58))) w57)) (K (.bool false) w54))) (K (.bool false) w52)))))))))))

def laws_FnWarpTime.ann : Ann := (.seq .l (.seq (.seq .l (.two (.seq .l .l) .l)) (.seq .l (.seq .l (.seq .l (.seq .l (.seq .l .l)))))))

theorem laws_FnWarpTime.start {A0 : Option Addr} {n0 : Nat} {c0 : Nat} {w : World} {K : Value → World → Prop} (h : laws_FnWarpTime.vc A0 n0 c0 w K) : Cll Tryz.prog 4 #[(.slice A0 n0 c0)] w K :=
  vcF_sound mixed (fn := Tryz.f4) (by kernel_rfl) (by kernel_rfl) (an := laws_FnWarpTime.ann) (args := [(.slice A0 n0 c0)]) (Eq.mpr (by kernel_rfl) h)

theorem laws_FnWarpTime.con {xs0 : List Int} {A0 : Option Addr} {c0 : Nat} {r : Bool} {w : World} (hp : M.laws_FnWarpTime_pre xs0) (hr : r = M.laws_FnWarpTime xs0) (R0 : Row el5 w A0 xs0) (hc0 : xs0.length ≤ c0) :
    Cll Tryz.prog 4 #[(.slice A0 xs0.length c0)] w (fun v_ w_ => v_ = (.bool r) ∧ Ext w w_) := by
  have H := wp.laws_FnWarpTime.math xs0 hp
  have hB := Ext.refl w
  refine laws_FnWarpTime.start ?_
  unfold laws_FnWarpTime.vc
  unfold wp.laws_FnWarpTime at H
  obtain ⟨r21, hr22⟩ : ∃ r_, r_ = M.laws_big xs0 := ⟨_, rfl⟩
  have H := H r21 hr22
  refine (laws_big.con hr22 (R0.ext hB) hc0).mono ?_
  rintro _ w24 ⟨rfl, e25⟩
  have hB := ethen hB e25
  refine ⟨r21, rfl, ?_⟩
  refine bcase_mk (fun hc71 => ?_) (fun hc71 => ?_)
  · have H := (bcase_iff.1 H).1 hc71
    obtain rfl := hr.trans H.symm
    exact ⟨rfl, hB⟩
  have H := (bcase_iff.1 H).2 hc71
  obtain ⟨hp28, H⟩ := H
  obtain ⟨r26, hr27⟩ : ∃ r_, r_ = M.spec_DrawQuiet xs0 := ⟨_, rfl⟩
  have H := H r26 hr27
  refine (spec_DrawQuiet.con hp28 hr27 (R0.ext hB) hc0).mono ?_
  rintro _ w29 ⟨A31, c32, rfl, P2, e30⟩
  have O2 := P2.mono hB.size
  have hB := ethen hB e30
  refine ⟨A31, r26.length, c32, rfl, ?_⟩
  obtain ⟨hp35, H⟩ := H
  obtain ⟨r33, hr34⟩ : ∃ r_, r_ = M.spec_DrawPlaces xs0 := ⟨_, rfl⟩
  have H := H r33 hr34
  refine (spec_DrawPlaces.con hp35 hr34 (R0.ext hB) hc0).mono ?_
  rintro _ w36 ⟨A38, c39, rfl, P3, e37⟩
  have N2_3 := Own.apart2_new O2 P3 (Nat.le_refl _)
  have O2 := O2.ext e37
  have O3 := P3.mono hB.size
  have hB := ethen hB e37
  refine ⟨A38, r33.length, c39, rfl, ?_⟩
  obtain ⟨⟨h0_43, h1_44⟩, H⟩ := H
  obtain ⟨a41, ha42, hat40⟩ := Row.at O3.row h0_43 h1_44
  refine ⟨h0_43, h1_44, a41, ha42, ?_⟩
  refine ⟨_, (hat40 0 _ rfl), ?_⟩
  refine ⟨by decide, ?_⟩
  obtain ⟨hp48, H⟩ := H
  obtain ⟨r46, hr47⟩ : ∃ r_, r_ = M.impl_WarpResult r26 (Int.tmod (rd r33 0) 3) := ⟨_, rfl⟩
  have H := H r46 hr47
  refine (impl_WarpResult.con hp48 hr47 O2.row O2.le).mono ?_
  rintro _ w49 ⟨A51, c52, A53, c54, rfl, P4, P5, e50⟩
  have N2_4 := Own.apart2_new O2 P4 (Nat.le_refl _)
  have N2_5 := Own.apart2_new O2 P5 (Nat.le_refl _)
  have O2 := O2.ext e50
  have O4 := P4.mono hB.size
  have O5 := P5.mono hB.size
  have hB := ethen hB e50
  refine ⟨(.agg #[(.int .i64 r46.1.Number), (.slice A51 r46.1.Frames.length c52), (.slice A53 r46.1.Regs.length c54)]), ?_⟩
  refine ⟨r46.1.Number, trivial, ?_⟩
  refine ⟨A51, r46.1.Frames.length, c52, trivial, ?_⟩
  refine ⟨A53, r46.1.Regs.length, c54, trivial, ?_⟩
  refine ⟨rfl, ?_⟩
  refine ⟨(.int .i64 r46.2.1), ?_⟩
  refine ⟨r46.2.1, rfl, ?_⟩
  refine ⟨(.bool r46.2.2), ?_⟩
  refine ⟨r46.2.2, rfl, ?_⟩
  refine ⟨rfl, ?_⟩
  refine newBlk (fun g6_ w55 L6 P6 e56 => ?_)
  have N2_6 := O2.apart_new L6
  have N4_6 := O4.apart_new L6
  have N5_6 := O5.apart_new L6
  have O2 := O2.ext e56
  have O4 := O4.ext e56
  have O5 := O5.ext e56
  have O6 := P6
  have L6 := Nat.le_trans hB.size L6
  have hB := ethen hB e56
  refine stBlk O6 (o := 0) (cs' := #[(.int .i64 r46.1.Number), (.slice A51 r46.1.Frames.length c52), (.slice A53 r46.1.Regs.length c54)]) rfl rfl (Nat.le_of_ble_eq_true rfl) rfl (fun w57 P6 e58 => ?_)
  have O2_ := O2.chg e58 N2_6
  have O4_ := O4.chg e58 N4_6
  have O5_ := O5.chg e58 N5_6
  have O2 := O2_
  have O4 := O4_
  have O5 := O5_
  have hB := echg hB e58 L6
  have O6 := P6
  refine bcase_mk (fun hc70 => ?_) (fun hc70 => ?_)
  · have H := (bcase_iff.1 H).1 hc70
    obtain ⟨hp61, H⟩ := H
    obtain ⟨r59, hr60⟩ : ∃ r_, r_ = M.impl_MostAlone r26 (Int.tmod (rd r33 0) 3) := ⟨_, rfl⟩
    have H := H r59 hr60
    refine (impl_MostAlone.con hp61 hr60 O2.row O2.le).mono ?_
    rintro _ w62 ⟨rfl, e63⟩
    have O2 := O2.ext e63
    have hB := ethen hB e63
    refine ⟨r59, rfl, ?_⟩
    refine bcase_mk (fun hc69 => ?_) (fun hc69 => ?_)
    · have H := (bcase_iff.1 H).1 hc69
      obtain ⟨hp66, H⟩ := H
      obtain ⟨r64, hr65⟩ : ∃ r_, r_ = M.impl_SumAlone r26 (Int.tmod (rd r33 0) 3) := ⟨_, rfl⟩
      have H := H r64 hr65
      refine (impl_SumAlone.con hp66 hr65 O2.row O2.le).mono ?_
      rintro _ w67 ⟨rfl, e68⟩
      have O2 := O2.ext e68
      have hB := ethen hB e68
      refine ⟨r64, rfl, ?_⟩
      obtain rfl := hr.trans H.symm
      exact ⟨rfl, hB⟩
    have H := (bcase_iff.1 H).2 hc69
    obtain rfl := hr.trans H.symm
    exact ⟨rfl, hB⟩
  have H := (bcase_iff.1 H).2 hc70
  obtain rfl := hr.trans H.symm
  exact ⟨rfl, hB⟩
end Go.V
