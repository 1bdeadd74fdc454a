import Derived.Test.YtdjkglkcohknbaaGreatKTopCon2
namespace Go.V
open Go.Proofs
set_option linter.unusedVariables false
set_option linter.unusedSimpArgs false
set_option maxRecDepth 100000
def spec_DrawQuiet.vc (A0 : Option Addr) (n0 : Nat) (c0 : Nat) (w : World) (K : Value → World → Prop) : Prop :=
  Cll Tryz.prog 54 #[(.slice A0 n0 c0)] w fun v21 w22 => (∃ (p23 : Addr), v21 = (.pointer (some p23)) ∧ Cll Tryz.prog 53 #[(.pointer (some p23))] w22 fun v24 w25 => (∃ (A26 : Option Addr) (n27 : Nat) (c28 : Nat), v24 = (.slice A26 n27 c28) ∧ K (.slice A26 n27 c28) w25))

def spec_DrawQuiet.ann : Ann := (.seq .l (.seq .l .l))

theorem spec_DrawQuiet.start {A0 : Option Addr} {n0 : Nat} {c0 : Nat} {w : World} {K : Value → World → Prop} (h : spec_DrawQuiet.vc A0 n0 c0 w K) : Cll Tryz.prog 13 #[(.slice A0 n0 c0)] w K :=
  vcF_sound mixed (fn := Tryz.f13) (by kernel_rfl) (by kernel_rfl) (an := spec_DrawQuiet.ann) (args := [(.slice A0 n0 c0)]) (Eq.mpr (by kernel_rfl) h)

theorem spec_DrawQuiet.con {xs0 : List Int} {A0 : Option Addr} {c0 : Nat} {r : List D.Ins} {w : World} (hp : M.spec_DrawQuiet_pre xs0) (hr : r = M.spec_DrawQuiet xs0) (R0 : Row el5 w A0 xs0) (hc0 : xs0.length ≤ c0) :
    Cll Tryz.prog 13 #[(.slice A0 xs0.length c0)] w (fun v_ w_ => ∃ (A0_ : Option Addr) (c0_ : Nat), v_ = (.slice A0_ r.length c0_) ∧ Own el91 w_ w.heap.size A0_ c0_ r ∧ Ext w w_) := by
  have H := wp.spec_DrawQuiet.math xs0 hp
  have hB := Ext.refl w
  refine spec_DrawQuiet.start ?_
  unfold spec_DrawQuiet.vc
  unfold wp.spec_DrawQuiet at H
  obtain ⟨hp23, H⟩ := H
  obtain ⟨r21, hr22⟩ : ∃ r_, r_ = M.spec_l01New xs0 := ⟨_, rfl⟩
  have H := H r21 hr22
  refine (spec_l01New.con hp23 hr22 (R0.ext hB) hc0).mono ?_
  rintro _ w24 ⟨g2_, rfl, P2, hq26, L2, e25⟩
  rw [hq26] at P2
  have L2 := Nat.le_trans hB.size L2
  have O2 := P2
  have hB := ethen hB e25
  refine ⟨(⟨g2_, 0, none⟩ : Addr), rfl, ?_⟩
  obtain ⟨hp29, H⟩ := H
  obtain ⟨r27, hr28⟩ : ∃ r_, r_ = M.spec_l05Quiet (⟨xs0, r21.i, r21.h⟩ : D.Cur) := ⟨_, rfl⟩
  have H := H r27 hr28
  refine (spec_l05Quiet.con hp29 hr28 O2 (R0.ext hB) hc0 (fun hx_ => (fun g h_ hS_ => Nat.not_le.2 (R0.old hx_ g h_) (box_low L2 _ hS_)))).mono ?_
  rintro _ w30 ⟨A32, c33, rfl, P3, Q2, hq34, e31⟩
  rw [hq34] at Q2
  have N3_2 := P3.apart_old O2.lt
  have O3 := P3.mono hB.size
  have hB := Chg.ext hB e31 (box_low L2)
  have O2 := Q2
  refine ⟨A32, r27.1.length, c33, rfl, ?_⟩
  obtain rfl := hr.trans H.symm
  exact ⟨A32, c33, rfl, O3, hB⟩
def laws_FnTop.vc (A0 : Option Addr) (n0 : Nat) (c0 : Nat) (w : World) (K : Value → World → Prop) : Prop :=
  Cll Tryz.prog 12 #[(.slice A0 n0 c0)] w fun v21 w22 => (∃ (b23 : Bool), v21 = (.bool b23) ∧ bcase b23 (K (.bool true) w22) (Cll Tryz.prog 13 #[(.slice A0 n0 c0)] w22 fun v24 w25 => (∃ (A26 : Option Addr) (n27 : Nat) (c28 : Nat), v24 = (.slice A26 n27 c28) ∧ LoopT (σ := Int × Unit) (fun z29 w30 next31 => bcase (decide (z29.1 < 3)) (Cll Tryz.prog 14 #[(.slice A26 n27 c28), (.int .i64 z29.1)] w30 fun v32 w33 => (∃ u34 : Value, (∃ (n35 : Int), True ∧ ∃ (A36 : Option Addr) (n37 : Nat) (c38 : Nat), True ∧ ∃ (A39 : Option Addr) (n40 : Nat) (c41 : Nat), True ∧ u34 = (.agg #[(.int .i64 n35), (.slice A36 n37 c38), (.slice A39 n40 c41)]) ∧ ∃ u42 : Value, (∃ (n43 : Int), u42 = (.int .i64 n43) ∧ ∃ u44 : Value, (∃ (b45 : Bool), u44 = (.bool b45) ∧ v32 = (.tuple #[(.agg #[(.int .i64 n35), (.slice A36 n37 c38), (.slice A39 n40 c41)]), (.int .i64 n43), (.bool b45)]) ∧ newK w33 (.cells #[(.int .i64 0), (.slice none 0 0), (.slice none 0 0)] 29) fun g46 w47 => stCells (⟨g46, 0, none⟩ : Addr) [(.int .i64 n35), (.slice A36 n37 c38), (.slice A39 n40 c41)] 0 w47 fun w48 => Cll Tryz.prog 15 #[(.slice A26 n27 c28), (.int .i64 (IntKind.wrap .i64 (z29.1 * 8))), (.int .i64 8)] w48 fun v49 w50 => (∃ u51 : Value, (∃ (A52 : Option Addr) (n53 : Nat) (c54 : Nat), u51 = (.slice A52 n53 c54) ∧ ∃ u55 : Value, (∃ (b56 : Bool), u55 = (.bool b56) ∧ v49 = (.tuple #[(.slice A52 n53 c54), (.bool b56)]) ∧ bcase (!b45) (K (.bool false) w50) (bcase (!b56) (K (.bool false) w50) (∃ (A57 : Option Addr) (n58 : Nat) (c59 : Nat), w50.cell? (((⟨g46, 0, none⟩ : Addr).add 2).add 0) = some (.slice A57 n58 c59) ∧ Cll Tryz.prog 16 #[(.slice A57 n58 c59), (.slice A52 n53 c54)] w50 fun v60 w61 => (∃ (b62 : Bool), v60 = (.bool b62) ∧ bcase (!b62) (K (.bool false) w61) (Cll Tryz.prog 17 #[(.slice A26 n27 c28), (.int .i64 z29.1)] w61 fun v63 w64 => (∃ (b65 : Bool), v63 = (.bool b65) ∧ bcase (!b65) (K (.bool false) w64) (next31 ((IntKind.wrap .i64 (z29.1 + 1)), ()) w64)))))))))))))) (K (.bool true) w30)) (0, ()) w25)))

def laws_FnTop.ann : Ann := (.seq .l (.seq (.seq .l (.two (.seq .l .l) .l)) (.seq .l (.seq (.seq .l (.one (.loop [(4, .int .i64)] (.seq (.seq .l (.two .l .l)) (.seq (.one (.seq .l (.seq .l (.seq .l (.two (.seq .l .l) .l))))) .l))))) (.seq .l .l)))))

theorem laws_FnTop.start {A0 : Option Addr} {n0 : Nat} {c0 : Nat} {w : World} {K : Value → World → Prop} (h : laws_FnTop.vc A0 n0 c0 w K) : Cll Tryz.prog 3 #[(.slice A0 n0 c0)] w K :=
  vcF_sound mixed (fn := Tryz.f3) (by kernel_rfl) (by kernel_rfl) (an := laws_FnTop.ann) (args := [(.slice A0 n0 c0)]) (Eq.mpr (by kernel_rfl) h)

theorem laws_FnTop.con {xs0 : List Int} {A0 : Option Addr} {c0 : Nat} {r : Bool} {w : World} (hp : M.laws_FnTop_pre xs0) (hr : r = M.laws_FnTop xs0) (R0 : Row el5 w A0 xs0) (hc0 : xs0.length ≤ c0) :
    Cll Tryz.prog 3 #[(.slice A0 xs0.length c0)] w (fun v_ w_ => v_ = (.bool r) ∧ Ext w w_) := by
  have H := wp.laws_FnTop.math xs0 hp
  have hB := Ext.refl w
  refine laws_FnTop.start ?_
  unfold laws_FnTop.vc
  unfold wp.laws_FnTop at H
  obtain ⟨r21, hr22⟩ : ∃ r_, r_ = M.laws_big xs0 := ⟨_, rfl⟩
  have H := H r21 hr22
  refine (laws_big.con hr22 (R0.ext hB) hc0).mono ?_
  rintro _ w24 ⟨rfl, e25⟩
  have hB := ethen hB e25
  refine ⟨r21, rfl, ?_⟩
  refine bcase_mk (fun hc81 => ?_) (fun hc81 => ?_)
  · have H := (bcase_iff.1 H).1 hc81
    obtain rfl := hr.trans H.symm
    exact ⟨rfl, hB⟩
  have H := (bcase_iff.1 H).2 hc81
  obtain ⟨hp28, H⟩ := H
  obtain ⟨r26, hr27⟩ : ∃ r_, r_ = M.spec_DrawQuiet xs0 := ⟨_, rfl⟩
  have H := H r26 hr27
  refine (spec_DrawQuiet.con hp28 hr27 (R0.ext hB) hc0).mono ?_
  rintro _ w29 ⟨A31, c32, rfl, P2, e30⟩
  have O2 := P2.mono hB.size
  have hB := ethen hB e30
  refine ⟨A31, r26.length, c32, rfl, ?_⟩
  obtain ⟨J35, ⟨m79, hJ78⟩, hS36⟩ := H
  refine ⟨fun m_ z_ w_ => ∃ (i33 : Int), z_ = (i33, ()) ∧ J35 m_ (i33, ()) ∧ Ext w w_ ∧ Own el91 w_ w.heap.size A31 c32 r26, ⟨m79, 0, rfl, hJ78, hB, O2⟩, ?_⟩
  rintro m34 _ w38 ⟨i33, rfl, hJ80, hB, O2⟩
  have H := hS36 m34 _ hJ80
  clear hS36 hJ80
  try dsimp only at H ⊢
  refine bcase_mk (fun hc76 => ?_) (fun hc76 => ?_)
  · have H := (bcase_iff.1 H).1 hc76
    obtain ⟨hp41, H⟩ := H
    obtain ⟨r39, hr40⟩ : ∃ r_, r_ = M.impl_WarpResult r26 i33 := ⟨_, rfl⟩
    have H := H r39 hr40
    refine (impl_WarpResult.con hp41 hr40 O2.row O2.le).mono ?_
    rintro _ w42 ⟨A44, c45, A46, c47, rfl, P3, P4, e43⟩
    have N2_3 := Own.apart2_new O2 P3 (Nat.le_refl _)
    have N2_4 := Own.apart2_new O2 P4 (Nat.le_refl _)
    have O2 := O2.ext e43
    have O3 := P3.mono hB.size
    have O4 := P4.mono hB.size
    have hB := ethen hB e43
    refine ⟨(.agg #[(.int .i64 r39.1.Number), (.slice A44 r39.1.Frames.length c45), (.slice A46 r39.1.Regs.length c47)]), ?_⟩
    refine ⟨r39.1.Number, trivial, ?_⟩
    refine ⟨A44, r39.1.Frames.length, c45, trivial, ?_⟩
    refine ⟨A46, r39.1.Regs.length, c47, trivial, ?_⟩
    refine ⟨rfl, ?_⟩
    refine ⟨(.int .i64 r39.2.1), ?_⟩
    refine ⟨r39.2.1, rfl, ?_⟩
    refine ⟨(.bool r39.2.2), ?_⟩
    refine ⟨r39.2.2, rfl, ?_⟩
    refine ⟨rfl, ?_⟩
    refine newBlk (fun g5_ w48 L5 P5 e49 => ?_)
    have N2_5 := O2.apart_new L5
    have N3_5 := O3.apart_new L5
    have N4_5 := O4.apart_new L5
    have O2 := O2.ext e49
    have O3 := O3.ext e49
    have O4 := O4.ext e49
    have O5 := P5
    have L5 := Nat.le_trans hB.size L5
    have hB := ethen hB e49
    refine stBlk O5 (o := 0) (cs' := #[(.int .i64 r39.1.Number), (.slice A44 r39.1.Frames.length c45), (.slice A46 r39.1.Regs.length c47)]) rfl rfl (Nat.le_of_ble_eq_true rfl) rfl (fun w50 P5 e51 => ?_)
    have O2_ := O2.chg e51 N2_5
    have O3_ := O3.chg e51 N3_5
    have O4_ := O4.chg e51 N4_5
    have O2 := O2_
    have O3 := O3_
    have O4 := O4_
    have hB := echg hB e51 L5
    have O5 := P5
    obtain ⟨hp54, H⟩ := H
    obtain ⟨r52, hr53⟩ : ∃ r_, r_ = M.impl_EndRegs r26 (IntKind.wrap .i64 (i33 * 8)) 8 := ⟨_, rfl⟩
    have H := H r52 hr53
    refine (impl_EndRegs.con hp54 hr53 O2.row O2.le).mono ?_
    rintro _ w55 ⟨A57, c58, rfl, P6, e56⟩
    have N2_6 := Own.apart2_new O2 P6 (Nat.le_refl _)
    have N3_6 := Own.apart2_new O3 P6 (Nat.le_refl _)
    have N4_6 := Own.apart2_new O4 P6 (Nat.le_refl _)
    have N6_5 := P6.apart_old O5.lt
    have O2 := O2.ext e56
    have O3 := O3.ext e56
    have O4 := O4.ext e56
    have O5 := O5.ext e56
    have O6 := P6.mono hB.size
    have hB := ethen hB e56
    refine ⟨(.slice A57 r52.1.length c58), ?_⟩
    refine ⟨A57, r52.1.length, c58, rfl, ?_⟩
    refine ⟨(.bool r52.2), ?_⟩
    refine ⟨r52.2, rfl, ?_⟩
    refine ⟨rfl, ?_⟩
    refine bcase_mk (fun hc75 => ?_) (fun hc75 => ?_)
    · have H := (bcase_iff.1 H).1 hc75
      obtain rfl := hr.trans H.symm
      exact ⟨rfl, hB⟩
    have H := (bcase_iff.1 H).2 hc75
    refine bcase_mk (fun hc74 => ?_) (fun hc74 => ?_)
    · have H := (bcase_iff.1 H).1 hc74
      obtain rfl := hr.trans H.symm
      exact ⟨rfl, hB⟩
    have H := (bcase_iff.1 H).2 hc74
    refine ⟨_, _, _, (O5.at 2 rfl rfl), ?_⟩
    obtain ⟨hp61, H⟩ := H
    obtain ⟨r59, hr60⟩ : ∃ r_, r_ = M.laws_sameInts r39.1.Regs r52.1 := ⟨_, rfl⟩
    have H := H r59 hr60
    refine (laws_sameInts.con hp61 hr60 O4.row O4.le O6.row O6.le).mono ?_
    rintro _ w62 ⟨rfl, e63⟩
    have O2 := O2.ext e63
    have O3 := O3.ext e63
    have O4 := O4.ext e63
    have O5 := O5.ext e63
    have O6 := O6.ext e63
    have hB := ethen hB e63
    refine ⟨r59, rfl, ?_⟩
    refine bcase_mk (fun hc73 => ?_) (fun hc73 => ?_)
    · have H := (bcase_iff.1 H).1 hc73
      obtain rfl := hr.trans H.symm
      exact ⟨rfl, hB⟩
    have H := (bcase_iff.1 H).2 hc73
    obtain ⟨hp66, H⟩ := H
    obtain ⟨r64, hr65⟩ : ∃ r_, r_ = M.impl_LanesAgree r26 i33 := ⟨_, rfl⟩
    have H := H r64 hr65
    refine (impl_LanesAgree.con hp66 hr65 O2.row O2.le).mono ?_
    rintro _ w67 ⟨rfl, e68⟩
    have O2 := O2.ext e68
    have O3 := O3.ext e68
    have O4 := O4.ext e68
    have O5 := O5.ext e68
    have O6 := O6.ext e68
    have hB := ethen hB e68
    refine ⟨r64, rfl, ?_⟩
    refine bcase_mk (fun hc72 => ?_) (fun hc72 => ?_)
    · have H := (bcase_iff.1 H).1 hc72
      obtain rfl := hr.trans H.symm
      exact ⟨rfl, hB⟩
    have H := (bcase_iff.1 H).2 hc72
    obtain ⟨m69, hm70, hJ71⟩ := H
    exact ⟨m69, hm70, (IntKind.wrap .i64 (i33 + 1)), rfl, hJ71, hB, O2⟩
  have H := (bcase_iff.1 H).2 hc76
  obtain rfl := hr.trans H.symm
  exact ⟨rfl, hB⟩
end Go.V
