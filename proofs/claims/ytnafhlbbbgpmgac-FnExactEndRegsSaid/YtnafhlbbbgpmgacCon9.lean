import Derived.Test.YtnafhlbbbgpmgacMath9
import Derived.Test.YtnafhlbbbgpmgacSeat
import Derived.Test.YtnafhlbbbgpmgacCon7
namespace Go.V
open Go.Proofs
set_option linter.unusedVariables false
set_option linter.unusedSimpArgs false
set_option maxRecDepth 100000

def laws_FnExactEndRegs.vc (A0 : Option Addr) (n0 : Nat) (c0 : Nat) (x1 : Int) (x2 : Int) (w : World) (K : Value → World → Prop) : Prop :=
  Cll Try.prog 19 #[(.slice A0 n0 c0), (.int .i64 1048576)] w fun v21 w22 => (∃ (n23 : Int), v21 = (.int .i64 n23) ∧ bcase (decide (n23 < 0)) (K (.bool true) w22) (Cll Try.prog 21 #[(.slice A0 n0 c0)] w22 fun v24 w25 => (∃ (A26 : Option Addr) (n27 : Nat) (c28 : Nat), v24 = (.slice A26 n27 c28) ∧ Cll Try.prog 20 #[(.slice A26 n27 c28), (.int .i64 x1), (.int .i64 x2)] w25 fun v29 w30 => (∃ u31 : Value, (∃ (A32 : Option Addr) (n33 : Nat) (c34 : Nat), u31 = (.slice A32 n33 c34) ∧ ∃ u35 : Value, (∃ (b36 : Bool), u35 = (.bool b36) ∧ v29 = (.tuple #[(.slice A32 n33 c34), (.bool b36)]) ∧ Cll Try.prog 21 #[(.slice A0 n0 c0)] w30 fun v37 w38 => (∃ (A39 : Option Addr) (n40 : Nat) (c41 : Nat), v37 = (.slice A39 n40 c41) ∧ Cll Try.prog 22 #[(.slice A39 n40 c41), (.int .i64 x1), (.int .i64 x2)] w38 fun v42 w43 => (∃ u44 : Value, (∃ (A45 : Option Addr) (n46 : Nat) (c47 : Nat), u44 = (.slice A45 n46 c47) ∧ ∃ u48 : Value, (∃ (b49 : Bool), u48 = (.bool b49) ∧ v42 = (.tuple #[(.slice A45 n46 c47), (.bool b49)]) ∧ Cll Try.prog 23 #[(.slice A45 n46 c47), (.slice A32 n33 c34)] w43 fun v51 w52 => (∃ (b53 : Bool), v51 = (.bool b53) ∧ bcase (!b53) (K (.bool false) w52) (bcase (!(b49 == b36)) (K (.bool false) w52) (Cll Try.prog 21 #[(.slice A0 n0 c0)] w52 fun v54 w55 => (∃ (A56 : Option Addr) (n57 : Nat) (c58 : Nat), v54 = (.slice A56 n57 c58) ∧ Cll Try.prog 24 #[(.slice A39 n40 c41), (.slice A56 n57 c58)] w55 fun v59 w60 => (∃ (b61 : Bool), v59 = (.bool b61) ∧ bcase (!b61) (K (.bool false) w60) (Cll Try.prog 25 #[(.slice A39 n40 c41), (.int .i64 1)] w60 fun v62 w63 => (∃ (n64 : Int), v62 = (.int .i64 n64) ∧ bcase (decide (n64 < 0)) (K (.bool false) w63) (Cll Try.prog 23 #[(.slice A45 n46 c47), (.slice A32 n33 c34)] w63 fun v66 w67 => (∃ (b68 : Bool), v66 = (.bool b68) ∧ bcase (!b68) (K (.bool false) w67) (bcase (!(b49 == b36)) (K (.bool false) w67) (Cll Try.prog 26 #[(.slice A45 n46 c47), (.int .i64 1)] w67 fun v69 w70 => (∃ (n71 : Int), v69 = (.int .i64 n71) ∧ Cll Try.prog 27 #[(.slice A45 n46 c47), (.int .i64 1)] w70 fun v72 w73 => (∃ (n74 : Int), v72 = (.int .i64 n74) ∧ bcase (decide (n74 < 0)) (K (.bool false) w73) (bcase (n74 != n71) (K (.bool false) w73) (Cll Try.prog 21 #[(.slice A0 n0 c0)] w73 fun v75 w76 => (∃ (A77 : Option Addr) (n78 : Nat) (c79 : Nat), v75 = (.slice A77 n78 c79) ∧ Cll Try.prog 22 #[(.slice A77 n78 c79), (.int .i64 x1), (.int .i64 x2)] w76 fun v80 w81 => (∃ u82 : Value, (∃ (A83 : Option Addr) (n84 : Nat) (c85 : Nat), u82 = (.slice A83 n84 c85) ∧ ∃ u86 : Value, (∃ (b87 : Bool), u86 = (.bool b87) ∧ v80 = (.tuple #[(.slice A83 n84 c85), (.bool b87)]) ∧ Cll Try.prog 23 #[(.slice A83 n84 c85), (.slice A32 n33 c34)] w81 fun v89 w90 => (∃ (b91 : Bool), v89 = (.bool b91) ∧ bcase (!b91) (K (.bool false) w90) (bcase (!(b87 == b36)) (K (.bool false) w90) (Cll Try.prog 27 #[(.slice A45 n46 c47), (.int .i64 1)] w90 fun v92 w93 => (∃ (n94 : Int), v92 = (.int .i64 n94) ∧ bcase (decide (n94 < 0)) (K (.bool false) w93) (bcase (n94 != n71) (K (.bool false) w93) (K (.bool true) w93)))))))))))))))))))))))))))))))))))

def laws_FnExactEndRegs.ann : Ann := (.seq .l (.seq .l (.seq .l (.seq (.seq .l (.two (.seq .l .l) .l)) (.seq .l (.seq .l (.seq .l (.seq (.seq .l (.two (.seq .l .l) .l)) (.seq (.seq .l (.two (.seq .l .l) .l)) (.seq .l (.seq .l (.seq (.seq .l (.two (.seq .l .l) .l)) (.seq .l (.seq .l (.seq .l (.seq .l (.seq (.seq .l (.two (.seq .l .l) .l)) (.seq (.seq .l (.two (.seq .l .l) .l)) (.seq .l (.seq (.seq .l (.two (.seq .l .l) .l)) (.seq .l (.seq .l (.seq (.seq .l (.two (.seq .l .l) .l)) (.seq (.seq .l (.two (.seq .l .l) .l)) (.seq .l .l)))))))))))))))))))))))))

theorem laws_FnExactEndRegs.vc_eq (A0 : Option Addr) (n0 : Nat) (c0 : Nat) (x1 : Int) (x2 : Int) (w : World) (K : Value → World → Prop) : vcF Try.prog Try.f4 laws_FnExactEndRegs.ann [(.slice A0 n0 c0), (.int .i64 x1), (.int .i64 x2)] K w = laws_FnExactEndRegs.vc A0 n0 c0 x1 x2 w K := by kernel_rfl

theorem laws_FnExactEndRegs.start {A0 : Option Addr} {n0 : Nat} {c0 : Nat} {x1 : Int} {x2 : Int} {w : World} {K : Value → World → Prop} (h : laws_FnExactEndRegs.vc A0 n0 c0 x1 x2 w K) : Cll Try.prog 4 #[(.slice A0 n0 c0), (.int .i64 x1), (.int .i64 x2)] w K :=
  vcF_sound mixed (fn := Try.f4) (by kernel_rfl) (by kernel_rfl) (an := laws_FnExactEndRegs.ann) (args := [(.slice A0 n0 c0), (.int .i64 x1), (.int .i64 x2)]) (by rw [laws_FnExactEndRegs.vc_eq]; exact h)

theorem laws_FnExactEndRegs.con {xs0 : List D.Ins} {A0 : Option Addr} {c0 : Nat} {x1 : Int} {x2 : Int} {r : Bool} {w : World} (hp : M.laws_FnExactEndRegs_pre xs0 x1 x2) (hr : r = M.laws_FnExactEndRegs xs0 x1 x2) (R0 : Row el80 w A0 xs0) (hc0 : xs0.length ≤ c0) :
    Cll Try.prog 4 #[(.slice A0 xs0.length c0), (.int .i64 x1), (.int .i64 x2)] w (fun v_ w_ => v_ = (.bool r) ∧ Ext w w_) := by
  have H := wp.laws_FnExactEndRegs.math xs0 x1 x2 hp
  have hB := Ext.refl w
  refine laws_FnExactEndRegs.start ?_
  unfold laws_FnExactEndRegs.vc
  unfold wp.laws_FnExactEndRegs at H
  obtain ⟨hp23, H⟩ := H
  obtain ⟨r21, hr22⟩ : ∃ r_, r_ = M.laws_szInsS xs0 1048576 := ⟨_, rfl⟩
  have H := H r21 hr22
  refine (laws_szInsS.con hp23 hr22 (R0.ext hB) hc0).mono ?_
  rintro _ w24 ⟨rfl, e25⟩
  have hB := ethen hB e25
  refine ⟨r21, rfl, ?_⟩
  refine bcase_mk (fun hc129 => ?_) (fun hc129 => ?_)
  · have H := (bcase_iff.1 H).1 hc129
    obtain rfl := hr.trans H.symm
    exact ⟨rfl, hB⟩
  · have H := (bcase_iff.1 H).2 hc129
    obtain ⟨hp28, H⟩ := H
    obtain ⟨r26, hr27⟩ : ∃ r_, r_ = M.laws_toInsS xs0 := ⟨_, rfl⟩
    have H := H r26 hr27
    refine (laws_toInsS.con hp28 hr27 (R0.ext hB) hc0).mono ?_
    rintro _ w29 ⟨A31, c32, rfl, P2, e30⟩
    have O2 := P2.mono hB.size
    have hB := ethen hB e30
    refine ⟨A31, r26.length, c32, rfl, ?_⟩
    obtain ⟨hp35, H⟩ := H
    obtain ⟨r33, hr34⟩ : ∃ r_, r_ = M.spec_EndRegs r26 x1 x2 := ⟨_, rfl⟩
    have H := H r33 hr34
    refine (spec_EndRegs.con hp35 hr34 O2.row O2.le).mono ?_
    rintro _ w36 ⟨A38, c39, rfl, P3, e37⟩
    have N2_3 := Own.apart2_new O2 P3 (Nat.le_refl _)
    have O2 := O2.ext e37
    have O3 := P3.mono hB.size
    have hB := ethen hB e37
    refine ⟨(.slice A38 r33.1.length c39), ?_⟩
    refine ⟨A38, r33.1.length, c39, rfl, ?_⟩
    refine ⟨(.bool r33.2), ?_⟩
    refine ⟨r33.2, rfl, ?_⟩
    refine ⟨rfl, ?_⟩
    obtain ⟨hp42, H⟩ := H
    obtain ⟨r40, hr41⟩ : ∃ r_, r_ = M.laws_toInsS xs0 := ⟨_, rfl⟩
    have H := H r40 hr41
    refine (laws_toInsS.con hp42 hr41 (R0.ext hB) hc0).mono ?_
    rintro _ w43 ⟨A45, c46, rfl, P4, e44⟩
    have N2_4 := Own.apart2_new O2 P4 (Nat.le_refl _)
    have N3_4 := Own.apart2_new O3 P4 (Nat.le_refl _)
    have O2 := O2.ext e44
    have O3 := O3.ext e44
    have O4 := P4.mono hB.size
    have hB := ethen hB e44
    refine ⟨A45, r40.length, c46, rfl, ?_⟩
    obtain ⟨hp49, H⟩ := H
    obtain ⟨r47, hr48⟩ : ∃ r_, r_ = M.impl_EndRegs r40 x1 x2 := ⟨_, rfl⟩
    have H := H r47 hr48
    refine (impl_EndRegs.con hp49 hr48 O4.row O4.le).mono ?_
    rintro _ w50 ⟨A52, c53, rfl, P5, e51⟩
    have N2_5 := Own.apart2_new O2 P5 (Nat.le_refl _)
    have N3_5 := Own.apart2_new O3 P5 (Nat.le_refl _)
    have N4_5 := Own.apart2_new O4 P5 (Nat.le_refl _)
    have O2 := O2.ext e51
    have O3 := O3.ext e51
    have O4 := O4.ext e51
    have O5 := P5.mono hB.size
    have hB := ethen hB e51
    refine ⟨(.slice A52 r47.1.length c53), ?_⟩
    refine ⟨A52, r47.1.length, c53, rfl, ?_⟩
    refine ⟨(.bool r47.2), ?_⟩
    refine ⟨r47.2, rfl, ?_⟩
    refine ⟨rfl, ?_⟩
    obtain ⟨hp56, H⟩ := H
    obtain ⟨r54, hr55⟩ : ∃ r_, r_ = M.laws_eqIntS r47.1 r33.1 := ⟨_, rfl⟩
    have H := H r54 hr55
    refine (laws_eqIntS.con hp56 hr55 O5.row O5.le O3.row O3.le).mono ?_
    rintro _ w57 ⟨rfl, e58⟩
    have O2 := O2.ext e58
    have O3 := O3.ext e58
    have O4 := O4.ext e58
    have O5 := O5.ext e58
    have hB := ethen hB e58
    refine ⟨r54, rfl, ?_⟩
    refine bcase_mk (fun hc128 => ?_) (fun hc128 => ?_)
    · have H := (bcase_iff.1 H).1 hc128
      obtain rfl := hr.trans H.symm
      exact ⟨rfl, hB⟩
    · have H := (bcase_iff.1 H).2 hc128
      refine bcase_mk (fun hc127 => ?_) (fun hc127 => ?_)
      · have H := (bcase_iff.1 H).1 hc127
        obtain rfl := hr.trans H.symm
        exact ⟨rfl, hB⟩
      · have H := (bcase_iff.1 H).2 hc127
        obtain ⟨hp61, H⟩ := H
        obtain ⟨r59, hr60⟩ : ∃ r_, r_ = M.laws_toInsS xs0 := ⟨_, rfl⟩
        have H := H r59 hr60
        refine (laws_toInsS.con hp61 hr60 (R0.ext hB) hc0).mono ?_
        rintro _ w62 ⟨A64, c65, rfl, P6, e63⟩
        have N2_6 := Own.apart2_new O2 P6 (Nat.le_refl _)
        have N3_6 := Own.apart2_new O3 P6 (Nat.le_refl _)
        have N4_6 := Own.apart2_new O4 P6 (Nat.le_refl _)
        have N5_6 := Own.apart2_new O5 P6 (Nat.le_refl _)
        have O2 := O2.ext e63
        have O3 := O3.ext e63
        have O4 := O4.ext e63
        have O5 := O5.ext e63
        have O6 := P6.mono hB.size
        have hB := ethen hB e63
        refine ⟨A64, r59.length, c65, rfl, ?_⟩
        obtain ⟨hp68, H⟩ := H
        obtain ⟨r66, hr67⟩ : ∃ r_, r_ = M.laws_eqInsS r40 r59 := ⟨_, rfl⟩
        have H := H r66 hr67
        refine (laws_eqInsS.con hp68 hr67 O4.row O4.le O6.row O6.le).mono ?_
        rintro _ w69 ⟨rfl, e70⟩
        have O2 := O2.ext e70
        have O3 := O3.ext e70
        have O4 := O4.ext e70
        have O5 := O5.ext e70
        have O6 := O6.ext e70
        have hB := ethen hB e70
        refine ⟨r66, rfl, ?_⟩
        refine bcase_mk (fun hc126 => ?_) (fun hc126 => ?_)
        · have H := (bcase_iff.1 H).1 hc126
          obtain rfl := hr.trans H.symm
          exact ⟨rfl, hB⟩
        · have H := (bcase_iff.1 H).2 hc126
          obtain ⟨hp73, H⟩ := H
          obtain ⟨r71, hr72⟩ : ∃ r_, r_ = M.laws_markInsS r40 1 := ⟨_, rfl⟩
          have H := H r71 hr72
          refine (laws_markInsS.con hp73 hr72 (O4.mono (Nat.zero_le _))).mono ?_
          rintro _ w74 ⟨rfl, Q4, hl76, e75⟩
          have O2 := O2.chgS e75 (N2_4).inb
          have O3 := O3.chgS e75 (N3_4).inb
          have O5 := O5.chgS e75 ((N4_5).symm).inb
          have O6 := O6.chgS e75 ((N4_6).symm).inb
          have hB := Chg.ext hB e75 O4.low
          have O4 := Q4.up O4
          refine ⟨r71.1, rfl, ?_⟩
          refine bcase_mk (fun hc125 => ?_) (fun hc125 => ?_)
          · have H := (bcase_iff.1 H).1 hc125
            obtain rfl := hr.trans H.symm
            exact ⟨rfl, hB⟩
          · have H := (bcase_iff.1 H).2 hc125
            obtain ⟨hp79, H⟩ := H
            obtain ⟨r77, hr78⟩ : ∃ r_, r_ = M.laws_eqIntS r47.1 r33.1 := ⟨_, rfl⟩
            have H := H r77 hr78
            refine (laws_eqIntS.con hp79 hr78 O5.row O5.le O3.row O3.le).mono ?_
            rintro _ w80 ⟨rfl, e81⟩
            have O2 := O2.ext e81
            have O3 := O3.ext e81
            have O4 := O4.ext e81
            have O5 := O5.ext e81
            have O6 := O6.ext e81
            have hB := ethen hB e81
            refine ⟨r77, rfl, ?_⟩
            refine bcase_mk (fun hc124 => ?_) (fun hc124 => ?_)
            · have H := (bcase_iff.1 H).1 hc124
              obtain rfl := hr.trans H.symm
              exact ⟨rfl, hB⟩
            · have H := (bcase_iff.1 H).2 hc124
              refine bcase_mk (fun hc123 => ?_) (fun hc123 => ?_)
              · have H := (bcase_iff.1 H).1 hc123
                obtain rfl := hr.trans H.symm
                exact ⟨rfl, hB⟩
              · have H := (bcase_iff.1 H).2 hc123
                obtain ⟨hp84, H⟩ := H
                obtain ⟨r82, hr83⟩ : ∃ r_, r_ = M.laws_markIntS r47.1 1 := ⟨_, rfl⟩
                have H := H r82 hr83
                refine (laws_markIntS.con hp84 hr83 (O5.mono (Nat.zero_le _))).mono ?_
                rintro _ w85 ⟨rfl, Q5, hl87, e86⟩
                have O2 := O2.chgS e86 (N2_5).inb
                have O3 := O3.chgS e86 (N3_5).inb
                have O4 := O4.chgS e86 (N4_5).inb
                have O6 := O6.chgS e86 ((N5_6).symm).inb
                have hB := Chg.ext hB e86 O5.low
                have O5 := Q5.up O5
                refine ⟨r82.1, rfl, ?_⟩
                obtain ⟨hp90, H⟩ := H
                obtain ⟨r88, hr89⟩ : ∃ r_, r_ = M.laws_heldIntS r82.2 1 := ⟨_, rfl⟩
                have H := H r88 hr89
                refine (cllArgs (by first | (simp only [List.length_set, hl87]; done) | (simp; done)) (laws_heldIntS.con hp90 hr89 O5.row O5.le)).mono ?_
                rintro _ w91 ⟨rfl, e92⟩
                have O2 := O2.ext e92
                have O3 := O3.ext e92
                have O4 := O4.ext e92
                have O5 := O5.ext e92
                have O6 := O6.ext e92
                have hB := ethen hB e92
                refine ⟨r88, rfl, ?_⟩
                refine bcase_mk (fun hc122 => ?_) (fun hc122 => ?_)
                · have H := (bcase_iff.1 H).1 hc122
                  obtain rfl := hr.trans H.symm
                  exact ⟨rfl, hB⟩
                · have H := (bcase_iff.1 H).2 hc122
                  refine bcase_mk (fun hc121 => ?_) (fun hc121 => ?_)
                  · have H := (bcase_iff.1 H).1 hc121
                    obtain rfl := hr.trans H.symm
                    exact ⟨rfl, hB⟩
                  · have H := (bcase_iff.1 H).2 hc121
                    obtain ⟨hp95, H⟩ := H
                    obtain ⟨r93, hr94⟩ : ∃ r_, r_ = M.laws_toInsS xs0 := ⟨_, rfl⟩
                    have H := H r93 hr94
                    refine (laws_toInsS.con hp95 hr94 (R0.ext hB) hc0).mono ?_
                    rintro _ w96 ⟨A98, c99, rfl, P7, e97⟩
                    have N2_7 := Own.apart2_new O2 P7 (Nat.le_refl _)
                    have N3_7 := Own.apart2_new O3 P7 (Nat.le_refl _)
                    have N4_7 := Own.apart2_new O4 P7 (Nat.le_refl _)
                    have N5_7 := Own.apart2_new O5 P7 (Nat.le_refl _)
                    have N6_7 := Own.apart2_new O6 P7 (Nat.le_refl _)
                    have O2 := O2.ext e97
                    have O3 := O3.ext e97
                    have O4 := O4.ext e97
                    have O5 := O5.ext e97
                    have O6 := O6.ext e97
                    have O7 := P7.mono hB.size
                    have hB := ethen hB e97
                    refine ⟨A98, r93.length, c99, rfl, ?_⟩
                    obtain ⟨hp102, H⟩ := H
                    obtain ⟨r100, hr101⟩ : ∃ r_, r_ = M.impl_EndRegs r93 x1 x2 := ⟨_, rfl⟩
                    have H := H r100 hr101
                    refine (impl_EndRegs.con hp102 hr101 O7.row O7.le).mono ?_
                    rintro _ w103 ⟨A105, c106, rfl, P8, e104⟩
                    have N2_8 := Own.apart2_new O2 P8 (Nat.le_refl _)
                    have N3_8 := Own.apart2_new O3 P8 (Nat.le_refl _)
                    have N4_8 := Own.apart2_new O4 P8 (Nat.le_refl _)
                    have N5_8 := Own.apart2_new O5 P8 (Nat.le_refl _)
                    have N6_8 := Own.apart2_new O6 P8 (Nat.le_refl _)
                    have N7_8 := Own.apart2_new O7 P8 (Nat.le_refl _)
                    have O2 := O2.ext e104
                    have O3 := O3.ext e104
                    have O4 := O4.ext e104
                    have O5 := O5.ext e104
                    have O6 := O6.ext e104
                    have O7 := O7.ext e104
                    have O8 := P8.mono hB.size
                    have hB := ethen hB e104
                    refine ⟨(.slice A105 r100.1.length c106), ?_⟩
                    refine ⟨A105, r100.1.length, c106, rfl, ?_⟩
                    refine ⟨(.bool r100.2), ?_⟩
                    refine ⟨r100.2, rfl, ?_⟩
                    refine ⟨rfl, ?_⟩
                    obtain ⟨hp109, H⟩ := H
                    obtain ⟨r107, hr108⟩ : ∃ r_, r_ = M.laws_eqIntS r100.1 r33.1 := ⟨_, rfl⟩
                    have H := H r107 hr108
                    refine (laws_eqIntS.con hp109 hr108 O8.row O8.le O3.row O3.le).mono ?_
                    rintro _ w110 ⟨rfl, e111⟩
                    have O2 := O2.ext e111
                    have O3 := O3.ext e111
                    have O4 := O4.ext e111
                    have O5 := O5.ext e111
                    have O6 := O6.ext e111
                    have O7 := O7.ext e111
                    have O8 := O8.ext e111
                    have hB := ethen hB e111
                    refine ⟨r107, rfl, ?_⟩
                    refine bcase_mk (fun hc120 => ?_) (fun hc120 => ?_)
                    · have H := (bcase_iff.1 H).1 hc120
                      obtain rfl := hr.trans H.symm
                      exact ⟨rfl, hB⟩
                    · have H := (bcase_iff.1 H).2 hc120
                      refine bcase_mk (fun hc119 => ?_) (fun hc119 => ?_)
                      · have H := (bcase_iff.1 H).1 hc119
                        obtain rfl := hr.trans H.symm
                        exact ⟨rfl, hB⟩
                      · have H := (bcase_iff.1 H).2 hc119
                        obtain ⟨hp114, H⟩ := H
                        obtain ⟨r112, hr113⟩ : ∃ r_, r_ = M.laws_heldIntS r82.2 1 := ⟨_, rfl⟩
                        have H := H r112 hr113
                        refine (cllArgs (by first | (simp only [List.length_set, hl87]; done) | (simp; done)) (laws_heldIntS.con hp114 hr113 O5.row O5.le)).mono ?_
                        rintro _ w115 ⟨rfl, e116⟩
                        have O2 := O2.ext e116
                        have O3 := O3.ext e116
                        have O4 := O4.ext e116
                        have O5 := O5.ext e116
                        have O6 := O6.ext e116
                        have O7 := O7.ext e116
                        have O8 := O8.ext e116
                        have hB := ethen hB e116
                        refine ⟨r112, rfl, ?_⟩
                        refine bcase_mk (fun hc118 => ?_) (fun hc118 => ?_)
                        · have H := (bcase_iff.1 H).1 hc118
                          obtain rfl := hr.trans H.symm
                          exact ⟨rfl, hB⟩
                        · have H := (bcase_iff.1 H).2 hc118
                          refine bcase_mk (fun hc117 => ?_) (fun hc117 => ?_)
                          · have H := (bcase_iff.1 H).1 hc117
                            obtain rfl := hr.trans H.symm
                            exact ⟨rfl, hB⟩
                          · have H := (bcase_iff.1 H).2 hc117
                            obtain rfl := hr.trans H.symm
                            exact ⟨rfl, hB⟩

end Go.V
