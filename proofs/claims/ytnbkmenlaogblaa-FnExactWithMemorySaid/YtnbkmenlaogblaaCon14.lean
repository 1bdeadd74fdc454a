import Derived.Test.YtnbkmenlaogblaaMath14
import Derived.Test.YtnbkmenlaogblaaSeat
import Derived.Test.YtnbkmenlaogblaaCon13
import Derived.Test.YtnbkmenlaogblaaCon6
namespace Go.V
open Go.Proofs
set_option linter.unusedVariables false
set_option linter.unusedSimpArgs false
set_option maxRecDepth 100000

def spec_WarpOk.vc (A0 : Option Addr) (n0 : Nat) (c0 : Nat) (x1_0 : Int) (A1_1 : Option Addr) (n1_1 : Nat) (c1_1 : Nat) (A1_2 : Option Addr) (n1_2 : Nat) (c1_2 : Nat) (w : World) (K : Value → World → Prop) : Prop :=
  newK w (.cells #[(.int .i64 x1_0), (.slice A1_1 n1_1 c1_1), (.slice A1_2 n1_2 c1_2)] 102) fun g21 w22 => Cll Try.prog 74 #[(.slice A0 n0 c0)] w22 fun v24 w25 => (∃ (b26 : Bool), v24 = (.bool b26) ∧ bcase (!b26) (K (.bool false) w25) (∃ (n27 : Int), w25.cell? (((⟨g21, 0, none⟩ : Addr).add 0).add 0) = some (.int .i64 n27) ∧ Cll Try.prog 103 #[(.int .i64 n27), (.int .i64 0), (.int .i64 2)] w25 fun v28 w29 => (∃ (b30 : Bool), v28 = (.bool b30) ∧ bcase (!b30) (K (.bool false) w29) (∃ (A31 : Option Addr) (n32 : Nat) (c33 : Nat), w29.cell? (((⟨g21, 0, none⟩ : Addr).add 2).add 0) = some (.slice A31 n32 c33) ∧ bcase (((n32 : Nat) : Int) != 32) (K (.bool false) w29) (∃ (A34 : Option Addr) (n35 : Nat) (c36 : Nat), w29.cell? (((⟨g21, 0, none⟩ : Addr).add 2).add 0) = some (.slice A34 n35 c36) ∧ Cll Try.prog 63 #[(.slice A34 n35 c36)] w29 fun v37 w38 => (∃ (b39 : Bool), v37 = (.bool b39) ∧ bcase (!b39) (K (.bool false) w38) (∃ (A40 : Option Addr) (n41 : Nat) (c42 : Nat), w38.cell? (((⟨g21, 0, none⟩ : Addr).add 1).add 0) = some (.slice A40 n41 c42) ∧ bcase (decide (((n41 : Nat) : Int) > 24)) (K (.bool false) w38) (LoopT (σ := Int × Unit) (fun z43 w44 next45 => ∃ (A46 : Option Addr) (n47 : Nat) (c48 : Nat), w44.cell? (((⟨g21, 0, none⟩ : Addr).add 1).add 0) = some (.slice A46 n47 c48) ∧ bcase (decide (z43.1 < ((n47 : Nat) : Int))) (∃ (A49 : Option Addr) (n50 : Nat) (c51 : Nat), w44.cell? (((⟨g21, 0, none⟩ : Addr).add 1).add 0) = some (.slice A49 n50 c51) ∧ ((0 : Int) ≤ z43.1 ∧ z43.1 < ((n50 : Nat) : Int) ∧ ∃ a52 : Addr, A49 = some a52 ∧ ∃ (n53 : Int), w44.cell? ((a52.add ((z43.1.toNat) * 3)).add 0) = some (.int .i64 n53) ∧ ∃ (n54 : Int), w44.cell? ((a52.add ((z43.1.toNat) * 3)).add 1) = some (.int .i64 n54) ∧ ∃ (n55 : Int), w44.cell? ((a52.add ((z43.1.toNat) * 3)).add 2) = some (.int .i64 n55) ∧ newK w44 (.cells #[(.int .i64 0), (.int .i64 0), (.int .i64 0)] 132) fun g56 w57 => stCells (⟨g56, 0, none⟩ : Addr) [(.int .i64 n53), (.int .i64 n54), (.int .i64 n55)] 0 w57 fun w58 => ∃ (n60 : Int), w58.cell? (((⟨g56, 0, none⟩ : Addr).add 0).add 0) = some (.int .i64 n60) ∧ Cll Try.prog 103 #[(.int .i64 n60), (.int .i64 0), (.int .i64 ((n0 : Nat) : Int))] w58 fun v61 w62 => (∃ (b63 : Bool), v61 = (.bool b63) ∧ bcase (!b63) (K (.bool false) w62) (∃ (n64 : Int), w62.cell? (((⟨g56, 0, none⟩ : Addr).add 1).add 0) = some (.int .i64 n64) ∧ Cll Try.prog 103 #[(.int .i64 n64), (.int .i64 0), (.int .i64 ((n0 : Nat) : Int))] w62 fun v65 w66 => (∃ (b67 : Bool), v65 = (.bool b67) ∧ bcase (!b67) (K (.bool false) w66) (∃ (n68 : Int), w66.cell? (((⟨g56, 0, none⟩ : Addr).add 2).add 0) = some (.int .i64 n68) ∧ Cll Try.prog 156 #[(.int .i64 n68)] w66 fun v69 w70 => (∃ (b71 : Bool), v69 = (.bool b71) ∧ bcase (!b71) (K (.bool false) w70) (∃ (n72 : Int), w70.cell? (((⟨g56, 0, none⟩ : Addr).add 2).add 0) = some (.int .i64 n72) ∧ bcase (n72 == 0) (K (.bool false) w70) (bcase (z43.1 == 0) (∃ (n73 : Int), w70.cell? (((⟨g56, 0, none⟩ : Addr).add 1).add 0) = some (.int .i64 n73) ∧ bcase (n73 != ((n0 : Nat) : Int)) (K (.bool false) w70) (∃ (n74 : Int), w70.cell? (((⟨g56, 0, none⟩ : Addr).add 2).add 0) = some (.int .i64 n74) ∧ bcase (n74 != 255) (K (.bool false) w70) (∃ (A75 : Option Addr) (n76 : Nat) (c77 : Nat), w70.cell? (((⟨g21, 0, none⟩ : Addr).add 1).add 0) = some (.slice A75 n76 c77) ∧ bcase (z43.1 == (IntKind.wrap .i64 (((n76 : Nat) : Int) - 1))) (∃ (n78 : Int), w70.cell? (((⟨g56, 0, none⟩ : Addr).add 0).add 0) = some (.int .i64 n78) ∧ ∃ (n79 : Int), w70.cell? (((⟨g56, 0, none⟩ : Addr).add 1).add 0) = some (.int .i64 n79) ∧ bcase (n78 == n79) (K (.bool false) w70) (∃ (n80 : Int), w70.cell? (((⟨g56, 0, none⟩ : Addr).add 0).add 0) = some (.int .i64 n80) ∧ bcase (n80 == ((n0 : Nat) : Int)) (K (.bool false) w70) (next45 ((IntKind.wrap .i64 (z43.1 + 1)), ()) w70))) (next45 ((IntKind.wrap .i64 (z43.1 + 1)), ()) w70)))) (∃ (A81 : Option Addr) (n82 : Nat) (c83 : Nat), w70.cell? (((⟨g21, 0, none⟩ : Addr).add 1).add 0) = some (.slice A81 n82 c83) ∧ bcase (z43.1 == (IntKind.wrap .i64 (((n82 : Nat) : Int) - 1))) (∃ (n84 : Int), w70.cell? (((⟨g56, 0, none⟩ : Addr).add 0).add 0) = some (.int .i64 n84) ∧ ∃ (n85 : Int), w70.cell? (((⟨g56, 0, none⟩ : Addr).add 1).add 0) = some (.int .i64 n85) ∧ bcase (n84 == n85) (K (.bool false) w70) (∃ (n86 : Int), w70.cell? (((⟨g56, 0, none⟩ : Addr).add 0).add 0) = some (.int .i64 n86) ∧ bcase (n86 == ((n0 : Nat) : Int)) (K (.bool false) w70) (next45 ((IntKind.wrap .i64 (z43.1 + 1)), ()) w70))) (next45 ((IntKind.wrap .i64 (z43.1 + 1)), ()) w70))))))))))) (K (.bool true) w44)) (0, ()) w38))))))))

def spec_WarpOk.ann : Ann := (.seq .l (.seq (.seq .l (.two (.seq .l .l) .l)) (.seq (.seq .l (.one (.loop [(5, .int .i64)] (.seq (.seq .l (.two .l .l)) (.seq (.one (.seq .l (.seq (.seq .l (.two (.seq .l .l) .l)) (.seq .l (.two (.seq .l .l) .l))))) .l))))) (.seq .l .l))))

theorem spec_WarpOk.vc_eq (A0 : Option Addr) (n0 : Nat) (c0 : Nat) (x1_0 : Int) (A1_1 : Option Addr) (n1_1 : Nat) (c1_1 : Nat) (A1_2 : Option Addr) (n1_2 : Nat) (c1_2 : Nat) (w : World) (K : Value → World → Prop) : vcF Try.prog Try.f112 spec_WarpOk.ann [(.slice A0 n0 c0), (.agg #[(.int .i64 x1_0), (.slice A1_1 n1_1 c1_1), (.slice A1_2 n1_2 c1_2)])] K w = spec_WarpOk.vc A0 n0 c0 x1_0 A1_1 n1_1 c1_1 A1_2 n1_2 c1_2 w K := by kernel_rfl

theorem spec_WarpOk.start {A0 : Option Addr} {n0 : Nat} {c0 : Nat} {x1_0 : Int} {A1_1 : Option Addr} {n1_1 : Nat} {c1_1 : Nat} {A1_2 : Option Addr} {n1_2 : Nat} {c1_2 : Nat} {w : World} {K : Value → World → Prop} (h : spec_WarpOk.vc A0 n0 c0 x1_0 A1_1 n1_1 c1_1 A1_2 n1_2 c1_2 w K) : Cll Try.prog 112 #[(.slice A0 n0 c0), (.agg #[(.int .i64 x1_0), (.slice A1_1 n1_1 c1_1), (.slice A1_2 n1_2 c1_2)])] w K :=
  vcF_sound mixed (fn := Try.f112) (by kernel_rfl) (by kernel_rfl) (an := spec_WarpOk.ann) (args := [(.slice A0 n0 c0), (.agg #[(.int .i64 x1_0), (.slice A1_1 n1_1 c1_1), (.slice A1_2 n1_2 c1_2)])]) (by rw [spec_WarpOk.vc_eq]; exact h)

theorem spec_WarpOk.con {xs0 : List D.Ins} {A0 : Option Addr} {c0 : Nat} {s1 : D.Warp} {A1_1 : Option Addr} {c1_1 : Nat} {A1_2 : Option Addr} {c1_2 : Nat} {r : Bool} {w : World} (hp : M.spec_WarpOk_pre xs0 s1) (hr : r = M.spec_WarpOk xs0 s1) (R0 : Row el76 w A0 xs0) (hc0 : xs0.length ≤ c0) (R1_1 : Row el132 w A1_1 s1.Frames) (hc1_1 : s1.Frames.length ≤ c1_1) (R1_2 : Row el3 w A1_2 s1.Regs) (hc1_2 : s1.Regs.length ≤ c1_2) :
    Cll Try.prog 112 #[(.slice A0 xs0.length c0), (.agg #[(.int .i64 s1.Number), (.slice A1_1 s1.Frames.length c1_1), (.slice A1_2 s1.Regs.length c1_2)])] w (fun v_ w_ => v_ = (.bool r) ∧ Ext w w_) := by
  have H := wp.spec_WarpOk.math xs0 s1 hp
  have hB := Ext.refl w
  refine spec_WarpOk.start ?_
  unfold spec_WarpOk.vc
  unfold wp.spec_WarpOk at H
  refine newBlk (fun g4_ w21 L4 P4 e22 => ?_)
  have O4 := P4
  have L4 := Nat.le_trans hB.size L4
  have hB := ethen hB e22
  obtain ⟨hp25, H⟩ := H
  obtain ⟨r23, hr24⟩ : ∃ r_, r_ = M.spec_ProgramOk xs0 := ⟨_, rfl⟩
  have H := H r23 hr24
  refine (spec_ProgramOk.con hp25 hr24 (R0.ext hB) hc0).mono ?_
  rintro _ w26 ⟨rfl, e27⟩
  have O4 := O4.ext e27
  have hB := ethen hB e27
  refine ⟨r23, rfl, ?_⟩
  refine bcase_mk (fun hc102 => ?_) (fun hc102 => ?_)
  · have H := (bcase_iff.1 H).1 hc102
    obtain rfl := hr.trans H.symm
    exact ⟨rfl, hB⟩
  · have H := (bcase_iff.1 H).2 hc102
    refine ⟨_, (O4.at 0 rfl rfl), ?_⟩
    obtain ⟨r28, hr29⟩ : ∃ r_, r_ = M.spec_l01In s1.Number 0 2 := ⟨_, rfl⟩
    have H := H r28 hr29
    refine (spec_l01In.con hr29 ).mono ?_
    rintro _ w31 ⟨rfl, e32⟩
    have O4 := O4.ext e32
    have hB := ethen hB e32
    refine ⟨r28, rfl, ?_⟩
    refine bcase_mk (fun hc101 => ?_) (fun hc101 => ?_)
    · have H := (bcase_iff.1 H).1 hc101
      obtain rfl := hr.trans H.symm
      exact ⟨rfl, hB⟩
    · have H := (bcase_iff.1 H).2 hc101
      refine ⟨_, _, _, (O4.at 2 rfl rfl), ?_⟩
      refine bcase_mk (fun hc100 => ?_) (fun hc100 => ?_)
      · have H := (bcase_iff.1 H).1 hc100
        obtain rfl := hr.trans H.symm
        exact ⟨rfl, hB⟩
      · have H := (bcase_iff.1 H).2 hc100
        refine ⟨_, _, _, (O4.at 2 rfl rfl), ?_⟩
        obtain ⟨hp35, H⟩ := H
        obtain ⟨r33, hr34⟩ : ∃ r_, r_ = M.spec_AreWords s1.Regs := ⟨_, rfl⟩
        have H := H r33 hr34
        refine (spec_AreWords.con hp35 hr34 (R1_2.ext hB) hc1_2).mono ?_
        rintro _ w36 ⟨rfl, e37⟩
        have O4 := O4.ext e37
        have hB := ethen hB e37
        refine ⟨r33, rfl, ?_⟩
        refine bcase_mk (fun hc99 => ?_) (fun hc99 => ?_)
        · have H := (bcase_iff.1 H).1 hc99
          obtain rfl := hr.trans H.symm
          exact ⟨rfl, hB⟩
        · have H := (bcase_iff.1 H).2 hc99
          refine ⟨_, _, _, (O4.at 1 rfl rfl), ?_⟩
          refine bcase_mk (fun hc98 => ?_) (fun hc98 => ?_)
          · have H := (bcase_iff.1 H).1 hc98
            obtain rfl := hr.trans H.symm
            exact ⟨rfl, hB⟩
          · have H := (bcase_iff.1 H).2 hc98
            obtain ⟨J40, ⟨m96, hJ95⟩, hS41⟩ := H
            refine ⟨fun m_ z_ w_ => ∃ (i38 : Int), z_ = (i38, ()) ∧ J40 m_ (i38, ()) ∧ Ext w w_ ∧ Blk w_ g4_ 102 #[(.int .i64 s1.Number), (.slice A1_1 s1.Frames.length c1_1), (.slice A1_2 s1.Regs.length c1_2)], ⟨m96, 0, rfl, hJ95, hB, O4⟩, ?_⟩
            rintro m39 _ w43 ⟨i38, rfl, hJ97, hB, O4⟩
            have H := hS41 m39 _ hJ97
            clear hS41 hJ97
            dsimp only at H ⊢
            refine ⟨_, _, _, (O4.at 1 rfl rfl), ?_⟩
            refine bcase_mk (fun hc93 => ?_) (fun hc93 => ?_)
            · have H := (bcase_iff.1 H).1 hc93
              refine ⟨_, _, _, (O4.at 1 rfl rfl), ?_⟩
              obtain ⟨⟨h0_47, h1_48⟩, H⟩ := H
              obtain ⟨a45, ha46, hat44⟩ := Row.at (R1_1.ext hB) h0_47 h1_48
              refine ⟨h0_47, h1_48, a45, ha46, ?_⟩
              refine ⟨_, (hat44 0 _ rfl), ?_⟩
              refine ⟨_, (hat44 1 _ rfl), ?_⟩
              refine ⟨_, (hat44 2 _ rfl), ?_⟩
              refine newBlk (fun g5_ w49 L5 P5 e50 => ?_)
              have N4_5 := O4.ne L5
              have O4 := O4.ext e50
              have O5 := P5
              have L5 := Nat.le_trans hB.size L5
              have hB := ethen hB e50
              refine stBlk O5 (o := 0) (cs' := #[(.int .i64 ((rd s1.Frames i38).Pc)), (.int .i64 ((rd s1.Frames i38).Stop)), (.int .i64 ((rd s1.Frames i38).Mask))]) rfl rfl (Nat.le_of_ble_eq_true rfl) rfl (fun w51 P5 e52 => ?_)
              have O4_ := O4.chg e52 N4_5
              have O4 := O4_
              have hB := echg hB e52 L5
              have O5 := P5
              refine ⟨_, (O5.at 0 rfl rfl), ?_⟩
              obtain ⟨r53, hr54⟩ : ∃ r_, r_ = M.spec_l01In ((rd s1.Frames i38).Pc) 0 ((xs0.length : Nat) : Int) := ⟨_, rfl⟩
              have H := H r53 hr54
              refine (spec_l01In.con hr54 ).mono ?_
              rintro _ w56 ⟨rfl, e57⟩
              have O4 := O4.ext e57
              have O5 := O5.ext e57
              have hB := ethen hB e57
              refine ⟨r53, rfl, ?_⟩
              refine bcase_mk (fun hc92 => ?_) (fun hc92 => ?_)
              · have H := (bcase_iff.1 H).1 hc92
                obtain rfl := hr.trans H.symm
                exact ⟨rfl, hB⟩
              · have H := (bcase_iff.1 H).2 hc92
                refine ⟨_, (O5.at 1 rfl rfl), ?_⟩
                obtain ⟨r58, hr59⟩ : ∃ r_, r_ = M.spec_l01In ((rd s1.Frames i38).Stop) 0 ((xs0.length : Nat) : Int) := ⟨_, rfl⟩
                have H := H r58 hr59
                refine (spec_l01In.con hr59 ).mono ?_
                rintro _ w61 ⟨rfl, e62⟩
                have O4 := O4.ext e62
                have O5 := O5.ext e62
                have hB := ethen hB e62
                refine ⟨r58, rfl, ?_⟩
                refine bcase_mk (fun hc91 => ?_) (fun hc91 => ?_)
                · have H := (bcase_iff.1 H).1 hc91
                  obtain rfl := hr.trans H.symm
                  exact ⟨rfl, hB⟩
                · have H := (bcase_iff.1 H).2 hc91
                  refine ⟨_, (O5.at 2 rfl rfl), ?_⟩
                  obtain ⟨r63, hr64⟩ : ∃ r_, r_ = M.spec_IsMask ((rd s1.Frames i38).Mask) := ⟨_, rfl⟩
                  have H := H r63 hr64
                  refine (spec_IsMask.con hr64 ).mono ?_
                  rintro _ w66 ⟨rfl, e67⟩
                  have O4 := O4.ext e67
                  have O5 := O5.ext e67
                  have hB := ethen hB e67
                  refine ⟨r63, rfl, ?_⟩
                  refine bcase_mk (fun hc90 => ?_) (fun hc90 => ?_)
                  · have H := (bcase_iff.1 H).1 hc90
                    obtain rfl := hr.trans H.symm
                    exact ⟨rfl, hB⟩
                  · have H := (bcase_iff.1 H).2 hc90
                    refine ⟨_, (O5.at 2 rfl rfl), ?_⟩
                    refine bcase_mk (fun hc89 => ?_) (fun hc89 => ?_)
                    · have H := (bcase_iff.1 H).1 hc89
                      obtain rfl := hr.trans H.symm
                      exact ⟨rfl, hB⟩
                    · have H := (bcase_iff.1 H).2 hc89
                      refine bcase_mk (fun hc88 => ?_) (fun hc88 => ?_)
                      · have H := (bcase_iff.1 H).1 hc88
                        refine ⟨_, (O5.at 1 rfl rfl), ?_⟩
                        refine bcase_mk (fun hc78 => ?_) (fun hc78 => ?_)
                        · have H := (bcase_iff.1 H).1 hc78
                          obtain rfl := hr.trans H.symm
                          exact ⟨rfl, hB⟩
                        · have H := (bcase_iff.1 H).2 hc78
                          refine ⟨_, (O5.at 2 rfl rfl), ?_⟩
                          refine bcase_mk (fun hc77 => ?_) (fun hc77 => ?_)
                          · have H := (bcase_iff.1 H).1 hc77
                            obtain rfl := hr.trans H.symm
                            exact ⟨rfl, hB⟩
                          · have H := (bcase_iff.1 H).2 hc77
                            refine ⟨_, _, _, (O4.at 1 rfl rfl), ?_⟩
                            refine bcase_mk (fun hc76 => ?_) (fun hc76 => ?_)
                            · have H := (bcase_iff.1 H).1 hc76
                              refine ⟨_, (O5.at 0 rfl rfl), ?_⟩
                              refine ⟨_, (O5.at 1 rfl rfl), ?_⟩
                              refine bcase_mk (fun hc72 => ?_) (fun hc72 => ?_)
                              · have H := (bcase_iff.1 H).1 hc72
                                obtain rfl := hr.trans H.symm
                                exact ⟨rfl, hB⟩
                              · have H := (bcase_iff.1 H).2 hc72
                                refine ⟨_, (O5.at 0 rfl rfl), ?_⟩
                                refine bcase_mk (fun hc71 => ?_) (fun hc71 => ?_)
                                · have H := (bcase_iff.1 H).1 hc71
                                  obtain rfl := hr.trans H.symm
                                  exact ⟨rfl, hB⟩
                                · have H := (bcase_iff.1 H).2 hc71
                                  obtain ⟨m68, hm69, hJ70⟩ := H
                                  exact ⟨m68, hm69, (IntKind.wrap .i64 (i38 + 1)), rfl, hJ70, hB, O4⟩
                            · have H := (bcase_iff.1 H).2 hc76
                              obtain ⟨m73, hm74, hJ75⟩ := H
                              exact ⟨m73, hm74, (IntKind.wrap .i64 (i38 + 1)), rfl, hJ75, hB, O4⟩
                      · have H := (bcase_iff.1 H).2 hc88
                        refine ⟨_, _, _, (O4.at 1 rfl rfl), ?_⟩
                        refine bcase_mk (fun hc87 => ?_) (fun hc87 => ?_)
                        · have H := (bcase_iff.1 H).1 hc87
                          refine ⟨_, (O5.at 0 rfl rfl), ?_⟩
                          refine ⟨_, (O5.at 1 rfl rfl), ?_⟩
                          refine bcase_mk (fun hc83 => ?_) (fun hc83 => ?_)
                          · have H := (bcase_iff.1 H).1 hc83
                            obtain rfl := hr.trans H.symm
                            exact ⟨rfl, hB⟩
                          · have H := (bcase_iff.1 H).2 hc83
                            refine ⟨_, (O5.at 0 rfl rfl), ?_⟩
                            refine bcase_mk (fun hc82 => ?_) (fun hc82 => ?_)
                            · have H := (bcase_iff.1 H).1 hc82
                              obtain rfl := hr.trans H.symm
                              exact ⟨rfl, hB⟩
                            · have H := (bcase_iff.1 H).2 hc82
                              obtain ⟨m79, hm80, hJ81⟩ := H
                              exact ⟨m79, hm80, (IntKind.wrap .i64 (i38 + 1)), rfl, hJ81, hB, O4⟩
                        · have H := (bcase_iff.1 H).2 hc87
                          obtain ⟨m84, hm85, hJ86⟩ := H
                          exact ⟨m84, hm85, (IntKind.wrap .i64 (i38 + 1)), rfl, hJ86, hB, O4⟩
            · have H := (bcase_iff.1 H).2 hc93
              obtain rfl := hr.trans H.symm
              exact ⟨rfl, hB⟩

def spec_BlockOk.vc (A0_0 : Option Addr) (n0_0 : Nat) (c0_0 : Nat) (A0_1 : Option Addr) (n0_1 : Nat) (c0_1 : Nat) (A0_2 : Option Addr) (n0_2 : Nat) (c0_2 : Nat) (x0_3 : Int) (x0_4 : Int) (w : World) (K : Value → World → Prop) : Prop :=
  newK w (.cells #[(.slice A0_0 n0_0 c0_0), (.slice A0_1 n0_1 c0_1), (.slice A0_2 n0_2 c0_2), (.int .i64 x0_3), (.int .i64 x0_4)] 32) fun g21 w22 => (∃ M24 : Nat → Prop, ∃ (A25 : Option Addr) (n26 : Nat) (c27 : Nat), (¬ M24 (((⟨g21, 0, none⟩ : Addr).add 0)).block ∧ w22.cell? (((⟨g21, 0, none⟩ : Addr).add 0).add 0) = some (.slice A25 n26 c27)) ∧ Cll Try.prog 74 #[(.slice A25 n26 c27)] w22.drew fun v28 w29 => (∃ (b30 : Bool), v28 = (.bool b30) ∧ SameBut M24 w22 w29 ∧ bcase (!b30) (K (.bool false) w29) (∃ (A31 : Option Addr) (n32 : Nat) (c33 : Nat), (¬ M24 (((⟨g21, 0, none⟩ : Addr).add 1)).block ∧ w22.cell? (((⟨g21, 0, none⟩ : Addr).add 1).add 0) = some (.slice A31 n32 c33)) ∧ Cll Try.prog 103 #[(.int .i64 ((n32 : Nat) : Int)), (.int .i64 1), (.int .i64 3)] w29 fun v34 w35 => (∃ (b36 : Bool), v34 = (.bool b36) ∧ SameBut M24 w22 w35 ∧ bcase (!b36) (K (.bool false) w35) (∃ (A37 : Option Addr) (n38 : Nat) (c39 : Nat), (¬ M24 (((⟨g21, 0, none⟩ : Addr).add 2)).block ∧ w22.cell? (((⟨g21, 0, none⟩ : Addr).add 2).add 0) = some (.slice A37 n38 c39)) ∧ bcase (((n38 : Nat) : Int) != 32) (K (.bool false) w35) (∃ (A40 : Option Addr) (n41 : Nat) (c42 : Nat), (¬ M24 (((⟨g21, 0, none⟩ : Addr).add 2)).block ∧ w22.cell? (((⟨g21, 0, none⟩ : Addr).add 2).add 0) = some (.slice A40 n41 c42)) ∧ Cll Try.prog 63 #[(.slice A40 n41 c42)] w35 fun v43 w44 => (∃ (b45 : Bool), v43 = (.bool b45) ∧ SameBut M24 w22 w44 ∧ bcase (!b45) (K (.bool false) w44) (∃ (n46 : Int), (¬ M24 (((⟨g21, 0, none⟩ : Addr).add 3)).block ∧ w22.cell? (((⟨g21, 0, none⟩ : Addr).add 3).add 0) = some (.int .i64 n46)) ∧ ∃ (A47 : Option Addr) (n48 : Nat) (c49 : Nat), (¬ M24 (((⟨g21, 0, none⟩ : Addr).add 1)).block ∧ w22.cell? (((⟨g21, 0, none⟩ : Addr).add 1).add 0) = some (.slice A47 n48 c49)) ∧ ((0 : Int) ≤ ((n48 : Nat) : Int) ∧ Cll Try.prog 103 #[(.int .i64 n46), (.int .i64 0), (.int .i64 (IntKind.wrap .i64 ((IntKind.wrap .i64 (1 * 2 ^ (min (((n48 : Nat) : Int).toNat) (IntKind.bits .i64)))) - 2)))] w44 fun v50 w51 => (∃ (b52 : Bool), v50 = (.bool b52) ∧ SameBut M24 w22 w51 ∧ bcase (!b52) (K (.bool false) w51) (∃ (n53 : Int), (¬ M24 (((⟨g21, 0, none⟩ : Addr).add 4)).block ∧ w22.cell? (((⟨g21, 0, none⟩ : Addr).add 4).add 0) = some (.int .i64 n53)) ∧ Cll Try.prog 103 #[(.int .i64 n53), (.int .i64 0), (.int .i64 100000)] w51 fun v54 w55 => (∃ (b56 : Bool), v54 = (.bool b56) ∧ SameBut M24 w22 w55 ∧ bcase (!b56) (K (.bool false) w55) (LoopT (σ := Int × Unit) (fun z57 w58 next59 => ∃ (A60 : Option Addr) (n61 : Nat) (c62 : Nat), w58.cell? (((⟨g21, 0, none⟩ : Addr).add 1).add 0) = some (.slice A60 n61 c62) ∧ bcase (decide (z57.1 < ((n61 : Nat) : Int))) ((∃ M63 : Nat → Prop, ∃ (A64 : Option Addr) (n65 : Nat) (c66 : Nat), (¬ M63 (((⟨g21, 0, none⟩ : Addr).add 0)).block ∧ w58.cell? (((⟨g21, 0, none⟩ : Addr).add 0).add 0) = some (.slice A64 n65 c66)) ∧ ∃ (A67 : Option Addr) (n68 : Nat) (c69 : Nat), (¬ M63 (((⟨g21, 0, none⟩ : Addr).add 1)).block ∧ w58.cell? (((⟨g21, 0, none⟩ : Addr).add 1).add 0) = some (.slice A67 n68 c69)) ∧ ((0 : Int) ≤ z57.1 ∧ z57.1 < ((n68 : Nat) : Int) ∧ ∃ a70 : Addr, A67 = some a70 ∧ ∃ (n71 : Int), (¬ M63 ((a70.add ((z57.1.toNat) * 3))).block ∧ w58.cell? ((a70.add ((z57.1.toNat) * 3)).add 0) = some (.int .i64 n71)) ∧ ∃ (A72 : Option Addr) (n73 : Nat) (c74 : Nat), (¬ M63 ((a70.add ((z57.1.toNat) * 3))).block ∧ w58.cell? ((a70.add ((z57.1.toNat) * 3)).add 1) = some (.slice A72 n73 c74)) ∧ ∃ (A75 : Option Addr) (n76 : Nat) (c77 : Nat), (¬ M63 ((a70.add ((z57.1.toNat) * 3))).block ∧ w58.cell? ((a70.add ((z57.1.toNat) * 3)).add 2) = some (.slice A75 n76 c77)) ∧ Cll Try.prog 112 #[(.slice A64 n65 c66), (.agg #[(.int .i64 n71), (.slice A72 n73 c74), (.slice A75 n76 c77)])] w58.drew fun v78 w79 => (∃ (b80 : Bool), v78 = (.bool b80) ∧ SameBut M63 w58 w79 ∧ bcase (!b80) (K (.bool false) w79) (∃ (A81 : Option Addr) (n82 : Nat) (c83 : Nat), (¬ M63 (((⟨g21, 0, none⟩ : Addr).add 1)).block ∧ w58.cell? (((⟨g21, 0, none⟩ : Addr).add 1).add 0) = some (.slice A81 n82 c83)) ∧ ((0 : Int) ≤ z57.1 ∧ z57.1 < ((n82 : Nat) : Int) ∧ ∃ a84 : Addr, A81 = some a84 ∧ ∃ (n85 : Int), (¬ M63 (((a84.add ((z57.1.toNat) * 3)).add 0)).block ∧ w58.cell? (((a84.add ((z57.1.toNat) * 3)).add 0).add 0) = some (.int .i64 n85)) ∧ bcase (n85 != z57.1) (K (.bool false) w79) (next59 ((IntKind.wrap .i64 (z57.1 + 1)), ()) w79))))))) (K (.bool true) w58)) (0, ()) w55)))))))))))))

def spec_BlockOk.ann : Ann := (.seq .l (.seq (.seq .l (.two (.seq .l .l) .l)) (.seq (.seq .l (.one (.loop [(3, .int .i64)] (.seq (.seq .l (.two .l .l)) (.seq (.one (.seq .l (.two (.seq .l .l) .l))) .l))))) (.seq .l .l))))

theorem spec_BlockOk.vc_eq (A0_0 : Option Addr) (n0_0 : Nat) (c0_0 : Nat) (A0_1 : Option Addr) (n0_1 : Nat) (c0_1 : Nat) (A0_2 : Option Addr) (n0_2 : Nat) (c0_2 : Nat) (x0_3 : Int) (x0_4 : Int) (w : World) (K : Value → World → Prop) : vcF Try.prog Try.f54 spec_BlockOk.ann [(.agg #[(.slice A0_0 n0_0 c0_0), (.slice A0_1 n0_1 c0_1), (.slice A0_2 n0_2 c0_2), (.int .i64 x0_3), (.int .i64 x0_4)])] K w = spec_BlockOk.vc A0_0 n0_0 c0_0 A0_1 n0_1 c0_1 A0_2 n0_2 c0_2 x0_3 x0_4 w K := by kernel_rfl

theorem spec_BlockOk.start {A0_0 : Option Addr} {n0_0 : Nat} {c0_0 : Nat} {A0_1 : Option Addr} {n0_1 : Nat} {c0_1 : Nat} {A0_2 : Option Addr} {n0_2 : Nat} {c0_2 : Nat} {x0_3 : Int} {x0_4 : Int} {w : World} {K : Value → World → Prop} (h : spec_BlockOk.vc A0_0 n0_0 c0_0 A0_1 n0_1 c0_1 A0_2 n0_2 c0_2 x0_3 x0_4 w K) : Cll Try.prog 54 #[(.agg #[(.slice A0_0 n0_0 c0_0), (.slice A0_1 n0_1 c0_1), (.slice A0_2 n0_2 c0_2), (.int .i64 x0_3), (.int .i64 x0_4)])] w K :=
  vcF_sound mixed (fn := Try.f54) (by kernel_rfl) (by kernel_rfl) (an := spec_BlockOk.ann) (args := [(.agg #[(.slice A0_0 n0_0 c0_0), (.slice A0_1 n0_1 c0_1), (.slice A0_2 n0_2 c0_2), (.int .i64 x0_3), (.int .i64 x0_4)])]) (by rw [spec_BlockOk.vc_eq]; exact h)

theorem spec_BlockOk.con {s0 : D.Block} {A0_0 : Option Addr} {c0_0 : Nat} {A0_1 : Option Addr} {c0_1 : Nat} {A0_2 : Option Addr} {c0_2 : Nat} {r : Bool} {w : World} (hp : M.spec_BlockOk_pre s0) (hr : r = M.spec_BlockOk s0) (R0_0 : Row el76 w A0_0 s0.Code) (hc0_0 : s0.Code.length ≤ c0_0) (R0_1 : RowW 102 el132 el3 w A0_1 s0.Warps) (hc0_1 : s0.Warps.length ≤ c0_1) (R0_2 : Row el3 w A0_2 s0.Memory) (hc0_2 : s0.Memory.length ≤ c0_2) :
    Cll Try.prog 54 #[(.agg #[(.slice A0_0 s0.Code.length c0_0), (.slice A0_1 s0.Warps.length c0_1), (.slice A0_2 s0.Memory.length c0_2), (.int .i64 s0.Waiting), (.int .i64 s0.Phase)])] w (fun v_ w_ => v_ = (.bool r) ∧ Ext w w_) := by
  have H := wp.spec_BlockOk.math s0 hp
  have hB := Ext.refl w
  refine spec_BlockOk.start ?_
  unfold spec_BlockOk.vc
  unfold wp.spec_BlockOk at H
  refine newBlk (fun g4_ w21 L4 P4 e22 => ?_)
  have O4 := P4
  have L4 := Nat.le_trans hB.size L4
  have hB := ethen hB e22
  refine ⟨(fun _ => False), ?_⟩
  have hBz := hB
  have Z4 := O4
  refine ⟨_, _, _, ⟨(fun h_ => h_), (O4.at 0 rfl rfl)⟩, ?_⟩
  have hS23 := Chg.refl (fun _ => False) w21
  have O4 := O4.ext (Ext.drew _)
  have hB := ethen hB (Ext.drew _)
  have hS23 := hS23.then (Ext.drew _)
  obtain ⟨hp31, H⟩ := H
  obtain ⟨r29, hr30⟩ : ∃ r_, r_ = M.spec_ProgramOk s0.Code := ⟨_, rfl⟩
  have H := H r29 hr30
  refine (spec_ProgramOk.con hp31 hr30 (R0_0.ext hB) hc0_0).mono ?_
  rintro _ w32 ⟨rfl, e33⟩
  have O4 := O4.ext e33
  have hB := ethen hB e33
  have hS23 := hS23.then e33
  refine ⟨r29, rfl, ?_⟩
  refine ⟨sameBut_chg hS23, ?_⟩
  refine bcase_mk (fun hc135 => ?_) (fun hc135 => ?_)
  · have H := (bcase_iff.1 H).1 hc135
    obtain rfl := hr.trans H.symm
    exact ⟨rfl, hB⟩
  · have H := (bcase_iff.1 H).2 hc135
    refine ⟨_, _, _, ⟨(fun h_ => h_), (Z4.at 1 rfl rfl)⟩, ?_⟩
    obtain ⟨r34, hr35⟩ : ∃ r_, r_ = M.spec_l01In ((s0.Warps.length : Nat) : Int) 1 3 := ⟨_, rfl⟩
    have H := H r34 hr35
    refine (spec_l01In.con hr35 ).mono ?_
    rintro _ w37 ⟨rfl, e38⟩
    have O4 := O4.ext e38
    have hB := ethen hB e38
    have hS23 := hS23.then e38
    refine ⟨r34, rfl, ?_⟩
    refine ⟨sameBut_chg hS23, ?_⟩
    refine bcase_mk (fun hc134 => ?_) (fun hc134 => ?_)
    · have H := (bcase_iff.1 H).1 hc134
      obtain rfl := hr.trans H.symm
      exact ⟨rfl, hB⟩
    · have H := (bcase_iff.1 H).2 hc134
      refine ⟨_, _, _, ⟨(fun h_ => h_), (Z4.at 2 rfl rfl)⟩, ?_⟩
      refine bcase_mk (fun hc133 => ?_) (fun hc133 => ?_)
      · have H := (bcase_iff.1 H).1 hc133
        obtain rfl := hr.trans H.symm
        exact ⟨rfl, hB⟩
      · have H := (bcase_iff.1 H).2 hc133
        refine ⟨_, _, _, ⟨(fun h_ => h_), (Z4.at 2 rfl rfl)⟩, ?_⟩
        obtain ⟨hp41, H⟩ := H
        obtain ⟨r39, hr40⟩ : ∃ r_, r_ = M.spec_AreWords s0.Memory := ⟨_, rfl⟩
        have H := H r39 hr40
        refine (spec_AreWords.con hp41 hr40 (R0_2.ext hB) hc0_2).mono ?_
        rintro _ w42 ⟨rfl, e43⟩
        have O4 := O4.ext e43
        have hB := ethen hB e43
        have hS23 := hS23.then e43
        refine ⟨r39, rfl, ?_⟩
        refine ⟨sameBut_chg hS23, ?_⟩
        refine bcase_mk (fun hc132 => ?_) (fun hc132 => ?_)
        · have H := (bcase_iff.1 H).1 hc132
          obtain rfl := hr.trans H.symm
          exact ⟨rfl, hB⟩
        · have H := (bcase_iff.1 H).2 hc132
          refine ⟨_, ⟨(fun h_ => h_), (Z4.at 3 rfl rfl)⟩, ?_⟩
          refine ⟨_, _, _, ⟨(fun h_ => h_), (Z4.at 1 rfl rfl)⟩, ?_⟩
          obtain ⟨hc44, H⟩ := H
          refine ⟨hc44, ?_⟩
          obtain ⟨r45, hr46⟩ : ∃ r_, r_ = M.spec_l01In s0.Waiting 0 (IntKind.wrap .i64 ((IntKind.wrap .i64 (1 * 2 ^ (min (((s0.Warps.length : Nat) : Int).toNat) (IntKind.bits .i64)))) - 2)) := ⟨_, rfl⟩
          have H := H r45 hr46
          refine (spec_l01In.con hr46 ).mono ?_
          rintro _ w48 ⟨rfl, e49⟩
          have O4 := O4.ext e49
          have hB := ethen hB e49
          have hS23 := hS23.then e49
          refine ⟨r45, rfl, ?_⟩
          refine ⟨sameBut_chg hS23, ?_⟩
          refine bcase_mk (fun hc131 => ?_) (fun hc131 => ?_)
          · have H := (bcase_iff.1 H).1 hc131
            obtain rfl := hr.trans H.symm
            exact ⟨rfl, hB⟩
          · have H := (bcase_iff.1 H).2 hc131
            refine ⟨_, ⟨(fun h_ => h_), (Z4.at 4 rfl rfl)⟩, ?_⟩
            obtain ⟨r50, hr51⟩ : ∃ r_, r_ = M.spec_l01In s0.Phase 0 100000 := ⟨_, rfl⟩
            have H := H r50 hr51
            refine (spec_l01In.con hr51 ).mono ?_
            rintro _ w53 ⟨rfl, e54⟩
            have O4 := O4.ext e54
            have hB := ethen hB e54
            have hS23 := hS23.then e54
            refine ⟨r50, rfl, ?_⟩
            refine ⟨sameBut_chg hS23, ?_⟩
            refine bcase_mk (fun hc130 => ?_) (fun hc130 => ?_)
            · have H := (bcase_iff.1 H).1 hc130
              obtain rfl := hr.trans H.symm
              exact ⟨rfl, hB⟩
            · have H := (bcase_iff.1 H).2 hc130
              obtain ⟨J57, ⟨m128, hJ127⟩, hS58⟩ := H
              refine ⟨fun m_ z_ w_ => ∃ (i55 : Int), z_ = (i55, ()) ∧ J57 m_ (i55, ()) ∧ Ext w w_ ∧ Blk w_ g4_ 32 #[(.slice A0_0 s0.Code.length c0_0), (.slice A0_1 s0.Warps.length c0_1), (.slice A0_2 s0.Memory.length c0_2), (.int .i64 s0.Waiting), (.int .i64 s0.Phase)], ⟨m128, 0, rfl, hJ127, hB, O4⟩, ?_⟩
              rintro m56 _ w60 ⟨i55, rfl, hJ129, hB, O4⟩
              have H := hS58 m56 _ hJ129
              clear hS58 hJ129
              dsimp only at H ⊢
              refine ⟨_, _, _, (O4.at 1 rfl rfl), ?_⟩
              refine bcase_mk (fun hc125 => ?_) (fun hc125 => ?_)
              · have H := (bcase_iff.1 H).1 hc125
                refine ⟨(fun _ => False), ?_⟩
                have hBz := hB
                have Z4 := O4
                refine ⟨_, _, _, ⟨(fun h_ => h_), (O4.at 0 rfl rfl)⟩, ?_⟩
                refine ⟨_, _, _, ⟨(fun h_ => h_), (O4.at 1 rfl rfl)⟩, ?_⟩
                obtain ⟨⟨h0_86, h1_87⟩, H⟩ := H
                obtain ⟨a84, ha85, A91, c92, A93, c94, f88, f89, f90, R95, hle97, R96, hle98⟩ := RowW.at R0_1 h0_86 h1_87
                refine ⟨h0_86, h1_87, a84, ha85, ?_⟩
                refine ⟨_, ⟨(fun h_ => h_), (Ext.cell hB f88)⟩, ?_⟩
                refine ⟨_, _, _, ⟨(fun h_ => h_), (Ext.cell hB f89)⟩, ?_⟩
                refine ⟨_, _, _, ⟨(fun h_ => h_), (Ext.cell hB f90)⟩, ?_⟩
                have hS61 := Chg.refl (fun _ => False) w60
                have O4 := O4.ext (Ext.drew _)
                have hB := ethen hB (Ext.drew _)
                have hS61 := hS61.then (Ext.drew _)
                obtain ⟨hp101, H⟩ := H
                obtain ⟨r99, hr100⟩ : ∃ r_, r_ = M.spec_WarpOk s0.Code (rd s0.Warps i55) := ⟨_, rfl⟩
                have H := H r99 hr100
                refine (cllArgs (by first | (simp only [List.length_set]; done) | (simp; done)) (spec_WarpOk.con hp101 hr100 (R0_0.ext hB) hc0_0 (R95.ext hB) hle97 (R96.ext hB) hle98)).mono ?_
                rintro _ w102 ⟨rfl, e103⟩
                have O4 := O4.ext e103
                have hB := ethen hB e103
                have hS61 := hS61.then e103
                refine ⟨r99, rfl, ?_⟩
                refine ⟨sameBut_chg hS61, ?_⟩
                refine bcase_mk (fun hc124 => ?_) (fun hc124 => ?_)
                · have H := (bcase_iff.1 H).1 hc124
                  obtain rfl := hr.trans H.symm
                  exact ⟨rfl, hB⟩
                · have H := (bcase_iff.1 H).2 hc124
                  refine ⟨_, _, _, ⟨(fun h_ => h_), (Z4.at 1 rfl rfl)⟩, ?_⟩
                  obtain ⟨⟨h0_107, h1_108⟩, H⟩ := H
                  obtain ⟨a105, ha106, A112, c113, A114, c115, f109, f110, f111, R116, hle118, R117, hle119⟩ := RowW.at R0_1 h0_107 h1_108
                  refine ⟨h0_107, h1_108, a105, ha106, ?_⟩
                  refine ⟨_, ⟨(fun h_ => h_), (Ext.cell hBz f109)⟩, ?_⟩
                  refine bcase_mk (fun hc123 => ?_) (fun hc123 => ?_)
                  · have H := (bcase_iff.1 H).1 hc123
                    obtain rfl := hr.trans H.symm
                    exact ⟨rfl, hB⟩
                  · have H := (bcase_iff.1 H).2 hc123
                    obtain ⟨m120, hm121, hJ122⟩ := H
                    exact ⟨m120, hm121, (IntKind.wrap .i64 (i55 + 1)), rfl, hJ122, hB, O4⟩
              · have H := (bcase_iff.1 H).2 hc125
                obtain rfl := hr.trans H.symm
                exact ⟨rfl, hB⟩

def spec_l30Ok.vc (A0_0 : Option Addr) (n0_0 : Nat) (c0_0 : Nat) (A0_1 : Option Addr) (n0_1 : Nat) (c0_1 : Nat) (A0_2 : Option Addr) (n0_2 : Nat) (c0_2 : Nat) (x0_3 : Int) (x0_4 : Int) (x1 : Int) (w : World) (K : Value → World → Prop) : Prop :=
  newK w (.cells #[(.slice A0_0 n0_0 c0_0), (.slice A0_1 n0_1 c0_1), (.slice A0_2 n0_2 c0_2), (.int .i64 x0_3), (.int .i64 x0_4)] 32) fun g21 w22 => ∃ (A23 : Option Addr) (n24 : Nat) (c25 : Nat), w22.cell? ((⟨g21, 0, none⟩ : Addr).add 0) = some (.slice A23 n24 c25) ∧ ∃ (A26 : Option Addr) (n27 : Nat) (c28 : Nat), w22.cell? ((⟨g21, 0, none⟩ : Addr).add 1) = some (.slice A26 n27 c28) ∧ ∃ (A29 : Option Addr) (n30 : Nat) (c31 : Nat), w22.cell? ((⟨g21, 0, none⟩ : Addr).add 2) = some (.slice A29 n30 c31) ∧ ∃ (n32 : Int), w22.cell? ((⟨g21, 0, none⟩ : Addr).add 3) = some (.int .i64 n32) ∧ ∃ (n33 : Int), w22.cell? ((⟨g21, 0, none⟩ : Addr).add 4) = some (.int .i64 n33) ∧ Cll Try.prog 54 #[(.agg #[(.slice A23 n24 c25), (.slice A26 n27 c28), (.slice A29 n30 c31), (.int .i64 n32), (.int .i64 n33)])] w22 fun v34 w35 => (∃ (b36 : Bool), v34 = (.bool b36) ∧ bcase b36 (∃ (A37 : Option Addr) (n38 : Nat) (c39 : Nat), w35.cell? (((⟨g21, 0, none⟩ : Addr).add 1).add 0) = some (.slice A37 n38 c39) ∧ Cll Try.prog 103 #[(.int .i64 x1), (.int .i64 0), (.int .i64 (IntKind.wrap .i64 (((n38 : Nat) : Int) - 1)))] w35 fun v40 w41 => (∃ (b42 : Bool), v40 = (.bool b42) ∧ K (.bool b42) w41)) (K (.bool false) w35))

def spec_l30Ok.ann : Ann := (.seq .l (.seq .l .l))

theorem spec_l30Ok.vc_eq (A0_0 : Option Addr) (n0_0 : Nat) (c0_0 : Nat) (A0_1 : Option Addr) (n0_1 : Nat) (c0_1 : Nat) (A0_2 : Option Addr) (n0_2 : Nat) (c0_2 : Nat) (x0_3 : Int) (x0_4 : Int) (x1 : Int) (w : World) (K : Value → World → Prop) : vcF Try.prog Try.f48 spec_l30Ok.ann [(.agg #[(.slice A0_0 n0_0 c0_0), (.slice A0_1 n0_1 c0_1), (.slice A0_2 n0_2 c0_2), (.int .i64 x0_3), (.int .i64 x0_4)]), (.int .i64 x1)] K w = spec_l30Ok.vc A0_0 n0_0 c0_0 A0_1 n0_1 c0_1 A0_2 n0_2 c0_2 x0_3 x0_4 x1 w K := by kernel_rfl

theorem spec_l30Ok.start {A0_0 : Option Addr} {n0_0 : Nat} {c0_0 : Nat} {A0_1 : Option Addr} {n0_1 : Nat} {c0_1 : Nat} {A0_2 : Option Addr} {n0_2 : Nat} {c0_2 : Nat} {x0_3 : Int} {x0_4 : Int} {x1 : Int} {w : World} {K : Value → World → Prop} (h : spec_l30Ok.vc A0_0 n0_0 c0_0 A0_1 n0_1 c0_1 A0_2 n0_2 c0_2 x0_3 x0_4 x1 w K) : Cll Try.prog 48 #[(.agg #[(.slice A0_0 n0_0 c0_0), (.slice A0_1 n0_1 c0_1), (.slice A0_2 n0_2 c0_2), (.int .i64 x0_3), (.int .i64 x0_4)]), (.int .i64 x1)] w K :=
  vcF_sound mixed (fn := Try.f48) (by kernel_rfl) (by kernel_rfl) (an := spec_l30Ok.ann) (args := [(.agg #[(.slice A0_0 n0_0 c0_0), (.slice A0_1 n0_1 c0_1), (.slice A0_2 n0_2 c0_2), (.int .i64 x0_3), (.int .i64 x0_4)]), (.int .i64 x1)]) (by rw [spec_l30Ok.vc_eq]; exact h)

theorem spec_l30Ok.con {s0 : D.Block} {A0_0 : Option Addr} {c0_0 : Nat} {A0_1 : Option Addr} {c0_1 : Nat} {A0_2 : Option Addr} {c0_2 : Nat} {x1 : Int} {r : Bool} {w : World} (hp : M.spec_l30Ok_pre s0 x1) (hr : r = M.spec_l30Ok s0 x1) (R0_0 : Row el76 w A0_0 s0.Code) (hc0_0 : s0.Code.length ≤ c0_0) (R0_1 : RowW 102 el132 el3 w A0_1 s0.Warps) (hc0_1 : s0.Warps.length ≤ c0_1) (R0_2 : Row el3 w A0_2 s0.Memory) (hc0_2 : s0.Memory.length ≤ c0_2) :
    Cll Try.prog 48 #[(.agg #[(.slice A0_0 s0.Code.length c0_0), (.slice A0_1 s0.Warps.length c0_1), (.slice A0_2 s0.Memory.length c0_2), (.int .i64 s0.Waiting), (.int .i64 s0.Phase)]), (.int .i64 x1)] w (fun v_ w_ => v_ = (.bool r) ∧ Ext w w_) := by
  have H := wp.spec_l30Ok.math s0 x1 hp
  have hB := Ext.refl w
  refine spec_l30Ok.start ?_
  unfold spec_l30Ok.vc
  unfold wp.spec_l30Ok at H
  refine newBlk (fun g4_ w21 L4 P4 e22 => ?_)
  have O4 := P4
  have L4 := Nat.le_trans hB.size L4
  have hB := ethen hB e22
  refine ⟨_, _, _, (O4.at 0 rfl rfl), ?_⟩
  refine ⟨_, _, _, (O4.at 1 rfl rfl), ?_⟩
  refine ⟨_, _, _, (O4.at 2 rfl rfl), ?_⟩
  refine ⟨_, (O4.at 3 rfl rfl), ?_⟩
  refine ⟨_, (O4.at 4 rfl rfl), ?_⟩
  obtain ⟨hp25, H⟩ := H
  obtain ⟨r23, hr24⟩ : ∃ r_, r_ = M.spec_BlockOk s0 := ⟨_, rfl⟩
  have H := H r23 hr24
  refine (spec_BlockOk.con hp25 hr24 (R0_0.ext hB) hc0_0 (R0_1.ext hB) hc0_1 (R0_2.ext hB) hc0_2).mono ?_
  rintro _ w26 ⟨rfl, e27⟩
  have O4 := O4.ext e27
  have hB := ethen hB e27
  refine ⟨r23, rfl, ?_⟩
  refine bcase_mk (fun hc33 => ?_) (fun hc33 => ?_)
  · have H := (bcase_iff.1 H).1 hc33
    refine ⟨_, _, _, (O4.at 1 rfl rfl), ?_⟩
    obtain ⟨r28, hr29⟩ : ∃ r_, r_ = M.spec_l01In x1 0 (IntKind.wrap .i64 (((s0.Warps.length : Nat) : Int) - 1)) := ⟨_, rfl⟩
    have H := H r28 hr29
    refine (spec_l01In.con hr29 ).mono ?_
    rintro _ w31 ⟨rfl, e32⟩
    have O4 := O4.ext e32
    have hB := ethen hB e32
    refine ⟨r28, rfl, ?_⟩
    obtain rfl := hr.trans H.symm
    exact ⟨rfl, hB⟩
  · have H := (bcase_iff.1 H).2 hc33
    obtain rfl := hr.trans H.symm
    exact ⟨rfl, hB⟩

def impl_isWarpCount.vc (x0 : Int) (w : World) (K : Value → World → Prop) : Prop :=
  Cll Try.prog 94 #[(.int .i64 x0), (.int .i64 1), (.int .i64 3)] w fun v21 w22 => (∃ (b23 : Bool), v21 = (.bool b23) ∧ K (.bool b23) w22)

def impl_isWarpCount.ann : Ann := (.seq .l (.seq .l .l))

theorem impl_isWarpCount.vc_eq (x0 : Int) (w : World) (K : Value → World → Prop) : vcF Try.prog Try.f113 impl_isWarpCount.ann [(.int .i64 x0)] K w = impl_isWarpCount.vc x0 w K := by kernel_rfl

theorem impl_isWarpCount.start {x0 : Int} {w : World} {K : Value → World → Prop} (h : impl_isWarpCount.vc x0 w K) : Cll Try.prog 113 #[(.int .i64 x0)] w K :=
  vcF_sound mixed (fn := Try.f113) (by kernel_rfl) (by kernel_rfl) (an := impl_isWarpCount.ann) (args := [(.int .i64 x0)]) (by rw [impl_isWarpCount.vc_eq]; exact h)

theorem impl_isWarpCount.con {x0 : Int} {r : Bool} {w : World} (hr : r = M.impl_isWarpCount x0)  :
    Cll Try.prog 113 #[(.int .i64 x0)] w (fun v_ w_ => v_ = (.bool r) ∧ Ext w w_) := by
  have H := wp.impl_isWarpCount.math x0
  have hB := Ext.refl w
  refine impl_isWarpCount.start ?_
  unfold impl_isWarpCount.vc
  unfold wp.impl_isWarpCount at H
  obtain ⟨r21, hr22⟩ : ∃ r_, r_ = M.impl_within x0 1 3 := ⟨_, rfl⟩
  have H := H r21 hr22
  refine (impl_within.con hr22 ).mono ?_
  rintro _ w24 ⟨rfl, e25⟩
  have hB := ethen hB e25
  refine ⟨r21, rfl, ?_⟩
  obtain rfl := hr.trans H.symm
  exact ⟨rfl, hB⟩

def impl_isMemory.vc (A0 : Option Addr) (n0 : Nat) (c0 : Nat) (w : World) (K : Value → World → Prop) : Prop :=
  bcase (((n0 : Nat) : Int) == 32) (Cll Try.prog 122 #[(.slice A0 n0 c0)] w fun v21 w22 => (∃ (b23 : Bool), v21 = (.bool b23) ∧ K (.bool b23) w22)) (K (.bool false) w)

def impl_isMemory.ann : Ann := (.seq .l (.seq .l .l))

theorem impl_isMemory.vc_eq (A0 : Option Addr) (n0 : Nat) (c0 : Nat) (w : World) (K : Value → World → Prop) : vcF Try.prog Try.f65 impl_isMemory.ann [(.slice A0 n0 c0)] K w = impl_isMemory.vc A0 n0 c0 w K := by kernel_rfl

theorem impl_isMemory.start {A0 : Option Addr} {n0 : Nat} {c0 : Nat} {w : World} {K : Value → World → Prop} (h : impl_isMemory.vc A0 n0 c0 w K) : Cll Try.prog 65 #[(.slice A0 n0 c0)] w K :=
  vcF_sound mixed (fn := Try.f65) (by kernel_rfl) (by kernel_rfl) (an := impl_isMemory.ann) (args := [(.slice A0 n0 c0)]) (by rw [impl_isMemory.vc_eq]; exact h)

theorem impl_isMemory.con {xs0 : List Int} {A0 : Option Addr} {c0 : Nat} {r : Bool} {w : World} (hp : M.impl_isMemory_pre xs0) (hr : r = M.impl_isMemory xs0) (R0 : Row el3 w A0 xs0) (hc0 : xs0.length ≤ c0) :
    Cll Try.prog 65 #[(.slice A0 xs0.length c0)] w (fun v_ w_ => v_ = (.bool r) ∧ Ext w w_) := by
  have H := wp.impl_isMemory.math xs0 hp
  have hB := Ext.refl w
  refine impl_isMemory.start ?_
  unfold impl_isMemory.vc
  unfold wp.impl_isMemory at H
  refine bcase_mk (fun hc26 => ?_) (fun hc26 => ?_)
  · have H := (bcase_iff.1 H).1 hc26
    obtain ⟨hp23, H⟩ := H
    obtain ⟨r21, hr22⟩ : ∃ r_, r_ = M.impl_AreWords xs0 := ⟨_, rfl⟩
    have H := H r21 hr22
    refine (impl_AreWords.con hp23 hr22 (R0.ext hB) hc0).mono ?_
    rintro _ w24 ⟨rfl, e25⟩
    have hB := ethen hB e25
    refine ⟨r21, rfl, ?_⟩
    obtain rfl := hr.trans H.symm
    exact ⟨rfl, hB⟩
  · have H := (bcase_iff.1 H).2 hc26
    obtain rfl := hr.trans H.symm
    exact ⟨rfl, hB⟩

def impl_areAllRegs.vc (A0 : Option Addr) (n0 : Nat) (c0 : Nat) (w : World) (K : Value → World → Prop) : Prop :=
  K (.bool (((n0 : Nat) : Int) == 32)) w

def impl_areAllRegs.ann : Ann := (.seq .l (.seq .l .l))

theorem impl_areAllRegs.vc_eq (A0 : Option Addr) (n0 : Nat) (c0 : Nat) (w : World) (K : Value → World → Prop) : vcF Try.prog Try.f157 impl_areAllRegs.ann [(.slice A0 n0 c0)] K w = impl_areAllRegs.vc A0 n0 c0 w K := by kernel_rfl

theorem impl_areAllRegs.start {A0 : Option Addr} {n0 : Nat} {c0 : Nat} {w : World} {K : Value → World → Prop} (h : impl_areAllRegs.vc A0 n0 c0 w K) : Cll Try.prog 157 #[(.slice A0 n0 c0)] w K :=
  vcF_sound mixed (fn := Try.f157) (by kernel_rfl) (by kernel_rfl) (an := impl_areAllRegs.ann) (args := [(.slice A0 n0 c0)]) (by rw [impl_areAllRegs.vc_eq]; exact h)

theorem impl_areAllRegs.con {xs0 : List Int} {A0 : Option Addr} {c0 : Nat} {r : Bool} {w : World} (hr : r = M.impl_areAllRegs xs0) (R0 : Row el3 w A0 xs0) (hc0 : xs0.length ≤ c0) :
    Cll Try.prog 157 #[(.slice A0 xs0.length c0)] w (fun v_ w_ => v_ = (.bool r) ∧ Ext w w_) := by
  have H := wp.impl_areAllRegs.math xs0
  have hB := Ext.refl w
  refine impl_areAllRegs.start ?_
  unfold impl_areAllRegs.vc
  unfold wp.impl_areAllRegs at H
  obtain rfl := hr.trans H.symm
  exact ⟨rfl, hB⟩

def impl_areFrames.vc (A0 : Option Addr) (n0 : Nat) (c0 : Nat) (x1 : Int) (w : World) (K : Value → World → Prop) : Prop :=
  LoopT (σ := Int × Unit) (fun z21 w22 next23 => bcase (decide (z21.1 < ((n0 : Nat) : Int))) (((0 : Int) ≤ z21.1 ∧ z21.1 < ((n0 : Nat) : Int) ∧ ∃ a24 : Addr, A0 = some a24 ∧ ∃ (n25 : Int), w22.cell? ((a24.add ((z21.1.toNat) * 3)).add 0) = some (.int .i64 n25) ∧ ∃ (n26 : Int), w22.cell? ((a24.add ((z21.1.toNat) * 3)).add 1) = some (.int .i64 n26) ∧ ∃ (n27 : Int), w22.cell? ((a24.add ((z21.1.toNat) * 3)).add 2) = some (.int .i64 n27) ∧ newK w22 (.cells #[(.int .i64 0), (.int .i64 0), (.int .i64 0)] 132) fun g28 w29 => stCells (⟨g28, 0, none⟩ : Addr) [(.int .i64 n25), (.int .i64 n26), (.int .i64 n27)] 0 w29 fun w30 => ∃ (n31 : Int), w30.cell? (((⟨g28, 0, none⟩ : Addr).add 0).add 0) = some (.int .i64 n31) ∧ Cll Try.prog 94 #[(.int .i64 n31), (.int .i64 0), (.int .i64 x1)] w30 fun v32 w33 => (∃ (b34 : Bool), v32 = (.bool b34) ∧ bcase (!b34) (K (.bool false) w33) (∃ (n35 : Int), w33.cell? (((⟨g28, 0, none⟩ : Addr).add 1).add 0) = some (.int .i64 n35) ∧ Cll Try.prog 94 #[(.int .i64 n35), (.int .i64 0), (.int .i64 x1)] w33 fun v36 w37 => (∃ (b38 : Bool), v36 = (.bool b38) ∧ bcase (!b38) (K (.bool false) w37) (∃ (n39 : Int), w37.cell? (((⟨g28, 0, none⟩ : Addr).add 2).add 0) = some (.int .i64 n39) ∧ Cll Try.prog 186 #[(.int .i64 n39)] w37 fun v40 w41 => (∃ (b42 : Bool), v40 = (.bool b42) ∧ bcase (!b42) (K (.bool false) w41) (∃ (n43 : Int), w41.cell? (((⟨g28, 0, none⟩ : Addr).add 2).add 0) = some (.int .i64 n43) ∧ bcase (n43 == 0) (K (.bool false) w41) (next23 ((IntKind.wrap .i64 (z21.1 + 1)), ()) w41))))))))) (bcase (((n0 : Nat) : Int) == 0) (K (.bool true) w22) (((0 : Int) ≤ (IntKind.wrap .i64 (((n0 : Nat) : Int) - 1)) ∧ (IntKind.wrap .i64 (((n0 : Nat) : Int) - 1)) < ((n0 : Nat) : Int) ∧ ∃ a44 : Addr, A0 = some a44 ∧ ∃ (n45 : Int), w22.cell? ((a44.add (((IntKind.wrap .i64 (((n0 : Nat) : Int) - 1)).toNat) * 3)).add 0) = some (.int .i64 n45) ∧ ∃ (n46 : Int), w22.cell? ((a44.add (((IntKind.wrap .i64 (((n0 : Nat) : Int) - 1)).toNat) * 3)).add 1) = some (.int .i64 n46) ∧ ∃ (n47 : Int), w22.cell? ((a44.add (((IntKind.wrap .i64 (((n0 : Nat) : Int) - 1)).toNat) * 3)).add 2) = some (.int .i64 n47) ∧ newK w22 (.cells #[(.int .i64 0), (.int .i64 0), (.int .i64 0)] 132) fun g48 w49 => stCells (⟨g48, 0, none⟩ : Addr) [(.int .i64 n45), (.int .i64 n46), (.int .i64 n47)] 0 w49 fun w50 => bcase (decide (((n0 : Nat) : Int) ≤ 24)) (∃ (n51 : Int), w50.cell? (((⟨g48, 0, none⟩ : Addr).add 0).add 0) = some (.int .i64 n51) ∧ ∃ (n52 : Int), w50.cell? (((⟨g48, 0, none⟩ : Addr).add 1).add 0) = some (.int .i64 n52) ∧ bcase (n51 != n52) (∃ (n53 : Int), w50.cell? (((⟨g48, 0, none⟩ : Addr).add 0).add 0) = some (.int .i64 n53) ∧ bcase (n53 != x1) (((0 : Int) ≤ 0 ∧ 0 < ((n0 : Nat) : Int) ∧ ∃ a54 : Addr, A0 = some a54 ∧ ∃ (n55 : Int), w50.cell? (((a54.add (((0 : Int).toNat) * 3)).add 1).add 0) = some (.int .i64 n55) ∧ bcase (n55 == x1) (((0 : Int) ≤ 0 ∧ 0 < ((n0 : Nat) : Int) ∧ ∃ a56 : Addr, A0 = some a56 ∧ ∃ (n57 : Int), w50.cell? (((a56.add (((0 : Int).toNat) * 3)).add 2).add 0) = some (.int .i64 n57) ∧ K (.bool (n57 == 255)) w50)) (K (.bool false) w50))) (K (.bool false) w50)) (K (.bool false) w50)) (K (.bool false) w50))))) (0, ()) w

def impl_areFrames.ann : Ann := (.seq .l (.seq (.seq .l (.one (.loop [(10, .int .i64)] (.seq .l (.seq (.two .l .l) (.seq (.one (.seq .l (.seq .l (.two (.seq .l .l) .l)))) .l)))))) (.seq (.seq .l (.two (.seq .l .l) .l)) (.seq .l (.seq .l .l)))))

theorem impl_areFrames.vc_eq (A0 : Option Addr) (n0 : Nat) (c0 : Nat) (x1 : Int) (w : World) (K : Value → World → Prop) : vcF Try.prog Try.f158 impl_areFrames.ann [(.slice A0 n0 c0), (.int .i64 x1)] K w = impl_areFrames.vc A0 n0 c0 x1 w K := by kernel_rfl

theorem impl_areFrames.start {A0 : Option Addr} {n0 : Nat} {c0 : Nat} {x1 : Int} {w : World} {K : Value → World → Prop} (h : impl_areFrames.vc A0 n0 c0 x1 w K) : Cll Try.prog 158 #[(.slice A0 n0 c0), (.int .i64 x1)] w K :=
  vcF_sound mixed (fn := Try.f158) (by kernel_rfl) (by kernel_rfl) (an := impl_areFrames.ann) (args := [(.slice A0 n0 c0), (.int .i64 x1)]) (by rw [impl_areFrames.vc_eq]; exact h)

theorem impl_areFrames.con {xs0 : List D.Frame} {A0 : Option Addr} {c0 : Nat} {x1 : Int} {r : Bool} {w : World} (hp : M.impl_areFrames_pre xs0 x1) (hr : r = M.impl_areFrames xs0 x1) (R0 : Row el132 w A0 xs0) (hc0 : xs0.length ≤ c0) :
    Cll Try.prog 158 #[(.slice A0 xs0.length c0), (.int .i64 x1)] w (fun v_ w_ => v_ = (.bool r) ∧ Ext w w_) := by
  have H := wp.impl_areFrames.math xs0 x1 hp
  have hB := Ext.refl w
  refine impl_areFrames.start ?_
  unfold impl_areFrames.vc
  unfold wp.impl_areFrames at H
  obtain ⟨J23, ⟨m85, hJ84⟩, hS24⟩ := H
  refine ⟨fun m_ z_ w_ => ∃ (i21 : Int), z_ = (i21, ()) ∧ J23 m_ (i21, ()) ∧ Ext w w_, ⟨m85, 0, rfl, hJ84, hB⟩, ?_⟩
  rintro m22 _ w26 ⟨i21, rfl, hJ86, hB⟩
  have H := hS24 m22 _ hJ86
  clear hS24 hJ86
  dsimp only at H ⊢
  refine bcase_mk (fun hc82 => ?_) (fun hc82 => ?_)
  · have H := (bcase_iff.1 H).1 hc82
    obtain ⟨⟨h0_30, h1_31⟩, H⟩ := H
    obtain ⟨a28, ha29, hat27⟩ := Row.at (R0.ext hB) h0_30 h1_31
    refine ⟨h0_30, h1_31, a28, ha29, ?_⟩
    refine ⟨_, (hat27 0 _ rfl), ?_⟩
    refine ⟨_, (hat27 1 _ rfl), ?_⟩
    refine ⟨_, (hat27 2 _ rfl), ?_⟩
    refine newBlk (fun g2_ w32 L2 P2 e33 => ?_)
    have O2 := P2
    have L2 := Nat.le_trans hB.size L2
    have hB := ethen hB e33
    refine stBlk O2 (o := 0) (cs' := #[(.int .i64 ((rd xs0 i21).Pc)), (.int .i64 ((rd xs0 i21).Stop)), (.int .i64 ((rd xs0 i21).Mask))]) rfl rfl (Nat.le_of_ble_eq_true rfl) rfl (fun w34 P2 e35 => ?_)
    have hB := echg hB e35 L2
    have O2 := P2
    refine ⟨_, (O2.at 0 rfl rfl), ?_⟩
    obtain ⟨r36, hr37⟩ : ∃ r_, r_ = M.impl_within ((rd xs0 i21).Pc) 0 x1 := ⟨_, rfl⟩
    have H := H r36 hr37
    refine (impl_within.con hr37 ).mono ?_
    rintro _ w39 ⟨rfl, e40⟩
    have O2 := O2.ext e40
    have hB := ethen hB e40
    refine ⟨r36, rfl, ?_⟩
    refine bcase_mk (fun hc57 => ?_) (fun hc57 => ?_)
    · have H := (bcase_iff.1 H).1 hc57
      obtain rfl := hr.trans H.symm
      exact ⟨rfl, hB⟩
    · have H := (bcase_iff.1 H).2 hc57
      refine ⟨_, (O2.at 1 rfl rfl), ?_⟩
      obtain ⟨r41, hr42⟩ : ∃ r_, r_ = M.impl_within ((rd xs0 i21).Stop) 0 x1 := ⟨_, rfl⟩
      have H := H r41 hr42
      refine (impl_within.con hr42 ).mono ?_
      rintro _ w44 ⟨rfl, e45⟩
      have O2 := O2.ext e45
      have hB := ethen hB e45
      refine ⟨r41, rfl, ?_⟩
      refine bcase_mk (fun hc56 => ?_) (fun hc56 => ?_)
      · have H := (bcase_iff.1 H).1 hc56
        obtain rfl := hr.trans H.symm
        exact ⟨rfl, hB⟩
      · have H := (bcase_iff.1 H).2 hc56
        refine ⟨_, (O2.at 2 rfl rfl), ?_⟩
        obtain ⟨r46, hr47⟩ : ∃ r_, r_ = M.impl_IsMask ((rd xs0 i21).Mask) := ⟨_, rfl⟩
        have H := H r46 hr47
        refine (impl_IsMask.con hr47 ).mono ?_
        rintro _ w49 ⟨rfl, e50⟩
        have O2 := O2.ext e50
        have hB := ethen hB e50
        refine ⟨r46, rfl, ?_⟩
        refine bcase_mk (fun hc55 => ?_) (fun hc55 => ?_)
        · have H := (bcase_iff.1 H).1 hc55
          obtain rfl := hr.trans H.symm
          exact ⟨rfl, hB⟩
        · have H := (bcase_iff.1 H).2 hc55
          refine ⟨_, (O2.at 2 rfl rfl), ?_⟩
          refine bcase_mk (fun hc54 => ?_) (fun hc54 => ?_)
          · have H := (bcase_iff.1 H).1 hc54
            obtain rfl := hr.trans H.symm
            exact ⟨rfl, hB⟩
          · have H := (bcase_iff.1 H).2 hc54
            obtain ⟨m51, hm52, hJ53⟩ := H
            exact ⟨m51, hm52, (IntKind.wrap .i64 (i21 + 1)), rfl, hJ53, hB⟩
  · have H := (bcase_iff.1 H).2 hc82
    refine bcase_mk (fun hc81 => ?_) (fun hc81 => ?_)
    · have H := (bcase_iff.1 H).1 hc81
      obtain rfl := hr.trans H.symm
      exact ⟨rfl, hB⟩
    · have H := (bcase_iff.1 H).2 hc81
      obtain ⟨⟨h0_61, h1_62⟩, H⟩ := H
      obtain ⟨a59, ha60, hat58⟩ := Row.at (R0.ext hB) h0_61 h1_62
      refine ⟨h0_61, h1_62, a59, ha60, ?_⟩
      refine ⟨_, (hat58 0 _ rfl), ?_⟩
      refine ⟨_, (hat58 1 _ rfl), ?_⟩
      refine ⟨_, (hat58 2 _ rfl), ?_⟩
      refine newBlk (fun g3_ w63 L3 P3 e64 => ?_)
      have O3 := P3
      have L3 := Nat.le_trans hB.size L3
      have hB := ethen hB e64
      refine stBlk O3 (o := 0) (cs' := #[(.int .i64 ((rd xs0 (IntKind.wrap .i64 (((xs0.length : Nat) : Int) - 1))).Pc)), (.int .i64 ((rd xs0 (IntKind.wrap .i64 (((xs0.length : Nat) : Int) - 1))).Stop)), (.int .i64 ((rd xs0 (IntKind.wrap .i64 (((xs0.length : Nat) : Int) - 1))).Mask))]) rfl rfl (Nat.le_of_ble_eq_true rfl) rfl (fun w65 P3 e66 => ?_)
      have hB := echg hB e66 L3
      have O3 := P3
      refine bcase_mk (fun hc80 => ?_) (fun hc80 => ?_)
      · have H := (bcase_iff.1 H).1 hc80
        refine ⟨_, (O3.at 0 rfl rfl), ?_⟩
        refine ⟨_, (O3.at 1 rfl rfl), ?_⟩
        refine bcase_mk (fun hc79 => ?_) (fun hc79 => ?_)
        · have H := (bcase_iff.1 H).1 hc79
          refine ⟨_, (O3.at 0 rfl rfl), ?_⟩
          refine bcase_mk (fun hc78 => ?_) (fun hc78 => ?_)
          · have H := (bcase_iff.1 H).1 hc78
            obtain ⟨⟨h0_70, h1_71⟩, H⟩ := H
            obtain ⟨a68, ha69, hat67⟩ := Row.at (R0.ext hB) h0_70 h1_71
            refine ⟨h0_70, h1_71, a68, ha69, ?_⟩
            refine ⟨_, (hat67 1 _ rfl), ?_⟩
            refine bcase_mk (fun hc77 => ?_) (fun hc77 => ?_)
            · have H := (bcase_iff.1 H).1 hc77
              obtain ⟨⟨h0_75, h1_76⟩, H⟩ := H
              obtain ⟨a73, ha74, hat72⟩ := Row.at (R0.ext hB) h0_75 h1_76
              refine ⟨h0_75, h1_76, a73, ha74, ?_⟩
              refine ⟨_, (hat72 2 _ rfl), ?_⟩
              obtain rfl := hr.trans H.symm
              exact ⟨rfl, hB⟩
            · have H := (bcase_iff.1 H).2 hc77
              obtain rfl := hr.trans H.symm
              exact ⟨rfl, hB⟩
          · have H := (bcase_iff.1 H).2 hc78
            obtain rfl := hr.trans H.symm
            exact ⟨rfl, hB⟩
        · have H := (bcase_iff.1 H).2 hc79
          obtain rfl := hr.trans H.symm
          exact ⟨rfl, hB⟩
      · have H := (bcase_iff.1 H).2 hc80
        obtain rfl := hr.trans H.symm
        exact ⟨rfl, hB⟩

def impl_isWarpOf.vc (A0 : Option Addr) (n0 : Nat) (c0 : Nat) (x1_0 : Int) (A1_1 : Option Addr) (n1_1 : Nat) (c1_1 : Nat) (A1_2 : Option Addr) (n1_2 : Nat) (c1_2 : Nat) (w : World) (K : Value → World → Prop) : Prop :=
  newK w (.cells #[(.int .i64 x1_0), (.slice A1_1 n1_1 c1_1), (.slice A1_2 n1_2 c1_2)] 102) fun g21 w22 => ∃ (n23 : Int), w22.cell? (((⟨g21, 0, none⟩ : Addr).add 0).add 0) = some (.int .i64 n23) ∧ Cll Try.prog 100 #[(.int .i64 n23)] w22 fun v24 w25 => (∃ (b26 : Bool), v24 = (.bool b26) ∧ bcase b26 (∃ (A27 : Option Addr) (n28 : Nat) (c29 : Nat), w25.cell? (((⟨g21, 0, none⟩ : Addr).add 2).add 0) = some (.slice A27 n28 c29) ∧ Cll Try.prog 157 #[(.slice A27 n28 c29)] w25 fun v30 w31 => (∃ (b32 : Bool), v30 = (.bool b32) ∧ bcase b32 (∃ (A33 : Option Addr) (n34 : Nat) (c35 : Nat), w31.cell? (((⟨g21, 0, none⟩ : Addr).add 2).add 0) = some (.slice A33 n34 c35) ∧ Cll Try.prog 122 #[(.slice A33 n34 c35)] w31 fun v36 w37 => (∃ (b38 : Bool), v36 = (.bool b38) ∧ bcase b38 (∃ (A39 : Option Addr) (n40 : Nat) (c41 : Nat), w37.cell? (((⟨g21, 0, none⟩ : Addr).add 1).add 0) = some (.slice A39 n40 c41) ∧ Cll Try.prog 158 #[(.slice A39 n40 c41), (.int .i64 ((n0 : Nat) : Int))] w37 fun v42 w43 => (∃ (b44 : Bool), v42 = (.bool b44) ∧ K (.bool b44) w43)) (K (.bool false) w37))) (K (.bool false) w31))) (K (.bool false) w25))

def impl_isWarpOf.ann : Ann := (.seq .l (.seq .l .l))

theorem impl_isWarpOf.vc_eq (A0 : Option Addr) (n0 : Nat) (c0 : Nat) (x1_0 : Int) (A1_1 : Option Addr) (n1_1 : Nat) (c1_1 : Nat) (A1_2 : Option Addr) (n1_2 : Nat) (c1_2 : Nat) (w : World) (K : Value → World → Prop) : vcF Try.prog Try.f114 impl_isWarpOf.ann [(.slice A0 n0 c0), (.agg #[(.int .i64 x1_0), (.slice A1_1 n1_1 c1_1), (.slice A1_2 n1_2 c1_2)])] K w = impl_isWarpOf.vc A0 n0 c0 x1_0 A1_1 n1_1 c1_1 A1_2 n1_2 c1_2 w K := by kernel_rfl

theorem impl_isWarpOf.start {A0 : Option Addr} {n0 : Nat} {c0 : Nat} {x1_0 : Int} {A1_1 : Option Addr} {n1_1 : Nat} {c1_1 : Nat} {A1_2 : Option Addr} {n1_2 : Nat} {c1_2 : Nat} {w : World} {K : Value → World → Prop} (h : impl_isWarpOf.vc A0 n0 c0 x1_0 A1_1 n1_1 c1_1 A1_2 n1_2 c1_2 w K) : Cll Try.prog 114 #[(.slice A0 n0 c0), (.agg #[(.int .i64 x1_0), (.slice A1_1 n1_1 c1_1), (.slice A1_2 n1_2 c1_2)])] w K :=
  vcF_sound mixed (fn := Try.f114) (by kernel_rfl) (by kernel_rfl) (an := impl_isWarpOf.ann) (args := [(.slice A0 n0 c0), (.agg #[(.int .i64 x1_0), (.slice A1_1 n1_1 c1_1), (.slice A1_2 n1_2 c1_2)])]) (by rw [impl_isWarpOf.vc_eq]; exact h)

theorem impl_isWarpOf.con {xs0 : List D.Ins} {A0 : Option Addr} {c0 : Nat} {s1 : D.Warp} {A1_1 : Option Addr} {c1_1 : Nat} {A1_2 : Option Addr} {c1_2 : Nat} {r : Bool} {w : World} (hp : M.impl_isWarpOf_pre xs0 s1) (hr : r = M.impl_isWarpOf xs0 s1) (R0 : Row el76 w A0 xs0) (hc0 : xs0.length ≤ c0) (R1_1 : Row el132 w A1_1 s1.Frames) (hc1_1 : s1.Frames.length ≤ c1_1) (R1_2 : Row el3 w A1_2 s1.Regs) (hc1_2 : s1.Regs.length ≤ c1_2) :
    Cll Try.prog 114 #[(.slice A0 xs0.length c0), (.agg #[(.int .i64 s1.Number), (.slice A1_1 s1.Frames.length c1_1), (.slice A1_2 s1.Regs.length c1_2)])] w (fun v_ w_ => v_ = (.bool r) ∧ Ext w w_) := by
  have H := wp.impl_isWarpOf.math xs0 s1 hp
  have hB := Ext.refl w
  refine impl_isWarpOf.start ?_
  unfold impl_isWarpOf.vc
  unfold wp.impl_isWarpOf at H
  refine newBlk (fun g4_ w21 L4 P4 e22 => ?_)
  have O4 := P4
  have L4 := Nat.le_trans hB.size L4
  have hB := ethen hB e22
  refine ⟨_, (O4.at 0 rfl rfl), ?_⟩
  obtain ⟨r23, hr24⟩ : ∃ r_, r_ = M.impl_isWarpNumber s1.Number := ⟨_, rfl⟩
  have H := H r23 hr24
  refine (impl_isWarpNumber.con hr24 ).mono ?_
  rintro _ w26 ⟨rfl, e27⟩
  have O4 := O4.ext e27
  have hB := ethen hB e27
  refine ⟨r23, rfl, ?_⟩
  refine bcase_mk (fun hc45 => ?_) (fun hc45 => ?_)
  · have H := (bcase_iff.1 H).1 hc45
    refine ⟨_, _, _, (O4.at 2 rfl rfl), ?_⟩
    obtain ⟨r28, hr29⟩ : ∃ r_, r_ = M.impl_areAllRegs s1.Regs := ⟨_, rfl⟩
    have H := H r28 hr29
    refine (impl_areAllRegs.con hr29 (R1_2.ext hB) hc1_2).mono ?_
    rintro _ w31 ⟨rfl, e32⟩
    have O4 := O4.ext e32
    have hB := ethen hB e32
    refine ⟨r28, rfl, ?_⟩
    refine bcase_mk (fun hc44 => ?_) (fun hc44 => ?_)
    · have H := (bcase_iff.1 H).1 hc44
      refine ⟨_, _, _, (O4.at 2 rfl rfl), ?_⟩
      obtain ⟨hp35, H⟩ := H
      obtain ⟨r33, hr34⟩ : ∃ r_, r_ = M.impl_AreWords s1.Regs := ⟨_, rfl⟩
      have H := H r33 hr34
      refine (impl_AreWords.con hp35 hr34 (R1_2.ext hB) hc1_2).mono ?_
      rintro _ w36 ⟨rfl, e37⟩
      have O4 := O4.ext e37
      have hB := ethen hB e37
      refine ⟨r33, rfl, ?_⟩
      refine bcase_mk (fun hc43 => ?_) (fun hc43 => ?_)
      · have H := (bcase_iff.1 H).1 hc43
        refine ⟨_, _, _, (O4.at 1 rfl rfl), ?_⟩
        obtain ⟨hp40, H⟩ := H
        obtain ⟨r38, hr39⟩ : ∃ r_, r_ = M.impl_areFrames s1.Frames ((xs0.length : Nat) : Int) := ⟨_, rfl⟩
        have H := H r38 hr39
        refine (impl_areFrames.con hp40 hr39 (R1_1.ext hB) hc1_1).mono ?_
        rintro _ w41 ⟨rfl, e42⟩
        have O4 := O4.ext e42
        have hB := ethen hB e42
        refine ⟨r38, rfl, ?_⟩
        obtain rfl := hr.trans H.symm
        exact ⟨rfl, hB⟩
      · have H := (bcase_iff.1 H).2 hc43
        obtain rfl := hr.trans H.symm
        exact ⟨rfl, hB⟩
    · have H := (bcase_iff.1 H).2 hc44
      obtain rfl := hr.trans H.symm
      exact ⟨rfl, hB⟩
  · have H := (bcase_iff.1 H).2 hc45
    obtain rfl := hr.trans H.symm
    exact ⟨rfl, hB⟩

def impl_BlockOk.vc (A0_0 : Option Addr) (n0_0 : Nat) (c0_0 : Nat) (A0_1 : Option Addr) (n0_1 : Nat) (c0_1 : Nat) (A0_2 : Option Addr) (n0_2 : Nat) (c0_2 : Nat) (x0_3 : Int) (x0_4 : Int) (w : World) (K : Value → World → Prop) : Prop :=
  newK w (.cells #[(.slice A0_0 n0_0 c0_0), (.slice A0_1 n0_1 c0_1), (.slice A0_2 n0_2 c0_2), (.int .i64 x0_3), (.int .i64 x0_4)] 32) fun g21 w22 => (∃ M24 : Nat → Prop, ∃ (A25 : Option Addr) (n26 : Nat) (c27 : Nat), (¬ M24 (((⟨g21, 0, none⟩ : Addr).add 0)).block ∧ w22.cell? (((⟨g21, 0, none⟩ : Addr).add 0).add 0) = some (.slice A25 n26 c27)) ∧ Cll Try.prog 76 #[(.slice A25 n26 c27)] w22.drew fun v28 w29 => (∃ (b30 : Bool), v28 = (.bool b30) ∧ SameBut M24 w22 w29 ∧ bcase (!b30) (K (.bool false) w29) (∃ (A31 : Option Addr) (n32 : Nat) (c33 : Nat), (¬ M24 (((⟨g21, 0, none⟩ : Addr).add 1)).block ∧ w22.cell? (((⟨g21, 0, none⟩ : Addr).add 1).add 0) = some (.slice A31 n32 c33)) ∧ Cll Try.prog 113 #[(.int .i64 ((n32 : Nat) : Int))] w29 fun v34 w35 => (∃ (b36 : Bool), v34 = (.bool b36) ∧ SameBut M24 w22 w35 ∧ bcase (!b36) (K (.bool false) w35) (∃ (A37 : Option Addr) (n38 : Nat) (c39 : Nat), (¬ M24 (((⟨g21, 0, none⟩ : Addr).add 2)).block ∧ w22.cell? (((⟨g21, 0, none⟩ : Addr).add 2).add 0) = some (.slice A37 n38 c39)) ∧ Cll Try.prog 65 #[(.slice A37 n38 c39)] w35 fun v40 w41 => (∃ (b42 : Bool), v40 = (.bool b42) ∧ SameBut M24 w22 w41 ∧ bcase (!b42) (K (.bool false) w41) (∃ (n43 : Int), (¬ M24 (((⟨g21, 0, none⟩ : Addr).add 3)).block ∧ w22.cell? (((⟨g21, 0, none⟩ : Addr).add 3).add 0) = some (.int .i64 n43)) ∧ ∃ (A44 : Option Addr) (n45 : Nat) (c46 : Nat), (¬ M24 (((⟨g21, 0, none⟩ : Addr).add 1)).block ∧ w22.cell? (((⟨g21, 0, none⟩ : Addr).add 1).add 0) = some (.slice A44 n45 c46)) ∧ ((0 : Int) ≤ ((n45 : Nat) : Int) ∧ Cll Try.prog 94 #[(.int .i64 n43), (.int .i64 0), (.int .i64 (IntKind.wrap .i64 ((IntKind.wrap .i64 (1 * 2 ^ (min (((n45 : Nat) : Int).toNat) (IntKind.bits .i64)))) - 2)))] w41 fun v47 w48 => (∃ (b49 : Bool), v47 = (.bool b49) ∧ SameBut M24 w22 w48 ∧ bcase (!b49) (K (.bool false) w48) (∃ (n50 : Int), (¬ M24 (((⟨g21, 0, none⟩ : Addr).add 4)).block ∧ w22.cell? (((⟨g21, 0, none⟩ : Addr).add 4).add 0) = some (.int .i64 n50)) ∧ Cll Try.prog 94 #[(.int .i64 n50), (.int .i64 0), (.int .i64 100000)] w48 fun v51 w52 => (∃ (b53 : Bool), v51 = (.bool b53) ∧ SameBut M24 w22 w52 ∧ bcase (!b53) (K (.bool false) w52) (∃ (A54 : Option Addr) (n55 : Nat) (c56 : Nat), w52.cell? (((⟨g21, 0, none⟩ : Addr).add 1).add 0) = some (.slice A54 n55 c56) ∧ LoopT (σ := Int × Unit) (fun z57 w58 next59 => bcase (decide (z57.1 < ((n55 : Nat) : Int))) (((0 : Int) ≤ z57.1 ∧ z57.1 < ((n55 : Nat) : Int) ∧ ∃ a60 : Addr, A54 = some a60 ∧ ∃ (n61 : Int), w58.cell? ((a60.add ((z57.1.toNat) * 3)).add 0) = some (.int .i64 n61) ∧ ∃ (A62 : Option Addr) (n63 : Nat) (c64 : Nat), w58.cell? ((a60.add ((z57.1.toNat) * 3)).add 1) = some (.slice A62 n63 c64) ∧ ∃ (A65 : Option Addr) (n66 : Nat) (c67 : Nat), w58.cell? ((a60.add ((z57.1.toNat) * 3)).add 2) = some (.slice A65 n66 c67) ∧ newK w58 (.cells #[(.int .i64 0), (.slice none 0 0), (.slice none 0 0)] 102) fun g68 w69 => stCells (⟨g68, 0, none⟩ : Addr) [(.int .i64 n61), (.slice A62 n63 c64), (.slice A65 n66 c67)] 0 w69 fun w70 => ∃ (n71 : Int), w70.cell? (((⟨g68, 0, none⟩ : Addr).add 0).add 0) = some (.int .i64 n71) ∧ bcase (n71 != z57.1) (K (.bool false) w70) (∃ (A72 : Option Addr) (n73 : Nat) (c74 : Nat), w70.cell? (((⟨g21, 0, none⟩ : Addr).add 0).add 0) = some (.slice A72 n73 c74) ∧ ∃ (n75 : Int), w70.cell? ((⟨g68, 0, none⟩ : Addr).add 0) = some (.int .i64 n75) ∧ ∃ (A76 : Option Addr) (n77 : Nat) (c78 : Nat), w70.cell? ((⟨g68, 0, none⟩ : Addr).add 1) = some (.slice A76 n77 c78) ∧ ∃ (A79 : Option Addr) (n80 : Nat) (c81 : Nat), w70.cell? ((⟨g68, 0, none⟩ : Addr).add 2) = some (.slice A79 n80 c81) ∧ Cll Try.prog 114 #[(.slice A72 n73 c74), (.agg #[(.int .i64 n75), (.slice A76 n77 c78), (.slice A79 n80 c81)])] w70 fun v82 w83 => (∃ (b84 : Bool), v82 = (.bool b84) ∧ bcase (!b84) (K (.bool false) w83) (next59 ((IntKind.wrap .i64 (z57.1 + 1)), ()) w83))))) (K (.bool true) w58)) (0, ()) w52))))))))))))

def impl_BlockOk.ann : Ann := (.seq .l (.seq (.seq .l (.two (.seq .l .l) .l)) (.seq (.seq .l (.one (.loop [(42, .int .i64)] (.seq .l (.seq (.two .l .l) (.seq (.one (.seq .l (.seq .l (.two (.seq .l .l) .l)))) .l)))))) (.seq .l .l))))

theorem impl_BlockOk.vc_eq (A0_0 : Option Addr) (n0_0 : Nat) (c0_0 : Nat) (A0_1 : Option Addr) (n0_1 : Nat) (c0_1 : Nat) (A0_2 : Option Addr) (n0_2 : Nat) (c0_2 : Nat) (x0_3 : Int) (x0_4 : Int) (w : World) (K : Value → World → Prop) : vcF Try.prog Try.f56 impl_BlockOk.ann [(.agg #[(.slice A0_0 n0_0 c0_0), (.slice A0_1 n0_1 c0_1), (.slice A0_2 n0_2 c0_2), (.int .i64 x0_3), (.int .i64 x0_4)])] K w = impl_BlockOk.vc A0_0 n0_0 c0_0 A0_1 n0_1 c0_1 A0_2 n0_2 c0_2 x0_3 x0_4 w K := by kernel_rfl

theorem impl_BlockOk.start {A0_0 : Option Addr} {n0_0 : Nat} {c0_0 : Nat} {A0_1 : Option Addr} {n0_1 : Nat} {c0_1 : Nat} {A0_2 : Option Addr} {n0_2 : Nat} {c0_2 : Nat} {x0_3 : Int} {x0_4 : Int} {w : World} {K : Value → World → Prop} (h : impl_BlockOk.vc A0_0 n0_0 c0_0 A0_1 n0_1 c0_1 A0_2 n0_2 c0_2 x0_3 x0_4 w K) : Cll Try.prog 56 #[(.agg #[(.slice A0_0 n0_0 c0_0), (.slice A0_1 n0_1 c0_1), (.slice A0_2 n0_2 c0_2), (.int .i64 x0_3), (.int .i64 x0_4)])] w K :=
  vcF_sound mixed (fn := Try.f56) (by kernel_rfl) (by kernel_rfl) (an := impl_BlockOk.ann) (args := [(.agg #[(.slice A0_0 n0_0 c0_0), (.slice A0_1 n0_1 c0_1), (.slice A0_2 n0_2 c0_2), (.int .i64 x0_3), (.int .i64 x0_4)])]) (by rw [impl_BlockOk.vc_eq]; exact h)

theorem impl_BlockOk.con {s0 : D.Block} {A0_0 : Option Addr} {c0_0 : Nat} {A0_1 : Option Addr} {c0_1 : Nat} {A0_2 : Option Addr} {c0_2 : Nat} {r : Bool} {w : World} (hp : M.impl_BlockOk_pre s0) (hr : r = M.impl_BlockOk s0) (R0_0 : Row el76 w A0_0 s0.Code) (hc0_0 : s0.Code.length ≤ c0_0) (R0_1 : RowW 102 el132 el3 w A0_1 s0.Warps) (hc0_1 : s0.Warps.length ≤ c0_1) (R0_2 : Row el3 w A0_2 s0.Memory) (hc0_2 : s0.Memory.length ≤ c0_2) :
    Cll Try.prog 56 #[(.agg #[(.slice A0_0 s0.Code.length c0_0), (.slice A0_1 s0.Warps.length c0_1), (.slice A0_2 s0.Memory.length c0_2), (.int .i64 s0.Waiting), (.int .i64 s0.Phase)])] w (fun v_ w_ => v_ = (.bool r) ∧ Ext w w_) := by
  have H := wp.impl_BlockOk.math s0 hp
  have hB := Ext.refl w
  refine impl_BlockOk.start ?_
  unfold impl_BlockOk.vc
  unfold wp.impl_BlockOk at H
  refine newBlk (fun g4_ w21 L4 P4 e22 => ?_)
  have O4 := P4
  have L4 := Nat.le_trans hB.size L4
  have hB := ethen hB e22
  refine ⟨(fun _ => False), ?_⟩
  have hBz := hB
  have Z4 := O4
  refine ⟨_, _, _, ⟨(fun h_ => h_), (O4.at 0 rfl rfl)⟩, ?_⟩
  have hS23 := Chg.refl (fun _ => False) w21
  have O4 := O4.ext (Ext.drew _)
  have hB := ethen hB (Ext.drew _)
  have hS23 := hS23.then (Ext.drew _)
  obtain ⟨hp31, H⟩ := H
  obtain ⟨r29, hr30⟩ : ∃ r_, r_ = M.impl_ProgramOk s0.Code := ⟨_, rfl⟩
  have H := H r29 hr30
  refine (impl_ProgramOk.con hp31 hr30 (R0_0.ext hB) hc0_0).mono ?_
  rintro _ w32 ⟨rfl, e33⟩
  have O4 := O4.ext e33
  have hB := ethen hB e33
  have hS23 := hS23.then e33
  refine ⟨r29, rfl, ?_⟩
  refine ⟨sameBut_chg hS23, ?_⟩
  refine bcase_mk (fun hc100 => ?_) (fun hc100 => ?_)
  · have H := (bcase_iff.1 H).1 hc100
    obtain rfl := hr.trans H.symm
    exact ⟨rfl, hB⟩
  · have H := (bcase_iff.1 H).2 hc100
    refine ⟨_, _, _, ⟨(fun h_ => h_), (Z4.at 1 rfl rfl)⟩, ?_⟩
    obtain ⟨r34, hr35⟩ : ∃ r_, r_ = M.impl_isWarpCount ((s0.Warps.length : Nat) : Int) := ⟨_, rfl⟩
    have H := H r34 hr35
    refine (impl_isWarpCount.con hr35 ).mono ?_
    rintro _ w37 ⟨rfl, e38⟩
    have O4 := O4.ext e38
    have hB := ethen hB e38
    have hS23 := hS23.then e38
    refine ⟨r34, rfl, ?_⟩
    refine ⟨sameBut_chg hS23, ?_⟩
    refine bcase_mk (fun hc99 => ?_) (fun hc99 => ?_)
    · have H := (bcase_iff.1 H).1 hc99
      obtain rfl := hr.trans H.symm
      exact ⟨rfl, hB⟩
    · have H := (bcase_iff.1 H).2 hc99
      refine ⟨_, _, _, ⟨(fun h_ => h_), (Z4.at 2 rfl rfl)⟩, ?_⟩
      obtain ⟨hp41, H⟩ := H
      obtain ⟨r39, hr40⟩ : ∃ r_, r_ = M.impl_isMemory s0.Memory := ⟨_, rfl⟩
      have H := H r39 hr40
      refine (impl_isMemory.con hp41 hr40 (R0_2.ext hB) hc0_2).mono ?_
      rintro _ w42 ⟨rfl, e43⟩
      have O4 := O4.ext e43
      have hB := ethen hB e43
      have hS23 := hS23.then e43
      refine ⟨r39, rfl, ?_⟩
      refine ⟨sameBut_chg hS23, ?_⟩
      refine bcase_mk (fun hc98 => ?_) (fun hc98 => ?_)
      · have H := (bcase_iff.1 H).1 hc98
        obtain rfl := hr.trans H.symm
        exact ⟨rfl, hB⟩
      · have H := (bcase_iff.1 H).2 hc98
        refine ⟨_, ⟨(fun h_ => h_), (Z4.at 3 rfl rfl)⟩, ?_⟩
        refine ⟨_, _, _, ⟨(fun h_ => h_), (Z4.at 1 rfl rfl)⟩, ?_⟩
        obtain ⟨hc44, H⟩ := H
        refine ⟨hc44, ?_⟩
        obtain ⟨r45, hr46⟩ : ∃ r_, r_ = M.impl_within s0.Waiting 0 (IntKind.wrap .i64 ((IntKind.wrap .i64 (1 * 2 ^ (min (((s0.Warps.length : Nat) : Int).toNat) (IntKind.bits .i64)))) - 2)) := ⟨_, rfl⟩
        have H := H r45 hr46
        refine (impl_within.con hr46 ).mono ?_
        rintro _ w48 ⟨rfl, e49⟩
        have O4 := O4.ext e49
        have hB := ethen hB e49
        have hS23 := hS23.then e49
        refine ⟨r45, rfl, ?_⟩
        refine ⟨sameBut_chg hS23, ?_⟩
        refine bcase_mk (fun hc97 => ?_) (fun hc97 => ?_)
        · have H := (bcase_iff.1 H).1 hc97
          obtain rfl := hr.trans H.symm
          exact ⟨rfl, hB⟩
        · have H := (bcase_iff.1 H).2 hc97
          refine ⟨_, ⟨(fun h_ => h_), (Z4.at 4 rfl rfl)⟩, ?_⟩
          obtain ⟨r50, hr51⟩ : ∃ r_, r_ = M.impl_within s0.Phase 0 100000 := ⟨_, rfl⟩
          have H := H r50 hr51
          refine (impl_within.con hr51 ).mono ?_
          rintro _ w53 ⟨rfl, e54⟩
          have O4 := O4.ext e54
          have hB := ethen hB e54
          have hS23 := hS23.then e54
          refine ⟨r50, rfl, ?_⟩
          refine ⟨sameBut_chg hS23, ?_⟩
          refine bcase_mk (fun hc96 => ?_) (fun hc96 => ?_)
          · have H := (bcase_iff.1 H).1 hc96
            obtain rfl := hr.trans H.symm
            exact ⟨rfl, hB⟩
          · have H := (bcase_iff.1 H).2 hc96
            refine ⟨_, _, _, (O4.at 1 rfl rfl), ?_⟩
            obtain ⟨J57, ⟨m94, hJ93⟩, hS58⟩ := H
            refine ⟨fun m_ z_ w_ => ∃ (i55 : Int), z_ = (i55, ()) ∧ J57 m_ (i55, ()) ∧ Ext w w_ ∧ Blk w_ g4_ 32 #[(.slice A0_0 s0.Code.length c0_0), (.slice A0_1 s0.Warps.length c0_1), (.slice A0_2 s0.Memory.length c0_2), (.int .i64 s0.Waiting), (.int .i64 s0.Phase)], ⟨m94, 0, rfl, hJ93, hB, O4⟩, ?_⟩
            rintro m56 _ w60 ⟨i55, rfl, hJ95, hB, O4⟩
            have H := hS58 m56 _ hJ95
            clear hS58 hJ95
            dsimp only at H ⊢
            refine bcase_mk (fun hc91 => ?_) (fun hc91 => ?_)
            · have H := (bcase_iff.1 H).1 hc91
              obtain ⟨⟨h0_64, h1_65⟩, H⟩ := H
              obtain ⟨a62, ha63, A69, c70, A71, c72, f66, f67, f68, R73, hle75, R74, hle76⟩ := RowW.at R0_1 h0_64 h1_65
              refine ⟨h0_64, h1_65, a62, ha63, ?_⟩
              refine ⟨_, (Ext.cell hB f66), ?_⟩
              refine ⟨_, _, _, (Ext.cell hB f67), ?_⟩
              refine ⟨_, _, _, (Ext.cell hB f68), ?_⟩
              refine newBlk (fun g7_ w77 L7 P7 e78 => ?_)
              have N4_7 := O4.ne L7
              have O4 := O4.ext e78
              have O7 := P7
              have L7 := Nat.le_trans hB.size L7
              have hB := ethen hB e78
              refine stBlk O7 (o := 0) (cs' := #[(.int .i64 ((rd s0.Warps i55).Number)), (.slice A69 ((rd s0.Warps i55).Frames.length) c70), (.slice A71 ((rd s0.Warps i55).Regs.length) c72)]) rfl rfl (Nat.le_of_ble_eq_true rfl) rfl (fun w79 P7 e80 => ?_)
              have O4_ := O4.chg e80 N4_7
              have O4 := O4_
              have hB := echg hB e80 L7
              have O7 := P7
              refine ⟨_, (O7.at 0 rfl rfl), ?_⟩
              refine bcase_mk (fun hc90 => ?_) (fun hc90 => ?_)
              · have H := (bcase_iff.1 H).1 hc90
                obtain rfl := hr.trans H.symm
                exact ⟨rfl, hB⟩
              · have H := (bcase_iff.1 H).2 hc90
                refine ⟨_, _, _, (O4.at 0 rfl rfl), ?_⟩
                refine ⟨_, (O7.at 0 rfl rfl), ?_⟩
                refine ⟨_, _, _, (O7.at 1 rfl rfl), ?_⟩
                refine ⟨_, _, _, (O7.at 2 rfl rfl), ?_⟩
                obtain ⟨hp83, H⟩ := H
                obtain ⟨r81, hr82⟩ : ∃ r_, r_ = M.impl_isWarpOf s0.Code (rd s0.Warps i55) := ⟨_, rfl⟩
                have H := H r81 hr82
                refine (cllArgs (by first | (simp only [List.length_set]; done) | (simp; done)) (impl_isWarpOf.con hp83 hr82 (R0_0.ext hB) hc0_0 (R73.ext hB) hle75 (R74.ext hB) hle76)).mono ?_
                rintro _ w84 ⟨rfl, e85⟩
                have O4 := O4.ext e85
                have O7 := O7.ext e85
                have hB := ethen hB e85
                refine ⟨r81, rfl, ?_⟩
                refine bcase_mk (fun hc89 => ?_) (fun hc89 => ?_)
                · have H := (bcase_iff.1 H).1 hc89
                  obtain rfl := hr.trans H.symm
                  exact ⟨rfl, hB⟩
                · have H := (bcase_iff.1 H).2 hc89
                  obtain ⟨m86, hm87, hJ88⟩ := H
                  exact ⟨m86, hm87, (IntKind.wrap .i64 (i55 + 1)), rfl, hJ88, hB, O4⟩
            · have H := (bcase_iff.1 H).2 hc91
              obtain rfl := hr.trans H.symm
              exact ⟨rfl, hB⟩

def impl_hasWarp.vc (A0_0 : Option Addr) (n0_0 : Nat) (c0_0 : Nat) (A0_1 : Option Addr) (n0_1 : Nat) (c0_1 : Nat) (A0_2 : Option Addr) (n0_2 : Nat) (c0_2 : Nat) (x0_3 : Int) (x0_4 : Int) (x1 : Int) (w : World) (K : Value → World → Prop) : Prop :=
  newK w (.cells #[(.slice A0_0 n0_0 c0_0), (.slice A0_1 n0_1 c0_1), (.slice A0_2 n0_2 c0_2), (.int .i64 x0_3), (.int .i64 x0_4)] 32) fun g21 w22 => ∃ (A23 : Option Addr) (n24 : Nat) (c25 : Nat), w22.cell? ((⟨g21, 0, none⟩ : Addr).add 0) = some (.slice A23 n24 c25) ∧ ∃ (A26 : Option Addr) (n27 : Nat) (c28 : Nat), w22.cell? ((⟨g21, 0, none⟩ : Addr).add 1) = some (.slice A26 n27 c28) ∧ ∃ (A29 : Option Addr) (n30 : Nat) (c31 : Nat), w22.cell? ((⟨g21, 0, none⟩ : Addr).add 2) = some (.slice A29 n30 c31) ∧ ∃ (n32 : Int), w22.cell? ((⟨g21, 0, none⟩ : Addr).add 3) = some (.int .i64 n32) ∧ ∃ (n33 : Int), w22.cell? ((⟨g21, 0, none⟩ : Addr).add 4) = some (.int .i64 n33) ∧ Cll Try.prog 56 #[(.agg #[(.slice A23 n24 c25), (.slice A26 n27 c28), (.slice A29 n30 c31), (.int .i64 n32), (.int .i64 n33)])] w22 fun v34 w35 => (∃ (b36 : Bool), v34 = (.bool b36) ∧ bcase b36 (∃ (A37 : Option Addr) (n38 : Nat) (c39 : Nat), w35.cell? (((⟨g21, 0, none⟩ : Addr).add 1).add 0) = some (.slice A37 n38 c39) ∧ Cll Try.prog 94 #[(.int .i64 x1), (.int .i64 0), (.int .i64 (IntKind.wrap .i64 (((n38 : Nat) : Int) - 1)))] w35 fun v40 w41 => (∃ (b42 : Bool), v40 = (.bool b42) ∧ K (.bool b42) w41)) (K (.bool false) w35))

def impl_hasWarp.ann : Ann := (.seq .l (.seq .l .l))

theorem impl_hasWarp.vc_eq (A0_0 : Option Addr) (n0_0 : Nat) (c0_0 : Nat) (A0_1 : Option Addr) (n0_1 : Nat) (c0_1 : Nat) (A0_2 : Option Addr) (n0_2 : Nat) (c0_2 : Nat) (x0_3 : Int) (x0_4 : Int) (x1 : Int) (w : World) (K : Value → World → Prop) : vcF Try.prog Try.f51 impl_hasWarp.ann [(.agg #[(.slice A0_0 n0_0 c0_0), (.slice A0_1 n0_1 c0_1), (.slice A0_2 n0_2 c0_2), (.int .i64 x0_3), (.int .i64 x0_4)]), (.int .i64 x1)] K w = impl_hasWarp.vc A0_0 n0_0 c0_0 A0_1 n0_1 c0_1 A0_2 n0_2 c0_2 x0_3 x0_4 x1 w K := by kernel_rfl

theorem impl_hasWarp.start {A0_0 : Option Addr} {n0_0 : Nat} {c0_0 : Nat} {A0_1 : Option Addr} {n0_1 : Nat} {c0_1 : Nat} {A0_2 : Option Addr} {n0_2 : Nat} {c0_2 : Nat} {x0_3 : Int} {x0_4 : Int} {x1 : Int} {w : World} {K : Value → World → Prop} (h : impl_hasWarp.vc A0_0 n0_0 c0_0 A0_1 n0_1 c0_1 A0_2 n0_2 c0_2 x0_3 x0_4 x1 w K) : Cll Try.prog 51 #[(.agg #[(.slice A0_0 n0_0 c0_0), (.slice A0_1 n0_1 c0_1), (.slice A0_2 n0_2 c0_2), (.int .i64 x0_3), (.int .i64 x0_4)]), (.int .i64 x1)] w K :=
  vcF_sound mixed (fn := Try.f51) (by kernel_rfl) (by kernel_rfl) (an := impl_hasWarp.ann) (args := [(.agg #[(.slice A0_0 n0_0 c0_0), (.slice A0_1 n0_1 c0_1), (.slice A0_2 n0_2 c0_2), (.int .i64 x0_3), (.int .i64 x0_4)]), (.int .i64 x1)]) (by rw [impl_hasWarp.vc_eq]; exact h)

theorem impl_hasWarp.con {s0 : D.Block} {A0_0 : Option Addr} {c0_0 : Nat} {A0_1 : Option Addr} {c0_1 : Nat} {A0_2 : Option Addr} {c0_2 : Nat} {x1 : Int} {r : Bool} {w : World} (hp : M.impl_hasWarp_pre s0 x1) (hr : r = M.impl_hasWarp s0 x1) (R0_0 : Row el76 w A0_0 s0.Code) (hc0_0 : s0.Code.length ≤ c0_0) (R0_1 : RowW 102 el132 el3 w A0_1 s0.Warps) (hc0_1 : s0.Warps.length ≤ c0_1) (R0_2 : Row el3 w A0_2 s0.Memory) (hc0_2 : s0.Memory.length ≤ c0_2) :
    Cll Try.prog 51 #[(.agg #[(.slice A0_0 s0.Code.length c0_0), (.slice A0_1 s0.Warps.length c0_1), (.slice A0_2 s0.Memory.length c0_2), (.int .i64 s0.Waiting), (.int .i64 s0.Phase)]), (.int .i64 x1)] w (fun v_ w_ => v_ = (.bool r) ∧ Ext w w_) := by
  have H := wp.impl_hasWarp.math s0 x1 hp
  have hB := Ext.refl w
  refine impl_hasWarp.start ?_
  unfold impl_hasWarp.vc
  unfold wp.impl_hasWarp at H
  refine newBlk (fun g4_ w21 L4 P4 e22 => ?_)
  have O4 := P4
  have L4 := Nat.le_trans hB.size L4
  have hB := ethen hB e22
  refine ⟨_, _, _, (O4.at 0 rfl rfl), ?_⟩
  refine ⟨_, _, _, (O4.at 1 rfl rfl), ?_⟩
  refine ⟨_, _, _, (O4.at 2 rfl rfl), ?_⟩
  refine ⟨_, (O4.at 3 rfl rfl), ?_⟩
  refine ⟨_, (O4.at 4 rfl rfl), ?_⟩
  obtain ⟨hp25, H⟩ := H
  obtain ⟨r23, hr24⟩ : ∃ r_, r_ = M.impl_BlockOk s0 := ⟨_, rfl⟩
  have H := H r23 hr24
  refine (impl_BlockOk.con hp25 hr24 (R0_0.ext hB) hc0_0 (R0_1.ext hB) hc0_1 (R0_2.ext hB) hc0_2).mono ?_
  rintro _ w26 ⟨rfl, e27⟩
  have O4 := O4.ext e27
  have hB := ethen hB e27
  refine ⟨r23, rfl, ?_⟩
  refine bcase_mk (fun hc33 => ?_) (fun hc33 => ?_)
  · have H := (bcase_iff.1 H).1 hc33
    refine ⟨_, _, _, (O4.at 1 rfl rfl), ?_⟩
    obtain ⟨r28, hr29⟩ : ∃ r_, r_ = M.impl_within x1 0 (IntKind.wrap .i64 (((s0.Warps.length : Nat) : Int) - 1)) := ⟨_, rfl⟩
    have H := H r28 hr29
    refine (impl_within.con hr29 ).mono ?_
    rintro _ w31 ⟨rfl, e32⟩
    have O4 := O4.ext e32
    have hB := ethen hB e32
    refine ⟨r28, rfl, ?_⟩
    obtain rfl := hr.trans H.symm
    exact ⟨rfl, hB⟩
  · have H := (bcase_iff.1 H).2 hc33
    obtain rfl := hr.trans H.symm
    exact ⟨rfl, hB⟩

def impl_Block_waits.vc (A0_0 : Option Addr) (n0_0 : Nat) (c0_0 : Nat) (A0_1 : Option Addr) (n0_1 : Nat) (c0_1 : Nat) (A0_2 : Option Addr) (n0_2 : Nat) (c0_2 : Nat) (x0_3 : Int) (x0_4 : Int) (x1 : Int) (w : World) (K : Value → World → Prop) : Prop :=
  newK w (.cells #[(.slice A0_0 n0_0 c0_0), (.slice A0_1 n0_1 c0_1), (.slice A0_2 n0_2 c0_2), (.int .i64 x0_3), (.int .i64 x0_4)] 32) fun g21 w22 => ∃ (n23 : Int), w22.cell? (((⟨g21, 0, none⟩ : Addr).add 3).add 0) = some (.int .i64 n23) ∧ ((0 : Int) ≤ x1 ∧ K (.bool ((bitAnd .i64 (Int.fdiv n23 (2 ^ (min (x1.toNat) (IntKind.bits .i64)))) 1) == 1)) w22)

def impl_Block_waits.ann : Ann := (.seq .l (.seq .l .l))

theorem impl_Block_waits.vc_eq (A0_0 : Option Addr) (n0_0 : Nat) (c0_0 : Nat) (A0_1 : Option Addr) (n0_1 : Nat) (c0_1 : Nat) (A0_2 : Option Addr) (n0_2 : Nat) (c0_2 : Nat) (x0_3 : Int) (x0_4 : Int) (x1 : Int) (w : World) (K : Value → World → Prop) : vcF Try.prog Try.f109 impl_Block_waits.ann [(.agg #[(.slice A0_0 n0_0 c0_0), (.slice A0_1 n0_1 c0_1), (.slice A0_2 n0_2 c0_2), (.int .i64 x0_3), (.int .i64 x0_4)]), (.int .i64 x1)] K w = impl_Block_waits.vc A0_0 n0_0 c0_0 A0_1 n0_1 c0_1 A0_2 n0_2 c0_2 x0_3 x0_4 x1 w K := by kernel_rfl

theorem impl_Block_waits.start {A0_0 : Option Addr} {n0_0 : Nat} {c0_0 : Nat} {A0_1 : Option Addr} {n0_1 : Nat} {c0_1 : Nat} {A0_2 : Option Addr} {n0_2 : Nat} {c0_2 : Nat} {x0_3 : Int} {x0_4 : Int} {x1 : Int} {w : World} {K : Value → World → Prop} (h : impl_Block_waits.vc A0_0 n0_0 c0_0 A0_1 n0_1 c0_1 A0_2 n0_2 c0_2 x0_3 x0_4 x1 w K) : Cll Try.prog 109 #[(.agg #[(.slice A0_0 n0_0 c0_0), (.slice A0_1 n0_1 c0_1), (.slice A0_2 n0_2 c0_2), (.int .i64 x0_3), (.int .i64 x0_4)]), (.int .i64 x1)] w K :=
  vcF_sound mixed (fn := Try.f109) (by kernel_rfl) (by kernel_rfl) (an := impl_Block_waits.ann) (args := [(.agg #[(.slice A0_0 n0_0 c0_0), (.slice A0_1 n0_1 c0_1), (.slice A0_2 n0_2 c0_2), (.int .i64 x0_3), (.int .i64 x0_4)]), (.int .i64 x1)]) (by rw [impl_Block_waits.vc_eq]; exact h)

theorem impl_Block_waits.con {s0 : D.Block} {A0_0 : Option Addr} {c0_0 : Nat} {A0_1 : Option Addr} {c0_1 : Nat} {A0_2 : Option Addr} {c0_2 : Nat} {x1 : Int} {r : Bool} {w : World} (hp : M.impl_Block_waits_pre s0 x1) (hr : r = M.impl_Block_waits s0 x1) (R0_0 : Row el76 w A0_0 s0.Code) (hc0_0 : s0.Code.length ≤ c0_0) (R0_1 : RowW 102 el132 el3 w A0_1 s0.Warps) (hc0_1 : s0.Warps.length ≤ c0_1) (R0_2 : Row el3 w A0_2 s0.Memory) (hc0_2 : s0.Memory.length ≤ c0_2) :
    Cll Try.prog 109 #[(.agg #[(.slice A0_0 s0.Code.length c0_0), (.slice A0_1 s0.Warps.length c0_1), (.slice A0_2 s0.Memory.length c0_2), (.int .i64 s0.Waiting), (.int .i64 s0.Phase)]), (.int .i64 x1)] w (fun v_ w_ => v_ = (.bool r) ∧ Ext w w_) := by
  have H := wp.impl_Block_waits.math s0 x1 hp
  have hB := Ext.refl w
  refine impl_Block_waits.start ?_
  unfold impl_Block_waits.vc
  unfold wp.impl_Block_waits at H
  refine newBlk (fun g4_ w21 L4 P4 e22 => ?_)
  have O4 := P4
  have L4 := Nat.le_trans hB.size L4
  have hB := ethen hB e22
  refine ⟨_, (O4.at 3 rfl rfl), ?_⟩
  obtain ⟨hc23, H⟩ := H
  refine ⟨hc23, ?_⟩
  obtain rfl := hr.trans H.symm
  exact ⟨rfl, hB⟩

end Go.V
