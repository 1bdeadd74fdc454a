import Derived.Test.YtkacokecjojkoaaGreatKLaCon3
namespace Go.V
open Go.Proofs
set_option linter.unusedVariables false
set_option linter.unusedSimpArgs false
set_option maxRecDepth 100000
def impl_RunWarp.vc (A0 : Option Addr) (n0 : Nat) (c0 : Nat) (x1_0 : Int) (A1_1 : Option Addr) (n1_1 : Nat) (c1_1 : Nat) (A1_2 : Option Addr) (n1_2 : Nat) (c1_2 : Nat) (x2 : Int) (w : World) (K : Value → World → Prop) : Prop :=
  newK w (.cells #[(.int .i64 x1_0), (.slice A1_1 n1_1 c1_1), (.slice A1_2 n1_2 c1_2)] 31) fun g21 w22 => newK w22 (.cells #[(.int .i64 0), (.slice none 0 0), (.slice none 0 0)] 31) fun g23 w24 => ∃ (n25 : Int), w24.cell? ((⟨g21, 0, none⟩ : Addr).add 0) = some (.int .i64 n25) ∧ ∃ (A26 : Option Addr) (n27 : Nat) (c28 : Nat), w24.cell? ((⟨g21, 0, none⟩ : Addr).add 1) = some (.slice A26 n27 c28) ∧ ∃ (A29 : Option Addr) (n30 : Nat) (c31 : Nat), w24.cell? ((⟨g21, 0, none⟩ : Addr).add 2) = some (.slice A29 n30 c31) ∧ Cll Tryz.prog 72 #[(.agg #[(.int .i64 n25), (.slice A26 n27 c28), (.slice A29 n30 c31)])] w24 fun v32 w33 => (∃ (n34 : Int), True ∧ ∃ (A35 : Option Addr) (n36 : Nat) (c37 : Nat), True ∧ ∃ (A38 : Option Addr) (n39 : Nat) (c40 : Nat), True ∧ v32 = (.agg #[(.int .i64 n34), (.slice A35 n36 c37), (.slice A38 n39 c40)]) ∧ newK w33 (.cells #[(.int .i64 0), (.slice none 0 0), (.slice none 0 0)] 31) fun g41 w42 => stCells (⟨g41, 0, none⟩ : Addr) [(.int .i64 n34), (.slice A35 n36 c37), (.slice A38 n39 c40)] 0 w42 fun w43 => Cll Tryz.prog 73 #[(.slice A0 n0 c0)] w43 fun v45 w46 => (∃ (b47 : Bool), v45 = (.bool b47) ∧ bcase (!b47) (∃ (n48 : Int), w46.cell? ((⟨g41, 0, none⟩ : Addr).add 0) = some (.int .i64 n48) ∧ ∃ (A49 : Option Addr) (n50 : Nat) (c51 : Nat), w46.cell? ((⟨g41, 0, none⟩ : Addr).add 1) = some (.slice A49 n50 c51) ∧ ∃ (A52 : Option Addr) (n53 : Nat) (c54 : Nat), w46.cell? ((⟨g41, 0, none⟩ : Addr).add 2) = some (.slice A52 n53 c54) ∧ stCells (⟨g23, 0, none⟩ : Addr) [(.int .i64 n48), (.slice A49 n50 c51), (.slice A52 n53 c54)] 0 w46 fun w55 => ∃ (n56 : Int), w55.cell? ((⟨g23, 0, none⟩ : Addr).add 0) = some (.int .i64 n56) ∧ ∃ (A57 : Option Addr) (n58 : Nat) (c59 : Nat), w55.cell? ((⟨g23, 0, none⟩ : Addr).add 1) = some (.slice A57 n58 c59) ∧ ∃ (A60 : Option Addr) (n61 : Nat) (c62 : Nat), w55.cell? ((⟨g23, 0, none⟩ : Addr).add 2) = some (.slice A60 n61 c62) ∧ K (.tuple #[(.agg #[(.int .i64 n56), (.slice A57 n58 c59), (.slice A60 n61 c62)]), (.int .i64 (-1))]) w55) (∃ (n63 : Int), w46.cell? ((⟨g21, 0, none⟩ : Addr).add 0) = some (.int .i64 n63) ∧ ∃ (A64 : Option Addr) (n65 : Nat) (c66 : Nat), w46.cell? ((⟨g21, 0, none⟩ : Addr).add 1) = some (.slice A64 n65 c66) ∧ ∃ (A67 : Option Addr) (n68 : Nat) (c69 : Nat), w46.cell? ((⟨g21, 0, none⟩ : Addr).add 2) = some (.slice A67 n68 c69) ∧ Cll Tryz.prog 74 #[(.slice A0 n0 c0), (.agg #[(.int .i64 n63), (.slice A64 n65 c66), (.slice A67 n68 c69)])] w46 fun v70 w71 => (∃ (b72 : Bool), v70 = (.bool b72) ∧ bcase (!b72) (∃ (n73 : Int), w71.cell? ((⟨g41, 0, none⟩ : Addr).add 0) = some (.int .i64 n73) ∧ ∃ (A74 : Option Addr) (n75 : Nat) (c76 : Nat), w71.cell? ((⟨g41, 0, none⟩ : Addr).add 1) = some (.slice A74 n75 c76) ∧ ∃ (A77 : Option Addr) (n78 : Nat) (c79 : Nat), w71.cell? ((⟨g41, 0, none⟩ : Addr).add 2) = some (.slice A77 n78 c79) ∧ stCells (⟨g23, 0, none⟩ : Addr) [(.int .i64 n73), (.slice A74 n75 c76), (.slice A77 n78 c79)] 0 w71 fun w80 => ∃ (n81 : Int), w80.cell? ((⟨g23, 0, none⟩ : Addr).add 0) = some (.int .i64 n81) ∧ ∃ (A82 : Option Addr) (n83 : Nat) (c84 : Nat), w80.cell? ((⟨g23, 0, none⟩ : Addr).add 1) = some (.slice A82 n83 c84) ∧ ∃ (A85 : Option Addr) (n86 : Nat) (c87 : Nat), w80.cell? ((⟨g23, 0, none⟩ : Addr).add 2) = some (.slice A85 n86 c87) ∧ K (.tuple #[(.agg #[(.int .i64 n81), (.slice A82 n83 c84), (.slice A85 n86 c87)]), (.int .i64 (-1))]) w80) (Cll Tryz.prog 75 #[(.int .i64 x2), (.int .i64 0), (.int .i64 8000)] w71 fun v88 w89 => (∃ (b90 : Bool), v88 = (.bool b90) ∧ bcase (!b90) (∃ (n91 : Int), w89.cell? ((⟨g41, 0, none⟩ : Addr).add 0) = some (.int .i64 n91) ∧ ∃ (A92 : Option Addr) (n93 : Nat) (c94 : Nat), w89.cell? ((⟨g41, 0, none⟩ : Addr).add 1) = some (.slice A92 n93 c94) ∧ ∃ (A95 : Option Addr) (n96 : Nat) (c97 : Nat), w89.cell? ((⟨g41, 0, none⟩ : Addr).add 2) = some (.slice A95 n96 c97) ∧ stCells (⟨g23, 0, none⟩ : Addr) [(.int .i64 n91), (.slice A92 n93 c94), (.slice A95 n96 c97)] 0 w89 fun w98 => ∃ (n99 : Int), w98.cell? ((⟨g23, 0, none⟩ : Addr).add 0) = some (.int .i64 n99) ∧ ∃ (A100 : Option Addr) (n101 : Nat) (c102 : Nat), w98.cell? ((⟨g23, 0, none⟩ : Addr).add 1) = some (.slice A100 n101 c102) ∧ ∃ (A103 : Option Addr) (n104 : Nat) (c105 : Nat), w98.cell? ((⟨g23, 0, none⟩ : Addr).add 2) = some (.slice A103 n104 c105) ∧ K (.tuple #[(.agg #[(.int .i64 n99), (.slice A100 n101 c102), (.slice A103 n104 c105)]), (.int .i64 (-1))]) w98) (LoopT (σ := Int × Unit) (fun z106 w107 next108 => bcase (decide (z106.1 < x2)) (Cll Tryz.prog 76 #[(.pointer (some (⟨g41, 0, none⟩ : Addr))), (.slice A0 n0 c0)] w107 fun v109 w110 => (∃ (b111 : Bool), v109 = (.bool b111) ∧ bcase b111 (next108 ((IntKind.wrap .i64 (z106.1 + 1)), ()) w110) (∃ (n112 : Int), w110.cell? ((⟨g41, 0, none⟩ : Addr).add 0) = some (.int .i64 n112) ∧ ∃ (A113 : Option Addr) (n114 : Nat) (c115 : Nat), w110.cell? ((⟨g41, 0, none⟩ : Addr).add 1) = some (.slice A113 n114 c115) ∧ ∃ (A116 : Option Addr) (n117 : Nat) (c118 : Nat), w110.cell? ((⟨g41, 0, none⟩ : Addr).add 2) = some (.slice A116 n117 c118) ∧ stCells (⟨g23, 0, none⟩ : Addr) [(.int .i64 n112), (.slice A113 n114 c115), (.slice A116 n117 c118)] 0 w110 fun w119 => ∃ (n120 : Int), w119.cell? ((⟨g23, 0, none⟩ : Addr).add 0) = some (.int .i64 n120) ∧ ∃ (A121 : Option Addr) (n122 : Nat) (c123 : Nat), w119.cell? ((⟨g23, 0, none⟩ : Addr).add 1) = some (.slice A121 n122 c123) ∧ ∃ (A124 : Option Addr) (n125 : Nat) (c126 : Nat), w119.cell? ((⟨g23, 0, none⟩ : Addr).add 2) = some (.slice A124 n125 c126) ∧ K (.tuple #[(.agg #[(.int .i64 n120), (.slice A121 n122 c123), (.slice A124 n125 c126)]), (.int .i64 z106.1)]) w119))) (∃ (n127 : Int), w107.cell? ((⟨g41, 0, none⟩ : Addr).add 0) = some (.int .i64 n127) ∧ ∃ (A128 : Option Addr) (n129 : Nat) (c130 : Nat), w107.cell? ((⟨g41, 0, none⟩ : Addr).add 1) = some (.slice A128 n129 c130) ∧ ∃ (A131 : Option Addr) (n132 : Nat) (c133 : Nat), w107.cell? ((⟨g41, 0, none⟩ : Addr).add 2) = some (.slice A131 n132 c133) ∧ stCells (⟨g23, 0, none⟩ : Addr) [(.int .i64 n127), (.slice A128 n129 c130), (.slice A131 n132 c133)] 0 w107 fun w134 => ∃ (n135 : Int), w134.cell? ((⟨g23, 0, none⟩ : Addr).add 0) = some (.int .i64 n135) ∧ ∃ (A136 : Option Addr) (n137 : Nat) (c138 : Nat), w134.cell? ((⟨g23, 0, none⟩ : Addr).add 1) = some (.slice A136 n137 c138) ∧ ∃ (A139 : Option Addr) (n140 : Nat) (c141 : Nat), w134.cell? ((⟨g23, 0, none⟩ : Addr).add 2) = some (.slice A139 n140 c141) ∧ K (.tuple #[(.agg #[(.int .i64 n135), (.slice A136 n137 c138), (.slice A139 n140 c141)]), (.int .i64 z106.1)]) w134)) (0, ()) w89)))))))

def impl_RunWarp.ann : Ann := (.seq .l (.seq .l (.seq (.seq .l (.two (.seq .l .l) .l)) (.seq .l (.seq (.one (.loop [(9, .int .i64)] (.seq (.seq .l (.two .l .l)) (.one .l)))) (.seq .l .l))))))

theorem impl_RunWarp.start {A0 : Option Addr} {n0 : Nat} {c0 : Nat} {x1_0 : Int} {A1_1 : Option Addr} {n1_1 : Nat} {c1_1 : Nat} {A1_2 : Option Addr} {n1_2 : Nat} {c1_2 : Nat} {x2 : Int} {w : World} {K : Value → World → Prop} (h : impl_RunWarp.vc A0 n0 c0 x1_0 A1_1 n1_1 c1_1 A1_2 n1_2 c1_2 x2 w K) : Cll Tryz.prog 20 #[(.slice A0 n0 c0), (.agg #[(.int .i64 x1_0), (.slice A1_1 n1_1 c1_1), (.slice A1_2 n1_2 c1_2)]), (.int .i64 x2)] w K :=
  vcF_sound mixed (fn := Tryz.f20) (by kernel_rfl) (by kernel_rfl) (an := impl_RunWarp.ann) (args := [(.slice A0 n0 c0), (.agg #[(.int .i64 x1_0), (.slice A1_1 n1_1 c1_1), (.slice A1_2 n1_2 c1_2)]), (.int .i64 x2)]) (Eq.mpr (by kernel_rfl) h)

theorem impl_RunWarp.con {xs0 : List D.Ins} {A0 : Option Addr} {c0 : Nat} {s1 : D.Warp} {A1_1 : Option Addr} {c1_1 : Nat} {A1_2 : Option Addr} {c1_2 : Nat} {x2 : Int} {r : D.Warp × Int} {w : World} (hp : M.impl_RunWarp_pre xs0 s1 x2) (hr : r = M.impl_RunWarp xs0 s1 x2) (R0 : Row el89 w A0 xs0) (hc0 : xs0.length ≤ c0) (R1_1 : Row el130 w A1_1 s1.Frames) (hc1_1 : s1.Frames.length ≤ c1_1) (R1_2 : Row el3 w A1_2 s1.Regs) (hc1_2 : s1.Regs.length ≤ c1_2) :
    Cll Tryz.prog 20 #[(.slice A0 xs0.length c0), (.agg #[(.int .i64 s1.Number), (.slice A1_1 s1.Frames.length c1_1), (.slice A1_2 s1.Regs.length c1_2)]), (.int .i64 x2)] w (fun v_ w_ => ∃ (A0_ : Option Addr) (c0_ : Nat) (A1_ : Option Addr) (c1_ : Nat), v_ = (.tuple #[(.agg #[(.int .i64 r.1.Number), (.slice A0_ r.1.Frames.length c0_), (.slice A1_ r.1.Regs.length c1_)]), (.int .i64 r.2)]) ∧ Own el130 w_ w.heap.size A0_ c0_ r.1.Frames ∧ Own el3 w_ w.heap.size A1_ c1_ r.1.Regs ∧ Ext w w_) := by
  have H := wp.impl_RunWarp.math xs0 s1 x2 hp
  have hB := Ext.refl w
  refine impl_RunWarp.start ?_
  unfold impl_RunWarp.vc
  unfold wp.impl_RunWarp at H
  refine newBlk (fun g4_ w21 L4 P4 e22 => ?_)
  have O4 := P4
  have L4 := Nat.le_trans hB.size L4
  have hB := ethen hB e22
  refine newBlk (fun g5_ w23 L5 P5 e24 => ?_)
  have N4_5 := O4.ne L5
  have O4 := O4.ext e24
  have O5 := P5
  have L5 := Nat.le_trans hB.size L5
  have hB := ethen hB e24
  refine ⟨_, (O4.at 0 rfl rfl), ?_⟩
  refine ⟨_, _, _, (O4.at 1 rfl rfl), ?_⟩
  refine ⟨_, _, _, (O4.at 2 rfl rfl), ?_⟩
  obtain ⟨hp27, H⟩ := H
  obtain ⟨r25, hr26⟩ : ∃ r_, r_ = M.impl_copyWarp s1 := ⟨_, rfl⟩
  have H := H r25 hr26
  refine (impl_copyWarp.con hp27 hr26 (R1_1.ext hB) hc1_1 (R1_2.ext hB) hc1_2).mono ?_
  rintro _ w28 ⟨A30, c31, A32, c33, rfl, P6, P7, e29⟩
  have N6_4 := P6.apart_old O4.lt
  have N6_5 := P6.apart_old O5.lt
  have N7_4 := P7.apart_old O4.lt
  have N7_5 := P7.apart_old O5.lt
  have O4 := O4.ext e29
  have O5 := O5.ext e29
  have O6 := P6.mono hB.size
  have O7 := P7.mono hB.size
  have hB := ethen hB e29
  refine ⟨r25.Number, trivial, ?_⟩
  refine ⟨A30, r25.Frames.length, c31, trivial, ?_⟩
  refine ⟨A32, r25.Regs.length, c33, trivial, ?_⟩
  refine ⟨rfl, ?_⟩
  refine newBlk (fun g8_ w34 L8 P8 e35 => ?_)
  have N4_8 := O4.ne L8
  have N5_8 := O5.ne L8
  have N6_8 := O6.apart_new L8
  have N7_8 := O7.apart_new L8
  have O4 := O4.ext e35
  have O5 := O5.ext e35
  have O6 := O6.ext e35
  have O7 := O7.ext e35
  have O8 := P8
  have L8 := Nat.le_trans hB.size L8
  have hB := ethen hB e35
  refine stBlk O8 (o := 0) (cs' := #[(.int .i64 r25.Number), (.slice A30 r25.Frames.length c31), (.slice A32 r25.Regs.length c33)]) rfl rfl (Nat.le_of_ble_eq_true rfl) rfl (fun w36 P8 e37 => ?_)
  have O4_ := O4.chg e37 N4_8
  have O5_ := O5.chg e37 N5_8
  have O6_ := O6.chg e37 N6_8
  have O7_ := O7.chg e37 N7_8
  have O4 := O4_
  have O5 := O5_
  have O6 := O6_
  have O7 := O7_
  have hB := echg hB e37 L8
  have O8 := P8
  obtain ⟨hp40, H⟩ := H
  obtain ⟨r38, hr39⟩ : ∃ r_, r_ = M.impl_IsQuiet xs0 := ⟨_, rfl⟩
  have H := H r38 hr39
  refine (impl_IsQuiet.con hp40 hr39 (R0.ext hB) hc0).mono ?_
  rintro _ w41 ⟨rfl, e42⟩
  have O4 := O4.ext e42
  have O5 := O5.ext e42
  have O6 := O6.ext e42
  have O7 := O7.ext e42
  have O8 := O8.ext e42
  have hB := ethen hB e42
  refine ⟨r38, rfl, ?_⟩
  refine bcase_mk (fun hc111 => ?_) (fun hc111 => ?_)
  · have H := (bcase_iff.1 H).1 hc111
    refine ⟨_, (O8.at 0 rfl rfl), ?_⟩
    refine ⟨_, _, _, (O8.at 1 rfl rfl), ?_⟩
    refine ⟨_, _, _, (O8.at 2 rfl rfl), ?_⟩
    refine stBlk O5 (o := 0) (cs' := #[(.int .i64 r25.Number), (.slice A30 r25.Frames.length c31), (.slice A32 r25.Regs.length c33)]) rfl rfl (Nat.le_of_ble_eq_true rfl) rfl (fun w43 P5 e44 => ?_)
    have O6_ := O6.chg e44 N6_5
    have O7_ := O7.chg e44 N7_5
    have O8_ := O8.chg e44 (N5_8).symm
    have O6 := O6_
    have O7 := O7_
    have O8 := O8_
    have hB := echg hB e44 L5
    have O5 := P5
    refine ⟨_, (O5.at 0 rfl rfl), ?_⟩
    refine ⟨_, _, _, (O5.at 1 rfl rfl), ?_⟩
    refine ⟨_, _, _, (O5.at 2 rfl rfl), ?_⟩
    obtain rfl := hr.trans H.symm
    exact ⟨A30, c31, A32, c33, rfl, O6, O7, hB⟩
  have H := (bcase_iff.1 H).2 hc111
  refine ⟨_, (O4.at 0 rfl rfl), ?_⟩
  refine ⟨_, _, _, (O4.at 1 rfl rfl), ?_⟩
  refine ⟨_, _, _, (O4.at 2 rfl rfl), ?_⟩
  obtain ⟨hp47, H⟩ := H
  obtain ⟨r45, hr46⟩ : ∃ r_, r_ = M.impl_WarpOk xs0 s1 := ⟨_, rfl⟩
  have H := H r45 hr46
  refine (impl_WarpOk.con hp47 hr46 (R0.ext hB) hc0 (R1_1.ext hB) hc1_1 (R1_2.ext hB) hc1_2).mono ?_
  rintro _ w48 ⟨rfl, e49⟩
  have O4 := O4.ext e49
  have O5 := O5.ext e49
  have O6 := O6.ext e49
  have O7 := O7.ext e49
  have O8 := O8.ext e49
  have hB := ethen hB e49
  refine ⟨r45, rfl, ?_⟩
  refine bcase_mk (fun hc110 => ?_) (fun hc110 => ?_)
  · have H := (bcase_iff.1 H).1 hc110
    refine ⟨_, (O8.at 0 rfl rfl), ?_⟩
    refine ⟨_, _, _, (O8.at 1 rfl rfl), ?_⟩
    refine ⟨_, _, _, (O8.at 2 rfl rfl), ?_⟩
    refine stBlk O5 (o := 0) (cs' := #[(.int .i64 r25.Number), (.slice A30 r25.Frames.length c31), (.slice A32 r25.Regs.length c33)]) rfl rfl (Nat.le_of_ble_eq_true rfl) rfl (fun w50 P5 e51 => ?_)
    have O6_ := O6.chg e51 N6_5
    have O7_ := O7.chg e51 N7_5
    have O8_ := O8.chg e51 (N5_8).symm
    have O6 := O6_
    have O7 := O7_
    have O8 := O8_
    have hB := echg hB e51 L5
    have O5 := P5
    refine ⟨_, (O5.at 0 rfl rfl), ?_⟩
    refine ⟨_, _, _, (O5.at 1 rfl rfl), ?_⟩
    refine ⟨_, _, _, (O5.at 2 rfl rfl), ?_⟩
    obtain rfl := hr.trans H.symm
    exact ⟨A30, c31, A32, c33, rfl, O6, O7, hB⟩
  have H := (bcase_iff.1 H).2 hc110
  obtain ⟨r52, hr53⟩ : ∃ r_, r_ = M.impl_within x2 0 8000 := ⟨_, rfl⟩
  have H := H r52 hr53
  refine (impl_within.con hr53 ).mono ?_
  rintro _ w55 ⟨rfl, e56⟩
  have O4 := O4.ext e56
  have O5 := O5.ext e56
  have O6 := O6.ext e56
  have O7 := O7.ext e56
  have O8 := O8.ext e56
  have hB := ethen hB e56
  refine ⟨r52, rfl, ?_⟩
  refine bcase_mk (fun hc109 => ?_) (fun hc109 => ?_)
  · have H := (bcase_iff.1 H).1 hc109
    refine ⟨_, (O8.at 0 rfl rfl), ?_⟩
    refine ⟨_, _, _, (O8.at 1 rfl rfl), ?_⟩
    refine ⟨_, _, _, (O8.at 2 rfl rfl), ?_⟩
    refine stBlk O5 (o := 0) (cs' := #[(.int .i64 r25.Number), (.slice A30 r25.Frames.length c31), (.slice A32 r25.Regs.length c33)]) rfl rfl (Nat.le_of_ble_eq_true rfl) rfl (fun w57 P5 e58 => ?_)
    have O6_ := O6.chg e58 N6_5
    have O7_ := O7.chg e58 N7_5
    have O8_ := O8.chg e58 (N5_8).symm
    have O6 := O6_
    have O7 := O7_
    have O8 := O8_
    have hB := echg hB e58 L5
    have O5 := P5
    refine ⟨_, (O5.at 0 rfl rfl), ?_⟩
    refine ⟨_, _, _, (O5.at 1 rfl rfl), ?_⟩
    refine ⟨_, _, _, (O5.at 2 rfl rfl), ?_⟩
    obtain rfl := hr.trans H.symm
    exact ⟨A30, c31, A32, c33, rfl, O6, O7, hB⟩
  have H := (bcase_iff.1 H).2 hc109
  obtain ⟨J83, ⟨m107, hJ106⟩, hS84⟩ := H
  refine ⟨fun m_ z_ w_ => ∃ (i74 : Int) (i75 : Int) (xs76 : List D.Frame) (xs79 : List Int) (A77 : Option Addr) (c78 : Nat) (A80 : Option Addr) (c81 : Nat), z_ = (i74, ()) ∧ J83 m_ (i74, i75, xs76, xs79, ()) ∧ Ext w w_ ∧ Blk w_ g8_ 31 #[(.int .i64 i75), (.slice A77 xs76.length c78), (.slice A80 xs79.length c81)] ∧ Own el130 w_ w.heap.size A77 c78 xs76 ∧ Own el3 w_ w.heap.size A80 c81 xs79 ∧ Blk w_ g5_ 31 #[(.int .i64 0), (.slice none 0 0), (.slice none 0 0)], ⟨m107, 0, r25.Number, r25.Frames, r25.Regs, A30, c31, A32, c33, rfl, hJ106, hB, O8, O6, O7, O5⟩, ?_⟩
  rintro m82 _ w86 ⟨i74, i75, xs76, xs79, A77, c78, A80, c81, rfl, hJ108, hB, O8, O11, O12, O5⟩
  have H := hS84 m82 _ hJ108
  clear hS84 hJ108
  try dsimp only at H ⊢
  refine bcase_mk (fun hc104 => ?_) (fun hc104 => ?_)
  · have H := (bcase_iff.1 H).1 hc104
    obtain ⟨hp89, H⟩ := H
    obtain ⟨r87, hr88⟩ : ∃ r_, r_ = M.impl_Warp_pass (⟨i75, xs76, xs79⟩ : D.Warp) xs0 := ⟨_, rfl⟩
    have H := H r87 hr88
    refine (impl_Warp_pass.con hp89 hr88 O8.plc (O11.mono (Nat.zero_le _)) (O12.mono (Nat.zero_le _)) (R0.ext hB) hc0 (fun hx_ => (fun g h_ => (fun hS_ => hS_.elim ((fun g h_ hS_ => Nat.not_le.2 (R0.old hx_ g h_) (O11.low g hS_)) g h_) (fun hS_ => hS_.elim ((fun g h_ hS_ => Nat.not_le.2 (R0.old hx_ g h_) (O12.low g hS_)) g h_) ((fun g h_ hS_ => Nat.not_le.2 (R0.old hx_ g h_) (box_low L8 _ hS_)) g h_)))))).mono ?_
    rintro _ w90 ⟨A92, c93, A94, c95, rfl, Q8, Q13, Mv13, Q14, Mv14, e91⟩
    have Q8 := Q8.toBlk rfl
    have Lw13 := Mv13.low O11.low hB.size
    have Lw14 := Mv14.low O12.low hB.size
    have O5 := O5.chgS e91 (fun hS_ => hS_.elim ((O11.apart_type O5 (by decide))).inb (fun hS_ => hS_.elim ((O12.apart_type O5 (by decide))).inb (N5_8)))
    have hB := Chg.ext hB e91 (fun g => (fun hS_ => hS_.elim (O11.low g) (fun hS_ => hS_.elim (O12.low g) ((box_low L8) g))))
    have O8 := Q8
    have O13 := Q13.lift Lw13
    have O14 := Q14.lift Lw14
    refine ⟨r87.1, rfl, ?_⟩
    refine bcase_mk (fun hc101 => ?_) (fun hc101 => ?_)
    · have H := (bcase_iff.1 H).1 hc101
      obtain ⟨m96, hm97, hJ98⟩ := H
      exact ⟨m96, hm97, (IntKind.wrap .i64 (i74 + 1)), r87.2.Number, r87.2.Frames, r87.2.Regs, A92, c93, A94, c95, rfl, hJ98, hB, O8, O13, O14, O5⟩
    have H := (bcase_iff.1 H).2 hc101
    refine ⟨_, (O8.at 0 rfl rfl), ?_⟩
    refine ⟨_, _, _, (O8.at 1 rfl rfl), ?_⟩
    refine ⟨_, _, _, (O8.at 2 rfl rfl), ?_⟩
    refine stBlk O5 (o := 0) (cs' := #[(.int .i64 r87.2.Number), (.slice A92 r87.2.Frames.length c93), (.slice A94 r87.2.Regs.length c95)]) rfl rfl (Nat.le_of_ble_eq_true rfl) rfl (fun w99 P5 e100 => ?_)
    have O8_ := O8.chg e100 (N5_8).symm
    have O13_ := O13.chg e100 (O13.apart_type O5 (by decide))
    have O14_ := O14.chg e100 (O14.apart_type O5 (by decide))
    have O8 := O8_
    have O13 := O13_
    have O14 := O14_
    have hB := echg hB e100 L5
    have O5 := P5
    refine ⟨_, (O5.at 0 rfl rfl), ?_⟩
    refine ⟨_, _, _, (O5.at 1 rfl rfl), ?_⟩
    refine ⟨_, _, _, (O5.at 2 rfl rfl), ?_⟩
    obtain rfl := hr.trans H.symm
    exact ⟨A92, c93, A94, c95, rfl, O13, O14, hB⟩
  have H := (bcase_iff.1 H).2 hc104
  refine ⟨_, (O8.at 0 rfl rfl), ?_⟩
  refine ⟨_, _, _, (O8.at 1 rfl rfl), ?_⟩
  refine ⟨_, _, _, (O8.at 2 rfl rfl), ?_⟩
  refine stBlk O5 (o := 0) (cs' := #[(.int .i64 i75), (.slice A77 xs76.length c78), (.slice A80 xs79.length c81)]) rfl rfl (Nat.le_of_ble_eq_true rfl) rfl (fun w102 P5 e103 => ?_)
  have O8_ := O8.chg e103 (N5_8).symm
  have O11_ := O11.chg e103 (O11.apart_type O5 (by decide))
  have O12_ := O12.chg e103 (O12.apart_type O5 (by decide))
  have O8 := O8_
  have O11 := O11_
  have O12 := O12_
  have hB := echg hB e103 L5
  have O5 := P5
  refine ⟨_, (O5.at 0 rfl rfl), ?_⟩
  refine ⟨_, _, _, (O5.at 1 rfl rfl), ?_⟩
  refine ⟨_, _, _, (O5.at 2 rfl rfl), ?_⟩
  obtain rfl := hr.trans H.symm
  exact ⟨A77, c78, A80, c81, rfl, O11, O12, hB⟩
def impl_WarpResult.vc (A0 : Option Addr) (n0 : Nat) (c0 : Nat) (x1 : Int) (w : World) (K : Value → World → Prop) : Prop :=
  newK w (.cells #[(.int .i64 0), (.slice none 0 0), (.slice none 0 0)] 31) fun g21 w22 => Cll Tryz.prog 73 #[(.slice A0 n0 c0)] w22 fun v24 w25 => (∃ (b26 : Bool), v24 = (.bool b26) ∧ bcase (!b26) (stCells (⟨g21, 0, none⟩ : Addr) [(.int .i64 0), (.slice none 0 0), (.slice none 0 0)] 0 w25 fun w27 => ∃ (n28 : Int), w27.cell? ((⟨g21, 0, none⟩ : Addr).add 0) = some (.int .i64 n28) ∧ ∃ (A29 : Option Addr) (n30 : Nat) (c31 : Nat), w27.cell? ((⟨g21, 0, none⟩ : Addr).add 1) = some (.slice A29 n30 c31) ∧ ∃ (A32 : Option Addr) (n33 : Nat) (c34 : Nat), w27.cell? ((⟨g21, 0, none⟩ : Addr).add 2) = some (.slice A32 n33 c34) ∧ K (.tuple #[(.agg #[(.int .i64 n28), (.slice A29 n30 c31), (.slice A32 n33 c34)]), (.int .i64 0), (.bool false)]) w27) (Cll Tryz.prog 82 #[(.int .i64 x1)] w25 fun v35 w36 => (∃ (b37 : Bool), v35 = (.bool b37) ∧ bcase (!b37) (stCells (⟨g21, 0, none⟩ : Addr) [(.int .i64 0), (.slice none 0 0), (.slice none 0 0)] 0 w36 fun w38 => ∃ (n39 : Int), w38.cell? ((⟨g21, 0, none⟩ : Addr).add 0) = some (.int .i64 n39) ∧ ∃ (A40 : Option Addr) (n41 : Nat) (c42 : Nat), w38.cell? ((⟨g21, 0, none⟩ : Addr).add 1) = some (.slice A40 n41 c42) ∧ ∃ (A43 : Option Addr) (n44 : Nat) (c45 : Nat), w38.cell? ((⟨g21, 0, none⟩ : Addr).add 2) = some (.slice A43 n44 c45) ∧ K (.tuple #[(.agg #[(.int .i64 n39), (.slice A40 n41 c42), (.slice A43 n44 c45)]), (.int .i64 0), (.bool false)]) w38) (Cll Tryz.prog 83 #[(.slice A0 n0 c0), (.int .i64 x1)] w36 fun v46 w47 => (∃ (n48 : Int), True ∧ ∃ (A49 : Option Addr) (n50 : Nat) (c51 : Nat), True ∧ ∃ (A52 : Option Addr) (n53 : Nat) (c54 : Nat), True ∧ v46 = (.agg #[(.int .i64 n48), (.slice A49 n50 c51), (.slice A52 n53 c54)]) ∧ Cll Tryz.prog 20 #[(.slice A0 n0 c0), (.agg #[(.int .i64 n48), (.slice A49 n50 c51), (.slice A52 n53 c54)]), (.int .i64 8000)] w47 fun v55 w56 => (∃ u57 : Value, (∃ (n58 : Int), True ∧ ∃ (A59 : Option Addr) (n60 : Nat) (c61 : Nat), True ∧ ∃ (A62 : Option Addr) (n63 : Nat) (c64 : Nat), True ∧ u57 = (.agg #[(.int .i64 n58), (.slice A59 n60 c61), (.slice A62 n63 c64)]) ∧ ∃ u65 : Value, (∃ (n66 : Int), u65 = (.int .i64 n66) ∧ v55 = (.tuple #[(.agg #[(.int .i64 n58), (.slice A59 n60 c61), (.slice A62 n63 c64)]), (.int .i64 n66)]) ∧ newK w56 (.cells #[(.int .i64 0), (.slice none 0 0), (.slice none 0 0)] 31) fun g67 w68 => stCells (⟨g67, 0, none⟩ : Addr) [(.int .i64 n58), (.slice A59 n60 c61), (.slice A62 n63 c64)] 0 w68 fun w69 => ∃ (A70 : Option Addr) (n71 : Nat) (c72 : Nat), w69.cell? (((⟨g67, 0, none⟩ : Addr).add 1).add 0) = some (.slice A70 n71 c72) ∧ bcase (decide (((n71 : Nat) : Int) > 0)) (stCells (⟨g21, 0, none⟩ : Addr) [(.int .i64 0), (.slice none 0 0), (.slice none 0 0)] 0 w69 fun w73 => ∃ (n74 : Int), w73.cell? ((⟨g21, 0, none⟩ : Addr).add 0) = some (.int .i64 n74) ∧ ∃ (A75 : Option Addr) (n76 : Nat) (c77 : Nat), w73.cell? ((⟨g21, 0, none⟩ : Addr).add 1) = some (.slice A75 n76 c77) ∧ ∃ (A78 : Option Addr) (n79 : Nat) (c80 : Nat), w73.cell? ((⟨g21, 0, none⟩ : Addr).add 2) = some (.slice A78 n79 c80) ∧ K (.tuple #[(.agg #[(.int .i64 n74), (.slice A75 n76 c77), (.slice A78 n79 c80)]), (.int .i64 0), (.bool false)]) w73) (∃ (n81 : Int), w69.cell? ((⟨g67, 0, none⟩ : Addr).add 0) = some (.int .i64 n81) ∧ ∃ (A82 : Option Addr) (n83 : Nat) (c84 : Nat), w69.cell? ((⟨g67, 0, none⟩ : Addr).add 1) = some (.slice A82 n83 c84) ∧ ∃ (A85 : Option Addr) (n86 : Nat) (c87 : Nat), w69.cell? ((⟨g67, 0, none⟩ : Addr).add 2) = some (.slice A85 n86 c87) ∧ stCells (⟨g21, 0, none⟩ : Addr) [(.int .i64 n81), (.slice A82 n83 c84), (.slice A85 n86 c87)] 0 w69 fun w88 => ∃ (n89 : Int), w88.cell? ((⟨g21, 0, none⟩ : Addr).add 0) = some (.int .i64 n89) ∧ ∃ (A90 : Option Addr) (n91 : Nat) (c92 : Nat), w88.cell? ((⟨g21, 0, none⟩ : Addr).add 1) = some (.slice A90 n91 c92) ∧ ∃ (A93 : Option Addr) (n94 : Nat) (c95 : Nat), w88.cell? ((⟨g21, 0, none⟩ : Addr).add 2) = some (.slice A93 n94 c95) ∧ K (.tuple #[(.agg #[(.int .i64 n89), (.slice A90 n91 c92), (.slice A93 n94 c95)]), (.int .i64 n66), (.bool true)]) w88)))))))))

def impl_WarpResult.ann : Ann := (.seq .l (.seq (.seq .l (.two (.seq .l .l) .l)) (.seq .l (.seq (.seq .l (.two (.seq .l .l) .l)) (.seq .l .l)))))

theorem impl_WarpResult.start {A0 : Option Addr} {n0 : Nat} {c0 : Nat} {x1 : Int} {w : World} {K : Value → World → Prop} (h : impl_WarpResult.vc A0 n0 c0 x1 w K) : Cll Tryz.prog 27 #[(.slice A0 n0 c0), (.int .i64 x1)] w K :=
  vcF_sound mixed (fn := Tryz.f27) (by kernel_rfl) (by kernel_rfl) (an := impl_WarpResult.ann) (args := [(.slice A0 n0 c0), (.int .i64 x1)]) (Eq.mpr (by kernel_rfl) h)

theorem impl_WarpResult.con {xs0 : List D.Ins} {A0 : Option Addr} {c0 : Nat} {x1 : Int} {r : D.Warp × Int × Bool} {w : World} (hp : M.impl_WarpResult_pre xs0 x1) (hr : r = M.impl_WarpResult xs0 x1) (R0 : Row el89 w A0 xs0) (hc0 : xs0.length ≤ c0) :
    Cll Tryz.prog 27 #[(.slice A0 xs0.length c0), (.int .i64 x1)] w (fun v_ w_ => ∃ (A0_ : Option Addr) (c0_ : Nat) (A1_ : Option Addr) (c1_ : Nat), v_ = (.tuple #[(.agg #[(.int .i64 r.1.Number), (.slice A0_ r.1.Frames.length c0_), (.slice A1_ r.1.Regs.length c1_)]), (.int .i64 r.2.1), (.bool r.2.2)]) ∧ Own el130 w_ w.heap.size A0_ c0_ r.1.Frames ∧ Own el3 w_ w.heap.size A1_ c1_ r.1.Regs ∧ Ext w w_) := by
  have H := wp.impl_WarpResult.math xs0 x1 hp
  have hB := Ext.refl w
  refine impl_WarpResult.start ?_
  unfold impl_WarpResult.vc
  unfold wp.impl_WarpResult at H
  refine newBlk (fun g2_ w21 L2 P2 e22 => ?_)
  have O2 := P2
  have L2 := Nat.le_trans hB.size L2
  have hB := ethen hB e22
  obtain ⟨hp25, H⟩ := H
  obtain ⟨r23, hr24⟩ : ∃ r_, r_ = M.impl_IsQuiet xs0 := ⟨_, rfl⟩
  have H := H r23 hr24
  refine (impl_IsQuiet.con hp25 hr24 (R0.ext hB) hc0).mono ?_
  rintro _ w26 ⟨rfl, e27⟩
  have O2 := O2.ext e27
  have hB := ethen hB e27
  refine ⟨r23, rfl, ?_⟩
  refine bcase_mk (fun hc65 => ?_) (fun hc65 => ?_)
  · have H := (bcase_iff.1 H).1 hc65
    refine stBlk O2 (o := 0) (cs' := #[(.int .i64 0), (.slice none 0 0), (.slice none 0 0)]) rfl rfl (Nat.le_of_ble_eq_true rfl) rfl (fun w28 P2 e29 => ?_)
    have hB := echg hB e29 L2
    have O2 := P2
    refine ⟨_, (O2.at 0 rfl rfl), ?_⟩
    refine ⟨_, _, _, (O2.at 1 rfl rfl), ?_⟩
    refine ⟨_, _, _, (O2.at 2 rfl rfl), ?_⟩
    obtain rfl := hr.trans H.symm
    exact ⟨none, 0, none, 0, rfl, Own.nil, Own.nil, hB⟩
  have H := (bcase_iff.1 H).2 hc65
  obtain ⟨r30, hr31⟩ : ∃ r_, r_ = M.impl_isWarpNumber x1 := ⟨_, rfl⟩
  have H := H r30 hr31
  refine (impl_isWarpNumber.con hr31 ).mono ?_
  rintro _ w33 ⟨rfl, e34⟩
  have O2 := O2.ext e34
  have hB := ethen hB e34
  refine ⟨r30, rfl, ?_⟩
  refine bcase_mk (fun hc64 => ?_) (fun hc64 => ?_)
  · have H := (bcase_iff.1 H).1 hc64
    refine stBlk O2 (o := 0) (cs' := #[(.int .i64 0), (.slice none 0 0), (.slice none 0 0)]) rfl rfl (Nat.le_of_ble_eq_true rfl) rfl (fun w35 P2 e36 => ?_)
    have hB := echg hB e36 L2
    have O2 := P2
    refine ⟨_, (O2.at 0 rfl rfl), ?_⟩
    refine ⟨_, _, _, (O2.at 1 rfl rfl), ?_⟩
    refine ⟨_, _, _, (O2.at 2 rfl rfl), ?_⟩
    obtain rfl := hr.trans H.symm
    exact ⟨none, 0, none, 0, rfl, Own.nil, Own.nil, hB⟩
  have H := (bcase_iff.1 H).2 hc64
  obtain ⟨hp39, H⟩ := H
  obtain ⟨r37, hr38⟩ : ∃ r_, r_ = M.impl_newWarp xs0 x1 := ⟨_, rfl⟩
  have H := H r37 hr38
  refine (impl_newWarp.con hp39 hr38 (R0.ext hB) hc0).mono ?_
  rintro _ w40 ⟨A42, c43, A44, c45, rfl, P3, P4, e41⟩
  have N3_2 := P3.apart_old O2.lt
  have N4_2 := P4.apart_old O2.lt
  have O2 := O2.ext e41
  have O3 := P3.mono hB.size
  have O4 := P4.mono hB.size
  have hB := ethen hB e41
  refine ⟨r37.Number, trivial, ?_⟩
  refine ⟨A42, r37.Frames.length, c43, trivial, ?_⟩
  refine ⟨A44, r37.Regs.length, c45, trivial, ?_⟩
  refine ⟨rfl, ?_⟩
  obtain ⟨hp48, H⟩ := H
  obtain ⟨r46, hr47⟩ : ∃ r_, r_ = M.impl_RunWarp xs0 r37 8000 := ⟨_, rfl⟩
  have H := H r46 hr47
  refine (impl_RunWarp.con hp48 hr47 (R0.ext hB) hc0 O3.row O3.le O4.row O4.le).mono ?_
  rintro _ w49 ⟨A51, c52, A53, c54, rfl, P5, P6, e50⟩
  have N5_2 := P5.apart_old O2.lt
  have N3_5 := Own.apart2_new O3 P5 (Nat.le_refl _)
  have N4_5 := Own.apart2_new O4 P5 (Nat.le_refl _)
  have N6_2 := P6.apart_old O2.lt
  have N3_6 := Own.apart2_new O3 P6 (Nat.le_refl _)
  have N4_6 := Own.apart2_new O4 P6 (Nat.le_refl _)
  have O2 := O2.ext e50
  have O3 := O3.ext e50
  have O4 := O4.ext e50
  have O5 := P5.mono hB.size
  have O6 := P6.mono hB.size
  have hB := ethen hB e50
  refine ⟨(.agg #[(.int .i64 r46.1.Number), (.slice A51 r46.1.Frames.length c52), (.slice A53 r46.1.Regs.length c54)]), ?_⟩
  refine ⟨r46.1.Number, trivial, ?_⟩
  refine ⟨A51, r46.1.Frames.length, c52, trivial, ?_⟩
  refine ⟨A53, r46.1.Regs.length, c54, trivial, ?_⟩
  refine ⟨rfl, ?_⟩
  refine ⟨(.int .i64 r46.2), ?_⟩
  refine ⟨r46.2, rfl, ?_⟩
  refine ⟨rfl, ?_⟩
  refine newBlk (fun g7_ w55 L7 P7 e56 => ?_)
  have N2_7 := O2.ne L7
  have N3_7 := O3.apart_new L7
  have N4_7 := O4.apart_new L7
  have N5_7 := O5.apart_new L7
  have N6_7 := O6.apart_new L7
  have O2 := O2.ext e56
  have O3 := O3.ext e56
  have O4 := O4.ext e56
  have O5 := O5.ext e56
  have O6 := O6.ext e56
  have O7 := P7
  have L7 := Nat.le_trans hB.size L7
  have hB := ethen hB e56
  refine stBlk O7 (o := 0) (cs' := #[(.int .i64 r46.1.Number), (.slice A51 r46.1.Frames.length c52), (.slice A53 r46.1.Regs.length c54)]) rfl rfl (Nat.le_of_ble_eq_true rfl) rfl (fun w57 P7 e58 => ?_)
  have O2_ := O2.chg e58 N2_7
  have O3_ := O3.chg e58 N3_7
  have O4_ := O4.chg e58 N4_7
  have O5_ := O5.chg e58 N5_7
  have O6_ := O6.chg e58 N6_7
  have O2 := O2_
  have O3 := O3_
  have O4 := O4_
  have O5 := O5_
  have O6 := O6_
  have hB := echg hB e58 L7
  have O7 := P7
  refine ⟨_, _, _, (O7.at 1 rfl rfl), ?_⟩
  refine bcase_mk (fun hc63 => ?_) (fun hc63 => ?_)
  · have H := (bcase_iff.1 H).1 hc63
    refine stBlk O2 (o := 0) (cs' := #[(.int .i64 0), (.slice none 0 0), (.slice none 0 0)]) rfl rfl (Nat.le_of_ble_eq_true rfl) rfl (fun w59 P2 e60 => ?_)
    have O5_ := O5.chg e60 N5_2
    have O6_ := O6.chg e60 N6_2
    have O7_ := O7.chg e60 (N2_7).symm
    have O5 := O5_
    have O6 := O6_
    have O7 := O7_
    have hB := echg hB e60 L2
    have O2 := P2
    refine ⟨_, (O2.at 0 rfl rfl), ?_⟩
    refine ⟨_, _, _, (O2.at 1 rfl rfl), ?_⟩
    refine ⟨_, _, _, (O2.at 2 rfl rfl), ?_⟩
    obtain rfl := hr.trans H.symm
    exact ⟨none, 0, none, 0, rfl, Own.nil, Own.nil, hB⟩
  have H := (bcase_iff.1 H).2 hc63
  refine ⟨_, (O7.at 0 rfl rfl), ?_⟩
  refine ⟨_, _, _, (O7.at 1 rfl rfl), ?_⟩
  refine ⟨_, _, _, (O7.at 2 rfl rfl), ?_⟩
  refine stBlk O2 (o := 0) (cs' := #[(.int .i64 r46.1.Number), (.slice A51 r46.1.Frames.length c52), (.slice A53 r46.1.Regs.length c54)]) rfl rfl (Nat.le_of_ble_eq_true rfl) rfl (fun w61 P2 e62 => ?_)
  have O5_ := O5.chg e62 N5_2
  have O6_ := O6.chg e62 N6_2
  have O7_ := O7.chg e62 (N2_7).symm
  have O5 := O5_
  have O6 := O6_
  have O7 := O7_
  have hB := echg hB e62 L2
  have O2 := P2
  refine ⟨_, (O2.at 0 rfl rfl), ?_⟩
  refine ⟨_, _, _, (O2.at 1 rfl rfl), ?_⟩
  refine ⟨_, _, _, (O2.at 2 rfl rfl), ?_⟩
  obtain rfl := hr.trans H.symm
  exact ⟨A51, c52, A53, c54, rfl, O5, O6, hB⟩
def spec_LanesAgree.vc (A0 : Option Addr) (n0 : Nat) (c0 : Nat) (x1 : Int) (w : World) (K : Value → World → Prop) : Prop :=
  Cll Tryz.prog 26 #[(.slice A0 n0 c0), (.int .i64 x1)] w fun v21 w22 => (∃ u23 : Value, (∃ (n24 : Int), True ∧ ∃ (A25 : Option Addr) (n26 : Nat) (c27 : Nat), True ∧ ∃ (A28 : Option Addr) (n29 : Nat) (c30 : Nat), True ∧ u23 = (.agg #[(.int .i64 n24), (.slice A25 n26 c27), (.slice A28 n29 c30)]) ∧ ∃ u31 : Value, (∃ (n32 : Int), u31 = (.int .i64 n32) ∧ ∃ u33 : Value, (∃ (b34 : Bool), u33 = (.bool b34) ∧ v21 = (.tuple #[(.agg #[(.int .i64 n24), (.slice A25 n26 c27), (.slice A28 n29 c30)]), (.int .i64 n32), (.bool b34)]) ∧ newK w22 (.cells #[(.int .i64 0), (.slice none 0 0), (.slice none 0 0)] 31) fun g35 w36 => stCells (⟨g35, 0, none⟩ : Addr) [(.int .i64 n24), (.slice A25 n26 c27), (.slice A28 n29 c30)] 0 w36 fun w37 => bcase (!b34) (K (.bool false) w37) (Cll Tryz.prog 94 #[(.slice A0 n0 c0), (.int .i64 (IntKind.wrap .i64 (x1 * 8))), (.int .i64 8)] w37 fun v38 w39 => (∃ u40 : Value, (∃ (A41 : Option Addr) (n42 : Nat) (c43 : Nat), u40 = (.slice A41 n42 c43) ∧ ∃ u44 : Value, (∃ (b45 : Bool), u44 = (.bool b45) ∧ v38 = (.tuple #[(.slice A41 n42 c43), (.bool b45)]) ∧ bcase (!b45) (K (.bool false) w39) (LoopT (σ := Int × Unit) (fun z46 w47 next48 => bcase (decide (z46.1 < ((n42 : Nat) : Int))) (((0 : Int) ≤ z46.1 ∧ z46.1 < ((n42 : Nat) : Int) ∧ ∃ a49 : Addr, A41 = some a49 ∧ ∃ (n50 : Int), w47.cell? ((a49.add ((z46.1.toNat) * 1)).add 0) = some (.int .i64 n50) ∧ ∃ (A51 : Option Addr) (n52 : Nat) (c53 : Nat), w47.cell? (((⟨g35, 0, none⟩ : Addr).add 2).add 0) = some (.slice A51 n52 c53) ∧ ((0 : Int) ≤ z46.1 ∧ z46.1 < ((n52 : Nat) : Int) ∧ ∃ a54 : Addr, A51 = some a54 ∧ ∃ (n55 : Int), w47.cell? ((a54.add ((z46.1.toNat) * 1)).add 0) = some (.int .i64 n55) ∧ bcase (n50 != n55) (K (.bool false) w47.drew) (next48 ((IntKind.wrap .i64 (z46.1 + 1)), ()) w47.drew)))) (K (.bool true) w47)) (0, ()) w39)))))))))

def spec_LanesAgree.ann : Ann := (.seq .l (.seq .l (.seq (.seq .l (.two (.seq .l .l) .l)) (.seq .l (.seq (.seq .l (.two (.seq .l .l) .l)) (.seq (.seq .l (.one (.loop [(10, .int .i64)] (.seq (.seq .l (.two .l .l)) (.seq (.one (.seq .l (.two (.seq .l .l) .l))) .l))))) (.seq .l .l)))))))

theorem spec_LanesAgree.start {A0 : Option Addr} {n0 : Nat} {c0 : Nat} {x1 : Int} {w : World} {K : Value → World → Prop} (h : spec_LanesAgree.vc A0 n0 c0 x1 w K) : Cll Tryz.prog 33 #[(.slice A0 n0 c0), (.int .i64 x1)] w K :=
  vcF_sound mixed (fn := Tryz.f33) (by kernel_rfl) (by kernel_rfl) (an := spec_LanesAgree.ann) (args := [(.slice A0 n0 c0), (.int .i64 x1)]) (Eq.mpr (by kernel_rfl) h)

theorem spec_LanesAgree.con {xs0 : List D.Ins} {A0 : Option Addr} {c0 : Nat} {x1 : Int} {r : Bool} {w : World} (hp : M.spec_LanesAgree_pre xs0 x1) (hr : r = M.spec_LanesAgree xs0 x1) (R0 : Row el89 w A0 xs0) (hc0 : xs0.length ≤ c0) :
    Cll Tryz.prog 33 #[(.slice A0 xs0.length c0), (.int .i64 x1)] w (fun v_ w_ => v_ = (.bool r) ∧ Ext w w_) := by
  have H := wp.spec_LanesAgree.math xs0 x1 hp
  have hB := Ext.refl w
  refine spec_LanesAgree.start ?_
  unfold spec_LanesAgree.vc
  unfold wp.spec_LanesAgree at H
  obtain ⟨hp23, H⟩ := H
  obtain ⟨r21, hr22⟩ : ∃ r_, r_ = M.spec_WarpResult xs0 x1 := ⟨_, rfl⟩
  have H := H r21 hr22
  refine (spec_WarpResult.con hp23 hr22 (R0.ext hB) hc0).mono ?_
  rintro _ w24 ⟨A26, c27, A28, c29, rfl, P2, P3, e25⟩
  have O2 := P2.mono hB.size
  have O3 := P3.mono hB.size
  have hB := ethen hB e25
  refine ⟨(.agg #[(.int .i64 r21.1.Number), (.slice A26 r21.1.Frames.length c27), (.slice A28 r21.1.Regs.length c29)]), ?_⟩
  refine ⟨r21.1.Number, trivial, ?_⟩
  refine ⟨A26, r21.1.Frames.length, c27, trivial, ?_⟩
  refine ⟨A28, r21.1.Regs.length, c29, trivial, ?_⟩
  refine ⟨rfl, ?_⟩
  refine ⟨(.int .i64 r21.2.1), ?_⟩
  refine ⟨r21.2.1, rfl, ?_⟩
  refine ⟨(.bool r21.2.2), ?_⟩
  refine ⟨r21.2.2, rfl, ?_⟩
  refine ⟨rfl, ?_⟩
  refine newBlk (fun g4_ w30 L4 P4 e31 => ?_)
  have N2_4 := O2.apart_new L4
  have N3_4 := O3.apart_new L4
  have O2 := O2.ext e31
  have O3 := O3.ext e31
  have O4 := P4
  have L4 := Nat.le_trans hB.size L4
  have hB := ethen hB e31
  refine stBlk O4 (o := 0) (cs' := #[(.int .i64 r21.1.Number), (.slice A26 r21.1.Frames.length c27), (.slice A28 r21.1.Regs.length c29)]) rfl rfl (Nat.le_of_ble_eq_true rfl) rfl (fun w32 P4 e33 => ?_)
  have O2_ := O2.chg e33 N2_4
  have O3_ := O3.chg e33 N3_4
  have O2 := O2_
  have O3 := O3_
  have hB := echg hB e33 L4
  have O4 := P4
  refine bcase_mk (fun hc68 => ?_) (fun hc68 => ?_)
  · have H := (bcase_iff.1 H).1 hc68
    obtain rfl := hr.trans H.symm
    exact ⟨rfl, hB⟩
  have H := (bcase_iff.1 H).2 hc68
  obtain ⟨hp36, H⟩ := H
  obtain ⟨r34, hr35⟩ : ∃ r_, r_ = M.spec_EndRegs xs0 (IntKind.wrap .i64 (x1 * 8)) 8 := ⟨_, rfl⟩
  have H := H r34 hr35
  refine (spec_EndRegs.con hp36 hr35 (R0.ext hB) hc0).mono ?_
  rintro _ w37 ⟨A39, c40, rfl, P5, e38⟩
  have N2_5 := Own.apart2_new O2 P5 (Nat.le_refl _)
  have N3_5 := Own.apart2_new O3 P5 (Nat.le_refl _)
  have N5_4 := P5.apart_old O4.lt
  have O2 := O2.ext e38
  have O3 := O3.ext e38
  have O4 := O4.ext e38
  have O5 := P5.mono hB.size
  have hB := ethen hB e38
  refine ⟨(.slice A39 r34.1.length c40), ?_⟩
  refine ⟨A39, r34.1.length, c40, rfl, ?_⟩
  refine ⟨(.bool r34.2), ?_⟩
  refine ⟨r34.2, rfl, ?_⟩
  refine ⟨rfl, ?_⟩
  refine bcase_mk (fun hc67 => ?_) (fun hc67 => ?_)
  · have H := (bcase_iff.1 H).1 hc67
    obtain rfl := hr.trans H.symm
    exact ⟨rfl, hB⟩
  have H := (bcase_iff.1 H).2 hc67
  obtain ⟨J43, ⟨m65, hJ64⟩, hS44⟩ := H
  refine ⟨fun m_ z_ w_ => ∃ (i41 : Int), z_ = (i41, ()) ∧ J43 m_ (i41, ()) ∧ Ext w w_ ∧ Own el130 w_ w.heap.size A26 c27 r21.1.Frames ∧ Own el3 w_ w.heap.size A28 c29 r21.1.Regs ∧ Blk w_ g4_ 31 #[(.int .i64 r21.1.Number), (.slice A26 r21.1.Frames.length c27), (.slice A28 r21.1.Regs.length c29)] ∧ Own el3 w_ w.heap.size A39 c40 r34.1, ⟨m65, 0, rfl, hJ64, hB, O2, O3, O4, O5⟩, ?_⟩
  rintro m42 _ w46 ⟨i41, rfl, hJ66, hB, O2, O3, O4, O5⟩
  have H := hS44 m42 _ hJ66
  clear hS44 hJ66
  try dsimp only at H ⊢
  refine bcase_mk (fun hc62 => ?_) (fun hc62 => ?_)
  · have H := (bcase_iff.1 H).1 hc62
    obtain ⟨⟨h0_51, h1_52⟩, H⟩ := H
    obtain ⟨a49, ha50, hat48⟩ := Row.at O5.row h0_51 h1_52
    refine ⟨h0_51, h1_52, a49, ha50, ?_⟩
    refine ⟨_, (hat48 0 _ rfl), ?_⟩
    refine ⟨_, _, _, (O4.at 2 rfl rfl), ?_⟩
    obtain ⟨⟨h0_56, h1_57⟩, H⟩ := H
    obtain ⟨a54, ha55, hat53⟩ := Row.at O3.row h0_56 h1_57
    refine ⟨h0_56, h1_57, a54, ha55, ?_⟩
    refine ⟨_, (hat53 0 _ rfl), ?_⟩
    have O2 := O2.ext (Ext.drew _)
    have O3 := O3.ext (Ext.drew _)
    have O4 := O4.ext (Ext.drew _)
    have O5 := O5.ext (Ext.drew _)
    have hB := ethen hB (Ext.drew _)
    refine bcase_mk (fun hc61 => ?_) (fun hc61 => ?_)
    · have H := (bcase_iff.1 H).1 hc61
      obtain rfl := hr.trans H.symm
      exact ⟨rfl, hB⟩
    have H := (bcase_iff.1 H).2 hc61
    obtain ⟨m58, hm59, hJ60⟩ := H
    exact ⟨m58, hm59, (IntKind.wrap .i64 (i41 + 1)), rfl, hJ60, hB, O2, O3, O4, O5⟩
  have H := (bcase_iff.1 H).2 hc62
  obtain rfl := hr.trans H.symm
  exact ⟨rfl, hB⟩
def impl_LanesAgree.vc (A0 : Option Addr) (n0 : Nat) (c0 : Nat) (x1 : Int) (w : World) (K : Value → World → Prop) : Prop :=
  Cll Tryz.prog 27 #[(.slice A0 n0 c0), (.int .i64 x1)] w fun v21 w22 => (∃ u23 : Value, (∃ (n24 : Int), True ∧ ∃ (A25 : Option Addr) (n26 : Nat) (c27 : Nat), True ∧ ∃ (A28 : Option Addr) (n29 : Nat) (c30 : Nat), True ∧ u23 = (.agg #[(.int .i64 n24), (.slice A25 n26 c27), (.slice A28 n29 c30)]) ∧ ∃ u31 : Value, (∃ (n32 : Int), u31 = (.int .i64 n32) ∧ ∃ u33 : Value, (∃ (b34 : Bool), u33 = (.bool b34) ∧ v21 = (.tuple #[(.agg #[(.int .i64 n24), (.slice A25 n26 c27), (.slice A28 n29 c30)]), (.int .i64 n32), (.bool b34)]) ∧ newK w22 (.cells #[(.int .i64 0), (.slice none 0 0), (.slice none 0 0)] 31) fun g35 w36 => stCells (⟨g35, 0, none⟩ : Addr) [(.int .i64 n24), (.slice A25 n26 c27), (.slice A28 n29 c30)] 0 w36 fun w37 => ∃ (n38 : Int), w37.cell? (((⟨g35, 0, none⟩ : Addr).add 0).add 0) = some (.int .i64 n38) ∧ Cll Tryz.prog 95 #[(.slice A0 n0 c0), (.int .i64 (IntKind.wrap .i64 (n38 * 8))), (.int .i64 8)] w37 fun v39 w40 => (∃ u41 : Value, (∃ (A42 : Option Addr) (n43 : Nat) (c44 : Nat), u41 = (.slice A42 n43 c44) ∧ ∃ u45 : Value, (∃ (b46 : Bool), u45 = (.bool b46) ∧ v39 = (.tuple #[(.slice A42 n43 c44), (.bool b46)]) ∧ bcase b34 (bcase b46 (∃ (A47 : Option Addr) (n48 : Nat) (c49 : Nat), w40.cell? (((⟨g35, 0, none⟩ : Addr).add 2).add 0) = some (.slice A47 n48 c49) ∧ Cll Tryz.prog 96 #[(.slice A47 n48 c49), (.slice A42 n43 c44)] w40 fun v50 w51 => (∃ (b52 : Bool), v50 = (.bool b52) ∧ K (.bool b52) w51)) (K (.bool false) w40)) (K (.bool false) w40))))))))

def impl_LanesAgree.ann : Ann := (.seq .l (.seq .l (.seq .l (.seq .l .l))))

theorem impl_LanesAgree.start {A0 : Option Addr} {n0 : Nat} {c0 : Nat} {x1 : Int} {w : World} {K : Value → World → Prop} (h : impl_LanesAgree.vc A0 n0 c0 x1 w K) : Cll Tryz.prog 34 #[(.slice A0 n0 c0), (.int .i64 x1)] w K :=
  vcF_sound mixed (fn := Tryz.f34) (by kernel_rfl) (by kernel_rfl) (an := impl_LanesAgree.ann) (args := [(.slice A0 n0 c0), (.int .i64 x1)]) (Eq.mpr (by kernel_rfl) h)

theorem impl_LanesAgree.con {xs0 : List D.Ins} {A0 : Option Addr} {c0 : Nat} {x1 : Int} {r : Bool} {w : World} (hp : M.impl_LanesAgree_pre xs0 x1) (hr : r = M.impl_LanesAgree xs0 x1) (R0 : Row el89 w A0 xs0) (hc0 : xs0.length ≤ c0) :
    Cll Tryz.prog 34 #[(.slice A0 xs0.length c0), (.int .i64 x1)] w (fun v_ w_ => v_ = (.bool r) ∧ Ext w w_) := by
  have H := wp.impl_LanesAgree.math xs0 x1 hp
  have hB := Ext.refl w
  refine impl_LanesAgree.start ?_
  unfold impl_LanesAgree.vc
  unfold wp.impl_LanesAgree at H
  obtain ⟨hp23, H⟩ := H
  obtain ⟨r21, hr22⟩ : ∃ r_, r_ = M.impl_WarpResult xs0 x1 := ⟨_, rfl⟩
  have H := H r21 hr22
  refine (impl_WarpResult.con hp23 hr22 (R0.ext hB) hc0).mono ?_
  rintro _ w24 ⟨A26, c27, A28, c29, rfl, P2, P3, e25⟩
  have O2 := P2.mono hB.size
  have O3 := P3.mono hB.size
  have hB := ethen hB e25
  refine ⟨(.agg #[(.int .i64 r21.1.Number), (.slice A26 r21.1.Frames.length c27), (.slice A28 r21.1.Regs.length c29)]), ?_⟩
  refine ⟨r21.1.Number, trivial, ?_⟩
  refine ⟨A26, r21.1.Frames.length, c27, trivial, ?_⟩
  refine ⟨A28, r21.1.Regs.length, c29, trivial, ?_⟩
  refine ⟨rfl, ?_⟩
  refine ⟨(.int .i64 r21.2.1), ?_⟩
  refine ⟨r21.2.1, rfl, ?_⟩
  refine ⟨(.bool r21.2.2), ?_⟩
  refine ⟨r21.2.2, rfl, ?_⟩
  refine ⟨rfl, ?_⟩
  refine newBlk (fun g4_ w30 L4 P4 e31 => ?_)
  have N2_4 := O2.apart_new L4
  have N3_4 := O3.apart_new L4
  have O2 := O2.ext e31
  have O3 := O3.ext e31
  have O4 := P4
  have L4 := Nat.le_trans hB.size L4
  have hB := ethen hB e31
  refine stBlk O4 (o := 0) (cs' := #[(.int .i64 r21.1.Number), (.slice A26 r21.1.Frames.length c27), (.slice A28 r21.1.Regs.length c29)]) rfl rfl (Nat.le_of_ble_eq_true rfl) rfl (fun w32 P4 e33 => ?_)
  have O2_ := O2.chg e33 N2_4
  have O3_ := O3.chg e33 N3_4
  have O2 := O2_
  have O3 := O3_
  have hB := echg hB e33 L4
  have O4 := P4
  refine ⟨_, (O4.at 0 rfl rfl), ?_⟩
  obtain ⟨hp36, H⟩ := H
  obtain ⟨r34, hr35⟩ : ∃ r_, r_ = M.impl_EndRegs xs0 (IntKind.wrap .i64 (r21.1.Number * 8)) 8 := ⟨_, rfl⟩
  have H := H r34 hr35
  refine (impl_EndRegs.con hp36 hr35 (R0.ext hB) hc0).mono ?_
  rintro _ w37 ⟨A39, c40, rfl, P5, e38⟩
  have N2_5 := Own.apart2_new O2 P5 (Nat.le_refl _)
  have N3_5 := Own.apart2_new O3 P5 (Nat.le_refl _)
  have N5_4 := P5.apart_old O4.lt
  have O2 := O2.ext e38
  have O3 := O3.ext e38
  have O4 := O4.ext e38
  have O5 := P5.mono hB.size
  have hB := ethen hB e38
  refine ⟨(.slice A39 r34.1.length c40), ?_⟩
  refine ⟨A39, r34.1.length, c40, rfl, ?_⟩
  refine ⟨(.bool r34.2), ?_⟩
  refine ⟨r34.2, rfl, ?_⟩
  refine ⟨rfl, ?_⟩
  refine bcase_mk (fun hc47 => ?_) (fun hc47 => ?_)
  · have H := (bcase_iff.1 H).1 hc47
    refine bcase_mk (fun hc46 => ?_) (fun hc46 => ?_)
    · have H := (bcase_iff.1 H).1 hc46
      refine ⟨_, _, _, (O4.at 2 rfl rfl), ?_⟩
      obtain ⟨hp43, H⟩ := H
      obtain ⟨r41, hr42⟩ : ∃ r_, r_ = M.slices_Equal_int_int r21.1.Regs r34.1 := ⟨_, rfl⟩
      have H := H r41 hr42
      refine (slices_Equal_int_int.con hp43 hr42 O3.row O3.le O5.row O5.le).mono ?_
      rintro _ w44 ⟨rfl, e45⟩
      have O2 := O2.ext e45
      have O3 := O3.ext e45
      have O4 := O4.ext e45
      have O5 := O5.ext e45
      have hB := ethen hB e45
      refine ⟨r41, rfl, ?_⟩
      obtain rfl := hr.trans H.symm
      exact ⟨rfl, hB⟩
    have H := (bcase_iff.1 H).2 hc46
    obtain rfl := hr.trans H.symm
    exact ⟨rfl, hB⟩
  have H := (bcase_iff.1 H).2 hc47
  obtain rfl := hr.trans H.symm
  exact ⟨rfl, hB⟩
def laws_FnExactLanesAgree.vc (A0 : Option Addr) (n0 : Nat) (c0 : Nat) (x1 : Int) (w : World) (K : Value → World → Prop) : Prop :=
  Cll Tryz.prog 15 #[(.slice A0 n0 c0), (.int .i64 1048576)] w fun v21 w22 => (∃ (n23 : Int), v21 = (.int .i64 n23) ∧ bcase (decide (n23 < 0)) (K (.bool true) w22) (Cll Tryz.prog 18 #[(.slice A0 n0 c0)] w22 fun v24 w25 => (∃ (A26 : Option Addr) (n27 : Nat) (c28 : Nat), v24 = (.slice A26 n27 c28) ∧ Cll Tryz.prog 33 #[(.slice A26 n27 c28), (.int .i64 x1)] w25 fun v29 w30 => (∃ (b31 : Bool), v29 = (.bool b31) ∧ Cll Tryz.prog 18 #[(.slice A0 n0 c0)] w30 fun v32 w33 => (∃ (A34 : Option Addr) (n35 : Nat) (c36 : Nat), v32 = (.slice A34 n35 c36) ∧ Cll Tryz.prog 34 #[(.slice A34 n35 c36), (.int .i64 x1)] w33 fun v37 w38 => (∃ (b39 : Bool), v37 = (.bool b39) ∧ bcase (!(b39 == b31)) (K (.bool false) w38) (Cll Tryz.prog 18 #[(.slice A0 n0 c0)] w38 fun v40 w41 => (∃ (A42 : Option Addr) (n43 : Nat) (c44 : Nat), v40 = (.slice A42 n43 c44) ∧ Cll Tryz.prog 22 #[(.slice A34 n35 c36), (.slice A42 n43 c44)] w41 fun v45 w46 => (∃ (b47 : Bool), v45 = (.bool b47) ∧ bcase (!b47) (K (.bool false) w46) (K (.bool true) w46))))))))))

def laws_FnExactLanesAgree.ann : Ann := (.seq .l (.seq .l (.seq .l (.seq (.seq .l (.two (.seq .l .l) .l)) (.seq .l (.seq .l (.seq .l (.seq (.seq .l (.two (.seq .l .l) .l)) (.seq (.seq .l (.two (.seq .l .l) .l)) (.seq .l .l))))))))))

theorem laws_FnExactLanesAgree.start {A0 : Option Addr} {n0 : Nat} {c0 : Nat} {x1 : Int} {w : World} {K : Value → World → Prop} (h : laws_FnExactLanesAgree.vc A0 n0 c0 x1 w K) : Cll Tryz.prog 7 #[(.slice A0 n0 c0), (.int .i64 x1)] w K :=
  vcF_sound mixed (fn := Tryz.f7) (by kernel_rfl) (by kernel_rfl) (an := laws_FnExactLanesAgree.ann) (args := [(.slice A0 n0 c0), (.int .i64 x1)]) (Eq.mpr (by kernel_rfl) h)

theorem laws_FnExactLanesAgree.con {xs0 : List D.Ins} {A0 : Option Addr} {c0 : Nat} {x1 : Int} {r : Bool} {w : World} (hp : M.laws_FnExactLanesAgree_pre xs0 x1) (hr : r = M.laws_FnExactLanesAgree xs0 x1) (R0 : Row el91 w A0 xs0) (hc0 : xs0.length ≤ c0) :
    Cll Tryz.prog 7 #[(.slice A0 xs0.length c0), (.int .i64 x1)] w (fun v_ w_ => v_ = (.bool r) ∧ Ext w w_) := by
  have H := wp.laws_FnExactLanesAgree.math xs0 x1 hp
  have hB := Ext.refl w
  refine laws_FnExactLanesAgree.start ?_
  unfold laws_FnExactLanesAgree.vc
  unfold wp.laws_FnExactLanesAgree at H
  obtain ⟨hp23, H⟩ := H
  obtain ⟨r21, hr22⟩ : ∃ r_, r_ = M.laws_szInsS xs0 1048576 := ⟨_, rfl⟩
  have H := H r21 hr22
  refine (laws_szInsS.con hp23 hr22 (R0.ext hB) hc0).mono ?_
  rintro _ w24 ⟨rfl, e25⟩
  have hB := ethen hB e25
  refine ⟨r21, rfl, ?_⟩
  refine bcase_mk (fun hc64 => ?_) (fun hc64 => ?_)
  · have H := (bcase_iff.1 H).1 hc64
    obtain rfl := hr.trans H.symm
    exact ⟨rfl, hB⟩
  have H := (bcase_iff.1 H).2 hc64
  obtain ⟨hp28, H⟩ := H
  obtain ⟨r26, hr27⟩ : ∃ r_, r_ = M.laws_toInsS xs0 := ⟨_, rfl⟩
  have H := H r26 hr27
  refine (laws_toInsS.con hp28 hr27 (R0.ext hB) hc0).mono ?_
  rintro _ w29 ⟨A31, c32, rfl, P2, e30⟩
  have O2 := P2.mono hB.size
  have hB := ethen hB e30
  refine ⟨A31, r26.length, c32, rfl, ?_⟩
  obtain ⟨hp35, H⟩ := H
  obtain ⟨r33, hr34⟩ : ∃ r_, r_ = M.spec_LanesAgree r26 x1 := ⟨_, rfl⟩
  have H := H r33 hr34
  refine (spec_LanesAgree.con hp35 hr34 O2.row O2.le).mono ?_
  rintro _ w36 ⟨rfl, e37⟩
  have O2 := O2.ext e37
  have hB := ethen hB e37
  refine ⟨r33, rfl, ?_⟩
  obtain ⟨hp40, H⟩ := H
  obtain ⟨r38, hr39⟩ : ∃ r_, r_ = M.laws_toInsS xs0 := ⟨_, rfl⟩
  have H := H r38 hr39
  refine (laws_toInsS.con hp40 hr39 (R0.ext hB) hc0).mono ?_
  rintro _ w41 ⟨A43, c44, rfl, P3, e42⟩
  have O3 := P3.mono hB.size
  have hB := ethen hB e42
  refine ⟨A43, r38.length, c44, rfl, ?_⟩
  obtain ⟨hp47, H⟩ := H
  obtain ⟨r45, hr46⟩ : ∃ r_, r_ = M.impl_LanesAgree r38 x1 := ⟨_, rfl⟩
  have H := H r45 hr46
  refine (impl_LanesAgree.con hp47 hr46 O3.row O3.le).mono ?_
  rintro _ w48 ⟨rfl, e49⟩
  have O3 := O3.ext e49
  have hB := ethen hB e49
  refine ⟨r45, rfl, ?_⟩
  refine bcase_mk (fun hc63 => ?_) (fun hc63 => ?_)
  · have H := (bcase_iff.1 H).1 hc63
    obtain rfl := hr.trans H.symm
    exact ⟨rfl, hB⟩
  have H := (bcase_iff.1 H).2 hc63
  obtain ⟨hp52, H⟩ := H
  obtain ⟨r50, hr51⟩ : ∃ r_, r_ = M.laws_toInsS xs0 := ⟨_, rfl⟩
  have H := H r50 hr51
  refine (laws_toInsS.con hp52 hr51 (R0.ext hB) hc0).mono ?_
  rintro _ w53 ⟨A55, c56, rfl, P4, e54⟩
  have N3_4 := Own.apart2_new O3 P4 (Nat.le_refl _)
  have O3 := O3.ext e54
  have O4 := P4.mono hB.size
  have hB := ethen hB e54
  refine ⟨A55, r50.length, c56, rfl, ?_⟩
  obtain ⟨hp59, H⟩ := H
  obtain ⟨r57, hr58⟩ : ∃ r_, r_ = M.laws_eqInsS r38 r50 := ⟨_, rfl⟩
  have H := H r57 hr58
  refine (laws_eqInsS.con hp59 hr58 O3.row O3.le O4.row O4.le).mono ?_
  rintro _ w60 ⟨rfl, e61⟩
  have O3 := O3.ext e61
  have O4 := O4.ext e61
  have hB := ethen hB e61
  refine ⟨r57, rfl, ?_⟩
  refine bcase_mk (fun hc62 => ?_) (fun hc62 => ?_)
  · have H := (bcase_iff.1 H).1 hc62
    obtain rfl := hr.trans H.symm
    exact ⟨rfl, hB⟩
  have H := (bcase_iff.1 H).2 hc62
  obtain rfl := hr.trans H.symm
  exact ⟨rfl, hB⟩
end Go.V
