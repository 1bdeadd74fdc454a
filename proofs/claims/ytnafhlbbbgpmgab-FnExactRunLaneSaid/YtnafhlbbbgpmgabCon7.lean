import Derived.Test.YtnafhlbbbgpmgabMath7
import Derived.Test.YtnafhlbbbgpmgabSeat
import Derived.Test.YtnafhlbbbgpmgabCon6
namespace Go.V
open Go.Proofs
set_option linter.unusedVariables false
set_option linter.unusedSimpArgs false
set_option maxRecDepth 100000

def spec_EndRegs.vc (A0 : Option Addr) (n0 : Nat) (c0 : Nat) (x1 : Int) (x2 : Int) (w : World) (K : Value → World → Prop) : Prop :=
  Run Try.prog (Instr.buildSlice 26 0 #[]) w fun v21 w22 => ∃ (A23 : Option Addr) (n24 c25 : Nat), v21 = .slice A23 n24 c25 ∧ Cll Try.prog 48 #[(.int .i64 x2), (.int .i64 1), (.int .i64 24)] w22 fun v27 w28 => (∃ (b29 : Bool), v27 = (.bool b29) ∧ bcase (!b29) (K (.tuple #[(.slice A23 n24 c25), (.bool false)]) w28) (Cll Try.prog 48 #[(.int .i64 x1), (.int .i64 0), (.int .i64 23)] w28 fun v30 w31 => (∃ (b32 : Bool), v30 = (.bool b32) ∧ bcase (!b32) (K (.tuple #[(.slice A23 n24 c25), (.bool false)]) w31) (LoopT (σ := (Option Addr × Nat × Nat) × Int × Unit) (fun z33 w34 next35 => bcase (decide (z33.2.1 < x2)) (Cll Try.prog 43 #[(.slice A0 n0 c0), (.int .i64 (IntKind.wrap .i64 (x1 + z33.2.1)))] w34 fun v36 w37 => (∃ u38 : Value, (∃ (n39 : Int), True ∧ ∃ (n40 : Int), True ∧ ∃ (A41 : Option Addr) (n42 : Nat) (c43 : Nat), True ∧ u38 = (.agg #[(.int .i64 n39), (.int .i64 n40), (.slice A41 n42 c43)]) ∧ ∃ u44 : Value, (∃ (b45 : Bool), u44 = (.bool b45) ∧ v36 = (.tuple #[(.agg #[(.int .i64 n39), (.int .i64 n40), (.slice A41 n42 c43)]), (.bool b45)]) ∧ newK w37 (.cells #[(.int .i64 0), (.int .i64 0), (.slice none 0 0)] 49) fun g46 w47 => stCells (⟨g46, 0, none⟩ : Addr) [(.int .i64 n39), (.int .i64 n40), (.slice A41 n42 c43)] 0 w47 fun w48 => bcase (!b45) (Run Try.prog (Instr.buildSlice 26 0 #[]) w48 fun v49 w50 => ∃ (A51 : Option Addr) (n52 c53 : Nat), v49 = .slice A51 n52 c53 ∧ K (.tuple #[(.slice A51 n52 c53), (.bool false)]) w50) (∃ (A54 : Option Addr) (n55 : Nat) (c56 : Nat), w48.cell? (((⟨g46, 0, none⟩ : Addr).add 2).add 0) = some (.slice A54 n55 c56) ∧ Run Try.prog (Builtin.append_ #[26, 26] 26 #[(.slice z33.1.1 z33.1.2.1 z33.1.2.2), (.slice A54 n55 c56)]) w48 fun v57 w58 => ∃ (A59 : Option Addr) (n60 c61 : Nat), v57 = .slice A59 n60 c61 ∧ next35 ((A59, n60, c61), (IntKind.wrap .i64 (z33.2.1 + 1)), ()) w58))))) (K (.tuple #[(.slice z33.1.1 z33.1.2.1 z33.1.2.2), (.bool true)]) w34)) ((A23, n24, c25), 0, ()) w31))))

def spec_EndRegs.ann : Ann := (.seq .l (.seq .l (.seq (.seq .l (.two (.seq .l .l) .l)) (.seq (.seq .l (.one (.loop [(8, .sl), (9, .int .i64)] (.seq (.seq .l (.two .l .l)) (.seq (.one (.seq .l (.seq (.seq .l (.two (.seq .l .l) .l)) .l))) .l))))) (.seq .l .l)))))

theorem spec_EndRegs.vc_eq (A0 : Option Addr) (n0 : Nat) (c0 : Nat) (x1 : Int) (x2 : Int) (w : World) (K : Value → World → Prop) : vcF Try.prog Try.f85 spec_EndRegs.ann [(.slice A0 n0 c0), (.int .i64 x1), (.int .i64 x2)] K w = spec_EndRegs.vc A0 n0 c0 x1 x2 w K := by kernel_rfl

theorem spec_EndRegs.start {A0 : Option Addr} {n0 : Nat} {c0 : Nat} {x1 : Int} {x2 : Int} {w : World} {K : Value → World → Prop} (h : spec_EndRegs.vc A0 n0 c0 x1 x2 w K) : Cll Try.prog 85 #[(.slice A0 n0 c0), (.int .i64 x1), (.int .i64 x2)] w K :=
  vcF_sound mixed (fn := Try.f85) (by kernel_rfl) (by kernel_rfl) (an := spec_EndRegs.ann) (args := [(.slice A0 n0 c0), (.int .i64 x1), (.int .i64 x2)]) (by rw [spec_EndRegs.vc_eq]; exact h)

theorem spec_EndRegs.con {xs0 : List D.Ins} {A0 : Option Addr} {c0 : Nat} {x1 : Int} {x2 : Int} {r : (List Int) × Bool} {w : World} (hp : M.spec_EndRegs_pre xs0 x1 x2) (hr : r = M.spec_EndRegs xs0 x1 x2) (R0 : Row el68 w A0 xs0) (hc0 : xs0.length ≤ c0) :
    Cll Try.prog 85 #[(.slice A0 xs0.length c0), (.int .i64 x1), (.int .i64 x2)] w (fun v_ w_ => ∃ (A0_ : Option Addr) (c0_ : Nat), v_ = (.tuple #[(.slice A0_ r.1.length c0_), (.bool r.2)]) ∧ Own el3 w_ w.heap.size A0_ c0_ r.1 ∧ Ext w w_) := by
  have H := wp.spec_EndRegs.math xs0 x1 x2 hp
  have hB := Ext.refl w
  refine spec_EndRegs.start ?_
  unfold spec_EndRegs.vc
  unfold wp.spec_EndRegs at H
  refine buildOwn el3 ([] : List Int) (fun _ => by kernel_rfl) rfl (fun A21 w22 P2 e23 => ?_)
  have O2 := P2.mono hB.size
  have hB := ethen hB e23
  obtain ⟨r24, hr25⟩ : ∃ r_, r_ = M.spec_l01In x2 1 24 := ⟨_, rfl⟩
  have H := H r24 hr25
  refine (spec_l01In.con hr25 ).mono ?_
  rintro _ w27 ⟨rfl, e28⟩
  have O2 := O2.ext e28
  have hB := ethen hB e28
  refine ⟨r24, rfl, ?_⟩
  refine bcase_mk (fun hc72 => ?_) (fun hc72 => ?_)
  · have H := (bcase_iff.1 H).1 hc72
    obtain rfl := hr.trans H.symm
    exact ⟨A21, 0, (by first | rfl | (simp; done) | (simp; omega) | (simp [*]; done)), (by first | exact O2 | (simp only [List.length_set]; exact O2)), hB⟩
  · have H := (bcase_iff.1 H).2 hc72
    obtain ⟨r29, hr30⟩ : ∃ r_, r_ = M.spec_l01In x1 0 23 := ⟨_, rfl⟩
    have H := H r29 hr30
    refine (spec_l01In.con hr30 ).mono ?_
    rintro _ w32 ⟨rfl, e33⟩
    have O2 := O2.ext e33
    have hB := ethen hB e33
    refine ⟨r29, rfl, ?_⟩
    refine bcase_mk (fun hc71 => ?_) (fun hc71 => ?_)
    · have H := (bcase_iff.1 H).1 hc71
      obtain rfl := hr.trans H.symm
      exact ⟨A21, 0, (by first | rfl | (simp; done) | (simp; omega) | (simp [*]; done)), (by first | exact O2 | (simp only [List.length_set]; exact O2)), hB⟩
    · have H := (bcase_iff.1 H).2 hc71
      obtain ⟨J39, ⟨m69, hJ68⟩, hS40⟩ := H
      refine ⟨fun m_ z_ w_ => ∃ (xs34 : List Int) (i37 : Int) (A35 : Option Addr) (c36 : Nat), z_ = ((A35, xs34.length, c36), i37, ()) ∧ J39 m_ (xs34, i37, ()) ∧ Ext w w_ ∧ Own el3 w_ w.heap.size A35 c36 xs34, ⟨m69, ([] : List Int), 0, A21, 0, rfl, hJ68, hB, O2⟩, ?_⟩
      rintro m38 _ w42 ⟨xs34, i37, A35, c36, rfl, hJ70, hB, O3⟩
      have H := hS40 m38 _ hJ70
      clear hS40 hJ70
      dsimp only at H ⊢
      refine bcase_mk (fun hc66 => ?_) (fun hc66 => ?_)
      · have H := (bcase_iff.1 H).1 hc66
        obtain ⟨hp45, H⟩ := H
        obtain ⟨r43, hr44⟩ : ∃ r_, r_ = M.spec_RunAlone xs0 (IntKind.wrap .i64 (x1 + i37)) := ⟨_, rfl⟩
        have H := H r43 hr44
        refine (spec_RunAlone.con hp45 hr44 (R0.ext hB) hc0).mono ?_
        rintro _ w46 ⟨A48, c49, rfl, P4, e47⟩
        have N3_4 := Own.apart2_new O3 P4 (Nat.le_refl _)
        have O3 := O3.ext e47
        have O4 := P4.mono hB.size
        have hB := ethen hB e47
        refine ⟨(.agg #[(.int .i64 r43.1.Thread), (.int .i64 r43.1.Pc), (.slice A48 r43.1.Regs.length c49)]), ?_⟩
        refine ⟨r43.1.Thread, trivial, ?_⟩
        refine ⟨r43.1.Pc, trivial, ?_⟩
        refine ⟨A48, r43.1.Regs.length, c49, trivial, ?_⟩
        refine ⟨rfl, ?_⟩
        refine ⟨(.bool r43.2), ?_⟩
        refine ⟨r43.2, rfl, ?_⟩
        refine ⟨rfl, ?_⟩
        refine newBlk (fun g5_ w50 L5 P5 e51 => ?_)
        have N3_5 := O3.apart_new L5
        have N4_5 := O4.apart_new L5
        have O3 := O3.ext e51
        have O4 := O4.ext e51
        have O5 := P5
        have L5 := Nat.le_trans hB.size L5
        have hB := ethen hB e51
        refine stBlk O5 (o := 0) (cs' := #[(.int .i64 r43.1.Thread), (.int .i64 r43.1.Pc), (.slice A48 r43.1.Regs.length c49)]) rfl rfl (Nat.le_of_ble_eq_true rfl) rfl (fun w52 P5 e53 => ?_)
        have O3_ := O3.chg e53 N3_5
        have O4_ := O4.chg e53 N4_5
        have O3 := O3_
        have O4 := O4_
        have hB := echg hB e53 L5
        have O5 := P5
        refine bcase_mk (fun hc65 => ?_) (fun hc65 => ?_)
        · have H := (bcase_iff.1 H).1 hc65
          refine buildOwn el3 ([] : List Int) (fun _ => by kernel_rfl) rfl (fun A54 w55 P6 e56 => ?_)
          have N3_6 := Own.apart2_new O3 P6 (Nat.le_refl _)
          have N4_6 := Own.apart2_new O4 P6 (Nat.le_refl _)
          have N6_5 := P6.apart_old O5.lt
          have O3 := O3.ext e56
          have O4 := O4.ext e56
          have O5 := O5.ext e56
          have O6 := P6.mono hB.size
          have hB := ethen hB e56
          obtain rfl := hr.trans H.symm
          exact ⟨A54, 0, (by first | rfl | (simp; done) | (simp; omega) | (simp [*]; done)), (by first | exact O6 | (simp only [List.length_set]; exact O6)), hB⟩
        · have H := (bcase_iff.1 H).2 hc65
          refine ⟨_, _, _, (O5.at 2 rfl rfl), ?_⟩
          obtain ⟨hl61, H⟩ := H
          refine appOwn slt26 slt26.under O3 O4.row hB.size rfl rfl hl61 (fun A57 c58 w59 P3 e60 => ?_)
          have N4_3_ := Apart2.app (N3_4).symm e60 O4
          have O4 := O4.app e60 (N3_4).symm
          have N4_3 := N4_3_
          have N3_5_ := Apart.app N3_5 e60 O5.lt
          have O5 := O5.app e60 N3_5
          have N3_5 := N3_5_
          have hB := eapp hB e60 O3
          have O3 := P3
          obtain ⟨m62, hm63, hJ64⟩ := H
          exact ⟨m62, hm63, (xs34 ++ r43.1.Regs), (IntKind.wrap .i64 (i37 + 1)), A57, c58, rfl, hJ64, hB, O3⟩
      · have H := (bcase_iff.1 H).2 hc66
        obtain rfl := hr.trans H.symm
        exact ⟨A35, c36, rfl, O3, hB⟩

def spec_DifferingLanes.vc (A0 : Option Addr) (n0 : Nat) (c0 : Nat) (A1 : Option Addr) (n1 : Nat) (c1 : Nat) (x2 : Int) (w : World) (K : Value → World → Prop) : Prop :=
  Cll Try.prog 48 #[(.int .i64 x2), (.int .i64 0), (.int .i64 2)] w fun v21 w22 => (∃ (b23 : Bool), v21 = (.bool b23) ∧ bcase (!b23) (K (.int .i64 (-1)) w22) (Cll Try.prog 85 #[(.slice A0 n0 c0), (.int .i64 (IntKind.wrap .i64 (x2 * 8))), (.int .i64 8)] w22 fun v24 w25 => (∃ u26 : Value, (∃ (A27 : Option Addr) (n28 : Nat) (c29 : Nat), u26 = (.slice A27 n28 c29) ∧ ∃ u30 : Value, (∃ (b31 : Bool), u30 = (.bool b31) ∧ v24 = (.tuple #[(.slice A27 n28 c29), (.bool b31)]) ∧ Cll Try.prog 85 #[(.slice A1 n1 c1), (.int .i64 (IntKind.wrap .i64 (x2 * 8))), (.int .i64 8)] w25 fun v32 w33 => (∃ u34 : Value, (∃ (A35 : Option Addr) (n36 : Nat) (c37 : Nat), u34 = (.slice A35 n36 c37) ∧ ∃ u38 : Value, (∃ (b39 : Bool), u38 = (.bool b39) ∧ v32 = (.tuple #[(.slice A35 n36 c37), (.bool b39)]) ∧ bcase (!b31) (K (.int .i64 (-1)) w33) (bcase (!b39) (K (.int .i64 (-1)) w33) (LoopT (σ := Int × Int × Unit) (fun z41 w42 next43 => bcase (decide (z41.2.1 < ((n28 : Nat) : Int))) (((0 : Int) ≤ z41.2.1 ∧ z41.2.1 < ((n28 : Nat) : Int) ∧ ∃ a44 : Addr, A27 = some a44 ∧ ∃ (n45 : Int), w42.cell? ((a44.add ((z41.2.1.toNat) * 1)).add 0) = some (.int .i64 n45) ∧ ((0 : Int) ≤ z41.2.1 ∧ z41.2.1 < ((n36 : Nat) : Int) ∧ ∃ a46 : Addr, A35 = some a46 ∧ ∃ (n47 : Int), w42.cell? ((a46.add ((z41.2.1.toNat) * 1)).add 0) = some (.int .i64 n47) ∧ bcase (n45 != n47) (((4 : Int) ≠ 0 ∧ ((0 : Int) ≤ (IntKind.wrap .i64 (Int.tdiv z41.2.1 4)) ∧ next43 ((bitOr .i64 z41.1 (IntKind.wrap .i64 (1 * 2 ^ (min ((IntKind.wrap .i64 (Int.tdiv z41.2.1 4)).toNat) (IntKind.bits .i64))))), (IntKind.wrap .i64 (z41.2.1 + 1)), ()) w42.drew))) (next43 (z41.1, (IntKind.wrap .i64 (z41.2.1 + 1)), ()) w42.drew)))) (K (.int .i64 z41.1) w42)) (0, 0, ()) w33))))))))))

def spec_DifferingLanes.ann : Ann := (.seq .l (.seq (.seq .l (.two (.seq .l .l) .l)) (.seq .l (.seq .l (.seq (.seq .l (.two (.seq .l .l) .l)) (.seq .l (.seq (.seq .l (.one (.loop [(11, .int .i64), (12, .int .i64)] (.seq (.seq .l (.two .l .l)) (.seq (.one (.seq .l (.two .l .l))) .l))))) (.seq .l .l))))))))

theorem spec_DifferingLanes.vc_eq (A0 : Option Addr) (n0 : Nat) (c0 : Nat) (A1 : Option Addr) (n1 : Nat) (c1 : Nat) (x2 : Int) (w : World) (K : Value → World → Prop) : vcF Try.prog Try.f41 spec_DifferingLanes.ann [(.slice A0 n0 c0), (.slice A1 n1 c1), (.int .i64 x2)] K w = spec_DifferingLanes.vc A0 n0 c0 A1 n1 c1 x2 w K := by kernel_rfl

theorem spec_DifferingLanes.start {A0 : Option Addr} {n0 : Nat} {c0 : Nat} {A1 : Option Addr} {n1 : Nat} {c1 : Nat} {x2 : Int} {w : World} {K : Value → World → Prop} (h : spec_DifferingLanes.vc A0 n0 c0 A1 n1 c1 x2 w K) : Cll Try.prog 41 #[(.slice A0 n0 c0), (.slice A1 n1 c1), (.int .i64 x2)] w K :=
  vcF_sound mixed (fn := Try.f41) (by kernel_rfl) (by kernel_rfl) (an := spec_DifferingLanes.ann) (args := [(.slice A0 n0 c0), (.slice A1 n1 c1), (.int .i64 x2)]) (by rw [spec_DifferingLanes.vc_eq]; exact h)

theorem spec_DifferingLanes.con {xs0 : List D.Ins} {A0 : Option Addr} {c0 : Nat} {xs1 : List D.Ins} {A1 : Option Addr} {c1 : Nat} {x2 : Int} {r : Int} {w : World} (hp : M.spec_DifferingLanes_pre xs0 xs1 x2) (hr : r = M.spec_DifferingLanes xs0 xs1 x2) (R0 : Row el68 w A0 xs0) (hc0 : xs0.length ≤ c0) (R1 : Row el68 w A1 xs1) (hc1 : xs1.length ≤ c1) :
    Cll Try.prog 41 #[(.slice A0 xs0.length c0), (.slice A1 xs1.length c1), (.int .i64 x2)] w (fun v_ w_ => v_ = (.int .i64 r) ∧ Ext w w_) := by
  have H := wp.spec_DifferingLanes.math xs0 xs1 x2 hp
  have hB := Ext.refl w
  refine spec_DifferingLanes.start ?_
  unfold spec_DifferingLanes.vc
  unfold wp.spec_DifferingLanes at H
  obtain ⟨r21, hr22⟩ : ∃ r_, r_ = M.spec_l01In x2 0 2 := ⟨_, rfl⟩
  have H := H r21 hr22
  refine (spec_l01In.con hr22 ).mono ?_
  rintro _ w24 ⟨rfl, e25⟩
  have hB := ethen hB e25
  refine ⟨r21, rfl, ?_⟩
  refine bcase_mk (fun hc74 => ?_) (fun hc74 => ?_)
  · have H := (bcase_iff.1 H).1 hc74
    obtain rfl := hr.trans H.symm
    exact ⟨rfl, hB⟩
  · have H := (bcase_iff.1 H).2 hc74
    obtain ⟨hp28, H⟩ := H
    obtain ⟨r26, hr27⟩ : ∃ r_, r_ = M.spec_EndRegs xs0 (IntKind.wrap .i64 (x2 * 8)) 8 := ⟨_, rfl⟩
    have H := H r26 hr27
    refine (spec_EndRegs.con hp28 hr27 (R0.ext hB) hc0).mono ?_
    rintro _ w29 ⟨A31, c32, rfl, P3, e30⟩
    have O3 := P3.mono hB.size
    have hB := ethen hB e30
    refine ⟨(.slice A31 r26.1.length c32), ?_⟩
    refine ⟨A31, r26.1.length, c32, rfl, ?_⟩
    refine ⟨(.bool r26.2), ?_⟩
    refine ⟨r26.2, rfl, ?_⟩
    refine ⟨rfl, ?_⟩
    obtain ⟨hp35, H⟩ := H
    obtain ⟨r33, hr34⟩ : ∃ r_, r_ = M.spec_EndRegs xs1 (IntKind.wrap .i64 (x2 * 8)) 8 := ⟨_, rfl⟩
    have H := H r33 hr34
    refine (spec_EndRegs.con hp35 hr34 (R1.ext hB) hc1).mono ?_
    rintro _ w36 ⟨A38, c39, rfl, P4, e37⟩
    have N3_4 := Own.apart2_new O3 P4 (Nat.le_refl _)
    have O3 := O3.ext e37
    have O4 := P4.mono hB.size
    have hB := ethen hB e37
    refine ⟨(.slice A38 r33.1.length c39), ?_⟩
    refine ⟨A38, r33.1.length, c39, rfl, ?_⟩
    refine ⟨(.bool r33.2), ?_⟩
    refine ⟨r33.2, rfl, ?_⟩
    refine ⟨rfl, ?_⟩
    refine bcase_mk (fun hc73 => ?_) (fun hc73 => ?_)
    · have H := (bcase_iff.1 H).1 hc73
      obtain rfl := hr.trans H.symm
      exact ⟨rfl, hB⟩
    · have H := (bcase_iff.1 H).2 hc73
      refine bcase_mk (fun hc72 => ?_) (fun hc72 => ?_)
      · have H := (bcase_iff.1 H).1 hc72
        obtain rfl := hr.trans H.symm
        exact ⟨rfl, hB⟩
      · have H := (bcase_iff.1 H).2 hc72
        obtain ⟨J43, ⟨m70, hJ69⟩, hS44⟩ := H
        refine ⟨fun m_ z_ w_ => ∃ (i40 : Int) (i41 : Int), z_ = (i40, i41, ()) ∧ J43 m_ (i40, i41, ()) ∧ Ext w w_ ∧ Own el3 w_ w.heap.size A31 c32 r26.1 ∧ Own el3 w_ w.heap.size A38 c39 r33.1, ⟨m70, 0, 0, rfl, hJ69, hB, O3, O4⟩, ?_⟩
        rintro m42 _ w46 ⟨i40, i41, rfl, hJ71, hB, O3, O4⟩
        have H := hS44 m42 _ hJ71
        clear hS44 hJ71
        dsimp only at H ⊢
        refine bcase_mk (fun hc67 => ?_) (fun hc67 => ?_)
        · have H := (bcase_iff.1 H).1 hc67
          obtain ⟨⟨h0_51, h1_52⟩, H⟩ := H
          obtain ⟨a49, ha50, hat48⟩ := Row.at O3.row h0_51 h1_52
          refine ⟨h0_51, h1_52, a49, ha50, ?_⟩
          refine ⟨_, (hat48 0 _ rfl), ?_⟩
          obtain ⟨⟨h0_56, h1_57⟩, H⟩ := H
          obtain ⟨a54, ha55, hat53⟩ := Row.at O4.row h0_56 h1_57
          refine ⟨h0_56, h1_57, a54, ha55, ?_⟩
          refine ⟨_, (hat53 0 _ rfl), ?_⟩
          have O3 := O3.ext (Ext.drew _)
          have O4 := O4.ext (Ext.drew _)
          have hB := ethen hB (Ext.drew _)
          refine bcase_mk (fun hc66 => ?_) (fun hc66 => ?_)
          · have H := (bcase_iff.1 H).1 hc66
            refine ⟨by decide, ?_⟩
            obtain ⟨hc59, H⟩ := H
            refine ⟨hc59, ?_⟩
            obtain ⟨m60, hm61, hJ62⟩ := H
            exact ⟨m60, hm61, (bitOr .i64 i40 (IntKind.wrap .i64 (1 * 2 ^ (min ((IntKind.wrap .i64 (Int.tdiv i41 4)).toNat) (IntKind.bits .i64))))), (IntKind.wrap .i64 (i41 + 1)), rfl, hJ62, hB, O3, O4⟩
          · have H := (bcase_iff.1 H).2 hc66
            obtain ⟨m63, hm64, hJ65⟩ := H
            exact ⟨m63, hm64, i40, (IntKind.wrap .i64 (i41 + 1)), rfl, hJ65, hB, O3, O4⟩
        · have H := (bcase_iff.1 H).2 hc67
          obtain rfl := hr.trans H.symm
          exact ⟨rfl, hB⟩

def impl_EndRegs.vc (A0 : Option Addr) (n0 : Nat) (c0 : Nat) (x1 : Int) (x2 : Int) (w : World) (K : Value → World → Prop) : Prop :=
  Cll Try.prog 81 #[(.int .i64 x2), (.int .i64 1), (.int .i64 24)] w fun v22 w23 => (∃ (b24 : Bool), v22 = (.bool b24) ∧ bcase (!b24) (K (.tuple #[(.slice none 0 0), (.bool false)]) w23) (Cll Try.prog 119 #[(.int .i64 x1)] w23 fun v25 w26 => (∃ (b27 : Bool), v25 = (.bool b27) ∧ bcase (!b27) (K (.tuple #[(.slice none 0 0), (.bool false)]) w26) (Run Try.prog (Instr.buildSlice 26 0 #[]) w26 fun v28 w29 => ∃ (A30 : Option Addr) (n31 c32 : Nat), v28 = .slice A30 n31 c32 ∧ LoopT (σ := (Option Addr × Nat × Nat) × Int × Unit) (fun z33 w34 next35 => bcase (decide (z33.2.1 < x2)) (Cll Try.prog 44 #[(.slice A0 n0 c0), (.int .i64 (IntKind.wrap .i64 (x1 + z33.2.1)))] w34 fun v36 w37 => (∃ u38 : Value, (∃ (n39 : Int), True ∧ ∃ (n40 : Int), True ∧ ∃ (A41 : Option Addr) (n42 : Nat) (c43 : Nat), True ∧ u38 = (.agg #[(.int .i64 n39), (.int .i64 n40), (.slice A41 n42 c43)]) ∧ ∃ u44 : Value, (∃ (b45 : Bool), u44 = (.bool b45) ∧ v36 = (.tuple #[(.agg #[(.int .i64 n39), (.int .i64 n40), (.slice A41 n42 c43)]), (.bool b45)]) ∧ newK w37 (.cells #[(.int .i64 0), (.int .i64 0), (.slice none 0 0)] 49) fun g46 w47 => stCells (⟨g46, 0, none⟩ : Addr) [(.int .i64 n39), (.int .i64 n40), (.slice A41 n42 c43)] 0 w47 fun w48 => bcase (!b45) (K (.tuple #[(.slice none 0 0), (.bool false)]) w48) (∃ (A49 : Option Addr) (n50 : Nat) (c51 : Nat), w48.cell? (((⟨g46, 0, none⟩ : Addr).add 2).add 0) = some (.slice A49 n50 c51) ∧ Run Try.prog (Builtin.append_ #[26, 26] 26 #[(.slice z33.1.1 z33.1.2.1 z33.1.2.2), (.slice A49 n50 c51)]) w48 fun v52 w53 => ∃ (A54 : Option Addr) (n55 c56 : Nat), v52 = .slice A54 n55 c56 ∧ next35 ((A54, n55, c56), (IntKind.wrap .i64 (z33.2.1 + 1)), ()) w53))))) (K (.tuple #[(.slice z33.1.1 z33.1.2.1 z33.1.2.2), (.bool true)]) w34)) ((A30, n31, c32), 0, ()) w29))))

def impl_EndRegs.ann : Ann := (.seq .l (.seq (.seq .l (.two (.seq .l .l) .l)) (.seq .l (.seq (.seq .l (.one (.loop [(8, .sl), (22, .int .i64)] (.seq .l (.seq (.two .l .l) (.seq (.one (.seq .l (.seq .l (.seq (.seq .l (.two (.seq .l .l) .l)) .l)))) .l)))))) (.seq .l .l)))))

theorem impl_EndRegs.vc_eq (A0 : Option Addr) (n0 : Nat) (c0 : Nat) (x1 : Int) (x2 : Int) (w : World) (K : Value → World → Prop) : vcF Try.prog Try.f87 impl_EndRegs.ann [(.slice A0 n0 c0), (.int .i64 x1), (.int .i64 x2)] K w = impl_EndRegs.vc A0 n0 c0 x1 x2 w K := by kernel_rfl

theorem impl_EndRegs.start {A0 : Option Addr} {n0 : Nat} {c0 : Nat} {x1 : Int} {x2 : Int} {w : World} {K : Value → World → Prop} (h : impl_EndRegs.vc A0 n0 c0 x1 x2 w K) : Cll Try.prog 87 #[(.slice A0 n0 c0), (.int .i64 x1), (.int .i64 x2)] w K :=
  vcF_sound mixed (fn := Try.f87) (by kernel_rfl) (by kernel_rfl) (an := impl_EndRegs.ann) (args := [(.slice A0 n0 c0), (.int .i64 x1), (.int .i64 x2)]) (by rw [impl_EndRegs.vc_eq]; exact h)

theorem impl_EndRegs.con {xs0 : List D.Ins} {A0 : Option Addr} {c0 : Nat} {x1 : Int} {x2 : Int} {r : (List Int) × Bool} {w : World} (hp : M.impl_EndRegs_pre xs0 x1 x2) (hr : r = M.impl_EndRegs xs0 x1 x2) (R0 : Row el68 w A0 xs0) (hc0 : xs0.length ≤ c0) :
    Cll Try.prog 87 #[(.slice A0 xs0.length c0), (.int .i64 x1), (.int .i64 x2)] w (fun v_ w_ => ∃ (A0_ : Option Addr) (c0_ : Nat), v_ = (.tuple #[(.slice A0_ r.1.length c0_), (.bool r.2)]) ∧ Own el3 w_ w.heap.size A0_ c0_ r.1 ∧ Ext w w_) := by
  have H := wp.impl_EndRegs.math xs0 x1 x2 hp
  have hB := Ext.refl w
  refine impl_EndRegs.start ?_
  unfold impl_EndRegs.vc
  unfold wp.impl_EndRegs at H
  obtain ⟨r21, hr22⟩ : ∃ r_, r_ = M.impl_within x2 1 24 := ⟨_, rfl⟩
  have H := H r21 hr22
  refine (impl_within.con hr22 ).mono ?_
  rintro _ w24 ⟨rfl, e25⟩
  have hB := ethen hB e25
  refine ⟨r21, rfl, ?_⟩
  refine bcase_mk (fun hc69 => ?_) (fun hc69 => ?_)
  · have H := (bcase_iff.1 H).1 hc69
    obtain rfl := hr.trans H.symm
    exact ⟨none, 0, rfl, Own.nil, hB⟩
  · have H := (bcase_iff.1 H).2 hc69
    obtain ⟨r26, hr27⟩ : ∃ r_, r_ = M.impl_isThread x1 := ⟨_, rfl⟩
    have H := H r26 hr27
    refine (impl_isThread.con hr27 ).mono ?_
    rintro _ w29 ⟨rfl, e30⟩
    have hB := ethen hB e30
    refine ⟨r26, rfl, ?_⟩
    refine bcase_mk (fun hc68 => ?_) (fun hc68 => ?_)
    · have H := (bcase_iff.1 H).1 hc68
      obtain rfl := hr.trans H.symm
      exact ⟨none, 0, rfl, Own.nil, hB⟩
    · have H := (bcase_iff.1 H).2 hc68
      refine buildOwn el3 ([] : List Int) (fun _ => by kernel_rfl) rfl (fun A31 w32 P2 e33 => ?_)
      have O2 := P2.mono hB.size
      have hB := ethen hB e33
      obtain ⟨J39, ⟨m66, hJ65⟩, hS40⟩ := H
      refine ⟨fun m_ z_ w_ => ∃ (xs34 : List Int) (i37 : Int) (A35 : Option Addr) (c36 : Nat), z_ = ((A35, xs34.length, c36), i37, ()) ∧ J39 m_ (xs34, i37, ()) ∧ Ext w w_ ∧ Own el3 w_ w.heap.size A35 c36 xs34, ⟨m66, ([] : List Int), 0, A31, 0, rfl, hJ65, hB, O2⟩, ?_⟩
      rintro m38 _ w42 ⟨xs34, i37, A35, c36, rfl, hJ67, hB, O3⟩
      have H := hS40 m38 _ hJ67
      clear hS40 hJ67
      dsimp only at H ⊢
      refine bcase_mk (fun hc63 => ?_) (fun hc63 => ?_)
      · have H := (bcase_iff.1 H).1 hc63
        obtain ⟨hp45, H⟩ := H
        obtain ⟨r43, hr44⟩ : ∃ r_, r_ = M.impl_RunAlone xs0 (IntKind.wrap .i64 (x1 + i37)) := ⟨_, rfl⟩
        have H := H r43 hr44
        refine (impl_RunAlone.con hp45 hr44 (R0.ext hB) hc0).mono ?_
        rintro _ w46 ⟨A48, c49, rfl, P4, e47⟩
        have N3_4 := Own.apart2_new O3 P4 (Nat.le_refl _)
        have O3 := O3.ext e47
        have O4 := P4.mono hB.size
        have hB := ethen hB e47
        refine ⟨(.agg #[(.int .i64 r43.1.Thread), (.int .i64 r43.1.Pc), (.slice A48 r43.1.Regs.length c49)]), ?_⟩
        refine ⟨r43.1.Thread, trivial, ?_⟩
        refine ⟨r43.1.Pc, trivial, ?_⟩
        refine ⟨A48, r43.1.Regs.length, c49, trivial, ?_⟩
        refine ⟨rfl, ?_⟩
        refine ⟨(.bool r43.2), ?_⟩
        refine ⟨r43.2, rfl, ?_⟩
        refine ⟨rfl, ?_⟩
        refine newBlk (fun g5_ w50 L5 P5 e51 => ?_)
        have N3_5 := O3.apart_new L5
        have N4_5 := O4.apart_new L5
        have O3 := O3.ext e51
        have O4 := O4.ext e51
        have O5 := P5
        have L5 := Nat.le_trans hB.size L5
        have hB := ethen hB e51
        refine stBlk O5 (o := 0) (cs' := #[(.int .i64 r43.1.Thread), (.int .i64 r43.1.Pc), (.slice A48 r43.1.Regs.length c49)]) rfl rfl (Nat.le_of_ble_eq_true rfl) rfl (fun w52 P5 e53 => ?_)
        have O3_ := O3.chg e53 N3_5
        have O4_ := O4.chg e53 N4_5
        have O3 := O3_
        have O4 := O4_
        have hB := echg hB e53 L5
        have O5 := P5
        refine bcase_mk (fun hc62 => ?_) (fun hc62 => ?_)
        · have H := (bcase_iff.1 H).1 hc62
          obtain rfl := hr.trans H.symm
          exact ⟨none, 0, rfl, Own.nil, hB⟩
        · have H := (bcase_iff.1 H).2 hc62
          refine ⟨_, _, _, (O5.at 2 rfl rfl), ?_⟩
          obtain ⟨hl58, H⟩ := H
          refine appOwn slt26 slt26.under O3 O4.row hB.size rfl rfl hl58 (fun A54 c55 w56 P3 e57 => ?_)
          have N4_3_ := Apart2.app (N3_4).symm e57 O4
          have O4 := O4.app e57 (N3_4).symm
          have N4_3 := N4_3_
          have N3_5_ := Apart.app N3_5 e57 O5.lt
          have O5 := O5.app e57 N3_5
          have N3_5 := N3_5_
          have hB := eapp hB e57 O3
          have O3 := P3
          obtain ⟨m59, hm60, hJ61⟩ := H
          exact ⟨m59, hm60, (xs34 ++ r43.1.Regs), (IntKind.wrap .i64 (i37 + 1)), A54, c55, rfl, hJ61, hB, O3⟩
      · have H := (bcase_iff.1 H).2 hc63
        obtain rfl := hr.trans H.symm
        exact ⟨A35, c36, rfl, O3, hB⟩

def impl_DifferingLanes.vc (A0 : Option Addr) (n0 : Nat) (c0 : Nat) (A1 : Option Addr) (n1 : Nat) (c1 : Nat) (x2 : Int) (w : World) (K : Value → World → Prop) : Prop :=
  Cll Try.prog 86 #[(.int .i64 x2)] w fun v21 w22 => (∃ (b23 : Bool), v21 = (.bool b23) ∧ bcase (!b23) (K (.int .i64 (-1)) w22) (Cll Try.prog 87 #[(.slice A0 n0 c0), (.int .i64 (IntKind.wrap .i64 (x2 * 8))), (.int .i64 8)] w22 fun v24 w25 => (∃ u26 : Value, (∃ (A27 : Option Addr) (n28 : Nat) (c29 : Nat), u26 = (.slice A27 n28 c29) ∧ ∃ u30 : Value, (∃ (b31 : Bool), u30 = (.bool b31) ∧ v24 = (.tuple #[(.slice A27 n28 c29), (.bool b31)]) ∧ Cll Try.prog 87 #[(.slice A1 n1 c1), (.int .i64 (IntKind.wrap .i64 (x2 * 8))), (.int .i64 8)] w25 fun v32 w33 => (∃ u34 : Value, (∃ (A35 : Option Addr) (n36 : Nat) (c37 : Nat), u34 = (.slice A35 n36 c37) ∧ ∃ u38 : Value, (∃ (b39 : Bool), u38 = (.bool b39) ∧ v32 = (.tuple #[(.slice A35 n36 c37), (.bool b39)]) ∧ bcase (!b31) (K (.int .i64 (-1)) w33) (bcase (!b39) (K (.int .i64 (-1)) w33) (LoopT (σ := Int × Int × Unit) (fun z41 w42 next43 => bcase (decide (z41.2.1 < ((n28 : Nat) : Int))) (((0 : Int) ≤ z41.2.1 ∧ z41.2.1 < ((n28 : Nat) : Int) ∧ ∃ a44 : Addr, A27 = some a44 ∧ ∃ (n45 : Int), w42.cell? ((a44.add ((z41.2.1.toNat) * 1)).add 0) = some (.int .i64 n45) ∧ ((0 : Int) ≤ z41.2.1 ∧ z41.2.1 < ((n36 : Nat) : Int) ∧ ∃ a46 : Addr, A35 = some a46 ∧ ∃ (n47 : Int), w42.cell? ((a46.add ((z41.2.1.toNat) * 1)).add 0) = some (.int .i64 n47) ∧ bcase (n45 != n47) (((4 : Int) ≠ 0 ∧ ((0 : Int) ≤ (IntKind.wrap .i64 (Int.tdiv z41.2.1 4)) ∧ next43 ((bitOr .i64 z41.1 (IntKind.wrap .i64 (1 * 2 ^ (min ((IntKind.wrap .i64 (Int.tdiv z41.2.1 4)).toNat) (IntKind.bits .i64))))), (IntKind.wrap .i64 (z41.2.1 + 1)), ()) w42.drew))) (next43 (z41.1, (IntKind.wrap .i64 (z41.2.1 + 1)), ()) w42.drew)))) (K (.int .i64 z41.1) w42)) (0, 0, ()) w33))))))))))

def impl_DifferingLanes.ann : Ann := (.seq .l (.seq (.seq .l (.two (.seq .l .l) .l)) (.seq .l (.seq .l (.seq (.seq .l (.two (.seq .l .l) .l)) (.seq .l (.seq (.seq .l (.one (.loop [(11, .int .i64), (38, .int .i64)] (.seq .l (.seq (.two .l .l) (.seq (.one (.seq .l (.seq .l (.two .l .l)))) .l)))))) (.seq .l .l))))))))

theorem impl_DifferingLanes.vc_eq (A0 : Option Addr) (n0 : Nat) (c0 : Nat) (A1 : Option Addr) (n1 : Nat) (c1 : Nat) (x2 : Int) (w : World) (K : Value → World → Prop) : vcF Try.prog Try.f42 impl_DifferingLanes.ann [(.slice A0 n0 c0), (.slice A1 n1 c1), (.int .i64 x2)] K w = impl_DifferingLanes.vc A0 n0 c0 A1 n1 c1 x2 w K := by kernel_rfl

theorem impl_DifferingLanes.start {A0 : Option Addr} {n0 : Nat} {c0 : Nat} {A1 : Option Addr} {n1 : Nat} {c1 : Nat} {x2 : Int} {w : World} {K : Value → World → Prop} (h : impl_DifferingLanes.vc A0 n0 c0 A1 n1 c1 x2 w K) : Cll Try.prog 42 #[(.slice A0 n0 c0), (.slice A1 n1 c1), (.int .i64 x2)] w K :=
  vcF_sound mixed (fn := Try.f42) (by kernel_rfl) (by kernel_rfl) (an := impl_DifferingLanes.ann) (args := [(.slice A0 n0 c0), (.slice A1 n1 c1), (.int .i64 x2)]) (by rw [impl_DifferingLanes.vc_eq]; exact h)

theorem impl_DifferingLanes.con {xs0 : List D.Ins} {A0 : Option Addr} {c0 : Nat} {xs1 : List D.Ins} {A1 : Option Addr} {c1 : Nat} {x2 : Int} {r : Int} {w : World} (hp : M.impl_DifferingLanes_pre xs0 xs1 x2) (hr : r = M.impl_DifferingLanes xs0 xs1 x2) (R0 : Row el68 w A0 xs0) (hc0 : xs0.length ≤ c0) (R1 : Row el68 w A1 xs1) (hc1 : xs1.length ≤ c1) :
    Cll Try.prog 42 #[(.slice A0 xs0.length c0), (.slice A1 xs1.length c1), (.int .i64 x2)] w (fun v_ w_ => v_ = (.int .i64 r) ∧ Ext w w_) := by
  have H := wp.impl_DifferingLanes.math xs0 xs1 x2 hp
  have hB := Ext.refl w
  refine impl_DifferingLanes.start ?_
  unfold impl_DifferingLanes.vc
  unfold wp.impl_DifferingLanes at H
  obtain ⟨r21, hr22⟩ : ∃ r_, r_ = M.impl_isWarpNumber x2 := ⟨_, rfl⟩
  have H := H r21 hr22
  refine (impl_isWarpNumber.con hr22 ).mono ?_
  rintro _ w24 ⟨rfl, e25⟩
  have hB := ethen hB e25
  refine ⟨r21, rfl, ?_⟩
  refine bcase_mk (fun hc74 => ?_) (fun hc74 => ?_)
  · have H := (bcase_iff.1 H).1 hc74
    obtain rfl := hr.trans H.symm
    exact ⟨rfl, hB⟩
  · have H := (bcase_iff.1 H).2 hc74
    obtain ⟨hp28, H⟩ := H
    obtain ⟨r26, hr27⟩ : ∃ r_, r_ = M.impl_EndRegs xs0 (IntKind.wrap .i64 (x2 * 8)) 8 := ⟨_, rfl⟩
    have H := H r26 hr27
    refine (impl_EndRegs.con hp28 hr27 (R0.ext hB) hc0).mono ?_
    rintro _ w29 ⟨A31, c32, rfl, P3, e30⟩
    have O3 := P3.mono hB.size
    have hB := ethen hB e30
    refine ⟨(.slice A31 r26.1.length c32), ?_⟩
    refine ⟨A31, r26.1.length, c32, rfl, ?_⟩
    refine ⟨(.bool r26.2), ?_⟩
    refine ⟨r26.2, rfl, ?_⟩
    refine ⟨rfl, ?_⟩
    obtain ⟨hp35, H⟩ := H
    obtain ⟨r33, hr34⟩ : ∃ r_, r_ = M.impl_EndRegs xs1 (IntKind.wrap .i64 (x2 * 8)) 8 := ⟨_, rfl⟩
    have H := H r33 hr34
    refine (impl_EndRegs.con hp35 hr34 (R1.ext hB) hc1).mono ?_
    rintro _ w36 ⟨A38, c39, rfl, P4, e37⟩
    have N3_4 := Own.apart2_new O3 P4 (Nat.le_refl _)
    have O3 := O3.ext e37
    have O4 := P4.mono hB.size
    have hB := ethen hB e37
    refine ⟨(.slice A38 r33.1.length c39), ?_⟩
    refine ⟨A38, r33.1.length, c39, rfl, ?_⟩
    refine ⟨(.bool r33.2), ?_⟩
    refine ⟨r33.2, rfl, ?_⟩
    refine ⟨rfl, ?_⟩
    refine bcase_mk (fun hc73 => ?_) (fun hc73 => ?_)
    · have H := (bcase_iff.1 H).1 hc73
      obtain rfl := hr.trans H.symm
      exact ⟨rfl, hB⟩
    · have H := (bcase_iff.1 H).2 hc73
      refine bcase_mk (fun hc72 => ?_) (fun hc72 => ?_)
      · have H := (bcase_iff.1 H).1 hc72
        obtain rfl := hr.trans H.symm
        exact ⟨rfl, hB⟩
      · have H := (bcase_iff.1 H).2 hc72
        obtain ⟨J43, ⟨m70, hJ69⟩, hS44⟩ := H
        refine ⟨fun m_ z_ w_ => ∃ (i40 : Int) (i41 : Int), z_ = (i40, i41, ()) ∧ J43 m_ (i40, i41, ()) ∧ Ext w w_ ∧ Own el3 w_ w.heap.size A31 c32 r26.1 ∧ Own el3 w_ w.heap.size A38 c39 r33.1, ⟨m70, 0, 0, rfl, hJ69, hB, O3, O4⟩, ?_⟩
        rintro m42 _ w46 ⟨i40, i41, rfl, hJ71, hB, O3, O4⟩
        have H := hS44 m42 _ hJ71
        clear hS44 hJ71
        dsimp only at H ⊢
        refine bcase_mk (fun hc67 => ?_) (fun hc67 => ?_)
        · have H := (bcase_iff.1 H).1 hc67
          obtain ⟨⟨h0_51, h1_52⟩, H⟩ := H
          obtain ⟨a49, ha50, hat48⟩ := Row.at O3.row h0_51 h1_52
          refine ⟨h0_51, h1_52, a49, ha50, ?_⟩
          refine ⟨_, (hat48 0 _ rfl), ?_⟩
          obtain ⟨⟨h0_56, h1_57⟩, H⟩ := H
          obtain ⟨a54, ha55, hat53⟩ := Row.at O4.row h0_56 h1_57
          refine ⟨h0_56, h1_57, a54, ha55, ?_⟩
          refine ⟨_, (hat53 0 _ rfl), ?_⟩
          have O3 := O3.ext (Ext.drew _)
          have O4 := O4.ext (Ext.drew _)
          have hB := ethen hB (Ext.drew _)
          refine bcase_mk (fun hc66 => ?_) (fun hc66 => ?_)
          · have H := (bcase_iff.1 H).1 hc66
            refine ⟨by decide, ?_⟩
            obtain ⟨hc59, H⟩ := H
            refine ⟨hc59, ?_⟩
            obtain ⟨m60, hm61, hJ62⟩ := H
            exact ⟨m60, hm61, (bitOr .i64 i40 (IntKind.wrap .i64 (1 * 2 ^ (min ((IntKind.wrap .i64 (Int.tdiv i41 4)).toNat) (IntKind.bits .i64))))), (IntKind.wrap .i64 (i41 + 1)), rfl, hJ62, hB, O3, O4⟩
          · have H := (bcase_iff.1 H).2 hc66
            obtain ⟨m63, hm64, hJ65⟩ := H
            exact ⟨m63, hm64, i40, (IntKind.wrap .i64 (i41 + 1)), rfl, hJ65, hB, O3, O4⟩
        · have H := (bcase_iff.1 H).2 hc67
          obtain rfl := hr.trans H.symm
          exact ⟨rfl, hB⟩

def laws_FnExactDifferingLanes.vc (A0 : Option Addr) (n0 : Nat) (c0 : Nat) (A1 : Option Addr) (n1 : Nat) (c1 : Nat) (x2 : Int) (w : World) (K : Value → World → Prop) : Prop :=
  Cll Try.prog 13 #[(.slice A0 n0 c0), (.int .i64 1048576)] w fun v21 w22 => (∃ (n23 : Int), v21 = (.int .i64 n23) ∧ bcase (decide (n23 < 0)) (K (.bool true) w22) (Cll Try.prog 13 #[(.slice A1 n1 c1), (.int .i64 n23)] w22 fun v24 w25 => (∃ (n26 : Int), v24 = (.int .i64 n26) ∧ bcase (decide (n26 < 0)) (K (.bool true) w25) (Cll Try.prog 15 #[(.slice A0 n0 c0)] w25 fun v27 w28 => (∃ (A29 : Option Addr) (n30 : Nat) (c31 : Nat), v27 = (.slice A29 n30 c31) ∧ Cll Try.prog 15 #[(.slice A1 n1 c1)] w28 fun v32 w33 => (∃ (A34 : Option Addr) (n35 : Nat) (c36 : Nat), v32 = (.slice A34 n35 c36) ∧ Cll Try.prog 41 #[(.slice A29 n30 c31), (.slice A34 n35 c36), (.int .i64 x2)] w33 fun v37 w38 => (∃ (n39 : Int), v37 = (.int .i64 n39) ∧ Cll Try.prog 15 #[(.slice A0 n0 c0)] w38 fun v40 w41 => (∃ (A42 : Option Addr) (n43 : Nat) (c44 : Nat), v40 = (.slice A42 n43 c44) ∧ Cll Try.prog 15 #[(.slice A1 n1 c1)] w41 fun v45 w46 => (∃ (A47 : Option Addr) (n48 : Nat) (c49 : Nat), v45 = (.slice A47 n48 c49) ∧ Cll Try.prog 42 #[(.slice A42 n43 c44), (.slice A47 n48 c49), (.int .i64 x2)] w46 fun v50 w51 => (∃ (n52 : Int), v50 = (.int .i64 n52) ∧ bcase (n52 != n39) (K (.bool false) w51) (Cll Try.prog 15 #[(.slice A0 n0 c0)] w51 fun v53 w54 => (∃ (A55 : Option Addr) (n56 : Nat) (c57 : Nat), v53 = (.slice A55 n56 c57) ∧ Cll Try.prog 18 #[(.slice A42 n43 c44), (.slice A55 n56 c57)] w54 fun v58 w59 => (∃ (b60 : Bool), v58 = (.bool b60) ∧ bcase (!b60) (K (.bool false) w59) (Cll Try.prog 15 #[(.slice A1 n1 c1)] w59 fun v61 w62 => (∃ (A63 : Option Addr) (n64 : Nat) (c65 : Nat), v61 = (.slice A63 n64 c65) ∧ Cll Try.prog 18 #[(.slice A47 n48 c49), (.slice A63 n64 c65)] w62 fun v66 w67 => (∃ (b68 : Bool), v66 = (.bool b68) ∧ bcase (!b68) (K (.bool false) w67) (K (.bool true) w67)))))))))))))))))

def laws_FnExactDifferingLanes.ann : Ann := (.seq .l (.seq .l (.seq .l (.seq (.seq .l (.two (.seq .l .l) .l)) (.seq .l (.seq (.seq .l (.two (.seq .l .l) .l)) (.seq .l (.seq .l (.seq .l (.seq .l (.seq (.seq .l (.two (.seq .l .l) .l)) (.seq (.seq .l (.two (.seq .l .l) .l)) (.seq (.seq .l (.two (.seq .l .l) .l)) (.seq .l .l))))))))))))))

theorem laws_FnExactDifferingLanes.vc_eq (A0 : Option Addr) (n0 : Nat) (c0 : Nat) (A1 : Option Addr) (n1 : Nat) (c1 : Nat) (x2 : Int) (w : World) (K : Value → World → Prop) : vcF Try.prog Try.f10 laws_FnExactDifferingLanes.ann [(.slice A0 n0 c0), (.slice A1 n1 c1), (.int .i64 x2)] K w = laws_FnExactDifferingLanes.vc A0 n0 c0 A1 n1 c1 x2 w K := by kernel_rfl

theorem laws_FnExactDifferingLanes.start {A0 : Option Addr} {n0 : Nat} {c0 : Nat} {A1 : Option Addr} {n1 : Nat} {c1 : Nat} {x2 : Int} {w : World} {K : Value → World → Prop} (h : laws_FnExactDifferingLanes.vc A0 n0 c0 A1 n1 c1 x2 w K) : Cll Try.prog 10 #[(.slice A0 n0 c0), (.slice A1 n1 c1), (.int .i64 x2)] w K :=
  vcF_sound mixed (fn := Try.f10) (by kernel_rfl) (by kernel_rfl) (an := laws_FnExactDifferingLanes.ann) (args := [(.slice A0 n0 c0), (.slice A1 n1 c1), (.int .i64 x2)]) (by rw [laws_FnExactDifferingLanes.vc_eq]; exact h)

theorem laws_FnExactDifferingLanes.con {xs0 : List D.Ins} {A0 : Option Addr} {c0 : Nat} {xs1 : List D.Ins} {A1 : Option Addr} {c1 : Nat} {x2 : Int} {r : Bool} {w : World} (hp : M.laws_FnExactDifferingLanes_pre xs0 xs1 x2) (hr : r = M.laws_FnExactDifferingLanes xs0 xs1 x2) (R0 : Row el70 w A0 xs0) (hc0 : xs0.length ≤ c0) (R1 : Row el70 w A1 xs1) (hc1 : xs1.length ≤ c1) :
    Cll Try.prog 10 #[(.slice A0 xs0.length c0), (.slice A1 xs1.length c1), (.int .i64 x2)] w (fun v_ w_ => v_ = (.bool r) ∧ Ext w w_) := by
  have H := wp.laws_FnExactDifferingLanes.math xs0 xs1 x2 hp
  have hB := Ext.refl w
  refine laws_FnExactDifferingLanes.start ?_
  unfold laws_FnExactDifferingLanes.vc
  unfold wp.laws_FnExactDifferingLanes at H
  obtain ⟨hp23, H⟩ := H
  obtain ⟨r21, hr22⟩ : ∃ r_, r_ = M.laws_szInsS xs0 1048576 := ⟨_, rfl⟩
  have H := H r21 hr22
  refine (laws_szInsS.con hp23 hr22 (R0.ext hB) hc0).mono ?_
  rintro _ w24 ⟨rfl, e25⟩
  have hB := ethen hB e25
  refine ⟨r21, rfl, ?_⟩
  refine bcase_mk (fun hc97 => ?_) (fun hc97 => ?_)
  · have H := (bcase_iff.1 H).1 hc97
    obtain rfl := hr.trans H.symm
    exact ⟨rfl, hB⟩
  · have H := (bcase_iff.1 H).2 hc97
    obtain ⟨hp28, H⟩ := H
    obtain ⟨r26, hr27⟩ : ∃ r_, r_ = M.laws_szInsS xs1 r21 := ⟨_, rfl⟩
    have H := H r26 hr27
    refine (laws_szInsS.con hp28 hr27 (R1.ext hB) hc1).mono ?_
    rintro _ w29 ⟨rfl, e30⟩
    have hB := ethen hB e30
    refine ⟨r26, rfl, ?_⟩
    refine bcase_mk (fun hc96 => ?_) (fun hc96 => ?_)
    · have H := (bcase_iff.1 H).1 hc96
      obtain rfl := hr.trans H.symm
      exact ⟨rfl, hB⟩
    · have H := (bcase_iff.1 H).2 hc96
      obtain ⟨hp33, H⟩ := H
      obtain ⟨r31, hr32⟩ : ∃ r_, r_ = M.laws_toInsS xs0 := ⟨_, rfl⟩
      have H := H r31 hr32
      refine (laws_toInsS.con hp33 hr32 (R0.ext hB) hc0).mono ?_
      rintro _ w34 ⟨A36, c37, rfl, P3, e35⟩
      have O3 := P3.mono hB.size
      have hB := ethen hB e35
      refine ⟨A36, r31.length, c37, rfl, ?_⟩
      obtain ⟨hp40, H⟩ := H
      obtain ⟨r38, hr39⟩ : ∃ r_, r_ = M.laws_toInsS xs1 := ⟨_, rfl⟩
      have H := H r38 hr39
      refine (laws_toInsS.con hp40 hr39 (R1.ext hB) hc1).mono ?_
      rintro _ w41 ⟨A43, c44, rfl, P4, e42⟩
      have N3_4 := Own.apart2_new O3 P4 (Nat.le_refl _)
      have O3 := O3.ext e42
      have O4 := P4.mono hB.size
      have hB := ethen hB e42
      refine ⟨A43, r38.length, c44, rfl, ?_⟩
      obtain ⟨hp47, H⟩ := H
      obtain ⟨r45, hr46⟩ : ∃ r_, r_ = M.spec_DifferingLanes r31 r38 x2 := ⟨_, rfl⟩
      have H := H r45 hr46
      refine (spec_DifferingLanes.con hp47 hr46 O3.row O3.le O4.row O4.le).mono ?_
      rintro _ w48 ⟨rfl, e49⟩
      have O3 := O3.ext e49
      have O4 := O4.ext e49
      have hB := ethen hB e49
      refine ⟨r45, rfl, ?_⟩
      obtain ⟨hp52, H⟩ := H
      obtain ⟨r50, hr51⟩ : ∃ r_, r_ = M.laws_toInsS xs0 := ⟨_, rfl⟩
      have H := H r50 hr51
      refine (laws_toInsS.con hp52 hr51 (R0.ext hB) hc0).mono ?_
      rintro _ w53 ⟨A55, c56, rfl, P5, e54⟩
      have N3_5 := Own.apart2_new O3 P5 (Nat.le_refl _)
      have N4_5 := Own.apart2_new O4 P5 (Nat.le_refl _)
      have O3 := O3.ext e54
      have O4 := O4.ext e54
      have O5 := P5.mono hB.size
      have hB := ethen hB e54
      refine ⟨A55, r50.length, c56, rfl, ?_⟩
      obtain ⟨hp59, H⟩ := H
      obtain ⟨r57, hr58⟩ : ∃ r_, r_ = M.laws_toInsS xs1 := ⟨_, rfl⟩
      have H := H r57 hr58
      refine (laws_toInsS.con hp59 hr58 (R1.ext hB) hc1).mono ?_
      rintro _ w60 ⟨A62, c63, rfl, P6, e61⟩
      have N3_6 := Own.apart2_new O3 P6 (Nat.le_refl _)
      have N4_6 := Own.apart2_new O4 P6 (Nat.le_refl _)
      have N5_6 := Own.apart2_new O5 P6 (Nat.le_refl _)
      have O3 := O3.ext e61
      have O4 := O4.ext e61
      have O5 := O5.ext e61
      have O6 := P6.mono hB.size
      have hB := ethen hB e61
      refine ⟨A62, r57.length, c63, rfl, ?_⟩
      obtain ⟨hp66, H⟩ := H
      obtain ⟨r64, hr65⟩ : ∃ r_, r_ = M.impl_DifferingLanes r50 r57 x2 := ⟨_, rfl⟩
      have H := H r64 hr65
      refine (impl_DifferingLanes.con hp66 hr65 O5.row O5.le O6.row O6.le).mono ?_
      rintro _ w67 ⟨rfl, e68⟩
      have O3 := O3.ext e68
      have O4 := O4.ext e68
      have O5 := O5.ext e68
      have O6 := O6.ext e68
      have hB := ethen hB e68
      refine ⟨r64, rfl, ?_⟩
      refine bcase_mk (fun hc95 => ?_) (fun hc95 => ?_)
      · have H := (bcase_iff.1 H).1 hc95
        obtain rfl := hr.trans H.symm
        exact ⟨rfl, hB⟩
      · have H := (bcase_iff.1 H).2 hc95
        obtain ⟨hp71, H⟩ := H
        obtain ⟨r69, hr70⟩ : ∃ r_, r_ = M.laws_toInsS xs0 := ⟨_, rfl⟩
        have H := H r69 hr70
        refine (laws_toInsS.con hp71 hr70 (R0.ext hB) hc0).mono ?_
        rintro _ w72 ⟨A74, c75, rfl, P7, e73⟩
        have N3_7 := Own.apart2_new O3 P7 (Nat.le_refl _)
        have N4_7 := Own.apart2_new O4 P7 (Nat.le_refl _)
        have N5_7 := Own.apart2_new O5 P7 (Nat.le_refl _)
        have N6_7 := Own.apart2_new O6 P7 (Nat.le_refl _)
        have O3 := O3.ext e73
        have O4 := O4.ext e73
        have O5 := O5.ext e73
        have O6 := O6.ext e73
        have O7 := P7.mono hB.size
        have hB := ethen hB e73
        refine ⟨A74, r69.length, c75, rfl, ?_⟩
        obtain ⟨hp78, H⟩ := H
        obtain ⟨r76, hr77⟩ : ∃ r_, r_ = M.laws_eqInsS r50 r69 := ⟨_, rfl⟩
        have H := H r76 hr77
        refine (laws_eqInsS.con hp78 hr77 O5.row O5.le O7.row O7.le).mono ?_
        rintro _ w79 ⟨rfl, e80⟩
        have O3 := O3.ext e80
        have O4 := O4.ext e80
        have O5 := O5.ext e80
        have O6 := O6.ext e80
        have O7 := O7.ext e80
        have hB := ethen hB e80
        refine ⟨r76, rfl, ?_⟩
        refine bcase_mk (fun hc94 => ?_) (fun hc94 => ?_)
        · have H := (bcase_iff.1 H).1 hc94
          obtain rfl := hr.trans H.symm
          exact ⟨rfl, hB⟩
        · have H := (bcase_iff.1 H).2 hc94
          obtain ⟨hp83, H⟩ := H
          obtain ⟨r81, hr82⟩ : ∃ r_, r_ = M.laws_toInsS xs1 := ⟨_, rfl⟩
          have H := H r81 hr82
          refine (laws_toInsS.con hp83 hr82 (R1.ext hB) hc1).mono ?_
          rintro _ w84 ⟨A86, c87, rfl, P8, e85⟩
          have N3_8 := Own.apart2_new O3 P8 (Nat.le_refl _)
          have N4_8 := Own.apart2_new O4 P8 (Nat.le_refl _)
          have N5_8 := Own.apart2_new O5 P8 (Nat.le_refl _)
          have N6_8 := Own.apart2_new O6 P8 (Nat.le_refl _)
          have N7_8 := Own.apart2_new O7 P8 (Nat.le_refl _)
          have O3 := O3.ext e85
          have O4 := O4.ext e85
          have O5 := O5.ext e85
          have O6 := O6.ext e85
          have O7 := O7.ext e85
          have O8 := P8.mono hB.size
          have hB := ethen hB e85
          refine ⟨A86, r81.length, c87, rfl, ?_⟩
          obtain ⟨hp90, H⟩ := H
          obtain ⟨r88, hr89⟩ : ∃ r_, r_ = M.laws_eqInsS r57 r81 := ⟨_, rfl⟩
          have H := H r88 hr89
          refine (laws_eqInsS.con hp90 hr89 O6.row O6.le O8.row O8.le).mono ?_
          rintro _ w91 ⟨rfl, e92⟩
          have O3 := O3.ext e92
          have O4 := O4.ext e92
          have O5 := O5.ext e92
          have O6 := O6.ext e92
          have O7 := O7.ext e92
          have O8 := O8.ext e92
          have hB := ethen hB e92
          refine ⟨r88, rfl, ?_⟩
          refine bcase_mk (fun hc93 => ?_) (fun hc93 => ?_)
          · have H := (bcase_iff.1 H).1 hc93
            obtain rfl := hr.trans H.symm
            exact ⟨rfl, hB⟩
          · have H := (bcase_iff.1 H).2 hc93
            obtain rfl := hr.trans H.symm
            exact ⟨rfl, hB⟩

end Go.V
