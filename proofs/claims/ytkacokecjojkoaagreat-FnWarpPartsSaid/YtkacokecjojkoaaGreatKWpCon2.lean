import Derived.Test.YtkacokecjojkoaaGreatKWpCon1
set_option linter.unusedVariables false
set_option linter.unusedSimpArgs false
set_option maxRecDepth 100000
namespace Go.V
open Go.Proofs
/-- a lane's registers: a cut of the warp's -/
theorem impl_Warp_lane.con {s0 : D.Warp} {A0_1 : Option Addr} {c0_1 : Nat} {A0_2 : Option Addr} {c0_2 : Nat} {x1 : Int} {w : World} (hp : M.impl_Warp_lane_pre s0 x1) (R0_1 : Row el130 w A0_1 s0.Frames) (hc0_1 : s0.Frames.length ≤ c0_1) (R0_2 : Row el3 w A0_2 s0.Regs) (hc0_2 : s0.Regs.length ≤ c0_2) :
    Cll Tryz.prog 171 #[(.agg #[(.int .i64 s0.Number), (.slice A0_1 s0.Frames.length c0_1), (.slice A0_2 s0.Regs.length c0_2)]), (.int .i64 x1)] w (fun v_ w_ => v_ = (.slice (cutA c0_2 ((IntKind.wrap .i64 (x1 * 4)).toNat) A0_2 1) (List.drop ((IntKind.wrap .i64 (x1 * 4)).toNat) (List.take ((IntKind.wrap .i64 ((IntKind.wrap .i64 (x1 + 1)) * 4)).toNat) s0.Regs)).length (c0_2 - (IntKind.wrap .i64 (x1 * 4)).toNat)) ∧ Ext w w_) := by
  obtain ⟨h32, h0, h7⟩ := hp
  refine impl_Warp_lane.start ?_
  unfold impl_Warp_lane.vc
  refine newBlk fun g w1 L P e => ?_
  have a1 : IntKind.wrap .i64 (x1 * 4) = x1 * 4 := w64 (by omega) (by omega)
  have a2 : IntKind.wrap .i64 ((IntKind.wrap .i64 (x1 + 1)) * 4) = x1 * 4 + 4 := by rw [w64 (x := x1 + 1) (by omega) (by omega), w64 (by omega) (by omega)]; omega
  refine ⟨_, _, _, P.at 2 rfl rfl, ?_⟩
  rw [a1, a2]
  refine ⟨by omega, by omega, by omega, by omega, ?_, e⟩
  have hl : (List.drop (x1 * 4).toNat (List.take (x1 * 4 + 4).toNat s0.Regs)).length = (x1 * 4 + 4).toNat - (x1 * 4).toNat := by simp; omega
  rw [hl]
  have hz : szOf Tryz.prog 3 = 1 := by kernel_rfl
  rw [hz]
  rfl
theorem impl_Warp_lane.cut {x : D.Warp} {l : Int} (h : M.impl_Warp_lane_pre x l) : (IntKind.wrap .i64 (l * 4)).toNat ≤ (List.take ((IntKind.wrap .i64 ((IntKind.wrap .i64 (l + 1)) * 4)).toNat) x.Regs).length := by
  obtain ⟨h1, h2, h3⟩ := h
  rw [w64 (x := l * 4) (by omega) (by omega), w64 (x := l + 1) (by omega) (by omega), w64 (by omega) (by omega), List.length_take]
  omega
def spec_ActiveMask.vc (x0_0 : Int) (A0_1 : Option Addr) (n0_1 : Nat) (c0_1 : Nat) (A0_2 : Option Addr) (n0_2 : Nat) (c0_2 : Nat) (w : World) (K : Value → World → Prop) : Prop :=
  newK w (.cells #[(.int .i64 x0_0), (.slice A0_1 n0_1 c0_1), (.slice A0_2 n0_2 c0_2)] 31) fun g21 w22 => ∃ (A23 : Option Addr) (n24 : Nat) (c25 : Nat), w22.cell? (((⟨g21, 0, none⟩ : Addr).add 1).add 0) = some (.slice A23 n24 c25) ∧ bcase (((n24 : Nat) : Int) == 0) (K (.int .i64 0) w22) (∃ (A26 : Option Addr) (n27 : Nat) (c28 : Nat), w22.cell? (((⟨g21, 0, none⟩ : Addr).add 1).add 0) = some (.slice A26 n27 c28) ∧ ∃ (A29 : Option Addr) (n30 : Nat) (c31 : Nat), w22.cell? (((⟨g21, 0, none⟩ : Addr).add 1).add 0) = some (.slice A29 n30 c31) ∧ ((0 : Int) ≤ (IntKind.wrap .i64 (((n30 : Nat) : Int) - 1)) ∧ (IntKind.wrap .i64 (((n30 : Nat) : Int) - 1)) < ((n27 : Nat) : Int) ∧ ∃ a32 : Addr, A26 = some a32 ∧ ∃ (n33 : Int), w22.cell? (((a32.add (((IntKind.wrap .i64 (((n30 : Nat) : Int) - 1)).toNat) * 3)).add 2).add 0) = some (.int .i64 n33) ∧ K (.int .i64 n33) w22))

def spec_ActiveMask.ann : Ann := (.seq .l (.seq (.seq .l (.two (.seq .l .l) .l)) (.seq .l .l)))

theorem spec_ActiveMask.start {x0_0 : Int} {A0_1 : Option Addr} {n0_1 : Nat} {c0_1 : Nat} {A0_2 : Option Addr} {n0_2 : Nat} {c0_2 : Nat} {w : World} {K : Value → World → Prop} (h : spec_ActiveMask.vc x0_0 A0_1 n0_1 c0_1 A0_2 n0_2 c0_2 w K) : Cll Tryz.prog 88 #[(.agg #[(.int .i64 x0_0), (.slice A0_1 n0_1 c0_1), (.slice A0_2 n0_2 c0_2)])] w K :=
  vcF_sound mixed (fn := Tryz.f88) (by kernel_rfl) (by kernel_rfl) (an := spec_ActiveMask.ann) (args := [(.agg #[(.int .i64 x0_0), (.slice A0_1 n0_1 c0_1), (.slice A0_2 n0_2 c0_2)])]) (Eq.mpr (by kernel_rfl) h)

theorem spec_ActiveMask.con {s0 : D.Warp} {A0_1 : Option Addr} {c0_1 : Nat} {A0_2 : Option Addr} {c0_2 : Nat} {r : Int} {w : World} (hp : M.spec_ActiveMask_pre s0) (hr : r = M.spec_ActiveMask s0) (R0_1 : Row el130 w A0_1 s0.Frames) (hc0_1 : s0.Frames.length ≤ c0_1) (R0_2 : Row el3 w A0_2 s0.Regs) (hc0_2 : s0.Regs.length ≤ c0_2) :
    Cll Tryz.prog 88 #[(.agg #[(.int .i64 s0.Number), (.slice A0_1 s0.Frames.length c0_1), (.slice A0_2 s0.Regs.length c0_2)])] w (fun v_ w_ => v_ = (.int .i64 r) ∧ Ext w w_) := by
  have H := wp.spec_ActiveMask.math s0 hp
  have hB := Ext.refl w
  refine spec_ActiveMask.start ?_
  unfold spec_ActiveMask.vc
  unfold wp.spec_ActiveMask at H
  refine newBlk (fun g3_ w21 L3 P3 e22 => ?_)
  have O3 := P3
  have L3 := Nat.le_trans hB.size L3
  have hB := ethen hB e22
  refine ⟨_, _, _, (O3.at 1 rfl rfl), ?_⟩
  refine bcase_mk (fun hc28 => ?_) (fun hc28 => ?_)
  · have H := (bcase_iff.1 H).1 hc28
    obtain rfl := hr.trans H.symm
    exact ⟨rfl, hB⟩
  have H := (bcase_iff.1 H).2 hc28
  refine ⟨_, _, _, (O3.at 1 rfl rfl), ?_⟩
  refine ⟨_, _, _, (O3.at 1 rfl rfl), ?_⟩
  obtain ⟨⟨h0_26, h1_27⟩, H⟩ := H
  obtain ⟨a24, ha25, hat23⟩ := Row.at (R0_1.ext hB) h0_26 h1_27
  refine ⟨h0_26, h1_27, a24, ha25, ?_⟩
  refine ⟨_, (hat23 2 _ rfl), ?_⟩
  obtain rfl := hr.trans H.symm
  exact ⟨rfl, hB⟩
def spec_ZeroMask.vc (x0_0 : Int) (A0_1 : Option Addr) (n0_1 : Nat) (c0_1 : Nat) (A0_2 : Option Addr) (n0_2 : Nat) (c0_2 : Nat) (x1 : Int) (w : World) (K : Value → World → Prop) : Prop :=
  newK w (.cells #[(.int .i64 x0_0), (.slice A0_1 n0_1 c0_1), (.slice A0_2 n0_2 c0_2)] 31) fun g21 w22 => Cll Tryz.prog 202 #[(.int .i64 x1)] w22 fun v24 w25 => (∃ (b26 : Bool), v24 = (.bool b26) ∧ bcase (!b26) (K (.int .i64 0) w25) (∃ (A27 : Option Addr) (n28 : Nat) (c29 : Nat), w25.cell? (((⟨g21, 0, none⟩ : Addr).add 2).add 0) = some (.slice A27 n28 c29) ∧ bcase (((n28 : Nat) : Int) != 32) (K (.int .i64 0) w25) (LoopT (σ := Int × Int × Unit) (fun z30 w31 next32 => bcase (decide (z30.2.1 < 8)) (∃ (n33 : Int), w31.cell? ((⟨g21, 0, none⟩ : Addr).add 0) = some (.int .i64 n33) ∧ ∃ (A34 : Option Addr) (n35 : Nat) (c36 : Nat), w31.cell? ((⟨g21, 0, none⟩ : Addr).add 1) = some (.slice A34 n35 c36) ∧ ∃ (A37 : Option Addr) (n38 : Nat) (c39 : Nat), w31.cell? ((⟨g21, 0, none⟩ : Addr).add 2) = some (.slice A37 n38 c39) ∧ Cll Tryz.prog 88 #[(.agg #[(.int .i64 n33), (.slice A34 n35 c36), (.slice A37 n38 c39)])] w31 fun v40 w41 => (∃ (n42 : Int), v40 = (.int .i64 n42) ∧ Cll Tryz.prog 165 #[(.int .i64 n42), (.int .i64 z30.2.1)] w41 fun v43 w44 => (∃ (b45 : Bool), v43 = (.bool b45) ∧ bcase b45 (∃ (A46 : Option Addr) (n47 : Nat) (c48 : Nat), w44.cell? (((⟨g21, 0, none⟩ : Addr).add 2).add 0) = some (.slice A46 n47 c48) ∧ ((0 : Int) ≤ (IntKind.wrap .i64 ((IntKind.wrap .i64 (z30.2.1 * 4)) + x1)) ∧ (IntKind.wrap .i64 ((IntKind.wrap .i64 (z30.2.1 * 4)) + x1)) < ((n47 : Nat) : Int) ∧ ∃ a49 : Addr, A46 = some a49 ∧ ∃ (n50 : Int), w44.cell? ((a49.add (((IntKind.wrap .i64 ((IntKind.wrap .i64 (z30.2.1 * 4)) + x1)).toNat) * 1)).add 0) = some (.int .i64 n50) ∧ bcase (n50 == 0) (((0 : Int) ≤ z30.2.1 ∧ next32 ((bitOr .i64 z30.1 (IntKind.wrap .i64 (1 * 2 ^ (min (z30.2.1.toNat) (IntKind.bits .i64))))), (IntKind.wrap .i64 (z30.2.1 + 1)), ()) w44)) (next32 (z30.1, (IntKind.wrap .i64 (z30.2.1 + 1)), ()) w44))) (next32 (z30.1, (IntKind.wrap .i64 (z30.2.1 + 1)), ()) w44)))) (K (.int .i64 z30.1) w31)) (0, 0, ()) w25)))

def spec_ZeroMask.ann : Ann := (.seq .l (.seq (.seq .l (.two (.seq .l .l) .l)) (.seq .l (.seq (.seq .l (.one (.loop [(5, .int .i64), (6, .int .i64)] (.seq (.seq .l (.two .l .l)) (.seq (.one (.seq .l (.two .l .l))) .l))))) (.seq .l .l)))))

theorem spec_ZeroMask.start {x0_0 : Int} {A0_1 : Option Addr} {n0_1 : Nat} {c0_1 : Nat} {A0_2 : Option Addr} {n0_2 : Nat} {c0_2 : Nat} {x1 : Int} {w : World} {K : Value → World → Prop} (h : spec_ZeroMask.vc x0_0 A0_1 n0_1 c0_1 A0_2 n0_2 c0_2 x1 w K) : Cll Tryz.prog 149 #[(.agg #[(.int .i64 x0_0), (.slice A0_1 n0_1 c0_1), (.slice A0_2 n0_2 c0_2)]), (.int .i64 x1)] w K :=
  vcF_sound mixed (fn := Tryz.f149) (by kernel_rfl) (by kernel_rfl) (an := spec_ZeroMask.ann) (args := [(.agg #[(.int .i64 x0_0), (.slice A0_1 n0_1 c0_1), (.slice A0_2 n0_2 c0_2)]), (.int .i64 x1)]) (Eq.mpr (by kernel_rfl) h)

theorem spec_ZeroMask.con {s0 : D.Warp} {A0_1 : Option Addr} {c0_1 : Nat} {A0_2 : Option Addr} {c0_2 : Nat} {x1 : Int} {r : Int} {w : World} (hp : M.spec_ZeroMask_pre s0 x1) (hr : r = M.spec_ZeroMask s0 x1) (R0_1 : Row el130 w A0_1 s0.Frames) (hc0_1 : s0.Frames.length ≤ c0_1) (R0_2 : Row el3 w A0_2 s0.Regs) (hc0_2 : s0.Regs.length ≤ c0_2) :
    Cll Tryz.prog 149 #[(.agg #[(.int .i64 s0.Number), (.slice A0_1 s0.Frames.length c0_1), (.slice A0_2 s0.Regs.length c0_2)]), (.int .i64 x1)] w (fun v_ w_ => v_ = (.int .i64 r) ∧ Ext w w_) := by
  have H := wp.spec_ZeroMask.math s0 x1 hp
  have hB := Ext.refl w
  refine spec_ZeroMask.start ?_
  unfold spec_ZeroMask.vc
  unfold wp.spec_ZeroMask at H
  refine newBlk (fun g3_ w21 L3 P3 e22 => ?_)
  have O3 := P3
  have L3 := Nat.le_trans hB.size L3
  have hB := ethen hB e22
  obtain ⟨r23, hr24⟩ : ∃ r_, r_ = M.spec_l04Reg x1 := ⟨_, rfl⟩
  have H := H r23 hr24
  refine (spec_l04Reg.con hr24 ).mono ?_
  rintro _ w26 ⟨rfl, e27⟩
  have O3 := O3.ext e27
  have hB := ethen hB e27
  refine ⟨r23, rfl, ?_⟩
  refine bcase_mk (fun hc68 => ?_) (fun hc68 => ?_)
  · have H := (bcase_iff.1 H).1 hc68
    obtain rfl := hr.trans H.symm
    exact ⟨rfl, hB⟩
  have H := (bcase_iff.1 H).2 hc68
  refine ⟨_, _, _, (O3.at 2 rfl rfl), ?_⟩
  refine bcase_mk (fun hc67 => ?_) (fun hc67 => ?_)
  · have H := (bcase_iff.1 H).1 hc67
    obtain rfl := hr.trans H.symm
    exact ⟨rfl, hB⟩
  have H := (bcase_iff.1 H).2 hc67
  obtain ⟨J31, ⟨m65, hJ64⟩, hS32⟩ := H
  refine ⟨fun m_ z_ w_ => ∃ (i28 : Int) (i29 : Int), z_ = (i28, i29, ()) ∧ J31 m_ (i28, i29, ()) ∧ Ext w w_ ∧ Blk w_ g3_ 31 #[(.int .i64 s0.Number), (.slice A0_1 s0.Frames.length c0_1), (.slice A0_2 s0.Regs.length c0_2)], ⟨m65, 0, 0, rfl, hJ64, hB, O3⟩, ?_⟩
  rintro m30 _ w34 ⟨i28, i29, rfl, hJ66, hB, O3⟩
  have H := hS32 m30 _ hJ66
  clear hS32 hJ66
  try dsimp only at H ⊢
  refine bcase_mk (fun hc62 => ?_) (fun hc62 => ?_)
  · have H := (bcase_iff.1 H).1 hc62
    refine ⟨_, (O3.at 0 rfl rfl), ?_⟩
    refine ⟨_, _, _, (O3.at 1 rfl rfl), ?_⟩
    refine ⟨_, _, _, (O3.at 2 rfl rfl), ?_⟩
    obtain ⟨hp37, H⟩ := H
    obtain ⟨r35, hr36⟩ : ∃ r_, r_ = M.spec_ActiveMask s0 := ⟨_, rfl⟩
    have H := H r35 hr36
    refine (spec_ActiveMask.con hp37 hr36 (R0_1.ext hB) hc0_1 (R0_2.ext hB) hc0_2).mono ?_
    rintro _ w38 ⟨rfl, e39⟩
    have O3 := O3.ext e39
    have hB := ethen hB e39
    refine ⟨r35, rfl, ?_⟩
    obtain ⟨r40, hr41⟩ : ∃ r_, r_ = M.spec_HasLane r35 i29 := ⟨_, rfl⟩
    have H := H r40 hr41
    refine (spec_HasLane.con hr41 ).mono ?_
    rintro _ w43 ⟨rfl, e44⟩
    have O3 := O3.ext e44
    have hB := ethen hB e44
    refine ⟨r40, rfl, ?_⟩
    refine bcase_mk (fun hc61 => ?_) (fun hc61 => ?_)
    · have H := (bcase_iff.1 H).1 hc61
      refine ⟨_, _, _, (O3.at 2 rfl rfl), ?_⟩
      obtain ⟨⟨h0_48, h1_49⟩, H⟩ := H
      obtain ⟨a46, ha47, hat45⟩ := Row.at (R0_2.ext hB) h0_48 h1_49
      refine ⟨h0_48, h1_49, a46, ha47, ?_⟩
      refine ⟨_, (hat45 0 _ rfl), ?_⟩
      refine bcase_mk (fun hc57 => ?_) (fun hc57 => ?_)
      · have H := (bcase_iff.1 H).1 hc57
        obtain ⟨hc50, H⟩ := H
        refine ⟨hc50, ?_⟩
        obtain ⟨m51, hm52, hJ53⟩ := H
        exact ⟨m51, hm52, (bitOr .i64 i28 (IntKind.wrap .i64 (1 * 2 ^ (min (i29.toNat) (IntKind.bits .i64))))), (IntKind.wrap .i64 (i29 + 1)), rfl, hJ53, hB, O3⟩
      have H := (bcase_iff.1 H).2 hc57
      obtain ⟨m54, hm55, hJ56⟩ := H
      exact ⟨m54, hm55, i28, (IntKind.wrap .i64 (i29 + 1)), rfl, hJ56, hB, O3⟩
    have H := (bcase_iff.1 H).2 hc61
    obtain ⟨m58, hm59, hJ60⟩ := H
    exact ⟨m58, hm59, i28, (IntKind.wrap .i64 (i29 + 1)), rfl, hJ60, hB, O3⟩
  have H := (bcase_iff.1 H).2 hc62
  obtain rfl := hr.trans H.symm
  exact ⟨rfl, hB⟩
def spec_l13Splits.vc (A0 : Option Addr) (n0 : Nat) (c0 : Nat) (x1_0 : Int) (A1_1 : Option Addr) (n1_1 : Nat) (c1_1 : Nat) (A1_2 : Option Addr) (n1_2 : Nat) (c1_2 : Nat) (w : World) (K : Value → World → Prop) : Prop :=
  newK w (.cells #[(.int .i64 x1_0), (.slice A1_1 n1_1 c1_1), (.slice A1_2 n1_2 c1_2)] 31) fun g21 w22 => ∃ (A23 : Option Addr) (n24 : Nat) (c25 : Nat), w22.cell? (((⟨g21, 0, none⟩ : Addr).add 1).add 0) = some (.slice A23 n24 c25) ∧ ∃ (A26 : Option Addr) (n27 : Nat) (c28 : Nat), w22.cell? (((⟨g21, 0, none⟩ : Addr).add 1).add 0) = some (.slice A26 n27 c28) ∧ ((0 : Int) ≤ (IntKind.wrap .i64 (((n27 : Nat) : Int) - 1)) ∧ (IntKind.wrap .i64 (((n27 : Nat) : Int) - 1)) < ((n24 : Nat) : Int) ∧ ∃ a29 : Addr, A23 = some a29 ∧ ∃ (n30 : Int), w22.cell? ((a29.add (((IntKind.wrap .i64 (((n27 : Nat) : Int) - 1)).toNat) * 3)).add 0) = some (.int .i64 n30) ∧ ∃ (n31 : Int), w22.cell? ((a29.add (((IntKind.wrap .i64 (((n27 : Nat) : Int) - 1)).toNat) * 3)).add 1) = some (.int .i64 n31) ∧ ∃ (n32 : Int), w22.cell? ((a29.add (((IntKind.wrap .i64 (((n27 : Nat) : Int) - 1)).toNat) * 3)).add 2) = some (.int .i64 n32) ∧ newK w22 (.cells #[(.int .i64 0), (.int .i64 0), (.int .i64 0)] 130) fun g33 w34 => stCells (⟨g33, 0, none⟩ : Addr) [(.int .i64 n30), (.int .i64 n31), (.int .i64 n32)] 0 w34 fun w35 => ∃ (n37 : Int), w35.cell? (((⟨g33, 0, none⟩ : Addr).add 0).add 0) = some (.int .i64 n37) ∧ ((0 : Int) ≤ n37 ∧ n37 < ((n0 : Nat) : Int) ∧ ∃ a38 : Addr, A0 = some a38 ∧ ∃ (n39 : Int), w35.cell? (((a38.add ((n37.toNat) * 4)).add 0).add 0) = some (.int .i64 n39) ∧ bcase (n39 != 10) (K (.bool false) w35.drew) (∃ (n40 : Int), w35.cell? (((⟨g33, 0, none⟩ : Addr).add 0).add 0) = some (.int .i64 n40) ∧ ((0 : Int) ≤ n40 ∧ n40 < ((n0 : Nat) : Int) ∧ ∃ a41 : Addr, A0 = some a41 ∧ ∃ (n42 : Int), w35.cell? (((a41.add ((n40.toNat) * 4)).add 2).add 0) = some (.int .i64 n42) ∧ ∃ (n43 : Int), w35.cell? (((⟨g33, 0, none⟩ : Addr).add 0).add 0) = some (.int .i64 n43) ∧ bcase (n42 == (IntKind.wrap .i64 (n43 + 1))) (K (.bool false) w35.drew) ((∃ M44 : Nat → Prop, ∃ (n45 : Int), (¬ M44 ((⟨g21, 0, none⟩ : Addr)).block ∧ w35.drew.cell? ((⟨g21, 0, none⟩ : Addr).add 0) = some (.int .i64 n45)) ∧ ∃ (A46 : Option Addr) (n47 : Nat) (c48 : Nat), (¬ M44 ((⟨g21, 0, none⟩ : Addr)).block ∧ w35.drew.cell? ((⟨g21, 0, none⟩ : Addr).add 1) = some (.slice A46 n47 c48)) ∧ ∃ (A49 : Option Addr) (n50 : Nat) (c51 : Nat), (¬ M44 ((⟨g21, 0, none⟩ : Addr)).block ∧ w35.drew.cell? ((⟨g21, 0, none⟩ : Addr).add 2) = some (.slice A49 n50 c51)) ∧ ∃ (n52 : Int), (¬ M44 (((⟨g33, 0, none⟩ : Addr).add 0)).block ∧ w35.drew.cell? (((⟨g33, 0, none⟩ : Addr).add 0).add 0) = some (.int .i64 n52)) ∧ ((0 : Int) ≤ n52 ∧ n52 < ((n0 : Nat) : Int) ∧ ∃ a53 : Addr, A0 = some a53 ∧ ∃ (n54 : Int), (¬ M44 (((a53.add ((n52.toNat) * 4)).add 1)).block ∧ w35.drew.cell? (((a53.add ((n52.toNat) * 4)).add 1).add 0) = some (.int .i64 n54)) ∧ Cll Tryz.prog 149 #[(.agg #[(.int .i64 n45), (.slice A46 n47 c48), (.slice A49 n50 c51)]), (.int .i64 n54)] w35.drew.drew fun v55 w56 => (∃ (n57 : Int), v55 = (.int .i64 n57) ∧ SameBut M44 w35.drew w56 ∧ bcase (n57 != 0) (∃ (n58 : Int), w56.cell? (((⟨g33, 0, none⟩ : Addr).add 2).add 0) = some (.int .i64 n58) ∧ K (.bool (n57 != n58)) w56) (K (.bool false) w56)))))))))

def spec_l13Splits.ann : Ann := (.seq .l (.seq .l (.seq (.seq .l (.two (.seq .l .l) .l)) (.seq .l (.seq .l .l)))))

theorem spec_l13Splits.start {A0 : Option Addr} {n0 : Nat} {c0 : Nat} {x1_0 : Int} {A1_1 : Option Addr} {n1_1 : Nat} {c1_1 : Nat} {A1_2 : Option Addr} {n1_2 : Nat} {c1_2 : Nat} {w : World} {K : Value → World → Prop} (h : spec_l13Splits.vc A0 n0 c0 x1_0 A1_1 n1_1 c1_1 A1_2 n1_2 c1_2 w K) : Cll Tryz.prog 89 #[(.slice A0 n0 c0), (.agg #[(.int .i64 x1_0), (.slice A1_1 n1_1 c1_1), (.slice A1_2 n1_2 c1_2)])] w K :=
  vcF_sound mixed (fn := Tryz.f89) (by kernel_rfl) (by kernel_rfl) (an := spec_l13Splits.ann) (args := [(.slice A0 n0 c0), (.agg #[(.int .i64 x1_0), (.slice A1_1 n1_1 c1_1), (.slice A1_2 n1_2 c1_2)])]) (Eq.mpr (by kernel_rfl) h)

theorem spec_l13Splits.con {xs0 : List D.Ins} {A0 : Option Addr} {c0 : Nat} {s1 : D.Warp} {A1_1 : Option Addr} {c1_1 : Nat} {A1_2 : Option Addr} {c1_2 : Nat} {r : Bool} {w : World} (hp : M.spec_l13Splits_pre xs0 s1) (hr : r = M.spec_l13Splits xs0 s1) (R0 : Row el89 w A0 xs0) (hc0 : xs0.length ≤ c0) (R1_1 : Row el130 w A1_1 s1.Frames) (hc1_1 : s1.Frames.length ≤ c1_1) (R1_2 : Row el3 w A1_2 s1.Regs) (hc1_2 : s1.Regs.length ≤ c1_2) :
    Cll Tryz.prog 89 #[(.slice A0 xs0.length c0), (.agg #[(.int .i64 s1.Number), (.slice A1_1 s1.Frames.length c1_1), (.slice A1_2 s1.Regs.length c1_2)])] w (fun v_ w_ => v_ = (.bool r) ∧ Ext w w_) := by
  have H := wp.spec_l13Splits.math xs0 s1 hp
  have hB := Ext.refl w
  refine spec_l13Splits.start ?_
  unfold spec_l13Splits.vc
  unfold wp.spec_l13Splits at H
  refine newBlk (fun g4_ w21 L4 P4 e22 => ?_)
  have O4 := P4
  have L4 := Nat.le_trans hB.size L4
  have hB := ethen hB e22
  refine ⟨_, _, _, (O4.at 1 rfl rfl), ?_⟩
  refine ⟨_, _, _, (O4.at 1 rfl rfl), ?_⟩
  obtain ⟨⟨h0_26, h1_27⟩, H⟩ := H
  obtain ⟨a24, ha25, hat23⟩ := Row.at (R1_1.ext hB) h0_26 h1_27
  refine ⟨h0_26, h1_27, a24, ha25, ?_⟩
  refine ⟨_, (hat23 0 _ rfl), ?_⟩
  refine ⟨_, (hat23 1 _ rfl), ?_⟩
  refine ⟨_, (hat23 2 _ rfl), ?_⟩
  refine newBlk (fun g5_ w28 L5 P5 e29 => ?_)
  have N4_5 := O4.ne L5
  have O4 := O4.ext e29
  have O5 := P5
  have L5 := Nat.le_trans hB.size L5
  have hB := ethen hB e29
  refine stBlk O5 (o := 0) (cs' := #[(.int .i64 ((rd s1.Frames (IntKind.wrap .i64 (((s1.Frames.length : Nat) : Int) - 1))).Pc)), (.int .i64 ((rd s1.Frames (IntKind.wrap .i64 (((s1.Frames.length : Nat) : Int) - 1))).Stop)), (.int .i64 ((rd s1.Frames (IntKind.wrap .i64 (((s1.Frames.length : Nat) : Int) - 1))).Mask))]) rfl rfl (Nat.le_of_ble_eq_true rfl) rfl (fun w30 P5 e31 => ?_)
  have O4_ := O4.chg e31 N4_5
  have O4 := O4_
  have hB := echg hB e31 L5
  have O5 := P5
  refine ⟨_, (O5.at 0 rfl rfl), ?_⟩
  obtain ⟨⟨h0_36, h1_37⟩, H⟩ := H
  obtain ⟨a34, ha35, hat33⟩ := Row.at (R0.ext hB) h0_36 h1_37
  refine ⟨h0_36, h1_37, a34, ha35, ?_⟩
  refine ⟨_, (hat33 0 _ rfl), ?_⟩
  refine bcase_mk (fun hc56 => ?_) (fun hc56 => ?_)
  · have H := (bcase_iff.1 H).1 hc56
    have O4 := O4.ext (Ext.drew _)
    have O5 := O5.ext (Ext.drew _)
    have hB := ethen hB (Ext.drew _)
    obtain rfl := hr.trans H.symm
    exact ⟨rfl, hB⟩
  have H := (bcase_iff.1 H).2 hc56
  refine ⟨_, (O5.at 0 rfl rfl), ?_⟩
  obtain ⟨⟨h0_41, h1_42⟩, H⟩ := H
  obtain ⟨a39, ha40, hat38⟩ := Row.at (R0.ext hB) h0_41 h1_42
  refine ⟨h0_41, h1_42, a39, ha40, ?_⟩
  refine ⟨_, (hat38 2 _ rfl), ?_⟩
  refine ⟨_, (O5.at 0 rfl rfl), ?_⟩
  have O4 := O4.ext (Ext.drew _)
  have O5 := O5.ext (Ext.drew _)
  have hB := ethen hB (Ext.drew _)
  refine bcase_mk (fun hc55 => ?_) (fun hc55 => ?_)
  · have H := (bcase_iff.1 H).1 hc55
    obtain rfl := hr.trans H.symm
    exact ⟨rfl, hB⟩
  have H := (bcase_iff.1 H).2 hc55
  refine ⟨(fun _ => False), ?_⟩
  refine ⟨_, ⟨(fun h_ => h_), (O4.at 0 rfl rfl)⟩, ?_⟩
  refine ⟨_, _, _, ⟨(fun h_ => h_), (O4.at 1 rfl rfl)⟩, ?_⟩
  refine ⟨_, _, _, ⟨(fun h_ => h_), (O4.at 2 rfl rfl)⟩, ?_⟩
  refine ⟨_, ⟨(fun h_ => h_), (O5.at 0 rfl rfl)⟩, ?_⟩
  obtain ⟨⟨h0_47, h1_48⟩, H⟩ := H
  obtain ⟨a45, ha46, hat44⟩ := Row.at (R0.ext hB) h0_47 h1_48
  refine ⟨h0_47, h1_48, a45, ha46, ?_⟩
  refine ⟨_, ⟨(fun h_ => h_), (hat44 1 _ rfl)⟩, ?_⟩
  have hS43 := Chg.refl (fun _ => False) w30.drew
  have O4 := O4.ext (Ext.drew _)
  have O5 := O5.ext (Ext.drew _)
  have hB := ethen hB (Ext.drew _)
  have hS43 := hS43.then (Ext.drew _)
  obtain ⟨hp51, H⟩ := H
  obtain ⟨r49, hr50⟩ : ∃ r_, r_ = M.spec_ZeroMask s1 ((rd xs0 ((rd s1.Frames (IntKind.wrap .i64 (((s1.Frames.length : Nat) : Int) - 1))).Pc)).A) := ⟨_, rfl⟩
  have H := H r49 hr50
  refine (spec_ZeroMask.con hp51 hr50 (R1_1.ext hB) hc1_1 (R1_2.ext hB) hc1_2).mono ?_
  rintro _ w52 ⟨rfl, e53⟩
  have O4 := O4.ext e53
  have O5 := O5.ext e53
  have hB := ethen hB e53
  have hS43 := hS43.then e53
  refine ⟨r49, rfl, ?_⟩
  refine ⟨sameBut_chg hS43, ?_⟩
  refine bcase_mk (fun hc54 => ?_) (fun hc54 => ?_)
  · have H := (bcase_iff.1 H).1 hc54
    refine ⟨_, (O5.at 2 rfl rfl), ?_⟩
    obtain rfl := hr.trans H.symm
    exact ⟨rfl, hB⟩
  have H := (bcase_iff.1 H).2 hc54
  obtain rfl := hr.trans H.symm
  exact ⟨rfl, hB⟩
def spec_l13Local.vc (A0 : Option Addr) (n0 : Nat) (c0 : Nat) (x1_0 : Int) (A1_1 : Option Addr) (n1_1 : Nat) (c1_1 : Nat) (A1_2 : Option Addr) (n1_2 : Nat) (c1_2 : Nat) (w : World) (K : Value → World → Prop) : Prop :=
  newK w (.cells #[(.int .i64 x1_0), (.slice A1_1 n1_1 c1_1), (.slice A1_2 n1_2 c1_2)] 31) fun g21 w22 => ∃ (A24 : Option Addr) (n25 : Nat) (c26 : Nat), w22.cell? (((⟨g21, 0, none⟩ : Addr).add 1).add 0) = some (.slice A24 n25 c26) ∧ bcase (((n25 : Nat) : Int) == 0) (K (.bool false) w22) (∃ (A27 : Option Addr) (n28 : Nat) (c29 : Nat), w22.cell? (((⟨g21, 0, none⟩ : Addr).add 1).add 0) = some (.slice A27 n28 c29) ∧ ∃ (A30 : Option Addr) (n31 : Nat) (c32 : Nat), w22.cell? (((⟨g21, 0, none⟩ : Addr).add 1).add 0) = some (.slice A30 n31 c32) ∧ ((0 : Int) ≤ (IntKind.wrap .i64 (((n31 : Nat) : Int) - 1)) ∧ (IntKind.wrap .i64 (((n31 : Nat) : Int) - 1)) < ((n28 : Nat) : Int) ∧ ∃ a33 : Addr, A27 = some a33 ∧ ∃ (n34 : Int), w22.cell? (((a33.add (((IntKind.wrap .i64 (((n31 : Nat) : Int) - 1)).toNat) * 3)).add 0).add 0) = some (.int .i64 n34) ∧ ((0 : Int) ≤ n34 ∧ n34 < ((n0 : Nat) : Int) ∧ ∃ a35 : Addr, A0 = some a35 ∧ ∃ (n36 : Int), w22.cell? ((a35.add ((n34.toNat) * 4)).add 0) = some (.int .i64 n36) ∧ ∃ (n37 : Int), w22.cell? ((a35.add ((n34.toNat) * 4)).add 1) = some (.int .i64 n37) ∧ ∃ (n38 : Int), w22.cell? ((a35.add ((n34.toNat) * 4)).add 2) = some (.int .i64 n38) ∧ ∃ (n39 : Int), w22.cell? ((a35.add ((n34.toNat) * 4)).add 3) = some (.int .i64 n39) ∧ Cll Tryz.prog 133 #[(.agg #[(.int .i64 n36), (.int .i64 n37), (.int .i64 n38), (.int .i64 n39)])] w22 fun v40 w41 => (∃ (b42 : Bool), v40 = (.bool b42) ∧ bcase (!b42) (K (.bool false) w41) (∃ (n43 : Int), w41.cell? ((⟨g21, 0, none⟩ : Addr).add 0) = some (.int .i64 n43) ∧ ∃ (A44 : Option Addr) (n45 : Nat) (c46 : Nat), w41.cell? ((⟨g21, 0, none⟩ : Addr).add 1) = some (.slice A44 n45 c46) ∧ ∃ (A47 : Option Addr) (n48 : Nat) (c49 : Nat), w41.cell? ((⟨g21, 0, none⟩ : Addr).add 2) = some (.slice A47 n48 c49) ∧ Cll Tryz.prog 89 #[(.slice A0 n0 c0), (.agg #[(.int .i64 n43), (.slice A44 n45 c46), (.slice A47 n48 c49)])] w41 fun v50 w51 => (∃ (b52 : Bool), v50 = (.bool b52) ∧ bcase (!b52) (K (.bool true) w51) (∃ (A53 : Option Addr) (n54 : Nat) (c55 : Nat), w51.cell? (((⟨g21, 0, none⟩ : Addr).add 1).add 0) = some (.slice A53 n54 c55) ∧ K (.bool (decide (((n54 : Nat) : Int) ≤ 22))) w51)))))))

def spec_l13Local.ann : Ann := (.seq .l (.seq (.seq .l (.two (.seq .l .l) .l)) (.seq .l .l)))

theorem spec_l13Local.start {A0 : Option Addr} {n0 : Nat} {c0 : Nat} {x1_0 : Int} {A1_1 : Option Addr} {n1_1 : Nat} {c1_1 : Nat} {A1_2 : Option Addr} {n1_2 : Nat} {c1_2 : Nat} {w : World} {K : Value → World → Prop} (h : spec_l13Local.vc A0 n0 c0 x1_0 A1_1 n1_1 c1_1 A1_2 n1_2 c1_2 w K) : Cll Tryz.prog 137 #[(.slice A0 n0 c0), (.agg #[(.int .i64 x1_0), (.slice A1_1 n1_1 c1_1), (.slice A1_2 n1_2 c1_2)])] w K :=
  vcF_sound mixed (fn := Tryz.f137) (by kernel_rfl) (by kernel_rfl) (an := spec_l13Local.ann) (args := [(.slice A0 n0 c0), (.agg #[(.int .i64 x1_0), (.slice A1_1 n1_1 c1_1), (.slice A1_2 n1_2 c1_2)])]) (Eq.mpr (by kernel_rfl) h)

theorem spec_l13Local.con {xs0 : List D.Ins} {A0 : Option Addr} {c0 : Nat} {s1 : D.Warp} {A1_1 : Option Addr} {c1_1 : Nat} {A1_2 : Option Addr} {c1_2 : Nat} {r : Bool} {w : World} (hp : M.spec_l13Local_pre xs0 s1) (hr : r = M.spec_l13Local xs0 s1) (R0 : Row el89 w A0 xs0) (hc0 : xs0.length ≤ c0) (R1_1 : Row el130 w A1_1 s1.Frames) (hc1_1 : s1.Frames.length ≤ c1_1) (R1_2 : Row el3 w A1_2 s1.Regs) (hc1_2 : s1.Regs.length ≤ c1_2) :
    Cll Tryz.prog 137 #[(.slice A0 xs0.length c0), (.agg #[(.int .i64 s1.Number), (.slice A1_1 s1.Frames.length c1_1), (.slice A1_2 s1.Regs.length c1_2)])] w (fun v_ w_ => v_ = (.bool r) ∧ Ext w w_) := by
  have H := wp.spec_l13Local.math xs0 s1 hp
  have hB := Ext.refl w
  refine spec_l13Local.start ?_
  unfold spec_l13Local.vc
  unfold wp.spec_l13Local at H
  refine newBlk (fun g4_ w21 L4 P4 e22 => ?_)
  have O4 := P4
  have L4 := Nat.le_trans hB.size L4
  have hB := ethen hB e22
  refine ⟨_, _, _, (O4.at 1 rfl rfl), ?_⟩
  refine bcase_mk (fun hc45 => ?_) (fun hc45 => ?_)
  · have H := (bcase_iff.1 H).1 hc45
    obtain rfl := hr.trans H.symm
    exact ⟨rfl, hB⟩
  have H := (bcase_iff.1 H).2 hc45
  refine ⟨_, _, _, (O4.at 1 rfl rfl), ?_⟩
  refine ⟨_, _, _, (O4.at 1 rfl rfl), ?_⟩
  obtain ⟨⟨h0_26, h1_27⟩, H⟩ := H
  obtain ⟨a24, ha25, hat23⟩ := Row.at (R1_1.ext hB) h0_26 h1_27
  refine ⟨h0_26, h1_27, a24, ha25, ?_⟩
  refine ⟨_, (hat23 0 _ rfl), ?_⟩
  obtain ⟨⟨h0_31, h1_32⟩, H⟩ := H
  obtain ⟨a29, ha30, hat28⟩ := Row.at (R0.ext hB) h0_31 h1_32
  refine ⟨h0_31, h1_32, a29, ha30, ?_⟩
  refine ⟨_, (hat28 0 _ rfl), ?_⟩
  refine ⟨_, (hat28 1 _ rfl), ?_⟩
  refine ⟨_, (hat28 2 _ rfl), ?_⟩
  refine ⟨_, (hat28 3 _ rfl), ?_⟩
  obtain ⟨r33, hr34⟩ : ∃ r_, r_ = M.spec_IsLocal (rd xs0 ((rd s1.Frames (IntKind.wrap .i64 (((s1.Frames.length : Nat) : Int) - 1))).Pc)) := ⟨_, rfl⟩
  have H := H r33 hr34
  refine (spec_IsLocal.con hr34 ).mono ?_
  rintro _ w36 ⟨rfl, e37⟩
  have O4 := O4.ext e37
  have hB := ethen hB e37
  refine ⟨r33, rfl, ?_⟩
  refine bcase_mk (fun hc44 => ?_) (fun hc44 => ?_)
  · have H := (bcase_iff.1 H).1 hc44
    obtain rfl := hr.trans H.symm
    exact ⟨rfl, hB⟩
  have H := (bcase_iff.1 H).2 hc44
  refine ⟨_, (O4.at 0 rfl rfl), ?_⟩
  refine ⟨_, _, _, (O4.at 1 rfl rfl), ?_⟩
  refine ⟨_, _, _, (O4.at 2 rfl rfl), ?_⟩
  obtain ⟨hp40, H⟩ := H
  obtain ⟨r38, hr39⟩ : ∃ r_, r_ = M.spec_l13Splits xs0 s1 := ⟨_, rfl⟩
  have H := H r38 hr39
  refine (spec_l13Splits.con hp40 hr39 (R0.ext hB) hc0 (R1_1.ext hB) hc1_1 (R1_2.ext hB) hc1_2).mono ?_
  rintro _ w41 ⟨rfl, e42⟩
  have O4 := O4.ext e42
  have hB := ethen hB e42
  refine ⟨r38, rfl, ?_⟩
  refine bcase_mk (fun hc43 => ?_) (fun hc43 => ?_)
  · have H := (bcase_iff.1 H).1 hc43
    obtain rfl := hr.trans H.symm
    exact ⟨rfl, hB⟩
  have H := (bcase_iff.1 H).2 hc43
  refine ⟨_, _, _, (O4.at 1 rfl rfl), ?_⟩
  obtain rfl := hr.trans H.symm
  exact ⟨rfl, hB⟩
def impl_ActiveMask.vc (x0_0 : Int) (A0_1 : Option Addr) (n0_1 : Nat) (c0_1 : Nat) (A0_2 : Option Addr) (n0_2 : Nat) (c0_2 : Nat) (w : World) (K : Value → World → Prop) : Prop :=
  newK w (.cells #[(.int .i64 x0_0), (.slice A0_1 n0_1 c0_1), (.slice A0_2 n0_2 c0_2)] 31) fun g21 w22 => ∃ (A23 : Option Addr) (n24 : Nat) (c25 : Nat), w22.cell? (((⟨g21, 0, none⟩ : Addr).add 1).add 0) = some (.slice A23 n24 c25) ∧ bcase (((n24 : Nat) : Int) == 0) (K (.int .i64 0) w22) (∃ (A26 : Option Addr) (n27 : Nat) (c28 : Nat), w22.cell? (((⟨g21, 0, none⟩ : Addr).add 1).add 0) = some (.slice A26 n27 c28) ∧ ∃ (A29 : Option Addr) (n30 : Nat) (c31 : Nat), w22.cell? (((⟨g21, 0, none⟩ : Addr).add 1).add 0) = some (.slice A29 n30 c31) ∧ ((0 : Int) ≤ (IntKind.wrap .i64 (((n30 : Nat) : Int) - 1)) ∧ (IntKind.wrap .i64 (((n30 : Nat) : Int) - 1)) < ((n27 : Nat) : Int) ∧ ∃ a32 : Addr, A26 = some a32 ∧ ∃ (n33 : Int), w22.cell? (((a32.add (((IntKind.wrap .i64 (((n30 : Nat) : Int) - 1)).toNat) * 3)).add 2).add 0) = some (.int .i64 n33) ∧ K (.int .i64 n33) w22))

def impl_ActiveMask.ann : Ann := (.seq .l (.seq (.seq .l (.two (.seq .l .l) .l)) (.seq .l .l)))

theorem impl_ActiveMask.start {x0_0 : Int} {A0_1 : Option Addr} {n0_1 : Nat} {c0_1 : Nat} {A0_2 : Option Addr} {n0_2 : Nat} {c0_2 : Nat} {w : World} {K : Value → World → Prop} (h : impl_ActiveMask.vc x0_0 A0_1 n0_1 c0_1 A0_2 n0_2 c0_2 w K) : Cll Tryz.prog 92 #[(.agg #[(.int .i64 x0_0), (.slice A0_1 n0_1 c0_1), (.slice A0_2 n0_2 c0_2)])] w K :=
  vcF_sound mixed (fn := Tryz.f92) (by kernel_rfl) (by kernel_rfl) (an := impl_ActiveMask.ann) (args := [(.agg #[(.int .i64 x0_0), (.slice A0_1 n0_1 c0_1), (.slice A0_2 n0_2 c0_2)])]) (Eq.mpr (by kernel_rfl) h)

theorem impl_ActiveMask.con {s0 : D.Warp} {A0_1 : Option Addr} {c0_1 : Nat} {A0_2 : Option Addr} {c0_2 : Nat} {r : Int} {w : World} (hp : M.impl_ActiveMask_pre s0) (hr : r = M.impl_ActiveMask s0) (R0_1 : Row el130 w A0_1 s0.Frames) (hc0_1 : s0.Frames.length ≤ c0_1) (R0_2 : Row el3 w A0_2 s0.Regs) (hc0_2 : s0.Regs.length ≤ c0_2) :
    Cll Tryz.prog 92 #[(.agg #[(.int .i64 s0.Number), (.slice A0_1 s0.Frames.length c0_1), (.slice A0_2 s0.Regs.length c0_2)])] w (fun v_ w_ => v_ = (.int .i64 r) ∧ Ext w w_) := by
  have H := wp.impl_ActiveMask.math s0 hp
  have hB := Ext.refl w
  refine impl_ActiveMask.start ?_
  unfold impl_ActiveMask.vc
  unfold wp.impl_ActiveMask at H
  refine newBlk (fun g3_ w21 L3 P3 e22 => ?_)
  have O3 := P3
  have L3 := Nat.le_trans hB.size L3
  have hB := ethen hB e22
  refine ⟨_, _, _, (O3.at 1 rfl rfl), ?_⟩
  refine bcase_mk (fun hc28 => ?_) (fun hc28 => ?_)
  · have H := (bcase_iff.1 H).1 hc28
    obtain rfl := hr.trans H.symm
    exact ⟨rfl, hB⟩
  have H := (bcase_iff.1 H).2 hc28
  refine ⟨_, _, _, (O3.at 1 rfl rfl), ?_⟩
  refine ⟨_, _, _, (O3.at 1 rfl rfl), ?_⟩
  obtain ⟨⟨h0_26, h1_27⟩, H⟩ := H
  obtain ⟨a24, ha25, hat23⟩ := Row.at (R0_1.ext hB) h0_26 h1_27
  refine ⟨h0_26, h1_27, a24, ha25, ?_⟩
  refine ⟨_, (hat23 2 _ rfl), ?_⟩
  obtain rfl := hr.trans H.symm
  exact ⟨rfl, hB⟩
def impl_Warp_zeroMask.vc (x0_0 : Int) (A0_1 : Option Addr) (n0_1 : Nat) (c0_1 : Nat) (A0_2 : Option Addr) (n0_2 : Nat) (c0_2 : Nat) (x1 : Int) (w : World) (K : Value → World → Prop) : Prop :=
  newK w (.cells #[(.int .i64 x0_0), (.slice A0_1 n0_1 c0_1), (.slice A0_2 n0_2 c0_2)] 31) fun g21 w22 => ∃ (n23 : Int), w22.cell? ((⟨g21, 0, none⟩ : Addr).add 0) = some (.int .i64 n23) ∧ ∃ (A24 : Option Addr) (n25 : Nat) (c26 : Nat), w22.cell? ((⟨g21, 0, none⟩ : Addr).add 1) = some (.slice A24 n25 c26) ∧ ∃ (A27 : Option Addr) (n28 : Nat) (c29 : Nat), w22.cell? ((⟨g21, 0, none⟩ : Addr).add 2) = some (.slice A27 n28 c29) ∧ Cll Tryz.prog 92 #[(.agg #[(.int .i64 n23), (.slice A24 n25 c26), (.slice A27 n28 c29)])] w22 fun v30 w31 => (∃ (n32 : Int), v30 = (.int .i64 n32) ∧ Cll Tryz.prog 170 #[(.int .i64 n32)] w31 fun v33 w34 => (∃ (A35 : Option Addr) (n36 : Nat) (c37 : Nat), v33 = (.slice A35 n36 c37) ∧ LoopT (σ := Int × Int × Unit) (fun z38 w39 next40 => bcase (decide (z38.2.1 < ((n36 : Nat) : Int))) (((0 : Int) ≤ z38.2.1 ∧ z38.2.1 < ((n36 : Nat) : Int) ∧ ∃ a41 : Addr, A35 = some a41 ∧ ∃ (n42 : Int), w39.cell? ((a41.add ((z38.2.1.toNat) * 1)).add 0) = some (.int .i64 n42) ∧ ∃ (n43 : Int), w39.cell? ((⟨g21, 0, none⟩ : Addr).add 0) = some (.int .i64 n43) ∧ ∃ (A44 : Option Addr) (n45 : Nat) (c46 : Nat), w39.cell? ((⟨g21, 0, none⟩ : Addr).add 1) = some (.slice A44 n45 c46) ∧ ∃ (A47 : Option Addr) (n48 : Nat) (c49 : Nat), w39.cell? ((⟨g21, 0, none⟩ : Addr).add 2) = some (.slice A47 n48 c49) ∧ Cll Tryz.prog 171 #[(.agg #[(.int .i64 n43), (.slice A44 n45 c46), (.slice A47 n48 c49)]), (.int .i64 n42)] w39 fun v50 w51 => (∃ (A52 : Option Addr) (n53 : Nat) (c54 : Nat), v50 = (.slice A52 n53 c54) ∧ ((0 : Int) ≤ x1 ∧ x1 < ((n53 : Nat) : Int) ∧ ∃ a55 : Addr, A52 = some a55 ∧ ∃ (n56 : Int), w51.cell? ((a55.add ((x1.toNat) * 1)).add 0) = some (.int .i64 n56) ∧ bcase (n56 == 0) (((0 : Int) ≤ n42 ∧ next40 ((bitOr .i64 z38.1 (IntKind.wrap .i64 (1 * 2 ^ (min (n42.toNat) (IntKind.bits .i64))))), (IntKind.wrap .i64 (z38.2.1 + 1)), ()) w51)) (next40 (z38.1, (IntKind.wrap .i64 (z38.2.1 + 1)), ()) w51))))) (K (.int .i64 z38.1) w39)) (0, 0, ()) w34))

def impl_Warp_zeroMask.ann : Ann := (.seq .l (.seq .l (.seq (.seq .l (.one (.loop [(5, .int .i64), (12, .int .i64)] (.seq .l (.seq (.two .l .l) (.seq (.one (.seq .l (.seq .l (.two .l .l)))) .l)))))) (.seq .l .l))))

theorem impl_Warp_zeroMask.start {x0_0 : Int} {A0_1 : Option Addr} {n0_1 : Nat} {c0_1 : Nat} {A0_2 : Option Addr} {n0_2 : Nat} {c0_2 : Nat} {x1 : Int} {w : World} {K : Value → World → Prop} (h : impl_Warp_zeroMask.vc x0_0 A0_1 n0_1 c0_1 A0_2 n0_2 c0_2 x1 w K) : Cll Tryz.prog 155 #[(.agg #[(.int .i64 x0_0), (.slice A0_1 n0_1 c0_1), (.slice A0_2 n0_2 c0_2)]), (.int .i64 x1)] w K :=
  vcF_sound mixed (fn := Tryz.f155) (by kernel_rfl) (by kernel_rfl) (an := impl_Warp_zeroMask.ann) (args := [(.agg #[(.int .i64 x0_0), (.slice A0_1 n0_1 c0_1), (.slice A0_2 n0_2 c0_2)]), (.int .i64 x1)]) (Eq.mpr (by kernel_rfl) h)

theorem impl_Warp_zeroMask.con {s0 : D.Warp} {A0_1 : Option Addr} {c0_1 : Nat} {A0_2 : Option Addr} {c0_2 : Nat} {x1 : Int} {r : Int} {w : World} (hp : M.impl_Warp_zeroMask_pre s0 x1) (hr : r = M.impl_Warp_zeroMask s0 x1) (R0_1 : Row el130 w A0_1 s0.Frames) (hc0_1 : s0.Frames.length ≤ c0_1) (R0_2 : Row el3 w A0_2 s0.Regs) (hc0_2 : s0.Regs.length ≤ c0_2) :
    Cll Tryz.prog 155 #[(.agg #[(.int .i64 s0.Number), (.slice A0_1 s0.Frames.length c0_1), (.slice A0_2 s0.Regs.length c0_2)]), (.int .i64 x1)] w (fun v_ w_ => v_ = (.int .i64 r) ∧ Ext w w_) := by
  have H := wp.impl_Warp_zeroMask.math s0 x1 hp
  have hB := Ext.refl w
  refine impl_Warp_zeroMask.start ?_
  unfold impl_Warp_zeroMask.vc
  unfold wp.impl_Warp_zeroMask at H
  refine newBlk (fun g3_ w21 L3 P3 e22 => ?_)
  have O3 := P3
  have L3 := Nat.le_trans hB.size L3
  have hB := ethen hB e22
  refine ⟨_, (O3.at 0 rfl rfl), ?_⟩
  refine ⟨_, _, _, (O3.at 1 rfl rfl), ?_⟩
  refine ⟨_, _, _, (O3.at 2 rfl rfl), ?_⟩
  obtain ⟨hp25, H⟩ := H
  obtain ⟨r23, hr24⟩ : ∃ r_, r_ = M.impl_ActiveMask s0 := ⟨_, rfl⟩
  have H := H r23 hr24
  refine (impl_ActiveMask.con hp25 hr24 (R0_1.ext hB) hc0_1 (R0_2.ext hB) hc0_2).mono ?_
  rintro _ w26 ⟨rfl, e27⟩
  have O3 := O3.ext e27
  have hB := ethen hB e27
  refine ⟨r23, rfl, ?_⟩
  obtain ⟨r28, hr29⟩ : ∃ r_, r_ = M.impl_LanesOf r23 := ⟨_, rfl⟩
  have H := H r28 hr29
  refine (impl_LanesOf.con hr29 ).mono ?_
  rintro _ w31 ⟨A33, c34, rfl, P4, e32⟩
  have N4_3 := P4.apart_old O3.lt
  have O3 := O3.ext e32
  have O4 := P4.mono hB.size
  have hB := ethen hB e32
  refine ⟨A33, r28.length, c34, rfl, ?_⟩
  obtain ⟨J38, ⟨m66, hJ65⟩, hS39⟩ := H
  refine ⟨fun m_ z_ w_ => ∃ (i35 : Int) (i36 : Int), z_ = (i35, i36, ()) ∧ J38 m_ (i35, i36, ()) ∧ Ext w w_ ∧ Blk w_ g3_ 31 #[(.int .i64 s0.Number), (.slice A0_1 s0.Frames.length c0_1), (.slice A0_2 s0.Regs.length c0_2)] ∧ Own el3 w_ w.heap.size A33 c34 r28, ⟨m66, 0, 0, rfl, hJ65, hB, O3, O4⟩, ?_⟩
  rintro m37 _ w41 ⟨i35, i36, rfl, hJ67, hB, O3, O4⟩
  have H := hS39 m37 _ hJ67
  clear hS39 hJ67
  try dsimp only at H ⊢
  refine bcase_mk (fun hc63 => ?_) (fun hc63 => ?_)
  · have H := (bcase_iff.1 H).1 hc63
    obtain ⟨⟨h0_45, h1_46⟩, H⟩ := H
    obtain ⟨a43, ha44, hat42⟩ := Row.at O4.row h0_45 h1_46
    refine ⟨h0_45, h1_46, a43, ha44, ?_⟩
    refine ⟨_, (hat42 0 _ rfl), ?_⟩
    refine ⟨_, (O3.at 0 rfl rfl), ?_⟩
    refine ⟨_, _, _, (O3.at 1 rfl rfl), ?_⟩
    refine ⟨_, _, _, (O3.at 2 rfl rfl), ?_⟩
    obtain ⟨hp47, H⟩ := H
    refine (impl_Warp_lane.con hp47 (R0_1.ext hB) hc0_1 (R0_2.ext hB) hc0_2).mono ?_
    rintro _ w48 ⟨rfl, e49⟩
    have O3 := O3.ext e49
    have O4 := O4.ext e49
    have hB := ethen hB e49
    have R5_ := (R0_2.take ((IntKind.wrap .i64 ((IntKind.wrap .i64 ((rd r28 i36) + 1)) * 4)).toNat)).drop (l := ((IntKind.wrap .i64 ((rd r28 i36) * 4)).toNat)) (m := c0_2) (by have := hc0_2; simp; omega)
    have le5_ : (List.drop ((IntKind.wrap .i64 ((rd r28 i36) * 4)).toNat) (List.take ((IntKind.wrap .i64 ((IntKind.wrap .i64 ((rd r28 i36) + 1)) * 4)).toNat) s0.Regs)).length ≤ (c0_2 - ((IntKind.wrap .i64 ((rd r28 i36) * 4)).toNat)) := by have := hc0_2; simp; omega
    refine ⟨(cutA c0_2 ((IntKind.wrap .i64 ((rd r28 i36) * 4)).toNat) A0_2 1), (List.drop ((IntKind.wrap .i64 ((rd r28 i36) * 4)).toNat) (List.take ((IntKind.wrap .i64 ((IntKind.wrap .i64 ((rd r28 i36) + 1)) * 4)).toNat) s0.Regs)).length, (c0_2 - ((IntKind.wrap .i64 ((rd r28 i36) * 4)).toNat)), rfl, ?_⟩
    obtain ⟨⟨h0_53, h1_54⟩, H⟩ := H
    obtain ⟨a51, ha52, hat50⟩ := Row.at (R5_.ext hB) h0_53 h1_54
    refine ⟨h0_53, h1_54, a51, ha52, ?_⟩
    refine ⟨_, (hat50 0 _ rfl), ?_⟩
    refine bcase_mk (fun hc62 => ?_) (fun hc62 => ?_)
    · have H := (bcase_iff.1 H).1 hc62
      obtain ⟨hc55, H⟩ := H
      refine ⟨hc55, ?_⟩
      obtain ⟨m56, hm57, hJ58⟩ := H
      exact ⟨m56, hm57, (bitOr .i64 i35 (IntKind.wrap .i64 (1 * 2 ^ (min ((rd r28 i36).toNat) (IntKind.bits .i64))))), (IntKind.wrap .i64 (i36 + 1)), rfl, hJ58, hB, O3, O4⟩
    have H := (bcase_iff.1 H).2 hc62
    obtain ⟨m59, hm60, hJ61⟩ := H
    exact ⟨m59, hm60, i35, (IntKind.wrap .i64 (i36 + 1)), rfl, hJ61, hB, O3, O4⟩
  have H := (bcase_iff.1 H).2 hc63
  obtain rfl := hr.trans H.symm
  exact ⟨rfl, hB⟩
def impl_Warp_splits.vc (x0_0 : Int) (A0_1 : Option Addr) (n0_1 : Nat) (c0_1 : Nat) (A0_2 : Option Addr) (n0_2 : Nat) (c0_2 : Nat) (A1 : Option Addr) (n1 : Nat) (c1 : Nat) (w : World) (K : Value → World → Prop) : Prop :=
  newK w (.cells #[(.int .i64 x0_0), (.slice A0_1 n0_1 c0_1), (.slice A0_2 n0_2 c0_2)] 31) fun g21 w22 => ∃ (A23 : Option Addr) (n24 : Nat) (c25 : Nat), w22.cell? (((⟨g21, 0, none⟩ : Addr).add 1).add 0) = some (.slice A23 n24 c25) ∧ ∃ (A26 : Option Addr) (n27 : Nat) (c28 : Nat), w22.cell? (((⟨g21, 0, none⟩ : Addr).add 1).add 0) = some (.slice A26 n27 c28) ∧ ((0 : Int) ≤ (IntKind.wrap .i64 (((n27 : Nat) : Int) - 1)) ∧ (IntKind.wrap .i64 (((n27 : Nat) : Int) - 1)) < ((n24 : Nat) : Int) ∧ ∃ a29 : Addr, A23 = some a29 ∧ ∃ (n30 : Int), w22.cell? (((a29.add (((IntKind.wrap .i64 (((n27 : Nat) : Int) - 1)).toNat) * 3)).add 0).add 0) = some (.int .i64 n30) ∧ ((0 : Int) ≤ n30 ∧ n30 < ((n1 : Nat) : Int) ∧ ∃ a32 : Addr, A1 = some a32 ∧ ∃ (n33 : Int), w22.cell? (((a32.add ((n30.toNat) * 4)).add 0).add 0) = some (.int .i64 n33) ∧ bcase (n33 != 10) (K (.bool false) w22) (((0 : Int) ≤ n30 ∧ n30 < ((n1 : Nat) : Int) ∧ ∃ a34 : Addr, A1 = some a34 ∧ ∃ (n35 : Int), w22.cell? (((a34.add ((n30.toNat) * 4)).add 2).add 0) = some (.int .i64 n35) ∧ bcase (n35 == (IntKind.wrap .i64 (n30 + 1))) (K (.bool false) w22) ((∃ M36 : Nat → Prop, ∃ (n37 : Int), (¬ M36 ((⟨g21, 0, none⟩ : Addr)).block ∧ w22.cell? ((⟨g21, 0, none⟩ : Addr).add 0) = some (.int .i64 n37)) ∧ ∃ (A38 : Option Addr) (n39 : Nat) (c40 : Nat), (¬ M36 ((⟨g21, 0, none⟩ : Addr)).block ∧ w22.cell? ((⟨g21, 0, none⟩ : Addr).add 1) = some (.slice A38 n39 c40)) ∧ ∃ (A41 : Option Addr) (n42 : Nat) (c43 : Nat), (¬ M36 ((⟨g21, 0, none⟩ : Addr)).block ∧ w22.cell? ((⟨g21, 0, none⟩ : Addr).add 2) = some (.slice A41 n42 c43)) ∧ ((0 : Int) ≤ n30 ∧ n30 < ((n1 : Nat) : Int) ∧ ∃ a44 : Addr, A1 = some a44 ∧ ∃ (n45 : Int), (¬ M36 (((a44.add ((n30.toNat) * 4)).add 1)).block ∧ w22.cell? (((a44.add ((n30.toNat) * 4)).add 1).add 0) = some (.int .i64 n45)) ∧ Cll Tryz.prog 155 #[(.agg #[(.int .i64 n37), (.slice A38 n39 c40), (.slice A41 n42 c43)]), (.int .i64 n45)] w22.drew fun v46 w47 => (∃ (n48 : Int), v46 = (.int .i64 n48) ∧ SameBut M36 w22 w47 ∧ bcase (n48 != 0) (∃ (n49 : Int), w47.cell? ((⟨g21, 0, none⟩ : Addr).add 0) = some (.int .i64 n49) ∧ ∃ (A50 : Option Addr) (n51 : Nat) (c52 : Nat), w47.cell? ((⟨g21, 0, none⟩ : Addr).add 1) = some (.slice A50 n51 c52) ∧ ∃ (A53 : Option Addr) (n54 : Nat) (c55 : Nat), w47.cell? ((⟨g21, 0, none⟩ : Addr).add 2) = some (.slice A53 n54 c55) ∧ Cll Tryz.prog 92 #[(.agg #[(.int .i64 n49), (.slice A50 n51 c52), (.slice A53 n54 c55)])] w47 fun v56 w57 => (∃ (n58 : Int), v56 = (.int .i64 n58) ∧ K (.bool (n48 != n58)) w57)) (K (.bool false) w47)))))))))

def impl_Warp_splits.ann : Ann := (.seq .l (.seq .l (.seq (.seq .l (.two (.seq .l .l) .l)) (.seq .l (.seq .l .l)))))

theorem impl_Warp_splits.start {x0_0 : Int} {A0_1 : Option Addr} {n0_1 : Nat} {c0_1 : Nat} {A0_2 : Option Addr} {n0_2 : Nat} {c0_2 : Nat} {A1 : Option Addr} {n1 : Nat} {c1 : Nat} {w : World} {K : Value → World → Prop} (h : impl_Warp_splits.vc x0_0 A0_1 n0_1 c0_1 A0_2 n0_2 c0_2 A1 n1 c1 w K) : Cll Tryz.prog 93 #[(.agg #[(.int .i64 x0_0), (.slice A0_1 n0_1 c0_1), (.slice A0_2 n0_2 c0_2)]), (.slice A1 n1 c1)] w K :=
  vcF_sound mixed (fn := Tryz.f93) (by kernel_rfl) (by kernel_rfl) (an := impl_Warp_splits.ann) (args := [(.agg #[(.int .i64 x0_0), (.slice A0_1 n0_1 c0_1), (.slice A0_2 n0_2 c0_2)]), (.slice A1 n1 c1)]) (Eq.mpr (by kernel_rfl) h)

theorem impl_Warp_splits.con {s0 : D.Warp} {A0_1 : Option Addr} {c0_1 : Nat} {A0_2 : Option Addr} {c0_2 : Nat} {xs1 : List D.Ins} {A1 : Option Addr} {c1 : Nat} {r : Bool} {w : World} (hp : M.impl_Warp_splits_pre s0 xs1) (hr : r = M.impl_Warp_splits s0 xs1) (R0_1 : Row el130 w A0_1 s0.Frames) (hc0_1 : s0.Frames.length ≤ c0_1) (R0_2 : Row el3 w A0_2 s0.Regs) (hc0_2 : s0.Regs.length ≤ c0_2) (R1 : Row el89 w A1 xs1) (hc1 : xs1.length ≤ c1) :
    Cll Tryz.prog 93 #[(.agg #[(.int .i64 s0.Number), (.slice A0_1 s0.Frames.length c0_1), (.slice A0_2 s0.Regs.length c0_2)]), (.slice A1 xs1.length c1)] w (fun v_ w_ => v_ = (.bool r) ∧ Ext w w_) := by
  have H := wp.impl_Warp_splits.math s0 xs1 hp
  have hB := Ext.refl w
  refine impl_Warp_splits.start ?_
  unfold impl_Warp_splits.vc
  unfold wp.impl_Warp_splits at H
  refine newBlk (fun g4_ w21 L4 P4 e22 => ?_)
  have O4 := P4
  have L4 := Nat.le_trans hB.size L4
  have hB := ethen hB e22
  refine ⟨_, _, _, (O4.at 1 rfl rfl), ?_⟩
  refine ⟨_, _, _, (O4.at 1 rfl rfl), ?_⟩
  obtain ⟨⟨h0_26, h1_27⟩, H⟩ := H
  obtain ⟨a24, ha25, hat23⟩ := Row.at (R0_1.ext hB) h0_26 h1_27
  refine ⟨h0_26, h1_27, a24, ha25, ?_⟩
  refine ⟨_, (hat23 0 _ rfl), ?_⟩
  obtain ⟨⟨h0_31, h1_32⟩, H⟩ := H
  obtain ⟨a29, ha30, hat28⟩ := Row.at (R1.ext hB) h0_31 h1_32
  refine ⟨h0_31, h1_32, a29, ha30, ?_⟩
  refine ⟨_, (hat28 0 _ rfl), ?_⟩
  refine bcase_mk (fun hc56 => ?_) (fun hc56 => ?_)
  · have H := (bcase_iff.1 H).1 hc56
    obtain rfl := hr.trans H.symm
    exact ⟨rfl, hB⟩
  have H := (bcase_iff.1 H).2 hc56
  obtain ⟨⟨h0_36, h1_37⟩, H⟩ := H
  obtain ⟨a34, ha35, hat33⟩ := Row.at (R1.ext hB) h0_36 h1_37
  refine ⟨h0_36, h1_37, a34, ha35, ?_⟩
  refine ⟨_, (hat33 2 _ rfl), ?_⟩
  refine bcase_mk (fun hc55 => ?_) (fun hc55 => ?_)
  · have H := (bcase_iff.1 H).1 hc55
    obtain rfl := hr.trans H.symm
    exact ⟨rfl, hB⟩
  have H := (bcase_iff.1 H).2 hc55
  refine ⟨(fun _ => False), ?_⟩
  refine ⟨_, ⟨(fun h_ => h_), (O4.at 0 rfl rfl)⟩, ?_⟩
  refine ⟨_, _, _, ⟨(fun h_ => h_), (O4.at 1 rfl rfl)⟩, ?_⟩
  refine ⟨_, _, _, ⟨(fun h_ => h_), (O4.at 2 rfl rfl)⟩, ?_⟩
  obtain ⟨⟨h0_42, h1_43⟩, H⟩ := H
  obtain ⟨a40, ha41, hat39⟩ := Row.at (R1.ext hB) h0_42 h1_43
  refine ⟨h0_42, h1_43, a40, ha41, ?_⟩
  refine ⟨_, ⟨(fun h_ => h_), (hat39 1 _ rfl)⟩, ?_⟩
  have hS38 := Chg.refl (fun _ => False) w21
  have O4 := O4.ext (Ext.drew _)
  have hB := ethen hB (Ext.drew _)
  have hS38 := hS38.then (Ext.drew _)
  obtain ⟨hp46, H⟩ := H
  obtain ⟨r44, hr45⟩ : ∃ r_, r_ = M.impl_Warp_zeroMask s0 ((rd xs1 ((rd s0.Frames (IntKind.wrap .i64 (((s0.Frames.length : Nat) : Int) - 1))).Pc)).A) := ⟨_, rfl⟩
  have H := H r44 hr45
  refine (impl_Warp_zeroMask.con hp46 hr45 (R0_1.ext hB) hc0_1 (R0_2.ext hB) hc0_2).mono ?_
  rintro _ w47 ⟨rfl, e48⟩
  have O4 := O4.ext e48
  have hB := ethen hB e48
  have hS38 := hS38.then e48
  refine ⟨r44, rfl, ?_⟩
  refine ⟨sameBut_chg hS38, ?_⟩
  refine bcase_mk (fun hc54 => ?_) (fun hc54 => ?_)
  · have H := (bcase_iff.1 H).1 hc54
    refine ⟨_, (O4.at 0 rfl rfl), ?_⟩
    refine ⟨_, _, _, (O4.at 1 rfl rfl), ?_⟩
    refine ⟨_, _, _, (O4.at 2 rfl rfl), ?_⟩
    obtain ⟨hp51, H⟩ := H
    obtain ⟨r49, hr50⟩ : ∃ r_, r_ = M.impl_ActiveMask s0 := ⟨_, rfl⟩
    have H := H r49 hr50
    refine (impl_ActiveMask.con hp51 hr50 (R0_1.ext hB) hc0_1 (R0_2.ext hB) hc0_2).mono ?_
    rintro _ w52 ⟨rfl, e53⟩
    have O4 := O4.ext e53
    have hB := ethen hB e53
    refine ⟨r49, rfl, ?_⟩
    obtain rfl := hr.trans H.symm
    exact ⟨rfl, hB⟩
  have H := (bcase_iff.1 H).2 hc54
  obtain rfl := hr.trans H.symm
  exact ⟨rfl, hB⟩
def spec_l08Others.vc (A0 : Option Addr) (n0 : Nat) (c0 : Nat) (x1 : Int) (w : World) (K : Value → World → Prop) : Prop :=
  Run Tryz.prog (Instr.buildSlice 24 0 #[]) w fun v21 w22 => ∃ (A23 : Option Addr) (n24 c25 : Nat), v21 = .slice A23 n24 c25 ∧ LoopT (σ := (Option Addr × Nat × Nat) × Int × Unit) (fun z26 w27 next28 => bcase (decide (z26.2.1 < ((n0 : Nat) : Int))) (((0 : Int) ≤ z26.2.1 ∧ z26.2.1 < ((n0 : Nat) : Int) ∧ ∃ a29 : Addr, A0 = some a29 ∧ ∃ (n30 : Int), w27.cell? ((a29.add ((z26.2.1.toNat) * 1)).add 0) = some (.int .i64 n30) ∧ bcase (n30 != x1) (((0 : Int) ≤ z26.2.1 ∧ z26.2.1 < ((n0 : Nat) : Int) ∧ ∃ a31 : Addr, A0 = some a31 ∧ ∃ (n32 : Int), w27.cell? ((a31.add ((z26.2.1.toNat) * 1)).add 0) = some (.int .i64 n32) ∧ Run Tryz.prog (Instr.buildSlice 24 1 #[(0, (.int .i64 n32))]) w27 fun v33 w34 => ∃ (A35 : Option Addr) (n36 c37 : Nat), v33 = .slice A35 n36 c37 ∧ Run Tryz.prog (Builtin.append_ #[24, 24] 24 #[(.slice z26.1.1 z26.1.2.1 z26.1.2.2), (.slice A35 n36 c37)]) w34 fun v38 w39 => ∃ (A40 : Option Addr) (n41 c42 : Nat), v38 = .slice A40 n41 c42 ∧ next28 ((A40, n41, c42), (IntKind.wrap .i64 (z26.2.1 + 1)), ()) w39)) (next28 ((z26.1.1, z26.1.2.1, z26.1.2.2), (IntKind.wrap .i64 (z26.2.1 + 1)), ()) w27))) (K (.slice z26.1.1 z26.1.2.1 z26.1.2.2) w27)) ((A23, n24, c25), 0, ()) w22

def spec_l08Others.ann : Ann := (.seq .l (.seq .l (.seq (.seq .l (.one (.loop [(5, .sl), (6, .int .i64)] (.seq (.seq .l (.two .l .l)) (.seq (.one (.seq .l (.two .l .l))) .l))))) (.seq .l .l))))

theorem spec_l08Others.start {A0 : Option Addr} {n0 : Nat} {c0 : Nat} {x1 : Int} {w : World} {K : Value → World → Prop} (h : spec_l08Others.vc A0 n0 c0 x1 w K) : Cll Tryz.prog 238 #[(.slice A0 n0 c0), (.int .i64 x1)] w K :=
  vcF_sound mixed (fn := Tryz.f238) (by kernel_rfl) (by kernel_rfl) (an := spec_l08Others.ann) (args := [(.slice A0 n0 c0), (.int .i64 x1)]) (Eq.mpr (by kernel_rfl) h)

theorem spec_l08Others.con {xs0 : List Int} {A0 : Option Addr} {c0 : Nat} {x1 : Int} {r : List Int} {w : World} (hp : M.spec_l08Others_pre xs0 x1) (hr : r = M.spec_l08Others xs0 x1) (R0 : Row el3 w A0 xs0) (hc0 : xs0.length ≤ c0) :
    Cll Tryz.prog 238 #[(.slice A0 xs0.length c0), (.int .i64 x1)] w (fun v_ w_ => ∃ (A0_ : Option Addr) (c0_ : Nat), v_ = (.slice A0_ r.length c0_) ∧ Own el3 w_ w.heap.size A0_ c0_ r ∧ Ext w w_) := by
  have H := wp.spec_l08Others.math xs0 x1 hp
  have hB := Ext.refl w
  refine spec_l08Others.start ?_
  unfold spec_l08Others.vc
  unfold wp.spec_l08Others at H
  refine buildOwn el3 ([] : List Int) (fun _ => by kernel_rfl) rfl (fun A21 w22 P2 e23 => ?_)
  have O2 := P2.mono hB.size
  have hB := ethen hB e23
  obtain ⟨J29, ⟨m61, hJ60⟩, hS30⟩ := H
  refine ⟨fun m_ z_ w_ => ∃ (xs24 : List Int) (i27 : Int) (A25 : Option Addr) (c26 : Nat), z_ = ((A25, xs24.length, c26), i27, ()) ∧ J29 m_ (xs24, i27, ()) ∧ Ext w w_ ∧ Own el3 w_ w.heap.size A25 c26 xs24, ⟨m61, ([] : List Int), 0, A21, 0, rfl, hJ60, hB, O2⟩, ?_⟩
  rintro m28 _ w32 ⟨xs24, i27, A25, c26, rfl, hJ62, hB, O3⟩
  have H := hS30 m28 _ hJ62
  clear hS30 hJ62
  try dsimp only at H ⊢
  refine bcase_mk (fun hc58 => ?_) (fun hc58 => ?_)
  · have H := (bcase_iff.1 H).1 hc58
    obtain ⟨⟨h0_36, h1_37⟩, H⟩ := H
    obtain ⟨a34, ha35, hat33⟩ := Row.at (R0.ext hB) h0_36 h1_37
    refine ⟨h0_36, h1_37, a34, ha35, ?_⟩
    refine ⟨_, (hat33 0 _ rfl), ?_⟩
    refine bcase_mk (fun hc57 => ?_) (fun hc57 => ?_)
    · have H := (bcase_iff.1 H).1 hc57
      obtain ⟨⟨h0_41, h1_42⟩, H⟩ := H
      obtain ⟨a39, ha40, hat38⟩ := Row.at (R0.ext hB) h0_41 h1_42
      refine ⟨h0_41, h1_42, a39, ha40, ?_⟩
      refine ⟨_, (hat38 0 _ rfl), ?_⟩
      refine buildOwn el3 ([(rd xs0 i27)] : List Int) (fun _ => by kernel_rfl) rfl (fun A43 w44 P4 e45 => ?_)
      have N3_4 := Own.apart2_new O3 P4 (Nat.le_refl _)
      have O3 := O3.ext e45
      have O4 := P4.mono hB.size
      have hB := ethen hB e45
      obtain ⟨hl50, H⟩ := H
      refine appOwn slt24 slt24.under O3 O4.row hB.size rfl (by first | rfl | omega | (simp; done) | (simp; omega)) hl50 (fun A46 c47 w48 P3 e49 => ?_)
      have N4_3_ := Apart2.app (N3_4).symm e49 O4
      have O4 := O4.app e49 (N3_4).symm
      have N4_3 := N4_3_
      have hB := eapp hB e49 O3
      have O3 := P3
      obtain ⟨m51, hm52, hJ53⟩ := H
      exact ⟨m51, hm52, (xs24 ++ ([(rd xs0 i27)] : List Int)), (IntKind.wrap .i64 (i27 + 1)), A46, c47, rfl, hJ53, hB, O3⟩
    have H := (bcase_iff.1 H).2 hc57
    obtain ⟨m54, hm55, hJ56⟩ := H
    exact ⟨m54, hm55, xs24, (IntKind.wrap .i64 (i27 + 1)), A25, c26, rfl, hJ56, hB, O3⟩
  have H := (bcase_iff.1 H).2 hc58
  obtain rfl := hr.trans H.symm
  exact ⟨A25, c26, rfl, O3, hB⟩
def spec_l07Ok.vc (A0 : Option Addr) (n0 : Nat) (c0 : Nat) (x1 : Int) (w : World) (K : Value → World → Prop) : Prop :=
  Cll Tryz.prog 134 #[(.slice A0 n0 c0)] w fun v21 w22 => (∃ (b23 : Bool), v21 = (.bool b23) ∧ bcase b23 (Cll Tryz.prog 67 #[(.int .i64 x1), (.int .i64 0), (.int .i64 ((n0 : Nat) : Int))] w22 fun v24 w25 => (∃ (b26 : Bool), v24 = (.bool b26) ∧ K (.bool b26) w25)) (K (.bool false) w22))

def spec_l07Ok.ann : Ann := (.seq .l (.seq .l .l))

theorem spec_l07Ok.start {A0 : Option Addr} {n0 : Nat} {c0 : Nat} {x1 : Int} {w : World} {K : Value → World → Prop} (h : spec_l07Ok.vc A0 n0 c0 x1 w K) : Cll Tryz.prog 235 #[(.slice A0 n0 c0), (.int .i64 x1)] w K :=
  vcF_sound mixed (fn := Tryz.f235) (by kernel_rfl) (by kernel_rfl) (an := spec_l07Ok.ann) (args := [(.slice A0 n0 c0), (.int .i64 x1)]) (Eq.mpr (by kernel_rfl) h)

theorem spec_l07Ok.con {xs0 : List D.Ins} {A0 : Option Addr} {c0 : Nat} {x1 : Int} {r : Bool} {w : World} (hp : M.spec_l07Ok_pre xs0 x1) (hr : r = M.spec_l07Ok xs0 x1) (R0 : Row el89 w A0 xs0) (hc0 : xs0.length ≤ c0) :
    Cll Tryz.prog 235 #[(.slice A0 xs0.length c0), (.int .i64 x1)] w (fun v_ w_ => v_ = (.bool r) ∧ Ext w w_) := by
  have H := wp.spec_l07Ok.math xs0 x1 hp
  have hB := Ext.refl w
  refine spec_l07Ok.start ?_
  unfold spec_l07Ok.vc
  unfold wp.spec_l07Ok at H
  obtain ⟨hp23, H⟩ := H
  obtain ⟨r21, hr22⟩ : ∃ r_, r_ = M.spec_ProgramOk xs0 := ⟨_, rfl⟩
  have H := H r21 hr22
  refine (spec_ProgramOk.con hp23 hr22 (R0.ext hB) hc0).mono ?_
  rintro _ w24 ⟨rfl, e25⟩
  have hB := ethen hB e25
  refine ⟨r21, rfl, ?_⟩
  refine bcase_mk (fun hc31 => ?_) (fun hc31 => ?_)
  · have H := (bcase_iff.1 H).1 hc31
    obtain ⟨r26, hr27⟩ : ∃ r_, r_ = M.spec_l01In x1 0 ((xs0.length : Nat) : Int) := ⟨_, rfl⟩
    have H := H r26 hr27
    refine (spec_l01In.con hr27 ).mono ?_
    rintro _ w29 ⟨rfl, e30⟩
    have hB := ethen hB e30
    refine ⟨r26, rfl, ?_⟩
    obtain rfl := hr.trans H.symm
    exact ⟨rfl, hB⟩
  have H := (bcase_iff.1 H).2 hc31
  obtain rfl := hr.trans H.symm
  exact ⟨rfl, hB⟩
def spec_l04Put.vc (A0 : Option Addr) (n0 : Nat) (c0 : Nat) (x1 : Int) (w : World) (K : Value → World → Prop) : Prop :=
  JoinT (σ := Int × Unit) (fun J21 => LoopT (σ := Int × Unit) (fun z22 w23 next24 => bcase (decide (z22.1 > 0)) (((0 : Int) ≤ (IntKind.wrap .i64 (z22.1 - 1)) ∧ (IntKind.wrap .i64 (z22.1 - 1)) < ((n0 : Nat) : Int) ∧ ∃ a25 : Addr, A0 = some a25 ∧ ∃ (n26 : Int), w23.cell? ((a25.add (((IntKind.wrap .i64 (z22.1 - 1)).toNat) * 1)).add 0) = some (.int .i64 n26) ∧ bcase (decide (n26 > x1)) (next24 ((IntKind.wrap .i64 (z22.1 - 1)), ()) w23) (J21 (z22.1, ()) w23))) (J21 (z22.1, ()) w23)) (((n0 : Nat) : Int), ()) w) fun z27 w28 => JoinT (σ := Unit) (fun J29 => bcase (decide (z27.1 > 0)) (((0 : Int) ≤ (IntKind.wrap .i64 (z27.1 - 1)) ∧ (IntKind.wrap .i64 (z27.1 - 1)) < ((n0 : Nat) : Int) ∧ ∃ a30 : Addr, A0 = some a30 ∧ ∃ (n31 : Int), w28.cell? ((a30.add (((IntKind.wrap .i64 (z27.1 - 1)).toNat) * 1)).add 0) = some (.int .i64 n31) ∧ bcase (n31 == x1) (K (.slice A0 n0 c0) w28) (J29 () w28))) (J29 () w28)) fun z32 w33 => Run Tryz.prog (Instr.buildSlice 24 0 #[]) w33 fun v34 w35 => ∃ (A36 : Option Addr) (n37 c38 : Nat), v34 = .slice A36 n37 c38 ∧ ((0 : Int) ≤ z27.1 ∧ z27.1 ≤ ((c0 : Nat) : Int) ∧ Run Tryz.prog (Builtin.append_ #[24, 24] 24 #[(.slice A36 n37 c38), (.slice A0 (z27.1.toNat) c0)]) w35 fun v39 w40 => ∃ (A41 : Option Addr) (n42 c43 : Nat), v39 = .slice A41 n42 c43 ∧ Run Tryz.prog (Instr.buildSlice 24 1 #[(0, (.int .i64 x1))]) w40 fun v44 w45 => ∃ (A46 : Option Addr) (n47 c48 : Nat), v44 = .slice A46 n47 c48 ∧ Run Tryz.prog (Builtin.append_ #[24, 24] 24 #[(.slice A41 n42 c43), (.slice A46 n47 c48)]) w45 fun v49 w50 => ∃ (A51 : Option Addr) (n52 c53 : Nat), v49 = .slice A51 n52 c53 ∧ ((0 : Int) ≤ z27.1 ∧ z27.1 ≤ ((n0 : Nat) : Int) ∧ Run Tryz.prog (Builtin.append_ #[24, 24] 24 #[(.slice A51 n52 c53), (.slice (if c0 = (z27.1.toNat) then A0 else A0.map (·.add ((z27.1.toNat) * szOf Tryz.prog 3))) (n0 - (z27.1.toNat)) (c0 - (z27.1.toNat)))]) w50 fun v54 w55 => ∃ (A56 : Option Addr) (n57 c58 : Nat), v54 = .slice A56 n57 c58 ∧ K (.slice A56 n57 c58) w55))

def spec_l04Put.ann : Ann := (.seq .l (.seq .l (.cut [(5, .int .i64)] (.one (.loop [(5, .int .i64)] (.seq (.seq .l (.two .l .l)) (.one .l)))) (.cut [] (.seq .l (.two (.seq .l .l) .l)) (.seq .l (.seq .l (.seq .l .l)))))))

theorem spec_l04Put.start {A0 : Option Addr} {n0 : Nat} {c0 : Nat} {x1 : Int} {w : World} {K : Value → World → Prop} (h : spec_l04Put.vc A0 n0 c0 x1 w K) : Cll Tryz.prog 166 #[(.slice A0 n0 c0), (.int .i64 x1)] w K :=
  vcF_sound mixed (fn := Tryz.f166) (by kernel_rfl) (by kernel_rfl) (an := spec_l04Put.ann) (args := [(.slice A0 n0 c0), (.int .i64 x1)]) (Eq.mpr (by kernel_rfl) h)

theorem spec_l04Put.con {xs0 : List Int} {A0 : Option Addr} {c0 : Nat} {x1 : Int} {r : List Int} {w : World} (hp : M.spec_l04Put_pre xs0 x1) (hr : r = M.spec_l04Put xs0 x1) (O1 : Own el3 w 0 A0 c0 xs0) :
    Cll Tryz.prog 166 #[(.slice A0 xs0.length c0), (.int .i64 x1)] w (fun v_ w_ => ∃ (A0_ : Option Addr) (c0_ : Nat), v_ = (.slice A0_ r.length c0_) ∧ Own el3 w_ 0 A0_ c0_ r ∧ Mov w A0 A0_ ∧ Chg (InB A0) w w_) := by
  have H := wp.spec_l04Put.math xs0 x1 hp
  have hB := Chg.refl (InB A0) w
  refine spec_l04Put.start ?_
  unfold spec_l04Put.vc
  unfold wp.spec_l04Put at H
  obtain ⟨K83, hKK83, H⟩ := joinP_out H
  refine ⟨fun z_ w_ => ∃ (i21 : Int), z_ = (i21, ()) ∧ K83 (i21, ()) ∧ Chg (InB A0) w w_ ∧ Own el3 w_ 0 A0 c0 xs0, ?_, ?_⟩
  · obtain ⟨J27, ⟨m43, hJ42⟩, hS28⟩ := H
    refine ⟨fun m_ z_ w_ => ∃ (i25 : Int), z_ = (i25, ()) ∧ J27 m_ (i25, ()) ∧ Chg (InB A0) w w_ ∧ Own el3 w_ 0 A0 c0 xs0, ⟨m43, ((xs0.length : Nat) : Int), rfl, hJ42, hB, O1⟩, ?_⟩
    rintro m26 _ w30 ⟨i25, rfl, hJ44, hB, O1⟩
    have H := hS28 m26 _ hJ44
    clear hS28 hJ44
    try dsimp only at H ⊢
    refine bcase_mk (fun hc40 => ?_) (fun hc40 => ?_)
    · have H := (bcase_iff.1 H).1 hc40
      obtain ⟨⟨h0_34, h1_35⟩, H⟩ := H
      obtain ⟨a32, ha33, hat31⟩ := Row.at O1.row h0_34 h1_35
      refine ⟨h0_34, h1_35, a32, ha33, ?_⟩
      refine ⟨_, (hat31 0 _ rfl), ?_⟩
      refine bcase_mk (fun hc39 => ?_) (fun hc39 => ?_)
      · have H := (bcase_iff.1 H).1 hc39
        obtain ⟨m36, hm37, hJ38⟩ := H
        exact ⟨m36, hm37, (IntKind.wrap .i64 (i25 - 1)), rfl, hJ38, hB, O1⟩
      have H := (bcase_iff.1 H).2 hc39
      exact ⟨i25, rfl, H, hB, O1⟩
    have H := (bcase_iff.1 H).2 hc40
    exact ⟨i25, rfl, H, hB, O1⟩
  rintro _ w23 ⟨i21, rfl, H, hB, O1⟩
  have H := hKK83 _ H
  try dsimp only at H ⊢
  obtain ⟨K81, hKK81, H⟩ := joinP_out H
  refine ⟨fun z_ w_ => z_ = (()) ∧ K81 (()) ∧ Chg (InB A0) w w_ ∧ Own el3 w_ 0 A0 c0 xs0, ?_, ?_⟩
  · refine bcase_mk (fun hc54 => ?_) (fun hc54 => ?_)
    · have H := (bcase_iff.1 H).1 hc54
      obtain ⟨⟨h0_51, h1_52⟩, H⟩ := H
      obtain ⟨a49, ha50, hat48⟩ := Row.at O1.row h0_51 h1_52
      refine ⟨h0_51, h1_52, a49, ha50, ?_⟩
      refine ⟨_, (hat48 0 _ rfl), ?_⟩
      refine bcase_mk (fun hc53 => ?_) (fun hc53 => ?_)
      · have H := (bcase_iff.1 H).1 hc53
        obtain rfl := hr.trans H.symm
        exact ⟨A0, c0, rfl, (O1.mono (Nat.zero_le _)), (Mov.same _ _), hB⟩
      have H := (bcase_iff.1 H).2 hc53
      exact ⟨rfl, H, hB, O1⟩
    have H := (bcase_iff.1 H).2 hc54
    exact ⟨rfl, H, hB, O1⟩
  rintro _ w46 ⟨rfl, H, hB, O1⟩
  have H := hKK81 _ H
  try dsimp only at H ⊢
  refine buildOwn el3 ([] : List Int) (fun _ => by kernel_rfl) rfl (fun A55 w56 P2 e57 => ?_)
  have N1_2 := Own.apart2_new O1 P2 (Nat.le_refl _)
  have O1 := O1.ext e57
  have O2 := P2.mono hB.size
  have hB := hB.then e57
  obtain ⟨⟨hh58, hh59⟩, H⟩ := H
  refine and_assoc.1 ⟨⟨hh58, Int.le_trans hh59 (Int.ofNat_le.2 O1.le)⟩, ?_⟩
  have O3 := (O1.take (i21.toNat))
  obtain ⟨hl64, H⟩ := H
  refine appOwn slt24 slt24.under O2 O3.row hB.size (by first | rfl | omega | (simp; done) | (simp; omega)) (by first | rfl | omega | (simp; done) | (simp; omega)) hl64 (fun A60 c61 w62 P2 e63 => ?_)
  have N1_2_ := Apart2.app N1_2 e63 O1
  have O1 := O1.app e63 N1_2
  have N3_2_ := Apart2.app N1_2 e63 O3
  have O3 := O3.app e63 N1_2
  have N1_2 := N1_2_
  have N3_2 := N3_2_
  have hB := hB.app e63 (fun g h_ => Or.inl (O2.low g h_))
  have O2 := P2
  refine buildOwn el3 ([x1] : List Int) (fun _ => by kernel_rfl) rfl (fun A65 w66 P4 e67 => ?_)
  have N1_4 := Own.apart2_new O1 P4 (Nat.le_refl _)
  have N2_4 := Own.apart2_new O2 P4 (Nat.le_refl _)
  have N3_4 := Own.apart2_new O3 P4 (Nat.le_refl _)
  have O1 := O1.ext e67
  have O2 := O2.ext e67
  have O3 := O3.ext e67
  have O4 := P4.mono hB.size
  have hB := hB.then e67
  obtain ⟨hl72, H⟩ := H
  refine appOwn slt24 slt24.under O2 O4.row hB.size rfl (by first | rfl | omega | (simp; done) | (simp; omega)) hl72 (fun A68 c69 w70 P2 e71 => ?_)
  have N1_2_ := Apart2.app N1_2 e71 O1
  have O1 := O1.app e71 N1_2
  have N3_2_ := Apart2.app N3_2 e71 O3
  have O3 := O3.app e71 N3_2
  have N4_2_ := Apart2.app (N2_4).symm e71 O4
  have O4 := O4.app e71 (N2_4).symm
  have N1_2 := N1_2_
  have N3_2 := N3_2_
  have N4_2 := N4_2_
  have hB := hB.app e71 (fun g h_ => Or.inl (O2.low g h_))
  have O2 := P2
  obtain ⟨⟨hl73, hl74⟩, H⟩ := H
  refine and_assoc.1 ⟨⟨hl73, hl74⟩, ?_⟩
  have O5 := (O1.drop (l := (i21.toNat)) (by first | omega | (simp; done) | (simp; omega)))
  obtain ⟨hl79, H⟩ := H
  refine appOwn slt24 slt24.under O2 O5.row hB.size rfl (by first | rfl | omega | (simp; done) | (simp; omega)) hl79 (fun A75 c76 w77 P2 e78 => ?_)
  have N1_2_ := Apart2.app N1_2 e78 O1
  have O1 := O1.app e78 N1_2
  have N3_2_ := Apart2.app N3_2 e78 O3
  have O3 := O3.app e78 N3_2
  have N5_2_ := Apart2.app (cutApart2 N1_2) e78 O5
  have O5 := O5.app e78 (cutApart2 N1_2)
  have N1_2 := N1_2_
  have N3_2 := N3_2_
  have N5_2 := N5_2_
  have hB := hB.app e78 (fun g h_ => Or.inl (O2.low g h_))
  have O2 := P2
  obtain rfl := hr.trans H.symm
  exact ⟨A75, c76, rfl, (O2.mono (Nat.zero_le _)), (Mov.new O2), hB⟩
def spec_l07Next.vc (A0 : Option Addr) (n0 : Nat) (c0 : Nat) (x1 : Int) (w : World) (K : Value → World → Prop) : Prop :=
  bcase (x1 == ((n0 : Nat) : Int)) (Run Tryz.prog (Instr.buildSlice 24 0 #[]) w fun v21 w22 => ∃ (A23 : Option Addr) (n24 c25 : Nat), v21 = .slice A23 n24 c25 ∧ K (.slice A23 n24 c25) w22) (((0 : Int) ≤ x1 ∧ x1 < ((n0 : Nat) : Int) ∧ ∃ a26 : Addr, A0 = some a26 ∧ ∃ (n27 : Int), w.cell? (((a26.add ((x1.toNat) * 4)).add 0).add 0) = some (.int .i64 n27) ∧ bcase (n27 == 12) (Run Tryz.prog (Instr.buildSlice 24 1 #[(0, (.int .i64 ((n0 : Nat) : Int)))]) w fun v28 w29 => ∃ (A30 : Option Addr) (n31 c32 : Nat), v28 = .slice A30 n31 c32 ∧ K (.slice A30 n31 c32) w29) (bcase (n27 == 11) (((0 : Int) ≤ x1 ∧ x1 < ((n0 : Nat) : Int) ∧ ∃ a33 : Addr, A0 = some a33 ∧ ∃ (n34 : Int), w.cell? (((a33.add ((x1.toNat) * 4)).add 2).add 0) = some (.int .i64 n34) ∧ Run Tryz.prog (Instr.buildSlice 24 1 #[(0, (.int .i64 n34))]) w fun v35 w36 => ∃ (A37 : Option Addr) (n38 c39 : Nat), v35 = .slice A37 n38 c39 ∧ K (.slice A37 n38 c39) w36)) (bcase (n27 == 10) (Run Tryz.prog (Instr.buildSlice 24 1 #[(0, (.int .i64 (IntKind.wrap .i64 (x1 + 1))))]) w fun v40 w41 => ∃ (A42 : Option Addr) (n43 c44 : Nat), v40 = .slice A42 n43 c44 ∧ ((0 : Int) ≤ x1 ∧ x1 < ((n0 : Nat) : Int) ∧ ∃ a45 : Addr, A0 = some a45 ∧ ∃ (n46 : Int), w41.cell? (((a45.add ((x1.toNat) * 4)).add 2).add 0) = some (.int .i64 n46) ∧ Cll Tryz.prog 166 #[(.slice A42 n43 c44), (.int .i64 n46)] w41 fun v47 w48 => (∃ (A49 : Option Addr) (n50 : Nat) (c51 : Nat), v47 = (.slice A49 n50 c51) ∧ K (.slice A49 n50 c51) w48))) (Run Tryz.prog (Instr.buildSlice 24 1 #[(0, (.int .i64 (IntKind.wrap .i64 (x1 + 1))))]) w fun v52 w53 => ∃ (A54 : Option Addr) (n55 c56 : Nat), v52 = .slice A54 n55 c56 ∧ K (.slice A54 n55 c56) w53)))))

def spec_l07Next.ann : Ann := (.seq .l (.seq (.seq .l (.two (.seq .l .l) .l)) (.seq (.seq .l (.one (.seq .l (.two (.seq .l .l) (.seq .l (.two (.seq .l .l) (.seq .l (.two (.seq .l .l) .l)))))))) (.seq .l .l))))

theorem spec_l07Next.start {A0 : Option Addr} {n0 : Nat} {c0 : Nat} {x1 : Int} {w : World} {K : Value → World → Prop} (h : spec_l07Next.vc A0 n0 c0 x1 w K) : Cll Tryz.prog 275 #[(.slice A0 n0 c0), (.int .i64 x1)] w K :=
  vcF_sound mixed (fn := Tryz.f275) (by kernel_rfl) (by kernel_rfl) (an := spec_l07Next.ann) (args := [(.slice A0 n0 c0), (.int .i64 x1)]) (Eq.mpr (by kernel_rfl) h)

theorem spec_l07Next.con {xs0 : List D.Ins} {A0 : Option Addr} {c0 : Nat} {x1 : Int} {r : List Int} {w : World} (hp : M.spec_l07Next_pre xs0 x1) (hr : r = M.spec_l07Next xs0 x1) (R0 : Row el89 w A0 xs0) (hc0 : xs0.length ≤ c0) :
    Cll Tryz.prog 275 #[(.slice A0 xs0.length c0), (.int .i64 x1)] w (fun v_ w_ => ∃ (A0_ : Option Addr) (c0_ : Nat), v_ = (.slice A0_ r.length c0_) ∧ Own el3 w_ w.heap.size A0_ c0_ r ∧ Ext w w_) := by
  have H := wp.spec_l07Next.math xs0 x1 hp
  have hB := Ext.refl w
  refine spec_l07Next.start ?_
  unfold spec_l07Next.vc
  unfold wp.spec_l07Next at H
  refine bcase_mk (fun hc61 => ?_) (fun hc61 => ?_)
  · have H := (bcase_iff.1 H).1 hc61
    refine buildOwn el3 ([] : List Int) (fun _ => by kernel_rfl) rfl (fun A21 w22 P2 e23 => ?_)
    have O2 := P2.mono hB.size
    have hB := ethen hB e23
    obtain rfl := hr.trans H.symm
    exact ⟨A21, 0, (by first | rfl | (simp; done) | (simp; omega) | (simp [*]; done)), (by first | exact O2 | (simp only [List.length_set]; exact O2)), hB⟩
  have H := (bcase_iff.1 H).2 hc61
  obtain ⟨⟨h0_27, h1_28⟩, H⟩ := H
  obtain ⟨a25, ha26, hat24⟩ := Row.at (R0.ext hB) h0_27 h1_28
  refine ⟨h0_27, h1_28, a25, ha26, ?_⟩
  refine ⟨_, (hat24 0 _ rfl), ?_⟩
  refine bcase_mk (fun hc60 => ?_) (fun hc60 => ?_)
  · have H := (bcase_iff.1 H).1 hc60
    refine buildOwn el3 ([((xs0.length : Nat) : Int)] : List Int) (fun _ => by kernel_rfl) rfl (fun A29 w30 P3 e31 => ?_)
    have O3 := P3.mono hB.size
    have hB := ethen hB e31
    obtain rfl := hr.trans H.symm
    exact ⟨A29, 1, (by first | rfl | (simp; done) | (simp; omega) | (simp [*]; done)), (by first | exact O3 | (simp only [List.length_set]; exact O3)), hB⟩
  have H := (bcase_iff.1 H).2 hc60
  refine bcase_mk (fun hc59 => ?_) (fun hc59 => ?_)
  · have H := (bcase_iff.1 H).1 hc59
    obtain ⟨⟨h0_35, h1_36⟩, H⟩ := H
    obtain ⟨a33, ha34, hat32⟩ := Row.at (R0.ext hB) h0_35 h1_36
    refine ⟨h0_35, h1_36, a33, ha34, ?_⟩
    refine ⟨_, (hat32 2 _ rfl), ?_⟩
    refine buildOwn el3 ([(rd xs0 x1).B] : List Int) (fun _ => by kernel_rfl) rfl (fun A37 w38 P4 e39 => ?_)
    have O4 := P4.mono hB.size
    have hB := ethen hB e39
    obtain rfl := hr.trans H.symm
    exact ⟨A37, 1, (by first | rfl | (simp; done) | (simp; omega) | (simp [*]; done)), (by first | exact O4 | (simp only [List.length_set]; exact O4)), hB⟩
  have H := (bcase_iff.1 H).2 hc59
  refine bcase_mk (fun hc58 => ?_) (fun hc58 => ?_)
  · have H := (bcase_iff.1 H).1 hc58
    refine buildOwn el3 ([(IntKind.wrap .i64 (x1 + 1))] : List Int) (fun _ => by kernel_rfl) rfl (fun A40 w41 P5 e42 => ?_)
    have O5 := P5.mono hB.size
    have hB := ethen hB e42
    obtain ⟨⟨h0_46, h1_47⟩, H⟩ := H
    obtain ⟨a44, ha45, hat43⟩ := Row.at (R0.ext hB) h0_46 h1_47
    refine ⟨h0_46, h1_47, a44, ha45, ?_⟩
    refine ⟨_, (hat43 2 _ rfl), ?_⟩
    obtain ⟨hp50, H⟩ := H
    obtain ⟨r48, hr49⟩ : ∃ r_, r_ = M.spec_l04Put ([(IntKind.wrap .i64 (x1 + 1))] : List Int) ((rd xs0 x1).B) := ⟨_, rfl⟩
    have H := H r48 hr49
    refine (cllArgs (by first | (simp only [List.length_set]; done) | (simp; done)) (spec_l04Put.con hp50 hr49 (O5.mono (Nat.zero_le _)))).mono ?_
    rintro _ w51 ⟨A53, c54, rfl, P6, Mv6, e52⟩
    have Lw6 := Mv6.low O5.low hB.size
    have hB := Chg.ext hB e52 O5.low
    have O6 := P6.lift Lw6
    refine ⟨A53, r48.length, c54, rfl, ?_⟩
    obtain rfl := hr.trans H.symm
    exact ⟨A53, c54, rfl, O6, hB⟩
  have H := (bcase_iff.1 H).2 hc58
  refine buildOwn el3 ([(IntKind.wrap .i64 (x1 + 1))] : List Int) (fun _ => by kernel_rfl) rfl (fun A55 w56 P7 e57 => ?_)
  have O7 := P7.mono hB.size
  have hB := ethen hB e57
  obtain rfl := hr.trans H.symm
  exact ⟨A55, 1, (by first | rfl | (simp; done) | (simp; omega) | (simp [*]; done)), (by first | exact O7 | (simp only [List.length_set]; exact O7)), hB⟩
def spec_l07Reach.vc (A0 : Option Addr) (n0 : Nat) (c0 : Nat) (A1 : Option Addr) (n1 : Nat) (c1 : Nat) (w : World) (K : Value → World → Prop) : Prop :=
  vcMake Tryz.prog 195 (IntKind.wrap .i64 (((n0 : Nat) : Int) + 1)) (IntKind.wrap .i64 (((n0 : Nat) : Int) + 1)) w fun g21 w22 => Run Tryz.prog (Instr.buildSlice 24 0 #[]) w22 fun v23 w24 => ∃ (A25 : Option Addr) (n26 c27 : Nat), v23 = .slice A25 n26 c27 ∧ Run Tryz.prog (Builtin.append_ #[24, 24] 24 #[(.slice A25 n26 c27), (.slice A1 n1 c1)]) w24 fun v28 w29 => ∃ (A30 : Option Addr) (n31 c32 : Nat), v28 = .slice A30 n31 c32 ∧ LoopT (σ := (Option Addr × Nat × Nat) × Unit) (fun z33 w34 next35 => bcase (decide (((z33.1.2.1 : Nat) : Int) > 0)) (((0 : Int) ≤ 0 ∧ 0 < ((z33.1.2.1 : Nat) : Int) ∧ ∃ a36 : Addr, z33.1.1 = some a36 ∧ ∃ (n37 : Int), w34.cell? ((a36.add (((0 : Int).toNat) * 1)).add 0) = some (.int .i64 n37) ∧ ((0 : Int) ≤ 1 ∧ 1 ≤ ((z33.1.2.1 : Nat) : Int) ∧ ((0 : Int) ≤ n37 ∧ n37 < ((((IntKind.wrap .i64 (((n0 : Nat) : Int) + 1)).toNat) : Nat) : Int) ∧ ∃ a38 : Addr, (some (⟨g21, 0, none⟩ : Addr)) = some a38 ∧ ∃ (b39 : Bool), w34.cell? ((a38.add ((n37.toNat) * 1)).add 0) = some (.bool b39) ∧ bcase b39 (next35 (((if z33.1.2.2 = ((1 : Int).toNat) then z33.1.1 else z33.1.1.map (·.add (((1 : Int).toNat) * szOf Tryz.prog 3))), (z33.1.2.1 - ((1 : Int).toNat)), (z33.1.2.2 - ((1 : Int).toNat))), ()) w34) (((0 : Int) ≤ n37 ∧ n37 < ((((IntKind.wrap .i64 (((n0 : Nat) : Int) + 1)).toNat) : Nat) : Int) ∧ ∃ a40 : Addr, (some (⟨g21, 0, none⟩ : Addr)) = some a40 ∧ stCells (a40.add ((n37.toNat) * 1)) [(.bool true)] 0 w34 fun w41 => Cll Tryz.prog 275 #[(.slice A0 n0 c0), (.int .i64 n37)] w41 fun v42 w43 => (∃ (A44 : Option Addr) (n45 : Nat) (c46 : Nat), v42 = (.slice A44 n45 c46) ∧ Run Tryz.prog (Builtin.append_ #[24, 24] 24 #[(.slice (if z33.1.2.2 = ((1 : Int).toNat) then z33.1.1 else z33.1.1.map (·.add (((1 : Int).toNat) * szOf Tryz.prog 3))) (z33.1.2.1 - ((1 : Int).toNat)) (z33.1.2.2 - ((1 : Int).toNat))), (.slice A44 n45 c46)]) w43 fun v47 w48 => ∃ (A49 : Option Addr) (n50 c51 : Nat), v47 = .slice A49 n50 c51 ∧ next35 ((A49, n50, c51), ()) w48))))))) (K (.slice (some (⟨g21, 0, none⟩ : Addr)) ((IntKind.wrap .i64 (((n0 : Nat) : Int) + 1)).toNat) ((IntKind.wrap .i64 (((n0 : Nat) : Int) + 1)).toNat)) w34)) ((A30, n31, c32), ()) w29

def spec_l07Reach.ann : Ann := (.seq .l (.seq .l (.seq .l (.seq (.one (.loop [(6, .sl)] (.seq (.seq .l (.two .l .l)) (.one (.seq .l (.seq .l (.seq (.seq .l (.two .l .l)) (.seq .l .l)))))))) (.seq .l .l)))))

theorem spec_l07Reach.start {A0 : Option Addr} {n0 : Nat} {c0 : Nat} {A1 : Option Addr} {n1 : Nat} {c1 : Nat} {w : World} {K : Value → World → Prop} (h : spec_l07Reach.vc A0 n0 c0 A1 n1 c1 w K) : Cll Tryz.prog 236 #[(.slice A0 n0 c0), (.slice A1 n1 c1)] w K :=
  vcF_sound mixed (fn := Tryz.f236) (by kernel_rfl) (by kernel_rfl) (an := spec_l07Reach.ann) (args := [(.slice A0 n0 c0), (.slice A1 n1 c1)]) (Eq.mpr (by kernel_rfl) h)

theorem spec_l07Reach.con {xs0 : List D.Ins} {A0 : Option Addr} {c0 : Nat} {xs1 : List Int} {A1 : Option Addr} {c1 : Nat} {r : List Bool} {w : World} (hp : M.spec_l07Reach_pre xs0 xs1) (hr : r = M.spec_l07Reach xs0 xs1) (R0 : Row el89 w A0 xs0) (hc0 : xs0.length ≤ c0) (R1 : Row el3 w A1 xs1) (hc1 : xs1.length ≤ c1) :
    Cll Tryz.prog 236 #[(.slice A0 xs0.length c0), (.slice A1 xs1.length c1)] w (fun v_ w_ => ∃ (A0_ : Option Addr) (c0_ : Nat), v_ = (.slice A0_ r.length c0_) ∧ Own el4 w_ w.heap.size A0_ c0_ r ∧ Ext w w_) := by
  have H := wp.spec_l07Reach.math xs0 xs1 hp
  have hB := Ext.refl w
  refine spec_l07Reach.start ?_
  unfold spec_l07Reach.vc
  unfold wp.spec_l07Reach at H
  obtain ⟨⟨h0_24, h1_25⟩, H⟩ := H
  refine makeOwn slt195 h0_24 h1_25 (fun g21 w22 P3 e23 => ?_)
  have O3 := P3.mono hB.size
  have hB := ethen hB e23
  refine buildOwn el3 ([] : List Int) (fun _ => by kernel_rfl) rfl (fun A26 w27 P4 e28 => ?_)
  have N3_4 := Own.apart2_new O3 P4 (Nat.le_refl _)
  have O3 := O3.ext e28
  have O4 := P4.mono hB.size
  have hB := ethen hB e28
  obtain ⟨hl33, H⟩ := H
  refine appOwn slt24 slt24.under O4 (R1.ext hB) hB.size (by first | rfl | omega | (simp; done) | (simp; omega)) rfl hl33 (fun A29 c30 w31 P4 e32 => ?_)
  have N3_4_ := Apart2.app N3_4 e32 O3
  have O3 := O3.app e32 N3_4
  have N3_4 := N3_4_
  have hB := eapp hB e32 O4
  have O4 := P4
  obtain ⟨J83, ⟨m129, hJ128⟩, hS84⟩ := H
  refine ⟨fun m_ z_ w_ => ∃ (xs77 : List Int) (xs80 : List Bool) (A78 : Option Addr) (c79 : Nat), z_ = ((A78, xs77.length, c79), ()) ∧ J83 m_ (xs77, xs80, ()) ∧ Ext w w_ ∧ Own el3 w_ w.heap.size A78 c79 xs77 ∧ Own el4 w_ w.heap.size (some (⟨g21, 0, none⟩ : Addr)) ((IntKind.wrap .i64 (((xs0.length : Nat) : Int) + 1)).toNat) xs80 ∧ ((IntKind.wrap .i64 (((xs0.length : Nat) : Int) + 1)).toNat) = xs80.length, ⟨m129, (([] : List Int) ++ xs1), (List.replicate ((IntKind.wrap .i64 (((xs0.length : Nat) : Int) + 1)).toNat) (default : Bool)), A29, c30, rfl, hJ128, hB, O4, O3, (by first | rfl | assumption | omega | (simp; done) | (simp; omega) | (simp; assumption))⟩, ?_⟩
  rintro m82 _ w86 ⟨xs77, xs80, A78, c79, rfl, hJ130, hB, O8, O3, hn81⟩
  have H := hS84 m82 _ hJ130
  clear hS84 hJ130
  try dsimp only at H ⊢
  refine bcase_mk (fun hc126 => ?_) (fun hc126 => ?_)
  · have H := (bcase_iff.1 H).1 hc126
    obtain ⟨⟨h0_90, h1_91⟩, H⟩ := H
    obtain ⟨a88, ha89, hat87⟩ := Row.at O8.row h0_90 h1_91
    refine ⟨h0_90, h1_91, a88, ha89, ?_⟩
    refine ⟨_, (hat87 0 _ rfl), ?_⟩
    obtain ⟨⟨hl92, hl93⟩, H⟩ := H
    refine and_assoc.1 ⟨⟨hl92, hl93⟩, ?_⟩
    rw [show (xs77.length - ((1 : Int).toNat)) = ((List.drop ((1 : Int).toNat) xs77)).length from by first | rfl | (simp; done) | (simp; omega)]
    have O9 := (O8.drop (l := ((1 : Int).toNat)) (by first | omega | (simp; done) | (simp; omega)))
    obtain ⟨⟨h0_97, h1_98⟩, H⟩ := H
    obtain ⟨a95, ha96, hat94⟩ := Row.at O3.row h0_97 h1_98
    refine ⟨h0_97, (by first | exact h1_98 | omega | (simp at h1_98 ⊢; omega)), a95, ha96, ?_⟩
    refine ⟨_, (hat94 0 _ rfl), ?_⟩
    refine bcase_mk (fun hc125 => ?_) (fun hc125 => ?_)
    · have H := (bcase_iff.1 H).1 hc125
      obtain ⟨m99, hm100, hJ101⟩ := H
      exact ⟨m99, hm100, (List.drop ((1 : Int).toNat) xs77), xs80, (cutA c79 ((1 : Int).toNat) A78 1), (c79 - ((1 : Int).toNat)), rfl, hJ101, hB, O9, O3, (by first | rfl | assumption | omega | (simp; done) | (simp; omega) | (simp; assumption))⟩
    have H := (bcase_iff.1 H).2 hc125
    obtain ⟨⟨h0_105, h1_106⟩, H⟩ := H
    obtain ⟨a103, ha104, hat102⟩ := Row.at O3.row h0_105 h1_106
    refine ⟨h0_105, (by first | exact h1_106 | omega | (simp at h1_106 ⊢; omega)), a103, ha104, ?_⟩
    refine Own.storeAt O3 ha104 h0_105 h1_106 0 [(.bool true)] true rfl (Nat.le_of_ble_eq_true rfl) rfl (fun w107 P3 e108 hb109 => ?_)
    have O8_ := O8.chg e108 (((Own.apart2_type O8 O3 (by decide))).left ha104)
    have O9_ := O9.chg e108 (((cutApart2 (Own.apart2_type O8 O3 (by decide)))).left ha104)
    have O8 := O8_
    have O9 := O9_
    have hB := echg hB e108 hb109
    have O3 := P3
    obtain ⟨hp112, H⟩ := H
    obtain ⟨r110, hr111⟩ : ∃ r_, r_ = M.spec_l07Next xs0 (rd xs77 0) := ⟨_, rfl⟩
    have H := H r110 hr111
    refine (spec_l07Next.con hp112 hr111 (R0.ext hB) hc0).mono ?_
    rintro _ w113 ⟨A115, c116, rfl, P10, e114⟩
    have N3_10 := Own.apart2_new O3 P10 (Nat.le_refl _)
    have N8_10 := Own.apart2_new O8 P10 (Nat.le_refl _)
    have N9_10 := Own.apart2_new O9 P10 (Nat.le_refl _)
    have O3 := O3.ext e114
    have O8 := O8.ext e114
    have O9 := O9.ext e114
    have O10 := P10.mono hB.size
    have hB := ethen hB e114
    refine ⟨A115, r110.length, c116, rfl, ?_⟩
    obtain ⟨hl121, H⟩ := H
    refine appOwn slt24 slt24.under O9 O10.row hB.size rfl rfl hl121 (fun A117 c118 w119 P9 e120 => ?_)
    have N3_9_ := Apart2.app (cutApart2 (Own.apart2_type O3 O8 (by decide)).symm).symm e120 O3
    have O3 := O3.app e120 (cutApart2 (Own.apart2_type O3 O8 (by decide)).symm).symm
    have N10_9_ := Apart2.app (N9_10).symm e120 O10
    have O10 := O10.app e120 (N9_10).symm
    have N3_9 := N3_9_
    have N10_9 := N10_9_
    have hB := eapp hB e120 O9
    have O9 := P9
    obtain ⟨m122, hm123, hJ124⟩ := H
    exact ⟨m122, hm123, ((List.drop ((1 : Int).toNat) xs77) ++ r110), (List.set xs80 ((rd xs77 0).toNat) true), A117, c118, rfl, hJ124, hB, O9, O3, (by first | rfl | assumption | omega | (simp; done) | (simp; omega) | (simp; assumption))⟩
  have H := (bcase_iff.1 H).2 hc126
  obtain rfl := hr.trans H.symm
  exact ⟨(some (⟨g21, 0, none⟩ : Addr)), ((IntKind.wrap .i64 (((xs0.length : Nat) : Int) + 1)).toNat), (by first | rfl | (rw [hn81]; done) | (simp; done) | (simp; omega) | (simp [*]; done)), (by first | exact O3 | (simp only [List.length_set]; exact O3) | (rw [← hn81]; exact O3)), hB⟩
def spec_ReachesExit.vc (A0 : Option Addr) (n0 : Nat) (c0 : Nat) (x1 : Int) (w : World) (K : Value → World → Prop) : Prop :=
  Cll Tryz.prog 235 #[(.slice A0 n0 c0), (.int .i64 x1)] w fun v21 w22 => (∃ (b23 : Bool), v21 = (.bool b23) ∧ bcase b23 (Run Tryz.prog (Instr.buildSlice 24 1 #[(0, (.int .i64 x1))]) w22 fun v24 w25 => ∃ (A26 : Option Addr) (n27 c28 : Nat), v24 = .slice A26 n27 c28 ∧ Cll Tryz.prog 236 #[(.slice A0 n0 c0), (.slice A26 n27 c28)] w25 fun v29 w30 => (∃ (A31 : Option Addr) (n32 : Nat) (c33 : Nat), v29 = (.slice A31 n32 c33) ∧ ((0 : Int) ≤ ((n0 : Nat) : Int) ∧ ((n0 : Nat) : Int) < ((n32 : Nat) : Int) ∧ ∃ a34 : Addr, A31 = some a34 ∧ ∃ (b35 : Bool), w30.cell? ((a34.add ((((n0 : Nat) : Int).toNat) * 1)).add 0) = some (.bool b35) ∧ K (.bool b35) w30))) (K (.bool false) w22))

def spec_ReachesExit.ann : Ann := (.seq .l (.seq .l .l))

theorem spec_ReachesExit.start {A0 : Option Addr} {n0 : Nat} {c0 : Nat} {x1 : Int} {w : World} {K : Value → World → Prop} (h : spec_ReachesExit.vc A0 n0 c0 x1 w K) : Cll Tryz.prog 203 #[(.slice A0 n0 c0), (.int .i64 x1)] w K :=
  vcF_sound mixed (fn := Tryz.f203) (by kernel_rfl) (by kernel_rfl) (an := spec_ReachesExit.ann) (args := [(.slice A0 n0 c0), (.int .i64 x1)]) (Eq.mpr (by kernel_rfl) h)

theorem spec_ReachesExit.con {xs0 : List D.Ins} {A0 : Option Addr} {c0 : Nat} {x1 : Int} {r : Bool} {w : World} (hp : M.spec_ReachesExit_pre xs0 x1) (hr : r = M.spec_ReachesExit xs0 x1) (R0 : Row el89 w A0 xs0) (hc0 : xs0.length ≤ c0) :
    Cll Tryz.prog 203 #[(.slice A0 xs0.length c0), (.int .i64 x1)] w (fun v_ w_ => v_ = (.bool r) ∧ Ext w w_) := by
  have H := wp.spec_ReachesExit.math xs0 x1 hp
  have hB := Ext.refl w
  refine spec_ReachesExit.start ?_
  unfold spec_ReachesExit.vc
  unfold wp.spec_ReachesExit at H
  obtain ⟨hp23, H⟩ := H
  obtain ⟨r21, hr22⟩ : ∃ r_, r_ = M.spec_l07Ok xs0 x1 := ⟨_, rfl⟩
  have H := H r21 hr22
  refine (spec_l07Ok.con hp23 hr22 (R0.ext hB) hc0).mono ?_
  rintro _ w24 ⟨rfl, e25⟩
  have hB := ethen hB e25
  refine ⟨r21, rfl, ?_⟩
  refine bcase_mk (fun hc41 => ?_) (fun hc41 => ?_)
  · have H := (bcase_iff.1 H).1 hc41
    refine buildOwn el3 ([x1] : List Int) (fun _ => by kernel_rfl) rfl (fun A26 w27 P2 e28 => ?_)
    have O2 := P2.mono hB.size
    have hB := ethen hB e28
    obtain ⟨hp31, H⟩ := H
    obtain ⟨r29, hr30⟩ : ∃ r_, r_ = M.spec_l07Reach xs0 ([x1] : List Int) := ⟨_, rfl⟩
    have H := H r29 hr30
    refine (cllArgs (by first | (simp only [List.length_set]; done) | (simp; done)) (spec_l07Reach.con hp31 hr30 (R0.ext hB) hc0 O2.row O2.le)).mono ?_
    rintro _ w32 ⟨A34, c35, rfl, P3, e33⟩
    have N2_3 := Own.apart2_new O2 P3 (Nat.le_refl _)
    have O2 := O2.ext e33
    have O3 := P3.mono hB.size
    have hB := ethen hB e33
    refine ⟨A34, r29.length, c35, rfl, ?_⟩
    obtain ⟨⟨h0_39, h1_40⟩, H⟩ := H
    obtain ⟨a37, ha38, hat36⟩ := Row.at O3.row h0_39 h1_40
    refine ⟨h0_39, h1_40, a37, ha38, ?_⟩
    refine ⟨_, (hat36 0 _ rfl), ?_⟩
    obtain rfl := hr.trans H.symm
    exact ⟨rfl, hB⟩
  have H := (bcase_iff.1 H).2 hc41
  obtain rfl := hr.trans H.symm
  exact ⟨rfl, hB⟩
def spec_l08After.vc (A0 : Option Addr) (n0 : Nat) (c0 : Nat) (x1 : Int) (x2 : Int) (w : World) (K : Value → World → Prop) : Prop :=
  bcase (x1 == x2) (K (.bool true) w) (vcMake Tryz.prog 195 (IntKind.wrap .i64 (((n0 : Nat) : Int) + 1)) (IntKind.wrap .i64 (((n0 : Nat) : Int) + 1)) w fun g21 w22 => Run Tryz.prog (Instr.buildSlice 24 1 #[(0, (.int .i64 x1))]) w22 fun v23 w24 => ∃ (A25 : Option Addr) (n26 c27 : Nat), v23 = .slice A25 n26 c27 ∧ LoopT (σ := (Option Addr × Nat × Nat) × Unit) (fun z28 w29 next30 => bcase (decide (((z28.1.2.1 : Nat) : Int) > 0)) (((0 : Int) ≤ 0 ∧ 0 < ((z28.1.2.1 : Nat) : Int) ∧ ∃ a31 : Addr, z28.1.1 = some a31 ∧ ∃ (n32 : Int), w29.cell? ((a31.add (((0 : Int).toNat) * 1)).add 0) = some (.int .i64 n32) ∧ ((0 : Int) ≤ 1 ∧ 1 ≤ ((z28.1.2.1 : Nat) : Int) ∧ ((0 : Int) ≤ n32 ∧ n32 < ((((IntKind.wrap .i64 (((n0 : Nat) : Int) + 1)).toNat) : Nat) : Int) ∧ ∃ a34 : Addr, (some (⟨g21, 0, none⟩ : Addr)) = some a34 ∧ ∃ (b35 : Bool), w29.cell? ((a34.add ((n32.toNat) * 1)).add 0) = some (.bool b35) ∧ bcase b35 (next30 (((if z28.1.2.2 = ((1 : Int).toNat) then z28.1.1 else z28.1.1.map (·.add (((1 : Int).toNat) * szOf Tryz.prog 3))), (z28.1.2.1 - ((1 : Int).toNat)), (z28.1.2.2 - ((1 : Int).toNat))), ()) w29) (bcase (n32 == x2) (next30 (((if z28.1.2.2 = ((1 : Int).toNat) then z28.1.1 else z28.1.1.map (·.add (((1 : Int).toNat) * szOf Tryz.prog 3))), (z28.1.2.1 - ((1 : Int).toNat)), (z28.1.2.2 - ((1 : Int).toNat))), ()) w29) (bcase (n32 == ((n0 : Nat) : Int)) (K (.bool false) w29) (((0 : Int) ≤ n32 ∧ n32 < ((((IntKind.wrap .i64 (((n0 : Nat) : Int) + 1)).toNat) : Nat) : Int) ∧ ∃ a36 : Addr, (some (⟨g21, 0, none⟩ : Addr)) = some a36 ∧ stCells (a36.add ((n32.toNat) * 1)) [(.bool true)] 0 w29 fun w37 => Cll Tryz.prog 275 #[(.slice A0 n0 c0), (.int .i64 n32)] w37 fun v38 w39 => (∃ (A40 : Option Addr) (n41 : Nat) (c42 : Nat), v38 = (.slice A40 n41 c42) ∧ Run Tryz.prog (Builtin.append_ #[24, 24] 24 #[(.slice (if z28.1.2.2 = ((1 : Int).toNat) then z28.1.1 else z28.1.1.map (·.add (((1 : Int).toNat) * szOf Tryz.prog 3))) (z28.1.2.1 - ((1 : Int).toNat)) (z28.1.2.2 - ((1 : Int).toNat))), (.slice A40 n41 c42)]) w39 fun v43 w44 => ∃ (A45 : Option Addr) (n46 c47 : Nat), v43 = .slice A45 n46 c47 ∧ next30 ((A45, n46, c47), ()) w44))))))))) (K (.bool true) w29)) ((A25, n26, c27), ()) w24)

def spec_l08After.ann : Ann := (.seq .l (.seq (.seq .l (.two (.seq .l .l) .l)) (.seq .l (.seq .l (.seq (.one (.loop [(8, .sl)] (.seq (.seq .l (.two .l .l)) (.one (.seq .l (.seq .l (.seq (.seq .l (.two .l .l)) (.seq (.seq .l (.two (.seq .l .l) .l)) (.seq .l .l))))))))) (.seq .l .l))))))

theorem spec_l08After.start {A0 : Option Addr} {n0 : Nat} {c0 : Nat} {x1 : Int} {x2 : Int} {w : World} {K : Value → World → Prop} (h : spec_l08After.vc A0 n0 c0 x1 x2 w K) : Cll Tryz.prog 276 #[(.slice A0 n0 c0), (.int .i64 x1), (.int .i64 x2)] w K :=
  vcF_sound mixed (fn := Tryz.f276) (by kernel_rfl) (by kernel_rfl) (an := spec_l08After.ann) (args := [(.slice A0 n0 c0), (.int .i64 x1), (.int .i64 x2)]) (Eq.mpr (by kernel_rfl) h)

theorem spec_l08After.con {xs0 : List D.Ins} {A0 : Option Addr} {c0 : Nat} {x1 : Int} {x2 : Int} {r : Bool} {w : World} (hp : M.spec_l08After_pre xs0 x1 x2) (hr : r = M.spec_l08After xs0 x1 x2) (R0 : Row el89 w A0 xs0) (hc0 : xs0.length ≤ c0) :
    Cll Tryz.prog 276 #[(.slice A0 xs0.length c0), (.int .i64 x1), (.int .i64 x2)] w (fun v_ w_ => v_ = (.bool r) ∧ Ext w w_) := by
  have H := wp.spec_l08After.math xs0 x1 x2 hp
  have hB := Ext.refl w
  refine spec_l08After.start ?_
  unfold spec_l08After.vc
  unfold wp.spec_l08After at H
  refine bcase_mk (fun hc134 => ?_) (fun hc134 => ?_)
  · have H := (bcase_iff.1 H).1 hc134
    obtain rfl := hr.trans H.symm
    exact ⟨rfl, hB⟩
  have H := (bcase_iff.1 H).2 hc134
  obtain ⟨⟨h0_24, h1_25⟩, H⟩ := H
  refine makeOwn slt195 h0_24 h1_25 (fun g21 w22 P2 e23 => ?_)
  have O2 := P2.mono hB.size
  have hB := ethen hB e23
  refine buildOwn el3 ([x1] : List Int) (fun _ => by kernel_rfl) rfl (fun A26 w27 P3 e28 => ?_)
  have N2_3 := Own.apart2_new O2 P3 (Nat.le_refl _)
  have O2 := O2.ext e28
  have O3 := P3.mono hB.size
  have hB := ethen hB e28
  obtain ⟨J81, ⟨m132, hJ131⟩, hS82⟩ := H
  refine ⟨fun m_ z_ w_ => ∃ (xs75 : List Int) (xs78 : List Bool) (A76 : Option Addr) (c77 : Nat), z_ = ((A76, xs75.length, c77), ()) ∧ J81 m_ (xs75, xs78, ()) ∧ Ext w w_ ∧ Own el3 w_ w.heap.size A76 c77 xs75 ∧ Own el4 w_ w.heap.size (some (⟨g21, 0, none⟩ : Addr)) ((IntKind.wrap .i64 (((xs0.length : Nat) : Int) + 1)).toNat) xs78 ∧ ((IntKind.wrap .i64 (((xs0.length : Nat) : Int) + 1)).toNat) = xs78.length, ⟨m132, ([x1] : List Int), (List.replicate ((IntKind.wrap .i64 (((xs0.length : Nat) : Int) + 1)).toNat) (default : Bool)), A26, 1, rfl, hJ131, hB, O3, O2, (by first | rfl | assumption | omega | (simp; done) | (simp; omega) | (simp; assumption))⟩, ?_⟩
  rintro m80 _ w84 ⟨xs75, xs78, A76, c77, rfl, hJ133, hB, O7, O2, hn79⟩
  have H := hS82 m80 _ hJ133
  clear hS82 hJ133
  try dsimp only at H ⊢
  refine bcase_mk (fun hc129 => ?_) (fun hc129 => ?_)
  · have H := (bcase_iff.1 H).1 hc129
    obtain ⟨⟨h0_88, h1_89⟩, H⟩ := H
    obtain ⟨a86, ha87, hat85⟩ := Row.at O7.row h0_88 h1_89
    refine ⟨h0_88, h1_89, a86, ha87, ?_⟩
    refine ⟨_, (hat85 0 _ rfl), ?_⟩
    obtain ⟨⟨hl90, hl91⟩, H⟩ := H
    refine and_assoc.1 ⟨⟨hl90, hl91⟩, ?_⟩
    rw [show (xs75.length - ((1 : Int).toNat)) = ((List.drop ((1 : Int).toNat) xs75)).length from by first | rfl | (simp; done) | (simp; omega)]
    have O8 := (O7.drop (l := ((1 : Int).toNat)) (by first | omega | (simp; done) | (simp; omega)))
    obtain ⟨⟨h0_95, h1_96⟩, H⟩ := H
    obtain ⟨a93, ha94, hat92⟩ := Row.at O2.row h0_95 h1_96
    refine ⟨h0_95, (by first | exact h1_96 | omega | (simp at h1_96 ⊢; omega)), a93, ha94, ?_⟩
    refine ⟨_, (hat92 0 _ rfl), ?_⟩
    refine bcase_mk (fun hc128 => ?_) (fun hc128 => ?_)
    · have H := (bcase_iff.1 H).1 hc128
      obtain ⟨m97, hm98, hJ99⟩ := H
      exact ⟨m97, hm98, (List.drop ((1 : Int).toNat) xs75), xs78, (cutA c77 ((1 : Int).toNat) A76 1), (c77 - ((1 : Int).toNat)), rfl, hJ99, hB, O8, O2, (by first | rfl | assumption | omega | (simp; done) | (simp; omega) | (simp; assumption))⟩
    have H := (bcase_iff.1 H).2 hc128
    refine bcase_mk (fun hc127 => ?_) (fun hc127 => ?_)
    · have H := (bcase_iff.1 H).1 hc127
      obtain ⟨m100, hm101, hJ102⟩ := H
      exact ⟨m100, hm101, (List.drop ((1 : Int).toNat) xs75), xs78, (cutA c77 ((1 : Int).toNat) A76 1), (c77 - ((1 : Int).toNat)), rfl, hJ102, hB, O8, O2, (by first | rfl | assumption | omega | (simp; done) | (simp; omega) | (simp; assumption))⟩
    have H := (bcase_iff.1 H).2 hc127
    refine bcase_mk (fun hc126 => ?_) (fun hc126 => ?_)
    · have H := (bcase_iff.1 H).1 hc126
      obtain rfl := hr.trans H.symm
      exact ⟨rfl, hB⟩
    have H := (bcase_iff.1 H).2 hc126
    obtain ⟨⟨h0_106, h1_107⟩, H⟩ := H
    obtain ⟨a104, ha105, hat103⟩ := Row.at O2.row h0_106 h1_107
    refine ⟨h0_106, (by first | exact h1_107 | omega | (simp at h1_107 ⊢; omega)), a104, ha105, ?_⟩
    refine Own.storeAt O2 ha105 h0_106 h1_107 0 [(.bool true)] true rfl (Nat.le_of_ble_eq_true rfl) rfl (fun w108 P2 e109 hb110 => ?_)
    have O7_ := O7.chg e109 (((Own.apart2_type O7 O2 (by decide))).left ha105)
    have O8_ := O8.chg e109 (((cutApart2 (Own.apart2_type O7 O2 (by decide)))).left ha105)
    have O7 := O7_
    have O8 := O8_
    have hB := echg hB e109 hb110
    have O2 := P2
    obtain ⟨hp113, H⟩ := H
    obtain ⟨r111, hr112⟩ : ∃ r_, r_ = M.spec_l07Next xs0 (rd xs75 0) := ⟨_, rfl⟩
    have H := H r111 hr112
    refine (spec_l07Next.con hp113 hr112 (R0.ext hB) hc0).mono ?_
    rintro _ w114 ⟨A116, c117, rfl, P9, e115⟩
    have N2_9 := Own.apart2_new O2 P9 (Nat.le_refl _)
    have N7_9 := Own.apart2_new O7 P9 (Nat.le_refl _)
    have N8_9 := Own.apart2_new O8 P9 (Nat.le_refl _)
    have O2 := O2.ext e115
    have O7 := O7.ext e115
    have O8 := O8.ext e115
    have O9 := P9.mono hB.size
    have hB := ethen hB e115
    refine ⟨A116, r111.length, c117, rfl, ?_⟩
    obtain ⟨hl122, H⟩ := H
    refine appOwn slt24 slt24.under O8 O9.row hB.size rfl rfl hl122 (fun A118 c119 w120 P8 e121 => ?_)
    have N2_8_ := Apart2.app (cutApart2 (Own.apart2_type O2 O7 (by decide)).symm).symm e121 O2
    have O2 := O2.app e121 (cutApart2 (Own.apart2_type O2 O7 (by decide)).symm).symm
    have N9_8_ := Apart2.app (N8_9).symm e121 O9
    have O9 := O9.app e121 (N8_9).symm
    have N2_8 := N2_8_
    have N9_8 := N9_8_
    have hB := eapp hB e121 O8
    have O8 := P8
    obtain ⟨m123, hm124, hJ125⟩ := H
    exact ⟨m123, hm124, ((List.drop ((1 : Int).toNat) xs75) ++ r111), (List.set xs78 ((rd xs75 0).toNat) true), A118, c119, rfl, hJ125, hB, O8, O2, (by first | rfl | assumption | omega | (simp; done) | (simp; omega) | (simp; assumption))⟩
  have H := (bcase_iff.1 H).2 hc129
  obtain rfl := hr.trans H.symm
  exact ⟨rfl, hB⟩
def spec_AftersOf.vc (A0 : Option Addr) (n0 : Nat) (c0 : Nat) (x1 : Int) (w : World) (K : Value → World → Prop) : Prop :=
  Run Tryz.prog (Instr.buildSlice 24 0 #[]) w fun v21 w22 => ∃ (A23 : Option Addr) (n24 c25 : Nat), v21 = .slice A23 n24 c25 ∧ Cll Tryz.prog 203 #[(.slice A0 n0 c0), (.int .i64 x1)] w22 fun v26 w27 => (∃ (b28 : Bool), v26 = (.bool b28) ∧ bcase (!b28) (K (.slice A23 n24 c25) w27) (LoopT (σ := (Option Addr × Nat × Nat) × Int × Unit) (fun z29 w30 next31 => bcase (decide (z29.2.1 ≤ ((n0 : Nat) : Int))) (Cll Tryz.prog 276 #[(.slice A0 n0 c0), (.int .i64 x1), (.int .i64 z29.2.1)] w30 fun v32 w33 => (∃ (b34 : Bool), v32 = (.bool b34) ∧ bcase b34 (Run Tryz.prog (Instr.buildSlice 24 1 #[(0, (.int .i64 z29.2.1))]) w33 fun v35 w36 => ∃ (A37 : Option Addr) (n38 c39 : Nat), v35 = .slice A37 n38 c39 ∧ Run Tryz.prog (Builtin.append_ #[24, 24] 24 #[(.slice z29.1.1 z29.1.2.1 z29.1.2.2), (.slice A37 n38 c39)]) w36 fun v40 w41 => ∃ (A42 : Option Addr) (n43 c44 : Nat), v40 = .slice A42 n43 c44 ∧ next31 ((A42, n43, c44), (IntKind.wrap .i64 (z29.2.1 + 1)), ()) w41) (next31 ((z29.1.1, z29.1.2.1, z29.1.2.2), (IntKind.wrap .i64 (z29.2.1 + 1)), ()) w33))) (K (.slice z29.1.1 z29.1.2.1 z29.1.2.2) w30)) ((A23, n24, c25), 0, ()) w27))

def spec_AftersOf.ann : Ann := (.seq .l (.seq .l (.seq (.seq .l (.two (.seq .l .l) .l)) (.seq (.seq .l (.one (.loop [(5, .sl), (6, .int .i64)] (.seq (.seq .l (.two .l .l)) (.seq (.one (.seq .l (.two .l .l))) .l))))) (.seq .l .l)))))

theorem spec_AftersOf.start {A0 : Option Addr} {n0 : Nat} {c0 : Nat} {x1 : Int} {w : World} {K : Value → World → Prop} (h : spec_AftersOf.vc A0 n0 c0 x1 w K) : Cll Tryz.prog 239 #[(.slice A0 n0 c0), (.int .i64 x1)] w K :=
  vcF_sound mixed (fn := Tryz.f239) (by kernel_rfl) (by kernel_rfl) (an := spec_AftersOf.ann) (args := [(.slice A0 n0 c0), (.int .i64 x1)]) (Eq.mpr (by kernel_rfl) h)

theorem spec_AftersOf.con {xs0 : List D.Ins} {A0 : Option Addr} {c0 : Nat} {x1 : Int} {r : List Int} {w : World} (hp : M.spec_AftersOf_pre xs0 x1) (hr : r = M.spec_AftersOf xs0 x1) (R0 : Row el89 w A0 xs0) (hc0 : xs0.length ≤ c0) :
    Cll Tryz.prog 239 #[(.slice A0 xs0.length c0), (.int .i64 x1)] w (fun v_ w_ => ∃ (A0_ : Option Addr) (c0_ : Nat), v_ = (.slice A0_ r.length c0_) ∧ Own el3 w_ w.heap.size A0_ c0_ r ∧ Ext w w_) := by
  have H := wp.spec_AftersOf.math xs0 x1 hp
  have hB := Ext.refl w
  refine spec_AftersOf.start ?_
  unfold spec_AftersOf.vc
  unfold wp.spec_AftersOf at H
  refine buildOwn el3 ([] : List Int) (fun _ => by kernel_rfl) rfl (fun A21 w22 P2 e23 => ?_)
  have O2 := P2.mono hB.size
  have hB := ethen hB e23
  obtain ⟨hp26, H⟩ := H
  obtain ⟨r24, hr25⟩ : ∃ r_, r_ = M.spec_ReachesExit xs0 x1 := ⟨_, rfl⟩
  have H := H r24 hr25
  refine (spec_ReachesExit.con hp26 hr25 (R0.ext hB) hc0).mono ?_
  rintro _ w27 ⟨rfl, e28⟩
  have O2 := O2.ext e28
  have hB := ethen hB e28
  refine ⟨r24, rfl, ?_⟩
  refine bcase_mk (fun hc63 => ?_) (fun hc63 => ?_)
  · have H := (bcase_iff.1 H).1 hc63
    obtain rfl := hr.trans H.symm
    exact ⟨A21, 0, (by first | rfl | (simp; done) | (simp; omega) | (simp [*]; done)), (by first | exact O2 | (simp only [List.length_set]; exact O2)), hB⟩
  have H := (bcase_iff.1 H).2 hc63
  obtain ⟨J34, ⟨m61, hJ60⟩, hS35⟩ := H
  refine ⟨fun m_ z_ w_ => ∃ (xs29 : List Int) (i32 : Int) (A30 : Option Addr) (c31 : Nat), z_ = ((A30, xs29.length, c31), i32, ()) ∧ J34 m_ (xs29, i32, ()) ∧ Ext w w_ ∧ Own el3 w_ w.heap.size A30 c31 xs29, ⟨m61, ([] : List Int), 0, A21, 0, rfl, hJ60, hB, O2⟩, ?_⟩
  rintro m33 _ w37 ⟨xs29, i32, A30, c31, rfl, hJ62, hB, O3⟩
  have H := hS35 m33 _ hJ62
  clear hS35 hJ62
  try dsimp only at H ⊢
  refine bcase_mk (fun hc58 => ?_) (fun hc58 => ?_)
  · have H := (bcase_iff.1 H).1 hc58
    obtain ⟨hp40, H⟩ := H
    obtain ⟨r38, hr39⟩ : ∃ r_, r_ = M.spec_l08After xs0 x1 i32 := ⟨_, rfl⟩
    have H := H r38 hr39
    refine (spec_l08After.con hp40 hr39 (R0.ext hB) hc0).mono ?_
    rintro _ w41 ⟨rfl, e42⟩
    have O3 := O3.ext e42
    have hB := ethen hB e42
    refine ⟨r38, rfl, ?_⟩
    refine bcase_mk (fun hc57 => ?_) (fun hc57 => ?_)
    · have H := (bcase_iff.1 H).1 hc57
      refine buildOwn el3 ([i32] : List Int) (fun _ => by kernel_rfl) rfl (fun A43 w44 P4 e45 => ?_)
      have N3_4 := Own.apart2_new O3 P4 (Nat.le_refl _)
      have O3 := O3.ext e45
      have O4 := P4.mono hB.size
      have hB := ethen hB e45
      obtain ⟨hl50, H⟩ := H
      refine appOwn slt24 slt24.under O3 O4.row hB.size rfl (by first | rfl | omega | (simp; done) | (simp; omega)) hl50 (fun A46 c47 w48 P3 e49 => ?_)
      have N4_3_ := Apart2.app (N3_4).symm e49 O4
      have O4 := O4.app e49 (N3_4).symm
      have N4_3 := N4_3_
      have hB := eapp hB e49 O3
      have O3 := P3
      obtain ⟨m51, hm52, hJ53⟩ := H
      exact ⟨m51, hm52, (xs29 ++ ([i32] : List Int)), (IntKind.wrap .i64 (i32 + 1)), A46, c47, rfl, hJ53, hB, O3⟩
    have H := (bcase_iff.1 H).2 hc57
    obtain ⟨m54, hm55, hJ56⟩ := H
    exact ⟨m54, hm55, xs29, (IntKind.wrap .i64 (i32 + 1)), A30, c31, rfl, hJ56, hB, O3⟩
  have H := (bcase_iff.1 H).2 hc58
  obtain rfl := hr.trans H.symm
  exact ⟨A30, c31, rfl, O3, hB⟩
def spec_l08First.vc (A0 : Option Addr) (n0 : Nat) (c0 : Nat) (A1 : Option Addr) (n1 : Nat) (c1 : Nat) (w : World) (K : Value → World → Prop) : Prop :=
  LoopT (σ := Int × Unit) (fun z21 w22 next23 => bcase (decide (z21.1 < ((n1 : Nat) : Int))) (LoopT (σ := Bool × Int × Unit) (fun z24 w25 next26 => bcase (decide (z24.2.1 < ((n1 : Nat) : Int))) ((∃ M27 : Nat → Prop, bcase z24.1 (((0 : Int) ≤ z21.1 ∧ z21.1 < ((n1 : Nat) : Int) ∧ ∃ a28 : Addr, A1 = some a28 ∧ ∃ (n29 : Int), (¬ M27 ((a28.add ((z21.1.toNat) * 1))).block ∧ w25.cell? ((a28.add ((z21.1.toNat) * 1)).add 0) = some (.int .i64 n29)) ∧ ((0 : Int) ≤ z24.2.1 ∧ z24.2.1 < ((n1 : Nat) : Int) ∧ ∃ a30 : Addr, A1 = some a30 ∧ ∃ (n31 : Int), (¬ M27 ((a30.add ((z24.2.1.toNat) * 1))).block ∧ w25.cell? ((a30.add ((z24.2.1.toNat) * 1)).add 0) = some (.int .i64 n31)) ∧ Cll Tryz.prog 276 #[(.slice A0 n0 c0), (.int .i64 n29), (.int .i64 n31)] w25.drew fun v32 w33 => (∃ (b34 : Bool), v32 = (.bool b34) ∧ SameBut M27 w25 w33 ∧ next26 (b34, (IntKind.wrap .i64 (z24.2.1 + 1)), ()) w33)))) (next26 (false, (IntKind.wrap .i64 (z24.2.1 + 1)), ()) w25.drew))) (bcase z24.1 (((0 : Int) ≤ z21.1 ∧ z21.1 < ((n1 : Nat) : Int) ∧ ∃ a35 : Addr, A1 = some a35 ∧ ∃ (n36 : Int), w25.cell? ((a35.add ((z21.1.toNat) * 1)).add 0) = some (.int .i64 n36) ∧ K (.int .i64 n36) w25)) (next23 ((IntKind.wrap .i64 (z21.1 + 1)), ()) w25))) (true, 0, ()) w22) (K (.int .i64 (-1)) w22)) (0, ()) w

def spec_l08First.ann : Ann := (.seq .l (.seq (.seq .l (.one (.loop [(5, .int .i64)] (.seq (.seq .l (.two .l .l)) (.seq (.one (.seq .l (.seq (.seq .l (.one (.loop [(6, .bool), (7, .int .i64)] (.seq (.seq .l (.two .l .l)) (.seq (.one .l) .l))))) (.seq .l (.two (.seq .l .l) .l))))) .l))))) (.seq .l .l)))

theorem spec_l08First.start {A0 : Option Addr} {n0 : Nat} {c0 : Nat} {A1 : Option Addr} {n1 : Nat} {c1 : Nat} {w : World} {K : Value → World → Prop} (h : spec_l08First.vc A0 n0 c0 A1 n1 c1 w K) : Cll Tryz.prog 237 #[(.slice A0 n0 c0), (.slice A1 n1 c1)] w K :=
  vcF_sound mixed (fn := Tryz.f237) (by kernel_rfl) (by kernel_rfl) (an := spec_l08First.ann) (args := [(.slice A0 n0 c0), (.slice A1 n1 c1)]) (Eq.mpr (by kernel_rfl) h)

theorem spec_l08First.con {xs0 : List D.Ins} {A0 : Option Addr} {c0 : Nat} {xs1 : List Int} {A1 : Option Addr} {c1 : Nat} {r : Int} {w : World} (hp : M.spec_l08First_pre xs0 xs1) (hr : r = M.spec_l08First xs0 xs1) (R0 : Row el89 w A0 xs0) (hc0 : xs0.length ≤ c0) (R1 : Row el3 w A1 xs1) (hc1 : xs1.length ≤ c1) :
    Cll Tryz.prog 237 #[(.slice A0 xs0.length c0), (.slice A1 xs1.length c1)] w (fun v_ w_ => v_ = (.int .i64 r) ∧ Ext w w_) := by
  have H := wp.spec_l08First.math xs0 xs1 hp
  have hB := Ext.refl w
  refine spec_l08First.start ?_
  unfold spec_l08First.vc
  unfold wp.spec_l08First at H
  obtain ⟨J23, ⟨m74, hJ73⟩, hS24⟩ := H
  refine ⟨fun m_ z_ w_ => ∃ (i21 : Int), z_ = (i21, ()) ∧ J23 m_ (i21, ()) ∧ Ext w w_, ⟨m74, 0, rfl, hJ73, hB⟩, ?_⟩
  rintro m22 _ w26 ⟨i21, rfl, hJ75, hB⟩
  have H := hS24 m22 _ hJ75
  clear hS24 hJ75
  try dsimp only at H ⊢
  refine bcase_mk (fun hc71 => ?_) (fun hc71 => ?_)
  · have H := (bcase_iff.1 H).1 hc71
    obtain ⟨J30, ⟨m69, hJ68⟩, hS31⟩ := H
    refine ⟨fun m_ z_ w_ => ∃ (b27 : Bool) (i28 : Int), z_ = (b27, i28, ()) ∧ J30 m_ (b27, i28, ()) ∧ Ext w w_, ⟨m69, true, 0, rfl, hJ68, hB⟩, ?_⟩
    rintro m29 _ w33 ⟨b27, i28, rfl, hJ70, hB⟩
    have H := hS31 m29 _ hJ70
    clear hS31 hJ70
    try dsimp only at H ⊢
    refine bcase_mk (fun hc66 => ?_) (fun hc66 => ?_)
    · have H := (bcase_iff.1 H).1 hc66
      refine ⟨(fun _ => False), ?_⟩
      refine bcase_mk (fun hc56 => ?_) (fun hc56 => ?_)
      · have H := (bcase_iff.1 H).1 hc56
        obtain ⟨⟨h0_38, h1_39⟩, H⟩ := H
        obtain ⟨a36, ha37, hat35⟩ := Row.at (R1.ext hB) h0_38 h1_39
        refine ⟨h0_38, h1_39, a36, ha37, ?_⟩
        refine ⟨_, ⟨(fun h_ => h_), (hat35 0 _ rfl)⟩, ?_⟩
        obtain ⟨⟨h0_43, h1_44⟩, H⟩ := H
        obtain ⟨a41, ha42, hat40⟩ := Row.at (R1.ext hB) h0_43 h1_44
        refine ⟨h0_43, h1_44, a41, ha42, ?_⟩
        refine ⟨_, ⟨(fun h_ => h_), (hat40 0 _ rfl)⟩, ?_⟩
        have hS34 := Chg.refl (fun _ => False) w33
        have hB := ethen hB (Ext.drew _)
        have hS34 := hS34.then (Ext.drew _)
        obtain ⟨hp47, H⟩ := H
        obtain ⟨r45, hr46⟩ : ∃ r_, r_ = M.spec_l08After xs0 (rd xs1 i21) (rd xs1 i28) := ⟨_, rfl⟩
        have H := H r45 hr46
        refine (spec_l08After.con hp47 hr46 (R0.ext hB) hc0).mono ?_
        rintro _ w48 ⟨rfl, e49⟩
        have hB := ethen hB e49
        have hS34 := hS34.then e49
        refine ⟨r45, rfl, ?_⟩
        refine ⟨sameBut_chg hS34, ?_⟩
        obtain ⟨m50, hm51, hJ52⟩ := H
        exact ⟨m50, hm51, r45, (IntKind.wrap .i64 (i28 + 1)), rfl, hJ52, hB⟩
      have H := (bcase_iff.1 H).2 hc56
      have hB := ethen hB (Ext.drew _)
      obtain ⟨m53, hm54, hJ55⟩ := H
      exact ⟨m53, hm54, false, (IntKind.wrap .i64 (i28 + 1)), rfl, hJ55, hB⟩
    have H := (bcase_iff.1 H).2 hc66
    refine bcase_mk (fun hc65 => ?_) (fun hc65 => ?_)
    · have H := (bcase_iff.1 H).1 hc65
      obtain ⟨⟨h0_60, h1_61⟩, H⟩ := H
      obtain ⟨a58, ha59, hat57⟩ := Row.at (R1.ext hB) h0_60 h1_61
      refine ⟨h0_60, h1_61, a58, ha59, ?_⟩
      refine ⟨_, (hat57 0 _ rfl), ?_⟩
      obtain rfl := hr.trans H.symm
      exact ⟨rfl, hB⟩
    have H := (bcase_iff.1 H).2 hc65
    obtain ⟨m62, hm63, hJ64⟩ := H
    exact ⟨m62, hm63, (IntKind.wrap .i64 (i21 + 1)), rfl, hJ64, hB⟩
  have H := (bcase_iff.1 H).2 hc71
  obtain rfl := hr.trans H.symm
  exact ⟨rfl, hB⟩
def spec_FirstAfter.vc (A0 : Option Addr) (n0 : Nat) (c0 : Nat) (x1 : Int) (w : World) (K : Value → World → Prop) : Prop :=
  Cll Tryz.prog 239 #[(.slice A0 n0 c0), (.int .i64 x1)] w fun v21 w22 => (∃ (A23 : Option Addr) (n24 : Nat) (c25 : Nat), v21 = (.slice A23 n24 c25) ∧ Cll Tryz.prog 238 #[(.slice A23 n24 c25), (.int .i64 x1)] w22 fun v26 w27 => (∃ (A28 : Option Addr) (n29 : Nat) (c30 : Nat), v26 = (.slice A28 n29 c30) ∧ Cll Tryz.prog 237 #[(.slice A0 n0 c0), (.slice A28 n29 c30)] w27 fun v31 w32 => (∃ (n33 : Int), v31 = (.int .i64 n33) ∧ K (.int .i64 n33) w32)))

def spec_FirstAfter.ann : Ann := (.seq .l (.seq .l .l))

theorem spec_FirstAfter.start {A0 : Option Addr} {n0 : Nat} {c0 : Nat} {x1 : Int} {w : World} {K : Value → World → Prop} (h : spec_FirstAfter.vc A0 n0 c0 x1 w K) : Cll Tryz.prog 204 #[(.slice A0 n0 c0), (.int .i64 x1)] w K :=
  vcF_sound mixed (fn := Tryz.f204) (by kernel_rfl) (by kernel_rfl) (an := spec_FirstAfter.ann) (args := [(.slice A0 n0 c0), (.int .i64 x1)]) (Eq.mpr (by kernel_rfl) h)

theorem spec_FirstAfter.con {xs0 : List D.Ins} {A0 : Option Addr} {c0 : Nat} {x1 : Int} {r : Int} {w : World} (hp : M.spec_FirstAfter_pre xs0 x1) (hr : r = M.spec_FirstAfter xs0 x1) (R0 : Row el89 w A0 xs0) (hc0 : xs0.length ≤ c0) :
    Cll Tryz.prog 204 #[(.slice A0 xs0.length c0), (.int .i64 x1)] w (fun v_ w_ => v_ = (.int .i64 r) ∧ Ext w w_) := by
  have H := wp.spec_FirstAfter.math xs0 x1 hp
  have hB := Ext.refl w
  refine spec_FirstAfter.start ?_
  unfold spec_FirstAfter.vc
  unfold wp.spec_FirstAfter at H
  obtain ⟨hp23, H⟩ := H
  obtain ⟨r21, hr22⟩ : ∃ r_, r_ = M.spec_AftersOf xs0 x1 := ⟨_, rfl⟩
  have H := H r21 hr22
  refine (spec_AftersOf.con hp23 hr22 (R0.ext hB) hc0).mono ?_
  rintro _ w24 ⟨A26, c27, rfl, P2, e25⟩
  have O2 := P2.mono hB.size
  have hB := ethen hB e25
  refine ⟨A26, r21.length, c27, rfl, ?_⟩
  obtain ⟨hp30, H⟩ := H
  obtain ⟨r28, hr29⟩ : ∃ r_, r_ = M.spec_l08Others r21 x1 := ⟨_, rfl⟩
  have H := H r28 hr29
  refine (spec_l08Others.con hp30 hr29 O2.row O2.le).mono ?_
  rintro _ w31 ⟨A33, c34, rfl, P3, e32⟩
  have N2_3 := Own.apart2_new O2 P3 (Nat.le_refl _)
  have O2 := O2.ext e32
  have O3 := P3.mono hB.size
  have hB := ethen hB e32
  refine ⟨A33, r28.length, c34, rfl, ?_⟩
  obtain ⟨hp37, H⟩ := H
  obtain ⟨r35, hr36⟩ : ∃ r_, r_ = M.spec_l08First xs0 r28 := ⟨_, rfl⟩
  have H := H r35 hr36
  refine (spec_l08First.con hp37 hr36 (R0.ext hB) hc0 O3.row O3.le).mono ?_
  rintro _ w38 ⟨rfl, e39⟩
  have O2 := O2.ext e39
  have O3 := O3.ext e39
  have hB := ethen hB e39
  refine ⟨r35, rfl, ?_⟩
  obtain rfl := hr.trans H.symm
  exact ⟨rfl, hB⟩
def spec_l09Join.vc (A0 : Option Addr) (n0 : Nat) (c0 : Nat) (x1 : Int) (w : World) (K : Value → World → Prop) : Prop :=
  Cll Tryz.prog 203 #[(.slice A0 n0 c0), (.int .i64 (IntKind.wrap .i64 (x1 + 1)))] w fun v21 w22 => (∃ (b23 : Bool), v21 = (.bool b23) ∧ bcase (!b23) (K (.int .i64 ((n0 : Nat) : Int)) w22) (((0 : Int) ≤ x1 ∧ x1 < ((n0 : Nat) : Int) ∧ ∃ a24 : Addr, A0 = some a24 ∧ ∃ (n25 : Int), w22.cell? (((a24.add ((x1.toNat) * 4)).add 2).add 0) = some (.int .i64 n25) ∧ Cll Tryz.prog 203 #[(.slice A0 n0 c0), (.int .i64 n25)] w22 fun v26 w27 => (∃ (b28 : Bool), v26 = (.bool b28) ∧ bcase (!b28) (K (.int .i64 ((n0 : Nat) : Int)) w27) (Cll Tryz.prog 204 #[(.slice A0 n0 c0), (.int .i64 x1)] w27 fun v29 w30 => (∃ (n31 : Int), v29 = (.int .i64 n31) ∧ K (.int .i64 n31) w30))))))

def spec_l09Join.ann : Ann := (.seq .l (.seq (.seq .l (.two (.seq .l .l) .l)) (.seq .l .l)))

theorem spec_l09Join.start {A0 : Option Addr} {n0 : Nat} {c0 : Nat} {x1 : Int} {w : World} {K : Value → World → Prop} (h : spec_l09Join.vc A0 n0 c0 x1 w K) : Cll Tryz.prog 150 #[(.slice A0 n0 c0), (.int .i64 x1)] w K :=
  vcF_sound mixed (fn := Tryz.f150) (by kernel_rfl) (by kernel_rfl) (an := spec_l09Join.ann) (args := [(.slice A0 n0 c0), (.int .i64 x1)]) (Eq.mpr (by kernel_rfl) h)

theorem spec_l09Join.con {xs0 : List D.Ins} {A0 : Option Addr} {c0 : Nat} {x1 : Int} {r : Int} {w : World} (hp : M.spec_l09Join_pre xs0 x1) (hr : r = M.spec_l09Join xs0 x1) (R0 : Row el89 w A0 xs0) (hc0 : xs0.length ≤ c0) :
    Cll Tryz.prog 150 #[(.slice A0 xs0.length c0), (.int .i64 x1)] w (fun v_ w_ => v_ = (.int .i64 r) ∧ Ext w w_) := by
  have H := wp.spec_l09Join.math xs0 x1 hp
  have hB := Ext.refl w
  refine spec_l09Join.start ?_
  unfold spec_l09Join.vc
  unfold wp.spec_l09Join at H
  obtain ⟨hp23, H⟩ := H
  obtain ⟨r21, hr22⟩ : ∃ r_, r_ = M.spec_ReachesExit xs0 (IntKind.wrap .i64 (x1 + 1)) := ⟨_, rfl⟩
  have H := H r21 hr22
  refine (spec_ReachesExit.con hp23 hr22 (R0.ext hB) hc0).mono ?_
  rintro _ w24 ⟨rfl, e25⟩
  have hB := ethen hB e25
  refine ⟨r21, rfl, ?_⟩
  refine bcase_mk (fun hc42 => ?_) (fun hc42 => ?_)
  · have H := (bcase_iff.1 H).1 hc42
    obtain rfl := hr.trans H.symm
    exact ⟨rfl, hB⟩
  have H := (bcase_iff.1 H).2 hc42
  obtain ⟨⟨h0_29, h1_30⟩, H⟩ := H
  obtain ⟨a27, ha28, hat26⟩ := Row.at (R0.ext hB) h0_29 h1_30
  refine ⟨h0_29, h1_30, a27, ha28, ?_⟩
  refine ⟨_, (hat26 2 _ rfl), ?_⟩
  obtain ⟨hp33, H⟩ := H
  obtain ⟨r31, hr32⟩ : ∃ r_, r_ = M.spec_ReachesExit xs0 ((rd xs0 x1).B) := ⟨_, rfl⟩
  have H := H r31 hr32
  refine (spec_ReachesExit.con hp33 hr32 (R0.ext hB) hc0).mono ?_
  rintro _ w34 ⟨rfl, e35⟩
  have hB := ethen hB e35
  refine ⟨r31, rfl, ?_⟩
  refine bcase_mk (fun hc41 => ?_) (fun hc41 => ?_)
  · have H := (bcase_iff.1 H).1 hc41
    obtain rfl := hr.trans H.symm
    exact ⟨rfl, hB⟩
  have H := (bcase_iff.1 H).2 hc41
  obtain ⟨hp38, H⟩ := H
  obtain ⟨r36, hr37⟩ : ∃ r_, r_ = M.spec_FirstAfter xs0 x1 := ⟨_, rfl⟩
  have H := H r36 hr37
  refine (spec_FirstAfter.con hp38 hr37 (R0.ext hB) hc0).mono ?_
  rintro _ w39 ⟨rfl, e40⟩
  have hB := ethen hB e40
  refine ⟨r36, rfl, ?_⟩
  obtain rfl := hr.trans H.symm
  exact ⟨rfl, hB⟩
def cmp_isNaN_int.vc (x0 : Int) (w : World) (K : Value → World → Prop) : Prop :=
  K (.bool (x0 != x0)) w

def cmp_isNaN_int.ann : Ann := (.seq .l (.seq .l .l))

theorem cmp_isNaN_int.start {x0 : Int} {w : World} {K : Value → World → Prop} (h : cmp_isNaN_int.vc x0 w K) : Cll Tryz.prog 216 #[(.int .i64 x0)] w K :=
  vcF_sound mixed (fn := Tryz.f216) (by kernel_rfl) (by kernel_rfl) (an := cmp_isNaN_int.ann) (args := [(.int .i64 x0)]) (Eq.mpr (by kernel_rfl) h)

theorem cmp_isNaN_int.con {x0 : Int} {r : Bool} {w : World} (hr : r = M.cmp_isNaN_int x0)  :
    Cll Tryz.prog 216 #[(.int .i64 x0)] w (fun v_ w_ => v_ = (.bool r) ∧ Ext w w_) := by
  have H := wp.cmp_isNaN_int.math x0
  have hB := Ext.refl w
  refine cmp_isNaN_int.start ?_
  unfold cmp_isNaN_int.vc
  unfold wp.cmp_isNaN_int at H
  obtain rfl := hr.trans H.symm
  exact ⟨rfl, hB⟩
def cmp_Less_int.vc (x0 : Int) (x1 : Int) (w : World) (K : Value → World → Prop) : Prop :=
  Cll Tryz.prog 216 #[(.int .i64 x0)] w fun v21 w22 => (∃ (b23 : Bool), v21 = (.bool b23) ∧ bcase b23 (Cll Tryz.prog 216 #[(.int .i64 x1)] w22 fun v24 w25 => (∃ (b26 : Bool), v24 = (.bool b26) ∧ bcase (!b26) (K (.bool true) w25) (K (.bool (decide (x0 < x1))) w25))) (K (.bool (decide (x0 < x1))) w22))

def cmp_Less_int.ann : Ann := (.seq .l (.seq .l .l))

theorem cmp_Less_int.start {x0 : Int} {x1 : Int} {w : World} {K : Value → World → Prop} (h : cmp_Less_int.vc x0 x1 w K) : Cll Tryz.prog 300 #[(.int .i64 x0), (.int .i64 x1)] w K :=
  vcF_sound mixed (fn := Tryz.f300) (by kernel_rfl) (by kernel_rfl) (an := cmp_Less_int.ann) (args := [(.int .i64 x0), (.int .i64 x1)]) (Eq.mpr (by kernel_rfl) h)

theorem cmp_Less_int.con {x0 : Int} {x1 : Int} {r : Bool} {w : World} (hr : r = M.cmp_Less_int x0 x1)  :
    Cll Tryz.prog 300 #[(.int .i64 x0), (.int .i64 x1)] w (fun v_ w_ => v_ = (.bool r) ∧ Ext w w_) := by
  have H := wp.cmp_Less_int.math x0 x1
  have hB := Ext.refl w
  refine cmp_Less_int.start ?_
  unfold cmp_Less_int.vc
  unfold wp.cmp_Less_int at H
  obtain ⟨r21, hr22⟩ : ∃ r_, r_ = M.cmp_isNaN_int x0 := ⟨_, rfl⟩
  have H := H r21 hr22
  refine (cmp_isNaN_int.con hr22 ).mono ?_
  rintro _ w24 ⟨rfl, e25⟩
  have hB := ethen hB e25
  refine ⟨r21, rfl, ?_⟩
  refine bcase_mk (fun hc32 => ?_) (fun hc32 => ?_)
  · have H := (bcase_iff.1 H).1 hc32
    obtain ⟨r26, hr27⟩ : ∃ r_, r_ = M.cmp_isNaN_int x1 := ⟨_, rfl⟩
    have H := H r26 hr27
    refine (cmp_isNaN_int.con hr27 ).mono ?_
    rintro _ w29 ⟨rfl, e30⟩
    have hB := ethen hB e30
    refine ⟨r26, rfl, ?_⟩
    refine bcase_mk (fun hc31 => ?_) (fun hc31 => ?_)
    · have H := (bcase_iff.1 H).1 hc31
      obtain rfl := hr.trans H.symm
      exact ⟨rfl, hB⟩
    have H := (bcase_iff.1 H).2 hc31
    obtain rfl := hr.trans H.symm
    exact ⟨rfl, hB⟩
  have H := (bcase_iff.1 H).2 hc32
  obtain rfl := hr.trans H.symm
  exact ⟨rfl, hB⟩
def slices_insertionSortOrdered_int.vc (A0 : Option Addr) (n0 : Nat) (c0 : Nat) (x1 : Int) (x2 : Int) (w : World) (K : Value → World → Prop) : Prop :=
  LoopT (σ := Int × Unit) (fun z21 w22 next23 => bcase (decide (z21.1 < x2)) (LoopT (σ := Int × Unit) (fun z24 w25 next26 => JoinT (σ := Unit) (fun J27 => bcase (decide (z24.1 > x1)) (((0 : Int) ≤ z24.1 ∧ z24.1 < ((n0 : Nat) : Int) ∧ ∃ a28 : Addr, A0 = some a28 ∧ ((0 : Int) ≤ (IntKind.wrap .i64 (z24.1 - 1)) ∧ (IntKind.wrap .i64 (z24.1 - 1)) < ((n0 : Nat) : Int) ∧ ∃ a29 : Addr, A0 = some a29 ∧ ((∃ (n30 : Int), w25.drew.cell? ((a28.add ((z24.1.toNat) * 1)).add 0) = some (.int .i64 n30) ∧ ((∃ (n31 : Int), w25.drew.cell? ((a29.add (((IntKind.wrap .i64 (z24.1 - 1)).toNat) * 1)).add 0) = some (.int .i64 n31) ∧ ((Cll Tryz.prog 300 #[(.int .i64 n30), (.int .i64 n31)] w25.drew fun v32 w33 => (∃ (b34 : Bool), v32 = (.bool b34) ∧ bcase b34 (J27 () w33) (next23 ((IntKind.wrap .i64 (z21.1 + 1)), ()) w33))) ∧ True)) ∧ True)) ∧ (∃ (n35 : Int), w25.drew.cell? ((a29.add (((IntKind.wrap .i64 (z24.1 - 1)).toNat) * 1)).add 0) = some (.int .i64 n35) ∧ ((∃ (n36 : Int), w25.drew.cell? ((a28.add ((z24.1.toNat) * 1)).add 0) = some (.int .i64 n36) ∧ ((Cll Tryz.prog 300 #[(.int .i64 n36), (.int .i64 n35)] w25.drew fun v37 w38 => (∃ (b39 : Bool), v37 = (.bool b39) ∧ bcase b39 (J27 () w38) (next23 ((IntKind.wrap .i64 (z21.1 + 1)), ()) w38))) ∧ True)) ∧ True)) ∧ True)))) (((((((next23 ((IntKind.wrap .i64 (z21.1 + 1)), ()) w25.drew) ∧ True)) ∧ True)) ∧ (((((next23 ((IntKind.wrap .i64 (z21.1 + 1)), ()) w25.drew) ∧ True)) ∧ True)) ∧ True))) fun z40 w41 => ((0 : Int) ≤ (IntKind.wrap .i64 (z24.1 - 1)) ∧ (IntKind.wrap .i64 (z24.1 - 1)) < ((n0 : Nat) : Int) ∧ ∃ a42 : Addr, A0 = some a42 ∧ ((0 : Int) ≤ z24.1 ∧ z24.1 < ((n0 : Nat) : Int) ∧ ∃ a43 : Addr, A0 = some a43 ∧ ((∃ (n44 : Int), w41.drew.cell? ((a42.add (((IntKind.wrap .i64 (z24.1 - 1)).toNat) * 1)).add 0) = some (.int .i64 n44) ∧ ((∃ (n45 : Int), w41.drew.cell? ((a43.add ((z24.1.toNat) * 1)).add 0) = some (.int .i64 n45) ∧ ((0 : Int) ≤ z24.1 ∧ z24.1 < ((n0 : Nat) : Int) ∧ ∃ a46 : Addr, A0 = some a46 ∧ ((stCells (a46.add ((z24.1.toNat) * 1)) [(.int .i64 n44)] 0 w41.drew fun w47 => ((0 : Int) ≤ (IntKind.wrap .i64 (z24.1 - 1)) ∧ (IntKind.wrap .i64 (z24.1 - 1)) < ((n0 : Nat) : Int) ∧ ∃ a48 : Addr, A0 = some a48 ∧ ((stCells (a48.add (((IntKind.wrap .i64 (z24.1 - 1)).toNat) * 1)) [(.int .i64 n45)] 0 w47 fun w49 => next26 ((IntKind.wrap .i64 (z24.1 - 1)), ()) w49) ∧ True))) ∧ True))) ∧ True)) ∧ (∃ (n50 : Int), w41.drew.cell? ((a43.add ((z24.1.toNat) * 1)).add 0) = some (.int .i64 n50) ∧ ((∃ (n51 : Int), w41.drew.cell? ((a42.add (((IntKind.wrap .i64 (z24.1 - 1)).toNat) * 1)).add 0) = some (.int .i64 n51) ∧ ((0 : Int) ≤ z24.1 ∧ z24.1 < ((n0 : Nat) : Int) ∧ ∃ a52 : Addr, A0 = some a52 ∧ ((stCells (a52.add ((z24.1.toNat) * 1)) [(.int .i64 n51)] 0 w41.drew fun w53 => ((0 : Int) ≤ (IntKind.wrap .i64 (z24.1 - 1)) ∧ (IntKind.wrap .i64 (z24.1 - 1)) < ((n0 : Nat) : Int) ∧ ∃ a54 : Addr, A0 = some a54 ∧ ((stCells (a54.add (((IntKind.wrap .i64 (z24.1 - 1)).toNat) * 1)) [(.int .i64 n50)] 0 w53 fun w55 => next26 ((IntKind.wrap .i64 (z24.1 - 1)), ()) w55) ∧ True))) ∧ True))) ∧ True)) ∧ True)))) (z21.1, ()) w22) (K (.tuple #[]) w22)) ((IntKind.wrap .i64 (x1 + 1)), ()) w

def slices_insertionSortOrdered_int.ann : Ann := (.seq .l (.one (.loop [(6, .int .i64)] (.seq (.seq .l (.two .l .l)) (.seq (.one (.seq .l (.one (.loop [(7, .int .i64)] (.cut [] (.seq .each (.two .l .l)) (.seq (.one .each) .l)))))) .l)))))

theorem slices_insertionSortOrdered_int.start {A0 : Option Addr} {n0 : Nat} {c0 : Nat} {x1 : Int} {x2 : Int} {w : World} {K : Value → World → Prop} (h : slices_insertionSortOrdered_int.vc A0 n0 c0 x1 x2 w K) : Cll Tryz.prog 294 #[(.slice A0 n0 c0), (.int .i64 x1), (.int .i64 x2)] w K :=
  vcF_sound mixed (fn := Tryz.f294) (by kernel_rfl) (by kernel_rfl) (an := slices_insertionSortOrdered_int.ann) (args := [(.slice A0 n0 c0), (.int .i64 x1), (.int .i64 x2)]) (Eq.mpr (by kernel_rfl) h)

theorem slices_insertionSortOrdered_int.con {xs0 : List Int} {A0 : Option Addr} {c0 : Nat} {x1 : Int} {x2 : Int} {r : (List Int)} {w : World} (hp : M.slices_insertionSortOrdered_int_pre xs0 x1 x2) (hr : r = M.slices_insertionSortOrdered_int xs0 x1 x2) (O1 : Own el3 w 0 A0 c0 xs0) :
    Cll Tryz.prog 294 #[(.slice A0 xs0.length c0), (.int .i64 x1), (.int .i64 x2)] w (fun v_ w_ => v_ = (.tuple #[]) ∧ Own el3 w_ 0 A0 c0 r ∧ r.length = xs0.length ∧ Chg (InB A0) w w_) := by
  have H := wp.slices_insertionSortOrdered_int.math xs0 x1 x2 hp
  have hB := Chg.refl (InB A0) w
  refine slices_insertionSortOrdered_int.start ?_
  unfold slices_insertionSortOrdered_int.vc
  unfold wp.slices_insertionSortOrdered_int at H
  obtain ⟨J124, ⟨m301, hJ300⟩, hS125⟩ := H
  refine ⟨fun m_ z_ w_ => ∃ (i120 : Int) (xs121 : List Int), z_ = (i120, ()) ∧ J124 m_ (i120, xs121, ()) ∧ Chg (InB A0) w w_ ∧ Own el3 w_ 0 A0 c0 xs121 ∧ xs0.length = xs121.length, ⟨m301, (IntKind.wrap .i64 (x1 + 1)), xs0, rfl, hJ300, hB, O1, (by first | rfl | assumption | omega | (simp; done) | (simp; omega) | (simp; assumption))⟩, ?_⟩
  rintro m123 _ w127 ⟨i120, xs121, rfl, hJ302, hB, O1, hn122⟩
  have H := hS125 m123 _ hJ302
  clear hS125 hJ302
  try dsimp only at H ⊢
  refine bcase_mk (fun hc298 => ?_) (fun hc298 => ?_)
  · have H := (bcase_iff.1 H).1 hc298
    obtain ⟨J202, ⟨m296, hJ295⟩, hS203⟩ := H
    refine ⟨fun m_ z_ w_ => ∃ (i198 : Int) (xs199 : List Int), z_ = (i198, ()) ∧ J202 m_ (i198, xs199, ()) ∧ Chg (InB A0) w w_ ∧ Own el3 w_ 0 A0 c0 xs199 ∧ xs0.length = xs199.length, ⟨m296, i120, xs121, rfl, hJ295, hB, O1, (by first | rfl | assumption | omega | (simp; done) | (simp; omega) | (simp; assumption))⟩, ?_⟩
    rintro m201 _ w205 ⟨i198, xs199, rfl, hJ297, hB, O1, hn200⟩
    have H := hS203 m201 _ hJ297
    clear hS203 hJ297
    try dsimp only at H ⊢
    obtain ⟨K293, hKK293, H⟩ := joinP_out H
    refine ⟨fun z_ w_ => z_ = (()) ∧ K293 (()) ∧ Chg (InB A0) w w_ ∧ Own el3 w_ 0 A0 c0 xs199, ?_, ?_⟩
    · have O1 := O1.ext (Ext.drew _)
      have hB := hB.then (Ext.drew _)
      refine bcase_mk (fun hc243 => ?_) (fun hc243 => ?_)
      · have H := (bcase_iff.1 H).1 hc243
        obtain ⟨⟨h0_212, h1_213⟩, H⟩ := H
        obtain ⟨a210, ha211, hat209⟩ := Row.at O1.row h0_212 h1_213
        refine ⟨h0_212, (by first | exact h1_213 | omega | (simp at h1_213 ⊢; omega)), a210, ha211, ?_⟩
        obtain ⟨⟨h0_217, h1_218⟩, H⟩ := H
        obtain ⟨a215, ha216, hat214⟩ := Row.at O1.row h0_217 h1_218
        refine ⟨h0_217, (by first | exact h1_218 | omega | (simp at h1_218 ⊢; omega)), a215, ha216, ?_⟩
        refine And.intro ?_ ?_
        · have H := H.1
          refine ⟨_, (hat209 0 _ rfl), ?_⟩
          refine and_t ?_
          refine ⟨_, (hat214 0 _ rfl), ?_⟩
          refine and_t ?_
          obtain ⟨r219, hr220⟩ : ∃ r_, r_ = M.cmp_Less_int (rd xs199 i198) (rd xs199 (IntKind.wrap .i64 (i198 - 1))) := ⟨_, rfl⟩
          have H := H r219 hr220
          refine (cmp_Less_int.con hr220 ).mono ?_
          rintro _ w222 ⟨rfl, e223⟩
          have O1 := O1.ext e223
          have hB := hB.then e223
          refine ⟨r219, rfl, ?_⟩
          refine bcase_mk (fun hc227 => ?_) (fun hc227 => ?_)
          · have H := (bcase_iff.1 H).1 hc227
            exact ⟨rfl, H, hB, O1⟩
          have H := (bcase_iff.1 H).2 hc227
          obtain ⟨m224, hm225, hJ226⟩ := H
          exact ⟨m224, hm225, (IntKind.wrap .i64 (i120 + 1)), xs199, rfl, hJ226, hB, O1, (by first | rfl | assumption | omega | (simp; done) | (simp; omega) | (simp; assumption))⟩
        refine And.intro ?_ ?_
        · have H := H.2.1
          refine ⟨_, (hat214 0 _ rfl), ?_⟩
          refine and_t ?_
          refine ⟨_, (hat209 0 _ rfl), ?_⟩
          refine and_t ?_
          obtain ⟨r228, hr229⟩ : ∃ r_, r_ = M.cmp_Less_int (rd xs199 i198) (rd xs199 (IntKind.wrap .i64 (i198 - 1))) := ⟨_, rfl⟩
          have H := H r228 hr229
          refine (cmp_Less_int.con hr229 ).mono ?_
          rintro _ w231 ⟨rfl, e232⟩
          have O1 := O1.ext e232
          have hB := hB.then e232
          refine ⟨r228, rfl, ?_⟩
          refine bcase_mk (fun hc236 => ?_) (fun hc236 => ?_)
          · have H := (bcase_iff.1 H).1 hc236
            exact ⟨rfl, H, hB, O1⟩
          have H := (bcase_iff.1 H).2 hc236
          obtain ⟨m233, hm234, hJ235⟩ := H
          exact ⟨m233, hm234, (IntKind.wrap .i64 (i120 + 1)), xs199, rfl, hJ235, hB, O1, (by first | rfl | assumption | omega | (simp; done) | (simp; omega) | (simp; assumption))⟩
        exact trivial
      have H := (bcase_iff.1 H).2 hc243
      refine And.intro ?_ ?_
      · have H := H.1
        refine and_t ?_
        refine and_t ?_
        obtain ⟨m237, hm238, hJ239⟩ := H
        exact ⟨m237, hm238, (IntKind.wrap .i64 (i120 + 1)), xs199, rfl, hJ239, hB, O1, (by first | rfl | assumption | omega | (simp; done) | (simp; omega) | (simp; assumption))⟩
      refine And.intro ?_ ?_
      · have H := H.2.1
        refine and_t ?_
        refine and_t ?_
        obtain ⟨m240, hm241, hJ242⟩ := H
        exact ⟨m240, hm241, (IntKind.wrap .i64 (i120 + 1)), xs199, rfl, hJ242, hB, O1, (by first | rfl | assumption | omega | (simp; done) | (simp; omega) | (simp; assumption))⟩
      exact trivial
    rintro _ w207 ⟨rfl, H, hB, O1⟩
    have H := hKK293 _ H
    try dsimp only at H ⊢
    have O1 := O1.ext (Ext.drew _)
    have hB := hB.then (Ext.drew _)
    obtain ⟨⟨h0_247, h1_248⟩, H⟩ := H
    obtain ⟨a245, ha246, hat244⟩ := Row.at O1.row h0_247 h1_248
    refine ⟨h0_247, (by first | exact h1_248 | omega | (simp at h1_248 ⊢; omega)), a245, ha246, ?_⟩
    obtain ⟨⟨h0_252, h1_253⟩, H⟩ := H
    obtain ⟨a250, ha251, hat249⟩ := Row.at O1.row h0_252 h1_253
    refine ⟨h0_252, (by first | exact h1_253 | omega | (simp at h1_253 ⊢; omega)), a250, ha251, ?_⟩
    refine And.intro ?_ ?_
    · have H := H.1
      refine ⟨_, (hat244 0 _ rfl), ?_⟩
      refine and_t ?_
      refine ⟨_, (hat249 0 _ rfl), ?_⟩
      obtain ⟨⟨h0_257, h1_258⟩, H⟩ := H
      obtain ⟨a255, ha256, hat254⟩ := Row.at O1.row h0_257 h1_258
      refine ⟨h0_257, (by first | exact h1_258 | omega | (simp at h1_258 ⊢; omega)), a255, ha256, ?_⟩
      refine and_t ?_
      refine Own.storeAt O1 ha256 h0_257 h1_258 0 [(.int .i64 (rd xs199 (IntKind.wrap .i64 (i198 - 1))))] (rd xs199 (IntKind.wrap .i64 (i198 - 1))) rfl (Nat.le_of_ble_eq_true rfl) rfl (fun w259 P1 e260 hb261 => ?_)
      have hB := hB.chgb e260 (Or.inr ⟨_, ha256, rfl⟩)
      have O1 := P1
      obtain ⟨⟨h0_265, h1_266⟩, H⟩ := H
      obtain ⟨a263, ha264, hat262⟩ := Row.at O1.row h0_265 h1_266
      refine ⟨h0_265, (by first | exact h1_266 | omega | (simp at h1_266 ⊢; omega)), a263, ha264, ?_⟩
      refine and_t ?_
      refine Own.storeAt O1 ha264 h0_265 h1_266 0 [(.int .i64 (rd xs199 i198))] (rd xs199 i198) rfl (Nat.le_of_ble_eq_true rfl) rfl (fun w267 P1 e268 hb269 => ?_)
      have hB := hB.chgb e268 (Or.inr ⟨_, ha264, rfl⟩)
      have O1 := P1
      obtain ⟨m270, hm271, hJ272⟩ := H
      exact ⟨m270, hm271, (IntKind.wrap .i64 (i198 - 1)), (List.set (List.set xs199 (i198.toNat) (rd xs199 (IntKind.wrap .i64 (i198 - 1)))) ((IntKind.wrap .i64 (i198 - 1)).toNat) (rd xs199 i198)), rfl, hJ272, hB, O1, (by first | rfl | assumption | omega | (simp; done) | (simp; omega) | (simp; assumption))⟩
    refine And.intro ?_ ?_
    · have H := H.2.1
      refine ⟨_, (hat249 0 _ rfl), ?_⟩
      refine and_t ?_
      refine ⟨_, (hat244 0 _ rfl), ?_⟩
      obtain ⟨⟨h0_276, h1_277⟩, H⟩ := H
      obtain ⟨a274, ha275, hat273⟩ := Row.at O1.row h0_276 h1_277
      refine ⟨h0_276, (by first | exact h1_277 | omega | (simp at h1_277 ⊢; omega)), a274, ha275, ?_⟩
      refine and_t ?_
      refine Own.storeAt O1 ha275 h0_276 h1_277 0 [(.int .i64 (rd xs199 (IntKind.wrap .i64 (i198 - 1))))] (rd xs199 (IntKind.wrap .i64 (i198 - 1))) rfl (Nat.le_of_ble_eq_true rfl) rfl (fun w278 P1 e279 hb280 => ?_)
      have hB := hB.chgb e279 (Or.inr ⟨_, ha275, rfl⟩)
      have O1 := P1
      obtain ⟨⟨h0_284, h1_285⟩, H⟩ := H
      obtain ⟨a282, ha283, hat281⟩ := Row.at O1.row h0_284 h1_285
      refine ⟨h0_284, (by first | exact h1_285 | omega | (simp at h1_285 ⊢; omega)), a282, ha283, ?_⟩
      refine and_t ?_
      refine Own.storeAt O1 ha283 h0_284 h1_285 0 [(.int .i64 (rd xs199 i198))] (rd xs199 i198) rfl (Nat.le_of_ble_eq_true rfl) rfl (fun w286 P1 e287 hb288 => ?_)
      have hB := hB.chgb e287 (Or.inr ⟨_, ha283, rfl⟩)
      have O1 := P1
      obtain ⟨m289, hm290, hJ291⟩ := H
      exact ⟨m289, hm290, (IntKind.wrap .i64 (i198 - 1)), (List.set (List.set xs199 (i198.toNat) (rd xs199 (IntKind.wrap .i64 (i198 - 1)))) ((IntKind.wrap .i64 (i198 - 1)).toNat) (rd xs199 i198)), rfl, hJ291, hB, O1, (by first | rfl | assumption | omega | (simp; done) | (simp; omega) | (simp; assumption))⟩
    exact trivial
  have H := (bcase_iff.1 H).2 hc298
  obtain rfl := hr.trans H.symm
  exact ⟨rfl, O1, (by first | (simp only [List.length_set]; done) | (simp only [List.length_set, ← hn122]; done) | (simp; done) | (simp; omega) | omega), hB⟩
def math_bits_Len64.vc (x0 : Int) (w : World) (K : Value → World → Prop) : Prop :=
  JoinT (σ := Int × Int × Unit) (fun J21 => bcase (decide (x0 ≥ 4294967296)) (((0 : Int) ≤ 32 ∧ J21 ((Int.fdiv x0 (2 ^ (min ((32 : Int).toNat) (IntKind.bits .u64)))), 32, ()) w)) (J21 (x0, 0, ()) w)) fun z22 w23 => JoinT (σ := Int × Int × Unit) (fun J24 => bcase (decide (z22.1 ≥ 65536)) (((0 : Int) ≤ 16 ∧ J24 ((Int.fdiv z22.1 (2 ^ (min ((16 : Int).toNat) (IntKind.bits .u64)))), (IntKind.wrap .i64 (z22.2.1 + 16)), ()) w23)) (J24 (z22.1, z22.2.1, ()) w23)) fun z25 w26 => JoinT (σ := Int × Int × Unit) (fun J27 => bcase (decide (z25.1 ≥ 256)) (((0 : Int) ≤ 8 ∧ J27 ((Int.fdiv z25.1 (2 ^ (min ((8 : Int).toNat) (IntKind.bits .u64)))), (IntKind.wrap .i64 (z25.2.1 + 8)), ()) w26)) (J27 (z25.1, z25.2.1, ()) w26)) fun z28 w29 => ((0 : Int) ≤ IntKind.wrap .u8 z28.1 ∧ ∃ y30 : UInt8, ((⟨#[0, 1, 2, 2, 3, 3, 3, 3, 4, 4, 4, 4, 4, 4, 4, 4, 5, 5, 5, 5, 5, 5, 5, 5, 5, 5, 5, 5, 5, 5, 5, 5, 6, 6, 6, 6, 6, 6, 6, 6, 6, 6, 6, 6, 6, 6, 6, 6, 6, 6, 6, 6, 6, 6, 6, 6, 6, 6, 6, 6, 6, 6, 6, 6, 7, 7, 7, 7, 7, 7, 7, 7, 7, 7, 7, 7, 7, 7, 7, 7, 7, 7, 7, 7, 7, 7, 7, 7, 7, 7, 7, 7, 7, 7, 7, 7, 7, 7, 7, 7, 7, 7, 7, 7, 7, 7, 7, 7, 7, 7, 7, 7, 7, 7, 7, 7, 7, 7, 7, 7, 7, 7, 7, 7, 7, 7, 7, 7, 8, 8, 8, 8, 8, 8, 8, 8, 8, 8, 8, 8, 8, 8, 8, 8, 8, 8, 8, 8, 8, 8, 8, 8, 8, 8, 8, 8, 8, 8, 8, 8, 8, 8, 8, 8, 8, 8, 8, 8, 8, 8, 8, 8, 8, 8, 8, 8, 8, 8, 8, 8, 8, 8, 8, 8, 8, 8, 8, 8, 8, 8, 8, 8, 8, 8, 8, 8, 8, 8, 8, 8, 8, 8, 8, 8, 8, 8, 8, 8, 8, 8, 8, 8, 8, 8, 8, 8, 8, 8, 8, 8, 8, 8, 8, 8, 8, 8, 8, 8, 8, 8, 8, 8, 8, 8, 8, 8, 8, 8, 8, 8, 8, 8, 8, 8, 8, 8, 8, 8, 8, 8, 8, 8, 8, 8, 8, 8]⟩) : ByteArray)[((IntKind.wrap .u8 z28.1).toNat)]? = some y30 ∧ K (.int .i64 (IntKind.wrap .i64 (z28.2.1 + (IntKind.wrap .i64 ((y30.toNat : Nat) : Int))))) w29)

def math_bits_Len64.ann : Ann := (.seq .l (.cut [(0, .int .u64), (2, .int .i64)] (.seq .l (.two (.seq .l .l) .l)) (.cut [(0, .int .u64), (2, .int .i64)] (.seq .l (.two (.seq .l .l) .l)) (.cut [(0, .int .u64), (2, .int .i64)] (.seq .l (.two (.seq .l .l) .l)) (.seq .l .l)))))

theorem math_bits_Len64.start {x0 : Int} {w : World} {K : Value → World → Prop} (h : math_bits_Len64.vc x0 w K) : Cll Tryz.prog 260 #[(.int .u64 x0)] w K :=
  vcF_sound mixed (fn := Tryz.f260) (by kernel_rfl) (by kernel_rfl) (an := math_bits_Len64.ann) (args := [(.int .u64 x0)]) (Eq.mpr (by kernel_rfl) h)

theorem math_bits_Len64.con {x0 : Int} {r : Int} {w : World} (hp : M.math_bits_Len64_pre x0) (hr : r = M.math_bits_Len64 x0)  :
    Cll Tryz.prog 260 #[(.int .u64 x0)] w (fun v_ w_ => v_ = (.int .i64 r) ∧ Ext w w_) := by
  have H := wp.math_bits_Len64.math x0 hp
  have hB := Ext.refl w
  refine math_bits_Len64.start ?_
  unfold math_bits_Len64.vc
  unfold wp.math_bits_Len64 at H
  obtain ⟨K52, hKK52, H⟩ := joinP_out H
  refine ⟨fun z_ w_ => ∃ (i21 : Int) (i22 : Int), z_ = (i21, i22, ()) ∧ K52 (i21, i22, ()) ∧ Ext w w_, ?_, ?_⟩
  · refine bcase_mk (fun hc27 => ?_) (fun hc27 => ?_)
    · have H := (bcase_iff.1 H).1 hc27
      refine ⟨by decide, ?_⟩
      exact ⟨(Int.fdiv x0 (2 ^ (min ((32 : Int).toNat) (IntKind.bits .u64)))), 32, rfl, H, hB⟩
    have H := (bcase_iff.1 H).2 hc27
    exact ⟨x0, 0, rfl, H, hB⟩
  rintro _ w24 ⟨i21, i22, rfl, H, hB⟩
  have H := hKK52 _ H
  try dsimp only at H ⊢
  obtain ⟨K50, hKK50, H⟩ := joinP_out H
  refine ⟨fun z_ w_ => ∃ (i28 : Int) (i29 : Int), z_ = (i28, i29, ()) ∧ K50 (i28, i29, ()) ∧ Ext w w_, ?_, ?_⟩
  · refine bcase_mk (fun hc34 => ?_) (fun hc34 => ?_)
    · have H := (bcase_iff.1 H).1 hc34
      refine ⟨by decide, ?_⟩
      exact ⟨(Int.fdiv i21 (2 ^ (min ((16 : Int).toNat) (IntKind.bits .u64)))), (IntKind.wrap .i64 (i22 + 16)), rfl, H, hB⟩
    have H := (bcase_iff.1 H).2 hc34
    exact ⟨i21, i22, rfl, H, hB⟩
  rintro _ w31 ⟨i28, i29, rfl, H, hB⟩
  have H := hKK50 _ H
  try dsimp only at H ⊢
  obtain ⟨K48, hKK48, H⟩ := joinP_out H
  refine ⟨fun z_ w_ => ∃ (i35 : Int) (i36 : Int), z_ = (i35, i36, ()) ∧ K48 (i35, i36, ()) ∧ Ext w w_, ?_, ?_⟩
  · refine bcase_mk (fun hc41 => ?_) (fun hc41 => ?_)
    · have H := (bcase_iff.1 H).1 hc41
      refine ⟨by decide, ?_⟩
      exact ⟨(Int.fdiv i28 (2 ^ (min ((8 : Int).toNat) (IntKind.bits .u64)))), (IntKind.wrap .i64 (i29 + 8)), rfl, H, hB⟩
    have H := (bcase_iff.1 H).2 hc41
    exact ⟨i28, i29, rfl, H, hB⟩
  rintro _ w38 ⟨i35, i36, rfl, H, hB⟩
  have H := hKK48 _ H
  try dsimp only at H ⊢
  obtain ⟨⟨h0_45, h1_46⟩, H⟩ := H
  obtain ⟨y42, hy43, hyb44⟩ := strAt h0_45 h1_46
  refine ⟨h0_45, y42, hy43, ?_⟩
  rw [hyb44]
  obtain rfl := hr.trans H.symm
  exact ⟨rfl, hB⟩
def math_bits_Len.vc (x0 : Int) (w : World) (K : Value → World → Prop) : Prop :=
  Cll Tryz.prog 260 #[(.int .u64 x0)] w fun v21 w22 => (∃ (n23 : Int), v21 = (.int .i64 n23) ∧ K (.int .i64 n23) w22)

def math_bits_Len.ann : Ann := (.seq .l (.seq (.two (.seq .l .l) .l) (.seq .l .l)))

theorem math_bits_Len.start {x0 : Int} {w : World} {K : Value → World → Prop} (h : math_bits_Len.vc x0 w K) : Cll Tryz.prog 215 #[(.int .u64 x0)] w K :=
  vcF_sound mixed (fn := Tryz.f215) (by kernel_rfl) (by kernel_rfl) (an := math_bits_Len.ann) (args := [(.int .u64 x0)]) (Eq.mpr (by kernel_rfl) h)

theorem math_bits_Len.con {x0 : Int} {r : Int} {w : World} (hp : M.math_bits_Len_pre x0) (hr : r = M.math_bits_Len x0)  :
    Cll Tryz.prog 215 #[(.int .u64 x0)] w (fun v_ w_ => v_ = (.int .i64 r) ∧ Ext w w_) := by
  have H := wp.math_bits_Len.math x0 hp
  have hB := Ext.refl w
  refine math_bits_Len.start ?_
  unfold math_bits_Len.vc
  unfold wp.math_bits_Len at H
  obtain ⟨hp23, H⟩ := H
  obtain ⟨r21, hr22⟩ : ∃ r_, r_ = M.math_bits_Len64 x0 := ⟨_, rfl⟩
  have H := H r21 hr22
  refine (math_bits_Len64.con hp23 hr22 ).mono ?_
  rintro _ w24 ⟨rfl, e25⟩
  have hB := ethen hB e25
  refine ⟨r21, rfl, ?_⟩
  obtain rfl := hr.trans H.symm
  exact ⟨rfl, hB⟩
def slices_pdqsortOrdered_int.vc (A0 : Option Addr) (n0 : Nat) (c0 : Nat) (x1 : Int) (x2 : Int) (x3 : Int) (w : World) (K : Value → World → Prop) : Prop :=
  LoopT (σ := Int × Int × Int × Bool × Bool × Unit) (fun z21 w22 next23 => bcase (decide ((IntKind.wrap .i64 (z21.2.1 - z21.1)) ≤ 12)) (Cll Tryz.prog 294 #[(.slice A0 n0 c0), (.int .i64 z21.1), (.int .i64 z21.2.1)] w22 fun v24 w25 => (v24 = (.tuple #[]) ∧ K (.tuple #[]) w25)) (bcase (z21.2.2.1 == 0) (Cll Tryz.prog 295 #[(.slice A0 n0 c0), (.int .i64 z21.1), (.int .i64 z21.2.1)] w22 fun v26 w27 => (v26 = (.tuple #[]) ∧ K (.tuple #[]) w27)) (JoinT (σ := Int × Unit) (fun J28 => bcase (!z21.2.2.2.1) (Cll Tryz.prog 296 #[(.slice A0 n0 c0), (.int .i64 z21.1), (.int .i64 z21.2.1)] w22 fun v29 w30 => (v29 = (.tuple #[]) ∧ J28 ((IntKind.wrap .i64 (z21.2.2.1 - 1)), ()) w30)) (J28 (z21.2.2.1, ()) w22)) fun z31 w32 => Cll Tryz.prog 297 #[(.slice A0 n0 c0), (.int .i64 z21.1), (.int .i64 z21.2.1)] w32 fun v33 w34 => (∃ u35 : Value, (∃ (n36 : Int), u35 = (.int .i64 n36) ∧ ∃ u37 : Value, (∃ (n38 : Int), u37 = (.int .i64 n38) ∧ v33 = (.tuple #[(.int .i64 n36), (.int .i64 n38)]) ∧ JoinT (σ := Int × Int × Unit) (fun J39 => bcase (n38 == 2) (Cll Tryz.prog 298 #[(.slice A0 n0 c0), (.int .i64 z21.1), (.int .i64 z21.2.1)] w34 fun v40 w41 => (v40 = (.tuple #[]) ∧ J39 ((IntKind.wrap .i64 ((IntKind.wrap .i64 (z21.2.1 - 1)) - (IntKind.wrap .i64 (n36 - z21.1)))), 1, ()) w41)) (J39 (n36, n38, ()) w34)) fun z42 w43 => JoinT (σ := Unit) (fun J44 => bcase z21.2.2.2.1 (bcase z21.2.2.2.2.1 (bcase (z42.2.1 == 1) (Cll Tryz.prog 299 #[(.slice A0 n0 c0), (.int .i64 z21.1), (.int .i64 z21.2.1)] w43 fun v45 w46 => (∃ (b47 : Bool), v45 = (.bool b47) ∧ bcase b47 (K (.tuple #[]) w46) (J44 () w46))) (J44 () w43)) (J44 () w43)) (J44 () w43)) fun z48 w49 => JoinT (σ := Bool × Unit) (fun J51 => (∃ M52 : Nat → Prop, bcase (decide (z21.1 > 0)) (((0 : Int) ≤ (IntKind.wrap .i64 (z21.1 - 1)) ∧ (IntKind.wrap .i64 (z21.1 - 1)) < ((n0 : Nat) : Int) ∧ ∃ a53 : Addr, A0 = some a53 ∧ ∃ (n54 : Int), (¬ M52 ((a53.add (((IntKind.wrap .i64 (z21.1 - 1)).toNat) * 1))).block ∧ w49.cell? ((a53.add (((IntKind.wrap .i64 (z21.1 - 1)).toNat) * 1)).add 0) = some (.int .i64 n54)) ∧ ((0 : Int) ≤ z42.1 ∧ z42.1 < ((n0 : Nat) : Int) ∧ ∃ a55 : Addr, A0 = some a55 ∧ ∃ (n56 : Int), (¬ M52 ((a55.add ((z42.1.toNat) * 1))).block ∧ w49.cell? ((a55.add ((z42.1.toNat) * 1)).add 0) = some (.int .i64 n56)) ∧ Cll Tryz.prog 300 #[(.int .i64 n54), (.int .i64 n56)] w49.drew fun v57 w58 => (∃ (b59 : Bool), v57 = (.bool b59) ∧ SameBut M52 w49 w58 ∧ J51 ((!b59), ()) w58)))) (J51 (false, ()) w49.drew))) fun z60 w61 => bcase z60.1 (Cll Tryz.prog 301 #[(.slice A0 n0 c0), (.int .i64 z21.1), (.int .i64 z21.2.1), (.int .i64 z42.1)] w61 fun v62 w63 => (∃ (n64 : Int), v62 = (.int .i64 n64) ∧ next23 (n64, z21.2.1, z31.1, z21.2.2.2.1, z21.2.2.2.2.1, ()) w63)) (Cll Tryz.prog 302 #[(.slice A0 n0 c0), (.int .i64 z21.1), (.int .i64 z21.2.1), (.int .i64 z42.1)] w61 fun v65 w66 => (∃ u67 : Value, (∃ (n68 : Int), u67 = (.int .i64 n68) ∧ ∃ u69 : Value, (∃ (b70 : Bool), u69 = (.bool b70) ∧ v65 = (.tuple #[(.int .i64 n68), (.bool b70)]) ∧ ((8 : Int) ≠ 0 ∧ bcase (decide ((IntKind.wrap .i64 (n68 - z21.1)) < (IntKind.wrap .i64 (z21.2.1 - n68)))) (Cll Tryz.prog 288 #[(.slice A0 n0 c0), (.int .i64 z21.1), (.int .i64 n68), (.int .i64 z31.1)] w66 fun v71 w72 => (v71 = (.tuple #[]) ∧ next23 ((IntKind.wrap .i64 (n68 + 1)), z21.2.1, z31.1, (decide ((IntKind.wrap .i64 (n68 - z21.1)) ≥ (IntKind.wrap .i64 (Int.tdiv (IntKind.wrap .i64 (z21.2.1 - z21.1)) 8)))), b70, ()) w72)) (Cll Tryz.prog 288 #[(.slice A0 n0 c0), (.int .i64 (IntKind.wrap .i64 (n68 + 1))), (.int .i64 z21.2.1), (.int .i64 z31.1)] w66 fun v73 w74 => (v73 = (.tuple #[]) ∧ next23 (z21.1, n68, z31.1, (decide ((IntKind.wrap .i64 (z21.2.1 - n68)) ≥ (IntKind.wrap .i64 (Int.tdiv (IntKind.wrap .i64 (z21.2.1 - z21.1)) 8)))), b70, ()) w74))))))))))))) (x1, x2, x3, true, true, ()) w

def slices_pdqsortOrdered_int.ann : Ann := (.seq .l (.seq .l (.one (.loop [(1, .int .i64), (2, .int .i64), (3, .int .i64), (8, .bool), (9, .bool)] (.one (.seq .l (.seq (.seq .l (.two (.seq .l .l) .l)) (.seq (.seq .l (.two (.seq .l .l) .l)) (.cut [(3, .int .i64)] (.seq .l (.two (.seq .l .l) .l)) (.seq .l (.cut [(11, .int .i64), (12, .int .i64)] (.seq .l (.two (.seq .l (.seq .l .l)) .l)) (.cut [] (.seq .l (.two (.seq .l (.two .l .l)) .l)) (.seq (.cut [(87, .bool)] .l (.two (.seq .l (.seq .l .l)) .l)) (.seq .l (.seq .l (.seq .l (.seq .l (.seq .l (.two (.seq .l (.seq .l .l)) (.seq .l (.seq .l .l)))))))))))))))))))))

theorem slices_pdqsortOrdered_int.start {A0 : Option Addr} {n0 : Nat} {c0 : Nat} {x1 : Int} {x2 : Int} {x3 : Int} {w : World} {K : Value → World → Prop} (h : slices_pdqsortOrdered_int.vc A0 n0 c0 x1 x2 x3 w K) : Cll Tryz.prog 288 #[(.slice A0 n0 c0), (.int .i64 x1), (.int .i64 x2), (.int .i64 x3)] w K :=
  vcF_sound mixed (fn := Tryz.f288) (by kernel_rfl) (by kernel_rfl) (an := slices_pdqsortOrdered_int.ann) (args := [(.slice A0 n0 c0), (.int .i64 x1), (.int .i64 x2), (.int .i64 x3)]) (Eq.mpr (by kernel_rfl) h)

theorem slices_pdqsortOrdered_int.con {xs0 : List Int} {A0 : Option Addr} {c0 : Nat} {x1 : Int} {x2 : Int} {x3 : Int} {r : (List Int)} {w : World} (hp : M.slices_pdqsortOrdered_int_pre xs0 x1 x2 x3) (hr : r = M.slices_pdqsortOrdered_int xs0 x1 x2 x3) (O1 : Own el3 w 0 A0 c0 xs0) :
    Cll Tryz.prog 288 #[(.slice A0 xs0.length c0), (.int .i64 x1), (.int .i64 x2), (.int .i64 x3)] w (fun v_ w_ => v_ = (.tuple #[]) ∧ Own el3 w_ 0 A0 c0 r ∧ r.length = xs0.length ∧ Chg (InB A0) w w_) := by
  have H := wp.slices_pdqsortOrdered_int.math xs0 x1 x2 x3 hp
  have hB := Chg.refl (InB A0) w
  refine slices_pdqsortOrdered_int.start ?_
  unfold slices_pdqsortOrdered_int.vc
  unfold wp.slices_pdqsortOrdered_int at H
  obtain ⟨J27, ⟨m46, hJ45⟩, hS28⟩ := H
  refine ⟨fun m_ z_ w_ => ∃ (i21 : Int) (i22 : Int) (i23 : Int) (b24 : Bool) (b25 : Bool), z_ = (i21, i22, i23, b24, b25, ()) ∧ J27 m_ (i21, i22, i23, b24, b25, ()) ∧ Chg (InB A0) w w_ ∧ Own el3 w_ 0 A0 c0 xs0, ⟨m46, x1, x2, x3, true, true, rfl, hJ45, hB, O1⟩, ?_⟩
  rintro m26 _ w30 ⟨i21, i22, i23, b24, b25, rfl, hJ47, hB, O1⟩
  have H := hS28 m26 _ hJ47
  clear hS28 hJ47
  try dsimp only at H ⊢
  refine bcase_mk (fun hc43 => ?_) (fun hc43 => ?_)
  · have H := (bcase_iff.1 H).1 hc43
    obtain ⟨hp33, H⟩ := H
    obtain ⟨r31, hr32⟩ : ∃ r_, r_ = M.slices_insertionSortOrdered_int xs0 i21 i22 := ⟨_, rfl⟩
    have H := H r31 hr32
    refine (slices_insertionSortOrdered_int.con hp33 hr32 (O1.mono (Nat.zero_le _))).mono ?_
    rintro _ w34 ⟨rfl, Q1, hl36, e35⟩
    have hB := hB.chg e35 (fun g h_ => (Or.inr h_))
    have O1 := Q1
    refine ⟨rfl, ?_⟩
    obtain rfl := hr.trans H.symm
    exact ⟨rfl, O1, (by first | (simp only [List.length_set]; done) | (simp only [List.length_set, hl36]; done) | (simp; done) | (simp; omega) | omega), hB⟩
  have H := (bcase_iff.1 H).2 hc43
  refine bcase_mk (fun hc42 => ?_) (fun hc42 => ?_)
  · have H := (bcase_iff.1 H).1 hc42
    exact H.elim
  have H := (bcase_iff.1 H).2 hc42
  exact H.elim
def slices_Sort_int_int.vc (A0 : Option Addr) (n0 : Nat) (c0 : Nat) (w : World) (K : Value → World → Prop) : Prop :=
  Cll Tryz.prog 215 #[(.int .u64 (IntKind.wrap .u64 ((n0 : Nat) : Int)))] w fun v21 w22 => (∃ (n23 : Int), v21 = (.int .i64 n23) ∧ Cll Tryz.prog 288 #[(.slice A0 n0 c0), (.int .i64 0), (.int .i64 ((n0 : Nat) : Int)), (.int .i64 n23)] w22 fun v24 w25 => (v24 = (.tuple #[]) ∧ K (.tuple #[]) w25))

def slices_Sort_int_int.ann : Ann := (.seq .l .l)

theorem slices_Sort_int_int.start {A0 : Option Addr} {n0 : Nat} {c0 : Nat} {w : World} {K : Value → World → Prop} (h : slices_Sort_int_int.vc A0 n0 c0 w K) : Cll Tryz.prog 268 #[(.slice A0 n0 c0)] w K :=
  vcF_sound mixed (fn := Tryz.f268) (by kernel_rfl) (by kernel_rfl) (an := slices_Sort_int_int.ann) (args := [(.slice A0 n0 c0)]) (Eq.mpr (by kernel_rfl) h)

theorem slices_Sort_int_int.con {xs0 : List Int} {A0 : Option Addr} {c0 : Nat} {r : (List Int)} {w : World} (hp : M.slices_Sort_int_int_pre xs0) (hr : r = M.slices_Sort_int_int xs0) (O1 : Own el3 w 0 A0 c0 xs0) :
    Cll Tryz.prog 268 #[(.slice A0 xs0.length c0)] w (fun v_ w_ => v_ = (.tuple #[]) ∧ Own el3 w_ 0 A0 c0 r ∧ r.length = xs0.length ∧ Chg (InB A0) w w_) := by
  have H := wp.slices_Sort_int_int.math xs0 hp
  have hB := Chg.refl (InB A0) w
  refine slices_Sort_int_int.start ?_
  unfold slices_Sort_int_int.vc
  unfold wp.slices_Sort_int_int at H
  obtain ⟨hp23, H⟩ := H
  obtain ⟨r21, hr22⟩ : ∃ r_, r_ = M.math_bits_Len (IntKind.wrap .u64 ((xs0.length : Nat) : Int)) := ⟨_, rfl⟩
  have H := H r21 hr22
  refine (math_bits_Len.con hp23 hr22 ).mono ?_
  rintro _ w24 ⟨rfl, e25⟩
  have O1 := O1.ext e25
  have hB := hB.then e25
  refine ⟨r21, rfl, ?_⟩
  obtain ⟨hp28, H⟩ := H
  obtain ⟨r26, hr27⟩ : ∃ r_, r_ = M.slices_pdqsortOrdered_int xs0 0 ((xs0.length : Nat) : Int) r21 := ⟨_, rfl⟩
  have H := H r26 hr27
  refine (slices_pdqsortOrdered_int.con hp28 hr27 (O1.mono (Nat.zero_le _))).mono ?_
  rintro _ w29 ⟨rfl, Q1, hl31, e30⟩
  have hB := hB.chg e30 (fun g h_ => (Or.inr h_))
  have O1 := Q1
  refine ⟨rfl, ?_⟩
  obtain rfl := hr.trans H.symm
  exact ⟨rfl, O1, (by first | (simp only [List.length_set]; done) | (simp only [List.length_set, hl31]; done) | (simp; done) | (simp; omega) | omega), hB⟩
def slices_Compact_int_int.vc (A0 : Option Addr) (n0 : Nat) (c0 : Nat) (w : World) (K : Value → World → Prop) : Prop :=
  bcase (decide (((n0 : Nat) : Int) < 2)) (K (.slice A0 n0 c0) w) (LoopT (σ := Int × Unit) (fun z21 w22 next23 => bcase (decide (z21.1 < ((n0 : Nat) : Int))) (((0 : Int) ≤ z21.1 ∧ z21.1 < ((n0 : Nat) : Int) ∧ ∃ a24 : Addr, A0 = some a24 ∧ ∃ (n25 : Int), w22.cell? ((a24.add ((z21.1.toNat) * 1)).add 0) = some (.int .i64 n25) ∧ ((0 : Int) ≤ (IntKind.wrap .i64 (z21.1 - 1)) ∧ (IntKind.wrap .i64 (z21.1 - 1)) < ((n0 : Nat) : Int) ∧ ∃ a26 : Addr, A0 = some a26 ∧ ∃ (n27 : Int), w22.cell? ((a26.add (((IntKind.wrap .i64 (z21.1 - 1)).toNat) * 1)).add 0) = some (.int .i64 n27) ∧ bcase (n25 == n27) (((0 : Int) ≤ z21.1 ∧ z21.1 ≤ ((n0 : Nat) : Int) ∧ LoopT (σ := Int × Int × Unit) (fun z28 w29 next30 => bcase (decide (z28.2.1 < (((n0 - (z21.1.toNat)) : Nat) : Int))) (((0 : Int) ≤ z28.2.1 ∧ z28.2.1 < (((n0 - (z21.1.toNat)) : Nat) : Int) ∧ ∃ a31 : Addr, (if c0 = (z21.1.toNat) then A0 else A0.map (·.add ((z21.1.toNat) * szOf Tryz.prog 3))) = some a31 ∧ ∃ (n32 : Int), w29.cell? ((a31.add ((z28.2.1.toNat) * 1)).add 0) = some (.int .i64 n32) ∧ ((0 : Int) ≤ (IntKind.wrap .i64 (z28.2.1 - 1)) ∧ (IntKind.wrap .i64 (z28.2.1 - 1)) < (((n0 - (z21.1.toNat)) : Nat) : Int) ∧ ∃ a33 : Addr, (if c0 = (z21.1.toNat) then A0 else A0.map (·.add ((z21.1.toNat) * szOf Tryz.prog 3))) = some a33 ∧ ∃ (n34 : Int), w29.cell? ((a33.add (((IntKind.wrap .i64 (z28.2.1 - 1)).toNat) * 1)).add 0) = some (.int .i64 n34) ∧ bcase (n32 != n34) (((0 : Int) ≤ z28.2.1 ∧ z28.2.1 < (((n0 - (z21.1.toNat)) : Nat) : Int) ∧ ∃ a35 : Addr, (if c0 = (z21.1.toNat) then A0 else A0.map (·.add ((z21.1.toNat) * szOf Tryz.prog 3))) = some a35 ∧ ∃ (n36 : Int), w29.drew.cell? ((a35.add ((z28.2.1.toNat) * 1)).add 0) = some (.int .i64 n36) ∧ ((0 : Int) ≤ z28.1 ∧ z28.1 < ((n0 : Nat) : Int) ∧ ∃ a37 : Addr, A0 = some a37 ∧ stCells (a37.add ((z28.1.toNat) * 1)) [(.int .i64 n36)] 0 w29.drew fun w38 => next30 ((IntKind.wrap .i64 (z28.1 + 1)), (IntKind.wrap .i64 (z28.2.1 + 1)), ()) w38))) (next30 (z28.1, (IntKind.wrap .i64 (z28.2.1 + 1)), ()) w29.drew)))) (((0 : Int) ≤ z28.1 ∧ z28.1 ≤ ((n0 : Nat) : Int) ∧ Run Tryz.prog (Builtin.clear_ #[24] 0 #[(.slice (if c0 = (z28.1.toNat) then A0 else A0.map (·.add ((z28.1.toNat) * szOf Tryz.prog 3))) (n0 - (z28.1.toNat)) (c0 - (z28.1.toNat)))]) w29 fun v39 w40 => v39 = .tuple #[] ∧ ((0 : Int) ≤ z28.1 ∧ z28.1 ≤ ((c0 : Nat) : Int) ∧ K (.slice A0 (z28.1.toNat) c0) w40)))) (z21.1, 1, ()) w22.drew)) (next23 ((IntKind.wrap .i64 (z21.1 + 1)), ()) w22.drew)))) (K (.slice A0 n0 c0) w22)) (1, ()) w)

def slices_Compact_int_int.ann : Ann := (.seq .l (.seq (.seq .l (.two (.seq .l .l) .l)) (.seq (.seq .l (.one (.loop [(3, .int .i64)] (.seq (.seq .l (.two .l .l)) (.seq (.one (.seq .l (.two (.seq .l (.seq (.seq .l (.one (.loop [(3, .int .i64), (5, .int .i64)] (.seq (.seq .l (.two .l .l)) (.seq (.one (.seq .l (.two (.seq .l .l) .l))) .l))))) (.seq .l (.seq .l .l)))) .l))) .l))))) (.seq .l .l))))

theorem slices_Compact_int_int.start {A0 : Option Addr} {n0 : Nat} {c0 : Nat} {w : World} {K : Value → World → Prop} (h : slices_Compact_int_int.vc A0 n0 c0 w K) : Cll Tryz.prog 269 #[(.slice A0 n0 c0)] w K :=
  vcF_sound mixed (fn := Tryz.f269) (by kernel_rfl) (by kernel_rfl) (an := slices_Compact_int_int.ann) (args := [(.slice A0 n0 c0)]) (Eq.mpr (by kernel_rfl) h)

theorem slices_Compact_int_int.con {xs0 : List Int} {A0 : Option Addr} {c0 : Nat} {r : List Int} {w : World} (hp : M.slices_Compact_int_int_pre xs0) (hr : r = M.slices_Compact_int_int xs0) (O1 : Own el3 w 0 A0 c0 xs0) :
    Cll Tryz.prog 269 #[(.slice A0 xs0.length c0)] w (fun v_ w_ => ∃ (A0_ : Option Addr) (c0_ : Nat), v_ = (.slice A0_ r.length c0_) ∧ Own el3 w_ 0 A0_ c0_ r ∧ Mov w A0 A0_ ∧ Chg (InB A0) w w_) := by
  have H := wp.slices_Compact_int_int.math xs0 hp
  have hB := Chg.refl (InB A0) w
  refine slices_Compact_int_int.start ?_
  unfold slices_Compact_int_int.vc
  unfold wp.slices_Compact_int_int at H
  refine bcase_mk (fun hc68 => ?_) (fun hc68 => ?_)
  · have H := (bcase_iff.1 H).1 hc68
    obtain rfl := hr.trans H.symm
    exact ⟨A0, c0, rfl, (O1.mono (Nat.zero_le _)), (Mov.same _ _), hB⟩
  have H := (bcase_iff.1 H).2 hc68
  obtain ⟨J23, ⟨m66, hJ65⟩, hS24⟩ := H
  refine ⟨fun m_ z_ w_ => ∃ (i21 : Int), z_ = (i21, ()) ∧ J23 m_ (i21, ()) ∧ Chg (InB A0) w w_ ∧ Own el3 w_ 0 A0 c0 xs0, ⟨m66, 1, rfl, hJ65, hB, O1⟩, ?_⟩
  rintro m22 _ w26 ⟨i21, rfl, hJ67, hB, O1⟩
  have H := hS24 m22 _ hJ67
  clear hS24 hJ67
  try dsimp only at H ⊢
  refine bcase_mk (fun hc63 => ?_) (fun hc63 => ?_)
  · have H := (bcase_iff.1 H).1 hc63
    obtain ⟨⟨h0_31, h1_32⟩, H⟩ := H
    obtain ⟨a29, ha30, hat28⟩ := Row.at O1.row h0_31 h1_32
    refine ⟨h0_31, h1_32, a29, ha30, ?_⟩
    refine ⟨_, (hat28 0 _ rfl), ?_⟩
    obtain ⟨⟨h0_36, h1_37⟩, H⟩ := H
    obtain ⟨a34, ha35, hat33⟩ := Row.at O1.row h0_36 h1_37
    refine ⟨h0_36, h1_37, a34, ha35, ?_⟩
    refine ⟨_, (hat33 0 _ rfl), ?_⟩
    have O1 := O1.ext (Ext.drew _)
    have hB := hB.then (Ext.drew _)
    refine bcase_mk (fun hc62 => ?_) (fun hc62 => ?_)
    · have H := (bcase_iff.1 H).1 hc62
      obtain ⟨⟨hl38, hl39⟩, H⟩ := H
      refine and_assoc.1 ⟨⟨hl38, hl39⟩, ?_⟩
      rw [show (xs0.length - (i21.toNat)) = ((List.drop (i21.toNat) xs0)).length from by first | rfl | (simp; done) | (simp; omega)]
      have O2 := (O1.drop (l := (i21.toNat)) (by first | omega | (simp; done) | (simp; omega)))
      obtain ⟨J43, ⟨m57, hJ56⟩, hS44⟩ := H
      refine ⟨fun m_ z_ w_ => ∃ (i40 : Int) (i41 : Int), z_ = (i40, i41, ()) ∧ J43 m_ (i40, i41, ()) ∧ Chg (InB A0) w w_ ∧ Own el3 w_ 0 A0 c0 xs0, ⟨m57, i21, 1, rfl, hJ56, hB, O1⟩, ?_⟩
      rintro m42 _ w46 ⟨i40, i41, rfl, hJ58, hB, O1⟩
      have H := hS44 m42 _ hJ58
      clear hS44 hJ58
      try dsimp only at H ⊢
      refine bcase_mk (fun hc54 => ?_) (fun hc54 => ?_)
      · have H := (bcase_iff.1 H).1 hc54
        exact H.elim
      have H := (bcase_iff.1 H).2 hc54
      obtain ⟨⟨hl48, hl49⟩, H⟩ := H
      refine and_assoc.1 ⟨⟨hl48, hl49⟩, ?_⟩
      rw [show (xs0.length - (i40.toNat)) = ((List.drop (i40.toNat) xs0)).length from by first | rfl | (simp; done) | (simp; omega)]
      have O3 := (O1.drop (l := (i40.toNat)) (by first | omega | (simp; done) | (simp; omega)))
      refine clearCut slt24 O1 (l := (i40.toNat)) (by first | omega | (simp; omega)) (by first | rfl | (simp; done) | (simp; omega)) (fun w50 P1 e51 => ?_)
      have hB := hB.app e51 (fun g h_ => (Or.inr h_))
      have O1 := P1
      obtain ⟨⟨hh52, hh53⟩, H⟩ := H
      refine and_assoc.1 ⟨⟨hh52, Int.le_trans hh53 (Int.ofNat_le.2 O1.le)⟩, ?_⟩
      rw [show (i40.toNat) = ((List.take (i40.toNat) (List.take (i40.toNat) xs0 ++ List.replicate (xs0.length - (i40.toNat)) default))).length from by first | rfl | (simp; done) | (simp; omega)]
      have O4 := (O1.take (i40.toNat))
      obtain rfl := hr.trans H.symm
      exact ⟨A0, c0, rfl, (O4.mono (Nat.zero_le _)), (Mov.same _ _), hB⟩
    have H := (bcase_iff.1 H).2 hc62
    obtain ⟨m59, hm60, hJ61⟩ := H
    exact ⟨m59, hm60, (IntKind.wrap .i64 (i21 + 1)), rfl, hJ61, hB, O1⟩
  have H := (bcase_iff.1 H).2 hc63
  obtain rfl := hr.trans H.symm
  exact ⟨A0, c0, rfl, (O1.mono (Nat.zero_le _)), (Mov.same _ _), hB⟩
def impl_next.vc (A0 : Option Addr) (n0 : Nat) (c0 : Nat) (x1 : Int) (w : World) (K : Value → World → Prop) : Prop :=
  bcase (x1 == ((n0 : Nat) : Int)) (Run Tryz.prog (Instr.buildSlice 24 0 #[]) w fun v21 w22 => ∃ (A23 : Option Addr) (n24 c25 : Nat), v21 = .slice A23 n24 c25 ∧ K (.slice A23 n24 c25) w22) (((0 : Int) ≤ x1 ∧ x1 < ((n0 : Nat) : Int) ∧ ∃ a26 : Addr, A0 = some a26 ∧ ∃ (n27 : Int), w.cell? ((a26.add ((x1.toNat) * 4)).add 0) = some (.int .i64 n27) ∧ ∃ (n28 : Int), w.cell? ((a26.add ((x1.toNat) * 4)).add 1) = some (.int .i64 n28) ∧ ∃ (n29 : Int), w.cell? ((a26.add ((x1.toNat) * 4)).add 2) = some (.int .i64 n29) ∧ ∃ (n30 : Int), w.cell? ((a26.add ((x1.toNat) * 4)).add 3) = some (.int .i64 n30) ∧ newK w (.cells #[(.int .i64 0), (.int .i64 0), (.int .i64 0), (.int .i64 0)] 89) fun g31 w32 => stCells (⟨g31, 0, none⟩ : Addr) [(.int .i64 n27), (.int .i64 n28), (.int .i64 n29), (.int .i64 n30)] 0 w32 fun w33 => ∃ (n34 : Int), w33.cell? (((⟨g31, 0, none⟩ : Addr).add 0).add 0) = some (.int .i64 n34) ∧ bcase (n34 == 12) (Run Tryz.prog (Instr.buildSlice 24 1 #[(0, (.int .i64 ((n0 : Nat) : Int)))]) w33 fun v35 w36 => ∃ (A37 : Option Addr) (n38 c39 : Nat), v35 = .slice A37 n38 c39 ∧ K (.slice A37 n38 c39) w36) (bcase (n34 == 11) (∃ (n40 : Int), w33.cell? (((⟨g31, 0, none⟩ : Addr).add 2).add 0) = some (.int .i64 n40) ∧ Run Tryz.prog (Instr.buildSlice 24 1 #[(0, (.int .i64 n40))]) w33 fun v41 w42 => ∃ (A43 : Option Addr) (n44 c45 : Nat), v41 = .slice A43 n44 c45 ∧ K (.slice A43 n44 c45) w42) (bcase (n34 == 10) (∃ (n46 : Int), w33.cell? (((⟨g31, 0, none⟩ : Addr).add 2).add 0) = some (.int .i64 n46) ∧ Run Tryz.prog (Instr.buildSlice 24 2 #[(0, (.int .i64 n46)), (1, (.int .i64 (IntKind.wrap .i64 (x1 + 1))))]) w33 fun v47 w48 => ∃ (A49 : Option Addr) (n50 c51 : Nat), v47 = .slice A49 n50 c51 ∧ Cll Tryz.prog 268 #[(.slice A49 n50 c51)] w48 fun v52 w53 => (v52 = (.tuple #[]) ∧ Cll Tryz.prog 269 #[(.slice A49 n50 c51)] w53 fun v54 w55 => (∃ (A56 : Option Addr) (n57 : Nat) (c58 : Nat), v54 = (.slice A56 n57 c58) ∧ K (.slice A56 n57 c58) w55))) (Run Tryz.prog (Instr.buildSlice 24 1 #[(0, (.int .i64 (IntKind.wrap .i64 (x1 + 1))))]) w33 fun v59 w60 => ∃ (A61 : Option Addr) (n62 c63 : Nat), v59 = .slice A61 n62 c63 ∧ K (.slice A61 n62 c63) w60)))))

def impl_next.ann : Ann := (.seq .l (.seq (.seq .l (.two (.seq .l .l) .l)) (.seq (.seq .l (.seq .l (.one (.seq .l (.two (.seq .l .l) (.seq .l (.two (.seq .l .l) (.seq .l (.two (.seq .l (.seq .l (.seq .l .l))) .l))))))))) (.seq .l .l))))

theorem impl_next.start {A0 : Option Addr} {n0 : Nat} {c0 : Nat} {x1 : Int} {w : World} {K : Value → World → Prop} (h : impl_next.vc A0 n0 c0 x1 w K) : Cll Tryz.prog 229 #[(.slice A0 n0 c0), (.int .i64 x1)] w K :=
  vcF_sound mixed (fn := Tryz.f229) (by kernel_rfl) (by kernel_rfl) (an := impl_next.ann) (args := [(.slice A0 n0 c0), (.int .i64 x1)]) (Eq.mpr (by kernel_rfl) h)

theorem impl_next.con {xs0 : List D.Ins} {A0 : Option Addr} {c0 : Nat} {x1 : Int} {r : List Int} {w : World} (hp : M.impl_next_pre xs0 x1) (hr : r = M.impl_next xs0 x1) (R0 : Row el89 w A0 xs0) (hc0 : xs0.length ≤ c0) :
    Cll Tryz.prog 229 #[(.slice A0 xs0.length c0), (.int .i64 x1)] w (fun v_ w_ => ∃ (A0_ : Option Addr) (c0_ : Nat), v_ = (.slice A0_ r.length c0_) ∧ Own el3 w_ w.heap.size A0_ c0_ r ∧ Ext w w_) := by
  have H := wp.impl_next.math xs0 x1 hp
  have hB := Ext.refl w
  refine impl_next.start ?_
  unfold impl_next.vc
  unfold wp.impl_next at H
  refine bcase_mk (fun hc61 => ?_) (fun hc61 => ?_)
  · have H := (bcase_iff.1 H).1 hc61
    refine buildOwn el3 ([] : List Int) (fun _ => by kernel_rfl) rfl (fun A21 w22 P2 e23 => ?_)
    have O2 := P2.mono hB.size
    have hB := ethen hB e23
    obtain rfl := hr.trans H.symm
    exact ⟨A21, 0, (by first | rfl | (simp; done) | (simp; omega) | (simp [*]; done)), (by first | exact O2 | (simp only [List.length_set]; exact O2)), hB⟩
  have H := (bcase_iff.1 H).2 hc61
  obtain ⟨⟨h0_27, h1_28⟩, H⟩ := H
  obtain ⟨a25, ha26, hat24⟩ := Row.at (R0.ext hB) h0_27 h1_28
  refine ⟨h0_27, h1_28, a25, ha26, ?_⟩
  refine ⟨_, (hat24 0 _ rfl), ?_⟩
  refine ⟨_, (hat24 1 _ rfl), ?_⟩
  refine ⟨_, (hat24 2 _ rfl), ?_⟩
  refine ⟨_, (hat24 3 _ rfl), ?_⟩
  refine newBlk (fun g3_ w29 L3 P3 e30 => ?_)
  have O3 := P3
  have L3 := Nat.le_trans hB.size L3
  have hB := ethen hB e30
  refine stBlk O3 (o := 0) (cs' := #[(.int .i64 ((rd xs0 x1).Op)), (.int .i64 ((rd xs0 x1).A)), (.int .i64 ((rd xs0 x1).B)), (.int .i64 ((rd xs0 x1).C))]) rfl rfl (Nat.le_of_ble_eq_true rfl) rfl (fun w31 P3 e32 => ?_)
  have hB := echg hB e32 L3
  have O3 := P3
  refine ⟨_, (O3.at 0 rfl rfl), ?_⟩
  refine bcase_mk (fun hc60 => ?_) (fun hc60 => ?_)
  · have H := (bcase_iff.1 H).1 hc60
    refine buildOwn el3 ([((xs0.length : Nat) : Int)] : List Int) (fun _ => by kernel_rfl) rfl (fun A33 w34 P4 e35 => ?_)
    have N4_3 := P4.apart_old O3.lt
    have O3 := O3.ext e35
    have O4 := P4.mono hB.size
    have hB := ethen hB e35
    obtain rfl := hr.trans H.symm
    exact ⟨A33, 1, (by first | rfl | (simp; done) | (simp; omega) | (simp [*]; done)), (by first | exact O4 | (simp only [List.length_set]; exact O4)), hB⟩
  have H := (bcase_iff.1 H).2 hc60
  refine bcase_mk (fun hc59 => ?_) (fun hc59 => ?_)
  · have H := (bcase_iff.1 H).1 hc59
    refine ⟨_, (O3.at 2 rfl rfl), ?_⟩
    refine buildOwn el3 ([(rd xs0 x1).B] : List Int) (fun _ => by kernel_rfl) rfl (fun A36 w37 P5 e38 => ?_)
    have N5_3 := P5.apart_old O3.lt
    have O3 := O3.ext e38
    have O5 := P5.mono hB.size
    have hB := ethen hB e38
    obtain rfl := hr.trans H.symm
    exact ⟨A36, 1, (by first | rfl | (simp; done) | (simp; omega) | (simp [*]; done)), (by first | exact O5 | (simp only [List.length_set]; exact O5)), hB⟩
  have H := (bcase_iff.1 H).2 hc59
  refine bcase_mk (fun hc58 => ?_) (fun hc58 => ?_)
  · have H := (bcase_iff.1 H).1 hc58
    refine ⟨_, (O3.at 2 rfl rfl), ?_⟩
    refine buildOwn el3 ([(rd xs0 x1).B, (IntKind.wrap .i64 (x1 + 1))] : List Int) (fun _ => by kernel_rfl) rfl (fun A39 w40 P6 e41 => ?_)
    have N6_3 := P6.apart_old O3.lt
    have O3 := O3.ext e41
    have O6 := P6.mono hB.size
    have hB := ethen hB e41
    obtain ⟨hp44, H⟩ := H
    obtain ⟨r42, hr43⟩ : ∃ r_, r_ = M.slices_Sort_int_int ([(rd xs0 x1).B, (IntKind.wrap .i64 (x1 + 1))] : List Int) := ⟨_, rfl⟩
    have H := H r42 hr43
    refine (cllArgs (by first | (simp only [List.length_set]; done) | (simp; done)) (slices_Sort_int_int.con hp44 hr43 (O6.mono (Nat.zero_le _)))).mono ?_
    rintro _ w45 ⟨rfl, Q6, hl47, e46⟩
    have hB := Chg.ext hB e46 O6.low
    have O6 := Q6.up O6
    refine ⟨rfl, ?_⟩
    obtain ⟨hp50, H⟩ := H
    obtain ⟨r48, hr49⟩ : ∃ r_, r_ = M.slices_Compact_int_int r42 := ⟨_, rfl⟩
    have H := H r48 hr49
    refine (cllArgs (by first | (simp only [List.length_set, hl47]; done) | (simp; done)) (slices_Compact_int_int.con hp50 hr49 (O6.mono (Nat.zero_le _)))).mono ?_
    rintro _ w51 ⟨A53, c54, rfl, P7, Mv7, e52⟩
    have Lw7 := Mv7.low O6.low hB.size
    have hB := Chg.ext hB e52 O6.low
    have O7 := P7.lift Lw7
    refine ⟨A53, r48.length, c54, rfl, ?_⟩
    obtain rfl := hr.trans H.symm
    exact ⟨A53, c54, rfl, O7, hB⟩
  have H := (bcase_iff.1 H).2 hc58
  refine buildOwn el3 ([(IntKind.wrap .i64 (x1 + 1))] : List Int) (fun _ => by kernel_rfl) rfl (fun A55 w56 P8 e57 => ?_)
  have O8 := P8.mono hB.size
  have hB := ethen hB e57
  obtain rfl := hr.trans H.symm
  exact ⟨A55, 1, (by first | rfl | (simp; done) | (simp; omega) | (simp [*]; done)), (by first | exact O8 | (simp only [List.length_set]; exact O8)), hB⟩
def impl_BranchesOf.vc (A0 : Option Addr) (n0 : Nat) (c0 : Nat) (w : World) (K : Value → World → Prop) : Prop :=
  Cll Tryz.prog 140 #[(.slice A0 n0 c0)] w fun v21 w22 => (∃ (b23 : Bool), v21 = (.bool b23) ∧ bcase (!b23) (K (.slice none 0 0) w22) (Run Tryz.prog (Instr.buildSlice 24 0 #[]) w22 fun v24 w25 => ∃ (A26 : Option Addr) (n27 c28 : Nat), v24 = .slice A26 n27 c28 ∧ LoopT (σ := (Option Addr × Nat × Nat) × Int × Unit) (fun z29 w30 next31 => bcase (decide (z29.2.1 < ((n0 : Nat) : Int))) (Cll Tryz.prog 229 #[(.slice A0 n0 c0), (.int .i64 z29.2.1)] w30 fun v32 w33 => (∃ (A34 : Option Addr) (n35 : Nat) (c36 : Nat), v32 = (.slice A34 n35 c36) ∧ bcase (((n35 : Nat) : Int) == 2) (Run Tryz.prog (Instr.buildSlice 24 1 #[(0, (.int .i64 z29.2.1))]) w33 fun v37 w38 => ∃ (A39 : Option Addr) (n40 c41 : Nat), v37 = .slice A39 n40 c41 ∧ Run Tryz.prog (Builtin.append_ #[24, 24] 24 #[(.slice z29.1.1 z29.1.2.1 z29.1.2.2), (.slice A39 n40 c41)]) w38 fun v42 w43 => ∃ (A44 : Option Addr) (n45 c46 : Nat), v42 = .slice A44 n45 c46 ∧ next31 ((A44, n45, c46), (IntKind.wrap .i64 (z29.2.1 + 1)), ()) w43) (next31 ((z29.1.1, z29.1.2.1, z29.1.2.2), (IntKind.wrap .i64 (z29.2.1 + 1)), ()) w33))) (K (.slice z29.1.1 z29.1.2.1 z29.1.2.2) w30)) ((A26, n27, c28), 0, ()) w25))

def impl_BranchesOf.ann : Ann := (.seq .l (.seq (.seq .l (.two (.seq .l .l) .l)) (.seq .l (.seq (.seq .l (.one (.loop [(3, .sl), (11, .int .i64)] (.seq .l (.seq (.two .l .l) (.seq (.one (.seq .l (.seq .l (.two .l .l)))) .l)))))) (.seq .l .l)))))

theorem impl_BranchesOf.start {A0 : Option Addr} {n0 : Nat} {c0 : Nat} {w : World} {K : Value → World → Prop} (h : impl_BranchesOf.vc A0 n0 c0 w K) : Cll Tryz.prog 267 #[(.slice A0 n0 c0)] w K :=
  vcF_sound mixed (fn := Tryz.f267) (by kernel_rfl) (by kernel_rfl) (an := impl_BranchesOf.ann) (args := [(.slice A0 n0 c0)]) (Eq.mpr (by kernel_rfl) h)

theorem impl_BranchesOf.con {xs0 : List D.Ins} {A0 : Option Addr} {c0 : Nat} {r : List Int} {w : World} (hp : M.impl_BranchesOf_pre xs0) (hr : r = M.impl_BranchesOf xs0) (R0 : Row el89 w A0 xs0) (hc0 : xs0.length ≤ c0) :
    Cll Tryz.prog 267 #[(.slice A0 xs0.length c0)] w (fun v_ w_ => ∃ (A0_ : Option Addr) (c0_ : Nat), v_ = (.slice A0_ r.length c0_) ∧ Own el3 w_ w.heap.size A0_ c0_ r ∧ Ext w w_) := by
  have H := wp.impl_BranchesOf.math xs0 hp
  have hB := Ext.refl w
  refine impl_BranchesOf.start ?_
  unfold impl_BranchesOf.vc
  unfold wp.impl_BranchesOf at H
  obtain ⟨hp23, H⟩ := H
  obtain ⟨r21, hr22⟩ : ∃ r_, r_ = M.impl_ProgramOk xs0 := ⟨_, rfl⟩
  have H := H r21 hr22
  refine (impl_ProgramOk.con hp23 hr22 (R0.ext hB) hc0).mono ?_
  rintro _ w24 ⟨rfl, e25⟩
  have hB := ethen hB e25
  refine ⟨r21, rfl, ?_⟩
  refine bcase_mk (fun hc65 => ?_) (fun hc65 => ?_)
  · have H := (bcase_iff.1 H).1 hc65
    obtain rfl := hr.trans H.symm
    exact ⟨none, 0, rfl, Own.nil, hB⟩
  have H := (bcase_iff.1 H).2 hc65
  refine buildOwn el3 ([] : List Int) (fun _ => by kernel_rfl) rfl (fun A26 w27 P2 e28 => ?_)
  have O2 := P2.mono hB.size
  have hB := ethen hB e28
  obtain ⟨J34, ⟨m63, hJ62⟩, hS35⟩ := H
  refine ⟨fun m_ z_ w_ => ∃ (xs29 : List Int) (i32 : Int) (A30 : Option Addr) (c31 : Nat), z_ = ((A30, xs29.length, c31), i32, ()) ∧ J34 m_ (xs29, i32, ()) ∧ Ext w w_ ∧ Own el3 w_ w.heap.size A30 c31 xs29, ⟨m63, ([] : List Int), 0, A26, 0, rfl, hJ62, hB, O2⟩, ?_⟩
  rintro m33 _ w37 ⟨xs29, i32, A30, c31, rfl, hJ64, hB, O3⟩
  have H := hS35 m33 _ hJ64
  clear hS35 hJ64
  try dsimp only at H ⊢
  refine bcase_mk (fun hc60 => ?_) (fun hc60 => ?_)
  · have H := (bcase_iff.1 H).1 hc60
    obtain ⟨hp40, H⟩ := H
    obtain ⟨r38, hr39⟩ : ∃ r_, r_ = M.impl_next xs0 i32 := ⟨_, rfl⟩
    have H := H r38 hr39
    refine (impl_next.con hp40 hr39 (R0.ext hB) hc0).mono ?_
    rintro _ w41 ⟨A43, c44, rfl, P4, e42⟩
    have N3_4 := Own.apart2_new O3 P4 (Nat.le_refl _)
    have O3 := O3.ext e42
    have O4 := P4.mono hB.size
    have hB := ethen hB e42
    refine ⟨A43, r38.length, c44, rfl, ?_⟩
    refine bcase_mk (fun hc59 => ?_) (fun hc59 => ?_)
    · have H := (bcase_iff.1 H).1 hc59
      refine buildOwn el3 ([i32] : List Int) (fun _ => by kernel_rfl) rfl (fun A45 w46 P5 e47 => ?_)
      have N3_5 := Own.apart2_new O3 P5 (Nat.le_refl _)
      have O3 := O3.ext e47
      have O5 := P5.mono hB.size
      have hB := ethen hB e47
      obtain ⟨hl52, H⟩ := H
      refine appOwn slt24 slt24.under O3 O5.row hB.size rfl (by first | rfl | omega | (simp; done) | (simp; omega)) hl52 (fun A48 c49 w50 P3 e51 => ?_)
      have N5_3_ := Apart2.app (N3_5).symm e51 O5
      have O5 := O5.app e51 (N3_5).symm
      have N5_3 := N5_3_
      have hB := eapp hB e51 O3
      have O3 := P3
      obtain ⟨m53, hm54, hJ55⟩ := H
      exact ⟨m53, hm54, (xs29 ++ ([i32] : List Int)), (IntKind.wrap .i64 (i32 + 1)), A48, c49, rfl, hJ55, hB, O3⟩
    have H := (bcase_iff.1 H).2 hc59
    obtain ⟨m56, hm57, hJ58⟩ := H
    exact ⟨m56, hm57, xs29, (IntKind.wrap .i64 (i32 + 1)), A30, c31, rfl, hJ58, hB, O3⟩
  have H := (bcase_iff.1 H).2 hc60
  obtain rfl := hr.trans H.symm
  exact ⟨A30, c31, rfl, O3, hB⟩
def impl_isBranch.vc (A0 : Option Addr) (n0 : Nat) (c0 : Nat) (x1 : Int) (w : World) (K : Value → World → Prop) : Prop :=
  Cll Tryz.prog 267 #[(.slice A0 n0 c0)] w fun v21 w22 => (∃ (A23 : Option Addr) (n24 : Nat) (c25 : Nat), v21 = (.slice A23 n24 c25) ∧ Cll Tryz.prog 266 #[(.slice A23 n24 c25), (.int .i64 x1)] w22 fun v26 w27 => (∃ (b28 : Bool), v26 = (.bool b28) ∧ K (.bool b28) w27))

def impl_isBranch.ann : Ann := (.seq .l (.seq .l .l))

theorem impl_isBranch.start {A0 : Option Addr} {n0 : Nat} {c0 : Nat} {x1 : Int} {w : World} {K : Value → World → Prop} (h : impl_isBranch.vc A0 n0 c0 x1 w K) : Cll Tryz.prog 228 #[(.slice A0 n0 c0), (.int .i64 x1)] w K :=
  vcF_sound mixed (fn := Tryz.f228) (by kernel_rfl) (by kernel_rfl) (an := impl_isBranch.ann) (args := [(.slice A0 n0 c0), (.int .i64 x1)]) (Eq.mpr (by kernel_rfl) h)

theorem impl_isBranch.con {xs0 : List D.Ins} {A0 : Option Addr} {c0 : Nat} {x1 : Int} {r : Bool} {w : World} (hp : M.impl_isBranch_pre xs0 x1) (hr : r = M.impl_isBranch xs0 x1) (R0 : Row el89 w A0 xs0) (hc0 : xs0.length ≤ c0) :
    Cll Tryz.prog 228 #[(.slice A0 xs0.length c0), (.int .i64 x1)] w (fun v_ w_ => v_ = (.bool r) ∧ Ext w w_) := by
  have H := wp.impl_isBranch.math xs0 x1 hp
  have hB := Ext.refl w
  refine impl_isBranch.start ?_
  unfold impl_isBranch.vc
  unfold wp.impl_isBranch at H
  obtain ⟨hp23, H⟩ := H
  obtain ⟨r21, hr22⟩ : ∃ r_, r_ = M.impl_BranchesOf xs0 := ⟨_, rfl⟩
  have H := H r21 hr22
  refine (impl_BranchesOf.con hp23 hr22 (R0.ext hB) hc0).mono ?_
  rintro _ w24 ⟨A26, c27, rfl, P2, e25⟩
  have O2 := P2.mono hB.size
  have hB := ethen hB e25
  refine ⟨A26, r21.length, c27, rfl, ?_⟩
  obtain ⟨hp30, H⟩ := H
  obtain ⟨r28, hr29⟩ : ∃ r_, r_ = M.slices_Contains_int_int r21 x1 := ⟨_, rfl⟩
  have H := H r28 hr29
  refine (slices_Contains_int_int.con hp30 hr29 O2.row O2.le).mono ?_
  rintro _ w31 ⟨rfl, e32⟩
  have O2 := O2.ext e32
  have hB := ethen hB e32
  refine ⟨r28, rfl, ?_⟩
  obtain rfl := hr.trans H.symm
  exact ⟨rfl, hB⟩
def impl_reached.vc (A0 : Option Addr) (n0 : Nat) (c0 : Nat) (A1 : Option Addr) (n1 : Nat) (c1 : Nat) (x2 : Int) (w : World) (K : Value → World → Prop) : Prop :=
  vcMake Tryz.prog 195 (IntKind.wrap .i64 (((n0 : Nat) : Int) + 1)) (IntKind.wrap .i64 (((n0 : Nat) : Int) + 1)) w fun g21 w22 => Cll Tryz.prog 128 #[(.slice A1 n1 c1)] w22 fun v23 w24 => (∃ (A25 : Option Addr) (n26 : Nat) (c27 : Nat), v23 = (.slice A25 n26 c27) ∧ LoopT (σ := (Option Addr × Nat × Nat) × Unit) (fun z28 w29 next30 => bcase (decide (((z28.1.2.1 : Nat) : Int) > 0)) (((0 : Int) ≤ 0 ∧ 0 < ((z28.1.2.1 : Nat) : Int) ∧ ∃ a31 : Addr, z28.1.1 = some a31 ∧ ∃ (n32 : Int), w29.cell? ((a31.add (((0 : Int).toNat) * 1)).add 0) = some (.int .i64 n32) ∧ ((0 : Int) ≤ 1 ∧ 1 ≤ ((z28.1.2.1 : Nat) : Int) ∧ bcase (n32 == x2) (next30 (((if z28.1.2.2 = ((1 : Int).toNat) then z28.1.1 else z28.1.1.map (·.add (((1 : Int).toNat) * szOf Tryz.prog 3))), (z28.1.2.1 - ((1 : Int).toNat)), (z28.1.2.2 - ((1 : Int).toNat))), ()) w29) (((0 : Int) ≤ n32 ∧ n32 < ((((IntKind.wrap .i64 (((n0 : Nat) : Int) + 1)).toNat) : Nat) : Int) ∧ ∃ a34 : Addr, (some (⟨g21, 0, none⟩ : Addr)) = some a34 ∧ ∃ (b35 : Bool), w29.cell? ((a34.add ((n32.toNat) * 1)).add 0) = some (.bool b35) ∧ bcase b35 (next30 (((if z28.1.2.2 = ((1 : Int).toNat) then z28.1.1 else z28.1.1.map (·.add (((1 : Int).toNat) * szOf Tryz.prog 3))), (z28.1.2.1 - ((1 : Int).toNat)), (z28.1.2.2 - ((1 : Int).toNat))), ()) w29) (((0 : Int) ≤ n32 ∧ n32 < ((((IntKind.wrap .i64 (((n0 : Nat) : Int) + 1)).toNat) : Nat) : Int) ∧ ∃ a36 : Addr, (some (⟨g21, 0, none⟩ : Addr)) = some a36 ∧ stCells (a36.add ((n32.toNat) * 1)) [(.bool true)] 0 w29 fun w37 => Cll Tryz.prog 229 #[(.slice A0 n0 c0), (.int .i64 n32)] w37 fun v38 w39 => (∃ (A40 : Option Addr) (n41 : Nat) (c42 : Nat), v38 = (.slice A40 n41 c42) ∧ Run Tryz.prog (Builtin.append_ #[24, 24] 24 #[(.slice (if z28.1.2.2 = ((1 : Int).toNat) then z28.1.1 else z28.1.1.map (·.add (((1 : Int).toNat) * szOf Tryz.prog 3))) (z28.1.2.1 - ((1 : Int).toNat)) (z28.1.2.2 - ((1 : Int).toNat))), (.slice A40 n41 c42)]) w39 fun v43 w44 => ∃ (A45 : Option Addr) (n46 c47 : Nat), v43 = .slice A45 n46 c47 ∧ next30 ((A45, n46, c47), ()) w44)))))))) (K (.slice (some (⟨g21, 0, none⟩ : Addr)) ((IntKind.wrap .i64 (((n0 : Nat) : Int) + 1)).toNat) ((IntKind.wrap .i64 (((n0 : Nat) : Int) + 1)).toNat)) w29)) ((A25, n26, c27), ()) w24)

def impl_reached.ann : Ann := (.seq .l (.seq .l (.seq .l (.seq (.one (.loop [(8, .sl)] (.seq (.seq .l (.two .l .l)) (.one (.seq .l (.seq .l (.seq (.seq .l (.two .l .l)) (.seq .l .l)))))))) (.seq .l .l)))))

theorem impl_reached.start {A0 : Option Addr} {n0 : Nat} {c0 : Nat} {A1 : Option Addr} {n1 : Nat} {c1 : Nat} {x2 : Int} {w : World} {K : Value → World → Prop} (h : impl_reached.vc A0 n0 c0 A1 n1 c1 x2 w K) : Cll Tryz.prog 270 #[(.slice A0 n0 c0), (.slice A1 n1 c1), (.int .i64 x2)] w K :=
  vcF_sound mixed (fn := Tryz.f270) (by kernel_rfl) (by kernel_rfl) (an := impl_reached.ann) (args := [(.slice A0 n0 c0), (.slice A1 n1 c1), (.int .i64 x2)]) (Eq.mpr (by kernel_rfl) h)

theorem impl_reached.con {xs0 : List D.Ins} {A0 : Option Addr} {c0 : Nat} {xs1 : List Int} {A1 : Option Addr} {c1 : Nat} {x2 : Int} {r : List Bool} {w : World} (hp : M.impl_reached_pre xs0 xs1 x2) (hr : r = M.impl_reached xs0 xs1 x2) (R0 : Row el89 w A0 xs0) (hc0 : xs0.length ≤ c0) (R1 : Row el3 w A1 xs1) (hc1 : xs1.length ≤ c1) :
    Cll Tryz.prog 270 #[(.slice A0 xs0.length c0), (.slice A1 xs1.length c1), (.int .i64 x2)] w (fun v_ w_ => ∃ (A0_ : Option Addr) (c0_ : Nat), v_ = (.slice A0_ r.length c0_) ∧ Own el4 w_ w.heap.size A0_ c0_ r ∧ Ext w w_) := by
  have H := wp.impl_reached.math xs0 xs1 x2 hp
  have hB := Ext.refl w
  refine impl_reached.start ?_
  unfold impl_reached.vc
  unfold wp.impl_reached at H
  obtain ⟨⟨h0_24, h1_25⟩, H⟩ := H
  refine makeOwn slt195 h0_24 h1_25 (fun g21 w22 P3 e23 => ?_)
  have O3 := P3.mono hB.size
  have hB := ethen hB e23
  obtain ⟨hp28, H⟩ := H
  obtain ⟨r26, hr27⟩ : ∃ r_, r_ = M.slices_Clone_int_int xs1 := ⟨_, rfl⟩
  have H := H r26 hr27
  refine (slices_Clone_int_int.con hp28 hr27 (R1.ext hB) hc1).mono ?_
  rintro _ w29 ⟨A31, c32, rfl, P4, e30⟩
  have N3_4 := Own.apart2_new O3 P4 (Nat.le_refl _)
  have O3 := O3.ext e30
  have O4 := P4.mono hB.size
  have hB := ethen hB e30
  refine ⟨A31, r26.length, c32, rfl, ?_⟩
  obtain ⟨J85, ⟨m135, hJ134⟩, hS86⟩ := H
  refine ⟨fun m_ z_ w_ => ∃ (xs79 : List Int) (xs82 : List Bool) (A80 : Option Addr) (c81 : Nat), z_ = ((A80, xs79.length, c81), ()) ∧ J85 m_ (xs79, xs82, ()) ∧ Ext w w_ ∧ Own el3 w_ w.heap.size A80 c81 xs79 ∧ Own el4 w_ w.heap.size (some (⟨g21, 0, none⟩ : Addr)) ((IntKind.wrap .i64 (((xs0.length : Nat) : Int) + 1)).toNat) xs82 ∧ ((IntKind.wrap .i64 (((xs0.length : Nat) : Int) + 1)).toNat) = xs82.length, ⟨m135, r26, (List.replicate ((IntKind.wrap .i64 (((xs0.length : Nat) : Int) + 1)).toNat) (default : Bool)), A31, c32, rfl, hJ134, hB, O4, O3, (by first | rfl | assumption | omega | (simp; done) | (simp; omega) | (simp; assumption))⟩, ?_⟩
  rintro m84 _ w88 ⟨xs79, xs82, A80, c81, rfl, hJ136, hB, O8, O3, hn83⟩
  have H := hS86 m84 _ hJ136
  clear hS86 hJ136
  try dsimp only at H ⊢
  refine bcase_mk (fun hc132 => ?_) (fun hc132 => ?_)
  · have H := (bcase_iff.1 H).1 hc132
    obtain ⟨⟨h0_92, h1_93⟩, H⟩ := H
    obtain ⟨a90, ha91, hat89⟩ := Row.at O8.row h0_92 h1_93
    refine ⟨h0_92, h1_93, a90, ha91, ?_⟩
    refine ⟨_, (hat89 0 _ rfl), ?_⟩
    obtain ⟨⟨hl94, hl95⟩, H⟩ := H
    refine and_assoc.1 ⟨⟨hl94, hl95⟩, ?_⟩
    rw [show (xs79.length - ((1 : Int).toNat)) = ((List.drop ((1 : Int).toNat) xs79)).length from by first | rfl | (simp; done) | (simp; omega)]
    have O9 := (O8.drop (l := ((1 : Int).toNat)) (by first | omega | (simp; done) | (simp; omega)))
    refine bcase_mk (fun hc131 => ?_) (fun hc131 => ?_)
    · have H := (bcase_iff.1 H).1 hc131
      obtain ⟨m96, hm97, hJ98⟩ := H
      exact ⟨m96, hm97, (List.drop ((1 : Int).toNat) xs79), xs82, (cutA c81 ((1 : Int).toNat) A80 1), (c81 - ((1 : Int).toNat)), rfl, hJ98, hB, O9, O3, (by first | rfl | assumption | omega | (simp; done) | (simp; omega) | (simp; assumption))⟩
    have H := (bcase_iff.1 H).2 hc131
    obtain ⟨⟨h0_102, h1_103⟩, H⟩ := H
    obtain ⟨a100, ha101, hat99⟩ := Row.at O3.row h0_102 h1_103
    refine ⟨h0_102, (by first | exact h1_103 | omega | (simp at h1_103 ⊢; omega)), a100, ha101, ?_⟩
    refine ⟨_, (hat99 0 _ rfl), ?_⟩
    refine bcase_mk (fun hc130 => ?_) (fun hc130 => ?_)
    · have H := (bcase_iff.1 H).1 hc130
      obtain ⟨m104, hm105, hJ106⟩ := H
      exact ⟨m104, hm105, (List.drop ((1 : Int).toNat) xs79), xs82, (cutA c81 ((1 : Int).toNat) A80 1), (c81 - ((1 : Int).toNat)), rfl, hJ106, hB, O9, O3, (by first | rfl | assumption | omega | (simp; done) | (simp; omega) | (simp; assumption))⟩
    have H := (bcase_iff.1 H).2 hc130
    obtain ⟨⟨h0_110, h1_111⟩, H⟩ := H
    obtain ⟨a108, ha109, hat107⟩ := Row.at O3.row h0_110 h1_111
    refine ⟨h0_110, (by first | exact h1_111 | omega | (simp at h1_111 ⊢; omega)), a108, ha109, ?_⟩
    refine Own.storeAt O3 ha109 h0_110 h1_111 0 [(.bool true)] true rfl (Nat.le_of_ble_eq_true rfl) rfl (fun w112 P3 e113 hb114 => ?_)
    have O8_ := O8.chg e113 (((Own.apart2_type O8 O3 (by decide))).left ha109)
    have O9_ := O9.chg e113 (((cutApart2 (Own.apart2_type O8 O3 (by decide)))).left ha109)
    have O8 := O8_
    have O9 := O9_
    have hB := echg hB e113 hb114
    have O3 := P3
    obtain ⟨hp117, H⟩ := H
    obtain ⟨r115, hr116⟩ : ∃ r_, r_ = M.impl_next xs0 (rd xs79 0) := ⟨_, rfl⟩
    have H := H r115 hr116
    refine (impl_next.con hp117 hr116 (R0.ext hB) hc0).mono ?_
    rintro _ w118 ⟨A120, c121, rfl, P10, e119⟩
    have N3_10 := Own.apart2_new O3 P10 (Nat.le_refl _)
    have N8_10 := Own.apart2_new O8 P10 (Nat.le_refl _)
    have N9_10 := Own.apart2_new O9 P10 (Nat.le_refl _)
    have O3 := O3.ext e119
    have O8 := O8.ext e119
    have O9 := O9.ext e119
    have O10 := P10.mono hB.size
    have hB := ethen hB e119
    refine ⟨A120, r115.length, c121, rfl, ?_⟩
    obtain ⟨hl126, H⟩ := H
    refine appOwn slt24 slt24.under O9 O10.row hB.size rfl rfl hl126 (fun A122 c123 w124 P9 e125 => ?_)
    have N3_9_ := Apart2.app (cutApart2 (Own.apart2_type O3 O8 (by decide)).symm).symm e125 O3
    have O3 := O3.app e125 (cutApart2 (Own.apart2_type O3 O8 (by decide)).symm).symm
    have N10_9_ := Apart2.app (N9_10).symm e125 O10
    have O10 := O10.app e125 (N9_10).symm
    have N3_9 := N3_9_
    have N10_9 := N10_9_
    have hB := eapp hB e125 O9
    have O9 := P9
    obtain ⟨m127, hm128, hJ129⟩ := H
    exact ⟨m127, hm128, ((List.drop ((1 : Int).toNat) xs79) ++ r115), (List.set xs82 ((rd xs79 0).toNat) true), A122, c123, rfl, hJ129, hB, O9, O3, (by first | rfl | assumption | omega | (simp; done) | (simp; omega) | (simp; assumption))⟩
  have H := (bcase_iff.1 H).2 hc132
  obtain rfl := hr.trans H.symm
  exact ⟨(some (⟨g21, 0, none⟩ : Addr)), ((IntKind.wrap .i64 (((xs0.length : Nat) : Int) + 1)).toNat), (by first | rfl | (rw [hn83]; done) | (simp; done) | (simp; omega) | (simp [*]; done)), (by first | exact O3 | (simp only [List.length_set]; exact O3) | (rw [← hn83]; exact O3)), hB⟩
def impl_reachesExit.vc (A0 : Option Addr) (n0 : Nat) (c0 : Nat) (x1 : Int) (w : World) (K : Value → World → Prop) : Prop :=
  Run Tryz.prog (Instr.buildSlice 24 1 #[(0, (.int .i64 x1))]) w fun v21 w22 => ∃ (A23 : Option Addr) (n24 c25 : Nat), v21 = .slice A23 n24 c25 ∧ Cll Tryz.prog 270 #[(.slice A0 n0 c0), (.slice A23 n24 c25), (.int .i64 (-1))] w22 fun v26 w27 => (∃ (A28 : Option Addr) (n29 : Nat) (c30 : Nat), v26 = (.slice A28 n29 c30) ∧ ((0 : Int) ≤ ((n0 : Nat) : Int) ∧ ((n0 : Nat) : Int) < ((n29 : Nat) : Int) ∧ ∃ a31 : Addr, A28 = some a31 ∧ ∃ (b32 : Bool), w27.cell? ((a31.add ((((n0 : Nat) : Int).toNat) * 1)).add 0) = some (.bool b32) ∧ K (.bool b32) w27))

def impl_reachesExit.ann : Ann := (.seq .l (.seq .l .l))

theorem impl_reachesExit.start {A0 : Option Addr} {n0 : Nat} {c0 : Nat} {x1 : Int} {w : World} {K : Value → World → Prop} (h : impl_reachesExit.vc A0 n0 c0 x1 w K) : Cll Tryz.prog 230 #[(.slice A0 n0 c0), (.int .i64 x1)] w K :=
  vcF_sound mixed (fn := Tryz.f230) (by kernel_rfl) (by kernel_rfl) (an := impl_reachesExit.ann) (args := [(.slice A0 n0 c0), (.int .i64 x1)]) (Eq.mpr (by kernel_rfl) h)

theorem impl_reachesExit.con {xs0 : List D.Ins} {A0 : Option Addr} {c0 : Nat} {x1 : Int} {r : Bool} {w : World} (hp : M.impl_reachesExit_pre xs0 x1) (hr : r = M.impl_reachesExit xs0 x1) (R0 : Row el89 w A0 xs0) (hc0 : xs0.length ≤ c0) :
    Cll Tryz.prog 230 #[(.slice A0 xs0.length c0), (.int .i64 x1)] w (fun v_ w_ => v_ = (.bool r) ∧ Ext w w_) := by
  have H := wp.impl_reachesExit.math xs0 x1 hp
  have hB := Ext.refl w
  refine impl_reachesExit.start ?_
  unfold impl_reachesExit.vc
  unfold wp.impl_reachesExit at H
  refine buildOwn el3 ([x1] : List Int) (fun _ => by kernel_rfl) rfl (fun A21 w22 P2 e23 => ?_)
  have O2 := P2.mono hB.size
  have hB := ethen hB e23
  obtain ⟨hp26, H⟩ := H
  obtain ⟨r24, hr25⟩ : ∃ r_, r_ = M.impl_reached xs0 ([x1] : List Int) (-1) := ⟨_, rfl⟩
  have H := H r24 hr25
  refine (cllArgs (by first | (simp only [List.length_set]; done) | (simp; done)) (impl_reached.con hp26 hr25 (R0.ext hB) hc0 O2.row O2.le)).mono ?_
  rintro _ w27 ⟨A29, c30, rfl, P3, e28⟩
  have N2_3 := Own.apart2_new O2 P3 (Nat.le_refl _)
  have O2 := O2.ext e28
  have O3 := P3.mono hB.size
  have hB := ethen hB e28
  refine ⟨A29, r24.length, c30, rfl, ?_⟩
  obtain ⟨⟨h0_34, h1_35⟩, H⟩ := H
  obtain ⟨a32, ha33, hat31⟩ := Row.at O3.row h0_34 h1_35
  refine ⟨h0_34, h1_35, a32, ha33, ?_⟩
  refine ⟨_, (hat31 0 _ rfl), ?_⟩
  obtain rfl := hr.trans H.symm
  exact ⟨rfl, hB⟩
def impl_isNode.vc (A0 : Option Addr) (n0 : Nat) (c0 : Nat) (x1 : Int) (w : World) (K : Value → World → Prop) : Prop :=
  Cll Tryz.prog 140 #[(.slice A0 n0 c0)] w fun v21 w22 => (∃ (b23 : Bool), v21 = (.bool b23) ∧ bcase b23 (Cll Tryz.prog 75 #[(.int .i64 x1), (.int .i64 0), (.int .i64 ((n0 : Nat) : Int))] w22 fun v24 w25 => (∃ (b26 : Bool), v24 = (.bool b26) ∧ K (.bool b26) w25)) (K (.bool false) w22))

def impl_isNode.ann : Ann := (.seq .l (.seq .l .l))

theorem impl_isNode.start {A0 : Option Addr} {n0 : Nat} {c0 : Nat} {x1 : Int} {w : World} {K : Value → World → Prop} (h : impl_isNode.vc A0 n0 c0 x1 w K) : Cll Tryz.prog 303 #[(.slice A0 n0 c0), (.int .i64 x1)] w K :=
  vcF_sound mixed (fn := Tryz.f303) (by kernel_rfl) (by kernel_rfl) (an := impl_isNode.ann) (args := [(.slice A0 n0 c0), (.int .i64 x1)]) (Eq.mpr (by kernel_rfl) h)

theorem impl_isNode.con {xs0 : List D.Ins} {A0 : Option Addr} {c0 : Nat} {x1 : Int} {r : Bool} {w : World} (hp : M.impl_isNode_pre xs0 x1) (hr : r = M.impl_isNode xs0 x1) (R0 : Row el89 w A0 xs0) (hc0 : xs0.length ≤ c0) :
    Cll Tryz.prog 303 #[(.slice A0 xs0.length c0), (.int .i64 x1)] w (fun v_ w_ => v_ = (.bool r) ∧ Ext w w_) := by
  have H := wp.impl_isNode.math xs0 x1 hp
  have hB := Ext.refl w
  refine impl_isNode.start ?_
  unfold impl_isNode.vc
  unfold wp.impl_isNode at H
  obtain ⟨hp23, H⟩ := H
  obtain ⟨r21, hr22⟩ : ∃ r_, r_ = M.impl_ProgramOk xs0 := ⟨_, rfl⟩
  have H := H r21 hr22
  refine (impl_ProgramOk.con hp23 hr22 (R0.ext hB) hc0).mono ?_
  rintro _ w24 ⟨rfl, e25⟩
  have hB := ethen hB e25
  refine ⟨r21, rfl, ?_⟩
  refine bcase_mk (fun hc31 => ?_) (fun hc31 => ?_)
  · have H := (bcase_iff.1 H).1 hc31
    obtain ⟨r26, hr27⟩ : ∃ r_, r_ = M.impl_within x1 0 ((xs0.length : Nat) : Int) := ⟨_, rfl⟩
    have H := H r26 hr27
    refine (impl_within.con hr27 ).mono ?_
    rintro _ w29 ⟨rfl, e30⟩
    have hB := ethen hB e30
    refine ⟨r26, rfl, ?_⟩
    obtain rfl := hr.trans H.symm
    exact ⟨rfl, hB⟩
  have H := (bcase_iff.1 H).2 hc31
  obtain rfl := hr.trans H.symm
  exact ⟨rfl, hB⟩
def impl_isAfter.vc (A0 : Option Addr) (n0 : Nat) (c0 : Nat) (x1 : Int) (x2 : Int) (w : World) (K : Value → World → Prop) : Prop :=
  Cll Tryz.prog 230 #[(.slice A0 n0 c0), (.int .i64 x1)] w fun v21 w22 => (∃ (b23 : Bool), v21 = (.bool b23) ∧ bcase b23 (Run Tryz.prog (Instr.buildSlice 24 1 #[(0, (.int .i64 x1))]) w22 fun v24 w25 => ∃ (A26 : Option Addr) (n27 c28 : Nat), v24 = .slice A26 n27 c28 ∧ Cll Tryz.prog 270 #[(.slice A0 n0 c0), (.slice A26 n27 c28), (.int .i64 x2)] w25 fun v29 w30 => (∃ (A31 : Option Addr) (n32 : Nat) (c33 : Nat), v29 = (.slice A31 n32 c33) ∧ ((0 : Int) ≤ ((n0 : Nat) : Int) ∧ ((n0 : Nat) : Int) < ((n32 : Nat) : Int) ∧ ∃ a34 : Addr, A31 = some a34 ∧ ∃ (b35 : Bool), w30.cell? ((a34.add ((((n0 : Nat) : Int).toNat) * 1)).add 0) = some (.bool b35) ∧ K (.bool (!b35)) w30))) (K (.bool false) w22))

def impl_isAfter.ann : Ann := (.seq .l (.seq .l .l))

theorem impl_isAfter.start {A0 : Option Addr} {n0 : Nat} {c0 : Nat} {x1 : Int} {x2 : Int} {w : World} {K : Value → World → Prop} (h : impl_isAfter.vc A0 n0 c0 x1 x2 w K) : Cll Tryz.prog 290 #[(.slice A0 n0 c0), (.int .i64 x1), (.int .i64 x2)] w K :=
  vcF_sound mixed (fn := Tryz.f290) (by kernel_rfl) (by kernel_rfl) (an := impl_isAfter.ann) (args := [(.slice A0 n0 c0), (.int .i64 x1), (.int .i64 x2)]) (Eq.mpr (by kernel_rfl) h)

theorem impl_isAfter.con {xs0 : List D.Ins} {A0 : Option Addr} {c0 : Nat} {x1 : Int} {x2 : Int} {r : Bool} {w : World} (hp : M.impl_isAfter_pre xs0 x1 x2) (hr : r = M.impl_isAfter xs0 x1 x2) (R0 : Row el89 w A0 xs0) (hc0 : xs0.length ≤ c0) :
    Cll Tryz.prog 290 #[(.slice A0 xs0.length c0), (.int .i64 x1), (.int .i64 x2)] w (fun v_ w_ => v_ = (.bool r) ∧ Ext w w_) := by
  have H := wp.impl_isAfter.math xs0 x1 x2 hp
  have hB := Ext.refl w
  refine impl_isAfter.start ?_
  unfold impl_isAfter.vc
  unfold wp.impl_isAfter at H
  obtain ⟨hp23, H⟩ := H
  obtain ⟨r21, hr22⟩ : ∃ r_, r_ = M.impl_reachesExit xs0 x1 := ⟨_, rfl⟩
  have H := H r21 hr22
  refine (impl_reachesExit.con hp23 hr22 (R0.ext hB) hc0).mono ?_
  rintro _ w24 ⟨rfl, e25⟩
  have hB := ethen hB e25
  refine ⟨r21, rfl, ?_⟩
  refine bcase_mk (fun hc41 => ?_) (fun hc41 => ?_)
  · have H := (bcase_iff.1 H).1 hc41
    refine buildOwn el3 ([x1] : List Int) (fun _ => by kernel_rfl) rfl (fun A26 w27 P2 e28 => ?_)
    have O2 := P2.mono hB.size
    have hB := ethen hB e28
    obtain ⟨hp31, H⟩ := H
    obtain ⟨r29, hr30⟩ : ∃ r_, r_ = M.impl_reached xs0 ([x1] : List Int) x2 := ⟨_, rfl⟩
    have H := H r29 hr30
    refine (cllArgs (by first | (simp only [List.length_set]; done) | (simp; done)) (impl_reached.con hp31 hr30 (R0.ext hB) hc0 O2.row O2.le)).mono ?_
    rintro _ w32 ⟨A34, c35, rfl, P3, e33⟩
    have N2_3 := Own.apart2_new O2 P3 (Nat.le_refl _)
    have O2 := O2.ext e33
    have O3 := P3.mono hB.size
    have hB := ethen hB e33
    refine ⟨A34, r29.length, c35, rfl, ?_⟩
    obtain ⟨⟨h0_39, h1_40⟩, H⟩ := H
    obtain ⟨a37, ha38, hat36⟩ := Row.at O3.row h0_39 h1_40
    refine ⟨h0_39, h1_40, a37, ha38, ?_⟩
    refine ⟨_, (hat36 0 _ rfl), ?_⟩
    obtain rfl := hr.trans H.symm
    exact ⟨rfl, hB⟩
  have H := (bcase_iff.1 H).2 hc41
  obtain rfl := hr.trans H.symm
  exact ⟨rfl, hB⟩
def impl_IsAfter.vc (A0 : Option Addr) (n0 : Nat) (c0 : Nat) (x1 : Int) (x2 : Int) (w : World) (K : Value → World → Prop) : Prop :=
  Cll Tryz.prog 303 #[(.slice A0 n0 c0), (.int .i64 x1)] w fun v21 w22 => (∃ (b23 : Bool), v21 = (.bool b23) ∧ bcase b23 (Cll Tryz.prog 303 #[(.slice A0 n0 c0), (.int .i64 x2)] w22 fun v24 w25 => (∃ (b26 : Bool), v24 = (.bool b26) ∧ bcase b26 (Cll Tryz.prog 290 #[(.slice A0 n0 c0), (.int .i64 x1), (.int .i64 x2)] w25 fun v27 w28 => (∃ (b29 : Bool), v27 = (.bool b29) ∧ K (.bool b29) w28)) (K (.bool false) w25))) (K (.bool false) w22))

def impl_IsAfter.ann : Ann := (.seq .l (.seq .l .l))

theorem impl_IsAfter.start {A0 : Option Addr} {n0 : Nat} {c0 : Nat} {x1 : Int} {x2 : Int} {w : World} {K : Value → World → Prop} (h : impl_IsAfter.vc A0 n0 c0 x1 x2 w K) : Cll Tryz.prog 291 #[(.slice A0 n0 c0), (.int .i64 x1), (.int .i64 x2)] w K :=
  vcF_sound mixed (fn := Tryz.f291) (by kernel_rfl) (by kernel_rfl) (an := impl_IsAfter.ann) (args := [(.slice A0 n0 c0), (.int .i64 x1), (.int .i64 x2)]) (Eq.mpr (by kernel_rfl) h)

theorem impl_IsAfter.con {xs0 : List D.Ins} {A0 : Option Addr} {c0 : Nat} {x1 : Int} {x2 : Int} {r : Bool} {w : World} (hp : M.impl_IsAfter_pre xs0 x1 x2) (hr : r = M.impl_IsAfter xs0 x1 x2) (R0 : Row el89 w A0 xs0) (hc0 : xs0.length ≤ c0) :
    Cll Tryz.prog 291 #[(.slice A0 xs0.length c0), (.int .i64 x1), (.int .i64 x2)] w (fun v_ w_ => v_ = (.bool r) ∧ Ext w w_) := by
  have H := wp.impl_IsAfter.math xs0 x1 x2 hp
  have hB := Ext.refl w
  refine impl_IsAfter.start ?_
  unfold impl_IsAfter.vc
  unfold wp.impl_IsAfter at H
  obtain ⟨hp23, H⟩ := H
  obtain ⟨r21, hr22⟩ : ∃ r_, r_ = M.impl_isNode xs0 x1 := ⟨_, rfl⟩
  have H := H r21 hr22
  refine (impl_isNode.con hp23 hr22 (R0.ext hB) hc0).mono ?_
  rintro _ w24 ⟨rfl, e25⟩
  have hB := ethen hB e25
  refine ⟨r21, rfl, ?_⟩
  refine bcase_mk (fun hc37 => ?_) (fun hc37 => ?_)
  · have H := (bcase_iff.1 H).1 hc37
    obtain ⟨hp28, H⟩ := H
    obtain ⟨r26, hr27⟩ : ∃ r_, r_ = M.impl_isNode xs0 x2 := ⟨_, rfl⟩
    have H := H r26 hr27
    refine (impl_isNode.con hp28 hr27 (R0.ext hB) hc0).mono ?_
    rintro _ w29 ⟨rfl, e30⟩
    have hB := ethen hB e30
    refine ⟨r26, rfl, ?_⟩
    refine bcase_mk (fun hc36 => ?_) (fun hc36 => ?_)
    · have H := (bcase_iff.1 H).1 hc36
      obtain ⟨hp33, H⟩ := H
      obtain ⟨r31, hr32⟩ : ∃ r_, r_ = M.impl_isAfter xs0 x1 x2 := ⟨_, rfl⟩
      have H := H r31 hr32
      refine (impl_isAfter.con hp33 hr32 (R0.ext hB) hc0).mono ?_
      rintro _ w34 ⟨rfl, e35⟩
      have hB := ethen hB e35
      refine ⟨r31, rfl, ?_⟩
      obtain rfl := hr.trans H.symm
      exact ⟨rfl, hB⟩
    have H := (bcase_iff.1 H).2 hc36
    obtain rfl := hr.trans H.symm
    exact ⟨rfl, hB⟩
  have H := (bcase_iff.1 H).2 hc37
  obtain rfl := hr.trans H.symm
  exact ⟨rfl, hB⟩
def impl_AftersOf.vc (A0 : Option Addr) (n0 : Nat) (c0 : Nat) (x1 : Int) (w : World) (K : Value → World → Prop) : Prop :=
  Run Tryz.prog (Instr.buildSlice 24 0 #[]) w fun v21 w22 => ∃ (A23 : Option Addr) (n24 c25 : Nat), v21 = .slice A23 n24 c25 ∧ LoopT (σ := (Option Addr × Nat × Nat) × Int × Unit) (fun z26 w27 next28 => bcase (decide (z26.2.1 < (IntKind.wrap .i64 (((n0 : Nat) : Int) + 1)))) (Cll Tryz.prog 291 #[(.slice A0 n0 c0), (.int .i64 x1), (.int .i64 z26.2.1)] w27 fun v29 w30 => (∃ (b31 : Bool), v29 = (.bool b31) ∧ bcase b31 (Run Tryz.prog (Instr.buildSlice 24 1 #[(0, (.int .i64 z26.2.1))]) w30 fun v32 w33 => ∃ (A34 : Option Addr) (n35 c36 : Nat), v32 = .slice A34 n35 c36 ∧ Run Tryz.prog (Builtin.append_ #[24, 24] 24 #[(.slice z26.1.1 z26.1.2.1 z26.1.2.2), (.slice A34 n35 c36)]) w33 fun v37 w38 => ∃ (A39 : Option Addr) (n40 c41 : Nat), v37 = .slice A39 n40 c41 ∧ next28 ((A39, n40, c41), (IntKind.wrap .i64 (z26.2.1 + 1)), ()) w38) (next28 ((z26.1.1, z26.1.2.1, z26.1.2.2), (IntKind.wrap .i64 (z26.2.1 + 1)), ()) w30))) (K (.slice z26.1.1 z26.1.2.1 z26.1.2.2) w27)) ((A23, n24, c25), 0, ()) w22

def impl_AftersOf.ann : Ann := (.seq .l (.seq .l (.seq (.seq .l (.one (.loop [(5, .sl), (11, .int .i64)] (.seq .l (.seq (.two .l .l) (.seq (.one (.seq .l (.seq .l (.two .l .l)))) .l)))))) (.seq .l .l))))

theorem impl_AftersOf.start {A0 : Option Addr} {n0 : Nat} {c0 : Nat} {x1 : Int} {w : World} {K : Value → World → Prop} (h : impl_AftersOf.vc A0 n0 c0 x1 w K) : Cll Tryz.prog 273 #[(.slice A0 n0 c0), (.int .i64 x1)] w K :=
  vcF_sound mixed (fn := Tryz.f273) (by kernel_rfl) (by kernel_rfl) (an := impl_AftersOf.ann) (args := [(.slice A0 n0 c0), (.int .i64 x1)]) (Eq.mpr (by kernel_rfl) h)

theorem impl_AftersOf.con {xs0 : List D.Ins} {A0 : Option Addr} {c0 : Nat} {x1 : Int} {r : List Int} {w : World} (hp : M.impl_AftersOf_pre xs0 x1) (hr : r = M.impl_AftersOf xs0 x1) (R0 : Row el89 w A0 xs0) (hc0 : xs0.length ≤ c0) :
    Cll Tryz.prog 273 #[(.slice A0 xs0.length c0), (.int .i64 x1)] w (fun v_ w_ => ∃ (A0_ : Option Addr) (c0_ : Nat), v_ = (.slice A0_ r.length c0_) ∧ Own el3 w_ w.heap.size A0_ c0_ r ∧ Ext w w_) := by
  have H := wp.impl_AftersOf.math xs0 x1 hp
  have hB := Ext.refl w
  refine impl_AftersOf.start ?_
  unfold impl_AftersOf.vc
  unfold wp.impl_AftersOf at H
  refine buildOwn el3 ([] : List Int) (fun _ => by kernel_rfl) rfl (fun A21 w22 P2 e23 => ?_)
  have O2 := P2.mono hB.size
  have hB := ethen hB e23
  obtain ⟨J29, ⟨m56, hJ55⟩, hS30⟩ := H
  refine ⟨fun m_ z_ w_ => ∃ (xs24 : List Int) (i27 : Int) (A25 : Option Addr) (c26 : Nat), z_ = ((A25, xs24.length, c26), i27, ()) ∧ J29 m_ (xs24, i27, ()) ∧ Ext w w_ ∧ Own el3 w_ w.heap.size A25 c26 xs24, ⟨m56, ([] : List Int), 0, A21, 0, rfl, hJ55, hB, O2⟩, ?_⟩
  rintro m28 _ w32 ⟨xs24, i27, A25, c26, rfl, hJ57, hB, O3⟩
  have H := hS30 m28 _ hJ57
  clear hS30 hJ57
  try dsimp only at H ⊢
  refine bcase_mk (fun hc53 => ?_) (fun hc53 => ?_)
  · have H := (bcase_iff.1 H).1 hc53
    obtain ⟨hp35, H⟩ := H
    obtain ⟨r33, hr34⟩ : ∃ r_, r_ = M.impl_IsAfter xs0 x1 i27 := ⟨_, rfl⟩
    have H := H r33 hr34
    refine (impl_IsAfter.con hp35 hr34 (R0.ext hB) hc0).mono ?_
    rintro _ w36 ⟨rfl, e37⟩
    have O3 := O3.ext e37
    have hB := ethen hB e37
    refine ⟨r33, rfl, ?_⟩
    refine bcase_mk (fun hc52 => ?_) (fun hc52 => ?_)
    · have H := (bcase_iff.1 H).1 hc52
      refine buildOwn el3 ([i27] : List Int) (fun _ => by kernel_rfl) rfl (fun A38 w39 P4 e40 => ?_)
      have N3_4 := Own.apart2_new O3 P4 (Nat.le_refl _)
      have O3 := O3.ext e40
      have O4 := P4.mono hB.size
      have hB := ethen hB e40
      obtain ⟨hl45, H⟩ := H
      refine appOwn slt24 slt24.under O3 O4.row hB.size rfl (by first | rfl | omega | (simp; done) | (simp; omega)) hl45 (fun A41 c42 w43 P3 e44 => ?_)
      have N4_3_ := Apart2.app (N3_4).symm e44 O4
      have O4 := O4.app e44 (N3_4).symm
      have N4_3 := N4_3_
      have hB := eapp hB e44 O3
      have O3 := P3
      obtain ⟨m46, hm47, hJ48⟩ := H
      exact ⟨m46, hm47, (xs24 ++ ([i27] : List Int)), (IntKind.wrap .i64 (i27 + 1)), A41, c42, rfl, hJ48, hB, O3⟩
    have H := (bcase_iff.1 H).2 hc52
    obtain ⟨m49, hm50, hJ51⟩ := H
    exact ⟨m49, hm50, xs24, (IntKind.wrap .i64 (i27 + 1)), A25, c26, rfl, hJ51, hB, O3⟩
  have H := (bcase_iff.1 H).2 hc53
  obtain rfl := hr.trans H.symm
  exact ⟨A25, c26, rfl, O3, hB⟩
def impl_FirstAfter_1.vc (x0 : Int) (p1 : Addr) (w : World) (K : Value → World → Prop) : Prop :=
  ∃ (n21 : Int), w.cell? (p1.add 0) = some (.int .i64 n21) ∧ K (.bool (x0 == n21)) w

def impl_FirstAfter_1.ann : Ann := (.seq .l (.seq .l .l))

theorem impl_FirstAfter_1.start {x0 : Int} {p1 : Addr} {w : World} {K : Value → World → Prop} (h : impl_FirstAfter_1.vc x0 p1 w K) : Cll Tryz.prog 274 #[(.int .i64 x0), (.pointer (some p1))] w K :=
  vcF_sound mixed (fn := Tryz.f274) (by kernel_rfl) (by kernel_rfl) (an := impl_FirstAfter_1.ann) (args := [(.int .i64 x0), (.pointer (some p1))]) (Eq.mpr (by kernel_rfl) h)

theorem impl_FirstAfter_1.con {x0 : Int} {x1 : Int} {g1_ : Nat} {r : Bool} {w : World} (hp : M.impl_FirstAfter_1_pre x0 x1) (hr : r = M.impl_FirstAfter_1 x0 x1) (O1 : Blk w g1_ 3 #[(.int .i64 x1)]) :
    Cll Tryz.prog 274 #[(.int .i64 x0), (.pointer (some (⟨g1_, 0, none⟩ : Addr)))] w (fun v_ w_ => v_ = (.bool r) ∧ Ext w w_) := by
  have H := wp.impl_FirstAfter_1.math x0 x1 hp
  have hB := Ext.refl w
  refine impl_FirstAfter_1.start ?_
  unfold impl_FirstAfter_1.vc
  unfold wp.impl_FirstAfter_1 at H
  refine ⟨_, (O1.at 0 rfl rfl), ?_⟩
  obtain rfl := hr.trans H.symm
  exact ⟨rfl, hB⟩
def slices_DeleteFunc_int_int.vc (A0 : Option Addr) (n0 : Nat) (c0 : Nat) (f1 : Nat) (cap1 : Array Value) (w : World) (K : Value → World → Prop) : Prop :=
  Cll Tryz.prog 265 #[(.slice A0 n0 c0), (.func (.func f1) #[] cap1)] w fun v21 w22 => (∃ (n23 : Int), v21 = (.int .i64 n23) ∧ bcase (n23 == (-1)) (K (.slice A0 n0 c0) w22) (LoopT (σ := Int × Int × Unit) (fun z24 w25 next26 => bcase (decide (z24.2.1 < ((n0 : Nat) : Int))) (((0 : Int) ≤ z24.2.1 ∧ z24.2.1 < ((n0 : Nat) : Int) ∧ ∃ a27 : Addr, A0 = some a27 ∧ ∃ (n28 : Int), w25.cell? ((a27.add ((z24.2.1.toNat) * 1)).add 0) = some (.int .i64 n28) ∧ Cll Tryz.prog f1 (#[(.int .i64 n28)] ++ cap1) w25 fun v29 w30 => (∃ (b31 : Bool), v29 = (.bool b31) ∧ bcase (!b31) (((0 : Int) ≤ z24.1 ∧ z24.1 < ((n0 : Nat) : Int) ∧ ∃ a32 : Addr, A0 = some a32 ∧ stCells (a32.add ((z24.1.toNat) * 1)) [(.int .i64 n28)] 0 w30 fun w33 => next26 ((IntKind.wrap .i64 (z24.1 + 1)), (IntKind.wrap .i64 (z24.2.1 + 1)), ()) w33)) (next26 (z24.1, (IntKind.wrap .i64 (z24.2.1 + 1)), ()) w30)))) (((0 : Int) ≤ z24.1 ∧ z24.1 ≤ ((n0 : Nat) : Int) ∧ Run Tryz.prog (Builtin.clear_ #[24] 0 #[(.slice (if c0 = (z24.1.toNat) then A0 else A0.map (·.add ((z24.1.toNat) * szOf Tryz.prog 3))) (n0 - (z24.1.toNat)) (c0 - (z24.1.toNat)))]) w25 fun v34 w35 => v34 = .tuple #[] ∧ ((0 : Int) ≤ z24.1 ∧ z24.1 ≤ ((c0 : Nat) : Int) ∧ K (.slice A0 (z24.1.toNat) c0) w35)))) (n23, (IntKind.wrap .i64 (n23 + 1)), ()) w22))

def slices_DeleteFunc_int_int.ann : Ann := (.seq .l (.seq .l (.seq (.seq .l (.two (.seq .l .l) .l)) (.seq (.seq .l (.one (.loop [(5, .int .i64), (6, .int .i64)] (.seq (.seq .l (.two .l .l)) (.seq (.one (.seq .l (.seq .l (.two (.seq .l .l) .l)))) .l))))) (.seq .l (.seq .l .l))))))

theorem slices_DeleteFunc_int_int.start {A0 : Option Addr} {n0 : Nat} {c0 : Nat} {f1 : Nat} {cap1 : Array Value} {w : World} {K : Value → World → Prop} (h : slices_DeleteFunc_int_int.vc A0 n0 c0 f1 cap1 w K) : Cll Tryz.prog 272 #[(.slice A0 n0 c0), (.func (.func f1) #[] cap1)] w K :=
  vcF_sound mixed (fn := Tryz.f272) (by kernel_rfl) (by kernel_rfl) (an := slices_DeleteFunc_int_int.ann) (args := [(.slice A0 n0 c0), (.func (.func f1) #[] cap1)]) (Eq.mpr (by kernel_rfl) h)

theorem slices_DeleteFunc_int_int.con {xs0 : List Int} {A0 : Option Addr} {c0 : Nat} {f1 : Nat} {cap1 : Array Value} {g1 : Int → Bool} {D1 : Int → Prop} {r : List Int} {w : World} (hp : M.slices_DeleteFunc_int_int_pre xs0 g1 D1) (hr : r = M.slices_DeleteFunc_int_int xs0 g1) (O1 : Own el3 w 0 A0 c0 xs0) (F1 : ∀ (z0_ : Int), D1 z0_ → ∀ w_ : World, Chg (InB A0) w w_ → Cll Tryz.prog f1 (#[(.int .i64 z0_)] ++ cap1) w_ (fun v_ w1_ => v_ = (.bool (g1 z0_)) ∧ Ext w_ w1_)) :
    Cll Tryz.prog 272 #[(.slice A0 xs0.length c0), (.func (.func f1) #[] cap1)] w (fun v_ w_ => ∃ (A0_ : Option Addr) (c0_ : Nat), v_ = (.slice A0_ r.length c0_) ∧ Own el3 w_ 0 A0_ c0_ r ∧ Mov w A0 A0_ ∧ Chg (InB A0) w w_) := by
  have H := wp.slices_DeleteFunc_int_int.math xs0 g1 D1 hp
  have hB := Chg.refl (InB A0) w
  refine slices_DeleteFunc_int_int.start ?_
  unfold slices_DeleteFunc_int_int.vc
  unfold wp.slices_DeleteFunc_int_int at H
  obtain ⟨hp23, H⟩ := H
  obtain ⟨r21, hr22⟩ : ∃ r_, r_ = M.slices_IndexFunc_int_int xs0 g1 := ⟨_, rfl⟩
  have H := H r21 hr22
  refine (slices_IndexFunc_int_int.con hp23 hr22 O1.row O1.le (fun z0_  h_ w_ e_ => F1 z0_  h_ w_ (hB.then e_))).mono ?_
  rintro _ w24 ⟨rfl, e25⟩
  have O1 := O1.ext e25
  have hB := hB.then e25
  refine ⟨r21, rfl, ?_⟩
  refine bcase_mk (fun hc96 => ?_) (fun hc96 => ?_)
  · have H := (bcase_iff.1 H).1 hc96
    obtain rfl := hr.trans H.symm
    exact ⟨A0, c0, rfl, (O1.mono (Nat.zero_le _)), (Mov.same _ _), hB⟩
  have H := (bcase_iff.1 H).2 hc96
  obtain ⟨J56, ⟨m94, hJ93⟩, hS57⟩ := H
  refine ⟨fun m_ z_ w_ => ∃ (i51 : Int) (i52 : Int) (xs53 : List Int), z_ = (i51, i52, ()) ∧ J56 m_ (i51, i52, xs53, ()) ∧ Chg (InB A0) w w_ ∧ Own el3 w_ 0 A0 c0 xs53 ∧ xs0.length = xs53.length, ⟨m94, r21, (IntKind.wrap .i64 (r21 + 1)), xs0, rfl, hJ93, hB, O1, (by first | rfl | assumption | omega | (simp; done) | (simp; omega) | (simp; assumption))⟩, ?_⟩
  rintro m55 _ w59 ⟨i51, i52, xs53, rfl, hJ95, hB, O1, hn54⟩
  have H := hS57 m55 _ hJ95
  clear hS57 hJ95
  try dsimp only at H ⊢
  refine bcase_mk (fun hc91 => ?_) (fun hc91 => ?_)
  · have H := (bcase_iff.1 H).1 hc91
    obtain ⟨⟨h0_63, h1_64⟩, H⟩ := H
    obtain ⟨a61, ha62, hat60⟩ := Row.at O1.row h0_63 h1_64
    refine ⟨h0_63, (by first | exact h1_64 | omega | (simp at h1_64 ⊢; omega)), a61, ha62, ?_⟩
    refine ⟨_, (hat60 0 _ rfl), ?_⟩
    obtain ⟨hd67, H⟩ := H
    obtain ⟨r65, hr66⟩ : ∃ r_, r_ = g1 (rd xs53 i52) := ⟨_, rfl⟩
    have H := H r65 hr66
    refine (F1 (rd xs53 i52) hd67 _ hB).mono ?_
    rintro _ w68 ⟨rfl, e69⟩
    rw [← hr66]
    have O1 := O1.ext e69
    have hB := hB.then e69
    refine ⟨r65, rfl, ?_⟩
    refine bcase_mk (fun hc84 => ?_) (fun hc84 => ?_)
    · have H := (bcase_iff.1 H).1 hc84
      obtain ⟨⟨h0_73, h1_74⟩, H⟩ := H
      obtain ⟨a71, ha72, hat70⟩ := Row.at O1.row h0_73 h1_74
      refine ⟨h0_73, (by first | exact h1_74 | omega | (simp at h1_74 ⊢; omega)), a71, ha72, ?_⟩
      refine Own.storeAt O1 ha72 h0_73 h1_74 0 [(.int .i64 (rd xs53 i52))] (rd xs53 i52) rfl (Nat.le_of_ble_eq_true rfl) rfl (fun w75 P1 e76 hb77 => ?_)
      have hB := hB.chgb e76 (Or.inr ⟨_, ha72, rfl⟩)
      have O1 := P1
      obtain ⟨m78, hm79, hJ80⟩ := H
      exact ⟨m78, hm79, (IntKind.wrap .i64 (i51 + 1)), (IntKind.wrap .i64 (i52 + 1)), (List.set xs53 (i51.toNat) (rd xs53 i52)), rfl, hJ80, hB, O1, (by first | rfl | assumption | omega | (simp; done) | (simp; omega) | (simp; assumption))⟩
    have H := (bcase_iff.1 H).2 hc84
    obtain ⟨m81, hm82, hJ83⟩ := H
    exact ⟨m81, hm82, i51, (IntKind.wrap .i64 (i52 + 1)), xs53, rfl, hJ83, hB, O1, (by first | rfl | assumption | omega | (simp; done) | (simp; omega) | (simp; assumption))⟩
  have H := (bcase_iff.1 H).2 hc91
  obtain ⟨⟨hl85, hl86⟩, H⟩ := H
  refine and_assoc.1 ⟨⟨hl85, (by first | exact hl86 | omega)⟩, ?_⟩
  rw [show (xs0.length - (i51.toNat)) = ((List.drop (i51.toNat) xs53)).length from by first | rfl | (simp; done) | (simp; omega)]
  have O2 := (O1.drop (l := (i51.toNat)) (by first | omega | (simp; done) | (simp; omega)))
  refine clearCut slt24 O1 (l := (i51.toNat)) (by first | omega | (simp; omega)) (by first | rfl | (simp; done) | (simp; omega)) (fun w87 P1 e88 => ?_)
  have hB := hB.app e88 (fun g h_ => (Or.inr h_))
  have O1 := P1
  obtain ⟨⟨hh89, hh90⟩, H⟩ := H
  refine and_assoc.1 ⟨⟨hh89, Int.le_trans hh90 (Int.ofNat_le.2 O1.le)⟩, ?_⟩
  rw [show (i51.toNat) = ((List.take (i51.toNat) (List.take (i51.toNat) xs53 ++ List.replicate (xs53.length - (i51.toNat)) default))).length from by first | rfl | (simp; done) | (simp; omega)]
  have O3 := (O1.take (i51.toNat))
  obtain rfl := hr.trans H.symm
  exact ⟨A0, c0, rfl, (O3.mono (Nat.zero_le _)), (Mov.same _ _), hB⟩
def impl_firstOf_1.vc (x0 : Int) (p1 : Addr) (p2 : Addr) (w : World) (K : Value → World → Prop) : Prop :=
  ∃ (A21 : Option Addr) (n22 : Nat) (c23 : Nat), w.cell? (p1.add 0) = some (.slice A21 n22 c23) ∧ ∃ (n24 : Int), w.cell? (p2.add 0) = some (.int .i64 n24) ∧ Cll Tryz.prog 290 #[(.slice A21 n22 c23), (.int .i64 n24), (.int .i64 x0)] w fun v25 w26 => (∃ (b27 : Bool), v25 = (.bool b27) ∧ K (.bool (!b27)) w26)

def impl_firstOf_1.ann : Ann := (.seq .l (.seq .l .l))

theorem impl_firstOf_1.start {x0 : Int} {p1 : Addr} {p2 : Addr} {w : World} {K : Value → World → Prop} (h : impl_firstOf_1.vc x0 p1 p2 w K) : Cll Tryz.prog 289 #[(.int .i64 x0), (.pointer (some p1)), (.pointer (some p2))] w K :=
  vcF_sound mixed (fn := Tryz.f289) (by kernel_rfl) (by kernel_rfl) (an := impl_firstOf_1.ann) (args := [(.int .i64 x0), (.pointer (some p1)), (.pointer (some p2))]) (Eq.mpr (by kernel_rfl) h)

theorem impl_firstOf_1.con {x0 : Int} {xs1 : List D.Ins} {x2 : Int} {g1_ : Nat} {A1_0 : Option Addr} {c1_0 : Nat} {g3_ : Nat} {r : Bool} {w : World} (hp : M.impl_firstOf_1_pre x0 xs1 x2) (hr : r = M.impl_firstOf_1 x0 xs1 x2) (O1 : Blk w g1_ 34 #[(.slice A1_0 xs1.length c1_0)]) (R1_0 : Row el89 w A1_0 xs1) (hc1_0 : xs1.length ≤ c1_0) (O3 : Blk w g3_ 3 #[(.int .i64 x2)]) :
    Cll Tryz.prog 289 #[(.int .i64 x0), (.pointer (some (⟨g1_, 0, none⟩ : Addr))), (.pointer (some (⟨g3_, 0, none⟩ : Addr)))] w (fun v_ w_ => v_ = (.bool r) ∧ Ext w w_) := by
  have H := wp.impl_firstOf_1.math x0 xs1 x2 hp
  have hB := Ext.refl w
  refine impl_firstOf_1.start ?_
  unfold impl_firstOf_1.vc
  unfold wp.impl_firstOf_1 at H
  refine ⟨_, _, _, (O1.at 0 rfl rfl), ?_⟩
  refine ⟨_, (O3.at 0 rfl rfl), ?_⟩
  obtain ⟨hp23, H⟩ := H
  obtain ⟨r21, hr22⟩ : ∃ r_, r_ = M.impl_isAfter xs1 x2 x0 := ⟨_, rfl⟩
  have H := H r21 hr22
  refine (impl_isAfter.con hp23 hr22 (R1_0.ext hB) hc1_0).mono ?_
  rintro _ w24 ⟨rfl, e25⟩
  have O1 := O1.ext e25
  have O3 := O3.ext e25
  have hB := ethen hB e25
  refine ⟨r21, rfl, ?_⟩
  obtain rfl := hr.trans H.symm
  exact ⟨rfl, hB⟩
def impl_firstOf.vc (A0 : Option Addr) (n0 : Nat) (c0 : Nat) (A1 : Option Addr) (n1 : Nat) (c1 : Nat) (w : World) (K : Value → World → Prop) : Prop :=
  newK w (.cells #[(.slice A0 n0 c0)] 34) fun g21 w22 => LoopT (σ := Int × Unit) (fun z23 w24 next25 => bcase (decide (z23.1 < ((n1 : Nat) : Int))) (((0 : Int) ≤ z23.1 ∧ z23.1 < ((n1 : Nat) : Int) ∧ ∃ a26 : Addr, A1 = some a26 ∧ ∃ (n27 : Int), w24.cell? ((a26.add ((z23.1.toNat) * 1)).add 0) = some (.int .i64 n27) ∧ newK w24 (.cells #[(.int .i64 0)] 3) fun g28 w29 => stCells (⟨g28, 0, none⟩ : Addr) [(.int .i64 n27)] 0 w29 fun w30 => Cll Tryz.prog 225 #[(.slice A1 n1 c1), (.func (.func 289) #[] #[(.pointer (some (⟨g21, 0, none⟩ : Addr))), (.pointer (some (⟨g28, 0, none⟩ : Addr)))])] w30 fun v31 w32 => (∃ (b33 : Bool), v31 = (.bool b33) ∧ bcase (!b33) (∃ (n34 : Int), w32.cell? ((⟨g28, 0, none⟩ : Addr).add 0) = some (.int .i64 n34) ∧ K (.int .i64 n34) w32) (next25 ((IntKind.wrap .i64 (z23.1 + 1)), ()) w32)))) (K (.int .i64 (-1)) w24)) (0, ()) w22

def impl_firstOf.ann : Ann := (.seq .l (.seq (.seq .l (.one (.loop [(9, .int .i64)] (.seq .l (.seq (.two .l .l) (.seq (.one (.seq .l (.seq .l (.two (.seq .l .l) .l)))) .l)))))) (.seq .l .l)))

theorem impl_firstOf.start {A0 : Option Addr} {n0 : Nat} {c0 : Nat} {A1 : Option Addr} {n1 : Nat} {c1 : Nat} {w : World} {K : Value → World → Prop} (h : impl_firstOf.vc A0 n0 c0 A1 n1 c1 w K) : Cll Tryz.prog 271 #[(.slice A0 n0 c0), (.slice A1 n1 c1)] w K :=
  vcF_sound mixed (fn := Tryz.f271) (by kernel_rfl) (by kernel_rfl) (an := impl_firstOf.ann) (args := [(.slice A0 n0 c0), (.slice A1 n1 c1)]) (Eq.mpr (by kernel_rfl) h)

theorem impl_firstOf.con {xs0 : List D.Ins} {A0 : Option Addr} {c0 : Nat} {xs1 : List Int} {A1 : Option Addr} {c1 : Nat} {r : Int} {w : World} (hp : M.impl_firstOf_pre xs0 xs1) (hr : r = M.impl_firstOf xs0 xs1) (R0 : Row el89 w A0 xs0) (hc0 : xs0.length ≤ c0) (R1 : Row el3 w A1 xs1) (hc1 : xs1.length ≤ c1) :
    Cll Tryz.prog 271 #[(.slice A0 xs0.length c0), (.slice A1 xs1.length c1)] w (fun v_ w_ => v_ = (.int .i64 r) ∧ Ext w w_) := by
  have H := wp.impl_firstOf.math xs0 xs1 hp
  have hB := Ext.refl w
  refine impl_firstOf.start ?_
  unfold impl_firstOf.vc
  unfold wp.impl_firstOf at H
  refine newBlk (fun g3_ w21 L3 P3 e22 => ?_)
  have O3 := P3
  have L3 := Nat.le_trans hB.size L3
  have hB := ethen hB e22
  obtain ⟨J25, ⟨m50, hJ49⟩, hS26⟩ := H
  refine ⟨fun m_ z_ w_ => ∃ (i23 : Int), z_ = (i23, ()) ∧ J25 m_ (i23, ()) ∧ Ext w w_ ∧ Blk w_ g3_ 34 #[(.slice A0 xs0.length c0)], ⟨m50, 0, rfl, hJ49, hB, O3⟩, ?_⟩
  rintro m24 _ w28 ⟨i23, rfl, hJ51, hB, O3⟩
  have H := hS26 m24 _ hJ51
  clear hS26 hJ51
  try dsimp only at H ⊢
  refine bcase_mk (fun hc47 => ?_) (fun hc47 => ?_)
  · have H := (bcase_iff.1 H).1 hc47
    obtain ⟨⟨h0_32, h1_33⟩, H⟩ := H
    obtain ⟨a30, ha31, hat29⟩ := Row.at (R1.ext hB) h0_32 h1_33
    refine ⟨h0_32, h1_33, a30, ha31, ?_⟩
    refine ⟨_, (hat29 0 _ rfl), ?_⟩
    refine newBlk (fun g4_ w34 L4 P4 e35 => ?_)
    have N3_4 := O3.ne L4
    have O3 := O3.ext e35
    have O4 := P4
    have L4 := Nat.le_trans hB.size L4
    have hB := ethen hB e35
    refine stBlk O4 (o := 0) (cs' := #[(.int .i64 (rd xs1 i23))]) rfl rfl (Nat.le_of_ble_eq_true rfl) rfl (fun w36 P4 e37 => ?_)
    have O3_ := O3.chg e37 N3_4
    have O3 := O3_
    have hB := echg hB e37 L4
    have O4 := P4
    obtain ⟨hp40, H⟩ := H
    obtain ⟨r38, hr39⟩ : ∃ r_, r_ = M.slices_ContainsFunc_int_int xs1 (fun z0_ => M.impl_firstOf_1 z0_ xs0 (rd xs1 i23)) := ⟨_, rfl⟩
    have H := H r38 hr39
    refine (slices_ContainsFunc_int_int.con hp40 hr39 (R1.ext hB) hc1 (fun z0_ h_ w_ e_ => cllApp (l1 := [_]) (l2 := [_, _]) (impl_firstOf_1.con h_ rfl (O3.ext e_) (R0.ext (ethen hB e_)) hc0 (O4.ext e_)))).mono ?_
    rintro _ w41 ⟨rfl, e42⟩
    have O3 := O3.ext e42
    have O4 := O4.ext e42
    have hB := ethen hB e42
    refine ⟨r38, rfl, ?_⟩
    refine bcase_mk (fun hc46 => ?_) (fun hc46 => ?_)
    · have H := (bcase_iff.1 H).1 hc46
      refine ⟨_, (O4.at 0 rfl rfl), ?_⟩
      obtain rfl := hr.trans H.symm
      exact ⟨rfl, hB⟩
    have H := (bcase_iff.1 H).2 hc46
    obtain ⟨m43, hm44, hJ45⟩ := H
    exact ⟨m43, hm44, (IntKind.wrap .i64 (i23 + 1)), rfl, hJ45, hB, O3⟩
  have H := (bcase_iff.1 H).2 hc47
  obtain rfl := hr.trans H.symm
  exact ⟨rfl, hB⟩
def impl_FirstAfter.vc (A0 : Option Addr) (n0 : Nat) (c0 : Nat) (x1 : Int) (w : World) (K : Value → World → Prop) : Prop :=
  newK w (.cells #[(.int .i64 x1)] 3) fun g21 w22 => ∃ (n23 : Int), w22.cell? ((⟨g21, 0, none⟩ : Addr).add 0) = some (.int .i64 n23) ∧ Cll Tryz.prog 273 #[(.slice A0 n0 c0), (.int .i64 n23)] w22 fun v24 w25 => (∃ (A26 : Option Addr) (n27 : Nat) (c28 : Nat), v24 = (.slice A26 n27 c28) ∧ Cll Tryz.prog 272 #[(.slice A26 n27 c28), (.func (.func 274) #[] #[(.pointer (some (⟨g21, 0, none⟩ : Addr)))])] w25 fun v29 w30 => (∃ (A31 : Option Addr) (n32 : Nat) (c33 : Nat), v29 = (.slice A31 n32 c33) ∧ Cll Tryz.prog 271 #[(.slice A0 n0 c0), (.slice A31 n32 c33)] w30 fun v34 w35 => (∃ (n36 : Int), v34 = (.int .i64 n36) ∧ K (.int .i64 n36) w35)))

def impl_FirstAfter.ann : Ann := (.seq .l (.seq .l .l))

theorem impl_FirstAfter.start {A0 : Option Addr} {n0 : Nat} {c0 : Nat} {x1 : Int} {w : World} {K : Value → World → Prop} (h : impl_FirstAfter.vc A0 n0 c0 x1 w K) : Cll Tryz.prog 231 #[(.slice A0 n0 c0), (.int .i64 x1)] w K :=
  vcF_sound mixed (fn := Tryz.f231) (by kernel_rfl) (by kernel_rfl) (an := impl_FirstAfter.ann) (args := [(.slice A0 n0 c0), (.int .i64 x1)]) (Eq.mpr (by kernel_rfl) h)

theorem impl_FirstAfter.con {xs0 : List D.Ins} {A0 : Option Addr} {c0 : Nat} {x1 : Int} {r : Int} {w : World} (hp : M.impl_FirstAfter_pre xs0 x1) (hr : r = M.impl_FirstAfter xs0 x1) (R0 : Row el89 w A0 xs0) (hc0 : xs0.length ≤ c0) :
    Cll Tryz.prog 231 #[(.slice A0 xs0.length c0), (.int .i64 x1)] w (fun v_ w_ => v_ = (.int .i64 r) ∧ Ext w w_) := by
  have H := wp.impl_FirstAfter.math xs0 x1 hp
  have hB := Ext.refl w
  refine impl_FirstAfter.start ?_
  unfold impl_FirstAfter.vc
  unfold wp.impl_FirstAfter at H
  refine newBlk (fun g2_ w21 L2 P2 e22 => ?_)
  have O2 := P2
  have L2 := Nat.le_trans hB.size L2
  have hB := ethen hB e22
  refine ⟨_, (O2.at 0 rfl rfl), ?_⟩
  obtain ⟨hp25, H⟩ := H
  obtain ⟨r23, hr24⟩ : ∃ r_, r_ = M.impl_AftersOf xs0 x1 := ⟨_, rfl⟩
  have H := H r23 hr24
  refine (impl_AftersOf.con hp25 hr24 (R0.ext hB) hc0).mono ?_
  rintro _ w26 ⟨A28, c29, rfl, P3, e27⟩
  have N3_2 := P3.apart_old O2.lt
  have O2 := O2.ext e27
  have O3 := P3.mono hB.size
  have hB := ethen hB e27
  refine ⟨A28, r23.length, c29, rfl, ?_⟩
  obtain ⟨hp32, H⟩ := H
  obtain ⟨r30, hr31⟩ : ∃ r_, r_ = M.slices_DeleteFunc_int_int r23 (fun z0_ => M.impl_FirstAfter_1 z0_ x1) := ⟨_, rfl⟩
  have H := H r30 hr31
  refine (slices_DeleteFunc_int_int.con hp32 hr31 (O3.mono (Nat.zero_le _)) (fun z0_ h_ w_ e_ => cllApp (l1 := [_]) (l2 := [_]) (impl_FirstAfter_1.con h_ rfl (O2.chgS e_ (N3_2).inb)))).mono ?_
  rintro _ w33 ⟨A35, c36, rfl, P4, Mv4, e34⟩
  have N4_2 := Apart.mov N3_2 Mv4 O2.lt
  have Lw4 := Mv4.low O3.low hB.size
  have O2 := O2.chgS e34 (N3_2).inb
  have hB := Chg.ext hB e34 O3.low
  have O4 := P4.lift Lw4
  refine ⟨A35, r30.length, c36, rfl, ?_⟩
  obtain ⟨hp39, H⟩ := H
  obtain ⟨r37, hr38⟩ : ∃ r_, r_ = M.impl_firstOf xs0 r30 := ⟨_, rfl⟩
  have H := H r37 hr38
  refine (impl_firstOf.con hp39 hr38 (R0.ext hB) hc0 O4.row O4.le).mono ?_
  rintro _ w40 ⟨rfl, e41⟩
  have O2 := O2.ext e41
  have O4 := O4.ext e41
  have hB := ethen hB e41
  refine ⟨r37, rfl, ?_⟩
  obtain rfl := hr.trans H.symm
  exact ⟨rfl, hB⟩
def impl_JoinOf.vc (A0 : Option Addr) (n0 : Nat) (c0 : Nat) (x1 : Int) (w : World) (K : Value → World → Prop) : Prop :=
  Cll Tryz.prog 228 #[(.slice A0 n0 c0), (.int .i64 x1)] w fun v21 w22 => (∃ (b23 : Bool), v21 = (.bool b23) ∧ bcase (!b23) (K (.int .i64 (-1)) w22) (Cll Tryz.prog 229 #[(.slice A0 n0 c0), (.int .i64 x1)] w22 fun v24 w25 => (∃ (A26 : Option Addr) (n27 : Nat) (c28 : Nat), v24 = (.slice A26 n27 c28) ∧ LoopT (σ := Int × Unit) (fun z29 w30 next31 => bcase (decide (z29.1 < ((n27 : Nat) : Int))) (((0 : Int) ≤ z29.1 ∧ z29.1 < ((n27 : Nat) : Int) ∧ ∃ a32 : Addr, A26 = some a32 ∧ ∃ (n33 : Int), w30.cell? ((a32.add ((z29.1.toNat) * 1)).add 0) = some (.int .i64 n33) ∧ Cll Tryz.prog 230 #[(.slice A0 n0 c0), (.int .i64 n33)] w30 fun v34 w35 => (∃ (b36 : Bool), v34 = (.bool b36) ∧ bcase (!b36) (K (.int .i64 ((n0 : Nat) : Int)) w35) (next31 ((IntKind.wrap .i64 (z29.1 + 1)), ()) w35)))) (Cll Tryz.prog 231 #[(.slice A0 n0 c0), (.int .i64 x1)] w30 fun v37 w38 => (∃ (n39 : Int), v37 = (.int .i64 n39) ∧ K (.int .i64 n39) w38))) (0, ()) w25)))

def impl_JoinOf.ann : Ann := (.seq .l (.seq (.seq .l (.two (.seq .l .l) .l)) (.seq (.seq .l (.one (.loop [(15, .int .i64)] (.seq .l (.seq (.two .l .l) (.seq (.one (.seq .l (.seq .l (.two (.seq .l .l) .l)))) .l)))))) (.seq .l .l))))

theorem impl_JoinOf.start {A0 : Option Addr} {n0 : Nat} {c0 : Nat} {x1 : Int} {w : World} {K : Value → World → Prop} (h : impl_JoinOf.vc A0 n0 c0 x1 w K) : Cll Tryz.prog 200 #[(.slice A0 n0 c0), (.int .i64 x1)] w K :=
  vcF_sound mixed (fn := Tryz.f200) (by kernel_rfl) (by kernel_rfl) (an := impl_JoinOf.ann) (args := [(.slice A0 n0 c0), (.int .i64 x1)]) (Eq.mpr (by kernel_rfl) h)

theorem impl_JoinOf.con {xs0 : List D.Ins} {A0 : Option Addr} {c0 : Nat} {x1 : Int} {r : Int} {w : World} (hp : M.impl_JoinOf_pre xs0 x1) (hr : r = M.impl_JoinOf xs0 x1) (R0 : Row el89 w A0 xs0) (hc0 : xs0.length ≤ c0) :
    Cll Tryz.prog 200 #[(.slice A0 xs0.length c0), (.int .i64 x1)] w (fun v_ w_ => v_ = (.int .i64 r) ∧ Ext w w_) := by
  have H := wp.impl_JoinOf.math xs0 x1 hp
  have hB := Ext.refl w
  refine impl_JoinOf.start ?_
  unfold impl_JoinOf.vc
  unfold wp.impl_JoinOf at H
  obtain ⟨hp23, H⟩ := H
  obtain ⟨r21, hr22⟩ : ∃ r_, r_ = M.impl_isBranch xs0 x1 := ⟨_, rfl⟩
  have H := H r21 hr22
  refine (impl_isBranch.con hp23 hr22 (R0.ext hB) hc0).mono ?_
  rintro _ w24 ⟨rfl, e25⟩
  have hB := ethen hB e25
  refine ⟨r21, rfl, ?_⟩
  refine bcase_mk (fun hc63 => ?_) (fun hc63 => ?_)
  · have H := (bcase_iff.1 H).1 hc63
    obtain rfl := hr.trans H.symm
    exact ⟨rfl, hB⟩
  have H := (bcase_iff.1 H).2 hc63
  obtain ⟨hp28, H⟩ := H
  obtain ⟨r26, hr27⟩ : ∃ r_, r_ = M.impl_next xs0 x1 := ⟨_, rfl⟩
  have H := H r26 hr27
  refine (impl_next.con hp28 hr27 (R0.ext hB) hc0).mono ?_
  rintro _ w29 ⟨A31, c32, rfl, P2, e30⟩
  have O2 := P2.mono hB.size
  have hB := ethen hB e30
  refine ⟨A31, r26.length, c32, rfl, ?_⟩
  obtain ⟨J35, ⟨m61, hJ60⟩, hS36⟩ := H
  refine ⟨fun m_ z_ w_ => ∃ (i33 : Int), z_ = (i33, ()) ∧ J35 m_ (i33, ()) ∧ Ext w w_ ∧ Own el3 w_ w.heap.size A31 c32 r26, ⟨m61, 0, rfl, hJ60, hB, O2⟩, ?_⟩
  rintro m34 _ w38 ⟨i33, rfl, hJ62, hB, O2⟩
  have H := hS36 m34 _ hJ62
  clear hS36 hJ62
  try dsimp only at H ⊢
  refine bcase_mk (fun hc58 => ?_) (fun hc58 => ?_)
  · have H := (bcase_iff.1 H).1 hc58
    obtain ⟨⟨h0_42, h1_43⟩, H⟩ := H
    obtain ⟨a40, ha41, hat39⟩ := Row.at O2.row h0_42 h1_43
    refine ⟨h0_42, h1_43, a40, ha41, ?_⟩
    refine ⟨_, (hat39 0 _ rfl), ?_⟩
    obtain ⟨hp46, H⟩ := H
    obtain ⟨r44, hr45⟩ : ∃ r_, r_ = M.impl_reachesExit xs0 (rd r26 i33) := ⟨_, rfl⟩
    have H := H r44 hr45
    refine (impl_reachesExit.con hp46 hr45 (R0.ext hB) hc0).mono ?_
    rintro _ w47 ⟨rfl, e48⟩
    have O2 := O2.ext e48
    have hB := ethen hB e48
    refine ⟨r44, rfl, ?_⟩
    refine bcase_mk (fun hc52 => ?_) (fun hc52 => ?_)
    · have H := (bcase_iff.1 H).1 hc52
      obtain rfl := hr.trans H.symm
      exact ⟨rfl, hB⟩
    have H := (bcase_iff.1 H).2 hc52
    obtain ⟨m49, hm50, hJ51⟩ := H
    exact ⟨m49, hm50, (IntKind.wrap .i64 (i33 + 1)), rfl, hJ51, hB, O2⟩
  have H := (bcase_iff.1 H).2 hc58
  obtain ⟨hp55, H⟩ := H
  obtain ⟨r53, hr54⟩ : ∃ r_, r_ = M.impl_FirstAfter xs0 x1 := ⟨_, rfl⟩
  have H := H r53 hr54
  refine (impl_FirstAfter.con hp55 hr54 (R0.ext hB) hc0).mono ?_
  rintro _ w56 ⟨rfl, e57⟩
  have hB := ethen hB e57
  refine ⟨r53, rfl, ?_⟩
  obtain rfl := hr.trans H.symm
  exact ⟨rfl, hB⟩
def spec_DropFrames.vc (A0 : Option Addr) (n0 : Nat) (c0 : Nat) (x1_0 : Int) (A1_1 : Option Addr) (n1_1 : Nat) (c1_1 : Nat) (A1_2 : Option Addr) (n1_2 : Nat) (c1_2 : Nat) (w : World) (K : Value → World → Prop) : Prop :=
  newK w (.cells #[(.int .i64 x1_0), (.slice A1_1 n1_1 c1_1), (.slice A1_2 n1_2 c1_2)] 31) fun g21 w22 => newK w22 (.cells #[(.int .i64 0), (.slice none 0 0), (.slice none 0 0)] 31) fun g23 w24 => ∃ (n25 : Int), w24.cell? ((⟨g21, 0, none⟩ : Addr).add 0) = some (.int .i64 n25) ∧ ∃ (A26 : Option Addr) (n27 : Nat) (c28 : Nat), w24.cell? ((⟨g21, 0, none⟩ : Addr).add 1) = some (.slice A26 n27 c28) ∧ ∃ (A29 : Option Addr) (n30 : Nat) (c31 : Nat), w24.cell? ((⟨g21, 0, none⟩ : Addr).add 2) = some (.slice A29 n30 c31) ∧ Cll Tryz.prog 68 #[(.agg #[(.int .i64 n25), (.slice A26 n27 c28), (.slice A29 n30 c31)])] w24 fun v32 w33 => (∃ (n34 : Int), True ∧ ∃ (A35 : Option Addr) (n36 : Nat) (c37 : Nat), True ∧ ∃ (A38 : Option Addr) (n39 : Nat) (c40 : Nat), True ∧ v32 = (.agg #[(.int .i64 n34), (.slice A35 n36 c37), (.slice A38 n39 c40)]) ∧ newK w33 (.cells #[(.int .i64 0), (.slice none 0 0), (.slice none 0 0)] 31) fun g41 w42 => stCells (⟨g41, 0, none⟩ : Addr) [(.int .i64 n34), (.slice A35 n36 c37), (.slice A38 n39 c40)] 0 w42 fun w43 => ∃ (A44 : Option Addr) (n45 : Nat) (c46 : Nat), w43.cell? (((⟨g41, 0, none⟩ : Addr).add 1).add 0) = some (.slice A44 n45 c46) ∧ LoopT (σ := Int × Unit) (fun z47 w48 next49 => bcase (decide (z47.1 ≥ 0)) (∃ (A50 : Option Addr) (n51 : Nat) (c52 : Nat), w48.cell? (((⟨g41, 0, none⟩ : Addr).add 1).add 0) = some (.slice A50 n51 c52) ∧ ((0 : Int) ≤ z47.1 ∧ z47.1 < ((n51 : Nat) : Int) ∧ ∃ a53 : Addr, A50 = some a53 ∧ ∃ (n54 : Int), w48.cell? ((a53.add ((z47.1.toNat) * 3)).add 0) = some (.int .i64 n54) ∧ ∃ (n55 : Int), w48.cell? ((a53.add ((z47.1.toNat) * 3)).add 1) = some (.int .i64 n55) ∧ ∃ (n56 : Int), w48.cell? ((a53.add ((z47.1.toNat) * 3)).add 2) = some (.int .i64 n56) ∧ newK w48 (.cells #[(.int .i64 0), (.int .i64 0), (.int .i64 0)] 130) fun g57 w58 => stCells (⟨g57, 0, none⟩ : Addr) [(.int .i64 n54), (.int .i64 n55), (.int .i64 n56)] 0 w58 fun w59 => ∃ (n60 : Int), w59.cell? (((⟨g57, 0, none⟩ : Addr).add 0).add 0) = some (.int .i64 n60) ∧ ∃ (n61 : Int), w59.cell? (((⟨g57, 0, none⟩ : Addr).add 1).add 0) = some (.int .i64 n61) ∧ bcase (n60 != n61) (∃ (n62 : Int), w59.cell? (((⟨g57, 0, none⟩ : Addr).add 0).add 0) = some (.int .i64 n62) ∧ bcase (n62 != ((n0 : Nat) : Int)) (∃ (n63 : Int), w59.cell? ((⟨g41, 0, none⟩ : Addr).add 0) = some (.int .i64 n63) ∧ ∃ (A64 : Option Addr) (n65 : Nat) (c66 : Nat), w59.cell? ((⟨g41, 0, none⟩ : Addr).add 1) = some (.slice A64 n65 c66) ∧ ∃ (A67 : Option Addr) (n68 : Nat) (c69 : Nat), w59.cell? ((⟨g41, 0, none⟩ : Addr).add 2) = some (.slice A67 n68 c69) ∧ stCells (⟨g23, 0, none⟩ : Addr) [(.int .i64 n63), (.slice A64 n65 c66), (.slice A67 n68 c69)] 0 w59 fun w70 => ∃ (n71 : Int), w70.cell? ((⟨g23, 0, none⟩ : Addr).add 0) = some (.int .i64 n71) ∧ ∃ (A72 : Option Addr) (n73 : Nat) (c74 : Nat), w70.cell? ((⟨g23, 0, none⟩ : Addr).add 1) = some (.slice A72 n73 c74) ∧ ∃ (A75 : Option Addr) (n76 : Nat) (c77 : Nat), w70.cell? ((⟨g23, 0, none⟩ : Addr).add 2) = some (.slice A75 n76 c77) ∧ K (.agg #[(.int .i64 n71), (.slice A72 n73 c74), (.slice A75 n76 c77)]) w70) (∃ (A78 : Option Addr) (n79 : Nat) (c80 : Nat), w59.cell? (((⟨g41, 0, none⟩ : Addr).add 1).add 0) = some (.slice A78 n79 c80) ∧ ((0 : Int) ≤ z47.1 ∧ z47.1 ≤ ((c80 : Nat) : Int) ∧ stCells ((⟨g41, 0, none⟩ : Addr).add 1) [(.slice A78 (z47.1.toNat) c80)] 0 w59 fun w81 => next49 ((IntKind.wrap .i64 (z47.1 - 1)), ()) w81))) (∃ (A82 : Option Addr) (n83 : Nat) (c84 : Nat), w59.cell? (((⟨g41, 0, none⟩ : Addr).add 1).add 0) = some (.slice A82 n83 c84) ∧ ((0 : Int) ≤ z47.1 ∧ z47.1 ≤ ((c84 : Nat) : Int) ∧ stCells ((⟨g41, 0, none⟩ : Addr).add 1) [(.slice A82 (z47.1.toNat) c84)] 0 w59 fun w85 => next49 ((IntKind.wrap .i64 (z47.1 - 1)), ()) w85)))) (∃ (n86 : Int), w48.cell? ((⟨g41, 0, none⟩ : Addr).add 0) = some (.int .i64 n86) ∧ ∃ (A87 : Option Addr) (n88 : Nat) (c89 : Nat), w48.cell? ((⟨g41, 0, none⟩ : Addr).add 1) = some (.slice A87 n88 c89) ∧ ∃ (A90 : Option Addr) (n91 : Nat) (c92 : Nat), w48.cell? ((⟨g41, 0, none⟩ : Addr).add 2) = some (.slice A90 n91 c92) ∧ stCells (⟨g23, 0, none⟩ : Addr) [(.int .i64 n86), (.slice A87 n88 c89), (.slice A90 n91 c92)] 0 w48 fun w93 => ∃ (n94 : Int), w93.cell? ((⟨g23, 0, none⟩ : Addr).add 0) = some (.int .i64 n94) ∧ ∃ (A95 : Option Addr) (n96 : Nat) (c97 : Nat), w93.cell? ((⟨g23, 0, none⟩ : Addr).add 1) = some (.slice A95 n96 c97) ∧ ∃ (A98 : Option Addr) (n99 : Nat) (c100 : Nat), w93.cell? ((⟨g23, 0, none⟩ : Addr).add 2) = some (.slice A98 n99 c100) ∧ K (.agg #[(.int .i64 n94), (.slice A95 n96 c97), (.slice A98 n99 c100)]) w93)) ((IntKind.wrap .i64 (((n45 : Nat) : Int) - 1)), ()) w43)

def spec_DropFrames.ann : Ann := (.seq .l (.seq .l (.seq (.seq .l (.one (.loop [(6, .int .i64)] (.seq (.seq .l (.two .l .l)) (.seq (.one (.seq .l (.seq (.seq .l (.two .l .l)) .l))) .l))))) (.seq .l .l))))

theorem spec_DropFrames.start {A0 : Option Addr} {n0 : Nat} {c0 : Nat} {x1_0 : Int} {A1_1 : Option Addr} {n1_1 : Nat} {c1_1 : Nat} {A1_2 : Option Addr} {n1_2 : Nat} {c1_2 : Nat} {w : World} {K : Value → World → Prop} (h : spec_DropFrames.vc A0 n0 c0 x1_0 A1_1 n1_1 c1_1 A1_2 n1_2 c1_2 w K) : Cll Tryz.prog 151 #[(.slice A0 n0 c0), (.agg #[(.int .i64 x1_0), (.slice A1_1 n1_1 c1_1), (.slice A1_2 n1_2 c1_2)])] w K :=
  vcF_sound mixed (fn := Tryz.f151) (by kernel_rfl) (by kernel_rfl) (an := spec_DropFrames.ann) (args := [(.slice A0 n0 c0), (.agg #[(.int .i64 x1_0), (.slice A1_1 n1_1 c1_1), (.slice A1_2 n1_2 c1_2)])]) (Eq.mpr (by kernel_rfl) h)

theorem spec_DropFrames.con {xs0 : List D.Ins} {A0 : Option Addr} {c0 : Nat} {s1 : D.Warp} {A1_1 : Option Addr} {c1_1 : Nat} {A1_2 : Option Addr} {c1_2 : Nat} {r : D.Warp} {w : World} (hp : M.spec_DropFrames_pre xs0 s1) (hr : r = M.spec_DropFrames xs0 s1) (R0 : Row el89 w A0 xs0) (hc0 : xs0.length ≤ c0) (R1_1 : Row el130 w A1_1 s1.Frames) (hc1_1 : s1.Frames.length ≤ c1_1) (R1_2 : Row el3 w A1_2 s1.Regs) (hc1_2 : s1.Regs.length ≤ c1_2) :
    Cll Tryz.prog 151 #[(.slice A0 xs0.length c0), (.agg #[(.int .i64 s1.Number), (.slice A1_1 s1.Frames.length c1_1), (.slice A1_2 s1.Regs.length c1_2)])] w (fun v_ w_ => ∃ (A0_ : Option Addr) (c0_ : Nat) (A1_ : Option Addr) (c1_ : Nat), v_ = (.agg #[(.int .i64 r.Number), (.slice A0_ r.Frames.length c0_), (.slice A1_ r.Regs.length c1_)]) ∧ Own el130 w_ w.heap.size A0_ c0_ r.Frames ∧ Own el3 w_ w.heap.size A1_ c1_ r.Regs ∧ Ext w w_) := by
  have H := wp.spec_DropFrames.math xs0 s1 hp
  have hB := Ext.refl w
  refine spec_DropFrames.start ?_
  unfold spec_DropFrames.vc
  unfold wp.spec_DropFrames at H
  refine newBlk (fun g4_ w21 L4 P4 e22 => ?_)
  have O4 := P4
  have L4 := Nat.le_trans hB.size L4
  have hB := ethen hB e22
  refine newBlk (fun g5_ w23 L5 P5 e24 => ?_)
  have N4_5 := O4.ne L5
  have O4 := O4.ext e24
  have O5 := P5
  have L5 := Nat.le_trans hB.size L5
  have hB := ethen hB e24
  refine ⟨_, (O4.at 0 rfl rfl), ?_⟩
  refine ⟨_, _, _, (O4.at 1 rfl rfl), ?_⟩
  refine ⟨_, _, _, (O4.at 2 rfl rfl), ?_⟩
  obtain ⟨hp27, H⟩ := H
  obtain ⟨r25, hr26⟩ : ∃ r_, r_ = M.spec_l12Copy s1 := ⟨_, rfl⟩
  have H := H r25 hr26
  refine (spec_l12Copy.con hp27 hr26 (R1_1.ext hB) hc1_1 (R1_2.ext hB) hc1_2).mono ?_
  rintro _ w28 ⟨A30, c31, A32, c33, rfl, P6, P7, e29⟩
  have N6_4 := P6.apart_old O4.lt
  have N6_5 := P6.apart_old O5.lt
  have N7_4 := P7.apart_old O4.lt
  have N7_5 := P7.apart_old O5.lt
  have O4 := O4.ext e29
  have O5 := O5.ext e29
  have O6 := P6.mono hB.size
  have O7 := P7.mono hB.size
  have hB := ethen hB e29
  refine ⟨r25.Number, trivial, ?_⟩
  refine ⟨A30, r25.Frames.length, c31, trivial, ?_⟩
  refine ⟨A32, r25.Regs.length, c33, trivial, ?_⟩
  refine ⟨rfl, ?_⟩
  refine newBlk (fun g8_ w34 L8 P8 e35 => ?_)
  have N4_8 := O4.ne L8
  have N5_8 := O5.ne L8
  have N6_8 := O6.apart_new L8
  have N7_8 := O7.apart_new L8
  have O4 := O4.ext e35
  have O5 := O5.ext e35
  have O6 := O6.ext e35
  have O7 := O7.ext e35
  have O8 := P8
  have L8 := Nat.le_trans hB.size L8
  have hB := ethen hB e35
  refine stBlk O8 (o := 0) (cs' := #[(.int .i64 r25.Number), (.slice A30 r25.Frames.length c31), (.slice A32 r25.Regs.length c33)]) rfl rfl (Nat.le_of_ble_eq_true rfl) rfl (fun w36 P8 e37 => ?_)
  have O4_ := O4.chg e37 N4_8
  have O5_ := O5.chg e37 N5_8
  have O6_ := O6.chg e37 N6_8
  have O7_ := O7.chg e37 N7_8
  have O4 := O4_
  have O5 := O5_
  have O6 := O6_
  have O7 := O7_
  have hB := echg hB e37 L8
  have O8 := P8
  refine ⟨_, _, _, (O8.at 1 rfl rfl), ?_⟩
  obtain ⟨J87, ⟨m123, hJ122⟩, hS88⟩ := H
  refine ⟨fun m_ z_ w_ => ∃ (i81 : Int) (i82 : Int) (xs83 : List D.Frame) (A84 : Option Addr) (c85 : Nat), z_ = (i81, ()) ∧ J87 m_ (i81, i82, xs83, ()) ∧ Ext w w_ ∧ Blk w_ g8_ 31 #[(.int .i64 i82), (.slice A84 xs83.length c85), (.slice A32 r25.Regs.length c33)] ∧ Own el130 w_ w.heap.size A84 c85 xs83 ∧ Blk w_ g5_ 31 #[(.int .i64 0), (.slice none 0 0), (.slice none 0 0)] ∧ Own el3 w_ w.heap.size A32 c33 r25.Regs, ⟨m123, (IntKind.wrap .i64 (((r25.Frames.length : Nat) : Int) - 1)), r25.Number, r25.Frames, A30, c31, rfl, hJ122, hB, O8, O6, O5, O7⟩, ?_⟩
  rintro m86 _ w90 ⟨i81, i82, xs83, A84, c85, rfl, hJ124, hB, O8, O13, O5, O7⟩
  have H := hS88 m86 _ hJ124
  clear hS88 hJ124
  try dsimp only at H ⊢
  refine bcase_mk (fun hc120 => ?_) (fun hc120 => ?_)
  · have H := (bcase_iff.1 H).1 hc120
    refine ⟨_, _, _, (O8.at 1 rfl rfl), ?_⟩
    obtain ⟨⟨h0_94, h1_95⟩, H⟩ := H
    obtain ⟨a92, ha93, hat91⟩ := Row.at O13.row h0_94 h1_95
    refine ⟨h0_94, h1_95, a92, ha93, ?_⟩
    refine ⟨_, (hat91 0 _ rfl), ?_⟩
    refine ⟨_, (hat91 1 _ rfl), ?_⟩
    refine ⟨_, (hat91 2 _ rfl), ?_⟩
    refine newBlk (fun g14_ w96 L14 P14 e97 => ?_)
    have N5_14 := O5.ne L14
    have N7_14 := O7.apart_new L14
    have N8_14 := O8.ne L14
    have N13_14 := O13.apart_new L14
    have O5 := O5.ext e97
    have O7 := O7.ext e97
    have O8 := O8.ext e97
    have O13 := O13.ext e97
    have O14 := P14
    have L14 := Nat.le_trans hB.size L14
    have hB := ethen hB e97
    refine stBlk O14 (o := 0) (cs' := #[(.int .i64 ((rd xs83 i81).Pc)), (.int .i64 ((rd xs83 i81).Stop)), (.int .i64 ((rd xs83 i81).Mask))]) rfl rfl (Nat.le_of_ble_eq_true rfl) rfl (fun w98 P14 e99 => ?_)
    have O5_ := O5.chg e99 N5_14
    have O7_ := O7.chg e99 N7_14
    have O8_ := O8.chg e99 N8_14
    have O13_ := O13.chg e99 N13_14
    have O5 := O5_
    have O7 := O7_
    have O8 := O8_
    have O13 := O13_
    have hB := echg hB e99 L14
    have O14 := P14
    refine ⟨_, (O14.at 0 rfl rfl), ?_⟩
    refine ⟨_, (O14.at 1 rfl rfl), ?_⟩
    refine bcase_mk (fun hc117 => ?_) (fun hc117 => ?_)
    · have H := (bcase_iff.1 H).1 hc117
      refine ⟨_, (O14.at 0 rfl rfl), ?_⟩
      refine bcase_mk (fun hc109 => ?_) (fun hc109 => ?_)
      · have H := (bcase_iff.1 H).1 hc109
        refine ⟨_, (O8.at 0 rfl rfl), ?_⟩
        refine ⟨_, _, _, (O8.at 1 rfl rfl), ?_⟩
        refine ⟨_, _, _, (O8.at 2 rfl rfl), ?_⟩
        refine stBlk O5 (o := 0) (cs' := #[(.int .i64 i82), (.slice A84 xs83.length c85), (.slice A32 r25.Regs.length c33)]) rfl rfl (Nat.le_of_ble_eq_true rfl) rfl (fun w100 P5 e101 => ?_)
        have O7_ := O7.chg e101 N7_5
        have O8_ := O8.chg e101 (N5_8).symm
        have O13_ := O13.chg e101 (O13.apart_type O5 (by decide))
        have O7 := O7_
        have O8 := O8_
        have O13 := O13_
        have hB := echg hB e101 L5
        have O5 := P5
        refine ⟨_, (O5.at 0 rfl rfl), ?_⟩
        refine ⟨_, _, _, (O5.at 1 rfl rfl), ?_⟩
        refine ⟨_, _, _, (O5.at 2 rfl rfl), ?_⟩
        obtain rfl := hr.trans H.symm
        exact ⟨A84, c85, A32, c33, rfl, O13, O7, hB⟩
      have H := (bcase_iff.1 H).2 hc109
      refine ⟨_, _, _, (O8.at 1 rfl rfl), ?_⟩
      obtain ⟨⟨hh102, hh103⟩, H⟩ := H
      refine and_assoc.1 ⟨⟨hh102, Int.le_trans hh103 (Int.ofNat_le.2 O13.le)⟩, ?_⟩
      rw [show (i81.toNat) = ((List.take (i81.toNat) xs83)).length from by first | rfl | (simp; done) | (simp; omega)]
      have O15 := (O13.take (i81.toNat))
      refine stBlk O8 (o := 1) (cs' := #[(.int .i64 i82), (.slice A84 (((List.take (i81.toNat) xs83)).length) c85), (.slice A32 r25.Regs.length c33)]) rfl rfl (Nat.le_of_ble_eq_true rfl) rfl (fun w104 P8 e105 => ?_)
      have O5_ := O5.chg e105 N5_8
      have O7_ := O7.chg e105 N7_8
      have O13_ := O13.chg e105 (O13.apart_type O8 (by decide))
      have O15_ := O15.chg e105 (O13.apart_type O8 (by decide))
      have O5 := O5_
      have O7 := O7_
      have O13 := O13_
      have O15 := O15_
      have hB := echg hB e105 L8
      have O8 := P8
      obtain ⟨m106, hm107, hJ108⟩ := H
      exact ⟨m106, hm107, (IntKind.wrap .i64 (i81 - 1)), i82, (List.take (i81.toNat) xs83), A84, c85, rfl, hJ108, hB, O8, O15, O5, O7⟩
    have H := (bcase_iff.1 H).2 hc117
    refine ⟨_, _, _, (O8.at 1 rfl rfl), ?_⟩
    obtain ⟨⟨hh110, hh111⟩, H⟩ := H
    refine and_assoc.1 ⟨⟨hh110, Int.le_trans hh111 (Int.ofNat_le.2 O13.le)⟩, ?_⟩
    rw [show (i81.toNat) = ((List.take (i81.toNat) xs83)).length from by first | rfl | (simp; done) | (simp; omega)]
    have O16 := (O13.take (i81.toNat))
    refine stBlk O8 (o := 1) (cs' := #[(.int .i64 i82), (.slice A84 (((List.take (i81.toNat) xs83)).length) c85), (.slice A32 r25.Regs.length c33)]) rfl rfl (Nat.le_of_ble_eq_true rfl) rfl (fun w112 P8 e113 => ?_)
    have O5_ := O5.chg e113 N5_8
    have O7_ := O7.chg e113 N7_8
    have O13_ := O13.chg e113 (O13.apart_type O8 (by decide))
    have O16_ := O16.chg e113 (O13.apart_type O8 (by decide))
    have O5 := O5_
    have O7 := O7_
    have O13 := O13_
    have O16 := O16_
    have hB := echg hB e113 L8
    have O8 := P8
    obtain ⟨m114, hm115, hJ116⟩ := H
    exact ⟨m114, hm115, (IntKind.wrap .i64 (i81 - 1)), i82, (List.take (i81.toNat) xs83), A84, c85, rfl, hJ116, hB, O8, O16, O5, O7⟩
  have H := (bcase_iff.1 H).2 hc120
  refine ⟨_, (O8.at 0 rfl rfl), ?_⟩
  refine ⟨_, _, _, (O8.at 1 rfl rfl), ?_⟩
  refine ⟨_, _, _, (O8.at 2 rfl rfl), ?_⟩
  refine stBlk O5 (o := 0) (cs' := #[(.int .i64 i82), (.slice A84 xs83.length c85), (.slice A32 r25.Regs.length c33)]) rfl rfl (Nat.le_of_ble_eq_true rfl) rfl (fun w118 P5 e119 => ?_)
  have O7_ := O7.chg e119 N7_5
  have O8_ := O8.chg e119 (N5_8).symm
  have O13_ := O13.chg e119 (O13.apart_type O5 (by decide))
  have O7 := O7_
  have O8 := O8_
  have O13 := O13_
  have hB := echg hB e119 L5
  have O5 := P5
  refine ⟨_, (O5.at 0 rfl rfl), ?_⟩
  refine ⟨_, _, _, (O5.at 1 rfl rfl), ?_⟩
  refine ⟨_, _, _, (O5.at 2 rfl rfl), ?_⟩
  obtain rfl := hr.trans H.symm
  exact ⟨A84, c85, A32, c33, rfl, O13, O7, hB⟩
def spec_l13Apply.vc (A0 : Option Addr) (n0 : Nat) (c0 : Nat) (x1_0 : Int) (A1_1 : Option Addr) (n1_1 : Nat) (c1_1 : Nat) (A1_2 : Option Addr) (n1_2 : Nat) (c1_2 : Nat) (w : World) (K : Value → World → Prop) : Prop :=
  newK w (.cells #[(.int .i64 x1_0), (.slice A1_1 n1_1 c1_1), (.slice A1_2 n1_2 c1_2)] 31) fun g21 w22 => Run Tryz.prog (Instr.buildSlice 24 0 #[]) w22 fun v23 w24 => ∃ (A25 : Option Addr) (n26 c27 : Nat), v23 = .slice A25 n26 c27 ∧ ∃ (A28 : Option Addr) (n29 : Nat) (c30 : Nat), w24.cell? (((⟨g21, 0, none⟩ : Addr).add 2).add 0) = some (.slice A28 n29 c30) ∧ Run Tryz.prog (Builtin.append_ #[24, 24] 24 #[(.slice A25 n26 c27), (.slice A28 n29 c30)]) w24 fun v31 w32 => ∃ (A33 : Option Addr) (n34 c35 : Nat), v31 = .slice A33 n34 c35 ∧ ∃ (A36 : Option Addr) (n37 : Nat) (c38 : Nat), w32.cell? (((⟨g21, 0, none⟩ : Addr).add 1).add 0) = some (.slice A36 n37 c38) ∧ ∃ (A39 : Option Addr) (n40 : Nat) (c41 : Nat), w32.cell? (((⟨g21, 0, none⟩ : Addr).add 1).add 0) = some (.slice A39 n40 c41) ∧ ((0 : Int) ≤ (IntKind.wrap .i64 (((n40 : Nat) : Int) - 1)) ∧ (IntKind.wrap .i64 (((n40 : Nat) : Int) - 1)) < ((n37 : Nat) : Int) ∧ ∃ a42 : Addr, A36 = some a42 ∧ ∃ (n43 : Int), w32.cell? ((a42.add (((IntKind.wrap .i64 (((n40 : Nat) : Int) - 1)).toNat) * 3)).add 0) = some (.int .i64 n43) ∧ ∃ (n44 : Int), w32.cell? ((a42.add (((IntKind.wrap .i64 (((n40 : Nat) : Int) - 1)).toNat) * 3)).add 1) = some (.int .i64 n44) ∧ ∃ (n45 : Int), w32.cell? ((a42.add (((IntKind.wrap .i64 (((n40 : Nat) : Int) - 1)).toNat) * 3)).add 2) = some (.int .i64 n45) ∧ newK w32 (.cells #[(.int .i64 0), (.int .i64 0), (.int .i64 0)] 130) fun g46 w47 => stCells (⟨g46, 0, none⟩ : Addr) [(.int .i64 n43), (.int .i64 n44), (.int .i64 n45)] 0 w47 fun w48 => LoopT (σ := Int × Unit) (fun z49 w50 next51 => bcase (decide (z49.1 < 8)) (∃ (n52 : Int), w50.cell? (((⟨g46, 0, none⟩ : Addr).add 2).add 0) = some (.int .i64 n52) ∧ Cll Tryz.prog 165 #[(.int .i64 n52), (.int .i64 z49.1)] w50 fun v53 w54 => (∃ (b55 : Bool), v53 = (.bool b55) ∧ bcase b55 ((∃ M56 : Nat → Prop, ∃ (n57 : Int), (¬ M56 (((⟨g46, 0, none⟩ : Addr).add 0)).block ∧ w54.cell? (((⟨g46, 0, none⟩ : Addr).add 0).add 0) = some (.int .i64 n57)) ∧ ((0 : Int) ≤ n57 ∧ n57 < ((n0 : Nat) : Int) ∧ ∃ a58 : Addr, A0 = some a58 ∧ ∃ (n59 : Int), (¬ M56 ((a58.add ((n57.toNat) * 4))).block ∧ w54.cell? ((a58.add ((n57.toNat) * 4)).add 0) = some (.int .i64 n59)) ∧ ∃ (n60 : Int), (¬ M56 ((a58.add ((n57.toNat) * 4))).block ∧ w54.cell? ((a58.add ((n57.toNat) * 4)).add 1) = some (.int .i64 n60)) ∧ ∃ (n61 : Int), (¬ M56 ((a58.add ((n57.toNat) * 4))).block ∧ w54.cell? ((a58.add ((n57.toNat) * 4)).add 2) = some (.int .i64 n61)) ∧ ∃ (n62 : Int), (¬ M56 ((a58.add ((n57.toNat) * 4))).block ∧ w54.cell? ((a58.add ((n57.toNat) * 4)).add 3) = some (.int .i64 n62)) ∧ ∃ (n63 : Int), (¬ M56 (((⟨g21, 0, none⟩ : Addr).add 0)).block ∧ w54.cell? (((⟨g21, 0, none⟩ : Addr).add 0).add 0) = some (.int .i64 n63)) ∧ ∃ (A64 : Option Addr) (n65 : Nat) (c66 : Nat), (¬ M56 (((⟨g21, 0, none⟩ : Addr).add 2)).block ∧ w54.cell? (((⟨g21, 0, none⟩ : Addr).add 2).add 0) = some (.slice A64 n65 c66)) ∧ ((0 : Int) ≤ (IntKind.wrap .i64 ((IntKind.wrap .i64 (z49.1 + 1)) * 4)) ∧ (IntKind.wrap .i64 ((IntKind.wrap .i64 (z49.1 + 1)) * 4)) ≤ ((c66 : Nat) : Int) ∧ ((0 : Int) ≤ (IntKind.wrap .i64 (z49.1 * 4)) ∧ (IntKind.wrap .i64 (z49.1 * 4)) ≤ ((((IntKind.wrap .i64 ((IntKind.wrap .i64 (z49.1 + 1)) * 4)).toNat) : Nat) : Int) ∧ Cll Tryz.prog 205 #[(.agg #[(.int .i64 n59), (.int .i64 n60), (.int .i64 n61), (.int .i64 n62)]), (.int .i64 (IntKind.wrap .i64 ((IntKind.wrap .i64 (n63 * 8)) + z49.1))), (.slice (if c66 = ((IntKind.wrap .i64 (z49.1 * 4)).toNat) then A64 else A64.map (·.add (((IntKind.wrap .i64 (z49.1 * 4)).toNat) * szOf Tryz.prog 3))) (((IntKind.wrap .i64 ((IntKind.wrap .i64 (z49.1 + 1)) * 4)).toNat) - ((IntKind.wrap .i64 (z49.1 * 4)).toNat)) (c66 - ((IntKind.wrap .i64 (z49.1 * 4)).toNat)))] w54.drew fun v67 w68 => (∃ (A69 : Option Addr) (n70 : Nat) (c71 : Nat), v67 = (.slice A69 n70 c71) ∧ SameBut M56 w54 w68 ∧ LoopT (σ := Int × Unit) (fun z72 w73 next74 => bcase (decide (z72.1 < 4)) (((0 : Int) ≤ z72.1 ∧ z72.1 < ((n70 : Nat) : Int) ∧ ∃ a75 : Addr, A69 = some a75 ∧ ∃ (n76 : Int), w73.cell? ((a75.add ((z72.1.toNat) * 1)).add 0) = some (.int .i64 n76) ∧ ((0 : Int) ≤ (IntKind.wrap .i64 ((IntKind.wrap .i64 (z49.1 * 4)) + z72.1)) ∧ (IntKind.wrap .i64 ((IntKind.wrap .i64 (z49.1 * 4)) + z72.1)) < ((n34 : Nat) : Int) ∧ ∃ a77 : Addr, A33 = some a77 ∧ stCells (a77.add (((IntKind.wrap .i64 ((IntKind.wrap .i64 (z49.1 * 4)) + z72.1)).toNat) * 1)) [(.int .i64 n76)] 0 w73 fun w78 => next74 ((IntKind.wrap .i64 (z72.1 + 1)), ()) w78))) (next51 ((IntKind.wrap .i64 (z49.1 + 1)), ()) w73)) (0, ()) w68)))))) (next51 ((IntKind.wrap .i64 (z49.1 + 1)), ()) w54))) (K (.slice A33 n34 c35) w50)) (0, ()) w48)

def spec_l13Apply.ann : Ann := (.seq .l (.seq .l (.seq .l (.seq (.seq .l (.one (.loop [(7, .int .i64)] (.seq (.seq .l (.two .l .l)) (.seq (.one (.seq .l (.two (.seq .l (.seq .l (.one (.loop [(9, .int .i64)] (.seq (.seq .l (.two .l .l)) (.seq (.one .l) .l)))))) .l))) .l))))) (.seq .l .l)))))

theorem spec_l13Apply.start {A0 : Option Addr} {n0 : Nat} {c0 : Nat} {x1_0 : Int} {A1_1 : Option Addr} {n1_1 : Nat} {c1_1 : Nat} {A1_2 : Option Addr} {n1_2 : Nat} {c1_2 : Nat} {w : World} {K : Value → World → Prop} (h : spec_l13Apply.vc A0 n0 c0 x1_0 A1_1 n1_1 c1_1 A1_2 n1_2 c1_2 w K) : Cll Tryz.prog 152 #[(.slice A0 n0 c0), (.agg #[(.int .i64 x1_0), (.slice A1_1 n1_1 c1_1), (.slice A1_2 n1_2 c1_2)])] w K :=
  vcF_sound mixed (fn := Tryz.f152) (by kernel_rfl) (by kernel_rfl) (an := spec_l13Apply.ann) (args := [(.slice A0 n0 c0), (.agg #[(.int .i64 x1_0), (.slice A1_1 n1_1 c1_1), (.slice A1_2 n1_2 c1_2)])]) (Eq.mpr (by kernel_rfl) h)

theorem spec_l13Apply.con {xs0 : List D.Ins} {A0 : Option Addr} {c0 : Nat} {s1 : D.Warp} {A1_1 : Option Addr} {c1_1 : Nat} {A1_2 : Option Addr} {c1_2 : Nat} {r : List Int} {w : World} (hp : M.spec_l13Apply_pre xs0 s1) (hr : r = M.spec_l13Apply xs0 s1) (R0 : Row el89 w A0 xs0) (hc0 : xs0.length ≤ c0) (R1_1 : Row el130 w A1_1 s1.Frames) (hc1_1 : s1.Frames.length ≤ c1_1) (R1_2 : Row el3 w A1_2 s1.Regs) (hc1_2 : s1.Regs.length ≤ c1_2) :
    Cll Tryz.prog 152 #[(.slice A0 xs0.length c0), (.agg #[(.int .i64 s1.Number), (.slice A1_1 s1.Frames.length c1_1), (.slice A1_2 s1.Regs.length c1_2)])] w (fun v_ w_ => ∃ (A0_ : Option Addr) (c0_ : Nat), v_ = (.slice A0_ r.length c0_) ∧ Own el3 w_ w.heap.size A0_ c0_ r ∧ Ext w w_) := by
  have H := wp.spec_l13Apply.math xs0 s1 hp
  have hB := Ext.refl w
  refine spec_l13Apply.start ?_
  unfold spec_l13Apply.vc
  unfold wp.spec_l13Apply at H
  refine newBlk (fun g4_ w21 L4 P4 e22 => ?_)
  have O4 := P4
  have L4 := Nat.le_trans hB.size L4
  have hB := ethen hB e22
  refine buildOwn el3 ([] : List Int) (fun _ => by kernel_rfl) rfl (fun A23 w24 P5 e25 => ?_)
  have N5_4 := P5.apart_old O4.lt
  have O4 := O4.ext e25
  have O5 := P5.mono hB.size
  have hB := ethen hB e25
  refine ⟨_, _, _, (O4.at 2 rfl rfl), ?_⟩
  obtain ⟨hl30, H⟩ := H
  refine appOwn slt24 slt24.under O5 (R1_2.ext hB) hB.size (by first | rfl | omega | (simp; done) | (simp; omega)) rfl hl30 (fun A26 c27 w28 P5 e29 => ?_)
  have N5_4_ := Apart.app N5_4 e29 O4.lt
  have O4 := O4.app e29 N5_4
  have N5_4 := N5_4_
  have hB := eapp hB e29 O5
  have O5 := P5
  refine ⟨_, _, _, (O4.at 1 rfl rfl), ?_⟩
  refine ⟨_, _, _, (O4.at 1 rfl rfl), ?_⟩
  obtain ⟨⟨h0_34, h1_35⟩, H⟩ := H
  obtain ⟨a32, ha33, hat31⟩ := Row.at (R1_1.ext hB) h0_34 h1_35
  refine ⟨h0_34, h1_35, a32, ha33, ?_⟩
  refine ⟨_, (hat31 0 _ rfl), ?_⟩
  refine ⟨_, (hat31 1 _ rfl), ?_⟩
  refine ⟨_, (hat31 2 _ rfl), ?_⟩
  refine newBlk (fun g6_ w36 L6 P6 e37 => ?_)
  have N4_6 := O4.ne L6
  have N5_6 := O5.apart_new L6
  have O4 := O4.ext e37
  have O5 := O5.ext e37
  have O6 := P6
  have L6 := Nat.le_trans hB.size L6
  have hB := ethen hB e37
  refine stBlk O6 (o := 0) (cs' := #[(.int .i64 ((rd s1.Frames (IntKind.wrap .i64 (((s1.Frames.length : Nat) : Int) - 1))).Pc)), (.int .i64 ((rd s1.Frames (IntKind.wrap .i64 (((s1.Frames.length : Nat) : Int) - 1))).Stop)), (.int .i64 ((rd s1.Frames (IntKind.wrap .i64 (((s1.Frames.length : Nat) : Int) - 1))).Mask))]) rfl rfl (Nat.le_of_ble_eq_true rfl) rfl (fun w38 P6 e39 => ?_)
  have O4_ := O4.chg e39 N4_6
  have O5_ := O5.chg e39 N5_6
  have O4 := O4_
  have O5 := O5_
  have hB := echg hB e39 L6
  have O6 := P6
  obtain ⟨J115, ⟨m199, hJ198⟩, hS116⟩ := H
  refine ⟨fun m_ z_ w_ => ∃ (i111 : Int) (xs112 : List Int), z_ = (i111, ()) ∧ J115 m_ (i111, xs112, ()) ∧ Ext w w_ ∧ Own el3 w_ w.heap.size A26 c27 xs112 ∧ ((([] : List Int) ++ s1.Regs)).length = xs112.length ∧ Blk w_ g4_ 31 #[(.int .i64 s1.Number), (.slice A1_1 s1.Frames.length c1_1), (.slice A1_2 s1.Regs.length c1_2)] ∧ Blk w_ g6_ 130 #[(.int .i64 ((rd s1.Frames (IntKind.wrap .i64 (((s1.Frames.length : Nat) : Int) - 1))).Pc)), (.int .i64 ((rd s1.Frames (IntKind.wrap .i64 (((s1.Frames.length : Nat) : Int) - 1))).Stop)), (.int .i64 ((rd s1.Frames (IntKind.wrap .i64 (((s1.Frames.length : Nat) : Int) - 1))).Mask))], ⟨m199, 0, (([] : List Int) ++ s1.Regs), rfl, hJ198, hB, O5, (by first | rfl | assumption | omega | (simp; done) | (simp; omega) | (simp; assumption)), O4, O6⟩, ?_⟩
  rintro m114 _ w118 ⟨i111, xs112, rfl, hJ200, hB, O5, hn113, O4, O6⟩
  have H := hS116 m114 _ hJ200
  clear hS116 hJ200
  try dsimp only at H ⊢
  refine bcase_mk (fun hc196 => ?_) (fun hc196 => ?_)
  · have H := (bcase_iff.1 H).1 hc196
    refine ⟨_, (O6.at 2 rfl rfl), ?_⟩
    obtain ⟨r119, hr120⟩ : ∃ r_, r_ = M.spec_HasLane ((rd s1.Frames (IntKind.wrap .i64 (((s1.Frames.length : Nat) : Int) - 1))).Mask) i111 := ⟨_, rfl⟩
    have H := H r119 hr120
    refine (spec_HasLane.con hr120 ).mono ?_
    rintro _ w122 ⟨rfl, e123⟩
    have O4 := O4.ext e123
    have O5 := O5.ext e123
    have O6 := O6.ext e123
    have hB := ethen hB e123
    refine ⟨r119, rfl, ?_⟩
    refine bcase_mk (fun hc195 => ?_) (fun hc195 => ?_)
    · have H := (bcase_iff.1 H).1 hc195
      refine ⟨(fun _ => False), ?_⟩
      refine ⟨_, ⟨(fun h_ => h_), (O6.at 0 rfl rfl)⟩, ?_⟩
      obtain ⟨⟨h0_128, h1_129⟩, H⟩ := H
      obtain ⟨a126, ha127, hat125⟩ := Row.at (R0.ext hB) h0_128 h1_129
      refine ⟨h0_128, h1_129, a126, ha127, ?_⟩
      refine ⟨_, ⟨(fun h_ => h_), (hat125 0 _ rfl)⟩, ?_⟩
      refine ⟨_, ⟨(fun h_ => h_), (hat125 1 _ rfl)⟩, ?_⟩
      refine ⟨_, ⟨(fun h_ => h_), (hat125 2 _ rfl)⟩, ?_⟩
      refine ⟨_, ⟨(fun h_ => h_), (hat125 3 _ rfl)⟩, ?_⟩
      refine ⟨_, ⟨(fun h_ => h_), (O4.at 0 rfl rfl)⟩, ?_⟩
      refine ⟨_, _, _, ⟨(fun h_ => h_), (O4.at 2 rfl rfl)⟩, ?_⟩
      obtain ⟨⟨hh130, hh131, hl132, hl133⟩, H⟩ := H
      refine and_assoc.1 ⟨⟨hh130, Int.le_trans hh131 (Int.ofNat_le.2 hc1_2)⟩, ?_⟩
      refine and_assoc.1 ⟨⟨hl132, (by omega)⟩, ?_⟩
      rw [show (((IntKind.wrap .i64 ((IntKind.wrap .i64 (i111 + 1)) * 4)).toNat) - ((IntKind.wrap .i64 (i111 * 4)).toNat)) = ((List.drop ((IntKind.wrap .i64 (i111 * 4)).toNat) (List.take ((IntKind.wrap .i64 ((IntKind.wrap .i64 (i111 + 1)) * 4)).toNat) s1.Regs))).length from by first | rfl | (simp; done) | (simp; omega)]
      have R9_ := ((R1_2.take ((IntKind.wrap .i64 ((IntKind.wrap .i64 (i111 + 1)) * 4)).toNat)).drop (l := ((IntKind.wrap .i64 (i111 * 4)).toNat)) (m := c1_2) (by have := hc1_2; simp; omega))
      have le9_ : ((List.drop ((IntKind.wrap .i64 (i111 * 4)).toNat) (List.take ((IntKind.wrap .i64 ((IntKind.wrap .i64 (i111 + 1)) * 4)).toNat) s1.Regs))).length ≤ (c1_2 - ((IntKind.wrap .i64 (i111 * 4)).toNat)) := by have := hc1_2; simp; omega
      have hS124 := Chg.refl (fun _ => False) w122
      have O4 := O4.ext (Ext.drew _)
      have O5 := O5.ext (Ext.drew _)
      have O6 := O6.ext (Ext.drew _)
      have hB := ethen hB (Ext.drew _)
      have hS124 := hS124.then (Ext.drew _)
      obtain ⟨hp136, H⟩ := H
      obtain ⟨r134, hr135⟩ : ∃ r_, r_ = M.spec_l10Apply (rd xs0 ((rd s1.Frames (IntKind.wrap .i64 (((s1.Frames.length : Nat) : Int) - 1))).Pc)) (IntKind.wrap .i64 ((IntKind.wrap .i64 (s1.Number * 8)) + i111)) (List.drop ((IntKind.wrap .i64 (i111 * 4)).toNat) (List.take ((IntKind.wrap .i64 ((IntKind.wrap .i64 (i111 + 1)) * 4)).toNat) s1.Regs)) := ⟨_, rfl⟩
      have H := H r134 hr135
      refine (spec_l10Apply.con hp136 hr135 (R9_.ext hB) le9_).mono ?_
      rintro _ w137 ⟨A139, c140, rfl, P10, e138⟩
      have N10_4 := P10.apart_old O4.lt
      have N5_10 := Own.apart2_new O5 P10 (Nat.le_refl _)
      have N10_6 := P10.apart_old O6.lt
      have O4 := O4.ext e138
      have O5 := O5.ext e138
      have O6 := O6.ext e138
      have LB10 := (P10.mono hS124.size).low
      have O10 := P10.mono hB.size
      have hB := ethen hB e138
      have hS124 := hS124.then e138
      refine ⟨A139, r134.length, c140, rfl, ?_⟩
      refine ⟨sameBut_chg hS124, ?_⟩
      obtain ⟨J164, ⟨m190, hJ189⟩, hS165⟩ := H
      refine ⟨fun m_ z_ w_ => ∃ (i160 : Int) (xs161 : List Int), z_ = (i160, ()) ∧ J164 m_ (i160, xs161, ()) ∧ Ext w w_ ∧ Own el3 w_ w.heap.size A26 c27 xs161 ∧ ((([] : List Int) ++ s1.Regs)).length = xs161.length ∧ Blk w_ g4_ 31 #[(.int .i64 s1.Number), (.slice A1_1 s1.Frames.length c1_1), (.slice A1_2 s1.Regs.length c1_2)] ∧ Blk w_ g6_ 130 #[(.int .i64 ((rd s1.Frames (IntKind.wrap .i64 (((s1.Frames.length : Nat) : Int) - 1))).Pc)), (.int .i64 ((rd s1.Frames (IntKind.wrap .i64 (((s1.Frames.length : Nat) : Int) - 1))).Stop)), (.int .i64 ((rd s1.Frames (IntKind.wrap .i64 (((s1.Frames.length : Nat) : Int) - 1))).Mask))] ∧ Own el3 w_ w.heap.size A139 c140 r134, ⟨m190, 0, xs112, rfl, hJ189, hB, O5, (by first | rfl | assumption | omega | (simp; done) | (simp; omega) | (simp; assumption)), O4, O6, O10⟩, ?_⟩
      rintro m163 _ w167 ⟨i160, xs161, rfl, hJ191, hB, O5, hn162, O4, O6, O10⟩
      have H := hS165 m163 _ hJ191
      clear hS165 hJ191
      try dsimp only at H ⊢
      refine bcase_mk (fun hc187 => ?_) (fun hc187 => ?_)
      · have H := (bcase_iff.1 H).1 hc187
        obtain ⟨⟨h0_171, h1_172⟩, H⟩ := H
        obtain ⟨a169, ha170, hat168⟩ := Row.at O10.row h0_171 h1_172
        refine ⟨h0_171, h1_172, a169, ha170, ?_⟩
        refine ⟨_, (hat168 0 _ rfl), ?_⟩
        obtain ⟨⟨h0_176, h1_177⟩, H⟩ := H
        obtain ⟨a174, ha175, hat173⟩ := Row.at O5.row h0_176 h1_177
        refine ⟨h0_176, (by first | exact h1_177 | omega | (simp at h1_177 ⊢; omega)), a174, ha175, ?_⟩
        refine Own.storeAt O5 ha175 h0_176 h1_177 0 [(.int .i64 (rd r134 i160))] (rd r134 i160) rfl (Nat.le_of_ble_eq_true rfl) rfl (fun w178 P5 e179 hb180 => ?_)
        have O4_ := O4.chg e179 (fun h_ => (N5_4) _ ha175 h_.symm)
        have O6_ := O6.chg e179 (fun h_ => (N5_6) _ ha175 h_.symm)
        have O10_ := O10.chg e179 (((N5_10).symm).left ha175)
        have O4 := O4_
        have O6 := O6_
        have O10 := O10_
        have hB := echg hB e179 hb180
        have O5 := P5
        obtain ⟨m181, hm182, hJ183⟩ := H
        exact ⟨m181, hm182, (IntKind.wrap .i64 (i160 + 1)), (List.set xs161 ((IntKind.wrap .i64 ((IntKind.wrap .i64 (i111 * 4)) + i160)).toNat) (rd r134 i160)), rfl, hJ183, hB, O5, (by first | rfl | assumption | omega | (simp; done) | (simp; omega) | (simp; assumption)), O4, O6, O10⟩
      have H := (bcase_iff.1 H).2 hc187
      obtain ⟨m184, hm185, hJ186⟩ := H
      exact ⟨m184, hm185, (IntKind.wrap .i64 (i111 + 1)), xs161, rfl, hJ186, hB, O5, (by first | rfl | assumption | omega | (simp; done) | (simp; omega) | (simp; assumption)), O4, O6⟩
    have H := (bcase_iff.1 H).2 hc195
    obtain ⟨m192, hm193, hJ194⟩ := H
    exact ⟨m192, hm193, (IntKind.wrap .i64 (i111 + 1)), xs112, rfl, hJ194, hB, O5, (by first | rfl | assumption | omega | (simp; done) | (simp; omega) | (simp; assumption)), O4, O6⟩
  have H := (bcase_iff.1 H).2 hc196
  obtain rfl := hr.trans H.symm
  exact ⟨A26, c27, (by first | rfl | (rw [hn113]; done) | (simp; done) | (simp; omega) | (simp [*]; done)), (by first | exact O5 | (simp only [List.length_set]; exact O5) | (rw [← hn113]; exact O5)), hB⟩
end Go.V
