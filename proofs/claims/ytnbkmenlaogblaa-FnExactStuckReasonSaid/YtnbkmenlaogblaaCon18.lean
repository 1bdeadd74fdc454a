import Derived.Test.YtnbkmenlaogblaaMath18
import Derived.Test.YtnbkmenlaogblaaSeat
import Derived.Test.YtnbkmenlaogblaaCon15
import Derived.Test.YtnbkmenlaogblaaHandLane
namespace Go.V
open Go.Proofs
set_option linter.unusedVariables false
set_option linter.unusedSimpArgs false
set_option maxRecDepth 100000

def spec_ActiveMask.vc (x0_0 : Int) (A0_1 : Option Addr) (n0_1 : Nat) (c0_1 : Nat) (A0_2 : Option Addr) (n0_2 : Nat) (c0_2 : Nat) (w : World) (K : Value → World → Prop) : Prop :=
  newK w (.cells #[(.int .i64 x0_0), (.slice A0_1 n0_1 c0_1), (.slice A0_2 n0_2 c0_2)] 102) fun g21 w22 => ∃ (A23 : Option Addr) (n24 : Nat) (c25 : Nat), w22.cell? (((⟨g21, 0, none⟩ : Addr).add 1).add 0) = some (.slice A23 n24 c25) ∧ bcase (((n24 : Nat) : Int) == 0) (K (.int .i64 0) w22) (∃ (A26 : Option Addr) (n27 : Nat) (c28 : Nat), w22.cell? (((⟨g21, 0, none⟩ : Addr).add 1).add 0) = some (.slice A26 n27 c28) ∧ ∃ (A29 : Option Addr) (n30 : Nat) (c31 : Nat), w22.cell? (((⟨g21, 0, none⟩ : Addr).add 1).add 0) = some (.slice A29 n30 c31) ∧ ((0 : Int) ≤ (IntKind.wrap .i64 (((n30 : Nat) : Int) - 1)) ∧ (IntKind.wrap .i64 (((n30 : Nat) : Int) - 1)) < ((n27 : Nat) : Int) ∧ ∃ a32 : Addr, A26 = some a32 ∧ ∃ (n33 : Int), w22.cell? (((a32.add (((IntKind.wrap .i64 (((n30 : Nat) : Int) - 1)).toNat) * 3)).add 2).add 0) = some (.int .i64 n33) ∧ K (.int .i64 n33) w22))

def spec_ActiveMask.ann : Ann := (.seq .l (.seq (.seq .l (.two (.seq .l .l) .l)) (.seq .l .l)))

theorem spec_ActiveMask.vc_eq (x0_0 : Int) (A0_1 : Option Addr) (n0_1 : Nat) (c0_1 : Nat) (A0_2 : Option Addr) (n0_2 : Nat) (c0_2 : Nat) (w : World) (K : Value → World → Prop) : vcF Try.prog Try.f211 spec_ActiveMask.ann [(.agg #[(.int .i64 x0_0), (.slice A0_1 n0_1 c0_1), (.slice A0_2 n0_2 c0_2)])] K w = spec_ActiveMask.vc x0_0 A0_1 n0_1 c0_1 A0_2 n0_2 c0_2 w K := by kernel_rfl

theorem spec_ActiveMask.start {x0_0 : Int} {A0_1 : Option Addr} {n0_1 : Nat} {c0_1 : Nat} {A0_2 : Option Addr} {n0_2 : Nat} {c0_2 : Nat} {w : World} {K : Value → World → Prop} (h : spec_ActiveMask.vc x0_0 A0_1 n0_1 c0_1 A0_2 n0_2 c0_2 w K) : Cll Try.prog 211 #[(.agg #[(.int .i64 x0_0), (.slice A0_1 n0_1 c0_1), (.slice A0_2 n0_2 c0_2)])] w K :=
  vcF_sound mixed (fn := Try.f211) (by kernel_rfl) (by kernel_rfl) (an := spec_ActiveMask.ann) (args := [(.agg #[(.int .i64 x0_0), (.slice A0_1 n0_1 c0_1), (.slice A0_2 n0_2 c0_2)])]) (by rw [spec_ActiveMask.vc_eq]; exact h)

theorem spec_ActiveMask.con {s0 : D.Warp} {A0_1 : Option Addr} {c0_1 : Nat} {A0_2 : Option Addr} {c0_2 : Nat} {r : Int} {w : World} (hp : M.spec_ActiveMask_pre s0) (hr : r = M.spec_ActiveMask s0) (R0_1 : Row el132 w A0_1 s0.Frames) (hc0_1 : s0.Frames.length ≤ c0_1) (R0_2 : Row el3 w A0_2 s0.Regs) (hc0_2 : s0.Regs.length ≤ c0_2) :
    Cll Try.prog 211 #[(.agg #[(.int .i64 s0.Number), (.slice A0_1 s0.Frames.length c0_1), (.slice A0_2 s0.Regs.length c0_2)])] w (fun v_ w_ => v_ = (.int .i64 r) ∧ Ext w w_) := by
  have H := wp.spec_ActiveMask.math s0 hp
  have hB := Ext.refl w
  refine spec_ActiveMask.start ?_
  unfold spec_ActiveMask.vc
  unfold wp.spec_ActiveMask at H
  refine newBlk (fun g3_ w21 L3 P3 e22 => ?_)
  have O3 := P3
  have L3 := Nat.le_trans hB.size L3
  have hB := ethen hB e22
  refine ⟨_, _, _, (O3.at 1 rfl rfl), ?_⟩
  refine bcase_mk (fun hc28 => ?_) (fun hc28 => ?_)
  · have H := (bcase_iff.1 H).1 hc28
    obtain rfl := hr.trans H.symm
    exact ⟨rfl, hB⟩
  · have H := (bcase_iff.1 H).2 hc28
    refine ⟨_, _, _, (O3.at 1 rfl rfl), ?_⟩
    refine ⟨_, _, _, (O3.at 1 rfl rfl), ?_⟩
    obtain ⟨⟨h0_26, h1_27⟩, H⟩ := H
    obtain ⟨a24, ha25, hat23⟩ := Row.at (R0_1.ext hB) h0_26 h1_27
    refine ⟨h0_26, h1_27, a24, ha25, ?_⟩
    refine ⟨_, (hat23 2 _ rfl), ?_⟩
    obtain rfl := hr.trans H.symm
    exact ⟨rfl, hB⟩

def spec_ZeroMask.vc (x0_0 : Int) (A0_1 : Option Addr) (n0_1 : Nat) (c0_1 : Nat) (A0_2 : Option Addr) (n0_2 : Nat) (c0_2 : Nat) (x1 : Int) (w : World) (K : Value → World → Prop) : Prop :=
  newK w (.cells #[(.int .i64 x0_0), (.slice A0_1 n0_1 c0_1), (.slice A0_2 n0_2 c0_2)] 102) fun g21 w22 => Cll Try.prog 169 #[(.int .i64 x1)] w22 fun v24 w25 => (∃ (b26 : Bool), v24 = (.bool b26) ∧ bcase (!b26) (K (.int .i64 0) w25) (∃ (A27 : Option Addr) (n28 : Nat) (c29 : Nat), w25.cell? (((⟨g21, 0, none⟩ : Addr).add 2).add 0) = some (.slice A27 n28 c29) ∧ bcase (((n28 : Nat) : Int) != 32) (K (.int .i64 0) w25) (LoopT (σ := Int × Int × Unit) (fun z30 w31 next32 => bcase (decide (z30.2.1 < 8)) (∃ (n33 : Int), w31.cell? ((⟨g21, 0, none⟩ : Addr).add 0) = some (.int .i64 n33) ∧ ∃ (A34 : Option Addr) (n35 : Nat) (c36 : Nat), w31.cell? ((⟨g21, 0, none⟩ : Addr).add 1) = some (.slice A34 n35 c36) ∧ ∃ (A37 : Option Addr) (n38 : Nat) (c39 : Nat), w31.cell? ((⟨g21, 0, none⟩ : Addr).add 2) = some (.slice A37 n38 c39) ∧ Cll Try.prog 211 #[(.agg #[(.int .i64 n33), (.slice A34 n35 c36), (.slice A37 n38 c39)])] w31 fun v40 w41 => (∃ (n42 : Int), v40 = (.int .i64 n42) ∧ Cll Try.prog 210 #[(.int .i64 n42), (.int .i64 z30.2.1)] w41 fun v43 w44 => (∃ (b45 : Bool), v43 = (.bool b45) ∧ bcase b45 (∃ (A46 : Option Addr) (n47 : Nat) (c48 : Nat), w44.cell? (((⟨g21, 0, none⟩ : Addr).add 2).add 0) = some (.slice A46 n47 c48) ∧ ((0 : Int) ≤ (IntKind.wrap .i64 ((IntKind.wrap .i64 (z30.2.1 * 4)) + x1)) ∧ (IntKind.wrap .i64 ((IntKind.wrap .i64 (z30.2.1 * 4)) + x1)) < ((n47 : Nat) : Int) ∧ ∃ a49 : Addr, A46 = some a49 ∧ ∃ (n50 : Int), w44.cell? ((a49.add (((IntKind.wrap .i64 ((IntKind.wrap .i64 (z30.2.1 * 4)) + x1)).toNat) * 1)).add 0) = some (.int .i64 n50) ∧ bcase (n50 == 0) (((0 : Int) ≤ z30.2.1 ∧ next32 ((bitOr .i64 z30.1 (IntKind.wrap .i64 (1 * 2 ^ (min (z30.2.1.toNat) (IntKind.bits .i64))))), (IntKind.wrap .i64 (z30.2.1 + 1)), ()) w44)) (next32 (z30.1, (IntKind.wrap .i64 (z30.2.1 + 1)), ()) w44))) (next32 (z30.1, (IntKind.wrap .i64 (z30.2.1 + 1)), ()) w44)))) (K (.int .i64 z30.1) w31)) (0, 0, ()) w25)))

def spec_ZeroMask.ann : Ann := (.seq .l (.seq (.seq .l (.two (.seq .l .l) .l)) (.seq .l (.seq (.seq .l (.one (.loop [(5, .int .i64), (6, .int .i64)] (.seq (.seq .l (.two .l .l)) (.seq (.one (.seq .l (.two .l .l))) .l))))) (.seq .l .l)))))

theorem spec_ZeroMask.vc_eq (x0_0 : Int) (A0_1 : Option Addr) (n0_1 : Nat) (c0_1 : Nat) (A0_2 : Option Addr) (n0_2 : Nat) (c0_2 : Nat) (x1 : Int) (w : World) (K : Value → World → Prop) : vcF Try.prog Try.f181 spec_ZeroMask.ann [(.agg #[(.int .i64 x0_0), (.slice A0_1 n0_1 c0_1), (.slice A0_2 n0_2 c0_2)]), (.int .i64 x1)] K w = spec_ZeroMask.vc x0_0 A0_1 n0_1 c0_1 A0_2 n0_2 c0_2 x1 w K := by kernel_rfl

theorem spec_ZeroMask.start {x0_0 : Int} {A0_1 : Option Addr} {n0_1 : Nat} {c0_1 : Nat} {A0_2 : Option Addr} {n0_2 : Nat} {c0_2 : Nat} {x1 : Int} {w : World} {K : Value → World → Prop} (h : spec_ZeroMask.vc x0_0 A0_1 n0_1 c0_1 A0_2 n0_2 c0_2 x1 w K) : Cll Try.prog 181 #[(.agg #[(.int .i64 x0_0), (.slice A0_1 n0_1 c0_1), (.slice A0_2 n0_2 c0_2)]), (.int .i64 x1)] w K :=
  vcF_sound mixed (fn := Try.f181) (by kernel_rfl) (by kernel_rfl) (an := spec_ZeroMask.ann) (args := [(.agg #[(.int .i64 x0_0), (.slice A0_1 n0_1 c0_1), (.slice A0_2 n0_2 c0_2)]), (.int .i64 x1)]) (by rw [spec_ZeroMask.vc_eq]; exact h)

theorem spec_ZeroMask.con {s0 : D.Warp} {A0_1 : Option Addr} {c0_1 : Nat} {A0_2 : Option Addr} {c0_2 : Nat} {x1 : Int} {r : Int} {w : World} (hp : M.spec_ZeroMask_pre s0 x1) (hr : r = M.spec_ZeroMask s0 x1) (R0_1 : Row el132 w A0_1 s0.Frames) (hc0_1 : s0.Frames.length ≤ c0_1) (R0_2 : Row el3 w A0_2 s0.Regs) (hc0_2 : s0.Regs.length ≤ c0_2) :
    Cll Try.prog 181 #[(.agg #[(.int .i64 s0.Number), (.slice A0_1 s0.Frames.length c0_1), (.slice A0_2 s0.Regs.length c0_2)]), (.int .i64 x1)] w (fun v_ w_ => v_ = (.int .i64 r) ∧ Ext w w_) := by
  have H := wp.spec_ZeroMask.math s0 x1 hp
  have hB := Ext.refl w
  refine spec_ZeroMask.start ?_
  unfold spec_ZeroMask.vc
  unfold wp.spec_ZeroMask at H
  refine newBlk (fun g3_ w21 L3 P3 e22 => ?_)
  have O3 := P3
  have L3 := Nat.le_trans hB.size L3
  have hB := ethen hB e22
  obtain ⟨r23, hr24⟩ : ∃ r_, r_ = M.spec_l04Reg x1 := ⟨_, rfl⟩
  have H := H r23 hr24
  refine (spec_l04Reg.con hr24 ).mono ?_
  rintro _ w26 ⟨rfl, e27⟩
  have O3 := O3.ext e27
  have hB := ethen hB e27
  refine ⟨r23, rfl, ?_⟩
  refine bcase_mk (fun hc68 => ?_) (fun hc68 => ?_)
  · have H := (bcase_iff.1 H).1 hc68
    obtain rfl := hr.trans H.symm
    exact ⟨rfl, hB⟩
  · have H := (bcase_iff.1 H).2 hc68
    refine ⟨_, _, _, (O3.at 2 rfl rfl), ?_⟩
    refine bcase_mk (fun hc67 => ?_) (fun hc67 => ?_)
    · have H := (bcase_iff.1 H).1 hc67
      obtain rfl := hr.trans H.symm
      exact ⟨rfl, hB⟩
    · have H := (bcase_iff.1 H).2 hc67
      obtain ⟨J31, ⟨m65, hJ64⟩, hS32⟩ := H
      refine ⟨fun m_ z_ w_ => ∃ (i28 : Int) (i29 : Int), z_ = (i28, i29, ()) ∧ J31 m_ (i28, i29, ()) ∧ Ext w w_ ∧ Blk w_ g3_ 102 #[(.int .i64 s0.Number), (.slice A0_1 s0.Frames.length c0_1), (.slice A0_2 s0.Regs.length c0_2)], ⟨m65, 0, 0, rfl, hJ64, hB, O3⟩, ?_⟩
      rintro m30 _ w34 ⟨i28, i29, rfl, hJ66, hB, O3⟩
      have H := hS32 m30 _ hJ66
      clear hS32 hJ66
      dsimp only at H ⊢
      refine bcase_mk (fun hc62 => ?_) (fun hc62 => ?_)
      · have H := (bcase_iff.1 H).1 hc62
        refine ⟨_, (O3.at 0 rfl rfl), ?_⟩
        refine ⟨_, _, _, (O3.at 1 rfl rfl), ?_⟩
        refine ⟨_, _, _, (O3.at 2 rfl rfl), ?_⟩
        obtain ⟨hp37, H⟩ := H
        obtain ⟨r35, hr36⟩ : ∃ r_, r_ = M.spec_ActiveMask s0 := ⟨_, rfl⟩
        have H := H r35 hr36
        refine (spec_ActiveMask.con hp37 hr36 (R0_1.ext hB) hc0_1 (R0_2.ext hB) hc0_2).mono ?_
        rintro _ w38 ⟨rfl, e39⟩
        have O3 := O3.ext e39
        have hB := ethen hB e39
        refine ⟨r35, rfl, ?_⟩
        obtain ⟨r40, hr41⟩ : ∃ r_, r_ = M.spec_HasLane r35 i29 := ⟨_, rfl⟩
        have H := H r40 hr41
        refine (spec_HasLane.con hr41 ).mono ?_
        rintro _ w43 ⟨rfl, e44⟩
        have O3 := O3.ext e44
        have hB := ethen hB e44
        refine ⟨r40, rfl, ?_⟩
        refine bcase_mk (fun hc61 => ?_) (fun hc61 => ?_)
        · have H := (bcase_iff.1 H).1 hc61
          refine ⟨_, _, _, (O3.at 2 rfl rfl), ?_⟩
          obtain ⟨⟨h0_48, h1_49⟩, H⟩ := H
          obtain ⟨a46, ha47, hat45⟩ := Row.at (R0_2.ext hB) h0_48 h1_49
          refine ⟨h0_48, h1_49, a46, ha47, ?_⟩
          refine ⟨_, (hat45 0 _ rfl), ?_⟩
          refine bcase_mk (fun hc57 => ?_) (fun hc57 => ?_)
          · have H := (bcase_iff.1 H).1 hc57
            obtain ⟨hc50, H⟩ := H
            refine ⟨hc50, ?_⟩
            obtain ⟨m51, hm52, hJ53⟩ := H
            exact ⟨m51, hm52, (bitOr .i64 i28 (IntKind.wrap .i64 (1 * 2 ^ (min (i29.toNat) (IntKind.bits .i64))))), (IntKind.wrap .i64 (i29 + 1)), rfl, hJ53, hB, O3⟩
          · have H := (bcase_iff.1 H).2 hc57
            obtain ⟨m54, hm55, hJ56⟩ := H
            exact ⟨m54, hm55, i28, (IntKind.wrap .i64 (i29 + 1)), rfl, hJ56, hB, O3⟩
        · have H := (bcase_iff.1 H).2 hc61
          obtain ⟨m58, hm59, hJ60⟩ := H
          exact ⟨m58, hm59, i28, (IntKind.wrap .i64 (i29 + 1)), rfl, hJ60, hB, O3⟩
      · have H := (bcase_iff.1 H).2 hc62
        obtain rfl := hr.trans H.symm
        exact ⟨rfl, hB⟩

def spec_l13Splits.vc (A0 : Option Addr) (n0 : Nat) (c0 : Nat) (x1_0 : Int) (A1_1 : Option Addr) (n1_1 : Nat) (c1_1 : Nat) (A1_2 : Option Addr) (n1_2 : Nat) (c1_2 : Nat) (w : World) (K : Value → World → Prop) : Prop :=
  newK w (.cells #[(.int .i64 x1_0), (.slice A1_1 n1_1 c1_1), (.slice A1_2 n1_2 c1_2)] 102) fun g21 w22 => ∃ (A23 : Option Addr) (n24 : Nat) (c25 : Nat), w22.cell? (((⟨g21, 0, none⟩ : Addr).add 1).add 0) = some (.slice A23 n24 c25) ∧ ∃ (A26 : Option Addr) (n27 : Nat) (c28 : Nat), w22.cell? (((⟨g21, 0, none⟩ : Addr).add 1).add 0) = some (.slice A26 n27 c28) ∧ ((0 : Int) ≤ (IntKind.wrap .i64 (((n27 : Nat) : Int) - 1)) ∧ (IntKind.wrap .i64 (((n27 : Nat) : Int) - 1)) < ((n24 : Nat) : Int) ∧ ∃ a29 : Addr, A23 = some a29 ∧ ∃ (n30 : Int), w22.cell? ((a29.add (((IntKind.wrap .i64 (((n27 : Nat) : Int) - 1)).toNat) * 3)).add 0) = some (.int .i64 n30) ∧ ∃ (n31 : Int), w22.cell? ((a29.add (((IntKind.wrap .i64 (((n27 : Nat) : Int) - 1)).toNat) * 3)).add 1) = some (.int .i64 n31) ∧ ∃ (n32 : Int), w22.cell? ((a29.add (((IntKind.wrap .i64 (((n27 : Nat) : Int) - 1)).toNat) * 3)).add 2) = some (.int .i64 n32) ∧ newK w22 (.cells #[(.int .i64 0), (.int .i64 0), (.int .i64 0)] 132) fun g33 w34 => stCells (⟨g33, 0, none⟩ : Addr) [(.int .i64 n30), (.int .i64 n31), (.int .i64 n32)] 0 w34 fun w35 => ∃ (n37 : Int), w35.cell? (((⟨g33, 0, none⟩ : Addr).add 0).add 0) = some (.int .i64 n37) ∧ ((0 : Int) ≤ n37 ∧ n37 < ((n0 : Nat) : Int) ∧ ∃ a38 : Addr, A0 = some a38 ∧ ∃ (n39 : Int), w35.cell? (((a38.add ((n37.toNat) * 4)).add 0).add 0) = some (.int .i64 n39) ∧ bcase (n39 != 10) (K (.bool false) w35.drew) (∃ (n40 : Int), w35.cell? (((⟨g33, 0, none⟩ : Addr).add 0).add 0) = some (.int .i64 n40) ∧ ((0 : Int) ≤ n40 ∧ n40 < ((n0 : Nat) : Int) ∧ ∃ a41 : Addr, A0 = some a41 ∧ ∃ (n42 : Int), w35.cell? (((a41.add ((n40.toNat) * 4)).add 2).add 0) = some (.int .i64 n42) ∧ ∃ (n43 : Int), w35.cell? (((⟨g33, 0, none⟩ : Addr).add 0).add 0) = some (.int .i64 n43) ∧ bcase (n42 == (IntKind.wrap .i64 (n43 + 1))) (K (.bool false) w35.drew) ((∃ M44 : Nat → Prop, ∃ (n45 : Int), (¬ M44 ((⟨g21, 0, none⟩ : Addr)).block ∧ w35.drew.cell? ((⟨g21, 0, none⟩ : Addr).add 0) = some (.int .i64 n45)) ∧ ∃ (A46 : Option Addr) (n47 : Nat) (c48 : Nat), (¬ M44 ((⟨g21, 0, none⟩ : Addr)).block ∧ w35.drew.cell? ((⟨g21, 0, none⟩ : Addr).add 1) = some (.slice A46 n47 c48)) ∧ ∃ (A49 : Option Addr) (n50 : Nat) (c51 : Nat), (¬ M44 ((⟨g21, 0, none⟩ : Addr)).block ∧ w35.drew.cell? ((⟨g21, 0, none⟩ : Addr).add 2) = some (.slice A49 n50 c51)) ∧ ∃ (n52 : Int), (¬ M44 (((⟨g33, 0, none⟩ : Addr).add 0)).block ∧ w35.drew.cell? (((⟨g33, 0, none⟩ : Addr).add 0).add 0) = some (.int .i64 n52)) ∧ ((0 : Int) ≤ n52 ∧ n52 < ((n0 : Nat) : Int) ∧ ∃ a53 : Addr, A0 = some a53 ∧ ∃ (n54 : Int), (¬ M44 (((a53.add ((n52.toNat) * 4)).add 1)).block ∧ w35.drew.cell? (((a53.add ((n52.toNat) * 4)).add 1).add 0) = some (.int .i64 n54)) ∧ Cll Try.prog 181 #[(.agg #[(.int .i64 n45), (.slice A46 n47 c48), (.slice A49 n50 c51)]), (.int .i64 n54)] w35.drew.drew fun v55 w56 => (∃ (n57 : Int), v55 = (.int .i64 n57) ∧ SameBut M44 w35.drew w56 ∧ bcase (n57 != 0) (∃ (n58 : Int), w56.cell? (((⟨g33, 0, none⟩ : Addr).add 2).add 0) = some (.int .i64 n58) ∧ K (.bool (n57 != n58)) w56) (K (.bool false) w56)))))))))

def spec_l13Splits.ann : Ann := (.seq .l (.seq .l (.seq (.seq .l (.two (.seq .l .l) .l)) (.seq .l (.seq .l .l)))))

theorem spec_l13Splits.vc_eq (A0 : Option Addr) (n0 : Nat) (c0 : Nat) (x1_0 : Int) (A1_1 : Option Addr) (n1_1 : Nat) (c1_1 : Nat) (A1_2 : Option Addr) (n1_2 : Nat) (c1_2 : Nat) (w : World) (K : Value → World → Prop) : vcF Try.prog Try.f151 spec_l13Splits.ann [(.slice A0 n0 c0), (.agg #[(.int .i64 x1_0), (.slice A1_1 n1_1 c1_1), (.slice A1_2 n1_2 c1_2)])] K w = spec_l13Splits.vc A0 n0 c0 x1_0 A1_1 n1_1 c1_1 A1_2 n1_2 c1_2 w K := by kernel_rfl

theorem spec_l13Splits.start {A0 : Option Addr} {n0 : Nat} {c0 : Nat} {x1_0 : Int} {A1_1 : Option Addr} {n1_1 : Nat} {c1_1 : Nat} {A1_2 : Option Addr} {n1_2 : Nat} {c1_2 : Nat} {w : World} {K : Value → World → Prop} (h : spec_l13Splits.vc A0 n0 c0 x1_0 A1_1 n1_1 c1_1 A1_2 n1_2 c1_2 w K) : Cll Try.prog 151 #[(.slice A0 n0 c0), (.agg #[(.int .i64 x1_0), (.slice A1_1 n1_1 c1_1), (.slice A1_2 n1_2 c1_2)])] w K :=
  vcF_sound mixed (fn := Try.f151) (by kernel_rfl) (by kernel_rfl) (an := spec_l13Splits.ann) (args := [(.slice A0 n0 c0), (.agg #[(.int .i64 x1_0), (.slice A1_1 n1_1 c1_1), (.slice A1_2 n1_2 c1_2)])]) (by rw [spec_l13Splits.vc_eq]; exact h)

theorem spec_l13Splits.con {xs0 : List D.Ins} {A0 : Option Addr} {c0 : Nat} {s1 : D.Warp} {A1_1 : Option Addr} {c1_1 : Nat} {A1_2 : Option Addr} {c1_2 : Nat} {r : Bool} {w : World} (hp : M.spec_l13Splits_pre xs0 s1) (hr : r = M.spec_l13Splits xs0 s1) (R0 : Row el76 w A0 xs0) (hc0 : xs0.length ≤ c0) (R1_1 : Row el132 w A1_1 s1.Frames) (hc1_1 : s1.Frames.length ≤ c1_1) (R1_2 : Row el3 w A1_2 s1.Regs) (hc1_2 : s1.Regs.length ≤ c1_2) :
    Cll Try.prog 151 #[(.slice A0 xs0.length c0), (.agg #[(.int .i64 s1.Number), (.slice A1_1 s1.Frames.length c1_1), (.slice A1_2 s1.Regs.length c1_2)])] w (fun v_ w_ => v_ = (.bool r) ∧ Ext w w_) := by
  have H := wp.spec_l13Splits.math xs0 s1 hp
  have hB := Ext.refl w
  refine spec_l13Splits.start ?_
  unfold spec_l13Splits.vc
  unfold wp.spec_l13Splits at H
  refine newBlk (fun g4_ w21 L4 P4 e22 => ?_)
  have O4 := P4
  have L4 := Nat.le_trans hB.size L4
  have hB := ethen hB e22
  refine ⟨_, _, _, (O4.at 1 rfl rfl), ?_⟩
  refine ⟨_, _, _, (O4.at 1 rfl rfl), ?_⟩
  obtain ⟨⟨h0_26, h1_27⟩, H⟩ := H
  obtain ⟨a24, ha25, hat23⟩ := Row.at (R1_1.ext hB) h0_26 h1_27
  refine ⟨h0_26, h1_27, a24, ha25, ?_⟩
  refine ⟨_, (hat23 0 _ rfl), ?_⟩
  refine ⟨_, (hat23 1 _ rfl), ?_⟩
  refine ⟨_, (hat23 2 _ rfl), ?_⟩
  refine newBlk (fun g5_ w28 L5 P5 e29 => ?_)
  have N4_5 := O4.ne L5
  have O4 := O4.ext e29
  have O5 := P5
  have L5 := Nat.le_trans hB.size L5
  have hB := ethen hB e29
  refine stBlk O5 (o := 0) (cs' := #[(.int .i64 ((rd s1.Frames (IntKind.wrap .i64 (((s1.Frames.length : Nat) : Int) - 1))).Pc)), (.int .i64 ((rd s1.Frames (IntKind.wrap .i64 (((s1.Frames.length : Nat) : Int) - 1))).Stop)), (.int .i64 ((rd s1.Frames (IntKind.wrap .i64 (((s1.Frames.length : Nat) : Int) - 1))).Mask))]) rfl rfl (Nat.le_of_ble_eq_true rfl) rfl (fun w30 P5 e31 => ?_)
  have O4_ := O4.chg e31 N4_5
  have O4 := O4_
  have hB := echg hB e31 L5
  have O5 := P5
  refine ⟨_, (O5.at 0 rfl rfl), ?_⟩
  obtain ⟨⟨h0_36, h1_37⟩, H⟩ := H
  obtain ⟨a34, ha35, hat33⟩ := Row.at (R0.ext hB) h0_36 h1_37
  refine ⟨h0_36, h1_37, a34, ha35, ?_⟩
  refine ⟨_, (hat33 0 _ rfl), ?_⟩
  refine bcase_mk (fun hc56 => ?_) (fun hc56 => ?_)
  · have H := (bcase_iff.1 H).1 hc56
    have O4 := O4.ext (Ext.drew _)
    have O5 := O5.ext (Ext.drew _)
    have hB := ethen hB (Ext.drew _)
    obtain rfl := hr.trans H.symm
    exact ⟨rfl, hB⟩
  · have H := (bcase_iff.1 H).2 hc56
    refine ⟨_, (O5.at 0 rfl rfl), ?_⟩
    obtain ⟨⟨h0_41, h1_42⟩, H⟩ := H
    obtain ⟨a39, ha40, hat38⟩ := Row.at (R0.ext hB) h0_41 h1_42
    refine ⟨h0_41, h1_42, a39, ha40, ?_⟩
    refine ⟨_, (hat38 2 _ rfl), ?_⟩
    refine ⟨_, (O5.at 0 rfl rfl), ?_⟩
    have O4 := O4.ext (Ext.drew _)
    have O5 := O5.ext (Ext.drew _)
    have hB := ethen hB (Ext.drew _)
    refine bcase_mk (fun hc55 => ?_) (fun hc55 => ?_)
    · have H := (bcase_iff.1 H).1 hc55
      obtain rfl := hr.trans H.symm
      exact ⟨rfl, hB⟩
    · have H := (bcase_iff.1 H).2 hc55
      refine ⟨(fun _ => False), ?_⟩
      refine ⟨_, ⟨(fun h_ => h_), (O4.at 0 rfl rfl)⟩, ?_⟩
      refine ⟨_, _, _, ⟨(fun h_ => h_), (O4.at 1 rfl rfl)⟩, ?_⟩
      refine ⟨_, _, _, ⟨(fun h_ => h_), (O4.at 2 rfl rfl)⟩, ?_⟩
      refine ⟨_, ⟨(fun h_ => h_), (O5.at 0 rfl rfl)⟩, ?_⟩
      obtain ⟨⟨h0_47, h1_48⟩, H⟩ := H
      obtain ⟨a45, ha46, hat44⟩ := Row.at (R0.ext hB) h0_47 h1_48
      refine ⟨h0_47, h1_48, a45, ha46, ?_⟩
      refine ⟨_, ⟨(fun h_ => h_), (hat44 1 _ rfl)⟩, ?_⟩
      have hS43 := Chg.refl (fun _ => False) w30.drew
      have O4 := O4.ext (Ext.drew _)
      have O5 := O5.ext (Ext.drew _)
      have hB := ethen hB (Ext.drew _)
      have hS43 := hS43.then (Ext.drew _)
      obtain ⟨hp51, H⟩ := H
      obtain ⟨r49, hr50⟩ : ∃ r_, r_ = M.spec_ZeroMask s1 ((rd xs0 ((rd s1.Frames (IntKind.wrap .i64 (((s1.Frames.length : Nat) : Int) - 1))).Pc)).A) := ⟨_, rfl⟩
      have H := H r49 hr50
      refine (spec_ZeroMask.con hp51 hr50 (R1_1.ext hB) hc1_1 (R1_2.ext hB) hc1_2).mono ?_
      rintro _ w52 ⟨rfl, e53⟩
      have O4 := O4.ext e53
      have O5 := O5.ext e53
      have hB := ethen hB e53
      have hS43 := hS43.then e53
      refine ⟨r49, rfl, ?_⟩
      refine ⟨sameBut_chg hS43, ?_⟩
      refine bcase_mk (fun hc54 => ?_) (fun hc54 => ?_)
      · have H := (bcase_iff.1 H).1 hc54
        refine ⟨_, (O5.at 2 rfl rfl), ?_⟩
        obtain rfl := hr.trans H.symm
        exact ⟨rfl, hB⟩
      · have H := (bcase_iff.1 H).2 hc54
        obtain rfl := hr.trans H.symm
        exact ⟨rfl, hB⟩

def spec_l13Local.vc (A0 : Option Addr) (n0 : Nat) (c0 : Nat) (x1_0 : Int) (A1_1 : Option Addr) (n1_1 : Nat) (c1_1 : Nat) (A1_2 : Option Addr) (n1_2 : Nat) (c1_2 : Nat) (w : World) (K : Value → World → Prop) : Prop :=
  newK w (.cells #[(.int .i64 x1_0), (.slice A1_1 n1_1 c1_1), (.slice A1_2 n1_2 c1_2)] 102) fun g21 w22 => ∃ (A24 : Option Addr) (n25 : Nat) (c26 : Nat), w22.cell? (((⟨g21, 0, none⟩ : Addr).add 1).add 0) = some (.slice A24 n25 c26) ∧ bcase (((n25 : Nat) : Int) == 0) (K (.bool false) w22) (∃ (A27 : Option Addr) (n28 : Nat) (c29 : Nat), w22.cell? (((⟨g21, 0, none⟩ : Addr).add 1).add 0) = some (.slice A27 n28 c29) ∧ ∃ (A30 : Option Addr) (n31 : Nat) (c32 : Nat), w22.cell? (((⟨g21, 0, none⟩ : Addr).add 1).add 0) = some (.slice A30 n31 c32) ∧ ((0 : Int) ≤ (IntKind.wrap .i64 (((n31 : Nat) : Int) - 1)) ∧ (IntKind.wrap .i64 (((n31 : Nat) : Int) - 1)) < ((n28 : Nat) : Int) ∧ ∃ a33 : Addr, A27 = some a33 ∧ ∃ (n34 : Int), w22.cell? (((a33.add (((IntKind.wrap .i64 (((n31 : Nat) : Int) - 1)).toNat) * 3)).add 0).add 0) = some (.int .i64 n34) ∧ ((0 : Int) ≤ n34 ∧ n34 < ((n0 : Nat) : Int) ∧ ∃ a35 : Addr, A0 = some a35 ∧ ∃ (n36 : Int), w22.cell? ((a35.add ((n34.toNat) * 4)).add 0) = some (.int .i64 n36) ∧ ∃ (n37 : Int), w22.cell? ((a35.add ((n34.toNat) * 4)).add 1) = some (.int .i64 n37) ∧ ∃ (n38 : Int), w22.cell? ((a35.add ((n34.toNat) * 4)).add 2) = some (.int .i64 n38) ∧ ∃ (n39 : Int), w22.cell? ((a35.add ((n34.toNat) * 4)).add 3) = some (.int .i64 n39) ∧ Cll Try.prog 105 #[(.agg #[(.int .i64 n36), (.int .i64 n37), (.int .i64 n38), (.int .i64 n39)])] w22 fun v40 w41 => (∃ (b42 : Bool), v40 = (.bool b42) ∧ bcase (!b42) (K (.bool false) w41) (∃ (n43 : Int), w41.cell? ((⟨g21, 0, none⟩ : Addr).add 0) = some (.int .i64 n43) ∧ ∃ (A44 : Option Addr) (n45 : Nat) (c46 : Nat), w41.cell? ((⟨g21, 0, none⟩ : Addr).add 1) = some (.slice A44 n45 c46) ∧ ∃ (A47 : Option Addr) (n48 : Nat) (c49 : Nat), w41.cell? ((⟨g21, 0, none⟩ : Addr).add 2) = some (.slice A47 n48 c49) ∧ Cll Try.prog 151 #[(.slice A0 n0 c0), (.agg #[(.int .i64 n43), (.slice A44 n45 c46), (.slice A47 n48 c49)])] w41 fun v50 w51 => (∃ (b52 : Bool), v50 = (.bool b52) ∧ bcase (!b52) (K (.bool true) w51) (∃ (A53 : Option Addr) (n54 : Nat) (c55 : Nat), w51.cell? (((⟨g21, 0, none⟩ : Addr).add 1).add 0) = some (.slice A53 n54 c55) ∧ K (.bool (decide (((n54 : Nat) : Int) ≤ 22))) w51)))))))

def spec_l13Local.ann : Ann := (.seq .l (.seq (.seq .l (.two (.seq .l .l) .l)) (.seq .l .l)))

theorem spec_l13Local.vc_eq (A0 : Option Addr) (n0 : Nat) (c0 : Nat) (x1_0 : Int) (A1_1 : Option Addr) (n1_1 : Nat) (c1_1 : Nat) (A1_2 : Option Addr) (n1_2 : Nat) (c1_2 : Nat) (w : World) (K : Value → World → Prop) : vcF Try.prog Try.f106 spec_l13Local.ann [(.slice A0 n0 c0), (.agg #[(.int .i64 x1_0), (.slice A1_1 n1_1 c1_1), (.slice A1_2 n1_2 c1_2)])] K w = spec_l13Local.vc A0 n0 c0 x1_0 A1_1 n1_1 c1_1 A1_2 n1_2 c1_2 w K := by kernel_rfl

theorem spec_l13Local.start {A0 : Option Addr} {n0 : Nat} {c0 : Nat} {x1_0 : Int} {A1_1 : Option Addr} {n1_1 : Nat} {c1_1 : Nat} {A1_2 : Option Addr} {n1_2 : Nat} {c1_2 : Nat} {w : World} {K : Value → World → Prop} (h : spec_l13Local.vc A0 n0 c0 x1_0 A1_1 n1_1 c1_1 A1_2 n1_2 c1_2 w K) : Cll Try.prog 106 #[(.slice A0 n0 c0), (.agg #[(.int .i64 x1_0), (.slice A1_1 n1_1 c1_1), (.slice A1_2 n1_2 c1_2)])] w K :=
  vcF_sound mixed (fn := Try.f106) (by kernel_rfl) (by kernel_rfl) (an := spec_l13Local.ann) (args := [(.slice A0 n0 c0), (.agg #[(.int .i64 x1_0), (.slice A1_1 n1_1 c1_1), (.slice A1_2 n1_2 c1_2)])]) (by rw [spec_l13Local.vc_eq]; exact h)

theorem spec_l13Local.con {xs0 : List D.Ins} {A0 : Option Addr} {c0 : Nat} {s1 : D.Warp} {A1_1 : Option Addr} {c1_1 : Nat} {A1_2 : Option Addr} {c1_2 : Nat} {r : Bool} {w : World} (hp : M.spec_l13Local_pre xs0 s1) (hr : r = M.spec_l13Local xs0 s1) (R0 : Row el76 w A0 xs0) (hc0 : xs0.length ≤ c0) (R1_1 : Row el132 w A1_1 s1.Frames) (hc1_1 : s1.Frames.length ≤ c1_1) (R1_2 : Row el3 w A1_2 s1.Regs) (hc1_2 : s1.Regs.length ≤ c1_2) :
    Cll Try.prog 106 #[(.slice A0 xs0.length c0), (.agg #[(.int .i64 s1.Number), (.slice A1_1 s1.Frames.length c1_1), (.slice A1_2 s1.Regs.length c1_2)])] w (fun v_ w_ => v_ = (.bool r) ∧ Ext w w_) := by
  have H := wp.spec_l13Local.math xs0 s1 hp
  have hB := Ext.refl w
  refine spec_l13Local.start ?_
  unfold spec_l13Local.vc
  unfold wp.spec_l13Local at H
  refine newBlk (fun g4_ w21 L4 P4 e22 => ?_)
  have O4 := P4
  have L4 := Nat.le_trans hB.size L4
  have hB := ethen hB e22
  refine ⟨_, _, _, (O4.at 1 rfl rfl), ?_⟩
  refine bcase_mk (fun hc45 => ?_) (fun hc45 => ?_)
  · have H := (bcase_iff.1 H).1 hc45
    obtain rfl := hr.trans H.symm
    exact ⟨rfl, hB⟩
  · have H := (bcase_iff.1 H).2 hc45
    refine ⟨_, _, _, (O4.at 1 rfl rfl), ?_⟩
    refine ⟨_, _, _, (O4.at 1 rfl rfl), ?_⟩
    obtain ⟨⟨h0_26, h1_27⟩, H⟩ := H
    obtain ⟨a24, ha25, hat23⟩ := Row.at (R1_1.ext hB) h0_26 h1_27
    refine ⟨h0_26, h1_27, a24, ha25, ?_⟩
    refine ⟨_, (hat23 0 _ rfl), ?_⟩
    obtain ⟨⟨h0_31, h1_32⟩, H⟩ := H
    obtain ⟨a29, ha30, hat28⟩ := Row.at (R0.ext hB) h0_31 h1_32
    refine ⟨h0_31, h1_32, a29, ha30, ?_⟩
    refine ⟨_, (hat28 0 _ rfl), ?_⟩
    refine ⟨_, (hat28 1 _ rfl), ?_⟩
    refine ⟨_, (hat28 2 _ rfl), ?_⟩
    refine ⟨_, (hat28 3 _ rfl), ?_⟩
    obtain ⟨r33, hr34⟩ : ∃ r_, r_ = M.spec_IsLocal (rd xs0 ((rd s1.Frames (IntKind.wrap .i64 (((s1.Frames.length : Nat) : Int) - 1))).Pc)) := ⟨_, rfl⟩
    have H := H r33 hr34
    refine (spec_IsLocal.con hr34 ).mono ?_
    rintro _ w36 ⟨rfl, e37⟩
    have O4 := O4.ext e37
    have hB := ethen hB e37
    refine ⟨r33, rfl, ?_⟩
    refine bcase_mk (fun hc44 => ?_) (fun hc44 => ?_)
    · have H := (bcase_iff.1 H).1 hc44
      obtain rfl := hr.trans H.symm
      exact ⟨rfl, hB⟩
    · have H := (bcase_iff.1 H).2 hc44
      refine ⟨_, (O4.at 0 rfl rfl), ?_⟩
      refine ⟨_, _, _, (O4.at 1 rfl rfl), ?_⟩
      refine ⟨_, _, _, (O4.at 2 rfl rfl), ?_⟩
      obtain ⟨hp40, H⟩ := H
      obtain ⟨r38, hr39⟩ : ∃ r_, r_ = M.spec_l13Splits xs0 s1 := ⟨_, rfl⟩
      have H := H r38 hr39
      refine (spec_l13Splits.con hp40 hr39 (R0.ext hB) hc0 (R1_1.ext hB) hc1_1 (R1_2.ext hB) hc1_2).mono ?_
      rintro _ w41 ⟨rfl, e42⟩
      have O4 := O4.ext e42
      have hB := ethen hB e42
      refine ⟨r38, rfl, ?_⟩
      refine bcase_mk (fun hc43 => ?_) (fun hc43 => ?_)
      · have H := (bcase_iff.1 H).1 hc43
        obtain rfl := hr.trans H.symm
        exact ⟨rfl, hB⟩
      · have H := (bcase_iff.1 H).2 hc43
        refine ⟨_, _, _, (O4.at 1 rfl rfl), ?_⟩
        obtain rfl := hr.trans H.symm
        exact ⟨rfl, hB⟩

def spec_l30Can.vc (A0_0 : Option Addr) (n0_0 : Nat) (c0_0 : Nat) (A0_1 : Option Addr) (n0_1 : Nat) (c0_1 : Nat) (A0_2 : Option Addr) (n0_2 : Nat) (c0_2 : Nat) (x0_3 : Int) (x0_4 : Int) (x1 : Int) (w : World) (K : Value → World → Prop) : Prop :=
  newK w (.cells #[(.slice A0_0 n0_0 c0_0), (.slice A0_1 n0_1 c0_1), (.slice A0_2 n0_2 c0_2), (.int .i64 x0_3), (.int .i64 x0_4)] 32) fun g21 w22 => ∃ (A23 : Option Addr) (n24 : Nat) (c25 : Nat), w22.cell? (((⟨g21, 0, none⟩ : Addr).add 1).add 0) = some (.slice A23 n24 c25) ∧ ((0 : Int) ≤ x1 ∧ x1 < ((n24 : Nat) : Int) ∧ ∃ a26 : Addr, A23 = some a26 ∧ ∃ (n27 : Int), w22.cell? ((a26.add ((x1.toNat) * 3)).add 0) = some (.int .i64 n27) ∧ ∃ (A28 : Option Addr) (n29 : Nat) (c30 : Nat), w22.cell? ((a26.add ((x1.toNat) * 3)).add 1) = some (.slice A28 n29 c30) ∧ ∃ (A31 : Option Addr) (n32 : Nat) (c33 : Nat), w22.cell? ((a26.add ((x1.toNat) * 3)).add 2) = some (.slice A31 n32 c33) ∧ newK w22 (.cells #[(.int .i64 0), (.slice none 0 0), (.slice none 0 0)] 102) fun g34 w35 => stCells (⟨g34, 0, none⟩ : Addr) [(.int .i64 n27), (.slice A28 n29 c30), (.slice A31 n32 c33)] 0 w35 fun w36 => ∃ (A38 : Option Addr) (n39 : Nat) (c40 : Nat), w36.cell? (((⟨g34, 0, none⟩ : Addr).add 1).add 0) = some (.slice A38 n39 c40) ∧ bcase (((n39 : Nat) : Int) == 0) (K (.bool false) w36) (∃ (n41 : Int), w36.cell? (((⟨g21, 0, none⟩ : Addr).add 3).add 0) = some (.int .i64 n41) ∧ ((0 : Int) ≤ x1 ∧ bcase ((bitAnd .i64 (Int.fdiv n41 (2 ^ (min (x1.toNat) (IntKind.bits .i64)))) 1) == 1) (K (.bool false) w36) (∃ (A42 : Option Addr) (n43 : Nat) (c44 : Nat), w36.cell? ((⟨g21, 0, none⟩ : Addr).add 0) = some (.slice A42 n43 c44) ∧ ∃ (A45 : Option Addr) (n46 : Nat) (c47 : Nat), w36.cell? ((⟨g21, 0, none⟩ : Addr).add 1) = some (.slice A45 n46 c47) ∧ ∃ (A48 : Option Addr) (n49 : Nat) (c50 : Nat), w36.cell? ((⟨g21, 0, none⟩ : Addr).add 2) = some (.slice A48 n49 c50) ∧ ∃ (n51 : Int), w36.cell? ((⟨g21, 0, none⟩ : Addr).add 3) = some (.int .i64 n51) ∧ ∃ (n52 : Int), w36.cell? ((⟨g21, 0, none⟩ : Addr).add 4) = some (.int .i64 n52) ∧ Cll Try.prog 104 #[(.agg #[(.slice A42 n43 c44), (.slice A45 n46 c47), (.slice A48 n49 c50), (.int .i64 n51), (.int .i64 n52)]), (.int .i64 x1)] w36 fun v53 w54 => (∃ (n55 : Int), True ∧ ∃ (n56 : Int), True ∧ ∃ (n57 : Int), True ∧ ∃ (n58 : Int), True ∧ v53 = (.agg #[(.int .i64 n55), (.int .i64 n56), (.int .i64 n57), (.int .i64 n58)]) ∧ newK w54 (.cells #[(.int .i64 0), (.int .i64 0), (.int .i64 0), (.int .i64 0)] 76) fun g59 w60 => stCells (⟨g59, 0, none⟩ : Addr) [(.int .i64 n55), (.int .i64 n56), (.int .i64 n57), (.int .i64 n58)] 0 w60 fun w61 => ∃ (n62 : Int), w61.cell? ((⟨g59, 0, none⟩ : Addr).add 0) = some (.int .i64 n62) ∧ ∃ (n63 : Int), w61.cell? ((⟨g59, 0, none⟩ : Addr).add 1) = some (.int .i64 n63) ∧ ∃ (n64 : Int), w61.cell? ((⟨g59, 0, none⟩ : Addr).add 2) = some (.int .i64 n64) ∧ ∃ (n65 : Int), w61.cell? ((⟨g59, 0, none⟩ : Addr).add 3) = some (.int .i64 n65) ∧ Cll Try.prog 105 #[(.agg #[(.int .i64 n62), (.int .i64 n63), (.int .i64 n64), (.int .i64 n65)])] w61 fun v66 w67 => (∃ (b68 : Bool), v66 = (.bool b68) ∧ bcase b68 (∃ (A69 : Option Addr) (n70 : Nat) (c71 : Nat), w67.cell? (((⟨g21, 0, none⟩ : Addr).add 0).add 0) = some (.slice A69 n70 c71) ∧ ∃ (n72 : Int), w67.cell? ((⟨g34, 0, none⟩ : Addr).add 0) = some (.int .i64 n72) ∧ ∃ (A73 : Option Addr) (n74 : Nat) (c75 : Nat), w67.cell? ((⟨g34, 0, none⟩ : Addr).add 1) = some (.slice A73 n74 c75) ∧ ∃ (A76 : Option Addr) (n77 : Nat) (c78 : Nat), w67.cell? ((⟨g34, 0, none⟩ : Addr).add 2) = some (.slice A76 n77 c78) ∧ Cll Try.prog 106 #[(.slice A69 n70 c71), (.agg #[(.int .i64 n72), (.slice A73 n74 c75), (.slice A76 n77 c78)])] w67 fun v79 w80 => (∃ (b81 : Bool), v79 = (.bool b81) ∧ K (.bool b81) w80)) (∃ (n82 : Int), w67.cell? (((⟨g59, 0, none⟩ : Addr).add 0).add 0) = some (.int .i64 n82) ∧ bcase (n82 != 16) (K (.bool true) w67) (∃ (A83 : Option Addr) (n84 : Nat) (c85 : Nat), w67.cell? (((⟨g34, 0, none⟩ : Addr).add 1).add 0) = some (.slice A83 n84 c85) ∧ K (.bool (((n84 : Nat) : Int) == 1)) w67))))))))

def spec_l30Can.ann : Ann := (.seq .l (.seq .l (.seq (.seq .l (.two (.seq .l .l) .l)) (.seq .l (.seq (.seq .l (.two (.seq .l .l) .l)) (.seq .l .l))))))

theorem spec_l30Can.vc_eq (A0_0 : Option Addr) (n0_0 : Nat) (c0_0 : Nat) (A0_1 : Option Addr) (n0_1 : Nat) (c0_1 : Nat) (A0_2 : Option Addr) (n0_2 : Nat) (c0_2 : Nat) (x0_3 : Int) (x0_4 : Int) (x1 : Int) (w : World) (K : Value → World → Prop) : vcF Try.prog Try.f49 spec_l30Can.ann [(.agg #[(.slice A0_0 n0_0 c0_0), (.slice A0_1 n0_1 c0_1), (.slice A0_2 n0_2 c0_2), (.int .i64 x0_3), (.int .i64 x0_4)]), (.int .i64 x1)] K w = spec_l30Can.vc A0_0 n0_0 c0_0 A0_1 n0_1 c0_1 A0_2 n0_2 c0_2 x0_3 x0_4 x1 w K := by kernel_rfl

theorem spec_l30Can.start {A0_0 : Option Addr} {n0_0 : Nat} {c0_0 : Nat} {A0_1 : Option Addr} {n0_1 : Nat} {c0_1 : Nat} {A0_2 : Option Addr} {n0_2 : Nat} {c0_2 : Nat} {x0_3 : Int} {x0_4 : Int} {x1 : Int} {w : World} {K : Value → World → Prop} (h : spec_l30Can.vc A0_0 n0_0 c0_0 A0_1 n0_1 c0_1 A0_2 n0_2 c0_2 x0_3 x0_4 x1 w K) : Cll Try.prog 49 #[(.agg #[(.slice A0_0 n0_0 c0_0), (.slice A0_1 n0_1 c0_1), (.slice A0_2 n0_2 c0_2), (.int .i64 x0_3), (.int .i64 x0_4)]), (.int .i64 x1)] w K :=
  vcF_sound mixed (fn := Try.f49) (by kernel_rfl) (by kernel_rfl) (an := spec_l30Can.ann) (args := [(.agg #[(.slice A0_0 n0_0 c0_0), (.slice A0_1 n0_1 c0_1), (.slice A0_2 n0_2 c0_2), (.int .i64 x0_3), (.int .i64 x0_4)]), (.int .i64 x1)]) (by rw [spec_l30Can.vc_eq]; exact h)

theorem spec_l30Can.con {s0 : D.Block} {A0_0 : Option Addr} {c0_0 : Nat} {A0_1 : Option Addr} {c0_1 : Nat} {A0_2 : Option Addr} {c0_2 : Nat} {x1 : Int} {r : Bool} {w : World} (hp : M.spec_l30Can_pre s0 x1) (hr : r = M.spec_l30Can s0 x1) (R0_0 : Row el76 w A0_0 s0.Code) (hc0_0 : s0.Code.length ≤ c0_0) (R0_1 : RowW 102 el132 el3 w A0_1 s0.Warps) (hc0_1 : s0.Warps.length ≤ c0_1) (R0_2 : Row el3 w A0_2 s0.Memory) (hc0_2 : s0.Memory.length ≤ c0_2) :
    Cll Try.prog 49 #[(.agg #[(.slice A0_0 s0.Code.length c0_0), (.slice A0_1 s0.Warps.length c0_1), (.slice A0_2 s0.Memory.length c0_2), (.int .i64 s0.Waiting), (.int .i64 s0.Phase)]), (.int .i64 x1)] w (fun v_ w_ => v_ = (.bool r) ∧ Ext w w_) := by
  have H := wp.spec_l30Can.math s0 x1 hp
  have hB := Ext.refl w
  refine spec_l30Can.start ?_
  unfold spec_l30Can.vc
  unfold wp.spec_l30Can at H
  refine newBlk (fun g4_ w21 L4 P4 e22 => ?_)
  have O4 := P4
  have L4 := Nat.le_trans hB.size L4
  have hB := ethen hB e22
  refine ⟨_, _, _, (O4.at 1 rfl rfl), ?_⟩
  obtain ⟨⟨h0_26, h1_27⟩, H⟩ := H
  obtain ⟨a24, ha25, A31, c32, A33, c34, f28, f29, f30, R35, hle37, R36, hle38⟩ := RowW.at R0_1 h0_26 h1_27
  refine ⟨h0_26, h1_27, a24, ha25, ?_⟩
  refine ⟨_, (Ext.cell hB f28), ?_⟩
  refine ⟨_, _, _, (Ext.cell hB f29), ?_⟩
  refine ⟨_, _, _, (Ext.cell hB f30), ?_⟩
  refine newBlk (fun g7_ w39 L7 P7 e40 => ?_)
  have N4_7 := O4.ne L7
  have O4 := O4.ext e40
  have O7 := P7
  have L7 := Nat.le_trans hB.size L7
  have hB := ethen hB e40
  refine stBlk O7 (o := 0) (cs' := #[(.int .i64 ((rd s0.Warps x1).Number)), (.slice A31 ((rd s0.Warps x1).Frames.length) c32), (.slice A33 ((rd s0.Warps x1).Regs.length) c34)]) rfl rfl (Nat.le_of_ble_eq_true rfl) rfl (fun w41 P7 e42 => ?_)
  have O4_ := O4.chg e42 N4_7
  have O4 := O4_
  have hB := echg hB e42 L7
  have O7 := P7
  refine ⟨_, _, _, (O7.at 1 rfl rfl), ?_⟩
  refine bcase_mk (fun hc66 => ?_) (fun hc66 => ?_)
  · have H := (bcase_iff.1 H).1 hc66
    obtain rfl := hr.trans H.symm
    exact ⟨rfl, hB⟩
  · have H := (bcase_iff.1 H).2 hc66
    refine ⟨_, (O4.at 3 rfl rfl), ?_⟩
    obtain ⟨hc43, H⟩ := H
    refine ⟨hc43, ?_⟩
    refine bcase_mk (fun hc65 => ?_) (fun hc65 => ?_)
    · have H := (bcase_iff.1 H).1 hc65
      obtain rfl := hr.trans H.symm
      exact ⟨rfl, hB⟩
    · have H := (bcase_iff.1 H).2 hc65
      refine ⟨_, _, _, (O4.at 0 rfl rfl), ?_⟩
      refine ⟨_, _, _, (O4.at 1 rfl rfl), ?_⟩
      refine ⟨_, _, _, (O4.at 2 rfl rfl), ?_⟩
      refine ⟨_, (O4.at 3 rfl rfl), ?_⟩
      refine ⟨_, (O4.at 4 rfl rfl), ?_⟩
      obtain ⟨hp46, H⟩ := H
      obtain ⟨r44, hr45⟩ : ∃ r_, r_ = M.spec_l30Next s0 x1 := ⟨_, rfl⟩
      have H := H r44 hr45
      refine (spec_l30Next.con hp46 hr45 (R0_0.ext hB) hc0_0 (R0_1.ext hB) hc0_1 (R0_2.ext hB) hc0_2).mono ?_
      rintro _ w47 ⟨rfl, e48⟩
      have O4 := O4.ext e48
      have O7 := O7.ext e48
      have hB := ethen hB e48
      refine ⟨r44.Op, trivial, ?_⟩
      refine ⟨r44.A, trivial, ?_⟩
      refine ⟨r44.B, trivial, ?_⟩
      refine ⟨r44.C, trivial, ?_⟩
      refine ⟨rfl, ?_⟩
      refine newBlk (fun g8_ w49 L8 P8 e50 => ?_)
      have N4_8 := O4.ne L8
      have N7_8 := O7.ne L8
      have O4 := O4.ext e50
      have O7 := O7.ext e50
      have O8 := P8
      have L8 := Nat.le_trans hB.size L8
      have hB := ethen hB e50
      refine stBlk O8 (o := 0) (cs' := #[(.int .i64 r44.Op), (.int .i64 r44.A), (.int .i64 r44.B), (.int .i64 r44.C)]) rfl rfl (Nat.le_of_ble_eq_true rfl) rfl (fun w51 P8 e52 => ?_)
      have O4_ := O4.chg e52 N4_8
      have O7_ := O7.chg e52 N7_8
      have O4 := O4_
      have O7 := O7_
      have hB := echg hB e52 L8
      have O8 := P8
      refine ⟨_, (O8.at 0 rfl rfl), ?_⟩
      refine ⟨_, (O8.at 1 rfl rfl), ?_⟩
      refine ⟨_, (O8.at 2 rfl rfl), ?_⟩
      refine ⟨_, (O8.at 3 rfl rfl), ?_⟩
      obtain ⟨r53, hr54⟩ : ∃ r_, r_ = M.spec_IsLocal r44 := ⟨_, rfl⟩
      have H := H r53 hr54
      refine (spec_IsLocal.con hr54 ).mono ?_
      rintro _ w56 ⟨rfl, e57⟩
      have O4 := O4.ext e57
      have O7 := O7.ext e57
      have O8 := O8.ext e57
      have hB := ethen hB e57
      refine ⟨r53, rfl, ?_⟩
      refine bcase_mk (fun hc64 => ?_) (fun hc64 => ?_)
      · have H := (bcase_iff.1 H).1 hc64
        refine ⟨_, _, _, (O4.at 0 rfl rfl), ?_⟩
        refine ⟨_, (O7.at 0 rfl rfl), ?_⟩
        refine ⟨_, _, _, (O7.at 1 rfl rfl), ?_⟩
        refine ⟨_, _, _, (O7.at 2 rfl rfl), ?_⟩
        obtain ⟨hp60, H⟩ := H
        obtain ⟨r58, hr59⟩ : ∃ r_, r_ = M.spec_l13Local s0.Code (rd s0.Warps x1) := ⟨_, rfl⟩
        have H := H r58 hr59
        refine (cllArgs (by first | (simp only [List.length_set]; done) | (simp; done)) (spec_l13Local.con hp60 hr59 (R0_0.ext hB) hc0_0 (R35.ext hB) hle37 (R36.ext hB) hle38)).mono ?_
        rintro _ w61 ⟨rfl, e62⟩
        have O4 := O4.ext e62
        have O7 := O7.ext e62
        have O8 := O8.ext e62
        have hB := ethen hB e62
        refine ⟨r58, rfl, ?_⟩
        obtain rfl := hr.trans H.symm
        exact ⟨rfl, hB⟩
      · have H := (bcase_iff.1 H).2 hc64
        refine ⟨_, (O8.at 0 rfl rfl), ?_⟩
        refine bcase_mk (fun hc63 => ?_) (fun hc63 => ?_)
        · have H := (bcase_iff.1 H).1 hc63
          obtain rfl := hr.trans H.symm
          exact ⟨rfl, hB⟩
        · have H := (bcase_iff.1 H).2 hc63
          refine ⟨_, _, _, (O7.at 1 rfl rfl), ?_⟩
          obtain rfl := hr.trans H.symm
          exact ⟨rfl, hB⟩

def spec_CanStep.vc (A0_0 : Option Addr) (n0_0 : Nat) (c0_0 : Nat) (A0_1 : Option Addr) (n0_1 : Nat) (c0_1 : Nat) (A0_2 : Option Addr) (n0_2 : Nat) (c0_2 : Nat) (x0_3 : Int) (x0_4 : Int) (x1 : Int) (w : World) (K : Value → World → Prop) : Prop :=
  newK w (.cells #[(.slice A0_0 n0_0 c0_0), (.slice A0_1 n0_1 c0_1), (.slice A0_2 n0_2 c0_2), (.int .i64 x0_3), (.int .i64 x0_4)] 32) fun g21 w22 => ∃ (A23 : Option Addr) (n24 : Nat) (c25 : Nat), w22.cell? ((⟨g21, 0, none⟩ : Addr).add 0) = some (.slice A23 n24 c25) ∧ ∃ (A26 : Option Addr) (n27 : Nat) (c28 : Nat), w22.cell? ((⟨g21, 0, none⟩ : Addr).add 1) = some (.slice A26 n27 c28) ∧ ∃ (A29 : Option Addr) (n30 : Nat) (c31 : Nat), w22.cell? ((⟨g21, 0, none⟩ : Addr).add 2) = some (.slice A29 n30 c31) ∧ ∃ (n32 : Int), w22.cell? ((⟨g21, 0, none⟩ : Addr).add 3) = some (.int .i64 n32) ∧ ∃ (n33 : Int), w22.cell? ((⟨g21, 0, none⟩ : Addr).add 4) = some (.int .i64 n33) ∧ Cll Try.prog 48 #[(.agg #[(.slice A23 n24 c25), (.slice A26 n27 c28), (.slice A29 n30 c31), (.int .i64 n32), (.int .i64 n33)]), (.int .i64 x1)] w22 fun v34 w35 => (∃ (b36 : Bool), v34 = (.bool b36) ∧ bcase b36 (∃ (A37 : Option Addr) (n38 : Nat) (c39 : Nat), w35.cell? ((⟨g21, 0, none⟩ : Addr).add 0) = some (.slice A37 n38 c39) ∧ ∃ (A40 : Option Addr) (n41 : Nat) (c42 : Nat), w35.cell? ((⟨g21, 0, none⟩ : Addr).add 1) = some (.slice A40 n41 c42) ∧ ∃ (A43 : Option Addr) (n44 : Nat) (c45 : Nat), w35.cell? ((⟨g21, 0, none⟩ : Addr).add 2) = some (.slice A43 n44 c45) ∧ ∃ (n46 : Int), w35.cell? ((⟨g21, 0, none⟩ : Addr).add 3) = some (.int .i64 n46) ∧ ∃ (n47 : Int), w35.cell? ((⟨g21, 0, none⟩ : Addr).add 4) = some (.int .i64 n47) ∧ Cll Try.prog 49 #[(.agg #[(.slice A37 n38 c39), (.slice A40 n41 c42), (.slice A43 n44 c45), (.int .i64 n46), (.int .i64 n47)]), (.int .i64 x1)] w35 fun v48 w49 => (∃ (b50 : Bool), v48 = (.bool b50) ∧ K (.bool b50) w49)) (K (.bool false) w35))

def spec_CanStep.ann : Ann := (.seq .l (.seq .l .l))

theorem spec_CanStep.vc_eq (A0_0 : Option Addr) (n0_0 : Nat) (c0_0 : Nat) (A0_1 : Option Addr) (n0_1 : Nat) (c0_1 : Nat) (A0_2 : Option Addr) (n0_2 : Nat) (c0_2 : Nat) (x0_3 : Int) (x0_4 : Int) (x1 : Int) (w : World) (K : Value → World → Prop) : vcF Try.prog Try.f12 spec_CanStep.ann [(.agg #[(.slice A0_0 n0_0 c0_0), (.slice A0_1 n0_1 c0_1), (.slice A0_2 n0_2 c0_2), (.int .i64 x0_3), (.int .i64 x0_4)]), (.int .i64 x1)] K w = spec_CanStep.vc A0_0 n0_0 c0_0 A0_1 n0_1 c0_1 A0_2 n0_2 c0_2 x0_3 x0_4 x1 w K := by kernel_rfl

theorem spec_CanStep.start {A0_0 : Option Addr} {n0_0 : Nat} {c0_0 : Nat} {A0_1 : Option Addr} {n0_1 : Nat} {c0_1 : Nat} {A0_2 : Option Addr} {n0_2 : Nat} {c0_2 : Nat} {x0_3 : Int} {x0_4 : Int} {x1 : Int} {w : World} {K : Value → World → Prop} (h : spec_CanStep.vc A0_0 n0_0 c0_0 A0_1 n0_1 c0_1 A0_2 n0_2 c0_2 x0_3 x0_4 x1 w K) : Cll Try.prog 12 #[(.agg #[(.slice A0_0 n0_0 c0_0), (.slice A0_1 n0_1 c0_1), (.slice A0_2 n0_2 c0_2), (.int .i64 x0_3), (.int .i64 x0_4)]), (.int .i64 x1)] w K :=
  vcF_sound mixed (fn := Try.f12) (by kernel_rfl) (by kernel_rfl) (an := spec_CanStep.ann) (args := [(.agg #[(.slice A0_0 n0_0 c0_0), (.slice A0_1 n0_1 c0_1), (.slice A0_2 n0_2 c0_2), (.int .i64 x0_3), (.int .i64 x0_4)]), (.int .i64 x1)]) (by rw [spec_CanStep.vc_eq]; exact h)

theorem spec_CanStep.con {s0 : D.Block} {A0_0 : Option Addr} {c0_0 : Nat} {A0_1 : Option Addr} {c0_1 : Nat} {A0_2 : Option Addr} {c0_2 : Nat} {x1 : Int} {r : Bool} {w : World} (hp : M.spec_CanStep_pre s0 x1) (hr : r = M.spec_CanStep s0 x1) (R0_0 : Row el76 w A0_0 s0.Code) (hc0_0 : s0.Code.length ≤ c0_0) (R0_1 : RowW 102 el132 el3 w A0_1 s0.Warps) (hc0_1 : s0.Warps.length ≤ c0_1) (R0_2 : Row el3 w A0_2 s0.Memory) (hc0_2 : s0.Memory.length ≤ c0_2) :
    Cll Try.prog 12 #[(.agg #[(.slice A0_0 s0.Code.length c0_0), (.slice A0_1 s0.Warps.length c0_1), (.slice A0_2 s0.Memory.length c0_2), (.int .i64 s0.Waiting), (.int .i64 s0.Phase)]), (.int .i64 x1)] w (fun v_ w_ => v_ = (.bool r) ∧ Ext w w_) := by
  have H := wp.spec_CanStep.math s0 x1 hp
  have hB := Ext.refl w
  refine spec_CanStep.start ?_
  unfold spec_CanStep.vc
  unfold wp.spec_CanStep at H
  refine newBlk (fun g4_ w21 L4 P4 e22 => ?_)
  have O4 := P4
  have L4 := Nat.le_trans hB.size L4
  have hB := ethen hB e22
  refine ⟨_, _, _, (O4.at 0 rfl rfl), ?_⟩
  refine ⟨_, _, _, (O4.at 1 rfl rfl), ?_⟩
  refine ⟨_, _, _, (O4.at 2 rfl rfl), ?_⟩
  refine ⟨_, (O4.at 3 rfl rfl), ?_⟩
  refine ⟨_, (O4.at 4 rfl rfl), ?_⟩
  obtain ⟨hp25, H⟩ := H
  obtain ⟨r23, hr24⟩ : ∃ r_, r_ = M.spec_l30Ok s0 x1 := ⟨_, rfl⟩
  have H := H r23 hr24
  refine (spec_l30Ok.con hp25 hr24 (R0_0.ext hB) hc0_0 (R0_1.ext hB) hc0_1 (R0_2.ext hB) hc0_2).mono ?_
  rintro _ w26 ⟨rfl, e27⟩
  have O4 := O4.ext e27
  have hB := ethen hB e27
  refine ⟨r23, rfl, ?_⟩
  refine bcase_mk (fun hc33 => ?_) (fun hc33 => ?_)
  · have H := (bcase_iff.1 H).1 hc33
    refine ⟨_, _, _, (O4.at 0 rfl rfl), ?_⟩
    refine ⟨_, _, _, (O4.at 1 rfl rfl), ?_⟩
    refine ⟨_, _, _, (O4.at 2 rfl rfl), ?_⟩
    refine ⟨_, (O4.at 3 rfl rfl), ?_⟩
    refine ⟨_, (O4.at 4 rfl rfl), ?_⟩
    obtain ⟨hp30, H⟩ := H
    obtain ⟨r28, hr29⟩ : ∃ r_, r_ = M.spec_l30Can s0 x1 := ⟨_, rfl⟩
    have H := H r28 hr29
    refine (spec_l30Can.con hp30 hr29 (R0_0.ext hB) hc0_0 (R0_1.ext hB) hc0_1 (R0_2.ext hB) hc0_2).mono ?_
    rintro _ w31 ⟨rfl, e32⟩
    have O4 := O4.ext e32
    have hB := ethen hB e32
    refine ⟨r28, rfl, ?_⟩
    obtain rfl := hr.trans H.symm
    exact ⟨rfl, hB⟩
  · have H := (bcase_iff.1 H).2 hc33
    obtain rfl := hr.trans H.symm
    exact ⟨rfl, hB⟩

def impl_ActiveMask.vc (x0_0 : Int) (A0_1 : Option Addr) (n0_1 : Nat) (c0_1 : Nat) (A0_2 : Option Addr) (n0_2 : Nat) (c0_2 : Nat) (w : World) (K : Value → World → Prop) : Prop :=
  newK w (.cells #[(.int .i64 x0_0), (.slice A0_1 n0_1 c0_1), (.slice A0_2 n0_2 c0_2)] 102) fun g21 w22 => ∃ (A23 : Option Addr) (n24 : Nat) (c25 : Nat), w22.cell? (((⟨g21, 0, none⟩ : Addr).add 1).add 0) = some (.slice A23 n24 c25) ∧ bcase (((n24 : Nat) : Int) == 0) (K (.int .i64 0) w22) (∃ (A26 : Option Addr) (n27 : Nat) (c28 : Nat), w22.cell? (((⟨g21, 0, none⟩ : Addr).add 1).add 0) = some (.slice A26 n27 c28) ∧ ∃ (A29 : Option Addr) (n30 : Nat) (c31 : Nat), w22.cell? (((⟨g21, 0, none⟩ : Addr).add 1).add 0) = some (.slice A29 n30 c31) ∧ ((0 : Int) ≤ (IntKind.wrap .i64 (((n30 : Nat) : Int) - 1)) ∧ (IntKind.wrap .i64 (((n30 : Nat) : Int) - 1)) < ((n27 : Nat) : Int) ∧ ∃ a32 : Addr, A26 = some a32 ∧ ∃ (n33 : Int), w22.cell? (((a32.add (((IntKind.wrap .i64 (((n30 : Nat) : Int) - 1)).toNat) * 3)).add 2).add 0) = some (.int .i64 n33) ∧ K (.int .i64 n33) w22))

def impl_ActiveMask.ann : Ann := (.seq .l (.seq (.seq .l (.two (.seq .l .l) .l)) (.seq .l .l)))

theorem impl_ActiveMask.vc_eq (x0_0 : Int) (A0_1 : Option Addr) (n0_1 : Nat) (c0_1 : Nat) (A0_2 : Option Addr) (n0_2 : Nat) (c0_2 : Nat) (w : World) (K : Value → World → Prop) : vcF Try.prog Try.f154 impl_ActiveMask.ann [(.agg #[(.int .i64 x0_0), (.slice A0_1 n0_1 c0_1), (.slice A0_2 n0_2 c0_2)])] K w = impl_ActiveMask.vc x0_0 A0_1 n0_1 c0_1 A0_2 n0_2 c0_2 w K := by kernel_rfl

theorem impl_ActiveMask.start {x0_0 : Int} {A0_1 : Option Addr} {n0_1 : Nat} {c0_1 : Nat} {A0_2 : Option Addr} {n0_2 : Nat} {c0_2 : Nat} {w : World} {K : Value → World → Prop} (h : impl_ActiveMask.vc x0_0 A0_1 n0_1 c0_1 A0_2 n0_2 c0_2 w K) : Cll Try.prog 154 #[(.agg #[(.int .i64 x0_0), (.slice A0_1 n0_1 c0_1), (.slice A0_2 n0_2 c0_2)])] w K :=
  vcF_sound mixed (fn := Try.f154) (by kernel_rfl) (by kernel_rfl) (an := impl_ActiveMask.ann) (args := [(.agg #[(.int .i64 x0_0), (.slice A0_1 n0_1 c0_1), (.slice A0_2 n0_2 c0_2)])]) (by rw [impl_ActiveMask.vc_eq]; exact h)

theorem impl_ActiveMask.con {s0 : D.Warp} {A0_1 : Option Addr} {c0_1 : Nat} {A0_2 : Option Addr} {c0_2 : Nat} {r : Int} {w : World} (hp : M.impl_ActiveMask_pre s0) (hr : r = M.impl_ActiveMask s0) (R0_1 : Row el132 w A0_1 s0.Frames) (hc0_1 : s0.Frames.length ≤ c0_1) (R0_2 : Row el3 w A0_2 s0.Regs) (hc0_2 : s0.Regs.length ≤ c0_2) :
    Cll Try.prog 154 #[(.agg #[(.int .i64 s0.Number), (.slice A0_1 s0.Frames.length c0_1), (.slice A0_2 s0.Regs.length c0_2)])] w (fun v_ w_ => v_ = (.int .i64 r) ∧ Ext w w_) := by
  have H := wp.impl_ActiveMask.math s0 hp
  have hB := Ext.refl w
  refine impl_ActiveMask.start ?_
  unfold impl_ActiveMask.vc
  unfold wp.impl_ActiveMask at H
  refine newBlk (fun g3_ w21 L3 P3 e22 => ?_)
  have O3 := P3
  have L3 := Nat.le_trans hB.size L3
  have hB := ethen hB e22
  refine ⟨_, _, _, (O3.at 1 rfl rfl), ?_⟩
  refine bcase_mk (fun hc28 => ?_) (fun hc28 => ?_)
  · have H := (bcase_iff.1 H).1 hc28
    obtain rfl := hr.trans H.symm
    exact ⟨rfl, hB⟩
  · have H := (bcase_iff.1 H).2 hc28
    refine ⟨_, _, _, (O3.at 1 rfl rfl), ?_⟩
    refine ⟨_, _, _, (O3.at 1 rfl rfl), ?_⟩
    obtain ⟨⟨h0_26, h1_27⟩, H⟩ := H
    obtain ⟨a24, ha25, hat23⟩ := Row.at (R0_1.ext hB) h0_26 h1_27
    refine ⟨h0_26, h1_27, a24, ha25, ?_⟩
    refine ⟨_, (hat23 2 _ rfl), ?_⟩
    obtain rfl := hr.trans H.symm
    exact ⟨rfl, hB⟩

def impl_Warp_zeroMask.vc (x0_0 : Int) (A0_1 : Option Addr) (n0_1 : Nat) (c0_1 : Nat) (A0_2 : Option Addr) (n0_2 : Nat) (c0_2 : Nat) (x1 : Int) (w : World) (K : Value → World → Prop) : Prop :=
  newK w (.cells #[(.int .i64 x0_0), (.slice A0_1 n0_1 c0_1), (.slice A0_2 n0_2 c0_2)] 102) fun g21 w22 => ∃ (n23 : Int), w22.cell? ((⟨g21, 0, none⟩ : Addr).add 0) = some (.int .i64 n23) ∧ ∃ (A24 : Option Addr) (n25 : Nat) (c26 : Nat), w22.cell? ((⟨g21, 0, none⟩ : Addr).add 1) = some (.slice A24 n25 c26) ∧ ∃ (A27 : Option Addr) (n28 : Nat) (c29 : Nat), w22.cell? ((⟨g21, 0, none⟩ : Addr).add 2) = some (.slice A27 n28 c29) ∧ Cll Try.prog 154 #[(.agg #[(.int .i64 n23), (.slice A24 n25 c26), (.slice A27 n28 c29)])] w22 fun v30 w31 => (∃ (n32 : Int), v30 = (.int .i64 n32) ∧ Cll Try.prog 183 #[(.int .i64 n32)] w31 fun v33 w34 => (∃ (A35 : Option Addr) (n36 : Nat) (c37 : Nat), v33 = (.slice A35 n36 c37) ∧ LoopT (σ := Int × Int × Unit) (fun z38 w39 next40 => bcase (decide (z38.2.1 < ((n36 : Nat) : Int))) (((0 : Int) ≤ z38.2.1 ∧ z38.2.1 < ((n36 : Nat) : Int) ∧ ∃ a41 : Addr, A35 = some a41 ∧ ∃ (n42 : Int), w39.cell? ((a41.add ((z38.2.1.toNat) * 1)).add 0) = some (.int .i64 n42) ∧ ∃ (n43 : Int), w39.cell? ((⟨g21, 0, none⟩ : Addr).add 0) = some (.int .i64 n43) ∧ ∃ (A44 : Option Addr) (n45 : Nat) (c46 : Nat), w39.cell? ((⟨g21, 0, none⟩ : Addr).add 1) = some (.slice A44 n45 c46) ∧ ∃ (A47 : Option Addr) (n48 : Nat) (c49 : Nat), w39.cell? ((⟨g21, 0, none⟩ : Addr).add 2) = some (.slice A47 n48 c49) ∧ Cll Try.prog 184 #[(.agg #[(.int .i64 n43), (.slice A44 n45 c46), (.slice A47 n48 c49)]), (.int .i64 n42)] w39 fun v50 w51 => (∃ (A52 : Option Addr) (n53 : Nat) (c54 : Nat), v50 = (.slice A52 n53 c54) ∧ ((0 : Int) ≤ x1 ∧ x1 < ((n53 : Nat) : Int) ∧ ∃ a55 : Addr, A52 = some a55 ∧ ∃ (n56 : Int), w51.cell? ((a55.add ((x1.toNat) * 1)).add 0) = some (.int .i64 n56) ∧ bcase (n56 == 0) (((0 : Int) ≤ n42 ∧ next40 ((bitOr .i64 z38.1 (IntKind.wrap .i64 (1 * 2 ^ (min (n42.toNat) (IntKind.bits .i64))))), (IntKind.wrap .i64 (z38.2.1 + 1)), ()) w51)) (next40 (z38.1, (IntKind.wrap .i64 (z38.2.1 + 1)), ()) w51))))) (K (.int .i64 z38.1) w39)) (0, 0, ()) w34))

def impl_Warp_zeroMask.ann : Ann := (.seq .l (.seq .l (.seq (.seq .l (.one (.loop [(5, .int .i64), (12, .int .i64)] (.seq .l (.seq (.two .l .l) (.seq (.one (.seq .l (.seq .l (.two .l .l)))) .l)))))) (.seq .l .l))))

theorem impl_Warp_zeroMask.vc_eq (x0_0 : Int) (A0_1 : Option Addr) (n0_1 : Nat) (c0_1 : Nat) (A0_2 : Option Addr) (n0_2 : Nat) (c0_2 : Nat) (x1 : Int) (w : World) (K : Value → World → Prop) : vcF Try.prog Try.f153 impl_Warp_zeroMask.ann [(.agg #[(.int .i64 x0_0), (.slice A0_1 n0_1 c0_1), (.slice A0_2 n0_2 c0_2)]), (.int .i64 x1)] K w = impl_Warp_zeroMask.vc x0_0 A0_1 n0_1 c0_1 A0_2 n0_2 c0_2 x1 w K := by kernel_rfl

theorem impl_Warp_zeroMask.start {x0_0 : Int} {A0_1 : Option Addr} {n0_1 : Nat} {c0_1 : Nat} {A0_2 : Option Addr} {n0_2 : Nat} {c0_2 : Nat} {x1 : Int} {w : World} {K : Value → World → Prop} (h : impl_Warp_zeroMask.vc x0_0 A0_1 n0_1 c0_1 A0_2 n0_2 c0_2 x1 w K) : Cll Try.prog 153 #[(.agg #[(.int .i64 x0_0), (.slice A0_1 n0_1 c0_1), (.slice A0_2 n0_2 c0_2)]), (.int .i64 x1)] w K :=
  vcF_sound mixed (fn := Try.f153) (by kernel_rfl) (by kernel_rfl) (an := impl_Warp_zeroMask.ann) (args := [(.agg #[(.int .i64 x0_0), (.slice A0_1 n0_1 c0_1), (.slice A0_2 n0_2 c0_2)]), (.int .i64 x1)]) (by rw [impl_Warp_zeroMask.vc_eq]; exact h)

theorem impl_Warp_zeroMask.con {s0 : D.Warp} {A0_1 : Option Addr} {c0_1 : Nat} {A0_2 : Option Addr} {c0_2 : Nat} {x1 : Int} {r : Int} {w : World} (hp : M.impl_Warp_zeroMask_pre s0 x1) (hr : r = M.impl_Warp_zeroMask s0 x1) (R0_1 : Row el132 w A0_1 s0.Frames) (hc0_1 : s0.Frames.length ≤ c0_1) (R0_2 : Row el3 w A0_2 s0.Regs) (hc0_2 : s0.Regs.length ≤ c0_2) :
    Cll Try.prog 153 #[(.agg #[(.int .i64 s0.Number), (.slice A0_1 s0.Frames.length c0_1), (.slice A0_2 s0.Regs.length c0_2)]), (.int .i64 x1)] w (fun v_ w_ => v_ = (.int .i64 r) ∧ Ext w w_) := by
  have H := wp.impl_Warp_zeroMask.math s0 x1 hp
  have hB := Ext.refl w
  refine impl_Warp_zeroMask.start ?_
  unfold impl_Warp_zeroMask.vc
  unfold wp.impl_Warp_zeroMask at H
  refine newBlk (fun g3_ w21 L3 P3 e22 => ?_)
  have O3 := P3
  have L3 := Nat.le_trans hB.size L3
  have hB := ethen hB e22
  refine ⟨_, (O3.at 0 rfl rfl), ?_⟩
  refine ⟨_, _, _, (O3.at 1 rfl rfl), ?_⟩
  refine ⟨_, _, _, (O3.at 2 rfl rfl), ?_⟩
  obtain ⟨hp25, H⟩ := H
  obtain ⟨r23, hr24⟩ : ∃ r_, r_ = M.impl_ActiveMask s0 := ⟨_, rfl⟩
  have H := H r23 hr24
  refine (impl_ActiveMask.con hp25 hr24 (R0_1.ext hB) hc0_1 (R0_2.ext hB) hc0_2).mono ?_
  rintro _ w26 ⟨rfl, e27⟩
  have O3 := O3.ext e27
  have hB := ethen hB e27
  refine ⟨r23, rfl, ?_⟩
  obtain ⟨r28, hr29⟩ : ∃ r_, r_ = M.impl_LanesOf r23 := ⟨_, rfl⟩
  have H := H r28 hr29
  refine (impl_LanesOf.con hr29 ).mono ?_
  rintro _ w31 ⟨A33, c34, rfl, P4, e32⟩
  have N4_3 := P4.apart_old O3.lt
  have O3 := O3.ext e32
  have O4 := P4.mono hB.size
  have hB := ethen hB e32
  refine ⟨A33, r28.length, c34, rfl, ?_⟩
  obtain ⟨J38, ⟨m66, hJ65⟩, hS39⟩ := H
  refine ⟨fun m_ z_ w_ => ∃ (i35 : Int) (i36 : Int), z_ = (i35, i36, ()) ∧ J38 m_ (i35, i36, ()) ∧ Ext w w_ ∧ Blk w_ g3_ 102 #[(.int .i64 s0.Number), (.slice A0_1 s0.Frames.length c0_1), (.slice A0_2 s0.Regs.length c0_2)] ∧ Own el3 w_ w.heap.size A33 c34 r28, ⟨m66, 0, 0, rfl, hJ65, hB, O3, O4⟩, ?_⟩
  rintro m37 _ w41 ⟨i35, i36, rfl, hJ67, hB, O3, O4⟩
  have H := hS39 m37 _ hJ67
  clear hS39 hJ67
  dsimp only at H ⊢
  refine bcase_mk (fun hc63 => ?_) (fun hc63 => ?_)
  · have H := (bcase_iff.1 H).1 hc63
    obtain ⟨⟨h0_45, h1_46⟩, H⟩ := H
    obtain ⟨a43, ha44, hat42⟩ := Row.at O4.row h0_45 h1_46
    refine ⟨h0_45, h1_46, a43, ha44, ?_⟩
    refine ⟨_, (hat42 0 _ rfl), ?_⟩
    refine ⟨_, (O3.at 0 rfl rfl), ?_⟩
    refine ⟨_, _, _, (O3.at 1 rfl rfl), ?_⟩
    refine ⟨_, _, _, (O3.at 2 rfl rfl), ?_⟩
    obtain ⟨hp47, H⟩ := H
    refine (impl_Warp_lane.con hp47 (R0_1.ext hB) hc0_1 (R0_2.ext hB) hc0_2).mono ?_
    rintro _ w48 ⟨rfl, e49⟩
    have O3 := O3.ext e49
    have O4 := O4.ext e49
    have hB := ethen hB e49
    have R5_ := (R0_2.take ((IntKind.wrap .i64 ((IntKind.wrap .i64 ((rd r28 i36) + 1)) * 4)).toNat)).drop (l := ((IntKind.wrap .i64 ((rd r28 i36) * 4)).toNat)) (m := c0_2) (by have := hc0_2; simp; omega)
    have le5_ : (List.drop ((IntKind.wrap .i64 ((rd r28 i36) * 4)).toNat) (List.take ((IntKind.wrap .i64 ((IntKind.wrap .i64 ((rd r28 i36) + 1)) * 4)).toNat) s0.Regs)).length ≤ (c0_2 - ((IntKind.wrap .i64 ((rd r28 i36) * 4)).toNat)) := by have := hc0_2; simp; omega
    refine ⟨(cutA c0_2 ((IntKind.wrap .i64 ((rd r28 i36) * 4)).toNat) A0_2 1), (List.drop ((IntKind.wrap .i64 ((rd r28 i36) * 4)).toNat) (List.take ((IntKind.wrap .i64 ((IntKind.wrap .i64 ((rd r28 i36) + 1)) * 4)).toNat) s0.Regs)).length, (c0_2 - ((IntKind.wrap .i64 ((rd r28 i36) * 4)).toNat)), rfl, ?_⟩
    obtain ⟨⟨h0_53, h1_54⟩, H⟩ := H
    obtain ⟨a51, ha52, hat50⟩ := Row.at (R5_.ext hB) h0_53 h1_54
    refine ⟨h0_53, h1_54, a51, ha52, ?_⟩
    refine ⟨_, (hat50 0 _ rfl), ?_⟩
    refine bcase_mk (fun hc62 => ?_) (fun hc62 => ?_)
    · have H := (bcase_iff.1 H).1 hc62
      obtain ⟨hc55, H⟩ := H
      refine ⟨hc55, ?_⟩
      obtain ⟨m56, hm57, hJ58⟩ := H
      exact ⟨m56, hm57, (bitOr .i64 i35 (IntKind.wrap .i64 (1 * 2 ^ (min ((rd r28 i36).toNat) (IntKind.bits .i64))))), (IntKind.wrap .i64 (i36 + 1)), rfl, hJ58, hB, O3, O4⟩
    · have H := (bcase_iff.1 H).2 hc62
      obtain ⟨m59, hm60, hJ61⟩ := H
      exact ⟨m59, hm60, i35, (IntKind.wrap .i64 (i36 + 1)), rfl, hJ61, hB, O3, O4⟩
  · have H := (bcase_iff.1 H).2 hc63
    obtain rfl := hr.trans H.symm
    exact ⟨rfl, hB⟩

def impl_Warp_splits.vc (x0_0 : Int) (A0_1 : Option Addr) (n0_1 : Nat) (c0_1 : Nat) (A0_2 : Option Addr) (n0_2 : Nat) (c0_2 : Nat) (A1 : Option Addr) (n1 : Nat) (c1 : Nat) (w : World) (K : Value → World → Prop) : Prop :=
  newK w (.cells #[(.int .i64 x0_0), (.slice A0_1 n0_1 c0_1), (.slice A0_2 n0_2 c0_2)] 102) fun g21 w22 => ∃ (A23 : Option Addr) (n24 : Nat) (c25 : Nat), w22.cell? (((⟨g21, 0, none⟩ : Addr).add 1).add 0) = some (.slice A23 n24 c25) ∧ ∃ (A26 : Option Addr) (n27 : Nat) (c28 : Nat), w22.cell? (((⟨g21, 0, none⟩ : Addr).add 1).add 0) = some (.slice A26 n27 c28) ∧ ((0 : Int) ≤ (IntKind.wrap .i64 (((n27 : Nat) : Int) - 1)) ∧ (IntKind.wrap .i64 (((n27 : Nat) : Int) - 1)) < ((n24 : Nat) : Int) ∧ ∃ a29 : Addr, A23 = some a29 ∧ ∃ (n30 : Int), w22.cell? (((a29.add (((IntKind.wrap .i64 (((n27 : Nat) : Int) - 1)).toNat) * 3)).add 0).add 0) = some (.int .i64 n30) ∧ ((0 : Int) ≤ n30 ∧ n30 < ((n1 : Nat) : Int) ∧ ∃ a32 : Addr, A1 = some a32 ∧ ∃ (n33 : Int), w22.cell? (((a32.add ((n30.toNat) * 4)).add 0).add 0) = some (.int .i64 n33) ∧ bcase (n33 != 10) (K (.bool false) w22) (((0 : Int) ≤ n30 ∧ n30 < ((n1 : Nat) : Int) ∧ ∃ a34 : Addr, A1 = some a34 ∧ ∃ (n35 : Int), w22.cell? (((a34.add ((n30.toNat) * 4)).add 2).add 0) = some (.int .i64 n35) ∧ bcase (n35 == (IntKind.wrap .i64 (n30 + 1))) (K (.bool false) w22) ((∃ M36 : Nat → Prop, ∃ (n37 : Int), (¬ M36 ((⟨g21, 0, none⟩ : Addr)).block ∧ w22.cell? ((⟨g21, 0, none⟩ : Addr).add 0) = some (.int .i64 n37)) ∧ ∃ (A38 : Option Addr) (n39 : Nat) (c40 : Nat), (¬ M36 ((⟨g21, 0, none⟩ : Addr)).block ∧ w22.cell? ((⟨g21, 0, none⟩ : Addr).add 1) = some (.slice A38 n39 c40)) ∧ ∃ (A41 : Option Addr) (n42 : Nat) (c43 : Nat), (¬ M36 ((⟨g21, 0, none⟩ : Addr)).block ∧ w22.cell? ((⟨g21, 0, none⟩ : Addr).add 2) = some (.slice A41 n42 c43)) ∧ ((0 : Int) ≤ n30 ∧ n30 < ((n1 : Nat) : Int) ∧ ∃ a44 : Addr, A1 = some a44 ∧ ∃ (n45 : Int), (¬ M36 (((a44.add ((n30.toNat) * 4)).add 1)).block ∧ w22.cell? (((a44.add ((n30.toNat) * 4)).add 1).add 0) = some (.int .i64 n45)) ∧ Cll Try.prog 153 #[(.agg #[(.int .i64 n37), (.slice A38 n39 c40), (.slice A41 n42 c43)]), (.int .i64 n45)] w22.drew fun v46 w47 => (∃ (n48 : Int), v46 = (.int .i64 n48) ∧ SameBut M36 w22 w47 ∧ bcase (n48 != 0) (∃ (n49 : Int), w47.cell? ((⟨g21, 0, none⟩ : Addr).add 0) = some (.int .i64 n49) ∧ ∃ (A50 : Option Addr) (n51 : Nat) (c52 : Nat), w47.cell? ((⟨g21, 0, none⟩ : Addr).add 1) = some (.slice A50 n51 c52) ∧ ∃ (A53 : Option Addr) (n54 : Nat) (c55 : Nat), w47.cell? ((⟨g21, 0, none⟩ : Addr).add 2) = some (.slice A53 n54 c55) ∧ Cll Try.prog 154 #[(.agg #[(.int .i64 n49), (.slice A50 n51 c52), (.slice A53 n54 c55)])] w47 fun v56 w57 => (∃ (n58 : Int), v56 = (.int .i64 n58) ∧ K (.bool (n48 != n58)) w57)) (K (.bool false) w47)))))))))

def impl_Warp_splits.ann : Ann := (.seq .l (.seq .l (.seq (.seq .l (.two (.seq .l .l) .l)) (.seq .l (.seq .l .l)))))

theorem impl_Warp_splits.vc_eq (x0_0 : Int) (A0_1 : Option Addr) (n0_1 : Nat) (c0_1 : Nat) (A0_2 : Option Addr) (n0_2 : Nat) (c0_2 : Nat) (A1 : Option Addr) (n1 : Nat) (c1 : Nat) (w : World) (K : Value → World → Prop) : vcF Try.prog Try.f110 impl_Warp_splits.ann [(.agg #[(.int .i64 x0_0), (.slice A0_1 n0_1 c0_1), (.slice A0_2 n0_2 c0_2)]), (.slice A1 n1 c1)] K w = impl_Warp_splits.vc x0_0 A0_1 n0_1 c0_1 A0_2 n0_2 c0_2 A1 n1 c1 w K := by kernel_rfl

theorem impl_Warp_splits.start {x0_0 : Int} {A0_1 : Option Addr} {n0_1 : Nat} {c0_1 : Nat} {A0_2 : Option Addr} {n0_2 : Nat} {c0_2 : Nat} {A1 : Option Addr} {n1 : Nat} {c1 : Nat} {w : World} {K : Value → World → Prop} (h : impl_Warp_splits.vc x0_0 A0_1 n0_1 c0_1 A0_2 n0_2 c0_2 A1 n1 c1 w K) : Cll Try.prog 110 #[(.agg #[(.int .i64 x0_0), (.slice A0_1 n0_1 c0_1), (.slice A0_2 n0_2 c0_2)]), (.slice A1 n1 c1)] w K :=
  vcF_sound mixed (fn := Try.f110) (by kernel_rfl) (by kernel_rfl) (an := impl_Warp_splits.ann) (args := [(.agg #[(.int .i64 x0_0), (.slice A0_1 n0_1 c0_1), (.slice A0_2 n0_2 c0_2)]), (.slice A1 n1 c1)]) (by rw [impl_Warp_splits.vc_eq]; exact h)

theorem impl_Warp_splits.con {s0 : D.Warp} {A0_1 : Option Addr} {c0_1 : Nat} {A0_2 : Option Addr} {c0_2 : Nat} {xs1 : List D.Ins} {A1 : Option Addr} {c1 : Nat} {r : Bool} {w : World} (hp : M.impl_Warp_splits_pre s0 xs1) (hr : r = M.impl_Warp_splits s0 xs1) (R0_1 : Row el132 w A0_1 s0.Frames) (hc0_1 : s0.Frames.length ≤ c0_1) (R0_2 : Row el3 w A0_2 s0.Regs) (hc0_2 : s0.Regs.length ≤ c0_2) (R1 : Row el76 w A1 xs1) (hc1 : xs1.length ≤ c1) :
    Cll Try.prog 110 #[(.agg #[(.int .i64 s0.Number), (.slice A0_1 s0.Frames.length c0_1), (.slice A0_2 s0.Regs.length c0_2)]), (.slice A1 xs1.length c1)] w (fun v_ w_ => v_ = (.bool r) ∧ Ext w w_) := by
  have H := wp.impl_Warp_splits.math s0 xs1 hp
  have hB := Ext.refl w
  refine impl_Warp_splits.start ?_
  unfold impl_Warp_splits.vc
  unfold wp.impl_Warp_splits at H
  refine newBlk (fun g4_ w21 L4 P4 e22 => ?_)
  have O4 := P4
  have L4 := Nat.le_trans hB.size L4
  have hB := ethen hB e22
  refine ⟨_, _, _, (O4.at 1 rfl rfl), ?_⟩
  refine ⟨_, _, _, (O4.at 1 rfl rfl), ?_⟩
  obtain ⟨⟨h0_26, h1_27⟩, H⟩ := H
  obtain ⟨a24, ha25, hat23⟩ := Row.at (R0_1.ext hB) h0_26 h1_27
  refine ⟨h0_26, h1_27, a24, ha25, ?_⟩
  refine ⟨_, (hat23 0 _ rfl), ?_⟩
  obtain ⟨⟨h0_31, h1_32⟩, H⟩ := H
  obtain ⟨a29, ha30, hat28⟩ := Row.at (R1.ext hB) h0_31 h1_32
  refine ⟨h0_31, h1_32, a29, ha30, ?_⟩
  refine ⟨_, (hat28 0 _ rfl), ?_⟩
  refine bcase_mk (fun hc56 => ?_) (fun hc56 => ?_)
  · have H := (bcase_iff.1 H).1 hc56
    obtain rfl := hr.trans H.symm
    exact ⟨rfl, hB⟩
  · have H := (bcase_iff.1 H).2 hc56
    obtain ⟨⟨h0_36, h1_37⟩, H⟩ := H
    obtain ⟨a34, ha35, hat33⟩ := Row.at (R1.ext hB) h0_36 h1_37
    refine ⟨h0_36, h1_37, a34, ha35, ?_⟩
    refine ⟨_, (hat33 2 _ rfl), ?_⟩
    refine bcase_mk (fun hc55 => ?_) (fun hc55 => ?_)
    · have H := (bcase_iff.1 H).1 hc55
      obtain rfl := hr.trans H.symm
      exact ⟨rfl, hB⟩
    · have H := (bcase_iff.1 H).2 hc55
      refine ⟨(fun _ => False), ?_⟩
      refine ⟨_, ⟨(fun h_ => h_), (O4.at 0 rfl rfl)⟩, ?_⟩
      refine ⟨_, _, _, ⟨(fun h_ => h_), (O4.at 1 rfl rfl)⟩, ?_⟩
      refine ⟨_, _, _, ⟨(fun h_ => h_), (O4.at 2 rfl rfl)⟩, ?_⟩
      obtain ⟨⟨h0_42, h1_43⟩, H⟩ := H
      obtain ⟨a40, ha41, hat39⟩ := Row.at (R1.ext hB) h0_42 h1_43
      refine ⟨h0_42, h1_43, a40, ha41, ?_⟩
      refine ⟨_, ⟨(fun h_ => h_), (hat39 1 _ rfl)⟩, ?_⟩
      have hS38 := Chg.refl (fun _ => False) w21
      have O4 := O4.ext (Ext.drew _)
      have hB := ethen hB (Ext.drew _)
      have hS38 := hS38.then (Ext.drew _)
      obtain ⟨hp46, H⟩ := H
      obtain ⟨r44, hr45⟩ : ∃ r_, r_ = M.impl_Warp_zeroMask s0 ((rd xs1 ((rd s0.Frames (IntKind.wrap .i64 (((s0.Frames.length : Nat) : Int) - 1))).Pc)).A) := ⟨_, rfl⟩
      have H := H r44 hr45
      refine (impl_Warp_zeroMask.con hp46 hr45 (R0_1.ext hB) hc0_1 (R0_2.ext hB) hc0_2).mono ?_
      rintro _ w47 ⟨rfl, e48⟩
      have O4 := O4.ext e48
      have hB := ethen hB e48
      have hS38 := hS38.then e48
      refine ⟨r44, rfl, ?_⟩
      refine ⟨sameBut_chg hS38, ?_⟩
      refine bcase_mk (fun hc54 => ?_) (fun hc54 => ?_)
      · have H := (bcase_iff.1 H).1 hc54
        refine ⟨_, (O4.at 0 rfl rfl), ?_⟩
        refine ⟨_, _, _, (O4.at 1 rfl rfl), ?_⟩
        refine ⟨_, _, _, (O4.at 2 rfl rfl), ?_⟩
        obtain ⟨hp51, H⟩ := H
        obtain ⟨r49, hr50⟩ : ∃ r_, r_ = M.impl_ActiveMask s0 := ⟨_, rfl⟩
        have H := H r49 hr50
        refine (impl_ActiveMask.con hp51 hr50 (R0_1.ext hB) hc0_1 (R0_2.ext hB) hc0_2).mono ?_
        rintro _ w52 ⟨rfl, e53⟩
        have O4 := O4.ext e53
        have hB := ethen hB e53
        refine ⟨r49, rfl, ?_⟩
        obtain rfl := hr.trans H.symm
        exact ⟨rfl, hB⟩
      · have H := (bcase_iff.1 H).2 hc54
        obtain rfl := hr.trans H.symm
        exact ⟨rfl, hB⟩

def impl_Block_canStep.vc (A0_0 : Option Addr) (n0_0 : Nat) (c0_0 : Nat) (A0_1 : Option Addr) (n0_1 : Nat) (c0_1 : Nat) (A0_2 : Option Addr) (n0_2 : Nat) (c0_2 : Nat) (x0_3 : Int) (x0_4 : Int) (x1 : Int) (w : World) (K : Value → World → Prop) : Prop :=
  newK w (.cells #[(.slice A0_0 n0_0 c0_0), (.slice A0_1 n0_1 c0_1), (.slice A0_2 n0_2 c0_2), (.int .i64 x0_3), (.int .i64 x0_4)] 32) fun g21 w22 => ∃ (A23 : Option Addr) (n24 : Nat) (c25 : Nat), w22.cell? ((⟨g21, 0, none⟩ : Addr).add 0) = some (.slice A23 n24 c25) ∧ ∃ (A26 : Option Addr) (n27 : Nat) (c28 : Nat), w22.cell? ((⟨g21, 0, none⟩ : Addr).add 1) = some (.slice A26 n27 c28) ∧ ∃ (A29 : Option Addr) (n30 : Nat) (c31 : Nat), w22.cell? ((⟨g21, 0, none⟩ : Addr).add 2) = some (.slice A29 n30 c31) ∧ ∃ (n32 : Int), w22.cell? ((⟨g21, 0, none⟩ : Addr).add 3) = some (.int .i64 n32) ∧ ∃ (n33 : Int), w22.cell? ((⟨g21, 0, none⟩ : Addr).add 4) = some (.int .i64 n33) ∧ Cll Try.prog 108 #[(.agg #[(.slice A23 n24 c25), (.slice A26 n27 c28), (.slice A29 n30 c31), (.int .i64 n32), (.int .i64 n33)]), (.int .i64 x1)] w22 fun v34 w35 => (∃ u36 : Value, (∃ (n37 : Int), True ∧ ∃ (n38 : Int), True ∧ ∃ (n39 : Int), True ∧ ∃ (n40 : Int), True ∧ u36 = (.agg #[(.int .i64 n37), (.int .i64 n38), (.int .i64 n39), (.int .i64 n40)]) ∧ ∃ u41 : Value, (∃ (b42 : Bool), u41 = (.bool b42) ∧ v34 = (.tuple #[(.agg #[(.int .i64 n37), (.int .i64 n38), (.int .i64 n39), (.int .i64 n40)]), (.bool b42)]) ∧ newK w35 (.cells #[(.int .i64 0), (.int .i64 0), (.int .i64 0), (.int .i64 0)] 76) fun g43 w44 => stCells (⟨g43, 0, none⟩ : Addr) [(.int .i64 n37), (.int .i64 n38), (.int .i64 n39), (.int .i64 n40)] 0 w44 fun w45 => JoinT (σ := Bool × Unit) (fun J46 => bcase (!b42) (J46 (true, ()) w45) (∃ (A47 : Option Addr) (n48 : Nat) (c49 : Nat), w45.cell? ((⟨g21, 0, none⟩ : Addr).add 0) = some (.slice A47 n48 c49) ∧ ∃ (A50 : Option Addr) (n51 : Nat) (c52 : Nat), w45.cell? ((⟨g21, 0, none⟩ : Addr).add 1) = some (.slice A50 n51 c52) ∧ ∃ (A53 : Option Addr) (n54 : Nat) (c55 : Nat), w45.cell? ((⟨g21, 0, none⟩ : Addr).add 2) = some (.slice A53 n54 c55) ∧ ∃ (n56 : Int), w45.cell? ((⟨g21, 0, none⟩ : Addr).add 3) = some (.int .i64 n56) ∧ ∃ (n57 : Int), w45.cell? ((⟨g21, 0, none⟩ : Addr).add 4) = some (.int .i64 n57) ∧ Cll Try.prog 109 #[(.agg #[(.slice A47 n48 c49), (.slice A50 n51 c52), (.slice A53 n54 c55), (.int .i64 n56), (.int .i64 n57)]), (.int .i64 x1)] w45 fun v58 w59 => (∃ (b60 : Bool), v58 = (.bool b60) ∧ J46 (b60, ()) w59))) fun z61 w62 => bcase z61.1 (K (.bool false) w62) (∃ (n63 : Int), w62.cell? (((⟨g43, 0, none⟩ : Addr).add 0).add 0) = some (.int .i64 n63) ∧ bcase (n63 == 16) (∃ (A64 : Option Addr) (n65 : Nat) (c66 : Nat), w62.cell? (((⟨g21, 0, none⟩ : Addr).add 1).add 0) = some (.slice A64 n65 c66) ∧ ((0 : Int) ≤ x1 ∧ x1 < ((n65 : Nat) : Int) ∧ ∃ a67 : Addr, A64 = some a67 ∧ ∃ (A68 : Option Addr) (n69 : Nat) (c70 : Nat), w62.cell? (((a67.add ((x1.toNat) * 3)).add 1).add 0) = some (.slice A68 n69 c70) ∧ K (.bool (((n69 : Nat) : Int) == 1)) w62)) (∃ (n71 : Int), w62.cell? ((⟨g43, 0, none⟩ : Addr).add 0) = some (.int .i64 n71) ∧ ∃ (n72 : Int), w62.cell? ((⟨g43, 0, none⟩ : Addr).add 1) = some (.int .i64 n72) ∧ ∃ (n73 : Int), w62.cell? ((⟨g43, 0, none⟩ : Addr).add 2) = some (.int .i64 n73) ∧ ∃ (n74 : Int), w62.cell? ((⟨g43, 0, none⟩ : Addr).add 3) = some (.int .i64 n74) ∧ Cll Try.prog 99 #[(.agg #[(.int .i64 n71), (.int .i64 n72), (.int .i64 n73), (.int .i64 n74)])] w62 fun v75 w76 => (∃ (b77 : Bool), v75 = (.bool b77) ∧ bcase b77 ((∃ M78 : Nat → Prop, ∃ (A79 : Option Addr) (n80 : Nat) (c81 : Nat), (¬ M78 (((⟨g21, 0, none⟩ : Addr).add 1)).block ∧ w76.cell? (((⟨g21, 0, none⟩ : Addr).add 1).add 0) = some (.slice A79 n80 c81)) ∧ ((0 : Int) ≤ x1 ∧ x1 < ((n80 : Nat) : Int) ∧ ∃ a82 : Addr, A79 = some a82 ∧ ∃ (n83 : Int), (¬ M78 ((a82.add ((x1.toNat) * 3))).block ∧ w76.cell? ((a82.add ((x1.toNat) * 3)).add 0) = some (.int .i64 n83)) ∧ ∃ (A84 : Option Addr) (n85 : Nat) (c86 : Nat), (¬ M78 ((a82.add ((x1.toNat) * 3))).block ∧ w76.cell? ((a82.add ((x1.toNat) * 3)).add 1) = some (.slice A84 n85 c86)) ∧ ∃ (A87 : Option Addr) (n88 : Nat) (c89 : Nat), (¬ M78 ((a82.add ((x1.toNat) * 3))).block ∧ w76.cell? ((a82.add ((x1.toNat) * 3)).add 2) = some (.slice A87 n88 c89)) ∧ ∃ (A90 : Option Addr) (n91 : Nat) (c92 : Nat), (¬ M78 (((⟨g21, 0, none⟩ : Addr).add 0)).block ∧ w76.cell? (((⟨g21, 0, none⟩ : Addr).add 0).add 0) = some (.slice A90 n91 c92)) ∧ Cll Try.prog 110 #[(.agg #[(.int .i64 n83), (.slice A84 n85 c86), (.slice A87 n88 c89)]), (.slice A90 n91 c92)] w76.drew fun v93 w94 => (∃ (b95 : Bool), v93 = (.bool b95) ∧ SameBut M78 w76 w94 ∧ bcase (!b95) (K (.bool true) w94) (∃ (A96 : Option Addr) (n97 : Nat) (c98 : Nat), (¬ M78 (((⟨g21, 0, none⟩ : Addr).add 1)).block ∧ w76.cell? (((⟨g21, 0, none⟩ : Addr).add 1).add 0) = some (.slice A96 n97 c98)) ∧ ((0 : Int) ≤ x1 ∧ x1 < ((n97 : Nat) : Int) ∧ ∃ a99 : Addr, A96 = some a99 ∧ ∃ (A100 : Option Addr) (n101 : Nat) (c102 : Nat), (¬ M78 (((a99.add ((x1.toNat) * 3)).add 1)).block ∧ w76.cell? (((a99.add ((x1.toNat) * 3)).add 1).add 0) = some (.slice A100 n101 c102)) ∧ K (.bool (decide ((IntKind.wrap .i64 (((n101 : Nat) : Int) + 2)) ≤ 24))) w94)))))) (K (.bool true) w76)))))))

def impl_Block_canStep.ann : Ann := (.seq .l (.seq .l (.seq (.one (.cut [(13, .bool)] .l (.two (.seq .l .l) (.seq .l (.two (.seq .l .l) (.seq .l (.two (.seq .l .l) .l))))))) (.seq .l .l))))

theorem impl_Block_canStep.vc_eq (A0_0 : Option Addr) (n0_0 : Nat) (c0_0 : Nat) (A0_1 : Option Addr) (n0_1 : Nat) (c0_1 : Nat) (A0_2 : Option Addr) (n0_2 : Nat) (c0_2 : Nat) (x0_3 : Int) (x0_4 : Int) (x1 : Int) (w : World) (K : Value → World → Prop) : vcF Try.prog Try.f52 impl_Block_canStep.ann [(.agg #[(.slice A0_0 n0_0 c0_0), (.slice A0_1 n0_1 c0_1), (.slice A0_2 n0_2 c0_2), (.int .i64 x0_3), (.int .i64 x0_4)]), (.int .i64 x1)] K w = impl_Block_canStep.vc A0_0 n0_0 c0_0 A0_1 n0_1 c0_1 A0_2 n0_2 c0_2 x0_3 x0_4 x1 w K := by kernel_rfl

theorem impl_Block_canStep.start {A0_0 : Option Addr} {n0_0 : Nat} {c0_0 : Nat} {A0_1 : Option Addr} {n0_1 : Nat} {c0_1 : Nat} {A0_2 : Option Addr} {n0_2 : Nat} {c0_2 : Nat} {x0_3 : Int} {x0_4 : Int} {x1 : Int} {w : World} {K : Value → World → Prop} (h : impl_Block_canStep.vc A0_0 n0_0 c0_0 A0_1 n0_1 c0_1 A0_2 n0_2 c0_2 x0_3 x0_4 x1 w K) : Cll Try.prog 52 #[(.agg #[(.slice A0_0 n0_0 c0_0), (.slice A0_1 n0_1 c0_1), (.slice A0_2 n0_2 c0_2), (.int .i64 x0_3), (.int .i64 x0_4)]), (.int .i64 x1)] w K :=
  vcF_sound mixed (fn := Try.f52) (by kernel_rfl) (by kernel_rfl) (an := impl_Block_canStep.ann) (args := [(.agg #[(.slice A0_0 n0_0 c0_0), (.slice A0_1 n0_1 c0_1), (.slice A0_2 n0_2 c0_2), (.int .i64 x0_3), (.int .i64 x0_4)]), (.int .i64 x1)]) (by rw [impl_Block_canStep.vc_eq]; exact h)

theorem impl_Block_canStep.con {s0 : D.Block} {A0_0 : Option Addr} {c0_0 : Nat} {A0_1 : Option Addr} {c0_1 : Nat} {A0_2 : Option Addr} {c0_2 : Nat} {x1 : Int} {r : Bool} {w : World} (hp : M.impl_Block_canStep_pre s0 x1) (hr : r = M.impl_Block_canStep s0 x1) (R0_0 : Row el76 w A0_0 s0.Code) (hc0_0 : s0.Code.length ≤ c0_0) (R0_1 : RowW 102 el132 el3 w A0_1 s0.Warps) (hc0_1 : s0.Warps.length ≤ c0_1) (R0_2 : Row el3 w A0_2 s0.Memory) (hc0_2 : s0.Memory.length ≤ c0_2) :
    Cll Try.prog 52 #[(.agg #[(.slice A0_0 s0.Code.length c0_0), (.slice A0_1 s0.Warps.length c0_1), (.slice A0_2 s0.Memory.length c0_2), (.int .i64 s0.Waiting), (.int .i64 s0.Phase)]), (.int .i64 x1)] w (fun v_ w_ => v_ = (.bool r) ∧ Ext w w_) := by
  have H := wp.impl_Block_canStep.math s0 x1 hp
  have hB := Ext.refl w
  refine impl_Block_canStep.start ?_
  unfold impl_Block_canStep.vc
  unfold wp.impl_Block_canStep at H
  refine newBlk (fun g4_ w21 L4 P4 e22 => ?_)
  have O4 := P4
  have L4 := Nat.le_trans hB.size L4
  have hB := ethen hB e22
  refine ⟨_, _, _, (O4.at 0 rfl rfl), ?_⟩
  refine ⟨_, _, _, (O4.at 1 rfl rfl), ?_⟩
  refine ⟨_, _, _, (O4.at 2 rfl rfl), ?_⟩
  refine ⟨_, (O4.at 3 rfl rfl), ?_⟩
  refine ⟨_, (O4.at 4 rfl rfl), ?_⟩
  obtain ⟨hp25, H⟩ := H
  obtain ⟨r23, hr24⟩ : ∃ r_, r_ = M.impl_Block_nextIns s0 x1 := ⟨_, rfl⟩
  have H := H r23 hr24
  refine (impl_Block_nextIns.con hp25 hr24 (R0_0.ext hB) hc0_0 (R0_1.ext hB) hc0_1 (R0_2.ext hB) hc0_2).mono ?_
  rintro _ w26 ⟨rfl, e27⟩
  have O4 := O4.ext e27
  have hB := ethen hB e27
  refine ⟨(.agg #[(.int .i64 r23.1.Op), (.int .i64 r23.1.A), (.int .i64 r23.1.B), (.int .i64 r23.1.C)]), ?_⟩
  refine ⟨r23.1.Op, trivial, ?_⟩
  refine ⟨r23.1.A, trivial, ?_⟩
  refine ⟨r23.1.B, trivial, ?_⟩
  refine ⟨r23.1.C, trivial, ?_⟩
  refine ⟨rfl, ?_⟩
  refine ⟨(.bool r23.2), ?_⟩
  refine ⟨r23.2, rfl, ?_⟩
  refine ⟨rfl, ?_⟩
  refine newBlk (fun g5_ w28 L5 P5 e29 => ?_)
  have N4_5 := O4.ne L5
  have O4 := O4.ext e29
  have O5 := P5
  have L5 := Nat.le_trans hB.size L5
  have hB := ethen hB e29
  refine stBlk O5 (o := 0) (cs' := #[(.int .i64 r23.1.Op), (.int .i64 r23.1.A), (.int .i64 r23.1.B), (.int .i64 r23.1.C)]) rfl rfl (Nat.le_of_ble_eq_true rfl) rfl (fun w30 P5 e31 => ?_)
  have O4_ := O4.chg e31 N4_5
  have O4 := O4_
  have hB := echg hB e31 L5
  have O5 := P5
  obtain ⟨K127, hKK127, H⟩ := joinP_out H
  refine ⟨fun z_ w_ => ∃ (b32 : Bool), z_ = (b32, ()) ∧ K127 (b32, ()) ∧ Ext w w_ ∧ Blk w_ g4_ 32 #[(.slice A0_0 s0.Code.length c0_0), (.slice A0_1 s0.Warps.length c0_1), (.slice A0_2 s0.Memory.length c0_2), (.int .i64 s0.Waiting), (.int .i64 s0.Phase)] ∧ Blk w_ g5_ 76 #[(.int .i64 r23.1.Op), (.int .i64 r23.1.A), (.int .i64 r23.1.B), (.int .i64 r23.1.C)], ?_, ?_⟩
  · refine bcase_mk (fun hc41 => ?_) (fun hc41 => ?_)
    · have H := (bcase_iff.1 H).1 hc41
      exact ⟨true, rfl, H, hB, O4, O5⟩
    · have H := (bcase_iff.1 H).2 hc41
      refine ⟨_, _, _, (O4.at 0 rfl rfl), ?_⟩
      refine ⟨_, _, _, (O4.at 1 rfl rfl), ?_⟩
      refine ⟨_, _, _, (O4.at 2 rfl rfl), ?_⟩
      refine ⟨_, (O4.at 3 rfl rfl), ?_⟩
      refine ⟨_, (O4.at 4 rfl rfl), ?_⟩
      obtain ⟨hp38, H⟩ := H
      obtain ⟨r36, hr37⟩ : ∃ r_, r_ = M.impl_Block_waits s0 x1 := ⟨_, rfl⟩
      have H := H r36 hr37
      refine (impl_Block_waits.con hp38 hr37 (R0_0.ext hB) hc0_0 (R0_1.ext hB) hc0_1 (R0_2.ext hB) hc0_2).mono ?_
      rintro _ w39 ⟨rfl, e40⟩
      have O4 := O4.ext e40
      have O5 := O5.ext e40
      have hB := ethen hB e40
      refine ⟨r36, rfl, ?_⟩
      exact ⟨r36, rfl, H, hB, O4, O5⟩
  · rintro _ w34 ⟨b32, rfl, H, hB, O4, O5⟩
    have H := hKK127 _ H
    dsimp only at H ⊢
    refine bcase_mk (fun hc125 => ?_) (fun hc125 => ?_)
    · have H := (bcase_iff.1 H).1 hc125
      obtain rfl := hr.trans H.symm
      exact ⟨rfl, hB⟩
    · have H := (bcase_iff.1 H).2 hc125
      refine ⟨_, (O5.at 0 rfl rfl), ?_⟩
      refine bcase_mk (fun hc124 => ?_) (fun hc124 => ?_)
      · have H := (bcase_iff.1 H).1 hc124
        refine ⟨_, _, _, (O4.at 1 rfl rfl), ?_⟩
        obtain ⟨⟨h0_45, h1_46⟩, H⟩ := H
        obtain ⟨a43, ha44, A50, c51, A52, c53, f47, f48, f49, R54, hle56, R55, hle57⟩ := RowW.at R0_1 h0_45 h1_46
        refine ⟨h0_45, h1_46, a43, ha44, ?_⟩
        refine ⟨_, _, _, (Ext.cell hB f48), ?_⟩
        obtain rfl := hr.trans H.symm
        exact ⟨rfl, hB⟩
      · have H := (bcase_iff.1 H).2 hc124
        refine ⟨_, (O5.at 0 rfl rfl), ?_⟩
        refine ⟨_, (O5.at 1 rfl rfl), ?_⟩
        refine ⟨_, (O5.at 2 rfl rfl), ?_⟩
        refine ⟨_, (O5.at 3 rfl rfl), ?_⟩
        obtain ⟨r58, hr59⟩ : ∃ r_, r_ = M.impl_IsLocal r23.1 := ⟨_, rfl⟩
        have H := H r58 hr59
        refine (impl_IsLocal.con hr59 ).mono ?_
        rintro _ w61 ⟨rfl, e62⟩
        have O4 := O4.ext e62
        have O5 := O5.ext e62
        have hB := ethen hB e62
        refine ⟨r58, rfl, ?_⟩
        refine bcase_mk (fun hc123 => ?_) (fun hc123 => ?_)
        · have H := (bcase_iff.1 H).1 hc123
          refine ⟨(fun _ => False), ?_⟩
          have hBz := hB
          have Z4 := O4
          have Z5 := O5
          refine ⟨_, _, _, ⟨(fun h_ => h_), (O4.at 1 rfl rfl)⟩, ?_⟩
          obtain ⟨⟨h0_88, h1_89⟩, H⟩ := H
          obtain ⟨a86, ha87, A93, c94, A95, c96, f90, f91, f92, R97, hle99, R98, hle100⟩ := RowW.at R0_1 h0_88 h1_89
          refine ⟨h0_88, h1_89, a86, ha87, ?_⟩
          refine ⟨_, ⟨(fun h_ => h_), (Ext.cell hB f90)⟩, ?_⟩
          refine ⟨_, _, _, ⟨(fun h_ => h_), (Ext.cell hB f91)⟩, ?_⟩
          refine ⟨_, _, _, ⟨(fun h_ => h_), (Ext.cell hB f92)⟩, ?_⟩
          refine ⟨_, _, _, ⟨(fun h_ => h_), (O4.at 0 rfl rfl)⟩, ?_⟩
          have hS63 := Chg.refl (fun _ => False) w61
          have O4 := O4.ext (Ext.drew _)
          have O5 := O5.ext (Ext.drew _)
          have hB := ethen hB (Ext.drew _)
          have hS63 := hS63.then (Ext.drew _)
          obtain ⟨hp103, H⟩ := H
          obtain ⟨r101, hr102⟩ : ∃ r_, r_ = M.impl_Warp_splits (rd s0.Warps x1) s0.Code := ⟨_, rfl⟩
          have H := H r101 hr102
          refine (cllArgs (by first | (simp only [List.length_set]; done) | (simp; done)) (impl_Warp_splits.con hp103 hr102 (R97.ext hB) hle99 (R98.ext hB) hle100 (R0_0.ext hB) hc0_0)).mono ?_
          rintro _ w104 ⟨rfl, e105⟩
          have O4 := O4.ext e105
          have O5 := O5.ext e105
          have hB := ethen hB e105
          have hS63 := hS63.then e105
          refine ⟨r101, rfl, ?_⟩
          refine ⟨sameBut_chg hS63, ?_⟩
          refine bcase_mk (fun hc122 => ?_) (fun hc122 => ?_)
          · have H := (bcase_iff.1 H).1 hc122
            obtain rfl := hr.trans H.symm
            exact ⟨rfl, hB⟩
          · have H := (bcase_iff.1 H).2 hc122
            refine ⟨_, _, _, ⟨(fun h_ => h_), (Z4.at 1 rfl rfl)⟩, ?_⟩
            obtain ⟨⟨h0_109, h1_110⟩, H⟩ := H
            obtain ⟨a107, ha108, A114, c115, A116, c117, f111, f112, f113, R118, hle120, R119, hle121⟩ := RowW.at R0_1 h0_109 h1_110
            refine ⟨h0_109, h1_110, a107, ha108, ?_⟩
            refine ⟨_, _, _, ⟨(fun h_ => h_), (Ext.cell hBz f112)⟩, ?_⟩
            obtain rfl := hr.trans H.symm
            exact ⟨rfl, hB⟩
        · have H := (bcase_iff.1 H).2 hc123
          obtain rfl := hr.trans H.symm
          exact ⟨rfl, hB⟩

def impl_CanStep.vc (A0_0 : Option Addr) (n0_0 : Nat) (c0_0 : Nat) (A0_1 : Option Addr) (n0_1 : Nat) (c0_1 : Nat) (A0_2 : Option Addr) (n0_2 : Nat) (c0_2 : Nat) (x0_3 : Int) (x0_4 : Int) (x1 : Int) (w : World) (K : Value → World → Prop) : Prop :=
  newK w (.cells #[(.slice A0_0 n0_0 c0_0), (.slice A0_1 n0_1 c0_1), (.slice A0_2 n0_2 c0_2), (.int .i64 x0_3), (.int .i64 x0_4)] 32) fun g21 w22 => ∃ (A23 : Option Addr) (n24 : Nat) (c25 : Nat), w22.cell? ((⟨g21, 0, none⟩ : Addr).add 0) = some (.slice A23 n24 c25) ∧ ∃ (A26 : Option Addr) (n27 : Nat) (c28 : Nat), w22.cell? ((⟨g21, 0, none⟩ : Addr).add 1) = some (.slice A26 n27 c28) ∧ ∃ (A29 : Option Addr) (n30 : Nat) (c31 : Nat), w22.cell? ((⟨g21, 0, none⟩ : Addr).add 2) = some (.slice A29 n30 c31) ∧ ∃ (n32 : Int), w22.cell? ((⟨g21, 0, none⟩ : Addr).add 3) = some (.int .i64 n32) ∧ ∃ (n33 : Int), w22.cell? ((⟨g21, 0, none⟩ : Addr).add 4) = some (.int .i64 n33) ∧ Cll Try.prog 51 #[(.agg #[(.slice A23 n24 c25), (.slice A26 n27 c28), (.slice A29 n30 c31), (.int .i64 n32), (.int .i64 n33)]), (.int .i64 x1)] w22 fun v34 w35 => (∃ (b36 : Bool), v34 = (.bool b36) ∧ bcase b36 (∃ (A37 : Option Addr) (n38 : Nat) (c39 : Nat), w35.cell? ((⟨g21, 0, none⟩ : Addr).add 0) = some (.slice A37 n38 c39) ∧ ∃ (A40 : Option Addr) (n41 : Nat) (c42 : Nat), w35.cell? ((⟨g21, 0, none⟩ : Addr).add 1) = some (.slice A40 n41 c42) ∧ ∃ (A43 : Option Addr) (n44 : Nat) (c45 : Nat), w35.cell? ((⟨g21, 0, none⟩ : Addr).add 2) = some (.slice A43 n44 c45) ∧ ∃ (n46 : Int), w35.cell? ((⟨g21, 0, none⟩ : Addr).add 3) = some (.int .i64 n46) ∧ ∃ (n47 : Int), w35.cell? ((⟨g21, 0, none⟩ : Addr).add 4) = some (.int .i64 n47) ∧ Cll Try.prog 52 #[(.agg #[(.slice A37 n38 c39), (.slice A40 n41 c42), (.slice A43 n44 c45), (.int .i64 n46), (.int .i64 n47)]), (.int .i64 x1)] w35 fun v48 w49 => (∃ (b50 : Bool), v48 = (.bool b50) ∧ K (.bool b50) w49)) (K (.bool false) w35))

def impl_CanStep.ann : Ann := (.seq .l (.seq .l .l))

theorem impl_CanStep.vc_eq (A0_0 : Option Addr) (n0_0 : Nat) (c0_0 : Nat) (A0_1 : Option Addr) (n0_1 : Nat) (c0_1 : Nat) (A0_2 : Option Addr) (n0_2 : Nat) (c0_2 : Nat) (x0_3 : Int) (x0_4 : Int) (x1 : Int) (w : World) (K : Value → World → Prop) : vcF Try.prog Try.f14 impl_CanStep.ann [(.agg #[(.slice A0_0 n0_0 c0_0), (.slice A0_1 n0_1 c0_1), (.slice A0_2 n0_2 c0_2), (.int .i64 x0_3), (.int .i64 x0_4)]), (.int .i64 x1)] K w = impl_CanStep.vc A0_0 n0_0 c0_0 A0_1 n0_1 c0_1 A0_2 n0_2 c0_2 x0_3 x0_4 x1 w K := by kernel_rfl

theorem impl_CanStep.start {A0_0 : Option Addr} {n0_0 : Nat} {c0_0 : Nat} {A0_1 : Option Addr} {n0_1 : Nat} {c0_1 : Nat} {A0_2 : Option Addr} {n0_2 : Nat} {c0_2 : Nat} {x0_3 : Int} {x0_4 : Int} {x1 : Int} {w : World} {K : Value → World → Prop} (h : impl_CanStep.vc A0_0 n0_0 c0_0 A0_1 n0_1 c0_1 A0_2 n0_2 c0_2 x0_3 x0_4 x1 w K) : Cll Try.prog 14 #[(.agg #[(.slice A0_0 n0_0 c0_0), (.slice A0_1 n0_1 c0_1), (.slice A0_2 n0_2 c0_2), (.int .i64 x0_3), (.int .i64 x0_4)]), (.int .i64 x1)] w K :=
  vcF_sound mixed (fn := Try.f14) (by kernel_rfl) (by kernel_rfl) (an := impl_CanStep.ann) (args := [(.agg #[(.slice A0_0 n0_0 c0_0), (.slice A0_1 n0_1 c0_1), (.slice A0_2 n0_2 c0_2), (.int .i64 x0_3), (.int .i64 x0_4)]), (.int .i64 x1)]) (by rw [impl_CanStep.vc_eq]; exact h)

theorem impl_CanStep.con {s0 : D.Block} {A0_0 : Option Addr} {c0_0 : Nat} {A0_1 : Option Addr} {c0_1 : Nat} {A0_2 : Option Addr} {c0_2 : Nat} {x1 : Int} {r : Bool} {w : World} (hp : M.impl_CanStep_pre s0 x1) (hr : r = M.impl_CanStep s0 x1) (R0_0 : Row el76 w A0_0 s0.Code) (hc0_0 : s0.Code.length ≤ c0_0) (R0_1 : RowW 102 el132 el3 w A0_1 s0.Warps) (hc0_1 : s0.Warps.length ≤ c0_1) (R0_2 : Row el3 w A0_2 s0.Memory) (hc0_2 : s0.Memory.length ≤ c0_2) :
    Cll Try.prog 14 #[(.agg #[(.slice A0_0 s0.Code.length c0_0), (.slice A0_1 s0.Warps.length c0_1), (.slice A0_2 s0.Memory.length c0_2), (.int .i64 s0.Waiting), (.int .i64 s0.Phase)]), (.int .i64 x1)] w (fun v_ w_ => v_ = (.bool r) ∧ Ext w w_) := by
  have H := wp.impl_CanStep.math s0 x1 hp
  have hB := Ext.refl w
  refine impl_CanStep.start ?_
  unfold impl_CanStep.vc
  unfold wp.impl_CanStep at H
  refine newBlk (fun g4_ w21 L4 P4 e22 => ?_)
  have O4 := P4
  have L4 := Nat.le_trans hB.size L4
  have hB := ethen hB e22
  refine ⟨_, _, _, (O4.at 0 rfl rfl), ?_⟩
  refine ⟨_, _, _, (O4.at 1 rfl rfl), ?_⟩
  refine ⟨_, _, _, (O4.at 2 rfl rfl), ?_⟩
  refine ⟨_, (O4.at 3 rfl rfl), ?_⟩
  refine ⟨_, (O4.at 4 rfl rfl), ?_⟩
  obtain ⟨hp25, H⟩ := H
  obtain ⟨r23, hr24⟩ : ∃ r_, r_ = M.impl_hasWarp s0 x1 := ⟨_, rfl⟩
  have H := H r23 hr24
  refine (impl_hasWarp.con hp25 hr24 (R0_0.ext hB) hc0_0 (R0_1.ext hB) hc0_1 (R0_2.ext hB) hc0_2).mono ?_
  rintro _ w26 ⟨rfl, e27⟩
  have O4 := O4.ext e27
  have hB := ethen hB e27
  refine ⟨r23, rfl, ?_⟩
  refine bcase_mk (fun hc33 => ?_) (fun hc33 => ?_)
  · have H := (bcase_iff.1 H).1 hc33
    refine ⟨_, _, _, (O4.at 0 rfl rfl), ?_⟩
    refine ⟨_, _, _, (O4.at 1 rfl rfl), ?_⟩
    refine ⟨_, _, _, (O4.at 2 rfl rfl), ?_⟩
    refine ⟨_, (O4.at 3 rfl rfl), ?_⟩
    refine ⟨_, (O4.at 4 rfl rfl), ?_⟩
    obtain ⟨hp30, H⟩ := H
    obtain ⟨r28, hr29⟩ : ∃ r_, r_ = M.impl_Block_canStep s0 x1 := ⟨_, rfl⟩
    have H := H r28 hr29
    refine (impl_Block_canStep.con hp30 hr29 (R0_0.ext hB) hc0_0 (R0_1.ext hB) hc0_1 (R0_2.ext hB) hc0_2).mono ?_
    rintro _ w31 ⟨rfl, e32⟩
    have O4 := O4.ext e32
    have hB := ethen hB e32
    refine ⟨r28, rfl, ?_⟩
    obtain rfl := hr.trans H.symm
    exact ⟨rfl, hB⟩
  · have H := (bcase_iff.1 H).2 hc33
    obtain rfl := hr.trans H.symm
    exact ⟨rfl, hB⟩

def laws_FnExactCanStep.vc (A0_0 : Option Addr) (n0_0 : Nat) (c0_0 : Nat) (A0_1 : Option Addr) (n0_1 : Nat) (c0_1 : Nat) (A0_2 : Option Addr) (n0_2 : Nat) (c0_2 : Nat) (x0_3 : Int) (x0_4 : Int) (x1 : Int) (w : World) (K : Value → World → Prop) : Prop :=
  newK w (.cells #[(.slice A0_0 n0_0 c0_0), (.slice A0_1 n0_1 c0_1), (.slice A0_2 n0_2 c0_2), (.int .i64 x0_3), (.int .i64 x0_4)] 26) fun g21 w22 => ∃ (A23 : Option Addr) (n24 : Nat) (c25 : Nat), w22.cell? ((⟨g21, 0, none⟩ : Addr).add 0) = some (.slice A23 n24 c25) ∧ ∃ (A26 : Option Addr) (n27 : Nat) (c28 : Nat), w22.cell? ((⟨g21, 0, none⟩ : Addr).add 1) = some (.slice A26 n27 c28) ∧ ∃ (A29 : Option Addr) (n30 : Nat) (c31 : Nat), w22.cell? ((⟨g21, 0, none⟩ : Addr).add 2) = some (.slice A29 n30 c31) ∧ ∃ (n32 : Int), w22.cell? ((⟨g21, 0, none⟩ : Addr).add 3) = some (.int .i64 n32) ∧ ∃ (n33 : Int), w22.cell? ((⟨g21, 0, none⟩ : Addr).add 4) = some (.int .i64 n33) ∧ Cll Try.prog 11 #[(.agg #[(.slice A23 n24 c25), (.slice A26 n27 c28), (.slice A29 n30 c31), (.int .i64 n32), (.int .i64 n33)]), (.int .i64 1048576)] w22 fun v34 w35 => (∃ (n36 : Int), v34 = (.int .i64 n36) ∧ bcase (decide (n36 < 0)) (K (.bool true) w35) (∃ (A37 : Option Addr) (n38 : Nat) (c39 : Nat), w35.cell? ((⟨g21, 0, none⟩ : Addr).add 0) = some (.slice A37 n38 c39) ∧ ∃ (A40 : Option Addr) (n41 : Nat) (c42 : Nat), w35.cell? ((⟨g21, 0, none⟩ : Addr).add 1) = some (.slice A40 n41 c42) ∧ ∃ (A43 : Option Addr) (n44 : Nat) (c45 : Nat), w35.cell? ((⟨g21, 0, none⟩ : Addr).add 2) = some (.slice A43 n44 c45) ∧ ∃ (n46 : Int), w35.cell? ((⟨g21, 0, none⟩ : Addr).add 3) = some (.int .i64 n46) ∧ ∃ (n47 : Int), w35.cell? ((⟨g21, 0, none⟩ : Addr).add 4) = some (.int .i64 n47) ∧ Cll Try.prog 13 #[(.agg #[(.slice A37 n38 c39), (.slice A40 n41 c42), (.slice A43 n44 c45), (.int .i64 n46), (.int .i64 n47)])] w35 fun v48 w49 => (∃ (A50 : Option Addr) (n51 : Nat) (c52 : Nat), True ∧ ∃ (A53 : Option Addr) (n54 : Nat) (c55 : Nat), True ∧ ∃ (A56 : Option Addr) (n57 : Nat) (c58 : Nat), True ∧ ∃ (n59 : Int), True ∧ ∃ (n60 : Int), True ∧ v48 = (.agg #[(.slice A50 n51 c52), (.slice A53 n54 c55), (.slice A56 n57 c58), (.int .i64 n59), (.int .i64 n60)]) ∧ Cll Try.prog 12 #[(.agg #[(.slice A50 n51 c52), (.slice A53 n54 c55), (.slice A56 n57 c58), (.int .i64 n59), (.int .i64 n60)]), (.int .i64 x1)] w49 fun v61 w62 => (∃ (b63 : Bool), v61 = (.bool b63) ∧ ∃ (A64 : Option Addr) (n65 : Nat) (c66 : Nat), w62.cell? ((⟨g21, 0, none⟩ : Addr).add 0) = some (.slice A64 n65 c66) ∧ ∃ (A67 : Option Addr) (n68 : Nat) (c69 : Nat), w62.cell? ((⟨g21, 0, none⟩ : Addr).add 1) = some (.slice A67 n68 c69) ∧ ∃ (A70 : Option Addr) (n71 : Nat) (c72 : Nat), w62.cell? ((⟨g21, 0, none⟩ : Addr).add 2) = some (.slice A70 n71 c72) ∧ ∃ (n73 : Int), w62.cell? ((⟨g21, 0, none⟩ : Addr).add 3) = some (.int .i64 n73) ∧ ∃ (n74 : Int), w62.cell? ((⟨g21, 0, none⟩ : Addr).add 4) = some (.int .i64 n74) ∧ Cll Try.prog 13 #[(.agg #[(.slice A64 n65 c66), (.slice A67 n68 c69), (.slice A70 n71 c72), (.int .i64 n73), (.int .i64 n74)])] w62 fun v75 w76 => (∃ (A77 : Option Addr) (n78 : Nat) (c79 : Nat), True ∧ ∃ (A80 : Option Addr) (n81 : Nat) (c82 : Nat), True ∧ ∃ (A83 : Option Addr) (n84 : Nat) (c85 : Nat), True ∧ ∃ (n86 : Int), True ∧ ∃ (n87 : Int), True ∧ v75 = (.agg #[(.slice A77 n78 c79), (.slice A80 n81 c82), (.slice A83 n84 c85), (.int .i64 n86), (.int .i64 n87)]) ∧ newK w76 (.cells #[(.slice none 0 0), (.slice none 0 0), (.slice none 0 0), (.int .i64 0), (.int .i64 0)] 32) fun g88 w89 => stCells (⟨g88, 0, none⟩ : Addr) [(.slice A77 n78 c79), (.slice A80 n81 c82), (.slice A83 n84 c85), (.int .i64 n86), (.int .i64 n87)] 0 w89 fun w90 => ∃ (A91 : Option Addr) (n92 : Nat) (c93 : Nat), w90.cell? ((⟨g88, 0, none⟩ : Addr).add 0) = some (.slice A91 n92 c93) ∧ ∃ (A94 : Option Addr) (n95 : Nat) (c96 : Nat), w90.cell? ((⟨g88, 0, none⟩ : Addr).add 1) = some (.slice A94 n95 c96) ∧ ∃ (A97 : Option Addr) (n98 : Nat) (c99 : Nat), w90.cell? ((⟨g88, 0, none⟩ : Addr).add 2) = some (.slice A97 n98 c99) ∧ ∃ (n100 : Int), w90.cell? ((⟨g88, 0, none⟩ : Addr).add 3) = some (.int .i64 n100) ∧ ∃ (n101 : Int), w90.cell? ((⟨g88, 0, none⟩ : Addr).add 4) = some (.int .i64 n101) ∧ Cll Try.prog 14 #[(.agg #[(.slice A91 n92 c93), (.slice A94 n95 c96), (.slice A97 n98 c99), (.int .i64 n100), (.int .i64 n101)]), (.int .i64 x1)] w90 fun v102 w103 => (∃ (b104 : Bool), v102 = (.bool b104) ∧ bcase (!(b104 == b63)) (K (.bool false) w103) ((∃ M105 : Nat → Prop, ∃ (A106 : Option Addr) (n107 : Nat) (c108 : Nat), (¬ M105 ((⟨g88, 0, none⟩ : Addr)).block ∧ w103.cell? ((⟨g88, 0, none⟩ : Addr).add 0) = some (.slice A106 n107 c108)) ∧ ∃ (A109 : Option Addr) (n110 : Nat) (c111 : Nat), (¬ M105 ((⟨g88, 0, none⟩ : Addr)).block ∧ w103.cell? ((⟨g88, 0, none⟩ : Addr).add 1) = some (.slice A109 n110 c111)) ∧ ∃ (A112 : Option Addr) (n113 : Nat) (c114 : Nat), (¬ M105 ((⟨g88, 0, none⟩ : Addr)).block ∧ w103.cell? ((⟨g88, 0, none⟩ : Addr).add 2) = some (.slice A112 n113 c114)) ∧ ∃ (n115 : Int), (¬ M105 ((⟨g88, 0, none⟩ : Addr)).block ∧ w103.cell? ((⟨g88, 0, none⟩ : Addr).add 3) = some (.int .i64 n115)) ∧ ∃ (n116 : Int), (¬ M105 ((⟨g88, 0, none⟩ : Addr)).block ∧ w103.cell? ((⟨g88, 0, none⟩ : Addr).add 4) = some (.int .i64 n116)) ∧ ∃ (A117 : Option Addr) (n118 : Nat) (c119 : Nat), (¬ M105 ((⟨g21, 0, none⟩ : Addr)).block ∧ w103.cell? ((⟨g21, 0, none⟩ : Addr).add 0) = some (.slice A117 n118 c119)) ∧ ∃ (A120 : Option Addr) (n121 : Nat) (c122 : Nat), (¬ M105 ((⟨g21, 0, none⟩ : Addr)).block ∧ w103.cell? ((⟨g21, 0, none⟩ : Addr).add 1) = some (.slice A120 n121 c122)) ∧ ∃ (A123 : Option Addr) (n124 : Nat) (c125 : Nat), (¬ M105 ((⟨g21, 0, none⟩ : Addr)).block ∧ w103.cell? ((⟨g21, 0, none⟩ : Addr).add 2) = some (.slice A123 n124 c125)) ∧ ∃ (n126 : Int), (¬ M105 ((⟨g21, 0, none⟩ : Addr)).block ∧ w103.cell? ((⟨g21, 0, none⟩ : Addr).add 3) = some (.int .i64 n126)) ∧ ∃ (n127 : Int), (¬ M105 ((⟨g21, 0, none⟩ : Addr)).block ∧ w103.cell? ((⟨g21, 0, none⟩ : Addr).add 4) = some (.int .i64 n127)) ∧ Cll Try.prog 13 #[(.agg #[(.slice A117 n118 c119), (.slice A120 n121 c122), (.slice A123 n124 c125), (.int .i64 n126), (.int .i64 n127)])] w103.drew fun v128 w129 => (∃ (A130 : Option Addr) (n131 : Nat) (c132 : Nat), True ∧ ∃ (A133 : Option Addr) (n134 : Nat) (c135 : Nat), True ∧ ∃ (A136 : Option Addr) (n137 : Nat) (c138 : Nat), True ∧ ∃ (n139 : Int), True ∧ ∃ (n140 : Int), True ∧ v128 = (.agg #[(.slice A130 n131 c132), (.slice A133 n134 c135), (.slice A136 n137 c138), (.int .i64 n139), (.int .i64 n140)]) ∧ SameBut M105 w103 w129 ∧ Cll Try.prog 15 #[(.agg #[(.slice A106 n107 c108), (.slice A109 n110 c111), (.slice A112 n113 c114), (.int .i64 n115), (.int .i64 n116)]), (.agg #[(.slice A130 n131 c132), (.slice A133 n134 c135), (.slice A136 n137 c138), (.int .i64 n139), (.int .i64 n140)])] w129 fun v141 w142 => (∃ (b143 : Bool), v141 = (.bool b143) ∧ SameBut M105 w103 w142 ∧ bcase (!b143) (K (.bool false) w142) (K (.bool true) w142)))))))))))

def laws_FnExactCanStep.ann : Ann := (.seq .l (.seq .l (.seq .l (.seq (.seq .l (.two (.seq .l .l) .l)) (.seq .l (.seq .l (.seq .l (.seq (.seq .l (.two (.seq .l .l) .l)) (.seq (.seq .l (.two (.seq .l .l) .l)) (.seq .l .l))))))))))

theorem laws_FnExactCanStep.vc_eq (A0_0 : Option Addr) (n0_0 : Nat) (c0_0 : Nat) (A0_1 : Option Addr) (n0_1 : Nat) (c0_1 : Nat) (A0_2 : Option Addr) (n0_2 : Nat) (c0_2 : Nat) (x0_3 : Int) (x0_4 : Int) (x1 : Int) (w : World) (K : Value → World → Prop) : vcF Try.prog Try.f3 laws_FnExactCanStep.ann [(.agg #[(.slice A0_0 n0_0 c0_0), (.slice A0_1 n0_1 c0_1), (.slice A0_2 n0_2 c0_2), (.int .i64 x0_3), (.int .i64 x0_4)]), (.int .i64 x1)] K w = laws_FnExactCanStep.vc A0_0 n0_0 c0_0 A0_1 n0_1 c0_1 A0_2 n0_2 c0_2 x0_3 x0_4 x1 w K := by kernel_rfl

theorem laws_FnExactCanStep.start {A0_0 : Option Addr} {n0_0 : Nat} {c0_0 : Nat} {A0_1 : Option Addr} {n0_1 : Nat} {c0_1 : Nat} {A0_2 : Option Addr} {n0_2 : Nat} {c0_2 : Nat} {x0_3 : Int} {x0_4 : Int} {x1 : Int} {w : World} {K : Value → World → Prop} (h : laws_FnExactCanStep.vc A0_0 n0_0 c0_0 A0_1 n0_1 c0_1 A0_2 n0_2 c0_2 x0_3 x0_4 x1 w K) : Cll Try.prog 3 #[(.agg #[(.slice A0_0 n0_0 c0_0), (.slice A0_1 n0_1 c0_1), (.slice A0_2 n0_2 c0_2), (.int .i64 x0_3), (.int .i64 x0_4)]), (.int .i64 x1)] w K :=
  vcF_sound mixed (fn := Try.f3) (by kernel_rfl) (by kernel_rfl) (an := laws_FnExactCanStep.ann) (args := [(.agg #[(.slice A0_0 n0_0 c0_0), (.slice A0_1 n0_1 c0_1), (.slice A0_2 n0_2 c0_2), (.int .i64 x0_3), (.int .i64 x0_4)]), (.int .i64 x1)]) (by rw [laws_FnExactCanStep.vc_eq]; exact h)

theorem laws_FnExactCanStep.con {s0 : D.Block} {A0_0 : Option Addr} {c0_0 : Nat} {A0_1 : Option Addr} {c0_1 : Nat} {A0_2 : Option Addr} {c0_2 : Nat} {x1 : Int} {r : Bool} {w : World} (hp : M.laws_FnExactCanStep_pre s0 x1) (hr : r = M.laws_FnExactCanStep s0 x1) (R0_0 : Row el78 w A0_0 s0.Code) (hc0_0 : s0.Code.length ≤ c0_0) (R0_1 : RowW 99 el148 el3 w A0_1 s0.Warps) (hc0_1 : s0.Warps.length ≤ c0_1) (R0_2 : Row el3 w A0_2 s0.Memory) (hc0_2 : s0.Memory.length ≤ c0_2) :
    Cll Try.prog 3 #[(.agg #[(.slice A0_0 s0.Code.length c0_0), (.slice A0_1 s0.Warps.length c0_1), (.slice A0_2 s0.Memory.length c0_2), (.int .i64 s0.Waiting), (.int .i64 s0.Phase)]), (.int .i64 x1)] w (fun v_ w_ => v_ = (.bool r) ∧ Ext w w_) := by
  have H := wp.laws_FnExactCanStep.math s0 x1 hp
  have hB := Ext.refl w
  refine laws_FnExactCanStep.start ?_
  unfold laws_FnExactCanStep.vc
  unfold wp.laws_FnExactCanStep at H
  refine newBlk (fun g4_ w21 L4 P4 e22 => ?_)
  have O4 := P4
  have L4 := Nat.le_trans hB.size L4
  have hB := ethen hB e22
  refine ⟨_, _, _, (O4.at 0 rfl rfl), ?_⟩
  refine ⟨_, _, _, (O4.at 1 rfl rfl), ?_⟩
  refine ⟨_, _, _, (O4.at 2 rfl rfl), ?_⟩
  refine ⟨_, (O4.at 3 rfl rfl), ?_⟩
  refine ⟨_, (O4.at 4 rfl rfl), ?_⟩
  obtain ⟨hp25, H⟩ := H
  obtain ⟨r23, hr24⟩ : ∃ r_, r_ = M.laws_szBlock s0 1048576 := ⟨_, rfl⟩
  have H := H r23 hr24
  refine (laws_szBlock.con hp25 hr24 (R0_0.ext hB) hc0_0 (R0_1.ext hB) hc0_1 (R0_2.ext hB) hc0_2).mono ?_
  rintro _ w26 ⟨rfl, e27⟩
  have O4 := O4.ext e27
  have hB := ethen hB e27
  refine ⟨r23, rfl, ?_⟩
  refine bcase_mk (fun hc86 => ?_) (fun hc86 => ?_)
  · have H := (bcase_iff.1 H).1 hc86
    obtain rfl := hr.trans H.symm
    exact ⟨rfl, hB⟩
  · have H := (bcase_iff.1 H).2 hc86
    refine ⟨_, _, _, (O4.at 0 rfl rfl), ?_⟩
    refine ⟨_, _, _, (O4.at 1 rfl rfl), ?_⟩
    refine ⟨_, _, _, (O4.at 2 rfl rfl), ?_⟩
    refine ⟨_, (O4.at 3 rfl rfl), ?_⟩
    refine ⟨_, (O4.at 4 rfl rfl), ?_⟩
    obtain ⟨hp30, H⟩ := H
    obtain ⟨r28, hr29⟩ : ∃ r_, r_ = M.laws_toBlock s0 := ⟨_, rfl⟩
    have H := H r28 hr29
    refine (laws_toBlock.con hp30 hr29 (R0_0.ext hB) hc0_0 (R0_1.ext hB) hc0_1 (R0_2.ext hB) hc0_2).mono ?_
    rintro _ w31 ⟨A33, c34, A35, c36, F39, A37, c38, rfl, P5, P6, P7, N6_7, e32⟩
    have N5_4 := P5.apart_old O4.lt
    have N6_4 := P6.new_disbox O4 (Nat.le_refl _)
    have N7_4 := P7.apart_old O4.lt
    have O4 := O4.ext e32
    have O5 := P5.mono hB.size
    have O6 := P6.mono hB.size
    have O7 := P7.mono hB.size
    have hB := ethen hB e32
    refine ⟨A33, r28.Code.length, c34, trivial, ?_⟩
    refine ⟨A35, r28.Warps.length, c36, trivial, ?_⟩
    refine ⟨A37, r28.Memory.length, c38, trivial, ?_⟩
    refine ⟨r28.Waiting, trivial, ?_⟩
    refine ⟨r28.Phase, trivial, ?_⟩
    refine ⟨rfl, ?_⟩
    obtain ⟨hp42, H⟩ := H
    obtain ⟨r40, hr41⟩ : ∃ r_, r_ = M.spec_CanStep r28 x1 := ⟨_, rfl⟩
    have H := H r40 hr41
    refine (spec_CanStep.con hp42 hr41 O5.row O5.le O6.row O6.le O7.row O7.le).mono ?_
    rintro _ w43 ⟨rfl, e44⟩
    have O4 := O4.ext e44
    have O5 := O5.ext e44
    have O6 := O6.ext e44
    have O7 := O7.ext e44
    have hB := ethen hB e44
    refine ⟨r40, rfl, ?_⟩
    refine ⟨_, _, _, (O4.at 0 rfl rfl), ?_⟩
    refine ⟨_, _, _, (O4.at 1 rfl rfl), ?_⟩
    refine ⟨_, _, _, (O4.at 2 rfl rfl), ?_⟩
    refine ⟨_, (O4.at 3 rfl rfl), ?_⟩
    refine ⟨_, (O4.at 4 rfl rfl), ?_⟩
    obtain ⟨hp47, H⟩ := H
    obtain ⟨r45, hr46⟩ : ∃ r_, r_ = M.laws_toBlock s0 := ⟨_, rfl⟩
    have H := H r45 hr46
    refine (laws_toBlock.con hp47 hr46 (R0_0.ext hB) hc0_0 (R0_1.ext hB) hc0_1 (R0_2.ext hB) hc0_2).mono ?_
    rintro _ w48 ⟨A50, c51, A52, c53, F56, A54, c55, rfl, P8, P9, P10, N9_10, e49⟩
    have N8_4 := P8.apart_old O4.lt
    have N5_8 := Own.apart2_new O5 P8 (Nat.le_refl _)
    have N6_8 := O6.dis_new P8 (Nat.le_refl _)
    have N7_8 := Own.apart2_new O7 P8 (Nat.le_refl _)
    have N9_4 := P9.new_disbox O4 (Nat.le_refl _)
    have N9_5 := P9.new_dis O5 (Nat.le_refl _)
    have N6_9 := O6.dis_neww P9 (Nat.le_refl _)
    have N9_7 := P9.new_dis O7 (Nat.le_refl _)
    have N10_4 := P10.apart_old O4.lt
    have N5_10 := Own.apart2_new O5 P10 (Nat.le_refl _)
    have N6_10 := O6.dis_new P10 (Nat.le_refl _)
    have N7_10 := Own.apart2_new O7 P10 (Nat.le_refl _)
    have O4 := O4.ext e49
    have O5 := O5.ext e49
    have O6 := O6.ext e49
    have O7 := O7.ext e49
    have O8 := P8.mono hB.size
    have O9 := P9.mono hB.size
    have O10 := P10.mono hB.size
    have hB := ethen hB e49
    refine ⟨A50, r45.Code.length, c51, trivial, ?_⟩
    refine ⟨A52, r45.Warps.length, c53, trivial, ?_⟩
    refine ⟨A54, r45.Memory.length, c55, trivial, ?_⟩
    refine ⟨r45.Waiting, trivial, ?_⟩
    refine ⟨r45.Phase, trivial, ?_⟩
    refine ⟨rfl, ?_⟩
    refine newBlk (fun g11_ w57 L11 P11 e58 => ?_)
    have N4_11 := O4.ne L11
    have N5_11 := O5.apart_new L11
    have N6_11 := O6.dis_newbox L11
    have N7_11 := O7.apart_new L11
    have N8_11 := O8.apart_new L11
    have N9_11 := O9.dis_newbox L11
    have N10_11 := O10.apart_new L11
    have O4 := O4.ext e58
    have O5 := O5.ext e58
    have O6 := O6.ext e58
    have O7 := O7.ext e58
    have O8 := O8.ext e58
    have O9 := O9.ext e58
    have O10 := O10.ext e58
    have O11 := P11
    have L11 := Nat.le_trans hB.size L11
    have hB := ethen hB e58
    refine stBlk O11 (o := 0) (cs' := #[(.slice A50 r45.Code.length c51), (.slice A52 r45.Warps.length c53), (.slice A54 r45.Memory.length c55), (.int .i64 r45.Waiting), (.int .i64 r45.Phase)]) rfl rfl (Nat.le_of_ble_eq_true rfl) rfl (fun w59 P11 e60 => ?_)
    have O4_ := O4.chg e60 N4_11
    have O5_ := O5.chg e60 N5_11
    have O6_ := O6.chg e60 N6_11
    have O7_ := O7.chg e60 N7_11
    have O8_ := O8.chg e60 N8_11
    have O9_ := O9.chg e60 N9_11
    have O10_ := O10.chg e60 N10_11
    have O4 := O4_
    have O5 := O5_
    have O6 := O6_
    have O7 := O7_
    have O8 := O8_
    have O9 := O9_
    have O10 := O10_
    have hB := echg hB e60 L11
    have O11 := P11
    refine ⟨_, _, _, (O11.at 0 rfl rfl), ?_⟩
    refine ⟨_, _, _, (O11.at 1 rfl rfl), ?_⟩
    refine ⟨_, _, _, (O11.at 2 rfl rfl), ?_⟩
    refine ⟨_, (O11.at 3 rfl rfl), ?_⟩
    refine ⟨_, (O11.at 4 rfl rfl), ?_⟩
    obtain ⟨hp63, H⟩ := H
    obtain ⟨r61, hr62⟩ : ∃ r_, r_ = M.impl_CanStep r45 x1 := ⟨_, rfl⟩
    have H := H r61 hr62
    refine (impl_CanStep.con hp63 hr62 O8.row O8.le O9.row O9.le O10.row O10.le).mono ?_
    rintro _ w64 ⟨rfl, e65⟩
    have O4 := O4.ext e65
    have O5 := O5.ext e65
    have O6 := O6.ext e65
    have O7 := O7.ext e65
    have O8 := O8.ext e65
    have O9 := O9.ext e65
    have O10 := O10.ext e65
    have O11 := O11.ext e65
    have hB := ethen hB e65
    refine ⟨r61, rfl, ?_⟩
    refine bcase_mk (fun hc85 => ?_) (fun hc85 => ?_)
    · have H := (bcase_iff.1 H).1 hc85
      obtain rfl := hr.trans H.symm
      exact ⟨rfl, hB⟩
    · have H := (bcase_iff.1 H).2 hc85
      refine ⟨(fun _ => False), ?_⟩
      refine ⟨_, _, _, ⟨(fun h_ => h_), (O11.at 0 rfl rfl)⟩, ?_⟩
      refine ⟨_, _, _, ⟨(fun h_ => h_), (O11.at 1 rfl rfl)⟩, ?_⟩
      refine ⟨_, _, _, ⟨(fun h_ => h_), (O11.at 2 rfl rfl)⟩, ?_⟩
      refine ⟨_, ⟨(fun h_ => h_), (O11.at 3 rfl rfl)⟩, ?_⟩
      refine ⟨_, ⟨(fun h_ => h_), (O11.at 4 rfl rfl)⟩, ?_⟩
      refine ⟨_, _, _, ⟨(fun h_ => h_), (O4.at 0 rfl rfl)⟩, ?_⟩
      refine ⟨_, _, _, ⟨(fun h_ => h_), (O4.at 1 rfl rfl)⟩, ?_⟩
      refine ⟨_, _, _, ⟨(fun h_ => h_), (O4.at 2 rfl rfl)⟩, ?_⟩
      refine ⟨_, ⟨(fun h_ => h_), (O4.at 3 rfl rfl)⟩, ?_⟩
      refine ⟨_, ⟨(fun h_ => h_), (O4.at 4 rfl rfl)⟩, ?_⟩
      have hS66 := Chg.refl (fun _ => False) w64
      have O4 := O4.ext (Ext.drew _)
      have O5 := O5.ext (Ext.drew _)
      have O6 := O6.ext (Ext.drew _)
      have O7 := O7.ext (Ext.drew _)
      have O8 := O8.ext (Ext.drew _)
      have O9 := O9.ext (Ext.drew _)
      have O10 := O10.ext (Ext.drew _)
      have O11 := O11.ext (Ext.drew _)
      have hB := ethen hB (Ext.drew _)
      have hS66 := hS66.then (Ext.drew _)
      obtain ⟨hp69, H⟩ := H
      obtain ⟨r67, hr68⟩ : ∃ r_, r_ = M.laws_toBlock s0 := ⟨_, rfl⟩
      have H := H r67 hr68
      refine (laws_toBlock.con hp69 hr68 (R0_0.ext hB) hc0_0 (R0_1.ext hB) hc0_1 (R0_2.ext hB) hc0_2).mono ?_
      rintro _ w70 ⟨A72, c73, A74, c75, F78, A76, c77, rfl, P12, P13, P14, N13_14, e71⟩
      have N12_4 := P12.apart_old O4.lt
      have N5_12 := Own.apart2_new O5 P12 (Nat.le_refl _)
      have N6_12 := O6.dis_new P12 (Nat.le_refl _)
      have N7_12 := Own.apart2_new O7 P12 (Nat.le_refl _)
      have N8_12 := Own.apart2_new O8 P12 (Nat.le_refl _)
      have N9_12 := O9.dis_new P12 (Nat.le_refl _)
      have N10_12 := Own.apart2_new O10 P12 (Nat.le_refl _)
      have N12_11 := P12.apart_old O11.lt
      have N13_4 := P13.new_disbox O4 (Nat.le_refl _)
      have N13_5 := P13.new_dis O5 (Nat.le_refl _)
      have N6_13 := O6.dis_neww P13 (Nat.le_refl _)
      have N13_7 := P13.new_dis O7 (Nat.le_refl _)
      have N13_8 := P13.new_dis O8 (Nat.le_refl _)
      have N9_13 := O9.dis_neww P13 (Nat.le_refl _)
      have N13_10 := P13.new_dis O10 (Nat.le_refl _)
      have N13_11 := P13.new_disbox O11 (Nat.le_refl _)
      have N14_4 := P14.apart_old O4.lt
      have N5_14 := Own.apart2_new O5 P14 (Nat.le_refl _)
      have N6_14 := O6.dis_new P14 (Nat.le_refl _)
      have N7_14 := Own.apart2_new O7 P14 (Nat.le_refl _)
      have N8_14 := Own.apart2_new O8 P14 (Nat.le_refl _)
      have N9_14 := O9.dis_new P14 (Nat.le_refl _)
      have N10_14 := Own.apart2_new O10 P14 (Nat.le_refl _)
      have N14_11 := P14.apart_old O11.lt
      have O4 := O4.ext e71
      have O5 := O5.ext e71
      have O6 := O6.ext e71
      have O7 := O7.ext e71
      have O8 := O8.ext e71
      have O9 := O9.ext e71
      have O10 := O10.ext e71
      have O11 := O11.ext e71
      have LB12 := (P12.mono hS66.size).low
      have LB13 := (P13.mono hS66.size).lowW
      have LB14 := (P14.mono hS66.size).low
      have O12 := P12.mono hB.size
      have O13 := P13.mono hB.size
      have O14 := P14.mono hB.size
      have hB := ethen hB e71
      have hS66 := hS66.then e71
      refine ⟨A72, r67.Code.length, c73, trivial, ?_⟩
      refine ⟨A74, r67.Warps.length, c75, trivial, ?_⟩
      refine ⟨A76, r67.Memory.length, c77, trivial, ?_⟩
      refine ⟨r67.Waiting, trivial, ?_⟩
      refine ⟨r67.Phase, trivial, ?_⟩
      refine ⟨rfl, ?_⟩
      refine ⟨sameBut_chg hS66, ?_⟩
      obtain ⟨hp81, H⟩ := H
      obtain ⟨r79, hr80⟩ : ∃ r_, r_ = M.laws_eqBlock r45 r67 := ⟨_, rfl⟩
      have H := H r79 hr80
      refine (laws_eqBlock.con hp81 hr80 O8.row O8.le O9.row O9.le O10.row O10.le O12.row O12.le O13.row O13.le O14.row O14.le).mono ?_
      rintro _ w82 ⟨rfl, e83⟩
      have O4 := O4.ext e83
      have O5 := O5.ext e83
      have O6 := O6.ext e83
      have O7 := O7.ext e83
      have O8 := O8.ext e83
      have O9 := O9.ext e83
      have O10 := O10.ext e83
      have O11 := O11.ext e83
      have O12 := O12.ext e83
      have O13 := O13.ext e83
      have O14 := O14.ext e83
      have hB := ethen hB e83
      have hS66 := hS66.then e83
      refine ⟨r79, rfl, ?_⟩
      refine ⟨sameBut_chg hS66, ?_⟩
      refine bcase_mk (fun hc84 => ?_) (fun hc84 => ?_)
      · have H := (bcase_iff.1 H).1 hc84
        obtain rfl := hr.trans H.symm
        exact ⟨rfl, hB⟩
      · have H := (bcase_iff.1 H).2 hc84
        obtain rfl := hr.trans H.symm
        exact ⟨rfl, hB⟩

def spec_l32Pick.vc (A0_0 : Option Addr) (n0_0 : Nat) (c0_0 : Nat) (A0_1 : Option Addr) (n0_1 : Nat) (c0_1 : Nat) (A0_2 : Option Addr) (n0_2 : Nat) (c0_2 : Nat) (x0_3 : Int) (x0_4 : Int) (x1 : Int) (w : World) (K : Value → World → Prop) : Prop :=
  newK w (.cells #[(.slice A0_0 n0_0 c0_0), (.slice A0_1 n0_1 c0_1), (.slice A0_2 n0_2 c0_2), (.int .i64 x0_3), (.int .i64 x0_4)] 32) fun g21 w22 => ∃ (A23 : Option Addr) (n24 : Nat) (c25 : Nat), w22.cell? (((⟨g21, 0, none⟩ : Addr).add 1).add 0) = some (.slice A23 n24 c25) ∧ ((((n24 : Nat) : Int) : Int) ≠ 0 ∧ LoopT (σ := Int × Unit) (fun z26 w27 next28 => bcase (decide (z26.1 < ((n24 : Nat) : Int))) (((((n24 : Nat) : Int) : Int) ≠ 0 ∧ ∃ (A29 : Option Addr) (n30 : Nat) (c31 : Nat), w27.cell? ((⟨g21, 0, none⟩ : Addr).add 0) = some (.slice A29 n30 c31) ∧ ∃ (A32 : Option Addr) (n33 : Nat) (c34 : Nat), w27.cell? ((⟨g21, 0, none⟩ : Addr).add 1) = some (.slice A32 n33 c34) ∧ ∃ (A35 : Option Addr) (n36 : Nat) (c37 : Nat), w27.cell? ((⟨g21, 0, none⟩ : Addr).add 2) = some (.slice A35 n36 c37) ∧ ∃ (n38 : Int), w27.cell? ((⟨g21, 0, none⟩ : Addr).add 3) = some (.int .i64 n38) ∧ ∃ (n39 : Int), w27.cell? ((⟨g21, 0, none⟩ : Addr).add 4) = some (.int .i64 n39) ∧ Cll Try.prog 49 #[(.agg #[(.slice A29 n30 c31), (.slice A32 n33 c34), (.slice A35 n36 c37), (.int .i64 n38), (.int .i64 n39)]), (.int .i64 (Int.tmod (IntKind.wrap .i64 ((Int.tmod x1 ((n24 : Nat) : Int)) + z26.1)) ((n24 : Nat) : Int)))] w27 fun v40 w41 => (∃ (b42 : Bool), v40 = (.bool b42) ∧ bcase b42 (K (.int .i64 (Int.tmod (IntKind.wrap .i64 ((Int.tmod x1 ((n24 : Nat) : Int)) + z26.1)) ((n24 : Nat) : Int))) w41) (next28 ((IntKind.wrap .i64 (z26.1 + 1)), ()) w41)))) (K (.int .i64 (-1)) w27)) (0, ()) w22)

def spec_l32Pick.ann : Ann := (.seq .l (.seq .l (.seq .l (.seq (.seq .l (.one (.loop [(7, .int .i64)] (.seq (.seq .l (.two .l .l)) (.seq (.one (.seq .l (.seq .l (.two (.seq .l .l) .l)))) .l))))) (.seq .l .l)))))

theorem spec_l32Pick.vc_eq (A0_0 : Option Addr) (n0_0 : Nat) (c0_0 : Nat) (A0_1 : Option Addr) (n0_1 : Nat) (c0_1 : Nat) (A0_2 : Option Addr) (n0_2 : Nat) (c0_2 : Nat) (x0_3 : Int) (x0_4 : Int) (x1 : Int) (w : World) (K : Value → World → Prop) : vcF Try.prog Try.f55 spec_l32Pick.ann [(.agg #[(.slice A0_0 n0_0 c0_0), (.slice A0_1 n0_1 c0_1), (.slice A0_2 n0_2 c0_2), (.int .i64 x0_3), (.int .i64 x0_4)]), (.int .i64 x1)] K w = spec_l32Pick.vc A0_0 n0_0 c0_0 A0_1 n0_1 c0_1 A0_2 n0_2 c0_2 x0_3 x0_4 x1 w K := by kernel_rfl

theorem spec_l32Pick.start {A0_0 : Option Addr} {n0_0 : Nat} {c0_0 : Nat} {A0_1 : Option Addr} {n0_1 : Nat} {c0_1 : Nat} {A0_2 : Option Addr} {n0_2 : Nat} {c0_2 : Nat} {x0_3 : Int} {x0_4 : Int} {x1 : Int} {w : World} {K : Value → World → Prop} (h : spec_l32Pick.vc A0_0 n0_0 c0_0 A0_1 n0_1 c0_1 A0_2 n0_2 c0_2 x0_3 x0_4 x1 w K) : Cll Try.prog 55 #[(.agg #[(.slice A0_0 n0_0 c0_0), (.slice A0_1 n0_1 c0_1), (.slice A0_2 n0_2 c0_2), (.int .i64 x0_3), (.int .i64 x0_4)]), (.int .i64 x1)] w K :=
  vcF_sound mixed (fn := Try.f55) (by kernel_rfl) (by kernel_rfl) (an := spec_l32Pick.ann) (args := [(.agg #[(.slice A0_0 n0_0 c0_0), (.slice A0_1 n0_1 c0_1), (.slice A0_2 n0_2 c0_2), (.int .i64 x0_3), (.int .i64 x0_4)]), (.int .i64 x1)]) (by rw [spec_l32Pick.vc_eq]; exact h)

theorem spec_l32Pick.con {s0 : D.Block} {A0_0 : Option Addr} {c0_0 : Nat} {A0_1 : Option Addr} {c0_1 : Nat} {A0_2 : Option Addr} {c0_2 : Nat} {x1 : Int} {r : Int} {w : World} (hp : M.spec_l32Pick_pre s0 x1) (hr : r = M.spec_l32Pick s0 x1) (R0_0 : Row el76 w A0_0 s0.Code) (hc0_0 : s0.Code.length ≤ c0_0) (R0_1 : RowW 102 el132 el3 w A0_1 s0.Warps) (hc0_1 : s0.Warps.length ≤ c0_1) (R0_2 : Row el3 w A0_2 s0.Memory) (hc0_2 : s0.Memory.length ≤ c0_2) :
    Cll Try.prog 55 #[(.agg #[(.slice A0_0 s0.Code.length c0_0), (.slice A0_1 s0.Warps.length c0_1), (.slice A0_2 s0.Memory.length c0_2), (.int .i64 s0.Waiting), (.int .i64 s0.Phase)]), (.int .i64 x1)] w (fun v_ w_ => v_ = (.int .i64 r) ∧ Ext w w_) := by
  have H := wp.spec_l32Pick.math s0 x1 hp
  have hB := Ext.refl w
  refine spec_l32Pick.start ?_
  unfold spec_l32Pick.vc
  unfold wp.spec_l32Pick at H
  refine newBlk (fun g4_ w21 L4 P4 e22 => ?_)
  have O4 := P4
  have L4 := Nat.le_trans hB.size L4
  have hB := ethen hB e22
  refine ⟨_, _, _, (O4.at 1 rfl rfl), ?_⟩
  obtain ⟨hc23, H⟩ := H
  refine ⟨hc23, ?_⟩
  obtain ⟨J26, ⟨m43, hJ42⟩, hS27⟩ := H
  refine ⟨fun m_ z_ w_ => ∃ (i24 : Int), z_ = (i24, ()) ∧ J26 m_ (i24, ()) ∧ Ext w w_ ∧ Blk w_ g4_ 32 #[(.slice A0_0 s0.Code.length c0_0), (.slice A0_1 s0.Warps.length c0_1), (.slice A0_2 s0.Memory.length c0_2), (.int .i64 s0.Waiting), (.int .i64 s0.Phase)], ⟨m43, 0, rfl, hJ42, hB, O4⟩, ?_⟩
  rintro m25 _ w29 ⟨i24, rfl, hJ44, hB, O4⟩
  have H := hS27 m25 _ hJ44
  clear hS27 hJ44
  dsimp only at H ⊢
  refine bcase_mk (fun hc40 => ?_) (fun hc40 => ?_)
  · have H := (bcase_iff.1 H).1 hc40
    obtain ⟨hc30, H⟩ := H
    refine ⟨hc30, ?_⟩
    refine ⟨_, _, _, (O4.at 0 rfl rfl), ?_⟩
    refine ⟨_, _, _, (O4.at 1 rfl rfl), ?_⟩
    refine ⟨_, _, _, (O4.at 2 rfl rfl), ?_⟩
    refine ⟨_, (O4.at 3 rfl rfl), ?_⟩
    refine ⟨_, (O4.at 4 rfl rfl), ?_⟩
    obtain ⟨hp33, H⟩ := H
    obtain ⟨r31, hr32⟩ : ∃ r_, r_ = M.spec_l30Can s0 (Int.tmod (IntKind.wrap .i64 ((Int.tmod x1 ((s0.Warps.length : Nat) : Int)) + i24)) ((s0.Warps.length : Nat) : Int)) := ⟨_, rfl⟩
    have H := H r31 hr32
    refine (spec_l30Can.con hp33 hr32 (R0_0.ext hB) hc0_0 (R0_1.ext hB) hc0_1 (R0_2.ext hB) hc0_2).mono ?_
    rintro _ w34 ⟨rfl, e35⟩
    have O4 := O4.ext e35
    have hB := ethen hB e35
    refine ⟨r31, rfl, ?_⟩
    refine bcase_mk (fun hc39 => ?_) (fun hc39 => ?_)
    · have H := (bcase_iff.1 H).1 hc39
      obtain rfl := hr.trans H.symm
      exact ⟨rfl, hB⟩
    · have H := (bcase_iff.1 H).2 hc39
      obtain ⟨m36, hm37, hJ38⟩ := H
      exact ⟨m36, hm37, (IntKind.wrap .i64 (i24 + 1)), rfl, hJ38, hB, O4⟩
  · have H := (bcase_iff.1 H).2 hc40
    obtain rfl := hr.trans H.symm
    exact ⟨rfl, hB⟩

def spec_PickWarp.vc (A0_0 : Option Addr) (n0_0 : Nat) (c0_0 : Nat) (A0_1 : Option Addr) (n0_1 : Nat) (c0_1 : Nat) (A0_2 : Option Addr) (n0_2 : Nat) (c0_2 : Nat) (x0_3 : Int) (x0_4 : Int) (x1 : Int) (w : World) (K : Value → World → Prop) : Prop :=
  newK w (.cells #[(.slice A0_0 n0_0 c0_0), (.slice A0_1 n0_1 c0_1), (.slice A0_2 n0_2 c0_2), (.int .i64 x0_3), (.int .i64 x0_4)] 32) fun g21 w22 => ∃ (A23 : Option Addr) (n24 : Nat) (c25 : Nat), w22.cell? ((⟨g21, 0, none⟩ : Addr).add 0) = some (.slice A23 n24 c25) ∧ ∃ (A26 : Option Addr) (n27 : Nat) (c28 : Nat), w22.cell? ((⟨g21, 0, none⟩ : Addr).add 1) = some (.slice A26 n27 c28) ∧ ∃ (A29 : Option Addr) (n30 : Nat) (c31 : Nat), w22.cell? ((⟨g21, 0, none⟩ : Addr).add 2) = some (.slice A29 n30 c31) ∧ ∃ (n32 : Int), w22.cell? ((⟨g21, 0, none⟩ : Addr).add 3) = some (.int .i64 n32) ∧ ∃ (n33 : Int), w22.cell? ((⟨g21, 0, none⟩ : Addr).add 4) = some (.int .i64 n33) ∧ Cll Try.prog 54 #[(.agg #[(.slice A23 n24 c25), (.slice A26 n27 c28), (.slice A29 n30 c31), (.int .i64 n32), (.int .i64 n33)])] w22 fun v34 w35 => (∃ (b36 : Bool), v34 = (.bool b36) ∧ bcase (!b36) (K (.int .i64 (-1)) w35) (bcase (decide (x1 < 0)) (K (.int .i64 (-1)) w35) (∃ (A37 : Option Addr) (n38 : Nat) (c39 : Nat), w35.cell? ((⟨g21, 0, none⟩ : Addr).add 0) = some (.slice A37 n38 c39) ∧ ∃ (A40 : Option Addr) (n41 : Nat) (c42 : Nat), w35.cell? ((⟨g21, 0, none⟩ : Addr).add 1) = some (.slice A40 n41 c42) ∧ ∃ (A43 : Option Addr) (n44 : Nat) (c45 : Nat), w35.cell? ((⟨g21, 0, none⟩ : Addr).add 2) = some (.slice A43 n44 c45) ∧ ∃ (n46 : Int), w35.cell? ((⟨g21, 0, none⟩ : Addr).add 3) = some (.int .i64 n46) ∧ ∃ (n47 : Int), w35.cell? ((⟨g21, 0, none⟩ : Addr).add 4) = some (.int .i64 n47) ∧ Cll Try.prog 55 #[(.agg #[(.slice A37 n38 c39), (.slice A40 n41 c42), (.slice A43 n44 c45), (.int .i64 n46), (.int .i64 n47)]), (.int .i64 x1)] w35 fun v48 w49 => (∃ (n50 : Int), v48 = (.int .i64 n50) ∧ K (.int .i64 n50) w49))))

def spec_PickWarp.ann : Ann := (.seq .l (.seq (.seq .l (.two (.seq .l .l) .l)) (.seq .l .l)))

theorem spec_PickWarp.vc_eq (A0_0 : Option Addr) (n0_0 : Nat) (c0_0 : Nat) (A0_1 : Option Addr) (n0_1 : Nat) (c0_1 : Nat) (A0_2 : Option Addr) (n0_2 : Nat) (c0_2 : Nat) (x0_3 : Int) (x0_4 : Int) (x1 : Int) (w : World) (K : Value → World → Prop) : vcF Try.prog Try.f16 spec_PickWarp.ann [(.agg #[(.slice A0_0 n0_0 c0_0), (.slice A0_1 n0_1 c0_1), (.slice A0_2 n0_2 c0_2), (.int .i64 x0_3), (.int .i64 x0_4)]), (.int .i64 x1)] K w = spec_PickWarp.vc A0_0 n0_0 c0_0 A0_1 n0_1 c0_1 A0_2 n0_2 c0_2 x0_3 x0_4 x1 w K := by kernel_rfl

theorem spec_PickWarp.start {A0_0 : Option Addr} {n0_0 : Nat} {c0_0 : Nat} {A0_1 : Option Addr} {n0_1 : Nat} {c0_1 : Nat} {A0_2 : Option Addr} {n0_2 : Nat} {c0_2 : Nat} {x0_3 : Int} {x0_4 : Int} {x1 : Int} {w : World} {K : Value → World → Prop} (h : spec_PickWarp.vc A0_0 n0_0 c0_0 A0_1 n0_1 c0_1 A0_2 n0_2 c0_2 x0_3 x0_4 x1 w K) : Cll Try.prog 16 #[(.agg #[(.slice A0_0 n0_0 c0_0), (.slice A0_1 n0_1 c0_1), (.slice A0_2 n0_2 c0_2), (.int .i64 x0_3), (.int .i64 x0_4)]), (.int .i64 x1)] w K :=
  vcF_sound mixed (fn := Try.f16) (by kernel_rfl) (by kernel_rfl) (an := spec_PickWarp.ann) (args := [(.agg #[(.slice A0_0 n0_0 c0_0), (.slice A0_1 n0_1 c0_1), (.slice A0_2 n0_2 c0_2), (.int .i64 x0_3), (.int .i64 x0_4)]), (.int .i64 x1)]) (by rw [spec_PickWarp.vc_eq]; exact h)

theorem spec_PickWarp.con {s0 : D.Block} {A0_0 : Option Addr} {c0_0 : Nat} {A0_1 : Option Addr} {c0_1 : Nat} {A0_2 : Option Addr} {c0_2 : Nat} {x1 : Int} {r : Int} {w : World} (hp : M.spec_PickWarp_pre s0 x1) (hr : r = M.spec_PickWarp s0 x1) (R0_0 : Row el76 w A0_0 s0.Code) (hc0_0 : s0.Code.length ≤ c0_0) (R0_1 : RowW 102 el132 el3 w A0_1 s0.Warps) (hc0_1 : s0.Warps.length ≤ c0_1) (R0_2 : Row el3 w A0_2 s0.Memory) (hc0_2 : s0.Memory.length ≤ c0_2) :
    Cll Try.prog 16 #[(.agg #[(.slice A0_0 s0.Code.length c0_0), (.slice A0_1 s0.Warps.length c0_1), (.slice A0_2 s0.Memory.length c0_2), (.int .i64 s0.Waiting), (.int .i64 s0.Phase)]), (.int .i64 x1)] w (fun v_ w_ => v_ = (.int .i64 r) ∧ Ext w w_) := by
  have H := wp.spec_PickWarp.math s0 x1 hp
  have hB := Ext.refl w
  refine spec_PickWarp.start ?_
  unfold spec_PickWarp.vc
  unfold wp.spec_PickWarp at H
  refine newBlk (fun g4_ w21 L4 P4 e22 => ?_)
  have O4 := P4
  have L4 := Nat.le_trans hB.size L4
  have hB := ethen hB e22
  refine ⟨_, _, _, (O4.at 0 rfl rfl), ?_⟩
  refine ⟨_, _, _, (O4.at 1 rfl rfl), ?_⟩
  refine ⟨_, _, _, (O4.at 2 rfl rfl), ?_⟩
  refine ⟨_, (O4.at 3 rfl rfl), ?_⟩
  refine ⟨_, (O4.at 4 rfl rfl), ?_⟩
  obtain ⟨hp25, H⟩ := H
  obtain ⟨r23, hr24⟩ : ∃ r_, r_ = M.spec_BlockOk s0 := ⟨_, rfl⟩
  have H := H r23 hr24
  refine (spec_BlockOk.con hp25 hr24 (R0_0.ext hB) hc0_0 (R0_1.ext hB) hc0_1 (R0_2.ext hB) hc0_2).mono ?_
  rintro _ w26 ⟨rfl, e27⟩
  have O4 := O4.ext e27
  have hB := ethen hB e27
  refine ⟨r23, rfl, ?_⟩
  refine bcase_mk (fun hc34 => ?_) (fun hc34 => ?_)
  · have H := (bcase_iff.1 H).1 hc34
    obtain rfl := hr.trans H.symm
    exact ⟨rfl, hB⟩
  · have H := (bcase_iff.1 H).2 hc34
    refine bcase_mk (fun hc33 => ?_) (fun hc33 => ?_)
    · have H := (bcase_iff.1 H).1 hc33
      obtain rfl := hr.trans H.symm
      exact ⟨rfl, hB⟩
    · have H := (bcase_iff.1 H).2 hc33
      refine ⟨_, _, _, (O4.at 0 rfl rfl), ?_⟩
      refine ⟨_, _, _, (O4.at 1 rfl rfl), ?_⟩
      refine ⟨_, _, _, (O4.at 2 rfl rfl), ?_⟩
      refine ⟨_, (O4.at 3 rfl rfl), ?_⟩
      refine ⟨_, (O4.at 4 rfl rfl), ?_⟩
      obtain ⟨hp30, H⟩ := H
      obtain ⟨r28, hr29⟩ : ∃ r_, r_ = M.spec_l32Pick s0 x1 := ⟨_, rfl⟩
      have H := H r28 hr29
      refine (spec_l32Pick.con hp30 hr29 (R0_0.ext hB) hc0_0 (R0_1.ext hB) hc0_1 (R0_2.ext hB) hc0_2).mono ?_
      rintro _ w31 ⟨rfl, e32⟩
      have O4 := O4.ext e32
      have hB := ethen hB e32
      refine ⟨r28, rfl, ?_⟩
      obtain rfl := hr.trans H.symm
      exact ⟨rfl, hB⟩

def impl_Block_pickWarp.vc (A0_0 : Option Addr) (n0_0 : Nat) (c0_0 : Nat) (A0_1 : Option Addr) (n0_1 : Nat) (c0_1 : Nat) (A0_2 : Option Addr) (n0_2 : Nat) (c0_2 : Nat) (x0_3 : Int) (x0_4 : Int) (x1 : Int) (w : World) (K : Value → World → Prop) : Prop :=
  newK w (.cells #[(.slice A0_0 n0_0 c0_0), (.slice A0_1 n0_1 c0_1), (.slice A0_2 n0_2 c0_2), (.int .i64 x0_3), (.int .i64 x0_4)] 32) fun g21 w22 => ∃ (A23 : Option Addr) (n24 : Nat) (c25 : Nat), w22.cell? (((⟨g21, 0, none⟩ : Addr).add 1).add 0) = some (.slice A23 n24 c25) ∧ LoopT (σ := Int × Unit) (fun z26 w27 next28 => bcase (decide (z26.1 < ((n24 : Nat) : Int))) (((((n24 : Nat) : Int) : Int) ≠ 0 ∧ ((((n24 : Nat) : Int) : Int) ≠ 0 ∧ ∃ (A29 : Option Addr) (n30 : Nat) (c31 : Nat), w27.cell? ((⟨g21, 0, none⟩ : Addr).add 0) = some (.slice A29 n30 c31) ∧ ∃ (A32 : Option Addr) (n33 : Nat) (c34 : Nat), w27.cell? ((⟨g21, 0, none⟩ : Addr).add 1) = some (.slice A32 n33 c34) ∧ ∃ (A35 : Option Addr) (n36 : Nat) (c37 : Nat), w27.cell? ((⟨g21, 0, none⟩ : Addr).add 2) = some (.slice A35 n36 c37) ∧ ∃ (n38 : Int), w27.cell? ((⟨g21, 0, none⟩ : Addr).add 3) = some (.int .i64 n38) ∧ ∃ (n39 : Int), w27.cell? ((⟨g21, 0, none⟩ : Addr).add 4) = some (.int .i64 n39) ∧ Cll Try.prog 52 #[(.agg #[(.slice A29 n30 c31), (.slice A32 n33 c34), (.slice A35 n36 c37), (.int .i64 n38), (.int .i64 n39)]), (.int .i64 (Int.tmod (IntKind.wrap .i64 ((Int.tmod x1 ((n24 : Nat) : Int)) + z26.1)) ((n24 : Nat) : Int)))] w27 fun v40 w41 => (∃ (b42 : Bool), v40 = (.bool b42) ∧ bcase b42 (K (.int .i64 (Int.tmod (IntKind.wrap .i64 ((Int.tmod x1 ((n24 : Nat) : Int)) + z26.1)) ((n24 : Nat) : Int))) w41) (next28 ((IntKind.wrap .i64 (z26.1 + 1)), ()) w41))))) (K (.int .i64 (-1)) w27)) (0, ()) w22

def impl_Block_pickWarp.ann : Ann := (.seq .l (.seq .l (.seq (.seq .l (.one (.loop [(12, .int .i64)] (.seq .l (.seq (.two .l .l) (.seq (.one (.seq .l (.seq .l (.seq .l (.two (.seq .l .l) .l))))) .l)))))) (.seq .l .l))))

theorem impl_Block_pickWarp.vc_eq (A0_0 : Option Addr) (n0_0 : Nat) (c0_0 : Nat) (A0_1 : Option Addr) (n0_1 : Nat) (c0_1 : Nat) (A0_2 : Option Addr) (n0_2 : Nat) (c0_2 : Nat) (x0_3 : Int) (x0_4 : Int) (x1 : Int) (w : World) (K : Value → World → Prop) : vcF Try.prog Try.f57 impl_Block_pickWarp.ann [(.agg #[(.slice A0_0 n0_0 c0_0), (.slice A0_1 n0_1 c0_1), (.slice A0_2 n0_2 c0_2), (.int .i64 x0_3), (.int .i64 x0_4)]), (.int .i64 x1)] K w = impl_Block_pickWarp.vc A0_0 n0_0 c0_0 A0_1 n0_1 c0_1 A0_2 n0_2 c0_2 x0_3 x0_4 x1 w K := by kernel_rfl

theorem impl_Block_pickWarp.start {A0_0 : Option Addr} {n0_0 : Nat} {c0_0 : Nat} {A0_1 : Option Addr} {n0_1 : Nat} {c0_1 : Nat} {A0_2 : Option Addr} {n0_2 : Nat} {c0_2 : Nat} {x0_3 : Int} {x0_4 : Int} {x1 : Int} {w : World} {K : Value → World → Prop} (h : impl_Block_pickWarp.vc A0_0 n0_0 c0_0 A0_1 n0_1 c0_1 A0_2 n0_2 c0_2 x0_3 x0_4 x1 w K) : Cll Try.prog 57 #[(.agg #[(.slice A0_0 n0_0 c0_0), (.slice A0_1 n0_1 c0_1), (.slice A0_2 n0_2 c0_2), (.int .i64 x0_3), (.int .i64 x0_4)]), (.int .i64 x1)] w K :=
  vcF_sound mixed (fn := Try.f57) (by kernel_rfl) (by kernel_rfl) (an := impl_Block_pickWarp.ann) (args := [(.agg #[(.slice A0_0 n0_0 c0_0), (.slice A0_1 n0_1 c0_1), (.slice A0_2 n0_2 c0_2), (.int .i64 x0_3), (.int .i64 x0_4)]), (.int .i64 x1)]) (by rw [impl_Block_pickWarp.vc_eq]; exact h)

theorem impl_Block_pickWarp.con {s0 : D.Block} {A0_0 : Option Addr} {c0_0 : Nat} {A0_1 : Option Addr} {c0_1 : Nat} {A0_2 : Option Addr} {c0_2 : Nat} {x1 : Int} {r : Int} {w : World} (hp : M.impl_Block_pickWarp_pre s0 x1) (hr : r = M.impl_Block_pickWarp s0 x1) (R0_0 : Row el76 w A0_0 s0.Code) (hc0_0 : s0.Code.length ≤ c0_0) (R0_1 : RowW 102 el132 el3 w A0_1 s0.Warps) (hc0_1 : s0.Warps.length ≤ c0_1) (R0_2 : Row el3 w A0_2 s0.Memory) (hc0_2 : s0.Memory.length ≤ c0_2) :
    Cll Try.prog 57 #[(.agg #[(.slice A0_0 s0.Code.length c0_0), (.slice A0_1 s0.Warps.length c0_1), (.slice A0_2 s0.Memory.length c0_2), (.int .i64 s0.Waiting), (.int .i64 s0.Phase)]), (.int .i64 x1)] w (fun v_ w_ => v_ = (.int .i64 r) ∧ Ext w w_) := by
  have H := wp.impl_Block_pickWarp.math s0 x1 hp
  have hB := Ext.refl w
  refine impl_Block_pickWarp.start ?_
  unfold impl_Block_pickWarp.vc
  unfold wp.impl_Block_pickWarp at H
  refine newBlk (fun g4_ w21 L4 P4 e22 => ?_)
  have O4 := P4
  have L4 := Nat.le_trans hB.size L4
  have hB := ethen hB e22
  refine ⟨_, _, _, (O4.at 1 rfl rfl), ?_⟩
  obtain ⟨J25, ⟨m43, hJ42⟩, hS26⟩ := H
  refine ⟨fun m_ z_ w_ => ∃ (i23 : Int), z_ = (i23, ()) ∧ J25 m_ (i23, ()) ∧ Ext w w_ ∧ Blk w_ g4_ 32 #[(.slice A0_0 s0.Code.length c0_0), (.slice A0_1 s0.Warps.length c0_1), (.slice A0_2 s0.Memory.length c0_2), (.int .i64 s0.Waiting), (.int .i64 s0.Phase)], ⟨m43, 0, rfl, hJ42, hB, O4⟩, ?_⟩
  rintro m24 _ w28 ⟨i23, rfl, hJ44, hB, O4⟩
  have H := hS26 m24 _ hJ44
  clear hS26 hJ44
  dsimp only at H ⊢
  refine bcase_mk (fun hc40 => ?_) (fun hc40 => ?_)
  · have H := (bcase_iff.1 H).1 hc40
    obtain ⟨hc29, H⟩ := H
    refine ⟨hc29, ?_⟩
    obtain ⟨hc30, H⟩ := H
    refine ⟨hc30, ?_⟩
    refine ⟨_, _, _, (O4.at 0 rfl rfl), ?_⟩
    refine ⟨_, _, _, (O4.at 1 rfl rfl), ?_⟩
    refine ⟨_, _, _, (O4.at 2 rfl rfl), ?_⟩
    refine ⟨_, (O4.at 3 rfl rfl), ?_⟩
    refine ⟨_, (O4.at 4 rfl rfl), ?_⟩
    obtain ⟨hp33, H⟩ := H
    obtain ⟨r31, hr32⟩ : ∃ r_, r_ = M.impl_Block_canStep s0 (Int.tmod (IntKind.wrap .i64 ((Int.tmod x1 ((s0.Warps.length : Nat) : Int)) + i23)) ((s0.Warps.length : Nat) : Int)) := ⟨_, rfl⟩
    have H := H r31 hr32
    refine (impl_Block_canStep.con hp33 hr32 (R0_0.ext hB) hc0_0 (R0_1.ext hB) hc0_1 (R0_2.ext hB) hc0_2).mono ?_
    rintro _ w34 ⟨rfl, e35⟩
    have O4 := O4.ext e35
    have hB := ethen hB e35
    refine ⟨r31, rfl, ?_⟩
    refine bcase_mk (fun hc39 => ?_) (fun hc39 => ?_)
    · have H := (bcase_iff.1 H).1 hc39
      obtain rfl := hr.trans H.symm
      exact ⟨rfl, hB⟩
    · have H := (bcase_iff.1 H).2 hc39
      obtain ⟨m36, hm37, hJ38⟩ := H
      exact ⟨m36, hm37, (IntKind.wrap .i64 (i23 + 1)), rfl, hJ38, hB, O4⟩
  · have H := (bcase_iff.1 H).2 hc40
    obtain rfl := hr.trans H.symm
    exact ⟨rfl, hB⟩

def impl_PickWarp.vc (A0_0 : Option Addr) (n0_0 : Nat) (c0_0 : Nat) (A0_1 : Option Addr) (n0_1 : Nat) (c0_1 : Nat) (A0_2 : Option Addr) (n0_2 : Nat) (c0_2 : Nat) (x0_3 : Int) (x0_4 : Int) (x1 : Int) (w : World) (K : Value → World → Prop) : Prop :=
  newK w (.cells #[(.slice A0_0 n0_0 c0_0), (.slice A0_1 n0_1 c0_1), (.slice A0_2 n0_2 c0_2), (.int .i64 x0_3), (.int .i64 x0_4)] 32) fun g21 w22 => bcase (decide (x1 < 0)) (K (.int .i64 (-1)) w22) (∃ (A23 : Option Addr) (n24 : Nat) (c25 : Nat), w22.cell? ((⟨g21, 0, none⟩ : Addr).add 0) = some (.slice A23 n24 c25) ∧ ∃ (A26 : Option Addr) (n27 : Nat) (c28 : Nat), w22.cell? ((⟨g21, 0, none⟩ : Addr).add 1) = some (.slice A26 n27 c28) ∧ ∃ (A29 : Option Addr) (n30 : Nat) (c31 : Nat), w22.cell? ((⟨g21, 0, none⟩ : Addr).add 2) = some (.slice A29 n30 c31) ∧ ∃ (n32 : Int), w22.cell? ((⟨g21, 0, none⟩ : Addr).add 3) = some (.int .i64 n32) ∧ ∃ (n33 : Int), w22.cell? ((⟨g21, 0, none⟩ : Addr).add 4) = some (.int .i64 n33) ∧ Cll Try.prog 56 #[(.agg #[(.slice A23 n24 c25), (.slice A26 n27 c28), (.slice A29 n30 c31), (.int .i64 n32), (.int .i64 n33)])] w22 fun v34 w35 => (∃ (b36 : Bool), v34 = (.bool b36) ∧ bcase (!b36) (K (.int .i64 (-1)) w35) (∃ (A37 : Option Addr) (n38 : Nat) (c39 : Nat), w35.cell? ((⟨g21, 0, none⟩ : Addr).add 0) = some (.slice A37 n38 c39) ∧ ∃ (A40 : Option Addr) (n41 : Nat) (c42 : Nat), w35.cell? ((⟨g21, 0, none⟩ : Addr).add 1) = some (.slice A40 n41 c42) ∧ ∃ (A43 : Option Addr) (n44 : Nat) (c45 : Nat), w35.cell? ((⟨g21, 0, none⟩ : Addr).add 2) = some (.slice A43 n44 c45) ∧ ∃ (n46 : Int), w35.cell? ((⟨g21, 0, none⟩ : Addr).add 3) = some (.int .i64 n46) ∧ ∃ (n47 : Int), w35.cell? ((⟨g21, 0, none⟩ : Addr).add 4) = some (.int .i64 n47) ∧ Cll Try.prog 57 #[(.agg #[(.slice A37 n38 c39), (.slice A40 n41 c42), (.slice A43 n44 c45), (.int .i64 n46), (.int .i64 n47)]), (.int .i64 x1)] w35 fun v48 w49 => (∃ (n50 : Int), v48 = (.int .i64 n50) ∧ K (.int .i64 n50) w49))))

def impl_PickWarp.ann : Ann := (.seq .l (.seq (.seq .l (.two (.seq .l .l) .l)) (.seq .l .l)))

theorem impl_PickWarp.vc_eq (A0_0 : Option Addr) (n0_0 : Nat) (c0_0 : Nat) (A0_1 : Option Addr) (n0_1 : Nat) (c0_1 : Nat) (A0_2 : Option Addr) (n0_2 : Nat) (c0_2 : Nat) (x0_3 : Int) (x0_4 : Int) (x1 : Int) (w : World) (K : Value → World → Prop) : vcF Try.prog Try.f17 impl_PickWarp.ann [(.agg #[(.slice A0_0 n0_0 c0_0), (.slice A0_1 n0_1 c0_1), (.slice A0_2 n0_2 c0_2), (.int .i64 x0_3), (.int .i64 x0_4)]), (.int .i64 x1)] K w = impl_PickWarp.vc A0_0 n0_0 c0_0 A0_1 n0_1 c0_1 A0_2 n0_2 c0_2 x0_3 x0_4 x1 w K := by kernel_rfl

theorem impl_PickWarp.start {A0_0 : Option Addr} {n0_0 : Nat} {c0_0 : Nat} {A0_1 : Option Addr} {n0_1 : Nat} {c0_1 : Nat} {A0_2 : Option Addr} {n0_2 : Nat} {c0_2 : Nat} {x0_3 : Int} {x0_4 : Int} {x1 : Int} {w : World} {K : Value → World → Prop} (h : impl_PickWarp.vc A0_0 n0_0 c0_0 A0_1 n0_1 c0_1 A0_2 n0_2 c0_2 x0_3 x0_4 x1 w K) : Cll Try.prog 17 #[(.agg #[(.slice A0_0 n0_0 c0_0), (.slice A0_1 n0_1 c0_1), (.slice A0_2 n0_2 c0_2), (.int .i64 x0_3), (.int .i64 x0_4)]), (.int .i64 x1)] w K :=
  vcF_sound mixed (fn := Try.f17) (by kernel_rfl) (by kernel_rfl) (an := impl_PickWarp.ann) (args := [(.agg #[(.slice A0_0 n0_0 c0_0), (.slice A0_1 n0_1 c0_1), (.slice A0_2 n0_2 c0_2), (.int .i64 x0_3), (.int .i64 x0_4)]), (.int .i64 x1)]) (by rw [impl_PickWarp.vc_eq]; exact h)

theorem impl_PickWarp.con {s0 : D.Block} {A0_0 : Option Addr} {c0_0 : Nat} {A0_1 : Option Addr} {c0_1 : Nat} {A0_2 : Option Addr} {c0_2 : Nat} {x1 : Int} {r : Int} {w : World} (hp : M.impl_PickWarp_pre s0 x1) (hr : r = M.impl_PickWarp s0 x1) (R0_0 : Row el76 w A0_0 s0.Code) (hc0_0 : s0.Code.length ≤ c0_0) (R0_1 : RowW 102 el132 el3 w A0_1 s0.Warps) (hc0_1 : s0.Warps.length ≤ c0_1) (R0_2 : Row el3 w A0_2 s0.Memory) (hc0_2 : s0.Memory.length ≤ c0_2) :
    Cll Try.prog 17 #[(.agg #[(.slice A0_0 s0.Code.length c0_0), (.slice A0_1 s0.Warps.length c0_1), (.slice A0_2 s0.Memory.length c0_2), (.int .i64 s0.Waiting), (.int .i64 s0.Phase)]), (.int .i64 x1)] w (fun v_ w_ => v_ = (.int .i64 r) ∧ Ext w w_) := by
  have H := wp.impl_PickWarp.math s0 x1 hp
  have hB := Ext.refl w
  refine impl_PickWarp.start ?_
  unfold impl_PickWarp.vc
  unfold wp.impl_PickWarp at H
  refine newBlk (fun g4_ w21 L4 P4 e22 => ?_)
  have O4 := P4
  have L4 := Nat.le_trans hB.size L4
  have hB := ethen hB e22
  refine bcase_mk (fun hc34 => ?_) (fun hc34 => ?_)
  · have H := (bcase_iff.1 H).1 hc34
    obtain rfl := hr.trans H.symm
    exact ⟨rfl, hB⟩
  · have H := (bcase_iff.1 H).2 hc34
    refine ⟨_, _, _, (O4.at 0 rfl rfl), ?_⟩
    refine ⟨_, _, _, (O4.at 1 rfl rfl), ?_⟩
    refine ⟨_, _, _, (O4.at 2 rfl rfl), ?_⟩
    refine ⟨_, (O4.at 3 rfl rfl), ?_⟩
    refine ⟨_, (O4.at 4 rfl rfl), ?_⟩
    obtain ⟨hp25, H⟩ := H
    obtain ⟨r23, hr24⟩ : ∃ r_, r_ = M.impl_BlockOk s0 := ⟨_, rfl⟩
    have H := H r23 hr24
    refine (impl_BlockOk.con hp25 hr24 (R0_0.ext hB) hc0_0 (R0_1.ext hB) hc0_1 (R0_2.ext hB) hc0_2).mono ?_
    rintro _ w26 ⟨rfl, e27⟩
    have O4 := O4.ext e27
    have hB := ethen hB e27
    refine ⟨r23, rfl, ?_⟩
    refine bcase_mk (fun hc33 => ?_) (fun hc33 => ?_)
    · have H := (bcase_iff.1 H).1 hc33
      obtain rfl := hr.trans H.symm
      exact ⟨rfl, hB⟩
    · have H := (bcase_iff.1 H).2 hc33
      refine ⟨_, _, _, (O4.at 0 rfl rfl), ?_⟩
      refine ⟨_, _, _, (O4.at 1 rfl rfl), ?_⟩
      refine ⟨_, _, _, (O4.at 2 rfl rfl), ?_⟩
      refine ⟨_, (O4.at 3 rfl rfl), ?_⟩
      refine ⟨_, (O4.at 4 rfl rfl), ?_⟩
      obtain ⟨hp30, H⟩ := H
      obtain ⟨r28, hr29⟩ : ∃ r_, r_ = M.impl_Block_pickWarp s0 x1 := ⟨_, rfl⟩
      have H := H r28 hr29
      refine (impl_Block_pickWarp.con hp30 hr29 (R0_0.ext hB) hc0_0 (R0_1.ext hB) hc0_1 (R0_2.ext hB) hc0_2).mono ?_
      rintro _ w31 ⟨rfl, e32⟩
      have O4 := O4.ext e32
      have hB := ethen hB e32
      refine ⟨r28, rfl, ?_⟩
      obtain rfl := hr.trans H.symm
      exact ⟨rfl, hB⟩

def laws_FnExactPickWarp.vc (A0_0 : Option Addr) (n0_0 : Nat) (c0_0 : Nat) (A0_1 : Option Addr) (n0_1 : Nat) (c0_1 : Nat) (A0_2 : Option Addr) (n0_2 : Nat) (c0_2 : Nat) (x0_3 : Int) (x0_4 : Int) (x1 : Int) (w : World) (K : Value → World → Prop) : Prop :=
  newK w (.cells #[(.slice A0_0 n0_0 c0_0), (.slice A0_1 n0_1 c0_1), (.slice A0_2 n0_2 c0_2), (.int .i64 x0_3), (.int .i64 x0_4)] 26) fun g21 w22 => ∃ (A23 : Option Addr) (n24 : Nat) (c25 : Nat), w22.cell? ((⟨g21, 0, none⟩ : Addr).add 0) = some (.slice A23 n24 c25) ∧ ∃ (A26 : Option Addr) (n27 : Nat) (c28 : Nat), w22.cell? ((⟨g21, 0, none⟩ : Addr).add 1) = some (.slice A26 n27 c28) ∧ ∃ (A29 : Option Addr) (n30 : Nat) (c31 : Nat), w22.cell? ((⟨g21, 0, none⟩ : Addr).add 2) = some (.slice A29 n30 c31) ∧ ∃ (n32 : Int), w22.cell? ((⟨g21, 0, none⟩ : Addr).add 3) = some (.int .i64 n32) ∧ ∃ (n33 : Int), w22.cell? ((⟨g21, 0, none⟩ : Addr).add 4) = some (.int .i64 n33) ∧ Cll Try.prog 11 #[(.agg #[(.slice A23 n24 c25), (.slice A26 n27 c28), (.slice A29 n30 c31), (.int .i64 n32), (.int .i64 n33)]), (.int .i64 1048576)] w22 fun v34 w35 => (∃ (n36 : Int), v34 = (.int .i64 n36) ∧ bcase (decide (n36 < 0)) (K (.bool true) w35) (∃ (A37 : Option Addr) (n38 : Nat) (c39 : Nat), w35.cell? ((⟨g21, 0, none⟩ : Addr).add 0) = some (.slice A37 n38 c39) ∧ ∃ (A40 : Option Addr) (n41 : Nat) (c42 : Nat), w35.cell? ((⟨g21, 0, none⟩ : Addr).add 1) = some (.slice A40 n41 c42) ∧ ∃ (A43 : Option Addr) (n44 : Nat) (c45 : Nat), w35.cell? ((⟨g21, 0, none⟩ : Addr).add 2) = some (.slice A43 n44 c45) ∧ ∃ (n46 : Int), w35.cell? ((⟨g21, 0, none⟩ : Addr).add 3) = some (.int .i64 n46) ∧ ∃ (n47 : Int), w35.cell? ((⟨g21, 0, none⟩ : Addr).add 4) = some (.int .i64 n47) ∧ Cll Try.prog 13 #[(.agg #[(.slice A37 n38 c39), (.slice A40 n41 c42), (.slice A43 n44 c45), (.int .i64 n46), (.int .i64 n47)])] w35 fun v48 w49 => (∃ (A50 : Option Addr) (n51 : Nat) (c52 : Nat), True ∧ ∃ (A53 : Option Addr) (n54 : Nat) (c55 : Nat), True ∧ ∃ (A56 : Option Addr) (n57 : Nat) (c58 : Nat), True ∧ ∃ (n59 : Int), True ∧ ∃ (n60 : Int), True ∧ v48 = (.agg #[(.slice A50 n51 c52), (.slice A53 n54 c55), (.slice A56 n57 c58), (.int .i64 n59), (.int .i64 n60)]) ∧ Cll Try.prog 16 #[(.agg #[(.slice A50 n51 c52), (.slice A53 n54 c55), (.slice A56 n57 c58), (.int .i64 n59), (.int .i64 n60)]), (.int .i64 x1)] w49 fun v61 w62 => (∃ (n63 : Int), v61 = (.int .i64 n63) ∧ ∃ (A64 : Option Addr) (n65 : Nat) (c66 : Nat), w62.cell? ((⟨g21, 0, none⟩ : Addr).add 0) = some (.slice A64 n65 c66) ∧ ∃ (A67 : Option Addr) (n68 : Nat) (c69 : Nat), w62.cell? ((⟨g21, 0, none⟩ : Addr).add 1) = some (.slice A67 n68 c69) ∧ ∃ (A70 : Option Addr) (n71 : Nat) (c72 : Nat), w62.cell? ((⟨g21, 0, none⟩ : Addr).add 2) = some (.slice A70 n71 c72) ∧ ∃ (n73 : Int), w62.cell? ((⟨g21, 0, none⟩ : Addr).add 3) = some (.int .i64 n73) ∧ ∃ (n74 : Int), w62.cell? ((⟨g21, 0, none⟩ : Addr).add 4) = some (.int .i64 n74) ∧ Cll Try.prog 13 #[(.agg #[(.slice A64 n65 c66), (.slice A67 n68 c69), (.slice A70 n71 c72), (.int .i64 n73), (.int .i64 n74)])] w62 fun v75 w76 => (∃ (A77 : Option Addr) (n78 : Nat) (c79 : Nat), True ∧ ∃ (A80 : Option Addr) (n81 : Nat) (c82 : Nat), True ∧ ∃ (A83 : Option Addr) (n84 : Nat) (c85 : Nat), True ∧ ∃ (n86 : Int), True ∧ ∃ (n87 : Int), True ∧ v75 = (.agg #[(.slice A77 n78 c79), (.slice A80 n81 c82), (.slice A83 n84 c85), (.int .i64 n86), (.int .i64 n87)]) ∧ newK w76 (.cells #[(.slice none 0 0), (.slice none 0 0), (.slice none 0 0), (.int .i64 0), (.int .i64 0)] 32) fun g88 w89 => stCells (⟨g88, 0, none⟩ : Addr) [(.slice A77 n78 c79), (.slice A80 n81 c82), (.slice A83 n84 c85), (.int .i64 n86), (.int .i64 n87)] 0 w89 fun w90 => ∃ (A91 : Option Addr) (n92 : Nat) (c93 : Nat), w90.cell? ((⟨g88, 0, none⟩ : Addr).add 0) = some (.slice A91 n92 c93) ∧ ∃ (A94 : Option Addr) (n95 : Nat) (c96 : Nat), w90.cell? ((⟨g88, 0, none⟩ : Addr).add 1) = some (.slice A94 n95 c96) ∧ ∃ (A97 : Option Addr) (n98 : Nat) (c99 : Nat), w90.cell? ((⟨g88, 0, none⟩ : Addr).add 2) = some (.slice A97 n98 c99) ∧ ∃ (n100 : Int), w90.cell? ((⟨g88, 0, none⟩ : Addr).add 3) = some (.int .i64 n100) ∧ ∃ (n101 : Int), w90.cell? ((⟨g88, 0, none⟩ : Addr).add 4) = some (.int .i64 n101) ∧ Cll Try.prog 17 #[(.agg #[(.slice A91 n92 c93), (.slice A94 n95 c96), (.slice A97 n98 c99), (.int .i64 n100), (.int .i64 n101)]), (.int .i64 x1)] w90 fun v102 w103 => (∃ (n104 : Int), v102 = (.int .i64 n104) ∧ bcase (n104 != n63) (K (.bool false) w103) ((∃ M105 : Nat → Prop, ∃ (A106 : Option Addr) (n107 : Nat) (c108 : Nat), (¬ M105 ((⟨g88, 0, none⟩ : Addr)).block ∧ w103.cell? ((⟨g88, 0, none⟩ : Addr).add 0) = some (.slice A106 n107 c108)) ∧ ∃ (A109 : Option Addr) (n110 : Nat) (c111 : Nat), (¬ M105 ((⟨g88, 0, none⟩ : Addr)).block ∧ w103.cell? ((⟨g88, 0, none⟩ : Addr).add 1) = some (.slice A109 n110 c111)) ∧ ∃ (A112 : Option Addr) (n113 : Nat) (c114 : Nat), (¬ M105 ((⟨g88, 0, none⟩ : Addr)).block ∧ w103.cell? ((⟨g88, 0, none⟩ : Addr).add 2) = some (.slice A112 n113 c114)) ∧ ∃ (n115 : Int), (¬ M105 ((⟨g88, 0, none⟩ : Addr)).block ∧ w103.cell? ((⟨g88, 0, none⟩ : Addr).add 3) = some (.int .i64 n115)) ∧ ∃ (n116 : Int), (¬ M105 ((⟨g88, 0, none⟩ : Addr)).block ∧ w103.cell? ((⟨g88, 0, none⟩ : Addr).add 4) = some (.int .i64 n116)) ∧ ∃ (A117 : Option Addr) (n118 : Nat) (c119 : Nat), (¬ M105 ((⟨g21, 0, none⟩ : Addr)).block ∧ w103.cell? ((⟨g21, 0, none⟩ : Addr).add 0) = some (.slice A117 n118 c119)) ∧ ∃ (A120 : Option Addr) (n121 : Nat) (c122 : Nat), (¬ M105 ((⟨g21, 0, none⟩ : Addr)).block ∧ w103.cell? ((⟨g21, 0, none⟩ : Addr).add 1) = some (.slice A120 n121 c122)) ∧ ∃ (A123 : Option Addr) (n124 : Nat) (c125 : Nat), (¬ M105 ((⟨g21, 0, none⟩ : Addr)).block ∧ w103.cell? ((⟨g21, 0, none⟩ : Addr).add 2) = some (.slice A123 n124 c125)) ∧ ∃ (n126 : Int), (¬ M105 ((⟨g21, 0, none⟩ : Addr)).block ∧ w103.cell? ((⟨g21, 0, none⟩ : Addr).add 3) = some (.int .i64 n126)) ∧ ∃ (n127 : Int), (¬ M105 ((⟨g21, 0, none⟩ : Addr)).block ∧ w103.cell? ((⟨g21, 0, none⟩ : Addr).add 4) = some (.int .i64 n127)) ∧ Cll Try.prog 13 #[(.agg #[(.slice A117 n118 c119), (.slice A120 n121 c122), (.slice A123 n124 c125), (.int .i64 n126), (.int .i64 n127)])] w103.drew fun v128 w129 => (∃ (A130 : Option Addr) (n131 : Nat) (c132 : Nat), True ∧ ∃ (A133 : Option Addr) (n134 : Nat) (c135 : Nat), True ∧ ∃ (A136 : Option Addr) (n137 : Nat) (c138 : Nat), True ∧ ∃ (n139 : Int), True ∧ ∃ (n140 : Int), True ∧ v128 = (.agg #[(.slice A130 n131 c132), (.slice A133 n134 c135), (.slice A136 n137 c138), (.int .i64 n139), (.int .i64 n140)]) ∧ SameBut M105 w103 w129 ∧ Cll Try.prog 15 #[(.agg #[(.slice A106 n107 c108), (.slice A109 n110 c111), (.slice A112 n113 c114), (.int .i64 n115), (.int .i64 n116)]), (.agg #[(.slice A130 n131 c132), (.slice A133 n134 c135), (.slice A136 n137 c138), (.int .i64 n139), (.int .i64 n140)])] w129 fun v141 w142 => (∃ (b143 : Bool), v141 = (.bool b143) ∧ SameBut M105 w103 w142 ∧ bcase (!b143) (K (.bool false) w142) (K (.bool true) w142)))))))))))

def laws_FnExactPickWarp.ann : Ann := (.seq .l (.seq .l (.seq .l (.seq (.seq .l (.two (.seq .l .l) .l)) (.seq .l (.seq .l (.seq .l (.seq (.seq .l (.two (.seq .l .l) .l)) (.seq (.seq .l (.two (.seq .l .l) .l)) (.seq .l .l))))))))))

theorem laws_FnExactPickWarp.vc_eq (A0_0 : Option Addr) (n0_0 : Nat) (c0_0 : Nat) (A0_1 : Option Addr) (n0_1 : Nat) (c0_1 : Nat) (A0_2 : Option Addr) (n0_2 : Nat) (c0_2 : Nat) (x0_3 : Int) (x0_4 : Int) (x1 : Int) (w : World) (K : Value → World → Prop) : vcF Try.prog Try.f4 laws_FnExactPickWarp.ann [(.agg #[(.slice A0_0 n0_0 c0_0), (.slice A0_1 n0_1 c0_1), (.slice A0_2 n0_2 c0_2), (.int .i64 x0_3), (.int .i64 x0_4)]), (.int .i64 x1)] K w = laws_FnExactPickWarp.vc A0_0 n0_0 c0_0 A0_1 n0_1 c0_1 A0_2 n0_2 c0_2 x0_3 x0_4 x1 w K := by kernel_rfl

theorem laws_FnExactPickWarp.start {A0_0 : Option Addr} {n0_0 : Nat} {c0_0 : Nat} {A0_1 : Option Addr} {n0_1 : Nat} {c0_1 : Nat} {A0_2 : Option Addr} {n0_2 : Nat} {c0_2 : Nat} {x0_3 : Int} {x0_4 : Int} {x1 : Int} {w : World} {K : Value → World → Prop} (h : laws_FnExactPickWarp.vc A0_0 n0_0 c0_0 A0_1 n0_1 c0_1 A0_2 n0_2 c0_2 x0_3 x0_4 x1 w K) : Cll Try.prog 4 #[(.agg #[(.slice A0_0 n0_0 c0_0), (.slice A0_1 n0_1 c0_1), (.slice A0_2 n0_2 c0_2), (.int .i64 x0_3), (.int .i64 x0_4)]), (.int .i64 x1)] w K :=
  vcF_sound mixed (fn := Try.f4) (by kernel_rfl) (by kernel_rfl) (an := laws_FnExactPickWarp.ann) (args := [(.agg #[(.slice A0_0 n0_0 c0_0), (.slice A0_1 n0_1 c0_1), (.slice A0_2 n0_2 c0_2), (.int .i64 x0_3), (.int .i64 x0_4)]), (.int .i64 x1)]) (by rw [laws_FnExactPickWarp.vc_eq]; exact h)

theorem laws_FnExactPickWarp.con {s0 : D.Block} {A0_0 : Option Addr} {c0_0 : Nat} {A0_1 : Option Addr} {c0_1 : Nat} {A0_2 : Option Addr} {c0_2 : Nat} {x1 : Int} {r : Bool} {w : World} (hp : M.laws_FnExactPickWarp_pre s0 x1) (hr : r = M.laws_FnExactPickWarp s0 x1) (R0_0 : Row el78 w A0_0 s0.Code) (hc0_0 : s0.Code.length ≤ c0_0) (R0_1 : RowW 99 el148 el3 w A0_1 s0.Warps) (hc0_1 : s0.Warps.length ≤ c0_1) (R0_2 : Row el3 w A0_2 s0.Memory) (hc0_2 : s0.Memory.length ≤ c0_2) :
    Cll Try.prog 4 #[(.agg #[(.slice A0_0 s0.Code.length c0_0), (.slice A0_1 s0.Warps.length c0_1), (.slice A0_2 s0.Memory.length c0_2), (.int .i64 s0.Waiting), (.int .i64 s0.Phase)]), (.int .i64 x1)] w (fun v_ w_ => v_ = (.bool r) ∧ Ext w w_) := by
  have H := wp.laws_FnExactPickWarp.math s0 x1 hp
  have hB := Ext.refl w
  refine laws_FnExactPickWarp.start ?_
  unfold laws_FnExactPickWarp.vc
  unfold wp.laws_FnExactPickWarp at H
  refine newBlk (fun g4_ w21 L4 P4 e22 => ?_)
  have O4 := P4
  have L4 := Nat.le_trans hB.size L4
  have hB := ethen hB e22
  refine ⟨_, _, _, (O4.at 0 rfl rfl), ?_⟩
  refine ⟨_, _, _, (O4.at 1 rfl rfl), ?_⟩
  refine ⟨_, _, _, (O4.at 2 rfl rfl), ?_⟩
  refine ⟨_, (O4.at 3 rfl rfl), ?_⟩
  refine ⟨_, (O4.at 4 rfl rfl), ?_⟩
  obtain ⟨hp25, H⟩ := H
  obtain ⟨r23, hr24⟩ : ∃ r_, r_ = M.laws_szBlock s0 1048576 := ⟨_, rfl⟩
  have H := H r23 hr24
  refine (laws_szBlock.con hp25 hr24 (R0_0.ext hB) hc0_0 (R0_1.ext hB) hc0_1 (R0_2.ext hB) hc0_2).mono ?_
  rintro _ w26 ⟨rfl, e27⟩
  have O4 := O4.ext e27
  have hB := ethen hB e27
  refine ⟨r23, rfl, ?_⟩
  refine bcase_mk (fun hc86 => ?_) (fun hc86 => ?_)
  · have H := (bcase_iff.1 H).1 hc86
    obtain rfl := hr.trans H.symm
    exact ⟨rfl, hB⟩
  · have H := (bcase_iff.1 H).2 hc86
    refine ⟨_, _, _, (O4.at 0 rfl rfl), ?_⟩
    refine ⟨_, _, _, (O4.at 1 rfl rfl), ?_⟩
    refine ⟨_, _, _, (O4.at 2 rfl rfl), ?_⟩
    refine ⟨_, (O4.at 3 rfl rfl), ?_⟩
    refine ⟨_, (O4.at 4 rfl rfl), ?_⟩
    obtain ⟨hp30, H⟩ := H
    obtain ⟨r28, hr29⟩ : ∃ r_, r_ = M.laws_toBlock s0 := ⟨_, rfl⟩
    have H := H r28 hr29
    refine (laws_toBlock.con hp30 hr29 (R0_0.ext hB) hc0_0 (R0_1.ext hB) hc0_1 (R0_2.ext hB) hc0_2).mono ?_
    rintro _ w31 ⟨A33, c34, A35, c36, F39, A37, c38, rfl, P5, P6, P7, N6_7, e32⟩
    have N5_4 := P5.apart_old O4.lt
    have N6_4 := P6.new_disbox O4 (Nat.le_refl _)
    have N7_4 := P7.apart_old O4.lt
    have O4 := O4.ext e32
    have O5 := P5.mono hB.size
    have O6 := P6.mono hB.size
    have O7 := P7.mono hB.size
    have hB := ethen hB e32
    refine ⟨A33, r28.Code.length, c34, trivial, ?_⟩
    refine ⟨A35, r28.Warps.length, c36, trivial, ?_⟩
    refine ⟨A37, r28.Memory.length, c38, trivial, ?_⟩
    refine ⟨r28.Waiting, trivial, ?_⟩
    refine ⟨r28.Phase, trivial, ?_⟩
    refine ⟨rfl, ?_⟩
    obtain ⟨hp42, H⟩ := H
    obtain ⟨r40, hr41⟩ : ∃ r_, r_ = M.spec_PickWarp r28 x1 := ⟨_, rfl⟩
    have H := H r40 hr41
    refine (spec_PickWarp.con hp42 hr41 O5.row O5.le O6.row O6.le O7.row O7.le).mono ?_
    rintro _ w43 ⟨rfl, e44⟩
    have O4 := O4.ext e44
    have O5 := O5.ext e44
    have O6 := O6.ext e44
    have O7 := O7.ext e44
    have hB := ethen hB e44
    refine ⟨r40, rfl, ?_⟩
    refine ⟨_, _, _, (O4.at 0 rfl rfl), ?_⟩
    refine ⟨_, _, _, (O4.at 1 rfl rfl), ?_⟩
    refine ⟨_, _, _, (O4.at 2 rfl rfl), ?_⟩
    refine ⟨_, (O4.at 3 rfl rfl), ?_⟩
    refine ⟨_, (O4.at 4 rfl rfl), ?_⟩
    obtain ⟨hp47, H⟩ := H
    obtain ⟨r45, hr46⟩ : ∃ r_, r_ = M.laws_toBlock s0 := ⟨_, rfl⟩
    have H := H r45 hr46
    refine (laws_toBlock.con hp47 hr46 (R0_0.ext hB) hc0_0 (R0_1.ext hB) hc0_1 (R0_2.ext hB) hc0_2).mono ?_
    rintro _ w48 ⟨A50, c51, A52, c53, F56, A54, c55, rfl, P8, P9, P10, N9_10, e49⟩
    have N8_4 := P8.apart_old O4.lt
    have N5_8 := Own.apart2_new O5 P8 (Nat.le_refl _)
    have N6_8 := O6.dis_new P8 (Nat.le_refl _)
    have N7_8 := Own.apart2_new O7 P8 (Nat.le_refl _)
    have N9_4 := P9.new_disbox O4 (Nat.le_refl _)
    have N9_5 := P9.new_dis O5 (Nat.le_refl _)
    have N6_9 := O6.dis_neww P9 (Nat.le_refl _)
    have N9_7 := P9.new_dis O7 (Nat.le_refl _)
    have N10_4 := P10.apart_old O4.lt
    have N5_10 := Own.apart2_new O5 P10 (Nat.le_refl _)
    have N6_10 := O6.dis_new P10 (Nat.le_refl _)
    have N7_10 := Own.apart2_new O7 P10 (Nat.le_refl _)
    have O4 := O4.ext e49
    have O5 := O5.ext e49
    have O6 := O6.ext e49
    have O7 := O7.ext e49
    have O8 := P8.mono hB.size
    have O9 := P9.mono hB.size
    have O10 := P10.mono hB.size
    have hB := ethen hB e49
    refine ⟨A50, r45.Code.length, c51, trivial, ?_⟩
    refine ⟨A52, r45.Warps.length, c53, trivial, ?_⟩
    refine ⟨A54, r45.Memory.length, c55, trivial, ?_⟩
    refine ⟨r45.Waiting, trivial, ?_⟩
    refine ⟨r45.Phase, trivial, ?_⟩
    refine ⟨rfl, ?_⟩
    refine newBlk (fun g11_ w57 L11 P11 e58 => ?_)
    have N4_11 := O4.ne L11
    have N5_11 := O5.apart_new L11
    have N6_11 := O6.dis_newbox L11
    have N7_11 := O7.apart_new L11
    have N8_11 := O8.apart_new L11
    have N9_11 := O9.dis_newbox L11
    have N10_11 := O10.apart_new L11
    have O4 := O4.ext e58
    have O5 := O5.ext e58
    have O6 := O6.ext e58
    have O7 := O7.ext e58
    have O8 := O8.ext e58
    have O9 := O9.ext e58
    have O10 := O10.ext e58
    have O11 := P11
    have L11 := Nat.le_trans hB.size L11
    have hB := ethen hB e58
    refine stBlk O11 (o := 0) (cs' := #[(.slice A50 r45.Code.length c51), (.slice A52 r45.Warps.length c53), (.slice A54 r45.Memory.length c55), (.int .i64 r45.Waiting), (.int .i64 r45.Phase)]) rfl rfl (Nat.le_of_ble_eq_true rfl) rfl (fun w59 P11 e60 => ?_)
    have O4_ := O4.chg e60 N4_11
    have O5_ := O5.chg e60 N5_11
    have O6_ := O6.chg e60 N6_11
    have O7_ := O7.chg e60 N7_11
    have O8_ := O8.chg e60 N8_11
    have O9_ := O9.chg e60 N9_11
    have O10_ := O10.chg e60 N10_11
    have O4 := O4_
    have O5 := O5_
    have O6 := O6_
    have O7 := O7_
    have O8 := O8_
    have O9 := O9_
    have O10 := O10_
    have hB := echg hB e60 L11
    have O11 := P11
    refine ⟨_, _, _, (O11.at 0 rfl rfl), ?_⟩
    refine ⟨_, _, _, (O11.at 1 rfl rfl), ?_⟩
    refine ⟨_, _, _, (O11.at 2 rfl rfl), ?_⟩
    refine ⟨_, (O11.at 3 rfl rfl), ?_⟩
    refine ⟨_, (O11.at 4 rfl rfl), ?_⟩
    obtain ⟨hp63, H⟩ := H
    obtain ⟨r61, hr62⟩ : ∃ r_, r_ = M.impl_PickWarp r45 x1 := ⟨_, rfl⟩
    have H := H r61 hr62
    refine (impl_PickWarp.con hp63 hr62 O8.row O8.le O9.row O9.le O10.row O10.le).mono ?_
    rintro _ w64 ⟨rfl, e65⟩
    have O4 := O4.ext e65
    have O5 := O5.ext e65
    have O6 := O6.ext e65
    have O7 := O7.ext e65
    have O8 := O8.ext e65
    have O9 := O9.ext e65
    have O10 := O10.ext e65
    have O11 := O11.ext e65
    have hB := ethen hB e65
    refine ⟨r61, rfl, ?_⟩
    refine bcase_mk (fun hc85 => ?_) (fun hc85 => ?_)
    · have H := (bcase_iff.1 H).1 hc85
      obtain rfl := hr.trans H.symm
      exact ⟨rfl, hB⟩
    · have H := (bcase_iff.1 H).2 hc85
      refine ⟨(fun _ => False), ?_⟩
      refine ⟨_, _, _, ⟨(fun h_ => h_), (O11.at 0 rfl rfl)⟩, ?_⟩
      refine ⟨_, _, _, ⟨(fun h_ => h_), (O11.at 1 rfl rfl)⟩, ?_⟩
      refine ⟨_, _, _, ⟨(fun h_ => h_), (O11.at 2 rfl rfl)⟩, ?_⟩
      refine ⟨_, ⟨(fun h_ => h_), (O11.at 3 rfl rfl)⟩, ?_⟩
      refine ⟨_, ⟨(fun h_ => h_), (O11.at 4 rfl rfl)⟩, ?_⟩
      refine ⟨_, _, _, ⟨(fun h_ => h_), (O4.at 0 rfl rfl)⟩, ?_⟩
      refine ⟨_, _, _, ⟨(fun h_ => h_), (O4.at 1 rfl rfl)⟩, ?_⟩
      refine ⟨_, _, _, ⟨(fun h_ => h_), (O4.at 2 rfl rfl)⟩, ?_⟩
      refine ⟨_, ⟨(fun h_ => h_), (O4.at 3 rfl rfl)⟩, ?_⟩
      refine ⟨_, ⟨(fun h_ => h_), (O4.at 4 rfl rfl)⟩, ?_⟩
      have hS66 := Chg.refl (fun _ => False) w64
      have O4 := O4.ext (Ext.drew _)
      have O5 := O5.ext (Ext.drew _)
      have O6 := O6.ext (Ext.drew _)
      have O7 := O7.ext (Ext.drew _)
      have O8 := O8.ext (Ext.drew _)
      have O9 := O9.ext (Ext.drew _)
      have O10 := O10.ext (Ext.drew _)
      have O11 := O11.ext (Ext.drew _)
      have hB := ethen hB (Ext.drew _)
      have hS66 := hS66.then (Ext.drew _)
      obtain ⟨hp69, H⟩ := H
      obtain ⟨r67, hr68⟩ : ∃ r_, r_ = M.laws_toBlock s0 := ⟨_, rfl⟩
      have H := H r67 hr68
      refine (laws_toBlock.con hp69 hr68 (R0_0.ext hB) hc0_0 (R0_1.ext hB) hc0_1 (R0_2.ext hB) hc0_2).mono ?_
      rintro _ w70 ⟨A72, c73, A74, c75, F78, A76, c77, rfl, P12, P13, P14, N13_14, e71⟩
      have N12_4 := P12.apart_old O4.lt
      have N5_12 := Own.apart2_new O5 P12 (Nat.le_refl _)
      have N6_12 := O6.dis_new P12 (Nat.le_refl _)
      have N7_12 := Own.apart2_new O7 P12 (Nat.le_refl _)
      have N8_12 := Own.apart2_new O8 P12 (Nat.le_refl _)
      have N9_12 := O9.dis_new P12 (Nat.le_refl _)
      have N10_12 := Own.apart2_new O10 P12 (Nat.le_refl _)
      have N12_11 := P12.apart_old O11.lt
      have N13_4 := P13.new_disbox O4 (Nat.le_refl _)
      have N13_5 := P13.new_dis O5 (Nat.le_refl _)
      have N6_13 := O6.dis_neww P13 (Nat.le_refl _)
      have N13_7 := P13.new_dis O7 (Nat.le_refl _)
      have N13_8 := P13.new_dis O8 (Nat.le_refl _)
      have N9_13 := O9.dis_neww P13 (Nat.le_refl _)
      have N13_10 := P13.new_dis O10 (Nat.le_refl _)
      have N13_11 := P13.new_disbox O11 (Nat.le_refl _)
      have N14_4 := P14.apart_old O4.lt
      have N5_14 := Own.apart2_new O5 P14 (Nat.le_refl _)
      have N6_14 := O6.dis_new P14 (Nat.le_refl _)
      have N7_14 := Own.apart2_new O7 P14 (Nat.le_refl _)
      have N8_14 := Own.apart2_new O8 P14 (Nat.le_refl _)
      have N9_14 := O9.dis_new P14 (Nat.le_refl _)
      have N10_14 := Own.apart2_new O10 P14 (Nat.le_refl _)
      have N14_11 := P14.apart_old O11.lt
      have O4 := O4.ext e71
      have O5 := O5.ext e71
      have O6 := O6.ext e71
      have O7 := O7.ext e71
      have O8 := O8.ext e71
      have O9 := O9.ext e71
      have O10 := O10.ext e71
      have O11 := O11.ext e71
      have LB12 := (P12.mono hS66.size).low
      have LB13 := (P13.mono hS66.size).lowW
      have LB14 := (P14.mono hS66.size).low
      have O12 := P12.mono hB.size
      have O13 := P13.mono hB.size
      have O14 := P14.mono hB.size
      have hB := ethen hB e71
      have hS66 := hS66.then e71
      refine ⟨A72, r67.Code.length, c73, trivial, ?_⟩
      refine ⟨A74, r67.Warps.length, c75, trivial, ?_⟩
      refine ⟨A76, r67.Memory.length, c77, trivial, ?_⟩
      refine ⟨r67.Waiting, trivial, ?_⟩
      refine ⟨r67.Phase, trivial, ?_⟩
      refine ⟨rfl, ?_⟩
      refine ⟨sameBut_chg hS66, ?_⟩
      obtain ⟨hp81, H⟩ := H
      obtain ⟨r79, hr80⟩ : ∃ r_, r_ = M.laws_eqBlock r45 r67 := ⟨_, rfl⟩
      have H := H r79 hr80
      refine (laws_eqBlock.con hp81 hr80 O8.row O8.le O9.row O9.le O10.row O10.le O12.row O12.le O13.row O13.le O14.row O14.le).mono ?_
      rintro _ w82 ⟨rfl, e83⟩
      have O4 := O4.ext e83
      have O5 := O5.ext e83
      have O6 := O6.ext e83
      have O7 := O7.ext e83
      have O8 := O8.ext e83
      have O9 := O9.ext e83
      have O10 := O10.ext e83
      have O11 := O11.ext e83
      have O12 := O12.ext e83
      have O13 := O13.ext e83
      have O14 := O14.ext e83
      have hB := ethen hB e83
      have hS66 := hS66.then e83
      refine ⟨r79, rfl, ?_⟩
      refine ⟨sameBut_chg hS66, ?_⟩
      refine bcase_mk (fun hc84 => ?_) (fun hc84 => ?_)
      · have H := (bcase_iff.1 H).1 hc84
        obtain rfl := hr.trans H.symm
        exact ⟨rfl, hB⟩
      · have H := (bcase_iff.1 H).2 hc84
        obtain rfl := hr.trans H.symm
        exact ⟨rfl, hB⟩

def spec_IsStuck.vc (A0_0 : Option Addr) (n0_0 : Nat) (c0_0 : Nat) (A0_1 : Option Addr) (n0_1 : Nat) (c0_1 : Nat) (A0_2 : Option Addr) (n0_2 : Nat) (c0_2 : Nat) (x0_3 : Int) (x0_4 : Int) (w : World) (K : Value → World → Prop) : Prop :=
  newK w (.cells #[(.slice A0_0 n0_0 c0_0), (.slice A0_1 n0_1 c0_1), (.slice A0_2 n0_2 c0_2), (.int .i64 x0_3), (.int .i64 x0_4)] 32) fun g21 w22 => ∃ (A24 : Option Addr) (n25 : Nat) (c26 : Nat), w22.cell? ((⟨g21, 0, none⟩ : Addr).add 0) = some (.slice A24 n25 c26) ∧ ∃ (A27 : Option Addr) (n28 : Nat) (c29 : Nat), w22.cell? ((⟨g21, 0, none⟩ : Addr).add 1) = some (.slice A27 n28 c29) ∧ ∃ (A30 : Option Addr) (n31 : Nat) (c32 : Nat), w22.cell? ((⟨g21, 0, none⟩ : Addr).add 2) = some (.slice A30 n31 c32) ∧ ∃ (n33 : Int), w22.cell? ((⟨g21, 0, none⟩ : Addr).add 3) = some (.int .i64 n33) ∧ ∃ (n34 : Int), w22.cell? ((⟨g21, 0, none⟩ : Addr).add 4) = some (.int .i64 n34) ∧ Cll Try.prog 54 #[(.agg #[(.slice A24 n25 c26), (.slice A27 n28 c29), (.slice A30 n31 c32), (.int .i64 n33), (.int .i64 n34)])] w22 fun v35 w36 => (∃ (b37 : Bool), v35 = (.bool b37) ∧ bcase (!b37) (K (.bool false) w36) (∃ (A38 : Option Addr) (n39 : Nat) (c40 : Nat), w36.cell? ((⟨g21, 0, none⟩ : Addr).add 0) = some (.slice A38 n39 c40) ∧ ∃ (A41 : Option Addr) (n42 : Nat) (c43 : Nat), w36.cell? ((⟨g21, 0, none⟩ : Addr).add 1) = some (.slice A41 n42 c43) ∧ ∃ (A44 : Option Addr) (n45 : Nat) (c46 : Nat), w36.cell? ((⟨g21, 0, none⟩ : Addr).add 2) = some (.slice A44 n45 c46) ∧ ∃ (n47 : Int), w36.cell? ((⟨g21, 0, none⟩ : Addr).add 3) = some (.int .i64 n47) ∧ ∃ (n48 : Int), w36.cell? ((⟨g21, 0, none⟩ : Addr).add 4) = some (.int .i64 n48) ∧ Cll Try.prog 58 #[(.agg #[(.slice A38 n39 c40), (.slice A41 n42 c43), (.slice A44 n45 c46), (.int .i64 n47), (.int .i64 n48)])] w36 fun v49 w50 => (∃ (b51 : Bool), v49 = (.bool b51) ∧ bcase b51 (K (.bool false) w50) (LoopT (σ := Int × Unit) (fun z52 w53 next54 => ∃ (A55 : Option Addr) (n56 : Nat) (c57 : Nat), w53.cell? (((⟨g21, 0, none⟩ : Addr).add 1).add 0) = some (.slice A55 n56 c57) ∧ bcase (decide (z52.1 < ((n56 : Nat) : Int))) (∃ (A58 : Option Addr) (n59 : Nat) (c60 : Nat), w53.cell? ((⟨g21, 0, none⟩ : Addr).add 0) = some (.slice A58 n59 c60) ∧ ∃ (A61 : Option Addr) (n62 : Nat) (c63 : Nat), w53.cell? ((⟨g21, 0, none⟩ : Addr).add 1) = some (.slice A61 n62 c63) ∧ ∃ (A64 : Option Addr) (n65 : Nat) (c66 : Nat), w53.cell? ((⟨g21, 0, none⟩ : Addr).add 2) = some (.slice A64 n65 c66) ∧ ∃ (n67 : Int), w53.cell? ((⟨g21, 0, none⟩ : Addr).add 3) = some (.int .i64 n67) ∧ ∃ (n68 : Int), w53.cell? ((⟨g21, 0, none⟩ : Addr).add 4) = some (.int .i64 n68) ∧ Cll Try.prog 49 #[(.agg #[(.slice A58 n59 c60), (.slice A61 n62 c63), (.slice A64 n65 c66), (.int .i64 n67), (.int .i64 n68)]), (.int .i64 z52.1)] w53 fun v69 w70 => (∃ (b71 : Bool), v69 = (.bool b71) ∧ bcase b71 (K (.bool false) w70) (next54 ((IntKind.wrap .i64 (z52.1 + 1)), ()) w70))) (K (.bool true) w53)) (0, ()) w50))))

def spec_IsStuck.ann : Ann := (.seq .l (.seq (.seq .l (.two (.seq .l .l) .l)) (.seq (.seq .l (.one (.loop [(3, .int .i64)] (.seq (.seq .l (.two .l .l)) (.seq (.one (.seq .l (.two (.seq .l .l) .l))) .l))))) (.seq .l .l))))

theorem spec_IsStuck.vc_eq (A0_0 : Option Addr) (n0_0 : Nat) (c0_0 : Nat) (A0_1 : Option Addr) (n0_1 : Nat) (c0_1 : Nat) (A0_2 : Option Addr) (n0_2 : Nat) (c0_2 : Nat) (x0_3 : Int) (x0_4 : Int) (w : World) (K : Value → World → Prop) : vcF Try.prog Try.f18 spec_IsStuck.ann [(.agg #[(.slice A0_0 n0_0 c0_0), (.slice A0_1 n0_1 c0_1), (.slice A0_2 n0_2 c0_2), (.int .i64 x0_3), (.int .i64 x0_4)])] K w = spec_IsStuck.vc A0_0 n0_0 c0_0 A0_1 n0_1 c0_1 A0_2 n0_2 c0_2 x0_3 x0_4 w K := by kernel_rfl

theorem spec_IsStuck.start {A0_0 : Option Addr} {n0_0 : Nat} {c0_0 : Nat} {A0_1 : Option Addr} {n0_1 : Nat} {c0_1 : Nat} {A0_2 : Option Addr} {n0_2 : Nat} {c0_2 : Nat} {x0_3 : Int} {x0_4 : Int} {w : World} {K : Value → World → Prop} (h : spec_IsStuck.vc A0_0 n0_0 c0_0 A0_1 n0_1 c0_1 A0_2 n0_2 c0_2 x0_3 x0_4 w K) : Cll Try.prog 18 #[(.agg #[(.slice A0_0 n0_0 c0_0), (.slice A0_1 n0_1 c0_1), (.slice A0_2 n0_2 c0_2), (.int .i64 x0_3), (.int .i64 x0_4)])] w K :=
  vcF_sound mixed (fn := Try.f18) (by kernel_rfl) (by kernel_rfl) (an := spec_IsStuck.ann) (args := [(.agg #[(.slice A0_0 n0_0 c0_0), (.slice A0_1 n0_1 c0_1), (.slice A0_2 n0_2 c0_2), (.int .i64 x0_3), (.int .i64 x0_4)])]) (by rw [spec_IsStuck.vc_eq]; exact h)

theorem spec_IsStuck.con {s0 : D.Block} {A0_0 : Option Addr} {c0_0 : Nat} {A0_1 : Option Addr} {c0_1 : Nat} {A0_2 : Option Addr} {c0_2 : Nat} {r : Bool} {w : World} (hp : M.spec_IsStuck_pre s0) (hr : r = M.spec_IsStuck s0) (R0_0 : Row el76 w A0_0 s0.Code) (hc0_0 : s0.Code.length ≤ c0_0) (R0_1 : RowW 102 el132 el3 w A0_1 s0.Warps) (hc0_1 : s0.Warps.length ≤ c0_1) (R0_2 : Row el3 w A0_2 s0.Memory) (hc0_2 : s0.Memory.length ≤ c0_2) :
    Cll Try.prog 18 #[(.agg #[(.slice A0_0 s0.Code.length c0_0), (.slice A0_1 s0.Warps.length c0_1), (.slice A0_2 s0.Memory.length c0_2), (.int .i64 s0.Waiting), (.int .i64 s0.Phase)])] w (fun v_ w_ => v_ = (.bool r) ∧ Ext w w_) := by
  have H := wp.spec_IsStuck.math s0 hp
  have hB := Ext.refl w
  refine spec_IsStuck.start ?_
  unfold spec_IsStuck.vc
  unfold wp.spec_IsStuck at H
  refine newBlk (fun g4_ w21 L4 P4 e22 => ?_)
  have O4 := P4
  have L4 := Nat.le_trans hB.size L4
  have hB := ethen hB e22
  refine ⟨_, _, _, (O4.at 0 rfl rfl), ?_⟩
  refine ⟨_, _, _, (O4.at 1 rfl rfl), ?_⟩
  refine ⟨_, _, _, (O4.at 2 rfl rfl), ?_⟩
  refine ⟨_, (O4.at 3 rfl rfl), ?_⟩
  refine ⟨_, (O4.at 4 rfl rfl), ?_⟩
  obtain ⟨hp25, H⟩ := H
  obtain ⟨r23, hr24⟩ : ∃ r_, r_ = M.spec_BlockOk s0 := ⟨_, rfl⟩
  have H := H r23 hr24
  refine (spec_BlockOk.con hp25 hr24 (R0_0.ext hB) hc0_0 (R0_1.ext hB) hc0_1 (R0_2.ext hB) hc0_2).mono ?_
  rintro _ w26 ⟨rfl, e27⟩
  have O4 := O4.ext e27
  have hB := ethen hB e27
  refine ⟨r23, rfl, ?_⟩
  refine bcase_mk (fun hc54 => ?_) (fun hc54 => ?_)
  · have H := (bcase_iff.1 H).1 hc54
    obtain rfl := hr.trans H.symm
    exact ⟨rfl, hB⟩
  · have H := (bcase_iff.1 H).2 hc54
    refine ⟨_, _, _, (O4.at 0 rfl rfl), ?_⟩
    refine ⟨_, _, _, (O4.at 1 rfl rfl), ?_⟩
    refine ⟨_, _, _, (O4.at 2 rfl rfl), ?_⟩
    refine ⟨_, (O4.at 3 rfl rfl), ?_⟩
    refine ⟨_, (O4.at 4 rfl rfl), ?_⟩
    obtain ⟨hp30, H⟩ := H
    obtain ⟨r28, hr29⟩ : ∃ r_, r_ = M.spec_l29Ended s0 := ⟨_, rfl⟩
    have H := H r28 hr29
    refine (spec_l29Ended.con hp30 hr29 (R0_0.ext hB) hc0_0 (R0_1.ext hB) hc0_1 (R0_2.ext hB) hc0_2).mono ?_
    rintro _ w31 ⟨rfl, e32⟩
    have O4 := O4.ext e32
    have hB := ethen hB e32
    refine ⟨r28, rfl, ?_⟩
    refine bcase_mk (fun hc53 => ?_) (fun hc53 => ?_)
    · have H := (bcase_iff.1 H).1 hc53
      obtain rfl := hr.trans H.symm
      exact ⟨rfl, hB⟩
    · have H := (bcase_iff.1 H).2 hc53
      obtain ⟨J35, ⟨m51, hJ50⟩, hS36⟩ := H
      refine ⟨fun m_ z_ w_ => ∃ (i33 : Int), z_ = (i33, ()) ∧ J35 m_ (i33, ()) ∧ Ext w w_ ∧ Blk w_ g4_ 32 #[(.slice A0_0 s0.Code.length c0_0), (.slice A0_1 s0.Warps.length c0_1), (.slice A0_2 s0.Memory.length c0_2), (.int .i64 s0.Waiting), (.int .i64 s0.Phase)], ⟨m51, 0, rfl, hJ50, hB, O4⟩, ?_⟩
      rintro m34 _ w38 ⟨i33, rfl, hJ52, hB, O4⟩
      have H := hS36 m34 _ hJ52
      clear hS36 hJ52
      dsimp only at H ⊢
      refine ⟨_, _, _, (O4.at 1 rfl rfl), ?_⟩
      refine bcase_mk (fun hc48 => ?_) (fun hc48 => ?_)
      · have H := (bcase_iff.1 H).1 hc48
        refine ⟨_, _, _, (O4.at 0 rfl rfl), ?_⟩
        refine ⟨_, _, _, (O4.at 1 rfl rfl), ?_⟩
        refine ⟨_, _, _, (O4.at 2 rfl rfl), ?_⟩
        refine ⟨_, (O4.at 3 rfl rfl), ?_⟩
        refine ⟨_, (O4.at 4 rfl rfl), ?_⟩
        obtain ⟨hp41, H⟩ := H
        obtain ⟨r39, hr40⟩ : ∃ r_, r_ = M.spec_l30Can s0 i33 := ⟨_, rfl⟩
        have H := H r39 hr40
        refine (spec_l30Can.con hp41 hr40 (R0_0.ext hB) hc0_0 (R0_1.ext hB) hc0_1 (R0_2.ext hB) hc0_2).mono ?_
        rintro _ w42 ⟨rfl, e43⟩
        have O4 := O4.ext e43
        have hB := ethen hB e43
        refine ⟨r39, rfl, ?_⟩
        refine bcase_mk (fun hc47 => ?_) (fun hc47 => ?_)
        · have H := (bcase_iff.1 H).1 hc47
          obtain rfl := hr.trans H.symm
          exact ⟨rfl, hB⟩
        · have H := (bcase_iff.1 H).2 hc47
          obtain ⟨m44, hm45, hJ46⟩ := H
          exact ⟨m44, hm45, (IntKind.wrap .i64 (i33 + 1)), rfl, hJ46, hB, O4⟩
      · have H := (bcase_iff.1 H).2 hc48
        obtain rfl := hr.trans H.symm
        exact ⟨rfl, hB⟩

def impl_IsStuck.vc (A0_0 : Option Addr) (n0_0 : Nat) (c0_0 : Nat) (A0_1 : Option Addr) (n0_1 : Nat) (c0_1 : Nat) (A0_2 : Option Addr) (n0_2 : Nat) (c0_2 : Nat) (x0_3 : Int) (x0_4 : Int) (w : World) (K : Value → World → Prop) : Prop :=
  newK w (.cells #[(.slice A0_0 n0_0 c0_0), (.slice A0_1 n0_1 c0_1), (.slice A0_2 n0_2 c0_2), (.int .i64 x0_3), (.int .i64 x0_4)] 32) fun g21 w22 => ∃ (A24 : Option Addr) (n25 : Nat) (c26 : Nat), w22.cell? ((⟨g21, 0, none⟩ : Addr).add 0) = some (.slice A24 n25 c26) ∧ ∃ (A27 : Option Addr) (n28 : Nat) (c29 : Nat), w22.cell? ((⟨g21, 0, none⟩ : Addr).add 1) = some (.slice A27 n28 c29) ∧ ∃ (A30 : Option Addr) (n31 : Nat) (c32 : Nat), w22.cell? ((⟨g21, 0, none⟩ : Addr).add 2) = some (.slice A30 n31 c32) ∧ ∃ (n33 : Int), w22.cell? ((⟨g21, 0, none⟩ : Addr).add 3) = some (.int .i64 n33) ∧ ∃ (n34 : Int), w22.cell? ((⟨g21, 0, none⟩ : Addr).add 4) = some (.int .i64 n34) ∧ Cll Try.prog 56 #[(.agg #[(.slice A24 n25 c26), (.slice A27 n28 c29), (.slice A30 n31 c32), (.int .i64 n33), (.int .i64 n34)])] w22 fun v35 w36 => (∃ (b37 : Bool), v35 = (.bool b37) ∧ bcase (!b37) (K (.bool false) w36) (∃ (A38 : Option Addr) (n39 : Nat) (c40 : Nat), w36.cell? ((⟨g21, 0, none⟩ : Addr).add 0) = some (.slice A38 n39 c40) ∧ ∃ (A41 : Option Addr) (n42 : Nat) (c43 : Nat), w36.cell? ((⟨g21, 0, none⟩ : Addr).add 1) = some (.slice A41 n42 c43) ∧ ∃ (A44 : Option Addr) (n45 : Nat) (c46 : Nat), w36.cell? ((⟨g21, 0, none⟩ : Addr).add 2) = some (.slice A44 n45 c46) ∧ ∃ (n47 : Int), w36.cell? ((⟨g21, 0, none⟩ : Addr).add 3) = some (.int .i64 n47) ∧ ∃ (n48 : Int), w36.cell? ((⟨g21, 0, none⟩ : Addr).add 4) = some (.int .i64 n48) ∧ Cll Try.prog 59 #[(.agg #[(.slice A38 n39 c40), (.slice A41 n42 c43), (.slice A44 n45 c46), (.int .i64 n47), (.int .i64 n48)])] w36 fun v49 w50 => (∃ (b51 : Bool), v49 = (.bool b51) ∧ bcase b51 (K (.bool false) w50) (∃ (A52 : Option Addr) (n53 : Nat) (c54 : Nat), w50.cell? (((⟨g21, 0, none⟩ : Addr).add 1).add 0) = some (.slice A52 n53 c54) ∧ LoopT (σ := Int × Unit) (fun z55 w56 next57 => bcase (decide (z55.1 < ((n53 : Nat) : Int))) (∃ (A58 : Option Addr) (n59 : Nat) (c60 : Nat), w56.cell? ((⟨g21, 0, none⟩ : Addr).add 0) = some (.slice A58 n59 c60) ∧ ∃ (A61 : Option Addr) (n62 : Nat) (c63 : Nat), w56.cell? ((⟨g21, 0, none⟩ : Addr).add 1) = some (.slice A61 n62 c63) ∧ ∃ (A64 : Option Addr) (n65 : Nat) (c66 : Nat), w56.cell? ((⟨g21, 0, none⟩ : Addr).add 2) = some (.slice A64 n65 c66) ∧ ∃ (n67 : Int), w56.cell? ((⟨g21, 0, none⟩ : Addr).add 3) = some (.int .i64 n67) ∧ ∃ (n68 : Int), w56.cell? ((⟨g21, 0, none⟩ : Addr).add 4) = some (.int .i64 n68) ∧ Cll Try.prog 52 #[(.agg #[(.slice A58 n59 c60), (.slice A61 n62 c63), (.slice A64 n65 c66), (.int .i64 n67), (.int .i64 n68)]), (.int .i64 z55.1)] w56 fun v69 w70 => (∃ (b71 : Bool), v69 = (.bool b71) ∧ bcase b71 (K (.bool false) w70) (next57 ((IntKind.wrap .i64 (z55.1 + 1)), ()) w70))) (K (.bool true) w56)) (0, ()) w50))))

def impl_IsStuck.ann : Ann := (.seq .l (.seq (.seq .l (.two (.seq .l .l) .l)) (.seq (.seq .l (.one (.loop [(14, .int .i64)] (.seq .l (.seq (.two .l .l) (.seq (.one (.seq .l (.seq .l (.two (.seq .l .l) .l)))) .l)))))) (.seq .l .l))))

theorem impl_IsStuck.vc_eq (A0_0 : Option Addr) (n0_0 : Nat) (c0_0 : Nat) (A0_1 : Option Addr) (n0_1 : Nat) (c0_1 : Nat) (A0_2 : Option Addr) (n0_2 : Nat) (c0_2 : Nat) (x0_3 : Int) (x0_4 : Int) (w : World) (K : Value → World → Prop) : vcF Try.prog Try.f19 impl_IsStuck.ann [(.agg #[(.slice A0_0 n0_0 c0_0), (.slice A0_1 n0_1 c0_1), (.slice A0_2 n0_2 c0_2), (.int .i64 x0_3), (.int .i64 x0_4)])] K w = impl_IsStuck.vc A0_0 n0_0 c0_0 A0_1 n0_1 c0_1 A0_2 n0_2 c0_2 x0_3 x0_4 w K := by kernel_rfl

theorem impl_IsStuck.start {A0_0 : Option Addr} {n0_0 : Nat} {c0_0 : Nat} {A0_1 : Option Addr} {n0_1 : Nat} {c0_1 : Nat} {A0_2 : Option Addr} {n0_2 : Nat} {c0_2 : Nat} {x0_3 : Int} {x0_4 : Int} {w : World} {K : Value → World → Prop} (h : impl_IsStuck.vc A0_0 n0_0 c0_0 A0_1 n0_1 c0_1 A0_2 n0_2 c0_2 x0_3 x0_4 w K) : Cll Try.prog 19 #[(.agg #[(.slice A0_0 n0_0 c0_0), (.slice A0_1 n0_1 c0_1), (.slice A0_2 n0_2 c0_2), (.int .i64 x0_3), (.int .i64 x0_4)])] w K :=
  vcF_sound mixed (fn := Try.f19) (by kernel_rfl) (by kernel_rfl) (an := impl_IsStuck.ann) (args := [(.agg #[(.slice A0_0 n0_0 c0_0), (.slice A0_1 n0_1 c0_1), (.slice A0_2 n0_2 c0_2), (.int .i64 x0_3), (.int .i64 x0_4)])]) (by rw [impl_IsStuck.vc_eq]; exact h)

theorem impl_IsStuck.con {s0 : D.Block} {A0_0 : Option Addr} {c0_0 : Nat} {A0_1 : Option Addr} {c0_1 : Nat} {A0_2 : Option Addr} {c0_2 : Nat} {r : Bool} {w : World} (hp : M.impl_IsStuck_pre s0) (hr : r = M.impl_IsStuck s0) (R0_0 : Row el76 w A0_0 s0.Code) (hc0_0 : s0.Code.length ≤ c0_0) (R0_1 : RowW 102 el132 el3 w A0_1 s0.Warps) (hc0_1 : s0.Warps.length ≤ c0_1) (R0_2 : Row el3 w A0_2 s0.Memory) (hc0_2 : s0.Memory.length ≤ c0_2) :
    Cll Try.prog 19 #[(.agg #[(.slice A0_0 s0.Code.length c0_0), (.slice A0_1 s0.Warps.length c0_1), (.slice A0_2 s0.Memory.length c0_2), (.int .i64 s0.Waiting), (.int .i64 s0.Phase)])] w (fun v_ w_ => v_ = (.bool r) ∧ Ext w w_) := by
  have H := wp.impl_IsStuck.math s0 hp
  have hB := Ext.refl w
  refine impl_IsStuck.start ?_
  unfold impl_IsStuck.vc
  unfold wp.impl_IsStuck at H
  refine newBlk (fun g4_ w21 L4 P4 e22 => ?_)
  have O4 := P4
  have L4 := Nat.le_trans hB.size L4
  have hB := ethen hB e22
  refine ⟨_, _, _, (O4.at 0 rfl rfl), ?_⟩
  refine ⟨_, _, _, (O4.at 1 rfl rfl), ?_⟩
  refine ⟨_, _, _, (O4.at 2 rfl rfl), ?_⟩
  refine ⟨_, (O4.at 3 rfl rfl), ?_⟩
  refine ⟨_, (O4.at 4 rfl rfl), ?_⟩
  obtain ⟨hp25, H⟩ := H
  obtain ⟨r23, hr24⟩ : ∃ r_, r_ = M.impl_BlockOk s0 := ⟨_, rfl⟩
  have H := H r23 hr24
  refine (impl_BlockOk.con hp25 hr24 (R0_0.ext hB) hc0_0 (R0_1.ext hB) hc0_1 (R0_2.ext hB) hc0_2).mono ?_
  rintro _ w26 ⟨rfl, e27⟩
  have O4 := O4.ext e27
  have hB := ethen hB e27
  refine ⟨r23, rfl, ?_⟩
  refine bcase_mk (fun hc54 => ?_) (fun hc54 => ?_)
  · have H := (bcase_iff.1 H).1 hc54
    obtain rfl := hr.trans H.symm
    exact ⟨rfl, hB⟩
  · have H := (bcase_iff.1 H).2 hc54
    refine ⟨_, _, _, (O4.at 0 rfl rfl), ?_⟩
    refine ⟨_, _, _, (O4.at 1 rfl rfl), ?_⟩
    refine ⟨_, _, _, (O4.at 2 rfl rfl), ?_⟩
    refine ⟨_, (O4.at 3 rfl rfl), ?_⟩
    refine ⟨_, (O4.at 4 rfl rfl), ?_⟩
    obtain ⟨hp30, H⟩ := H
    obtain ⟨r28, hr29⟩ : ∃ r_, r_ = M.impl_Block_ended s0 := ⟨_, rfl⟩
    have H := H r28 hr29
    refine (impl_Block_ended.con hp30 hr29 (R0_0.ext hB) hc0_0 (R0_1.ext hB) hc0_1 (R0_2.ext hB) hc0_2).mono ?_
    rintro _ w31 ⟨rfl, e32⟩
    have O4 := O4.ext e32
    have hB := ethen hB e32
    refine ⟨r28, rfl, ?_⟩
    refine bcase_mk (fun hc53 => ?_) (fun hc53 => ?_)
    · have H := (bcase_iff.1 H).1 hc53
      obtain rfl := hr.trans H.symm
      exact ⟨rfl, hB⟩
    · have H := (bcase_iff.1 H).2 hc53
      refine ⟨_, _, _, (O4.at 1 rfl rfl), ?_⟩
      obtain ⟨J35, ⟨m51, hJ50⟩, hS36⟩ := H
      refine ⟨fun m_ z_ w_ => ∃ (i33 : Int), z_ = (i33, ()) ∧ J35 m_ (i33, ()) ∧ Ext w w_ ∧ Blk w_ g4_ 32 #[(.slice A0_0 s0.Code.length c0_0), (.slice A0_1 s0.Warps.length c0_1), (.slice A0_2 s0.Memory.length c0_2), (.int .i64 s0.Waiting), (.int .i64 s0.Phase)], ⟨m51, 0, rfl, hJ50, hB, O4⟩, ?_⟩
      rintro m34 _ w38 ⟨i33, rfl, hJ52, hB, O4⟩
      have H := hS36 m34 _ hJ52
      clear hS36 hJ52
      dsimp only at H ⊢
      refine bcase_mk (fun hc48 => ?_) (fun hc48 => ?_)
      · have H := (bcase_iff.1 H).1 hc48
        refine ⟨_, _, _, (O4.at 0 rfl rfl), ?_⟩
        refine ⟨_, _, _, (O4.at 1 rfl rfl), ?_⟩
        refine ⟨_, _, _, (O4.at 2 rfl rfl), ?_⟩
        refine ⟨_, (O4.at 3 rfl rfl), ?_⟩
        refine ⟨_, (O4.at 4 rfl rfl), ?_⟩
        obtain ⟨hp41, H⟩ := H
        obtain ⟨r39, hr40⟩ : ∃ r_, r_ = M.impl_Block_canStep s0 i33 := ⟨_, rfl⟩
        have H := H r39 hr40
        refine (impl_Block_canStep.con hp41 hr40 (R0_0.ext hB) hc0_0 (R0_1.ext hB) hc0_1 (R0_2.ext hB) hc0_2).mono ?_
        rintro _ w42 ⟨rfl, e43⟩
        have O4 := O4.ext e43
        have hB := ethen hB e43
        refine ⟨r39, rfl, ?_⟩
        refine bcase_mk (fun hc47 => ?_) (fun hc47 => ?_)
        · have H := (bcase_iff.1 H).1 hc47
          obtain rfl := hr.trans H.symm
          exact ⟨rfl, hB⟩
        · have H := (bcase_iff.1 H).2 hc47
          obtain ⟨m44, hm45, hJ46⟩ := H
          exact ⟨m44, hm45, (IntKind.wrap .i64 (i33 + 1)), rfl, hJ46, hB, O4⟩
      · have H := (bcase_iff.1 H).2 hc48
        obtain rfl := hr.trans H.symm
        exact ⟨rfl, hB⟩

def laws_FnExactIsStuck.vc (A0_0 : Option Addr) (n0_0 : Nat) (c0_0 : Nat) (A0_1 : Option Addr) (n0_1 : Nat) (c0_1 : Nat) (A0_2 : Option Addr) (n0_2 : Nat) (c0_2 : Nat) (x0_3 : Int) (x0_4 : Int) (w : World) (K : Value → World → Prop) : Prop :=
  newK w (.cells #[(.slice A0_0 n0_0 c0_0), (.slice A0_1 n0_1 c0_1), (.slice A0_2 n0_2 c0_2), (.int .i64 x0_3), (.int .i64 x0_4)] 26) fun g21 w22 => ∃ (A23 : Option Addr) (n24 : Nat) (c25 : Nat), w22.cell? ((⟨g21, 0, none⟩ : Addr).add 0) = some (.slice A23 n24 c25) ∧ ∃ (A26 : Option Addr) (n27 : Nat) (c28 : Nat), w22.cell? ((⟨g21, 0, none⟩ : Addr).add 1) = some (.slice A26 n27 c28) ∧ ∃ (A29 : Option Addr) (n30 : Nat) (c31 : Nat), w22.cell? ((⟨g21, 0, none⟩ : Addr).add 2) = some (.slice A29 n30 c31) ∧ ∃ (n32 : Int), w22.cell? ((⟨g21, 0, none⟩ : Addr).add 3) = some (.int .i64 n32) ∧ ∃ (n33 : Int), w22.cell? ((⟨g21, 0, none⟩ : Addr).add 4) = some (.int .i64 n33) ∧ Cll Try.prog 11 #[(.agg #[(.slice A23 n24 c25), (.slice A26 n27 c28), (.slice A29 n30 c31), (.int .i64 n32), (.int .i64 n33)]), (.int .i64 1048576)] w22 fun v34 w35 => (∃ (n36 : Int), v34 = (.int .i64 n36) ∧ bcase (decide (n36 < 0)) (K (.bool true) w35) (∃ (A37 : Option Addr) (n38 : Nat) (c39 : Nat), w35.cell? ((⟨g21, 0, none⟩ : Addr).add 0) = some (.slice A37 n38 c39) ∧ ∃ (A40 : Option Addr) (n41 : Nat) (c42 : Nat), w35.cell? ((⟨g21, 0, none⟩ : Addr).add 1) = some (.slice A40 n41 c42) ∧ ∃ (A43 : Option Addr) (n44 : Nat) (c45 : Nat), w35.cell? ((⟨g21, 0, none⟩ : Addr).add 2) = some (.slice A43 n44 c45) ∧ ∃ (n46 : Int), w35.cell? ((⟨g21, 0, none⟩ : Addr).add 3) = some (.int .i64 n46) ∧ ∃ (n47 : Int), w35.cell? ((⟨g21, 0, none⟩ : Addr).add 4) = some (.int .i64 n47) ∧ Cll Try.prog 13 #[(.agg #[(.slice A37 n38 c39), (.slice A40 n41 c42), (.slice A43 n44 c45), (.int .i64 n46), (.int .i64 n47)])] w35 fun v48 w49 => (∃ (A50 : Option Addr) (n51 : Nat) (c52 : Nat), True ∧ ∃ (A53 : Option Addr) (n54 : Nat) (c55 : Nat), True ∧ ∃ (A56 : Option Addr) (n57 : Nat) (c58 : Nat), True ∧ ∃ (n59 : Int), True ∧ ∃ (n60 : Int), True ∧ v48 = (.agg #[(.slice A50 n51 c52), (.slice A53 n54 c55), (.slice A56 n57 c58), (.int .i64 n59), (.int .i64 n60)]) ∧ Cll Try.prog 18 #[(.agg #[(.slice A50 n51 c52), (.slice A53 n54 c55), (.slice A56 n57 c58), (.int .i64 n59), (.int .i64 n60)])] w49 fun v61 w62 => (∃ (b63 : Bool), v61 = (.bool b63) ∧ ∃ (A64 : Option Addr) (n65 : Nat) (c66 : Nat), w62.cell? ((⟨g21, 0, none⟩ : Addr).add 0) = some (.slice A64 n65 c66) ∧ ∃ (A67 : Option Addr) (n68 : Nat) (c69 : Nat), w62.cell? ((⟨g21, 0, none⟩ : Addr).add 1) = some (.slice A67 n68 c69) ∧ ∃ (A70 : Option Addr) (n71 : Nat) (c72 : Nat), w62.cell? ((⟨g21, 0, none⟩ : Addr).add 2) = some (.slice A70 n71 c72) ∧ ∃ (n73 : Int), w62.cell? ((⟨g21, 0, none⟩ : Addr).add 3) = some (.int .i64 n73) ∧ ∃ (n74 : Int), w62.cell? ((⟨g21, 0, none⟩ : Addr).add 4) = some (.int .i64 n74) ∧ Cll Try.prog 13 #[(.agg #[(.slice A64 n65 c66), (.slice A67 n68 c69), (.slice A70 n71 c72), (.int .i64 n73), (.int .i64 n74)])] w62 fun v75 w76 => (∃ (A77 : Option Addr) (n78 : Nat) (c79 : Nat), True ∧ ∃ (A80 : Option Addr) (n81 : Nat) (c82 : Nat), True ∧ ∃ (A83 : Option Addr) (n84 : Nat) (c85 : Nat), True ∧ ∃ (n86 : Int), True ∧ ∃ (n87 : Int), True ∧ v75 = (.agg #[(.slice A77 n78 c79), (.slice A80 n81 c82), (.slice A83 n84 c85), (.int .i64 n86), (.int .i64 n87)]) ∧ newK w76 (.cells #[(.slice none 0 0), (.slice none 0 0), (.slice none 0 0), (.int .i64 0), (.int .i64 0)] 32) fun g88 w89 => stCells (⟨g88, 0, none⟩ : Addr) [(.slice A77 n78 c79), (.slice A80 n81 c82), (.slice A83 n84 c85), (.int .i64 n86), (.int .i64 n87)] 0 w89 fun w90 => ∃ (A91 : Option Addr) (n92 : Nat) (c93 : Nat), w90.cell? ((⟨g88, 0, none⟩ : Addr).add 0) = some (.slice A91 n92 c93) ∧ ∃ (A94 : Option Addr) (n95 : Nat) (c96 : Nat), w90.cell? ((⟨g88, 0, none⟩ : Addr).add 1) = some (.slice A94 n95 c96) ∧ ∃ (A97 : Option Addr) (n98 : Nat) (c99 : Nat), w90.cell? ((⟨g88, 0, none⟩ : Addr).add 2) = some (.slice A97 n98 c99) ∧ ∃ (n100 : Int), w90.cell? ((⟨g88, 0, none⟩ : Addr).add 3) = some (.int .i64 n100) ∧ ∃ (n101 : Int), w90.cell? ((⟨g88, 0, none⟩ : Addr).add 4) = some (.int .i64 n101) ∧ Cll Try.prog 19 #[(.agg #[(.slice A91 n92 c93), (.slice A94 n95 c96), (.slice A97 n98 c99), (.int .i64 n100), (.int .i64 n101)])] w90 fun v102 w103 => (∃ (b104 : Bool), v102 = (.bool b104) ∧ bcase (!(b104 == b63)) (K (.bool false) w103) ((∃ M105 : Nat → Prop, ∃ (A106 : Option Addr) (n107 : Nat) (c108 : Nat), (¬ M105 ((⟨g88, 0, none⟩ : Addr)).block ∧ w103.cell? ((⟨g88, 0, none⟩ : Addr).add 0) = some (.slice A106 n107 c108)) ∧ ∃ (A109 : Option Addr) (n110 : Nat) (c111 : Nat), (¬ M105 ((⟨g88, 0, none⟩ : Addr)).block ∧ w103.cell? ((⟨g88, 0, none⟩ : Addr).add 1) = some (.slice A109 n110 c111)) ∧ ∃ (A112 : Option Addr) (n113 : Nat) (c114 : Nat), (¬ M105 ((⟨g88, 0, none⟩ : Addr)).block ∧ w103.cell? ((⟨g88, 0, none⟩ : Addr).add 2) = some (.slice A112 n113 c114)) ∧ ∃ (n115 : Int), (¬ M105 ((⟨g88, 0, none⟩ : Addr)).block ∧ w103.cell? ((⟨g88, 0, none⟩ : Addr).add 3) = some (.int .i64 n115)) ∧ ∃ (n116 : Int), (¬ M105 ((⟨g88, 0, none⟩ : Addr)).block ∧ w103.cell? ((⟨g88, 0, none⟩ : Addr).add 4) = some (.int .i64 n116)) ∧ ∃ (A117 : Option Addr) (n118 : Nat) (c119 : Nat), (¬ M105 ((⟨g21, 0, none⟩ : Addr)).block ∧ w103.cell? ((⟨g21, 0, none⟩ : Addr).add 0) = some (.slice A117 n118 c119)) ∧ ∃ (A120 : Option Addr) (n121 : Nat) (c122 : Nat), (¬ M105 ((⟨g21, 0, none⟩ : Addr)).block ∧ w103.cell? ((⟨g21, 0, none⟩ : Addr).add 1) = some (.slice A120 n121 c122)) ∧ ∃ (A123 : Option Addr) (n124 : Nat) (c125 : Nat), (¬ M105 ((⟨g21, 0, none⟩ : Addr)).block ∧ w103.cell? ((⟨g21, 0, none⟩ : Addr).add 2) = some (.slice A123 n124 c125)) ∧ ∃ (n126 : Int), (¬ M105 ((⟨g21, 0, none⟩ : Addr)).block ∧ w103.cell? ((⟨g21, 0, none⟩ : Addr).add 3) = some (.int .i64 n126)) ∧ ∃ (n127 : Int), (¬ M105 ((⟨g21, 0, none⟩ : Addr)).block ∧ w103.cell? ((⟨g21, 0, none⟩ : Addr).add 4) = some (.int .i64 n127)) ∧ Cll Try.prog 13 #[(.agg #[(.slice A117 n118 c119), (.slice A120 n121 c122), (.slice A123 n124 c125), (.int .i64 n126), (.int .i64 n127)])] w103.drew fun v128 w129 => (∃ (A130 : Option Addr) (n131 : Nat) (c132 : Nat), True ∧ ∃ (A133 : Option Addr) (n134 : Nat) (c135 : Nat), True ∧ ∃ (A136 : Option Addr) (n137 : Nat) (c138 : Nat), True ∧ ∃ (n139 : Int), True ∧ ∃ (n140 : Int), True ∧ v128 = (.agg #[(.slice A130 n131 c132), (.slice A133 n134 c135), (.slice A136 n137 c138), (.int .i64 n139), (.int .i64 n140)]) ∧ SameBut M105 w103 w129 ∧ Cll Try.prog 15 #[(.agg #[(.slice A106 n107 c108), (.slice A109 n110 c111), (.slice A112 n113 c114), (.int .i64 n115), (.int .i64 n116)]), (.agg #[(.slice A130 n131 c132), (.slice A133 n134 c135), (.slice A136 n137 c138), (.int .i64 n139), (.int .i64 n140)])] w129 fun v141 w142 => (∃ (b143 : Bool), v141 = (.bool b143) ∧ SameBut M105 w103 w142 ∧ bcase (!b143) (K (.bool false) w142) (K (.bool true) w142)))))))))))

def laws_FnExactIsStuck.ann : Ann := (.seq .l (.seq .l (.seq .l (.seq (.seq .l (.two (.seq .l .l) .l)) (.seq .l (.seq .l (.seq .l (.seq (.seq .l (.two (.seq .l .l) .l)) (.seq (.seq .l (.two (.seq .l .l) .l)) (.seq .l .l))))))))))

theorem laws_FnExactIsStuck.vc_eq (A0_0 : Option Addr) (n0_0 : Nat) (c0_0 : Nat) (A0_1 : Option Addr) (n0_1 : Nat) (c0_1 : Nat) (A0_2 : Option Addr) (n0_2 : Nat) (c0_2 : Nat) (x0_3 : Int) (x0_4 : Int) (w : World) (K : Value → World → Prop) : vcF Try.prog Try.f5 laws_FnExactIsStuck.ann [(.agg #[(.slice A0_0 n0_0 c0_0), (.slice A0_1 n0_1 c0_1), (.slice A0_2 n0_2 c0_2), (.int .i64 x0_3), (.int .i64 x0_4)])] K w = laws_FnExactIsStuck.vc A0_0 n0_0 c0_0 A0_1 n0_1 c0_1 A0_2 n0_2 c0_2 x0_3 x0_4 w K := by kernel_rfl

theorem laws_FnExactIsStuck.start {A0_0 : Option Addr} {n0_0 : Nat} {c0_0 : Nat} {A0_1 : Option Addr} {n0_1 : Nat} {c0_1 : Nat} {A0_2 : Option Addr} {n0_2 : Nat} {c0_2 : Nat} {x0_3 : Int} {x0_4 : Int} {w : World} {K : Value → World → Prop} (h : laws_FnExactIsStuck.vc A0_0 n0_0 c0_0 A0_1 n0_1 c0_1 A0_2 n0_2 c0_2 x0_3 x0_4 w K) : Cll Try.prog 5 #[(.agg #[(.slice A0_0 n0_0 c0_0), (.slice A0_1 n0_1 c0_1), (.slice A0_2 n0_2 c0_2), (.int .i64 x0_3), (.int .i64 x0_4)])] w K :=
  vcF_sound mixed (fn := Try.f5) (by kernel_rfl) (by kernel_rfl) (an := laws_FnExactIsStuck.ann) (args := [(.agg #[(.slice A0_0 n0_0 c0_0), (.slice A0_1 n0_1 c0_1), (.slice A0_2 n0_2 c0_2), (.int .i64 x0_3), (.int .i64 x0_4)])]) (by rw [laws_FnExactIsStuck.vc_eq]; exact h)

theorem laws_FnExactIsStuck.con {s0 : D.Block} {A0_0 : Option Addr} {c0_0 : Nat} {A0_1 : Option Addr} {c0_1 : Nat} {A0_2 : Option Addr} {c0_2 : Nat} {r : Bool} {w : World} (hp : M.laws_FnExactIsStuck_pre s0) (hr : r = M.laws_FnExactIsStuck s0) (R0_0 : Row el78 w A0_0 s0.Code) (hc0_0 : s0.Code.length ≤ c0_0) (R0_1 : RowW 99 el148 el3 w A0_1 s0.Warps) (hc0_1 : s0.Warps.length ≤ c0_1) (R0_2 : Row el3 w A0_2 s0.Memory) (hc0_2 : s0.Memory.length ≤ c0_2) :
    Cll Try.prog 5 #[(.agg #[(.slice A0_0 s0.Code.length c0_0), (.slice A0_1 s0.Warps.length c0_1), (.slice A0_2 s0.Memory.length c0_2), (.int .i64 s0.Waiting), (.int .i64 s0.Phase)])] w (fun v_ w_ => v_ = (.bool r) ∧ Ext w w_) := by
  have H := wp.laws_FnExactIsStuck.math s0 hp
  have hB := Ext.refl w
  refine laws_FnExactIsStuck.start ?_
  unfold laws_FnExactIsStuck.vc
  unfold wp.laws_FnExactIsStuck at H
  refine newBlk (fun g4_ w21 L4 P4 e22 => ?_)
  have O4 := P4
  have L4 := Nat.le_trans hB.size L4
  have hB := ethen hB e22
  refine ⟨_, _, _, (O4.at 0 rfl rfl), ?_⟩
  refine ⟨_, _, _, (O4.at 1 rfl rfl), ?_⟩
  refine ⟨_, _, _, (O4.at 2 rfl rfl), ?_⟩
  refine ⟨_, (O4.at 3 rfl rfl), ?_⟩
  refine ⟨_, (O4.at 4 rfl rfl), ?_⟩
  obtain ⟨hp25, H⟩ := H
  obtain ⟨r23, hr24⟩ : ∃ r_, r_ = M.laws_szBlock s0 1048576 := ⟨_, rfl⟩
  have H := H r23 hr24
  refine (laws_szBlock.con hp25 hr24 (R0_0.ext hB) hc0_0 (R0_1.ext hB) hc0_1 (R0_2.ext hB) hc0_2).mono ?_
  rintro _ w26 ⟨rfl, e27⟩
  have O4 := O4.ext e27
  have hB := ethen hB e27
  refine ⟨r23, rfl, ?_⟩
  refine bcase_mk (fun hc86 => ?_) (fun hc86 => ?_)
  · have H := (bcase_iff.1 H).1 hc86
    obtain rfl := hr.trans H.symm
    exact ⟨rfl, hB⟩
  · have H := (bcase_iff.1 H).2 hc86
    refine ⟨_, _, _, (O4.at 0 rfl rfl), ?_⟩
    refine ⟨_, _, _, (O4.at 1 rfl rfl), ?_⟩
    refine ⟨_, _, _, (O4.at 2 rfl rfl), ?_⟩
    refine ⟨_, (O4.at 3 rfl rfl), ?_⟩
    refine ⟨_, (O4.at 4 rfl rfl), ?_⟩
    obtain ⟨hp30, H⟩ := H
    obtain ⟨r28, hr29⟩ : ∃ r_, r_ = M.laws_toBlock s0 := ⟨_, rfl⟩
    have H := H r28 hr29
    refine (laws_toBlock.con hp30 hr29 (R0_0.ext hB) hc0_0 (R0_1.ext hB) hc0_1 (R0_2.ext hB) hc0_2).mono ?_
    rintro _ w31 ⟨A33, c34, A35, c36, F39, A37, c38, rfl, P5, P6, P7, N6_7, e32⟩
    have N5_4 := P5.apart_old O4.lt
    have N6_4 := P6.new_disbox O4 (Nat.le_refl _)
    have N7_4 := P7.apart_old O4.lt
    have O4 := O4.ext e32
    have O5 := P5.mono hB.size
    have O6 := P6.mono hB.size
    have O7 := P7.mono hB.size
    have hB := ethen hB e32
    refine ⟨A33, r28.Code.length, c34, trivial, ?_⟩
    refine ⟨A35, r28.Warps.length, c36, trivial, ?_⟩
    refine ⟨A37, r28.Memory.length, c38, trivial, ?_⟩
    refine ⟨r28.Waiting, trivial, ?_⟩
    refine ⟨r28.Phase, trivial, ?_⟩
    refine ⟨rfl, ?_⟩
    obtain ⟨hp42, H⟩ := H
    obtain ⟨r40, hr41⟩ : ∃ r_, r_ = M.spec_IsStuck r28 := ⟨_, rfl⟩
    have H := H r40 hr41
    refine (spec_IsStuck.con hp42 hr41 O5.row O5.le O6.row O6.le O7.row O7.le).mono ?_
    rintro _ w43 ⟨rfl, e44⟩
    have O4 := O4.ext e44
    have O5 := O5.ext e44
    have O6 := O6.ext e44
    have O7 := O7.ext e44
    have hB := ethen hB e44
    refine ⟨r40, rfl, ?_⟩
    refine ⟨_, _, _, (O4.at 0 rfl rfl), ?_⟩
    refine ⟨_, _, _, (O4.at 1 rfl rfl), ?_⟩
    refine ⟨_, _, _, (O4.at 2 rfl rfl), ?_⟩
    refine ⟨_, (O4.at 3 rfl rfl), ?_⟩
    refine ⟨_, (O4.at 4 rfl rfl), ?_⟩
    obtain ⟨hp47, H⟩ := H
    obtain ⟨r45, hr46⟩ : ∃ r_, r_ = M.laws_toBlock s0 := ⟨_, rfl⟩
    have H := H r45 hr46
    refine (laws_toBlock.con hp47 hr46 (R0_0.ext hB) hc0_0 (R0_1.ext hB) hc0_1 (R0_2.ext hB) hc0_2).mono ?_
    rintro _ w48 ⟨A50, c51, A52, c53, F56, A54, c55, rfl, P8, P9, P10, N9_10, e49⟩
    have N8_4 := P8.apart_old O4.lt
    have N5_8 := Own.apart2_new O5 P8 (Nat.le_refl _)
    have N6_8 := O6.dis_new P8 (Nat.le_refl _)
    have N7_8 := Own.apart2_new O7 P8 (Nat.le_refl _)
    have N9_4 := P9.new_disbox O4 (Nat.le_refl _)
    have N9_5 := P9.new_dis O5 (Nat.le_refl _)
    have N6_9 := O6.dis_neww P9 (Nat.le_refl _)
    have N9_7 := P9.new_dis O7 (Nat.le_refl _)
    have N10_4 := P10.apart_old O4.lt
    have N5_10 := Own.apart2_new O5 P10 (Nat.le_refl _)
    have N6_10 := O6.dis_new P10 (Nat.le_refl _)
    have N7_10 := Own.apart2_new O7 P10 (Nat.le_refl _)
    have O4 := O4.ext e49
    have O5 := O5.ext e49
    have O6 := O6.ext e49
    have O7 := O7.ext e49
    have O8 := P8.mono hB.size
    have O9 := P9.mono hB.size
    have O10 := P10.mono hB.size
    have hB := ethen hB e49
    refine ⟨A50, r45.Code.length, c51, trivial, ?_⟩
    refine ⟨A52, r45.Warps.length, c53, trivial, ?_⟩
    refine ⟨A54, r45.Memory.length, c55, trivial, ?_⟩
    refine ⟨r45.Waiting, trivial, ?_⟩
    refine ⟨r45.Phase, trivial, ?_⟩
    refine ⟨rfl, ?_⟩
    refine newBlk (fun g11_ w57 L11 P11 e58 => ?_)
    have N4_11 := O4.ne L11
    have N5_11 := O5.apart_new L11
    have N6_11 := O6.dis_newbox L11
    have N7_11 := O7.apart_new L11
    have N8_11 := O8.apart_new L11
    have N9_11 := O9.dis_newbox L11
    have N10_11 := O10.apart_new L11
    have O4 := O4.ext e58
    have O5 := O5.ext e58
    have O6 := O6.ext e58
    have O7 := O7.ext e58
    have O8 := O8.ext e58
    have O9 := O9.ext e58
    have O10 := O10.ext e58
    have O11 := P11
    have L11 := Nat.le_trans hB.size L11
    have hB := ethen hB e58
    refine stBlk O11 (o := 0) (cs' := #[(.slice A50 r45.Code.length c51), (.slice A52 r45.Warps.length c53), (.slice A54 r45.Memory.length c55), (.int .i64 r45.Waiting), (.int .i64 r45.Phase)]) rfl rfl (Nat.le_of_ble_eq_true rfl) rfl (fun w59 P11 e60 => ?_)
    have O4_ := O4.chg e60 N4_11
    have O5_ := O5.chg e60 N5_11
    have O6_ := O6.chg e60 N6_11
    have O7_ := O7.chg e60 N7_11
    have O8_ := O8.chg e60 N8_11
    have O9_ := O9.chg e60 N9_11
    have O10_ := O10.chg e60 N10_11
    have O4 := O4_
    have O5 := O5_
    have O6 := O6_
    have O7 := O7_
    have O8 := O8_
    have O9 := O9_
    have O10 := O10_
    have hB := echg hB e60 L11
    have O11 := P11
    refine ⟨_, _, _, (O11.at 0 rfl rfl), ?_⟩
    refine ⟨_, _, _, (O11.at 1 rfl rfl), ?_⟩
    refine ⟨_, _, _, (O11.at 2 rfl rfl), ?_⟩
    refine ⟨_, (O11.at 3 rfl rfl), ?_⟩
    refine ⟨_, (O11.at 4 rfl rfl), ?_⟩
    obtain ⟨hp63, H⟩ := H
    obtain ⟨r61, hr62⟩ : ∃ r_, r_ = M.impl_IsStuck r45 := ⟨_, rfl⟩
    have H := H r61 hr62
    refine (impl_IsStuck.con hp63 hr62 O8.row O8.le O9.row O9.le O10.row O10.le).mono ?_
    rintro _ w64 ⟨rfl, e65⟩
    have O4 := O4.ext e65
    have O5 := O5.ext e65
    have O6 := O6.ext e65
    have O7 := O7.ext e65
    have O8 := O8.ext e65
    have O9 := O9.ext e65
    have O10 := O10.ext e65
    have O11 := O11.ext e65
    have hB := ethen hB e65
    refine ⟨r61, rfl, ?_⟩
    refine bcase_mk (fun hc85 => ?_) (fun hc85 => ?_)
    · have H := (bcase_iff.1 H).1 hc85
      obtain rfl := hr.trans H.symm
      exact ⟨rfl, hB⟩
    · have H := (bcase_iff.1 H).2 hc85
      refine ⟨(fun _ => False), ?_⟩
      refine ⟨_, _, _, ⟨(fun h_ => h_), (O11.at 0 rfl rfl)⟩, ?_⟩
      refine ⟨_, _, _, ⟨(fun h_ => h_), (O11.at 1 rfl rfl)⟩, ?_⟩
      refine ⟨_, _, _, ⟨(fun h_ => h_), (O11.at 2 rfl rfl)⟩, ?_⟩
      refine ⟨_, ⟨(fun h_ => h_), (O11.at 3 rfl rfl)⟩, ?_⟩
      refine ⟨_, ⟨(fun h_ => h_), (O11.at 4 rfl rfl)⟩, ?_⟩
      refine ⟨_, _, _, ⟨(fun h_ => h_), (O4.at 0 rfl rfl)⟩, ?_⟩
      refine ⟨_, _, _, ⟨(fun h_ => h_), (O4.at 1 rfl rfl)⟩, ?_⟩
      refine ⟨_, _, _, ⟨(fun h_ => h_), (O4.at 2 rfl rfl)⟩, ?_⟩
      refine ⟨_, ⟨(fun h_ => h_), (O4.at 3 rfl rfl)⟩, ?_⟩
      refine ⟨_, ⟨(fun h_ => h_), (O4.at 4 rfl rfl)⟩, ?_⟩
      have hS66 := Chg.refl (fun _ => False) w64
      have O4 := O4.ext (Ext.drew _)
      have O5 := O5.ext (Ext.drew _)
      have O6 := O6.ext (Ext.drew _)
      have O7 := O7.ext (Ext.drew _)
      have O8 := O8.ext (Ext.drew _)
      have O9 := O9.ext (Ext.drew _)
      have O10 := O10.ext (Ext.drew _)
      have O11 := O11.ext (Ext.drew _)
      have hB := ethen hB (Ext.drew _)
      have hS66 := hS66.then (Ext.drew _)
      obtain ⟨hp69, H⟩ := H
      obtain ⟨r67, hr68⟩ : ∃ r_, r_ = M.laws_toBlock s0 := ⟨_, rfl⟩
      have H := H r67 hr68
      refine (laws_toBlock.con hp69 hr68 (R0_0.ext hB) hc0_0 (R0_1.ext hB) hc0_1 (R0_2.ext hB) hc0_2).mono ?_
      rintro _ w70 ⟨A72, c73, A74, c75, F78, A76, c77, rfl, P12, P13, P14, N13_14, e71⟩
      have N12_4 := P12.apart_old O4.lt
      have N5_12 := Own.apart2_new O5 P12 (Nat.le_refl _)
      have N6_12 := O6.dis_new P12 (Nat.le_refl _)
      have N7_12 := Own.apart2_new O7 P12 (Nat.le_refl _)
      have N8_12 := Own.apart2_new O8 P12 (Nat.le_refl _)
      have N9_12 := O9.dis_new P12 (Nat.le_refl _)
      have N10_12 := Own.apart2_new O10 P12 (Nat.le_refl _)
      have N12_11 := P12.apart_old O11.lt
      have N13_4 := P13.new_disbox O4 (Nat.le_refl _)
      have N13_5 := P13.new_dis O5 (Nat.le_refl _)
      have N6_13 := O6.dis_neww P13 (Nat.le_refl _)
      have N13_7 := P13.new_dis O7 (Nat.le_refl _)
      have N13_8 := P13.new_dis O8 (Nat.le_refl _)
      have N9_13 := O9.dis_neww P13 (Nat.le_refl _)
      have N13_10 := P13.new_dis O10 (Nat.le_refl _)
      have N13_11 := P13.new_disbox O11 (Nat.le_refl _)
      have N14_4 := P14.apart_old O4.lt
      have N5_14 := Own.apart2_new O5 P14 (Nat.le_refl _)
      have N6_14 := O6.dis_new P14 (Nat.le_refl _)
      have N7_14 := Own.apart2_new O7 P14 (Nat.le_refl _)
      have N8_14 := Own.apart2_new O8 P14 (Nat.le_refl _)
      have N9_14 := O9.dis_new P14 (Nat.le_refl _)
      have N10_14 := Own.apart2_new O10 P14 (Nat.le_refl _)
      have N14_11 := P14.apart_old O11.lt
      have O4 := O4.ext e71
      have O5 := O5.ext e71
      have O6 := O6.ext e71
      have O7 := O7.ext e71
      have O8 := O8.ext e71
      have O9 := O9.ext e71
      have O10 := O10.ext e71
      have O11 := O11.ext e71
      have LB12 := (P12.mono hS66.size).low
      have LB13 := (P13.mono hS66.size).lowW
      have LB14 := (P14.mono hS66.size).low
      have O12 := P12.mono hB.size
      have O13 := P13.mono hB.size
      have O14 := P14.mono hB.size
      have hB := ethen hB e71
      have hS66 := hS66.then e71
      refine ⟨A72, r67.Code.length, c73, trivial, ?_⟩
      refine ⟨A74, r67.Warps.length, c75, trivial, ?_⟩
      refine ⟨A76, r67.Memory.length, c77, trivial, ?_⟩
      refine ⟨r67.Waiting, trivial, ?_⟩
      refine ⟨r67.Phase, trivial, ?_⟩
      refine ⟨rfl, ?_⟩
      refine ⟨sameBut_chg hS66, ?_⟩
      obtain ⟨hp81, H⟩ := H
      obtain ⟨r79, hr80⟩ : ∃ r_, r_ = M.laws_eqBlock r45 r67 := ⟨_, rfl⟩
      have H := H r79 hr80
      refine (laws_eqBlock.con hp81 hr80 O8.row O8.le O9.row O9.le O10.row O10.le O12.row O12.le O13.row O13.le O14.row O14.le).mono ?_
      rintro _ w82 ⟨rfl, e83⟩
      have O4 := O4.ext e83
      have O5 := O5.ext e83
      have O6 := O6.ext e83
      have O7 := O7.ext e83
      have O8 := O8.ext e83
      have O9 := O9.ext e83
      have O10 := O10.ext e83
      have O11 := O11.ext e83
      have O12 := O12.ext e83
      have O13 := O13.ext e83
      have O14 := O14.ext e83
      have hB := ethen hB e83
      have hS66 := hS66.then e83
      refine ⟨r79, rfl, ?_⟩
      refine ⟨sameBut_chg hS66, ?_⟩
      refine bcase_mk (fun hc84 => ?_) (fun hc84 => ?_)
      · have H := (bcase_iff.1 H).1 hc84
        obtain rfl := hr.trans H.symm
        exact ⟨rfl, hB⟩
      · have H := (bcase_iff.1 H).2 hc84
        obtain rfl := hr.trans H.symm
        exact ⟨rfl, hB⟩

def spec_StuckReason.vc (A0_0 : Option Addr) (n0_0 : Nat) (c0_0 : Nat) (A0_1 : Option Addr) (n0_1 : Nat) (c0_1 : Nat) (A0_2 : Option Addr) (n0_2 : Nat) (c0_2 : Nat) (x0_3 : Int) (x0_4 : Int) (w : World) (K : Value → World → Prop) : Prop :=
  newK w (.cells #[(.slice A0_0 n0_0 c0_0), (.slice A0_1 n0_1 c0_1), (.slice A0_2 n0_2 c0_2), (.int .i64 x0_3), (.int .i64 x0_4)] 32) fun g21 w22 => ∃ (A23 : Option Addr) (n24 : Nat) (c25 : Nat), w22.cell? ((⟨g21, 0, none⟩ : Addr).add 0) = some (.slice A23 n24 c25) ∧ ∃ (A26 : Option Addr) (n27 : Nat) (c28 : Nat), w22.cell? ((⟨g21, 0, none⟩ : Addr).add 1) = some (.slice A26 n27 c28) ∧ ∃ (A29 : Option Addr) (n30 : Nat) (c31 : Nat), w22.cell? ((⟨g21, 0, none⟩ : Addr).add 2) = some (.slice A29 n30 c31) ∧ ∃ (n32 : Int), w22.cell? ((⟨g21, 0, none⟩ : Addr).add 3) = some (.int .i64 n32) ∧ ∃ (n33 : Int), w22.cell? ((⟨g21, 0, none⟩ : Addr).add 4) = some (.int .i64 n33) ∧ Cll Try.prog 18 #[(.agg #[(.slice A23 n24 c25), (.slice A26 n27 c28), (.slice A29 n30 c31), (.int .i64 n32), (.int .i64 n33)])] w22 fun v34 w35 => (∃ (b36 : Bool), v34 = (.bool b36) ∧ bcase (!b36) (K (.string (⟨#[]⟩)) w35) (LoopT (σ := Int × Unit) (fun z37 w38 next39 => ∃ (A40 : Option Addr) (n41 : Nat) (c42 : Nat), w38.cell? (((⟨g21, 0, none⟩ : Addr).add 1).add 0) = some (.slice A40 n41 c42) ∧ bcase (decide (z37.1 < ((n41 : Nat) : Int))) (∃ (A43 : Option Addr) (n44 : Nat) (c45 : Nat), w38.cell? ((⟨g21, 0, none⟩ : Addr).add 0) = some (.slice A43 n44 c45) ∧ ∃ (A46 : Option Addr) (n47 : Nat) (c48 : Nat), w38.cell? ((⟨g21, 0, none⟩ : Addr).add 1) = some (.slice A46 n47 c48) ∧ ∃ (A49 : Option Addr) (n50 : Nat) (c51 : Nat), w38.cell? ((⟨g21, 0, none⟩ : Addr).add 2) = some (.slice A49 n50 c51) ∧ ∃ (n52 : Int), w38.cell? ((⟨g21, 0, none⟩ : Addr).add 3) = some (.int .i64 n52) ∧ ∃ (n53 : Int), w38.cell? ((⟨g21, 0, none⟩ : Addr).add 4) = some (.int .i64 n53) ∧ Cll Try.prog 60 #[(.agg #[(.slice A43 n44 c45), (.slice A46 n47 c48), (.slice A49 n50 c51), (.int .i64 n52), (.int .i64 n53)]), (.int .i64 z37.1)] w38 fun v54 w55 => (∃ (b56 : Bool), v54 = (.bool b56) ∧ bcase b56 (K (.string (⟨#[115, 112, 108, 105, 116]⟩)) w55) (next39 ((IntKind.wrap .i64 (z37.1 + 1)), ()) w55))) (K (.string (⟨#[102, 114, 97, 109, 101, 115]⟩)) w38)) (0, ()) w35))

def spec_StuckReason.ann : Ann := (.seq .l (.seq (.seq .l (.two (.seq .l .l) .l)) (.seq (.seq .l (.one (.loop [(3, .int .i64)] (.seq (.seq .l (.two .l .l)) (.seq (.one (.seq .l (.two (.seq .l .l) .l))) .l))))) (.seq .l .l))))

theorem spec_StuckReason.vc_eq (A0_0 : Option Addr) (n0_0 : Nat) (c0_0 : Nat) (A0_1 : Option Addr) (n0_1 : Nat) (c0_1 : Nat) (A0_2 : Option Addr) (n0_2 : Nat) (c0_2 : Nat) (x0_3 : Int) (x0_4 : Int) (w : World) (K : Value → World → Prop) : vcF Try.prog Try.f20 spec_StuckReason.ann [(.agg #[(.slice A0_0 n0_0 c0_0), (.slice A0_1 n0_1 c0_1), (.slice A0_2 n0_2 c0_2), (.int .i64 x0_3), (.int .i64 x0_4)])] K w = spec_StuckReason.vc A0_0 n0_0 c0_0 A0_1 n0_1 c0_1 A0_2 n0_2 c0_2 x0_3 x0_4 w K := by kernel_rfl

theorem spec_StuckReason.start {A0_0 : Option Addr} {n0_0 : Nat} {c0_0 : Nat} {A0_1 : Option Addr} {n0_1 : Nat} {c0_1 : Nat} {A0_2 : Option Addr} {n0_2 : Nat} {c0_2 : Nat} {x0_3 : Int} {x0_4 : Int} {w : World} {K : Value → World → Prop} (h : spec_StuckReason.vc A0_0 n0_0 c0_0 A0_1 n0_1 c0_1 A0_2 n0_2 c0_2 x0_3 x0_4 w K) : Cll Try.prog 20 #[(.agg #[(.slice A0_0 n0_0 c0_0), (.slice A0_1 n0_1 c0_1), (.slice A0_2 n0_2 c0_2), (.int .i64 x0_3), (.int .i64 x0_4)])] w K :=
  vcF_sound mixed (fn := Try.f20) (by kernel_rfl) (by kernel_rfl) (an := spec_StuckReason.ann) (args := [(.agg #[(.slice A0_0 n0_0 c0_0), (.slice A0_1 n0_1 c0_1), (.slice A0_2 n0_2 c0_2), (.int .i64 x0_3), (.int .i64 x0_4)])]) (by rw [spec_StuckReason.vc_eq]; exact h)

theorem spec_StuckReason.con {s0 : D.Block} {A0_0 : Option Addr} {c0_0 : Nat} {A0_1 : Option Addr} {c0_1 : Nat} {A0_2 : Option Addr} {c0_2 : Nat} {r : ByteArray} {w : World} (hp : M.spec_StuckReason_pre s0) (hr : r = M.spec_StuckReason s0) (R0_0 : Row el76 w A0_0 s0.Code) (hc0_0 : s0.Code.length ≤ c0_0) (R0_1 : RowW 102 el132 el3 w A0_1 s0.Warps) (hc0_1 : s0.Warps.length ≤ c0_1) (R0_2 : Row el3 w A0_2 s0.Memory) (hc0_2 : s0.Memory.length ≤ c0_2) :
    Cll Try.prog 20 #[(.agg #[(.slice A0_0 s0.Code.length c0_0), (.slice A0_1 s0.Warps.length c0_1), (.slice A0_2 s0.Memory.length c0_2), (.int .i64 s0.Waiting), (.int .i64 s0.Phase)])] w (fun v_ w_ => v_ = (.string r) ∧ Ext w w_) := by
  have H := wp.spec_StuckReason.math s0 hp
  have hB := Ext.refl w
  refine spec_StuckReason.start ?_
  unfold spec_StuckReason.vc
  unfold wp.spec_StuckReason at H
  refine newBlk (fun g4_ w21 L4 P4 e22 => ?_)
  have O4 := P4
  have L4 := Nat.le_trans hB.size L4
  have hB := ethen hB e22
  refine ⟨_, _, _, (O4.at 0 rfl rfl), ?_⟩
  refine ⟨_, _, _, (O4.at 1 rfl rfl), ?_⟩
  refine ⟨_, _, _, (O4.at 2 rfl rfl), ?_⟩
  refine ⟨_, (O4.at 3 rfl rfl), ?_⟩
  refine ⟨_, (O4.at 4 rfl rfl), ?_⟩
  obtain ⟨hp25, H⟩ := H
  obtain ⟨r23, hr24⟩ : ∃ r_, r_ = M.spec_IsStuck s0 := ⟨_, rfl⟩
  have H := H r23 hr24
  refine (spec_IsStuck.con hp25 hr24 (R0_0.ext hB) hc0_0 (R0_1.ext hB) hc0_1 (R0_2.ext hB) hc0_2).mono ?_
  rintro _ w26 ⟨rfl, e27⟩
  have O4 := O4.ext e27
  have hB := ethen hB e27
  refine ⟨r23, rfl, ?_⟩
  refine bcase_mk (fun hc48 => ?_) (fun hc48 => ?_)
  · have H := (bcase_iff.1 H).1 hc48
    obtain rfl := hr.trans H.symm
    exact ⟨rfl, hB⟩
  · have H := (bcase_iff.1 H).2 hc48
    obtain ⟨J30, ⟨m46, hJ45⟩, hS31⟩ := H
    refine ⟨fun m_ z_ w_ => ∃ (i28 : Int), z_ = (i28, ()) ∧ J30 m_ (i28, ()) ∧ Ext w w_ ∧ Blk w_ g4_ 32 #[(.slice A0_0 s0.Code.length c0_0), (.slice A0_1 s0.Warps.length c0_1), (.slice A0_2 s0.Memory.length c0_2), (.int .i64 s0.Waiting), (.int .i64 s0.Phase)], ⟨m46, 0, rfl, hJ45, hB, O4⟩, ?_⟩
    rintro m29 _ w33 ⟨i28, rfl, hJ47, hB, O4⟩
    have H := hS31 m29 _ hJ47
    clear hS31 hJ47
    dsimp only at H ⊢
    refine ⟨_, _, _, (O4.at 1 rfl rfl), ?_⟩
    refine bcase_mk (fun hc43 => ?_) (fun hc43 => ?_)
    · have H := (bcase_iff.1 H).1 hc43
      refine ⟨_, _, _, (O4.at 0 rfl rfl), ?_⟩
      refine ⟨_, _, _, (O4.at 1 rfl rfl), ?_⟩
      refine ⟨_, _, _, (O4.at 2 rfl rfl), ?_⟩
      refine ⟨_, (O4.at 3 rfl rfl), ?_⟩
      refine ⟨_, (O4.at 4 rfl rfl), ?_⟩
      obtain ⟨hp36, H⟩ := H
      obtain ⟨r34, hr35⟩ : ∃ r_, r_ = M.spec_IsSplitBarrier s0 i28 := ⟨_, rfl⟩
      have H := H r34 hr35
      refine (spec_IsSplitBarrier.con hp36 hr35 (R0_0.ext hB) hc0_0 (R0_1.ext hB) hc0_1 (R0_2.ext hB) hc0_2).mono ?_
      rintro _ w37 ⟨rfl, e38⟩
      have O4 := O4.ext e38
      have hB := ethen hB e38
      refine ⟨r34, rfl, ?_⟩
      refine bcase_mk (fun hc42 => ?_) (fun hc42 => ?_)
      · have H := (bcase_iff.1 H).1 hc42
        obtain rfl := hr.trans H.symm
        exact ⟨rfl, hB⟩
      · have H := (bcase_iff.1 H).2 hc42
        obtain ⟨m39, hm40, hJ41⟩ := H
        exact ⟨m39, hm40, (IntKind.wrap .i64 (i28 + 1)), rfl, hJ41, hB, O4⟩
    · have H := (bcase_iff.1 H).2 hc43
      obtain rfl := hr.trans H.symm
      exact ⟨rfl, hB⟩

def impl_StuckReason.vc (A0_0 : Option Addr) (n0_0 : Nat) (c0_0 : Nat) (A0_1 : Option Addr) (n0_1 : Nat) (c0_1 : Nat) (A0_2 : Option Addr) (n0_2 : Nat) (c0_2 : Nat) (x0_3 : Int) (x0_4 : Int) (w : World) (K : Value → World → Prop) : Prop :=
  newK w (.cells #[(.slice A0_0 n0_0 c0_0), (.slice A0_1 n0_1 c0_1), (.slice A0_2 n0_2 c0_2), (.int .i64 x0_3), (.int .i64 x0_4)] 32) fun g21 w22 => ∃ (A23 : Option Addr) (n24 : Nat) (c25 : Nat), w22.cell? ((⟨g21, 0, none⟩ : Addr).add 0) = some (.slice A23 n24 c25) ∧ ∃ (A26 : Option Addr) (n27 : Nat) (c28 : Nat), w22.cell? ((⟨g21, 0, none⟩ : Addr).add 1) = some (.slice A26 n27 c28) ∧ ∃ (A29 : Option Addr) (n30 : Nat) (c31 : Nat), w22.cell? ((⟨g21, 0, none⟩ : Addr).add 2) = some (.slice A29 n30 c31) ∧ ∃ (n32 : Int), w22.cell? ((⟨g21, 0, none⟩ : Addr).add 3) = some (.int .i64 n32) ∧ ∃ (n33 : Int), w22.cell? ((⟨g21, 0, none⟩ : Addr).add 4) = some (.int .i64 n33) ∧ Cll Try.prog 19 #[(.agg #[(.slice A23 n24 c25), (.slice A26 n27 c28), (.slice A29 n30 c31), (.int .i64 n32), (.int .i64 n33)])] w22 fun v34 w35 => (∃ (b36 : Bool), v34 = (.bool b36) ∧ bcase (!b36) (K (.string (⟨#[]⟩)) w35) (∃ (A37 : Option Addr) (n38 : Nat) (c39 : Nat), w35.cell? (((⟨g21, 0, none⟩ : Addr).add 1).add 0) = some (.slice A37 n38 c39) ∧ LoopT (σ := Int × Unit) (fun z40 w41 next42 => bcase (decide (z40.1 < ((n38 : Nat) : Int))) (∃ (A43 : Option Addr) (n44 : Nat) (c45 : Nat), w41.cell? ((⟨g21, 0, none⟩ : Addr).add 0) = some (.slice A43 n44 c45) ∧ ∃ (A46 : Option Addr) (n47 : Nat) (c48 : Nat), w41.cell? ((⟨g21, 0, none⟩ : Addr).add 1) = some (.slice A46 n47 c48) ∧ ∃ (A49 : Option Addr) (n50 : Nat) (c51 : Nat), w41.cell? ((⟨g21, 0, none⟩ : Addr).add 2) = some (.slice A49 n50 c51) ∧ ∃ (n52 : Int), w41.cell? ((⟨g21, 0, none⟩ : Addr).add 3) = some (.int .i64 n52) ∧ ∃ (n53 : Int), w41.cell? ((⟨g21, 0, none⟩ : Addr).add 4) = some (.int .i64 n53) ∧ Cll Try.prog 61 #[(.agg #[(.slice A43 n44 c45), (.slice A46 n47 c48), (.slice A49 n50 c51), (.int .i64 n52), (.int .i64 n53)]), (.int .i64 z40.1)] w41 fun v54 w55 => (∃ (b56 : Bool), v54 = (.bool b56) ∧ bcase b56 (K (.string (⟨#[115, 112, 108, 105, 116]⟩)) w55) (next42 ((IntKind.wrap .i64 (z40.1 + 1)), ()) w55))) (K (.string (⟨#[102, 114, 97, 109, 101, 115]⟩)) w41)) (0, ()) w35))

def impl_StuckReason.ann : Ann := (.seq .l (.seq (.seq .l (.two (.seq .l .l) .l)) (.seq (.seq .l (.one (.loop [(10, .int .i64)] (.seq .l (.seq (.two .l .l) (.seq (.one (.seq .l (.seq .l (.two (.seq .l .l) .l)))) .l)))))) (.seq .l .l))))

theorem impl_StuckReason.vc_eq (A0_0 : Option Addr) (n0_0 : Nat) (c0_0 : Nat) (A0_1 : Option Addr) (n0_1 : Nat) (c0_1 : Nat) (A0_2 : Option Addr) (n0_2 : Nat) (c0_2 : Nat) (x0_3 : Int) (x0_4 : Int) (w : World) (K : Value → World → Prop) : vcF Try.prog Try.f21 impl_StuckReason.ann [(.agg #[(.slice A0_0 n0_0 c0_0), (.slice A0_1 n0_1 c0_1), (.slice A0_2 n0_2 c0_2), (.int .i64 x0_3), (.int .i64 x0_4)])] K w = impl_StuckReason.vc A0_0 n0_0 c0_0 A0_1 n0_1 c0_1 A0_2 n0_2 c0_2 x0_3 x0_4 w K := by kernel_rfl

theorem impl_StuckReason.start {A0_0 : Option Addr} {n0_0 : Nat} {c0_0 : Nat} {A0_1 : Option Addr} {n0_1 : Nat} {c0_1 : Nat} {A0_2 : Option Addr} {n0_2 : Nat} {c0_2 : Nat} {x0_3 : Int} {x0_4 : Int} {w : World} {K : Value → World → Prop} (h : impl_StuckReason.vc A0_0 n0_0 c0_0 A0_1 n0_1 c0_1 A0_2 n0_2 c0_2 x0_3 x0_4 w K) : Cll Try.prog 21 #[(.agg #[(.slice A0_0 n0_0 c0_0), (.slice A0_1 n0_1 c0_1), (.slice A0_2 n0_2 c0_2), (.int .i64 x0_3), (.int .i64 x0_4)])] w K :=
  vcF_sound mixed (fn := Try.f21) (by kernel_rfl) (by kernel_rfl) (an := impl_StuckReason.ann) (args := [(.agg #[(.slice A0_0 n0_0 c0_0), (.slice A0_1 n0_1 c0_1), (.slice A0_2 n0_2 c0_2), (.int .i64 x0_3), (.int .i64 x0_4)])]) (by rw [impl_StuckReason.vc_eq]; exact h)

theorem impl_StuckReason.con {s0 : D.Block} {A0_0 : Option Addr} {c0_0 : Nat} {A0_1 : Option Addr} {c0_1 : Nat} {A0_2 : Option Addr} {c0_2 : Nat} {r : ByteArray} {w : World} (hp : M.impl_StuckReason_pre s0) (hr : r = M.impl_StuckReason s0) (R0_0 : Row el76 w A0_0 s0.Code) (hc0_0 : s0.Code.length ≤ c0_0) (R0_1 : RowW 102 el132 el3 w A0_1 s0.Warps) (hc0_1 : s0.Warps.length ≤ c0_1) (R0_2 : Row el3 w A0_2 s0.Memory) (hc0_2 : s0.Memory.length ≤ c0_2) :
    Cll Try.prog 21 #[(.agg #[(.slice A0_0 s0.Code.length c0_0), (.slice A0_1 s0.Warps.length c0_1), (.slice A0_2 s0.Memory.length c0_2), (.int .i64 s0.Waiting), (.int .i64 s0.Phase)])] w (fun v_ w_ => v_ = (.string r) ∧ Ext w w_) := by
  have H := wp.impl_StuckReason.math s0 hp
  have hB := Ext.refl w
  refine impl_StuckReason.start ?_
  unfold impl_StuckReason.vc
  unfold wp.impl_StuckReason at H
  refine newBlk (fun g4_ w21 L4 P4 e22 => ?_)
  have O4 := P4
  have L4 := Nat.le_trans hB.size L4
  have hB := ethen hB e22
  refine ⟨_, _, _, (O4.at 0 rfl rfl), ?_⟩
  refine ⟨_, _, _, (O4.at 1 rfl rfl), ?_⟩
  refine ⟨_, _, _, (O4.at 2 rfl rfl), ?_⟩
  refine ⟨_, (O4.at 3 rfl rfl), ?_⟩
  refine ⟨_, (O4.at 4 rfl rfl), ?_⟩
  obtain ⟨hp25, H⟩ := H
  obtain ⟨r23, hr24⟩ : ∃ r_, r_ = M.impl_IsStuck s0 := ⟨_, rfl⟩
  have H := H r23 hr24
  refine (impl_IsStuck.con hp25 hr24 (R0_0.ext hB) hc0_0 (R0_1.ext hB) hc0_1 (R0_2.ext hB) hc0_2).mono ?_
  rintro _ w26 ⟨rfl, e27⟩
  have O4 := O4.ext e27
  have hB := ethen hB e27
  refine ⟨r23, rfl, ?_⟩
  refine bcase_mk (fun hc48 => ?_) (fun hc48 => ?_)
  · have H := (bcase_iff.1 H).1 hc48
    obtain rfl := hr.trans H.symm
    exact ⟨rfl, hB⟩
  · have H := (bcase_iff.1 H).2 hc48
    refine ⟨_, _, _, (O4.at 1 rfl rfl), ?_⟩
    obtain ⟨J30, ⟨m46, hJ45⟩, hS31⟩ := H
    refine ⟨fun m_ z_ w_ => ∃ (i28 : Int), z_ = (i28, ()) ∧ J30 m_ (i28, ()) ∧ Ext w w_ ∧ Blk w_ g4_ 32 #[(.slice A0_0 s0.Code.length c0_0), (.slice A0_1 s0.Warps.length c0_1), (.slice A0_2 s0.Memory.length c0_2), (.int .i64 s0.Waiting), (.int .i64 s0.Phase)], ⟨m46, 0, rfl, hJ45, hB, O4⟩, ?_⟩
    rintro m29 _ w33 ⟨i28, rfl, hJ47, hB, O4⟩
    have H := hS31 m29 _ hJ47
    clear hS31 hJ47
    dsimp only at H ⊢
    refine bcase_mk (fun hc43 => ?_) (fun hc43 => ?_)
    · have H := (bcase_iff.1 H).1 hc43
      refine ⟨_, _, _, (O4.at 0 rfl rfl), ?_⟩
      refine ⟨_, _, _, (O4.at 1 rfl rfl), ?_⟩
      refine ⟨_, _, _, (O4.at 2 rfl rfl), ?_⟩
      refine ⟨_, (O4.at 3 rfl rfl), ?_⟩
      refine ⟨_, (O4.at 4 rfl rfl), ?_⟩
      obtain ⟨hp36, H⟩ := H
      obtain ⟨r34, hr35⟩ : ∃ r_, r_ = M.impl_IsSplitBarrier s0 i28 := ⟨_, rfl⟩
      have H := H r34 hr35
      refine (impl_IsSplitBarrier.con hp36 hr35 (R0_0.ext hB) hc0_0 (R0_1.ext hB) hc0_1 (R0_2.ext hB) hc0_2).mono ?_
      rintro _ w37 ⟨rfl, e38⟩
      have O4 := O4.ext e38
      have hB := ethen hB e38
      refine ⟨r34, rfl, ?_⟩
      refine bcase_mk (fun hc42 => ?_) (fun hc42 => ?_)
      · have H := (bcase_iff.1 H).1 hc42
        obtain rfl := hr.trans H.symm
        exact ⟨rfl, hB⟩
      · have H := (bcase_iff.1 H).2 hc42
        obtain ⟨m39, hm40, hJ41⟩ := H
        exact ⟨m39, hm40, (IntKind.wrap .i64 (i28 + 1)), rfl, hJ41, hB, O4⟩
    · have H := (bcase_iff.1 H).2 hc43
      obtain rfl := hr.trans H.symm
      exact ⟨rfl, hB⟩

def laws_FnExactStuckReason.vc (A0_0 : Option Addr) (n0_0 : Nat) (c0_0 : Nat) (A0_1 : Option Addr) (n0_1 : Nat) (c0_1 : Nat) (A0_2 : Option Addr) (n0_2 : Nat) (c0_2 : Nat) (x0_3 : Int) (x0_4 : Int) (w : World) (K : Value → World → Prop) : Prop :=
  newK w (.cells #[(.slice A0_0 n0_0 c0_0), (.slice A0_1 n0_1 c0_1), (.slice A0_2 n0_2 c0_2), (.int .i64 x0_3), (.int .i64 x0_4)] 26) fun g21 w22 => ∃ (A23 : Option Addr) (n24 : Nat) (c25 : Nat), w22.cell? ((⟨g21, 0, none⟩ : Addr).add 0) = some (.slice A23 n24 c25) ∧ ∃ (A26 : Option Addr) (n27 : Nat) (c28 : Nat), w22.cell? ((⟨g21, 0, none⟩ : Addr).add 1) = some (.slice A26 n27 c28) ∧ ∃ (A29 : Option Addr) (n30 : Nat) (c31 : Nat), w22.cell? ((⟨g21, 0, none⟩ : Addr).add 2) = some (.slice A29 n30 c31) ∧ ∃ (n32 : Int), w22.cell? ((⟨g21, 0, none⟩ : Addr).add 3) = some (.int .i64 n32) ∧ ∃ (n33 : Int), w22.cell? ((⟨g21, 0, none⟩ : Addr).add 4) = some (.int .i64 n33) ∧ Cll Try.prog 11 #[(.agg #[(.slice A23 n24 c25), (.slice A26 n27 c28), (.slice A29 n30 c31), (.int .i64 n32), (.int .i64 n33)]), (.int .i64 1048576)] w22 fun v34 w35 => (∃ (n36 : Int), v34 = (.int .i64 n36) ∧ bcase (decide (n36 < 0)) (K (.bool true) w35) (∃ (A37 : Option Addr) (n38 : Nat) (c39 : Nat), w35.cell? ((⟨g21, 0, none⟩ : Addr).add 0) = some (.slice A37 n38 c39) ∧ ∃ (A40 : Option Addr) (n41 : Nat) (c42 : Nat), w35.cell? ((⟨g21, 0, none⟩ : Addr).add 1) = some (.slice A40 n41 c42) ∧ ∃ (A43 : Option Addr) (n44 : Nat) (c45 : Nat), w35.cell? ((⟨g21, 0, none⟩ : Addr).add 2) = some (.slice A43 n44 c45) ∧ ∃ (n46 : Int), w35.cell? ((⟨g21, 0, none⟩ : Addr).add 3) = some (.int .i64 n46) ∧ ∃ (n47 : Int), w35.cell? ((⟨g21, 0, none⟩ : Addr).add 4) = some (.int .i64 n47) ∧ Cll Try.prog 13 #[(.agg #[(.slice A37 n38 c39), (.slice A40 n41 c42), (.slice A43 n44 c45), (.int .i64 n46), (.int .i64 n47)])] w35 fun v48 w49 => (∃ (A50 : Option Addr) (n51 : Nat) (c52 : Nat), True ∧ ∃ (A53 : Option Addr) (n54 : Nat) (c55 : Nat), True ∧ ∃ (A56 : Option Addr) (n57 : Nat) (c58 : Nat), True ∧ ∃ (n59 : Int), True ∧ ∃ (n60 : Int), True ∧ v48 = (.agg #[(.slice A50 n51 c52), (.slice A53 n54 c55), (.slice A56 n57 c58), (.int .i64 n59), (.int .i64 n60)]) ∧ Cll Try.prog 20 #[(.agg #[(.slice A50 n51 c52), (.slice A53 n54 c55), (.slice A56 n57 c58), (.int .i64 n59), (.int .i64 n60)])] w49 fun v61 w62 => (∃ (s63 : ByteArray), v61 = (.string s63) ∧ ∃ (A64 : Option Addr) (n65 : Nat) (c66 : Nat), w62.cell? ((⟨g21, 0, none⟩ : Addr).add 0) = some (.slice A64 n65 c66) ∧ ∃ (A67 : Option Addr) (n68 : Nat) (c69 : Nat), w62.cell? ((⟨g21, 0, none⟩ : Addr).add 1) = some (.slice A67 n68 c69) ∧ ∃ (A70 : Option Addr) (n71 : Nat) (c72 : Nat), w62.cell? ((⟨g21, 0, none⟩ : Addr).add 2) = some (.slice A70 n71 c72) ∧ ∃ (n73 : Int), w62.cell? ((⟨g21, 0, none⟩ : Addr).add 3) = some (.int .i64 n73) ∧ ∃ (n74 : Int), w62.cell? ((⟨g21, 0, none⟩ : Addr).add 4) = some (.int .i64 n74) ∧ Cll Try.prog 13 #[(.agg #[(.slice A64 n65 c66), (.slice A67 n68 c69), (.slice A70 n71 c72), (.int .i64 n73), (.int .i64 n74)])] w62 fun v75 w76 => (∃ (A77 : Option Addr) (n78 : Nat) (c79 : Nat), True ∧ ∃ (A80 : Option Addr) (n81 : Nat) (c82 : Nat), True ∧ ∃ (A83 : Option Addr) (n84 : Nat) (c85 : Nat), True ∧ ∃ (n86 : Int), True ∧ ∃ (n87 : Int), True ∧ v75 = (.agg #[(.slice A77 n78 c79), (.slice A80 n81 c82), (.slice A83 n84 c85), (.int .i64 n86), (.int .i64 n87)]) ∧ newK w76 (.cells #[(.slice none 0 0), (.slice none 0 0), (.slice none 0 0), (.int .i64 0), (.int .i64 0)] 32) fun g88 w89 => stCells (⟨g88, 0, none⟩ : Addr) [(.slice A77 n78 c79), (.slice A80 n81 c82), (.slice A83 n84 c85), (.int .i64 n86), (.int .i64 n87)] 0 w89 fun w90 => ∃ (A91 : Option Addr) (n92 : Nat) (c93 : Nat), w90.cell? ((⟨g88, 0, none⟩ : Addr).add 0) = some (.slice A91 n92 c93) ∧ ∃ (A94 : Option Addr) (n95 : Nat) (c96 : Nat), w90.cell? ((⟨g88, 0, none⟩ : Addr).add 1) = some (.slice A94 n95 c96) ∧ ∃ (A97 : Option Addr) (n98 : Nat) (c99 : Nat), w90.cell? ((⟨g88, 0, none⟩ : Addr).add 2) = some (.slice A97 n98 c99) ∧ ∃ (n100 : Int), w90.cell? ((⟨g88, 0, none⟩ : Addr).add 3) = some (.int .i64 n100) ∧ ∃ (n101 : Int), w90.cell? ((⟨g88, 0, none⟩ : Addr).add 4) = some (.int .i64 n101) ∧ Cll Try.prog 21 #[(.agg #[(.slice A91 n92 c93), (.slice A94 n95 c96), (.slice A97 n98 c99), (.int .i64 n100), (.int .i64 n101)])] w90 fun v102 w103 => (∃ (s104 : ByteArray), v102 = (.string s104) ∧ bcase (!(ByteArray.toList s104 == ByteArray.toList s63)) (K (.bool false) w103) ((∃ M105 : Nat → Prop, ∃ (A106 : Option Addr) (n107 : Nat) (c108 : Nat), (¬ M105 ((⟨g88, 0, none⟩ : Addr)).block ∧ w103.cell? ((⟨g88, 0, none⟩ : Addr).add 0) = some (.slice A106 n107 c108)) ∧ ∃ (A109 : Option Addr) (n110 : Nat) (c111 : Nat), (¬ M105 ((⟨g88, 0, none⟩ : Addr)).block ∧ w103.cell? ((⟨g88, 0, none⟩ : Addr).add 1) = some (.slice A109 n110 c111)) ∧ ∃ (A112 : Option Addr) (n113 : Nat) (c114 : Nat), (¬ M105 ((⟨g88, 0, none⟩ : Addr)).block ∧ w103.cell? ((⟨g88, 0, none⟩ : Addr).add 2) = some (.slice A112 n113 c114)) ∧ ∃ (n115 : Int), (¬ M105 ((⟨g88, 0, none⟩ : Addr)).block ∧ w103.cell? ((⟨g88, 0, none⟩ : Addr).add 3) = some (.int .i64 n115)) ∧ ∃ (n116 : Int), (¬ M105 ((⟨g88, 0, none⟩ : Addr)).block ∧ w103.cell? ((⟨g88, 0, none⟩ : Addr).add 4) = some (.int .i64 n116)) ∧ ∃ (A117 : Option Addr) (n118 : Nat) (c119 : Nat), (¬ M105 ((⟨g21, 0, none⟩ : Addr)).block ∧ w103.cell? ((⟨g21, 0, none⟩ : Addr).add 0) = some (.slice A117 n118 c119)) ∧ ∃ (A120 : Option Addr) (n121 : Nat) (c122 : Nat), (¬ M105 ((⟨g21, 0, none⟩ : Addr)).block ∧ w103.cell? ((⟨g21, 0, none⟩ : Addr).add 1) = some (.slice A120 n121 c122)) ∧ ∃ (A123 : Option Addr) (n124 : Nat) (c125 : Nat), (¬ M105 ((⟨g21, 0, none⟩ : Addr)).block ∧ w103.cell? ((⟨g21, 0, none⟩ : Addr).add 2) = some (.slice A123 n124 c125)) ∧ ∃ (n126 : Int), (¬ M105 ((⟨g21, 0, none⟩ : Addr)).block ∧ w103.cell? ((⟨g21, 0, none⟩ : Addr).add 3) = some (.int .i64 n126)) ∧ ∃ (n127 : Int), (¬ M105 ((⟨g21, 0, none⟩ : Addr)).block ∧ w103.cell? ((⟨g21, 0, none⟩ : Addr).add 4) = some (.int .i64 n127)) ∧ Cll Try.prog 13 #[(.agg #[(.slice A117 n118 c119), (.slice A120 n121 c122), (.slice A123 n124 c125), (.int .i64 n126), (.int .i64 n127)])] w103.drew fun v128 w129 => (∃ (A130 : Option Addr) (n131 : Nat) (c132 : Nat), True ∧ ∃ (A133 : Option Addr) (n134 : Nat) (c135 : Nat), True ∧ ∃ (A136 : Option Addr) (n137 : Nat) (c138 : Nat), True ∧ ∃ (n139 : Int), True ∧ ∃ (n140 : Int), True ∧ v128 = (.agg #[(.slice A130 n131 c132), (.slice A133 n134 c135), (.slice A136 n137 c138), (.int .i64 n139), (.int .i64 n140)]) ∧ SameBut M105 w103 w129 ∧ Cll Try.prog 15 #[(.agg #[(.slice A106 n107 c108), (.slice A109 n110 c111), (.slice A112 n113 c114), (.int .i64 n115), (.int .i64 n116)]), (.agg #[(.slice A130 n131 c132), (.slice A133 n134 c135), (.slice A136 n137 c138), (.int .i64 n139), (.int .i64 n140)])] w129 fun v141 w142 => (∃ (b143 : Bool), v141 = (.bool b143) ∧ SameBut M105 w103 w142 ∧ bcase (!b143) (K (.bool false) w142) (K (.bool true) w142)))))))))))

def laws_FnExactStuckReason.ann : Ann := (.seq .l (.seq .l (.seq .l (.seq (.seq .l (.two (.seq .l .l) .l)) (.seq .l (.seq .l (.seq .l (.seq (.seq .l (.two (.seq .l .l) .l)) (.seq (.seq .l (.two (.seq .l .l) .l)) (.seq .l .l))))))))))

theorem laws_FnExactStuckReason.vc_eq (A0_0 : Option Addr) (n0_0 : Nat) (c0_0 : Nat) (A0_1 : Option Addr) (n0_1 : Nat) (c0_1 : Nat) (A0_2 : Option Addr) (n0_2 : Nat) (c0_2 : Nat) (x0_3 : Int) (x0_4 : Int) (w : World) (K : Value → World → Prop) : vcF Try.prog Try.f6 laws_FnExactStuckReason.ann [(.agg #[(.slice A0_0 n0_0 c0_0), (.slice A0_1 n0_1 c0_1), (.slice A0_2 n0_2 c0_2), (.int .i64 x0_3), (.int .i64 x0_4)])] K w = laws_FnExactStuckReason.vc A0_0 n0_0 c0_0 A0_1 n0_1 c0_1 A0_2 n0_2 c0_2 x0_3 x0_4 w K := by kernel_rfl

theorem laws_FnExactStuckReason.start {A0_0 : Option Addr} {n0_0 : Nat} {c0_0 : Nat} {A0_1 : Option Addr} {n0_1 : Nat} {c0_1 : Nat} {A0_2 : Option Addr} {n0_2 : Nat} {c0_2 : Nat} {x0_3 : Int} {x0_4 : Int} {w : World} {K : Value → World → Prop} (h : laws_FnExactStuckReason.vc A0_0 n0_0 c0_0 A0_1 n0_1 c0_1 A0_2 n0_2 c0_2 x0_3 x0_4 w K) : Cll Try.prog 6 #[(.agg #[(.slice A0_0 n0_0 c0_0), (.slice A0_1 n0_1 c0_1), (.slice A0_2 n0_2 c0_2), (.int .i64 x0_3), (.int .i64 x0_4)])] w K :=
  vcF_sound mixed (fn := Try.f6) (by kernel_rfl) (by kernel_rfl) (an := laws_FnExactStuckReason.ann) (args := [(.agg #[(.slice A0_0 n0_0 c0_0), (.slice A0_1 n0_1 c0_1), (.slice A0_2 n0_2 c0_2), (.int .i64 x0_3), (.int .i64 x0_4)])]) (by rw [laws_FnExactStuckReason.vc_eq]; exact h)

theorem laws_FnExactStuckReason.con {s0 : D.Block} {A0_0 : Option Addr} {c0_0 : Nat} {A0_1 : Option Addr} {c0_1 : Nat} {A0_2 : Option Addr} {c0_2 : Nat} {r : Bool} {w : World} (hp : M.laws_FnExactStuckReason_pre s0) (hr : r = M.laws_FnExactStuckReason s0) (R0_0 : Row el78 w A0_0 s0.Code) (hc0_0 : s0.Code.length ≤ c0_0) (R0_1 : RowW 99 el148 el3 w A0_1 s0.Warps) (hc0_1 : s0.Warps.length ≤ c0_1) (R0_2 : Row el3 w A0_2 s0.Memory) (hc0_2 : s0.Memory.length ≤ c0_2) :
    Cll Try.prog 6 #[(.agg #[(.slice A0_0 s0.Code.length c0_0), (.slice A0_1 s0.Warps.length c0_1), (.slice A0_2 s0.Memory.length c0_2), (.int .i64 s0.Waiting), (.int .i64 s0.Phase)])] w (fun v_ w_ => v_ = (.bool r) ∧ Ext w w_) := by
  have H := wp.laws_FnExactStuckReason.math s0 hp
  have hB := Ext.refl w
  refine laws_FnExactStuckReason.start ?_
  unfold laws_FnExactStuckReason.vc
  unfold wp.laws_FnExactStuckReason at H
  refine newBlk (fun g4_ w21 L4 P4 e22 => ?_)
  have O4 := P4
  have L4 := Nat.le_trans hB.size L4
  have hB := ethen hB e22
  refine ⟨_, _, _, (O4.at 0 rfl rfl), ?_⟩
  refine ⟨_, _, _, (O4.at 1 rfl rfl), ?_⟩
  refine ⟨_, _, _, (O4.at 2 rfl rfl), ?_⟩
  refine ⟨_, (O4.at 3 rfl rfl), ?_⟩
  refine ⟨_, (O4.at 4 rfl rfl), ?_⟩
  obtain ⟨hp25, H⟩ := H
  obtain ⟨r23, hr24⟩ : ∃ r_, r_ = M.laws_szBlock s0 1048576 := ⟨_, rfl⟩
  have H := H r23 hr24
  refine (laws_szBlock.con hp25 hr24 (R0_0.ext hB) hc0_0 (R0_1.ext hB) hc0_1 (R0_2.ext hB) hc0_2).mono ?_
  rintro _ w26 ⟨rfl, e27⟩
  have O4 := O4.ext e27
  have hB := ethen hB e27
  refine ⟨r23, rfl, ?_⟩
  refine bcase_mk (fun hc86 => ?_) (fun hc86 => ?_)
  · have H := (bcase_iff.1 H).1 hc86
    obtain rfl := hr.trans H.symm
    exact ⟨rfl, hB⟩
  · have H := (bcase_iff.1 H).2 hc86
    refine ⟨_, _, _, (O4.at 0 rfl rfl), ?_⟩
    refine ⟨_, _, _, (O4.at 1 rfl rfl), ?_⟩
    refine ⟨_, _, _, (O4.at 2 rfl rfl), ?_⟩
    refine ⟨_, (O4.at 3 rfl rfl), ?_⟩
    refine ⟨_, (O4.at 4 rfl rfl), ?_⟩
    obtain ⟨hp30, H⟩ := H
    obtain ⟨r28, hr29⟩ : ∃ r_, r_ = M.laws_toBlock s0 := ⟨_, rfl⟩
    have H := H r28 hr29
    refine (laws_toBlock.con hp30 hr29 (R0_0.ext hB) hc0_0 (R0_1.ext hB) hc0_1 (R0_2.ext hB) hc0_2).mono ?_
    rintro _ w31 ⟨A33, c34, A35, c36, F39, A37, c38, rfl, P5, P6, P7, N6_7, e32⟩
    have N5_4 := P5.apart_old O4.lt
    have N6_4 := P6.new_disbox O4 (Nat.le_refl _)
    have N7_4 := P7.apart_old O4.lt
    have O4 := O4.ext e32
    have O5 := P5.mono hB.size
    have O6 := P6.mono hB.size
    have O7 := P7.mono hB.size
    have hB := ethen hB e32
    refine ⟨A33, r28.Code.length, c34, trivial, ?_⟩
    refine ⟨A35, r28.Warps.length, c36, trivial, ?_⟩
    refine ⟨A37, r28.Memory.length, c38, trivial, ?_⟩
    refine ⟨r28.Waiting, trivial, ?_⟩
    refine ⟨r28.Phase, trivial, ?_⟩
    refine ⟨rfl, ?_⟩
    obtain ⟨hp42, H⟩ := H
    obtain ⟨r40, hr41⟩ : ∃ r_, r_ = M.spec_StuckReason r28 := ⟨_, rfl⟩
    have H := H r40 hr41
    refine (spec_StuckReason.con hp42 hr41 O5.row O5.le O6.row O6.le O7.row O7.le).mono ?_
    rintro _ w43 ⟨rfl, e44⟩
    have O4 := O4.ext e44
    have O5 := O5.ext e44
    have O6 := O6.ext e44
    have O7 := O7.ext e44
    have hB := ethen hB e44
    refine ⟨r40, rfl, ?_⟩
    refine ⟨_, _, _, (O4.at 0 rfl rfl), ?_⟩
    refine ⟨_, _, _, (O4.at 1 rfl rfl), ?_⟩
    refine ⟨_, _, _, (O4.at 2 rfl rfl), ?_⟩
    refine ⟨_, (O4.at 3 rfl rfl), ?_⟩
    refine ⟨_, (O4.at 4 rfl rfl), ?_⟩
    obtain ⟨hp47, H⟩ := H
    obtain ⟨r45, hr46⟩ : ∃ r_, r_ = M.laws_toBlock s0 := ⟨_, rfl⟩
    have H := H r45 hr46
    refine (laws_toBlock.con hp47 hr46 (R0_0.ext hB) hc0_0 (R0_1.ext hB) hc0_1 (R0_2.ext hB) hc0_2).mono ?_
    rintro _ w48 ⟨A50, c51, A52, c53, F56, A54, c55, rfl, P8, P9, P10, N9_10, e49⟩
    have N8_4 := P8.apart_old O4.lt
    have N5_8 := Own.apart2_new O5 P8 (Nat.le_refl _)
    have N6_8 := O6.dis_new P8 (Nat.le_refl _)
    have N7_8 := Own.apart2_new O7 P8 (Nat.le_refl _)
    have N9_4 := P9.new_disbox O4 (Nat.le_refl _)
    have N9_5 := P9.new_dis O5 (Nat.le_refl _)
    have N6_9 := O6.dis_neww P9 (Nat.le_refl _)
    have N9_7 := P9.new_dis O7 (Nat.le_refl _)
    have N10_4 := P10.apart_old O4.lt
    have N5_10 := Own.apart2_new O5 P10 (Nat.le_refl _)
    have N6_10 := O6.dis_new P10 (Nat.le_refl _)
    have N7_10 := Own.apart2_new O7 P10 (Nat.le_refl _)
    have O4 := O4.ext e49
    have O5 := O5.ext e49
    have O6 := O6.ext e49
    have O7 := O7.ext e49
    have O8 := P8.mono hB.size
    have O9 := P9.mono hB.size
    have O10 := P10.mono hB.size
    have hB := ethen hB e49
    refine ⟨A50, r45.Code.length, c51, trivial, ?_⟩
    refine ⟨A52, r45.Warps.length, c53, trivial, ?_⟩
    refine ⟨A54, r45.Memory.length, c55, trivial, ?_⟩
    refine ⟨r45.Waiting, trivial, ?_⟩
    refine ⟨r45.Phase, trivial, ?_⟩
    refine ⟨rfl, ?_⟩
    refine newBlk (fun g11_ w57 L11 P11 e58 => ?_)
    have N4_11 := O4.ne L11
    have N5_11 := O5.apart_new L11
    have N6_11 := O6.dis_newbox L11
    have N7_11 := O7.apart_new L11
    have N8_11 := O8.apart_new L11
    have N9_11 := O9.dis_newbox L11
    have N10_11 := O10.apart_new L11
    have O4 := O4.ext e58
    have O5 := O5.ext e58
    have O6 := O6.ext e58
    have O7 := O7.ext e58
    have O8 := O8.ext e58
    have O9 := O9.ext e58
    have O10 := O10.ext e58
    have O11 := P11
    have L11 := Nat.le_trans hB.size L11
    have hB := ethen hB e58
    refine stBlk O11 (o := 0) (cs' := #[(.slice A50 r45.Code.length c51), (.slice A52 r45.Warps.length c53), (.slice A54 r45.Memory.length c55), (.int .i64 r45.Waiting), (.int .i64 r45.Phase)]) rfl rfl (Nat.le_of_ble_eq_true rfl) rfl (fun w59 P11 e60 => ?_)
    have O4_ := O4.chg e60 N4_11
    have O5_ := O5.chg e60 N5_11
    have O6_ := O6.chg e60 N6_11
    have O7_ := O7.chg e60 N7_11
    have O8_ := O8.chg e60 N8_11
    have O9_ := O9.chg e60 N9_11
    have O10_ := O10.chg e60 N10_11
    have O4 := O4_
    have O5 := O5_
    have O6 := O6_
    have O7 := O7_
    have O8 := O8_
    have O9 := O9_
    have O10 := O10_
    have hB := echg hB e60 L11
    have O11 := P11
    refine ⟨_, _, _, (O11.at 0 rfl rfl), ?_⟩
    refine ⟨_, _, _, (O11.at 1 rfl rfl), ?_⟩
    refine ⟨_, _, _, (O11.at 2 rfl rfl), ?_⟩
    refine ⟨_, (O11.at 3 rfl rfl), ?_⟩
    refine ⟨_, (O11.at 4 rfl rfl), ?_⟩
    obtain ⟨hp63, H⟩ := H
    obtain ⟨r61, hr62⟩ : ∃ r_, r_ = M.impl_StuckReason r45 := ⟨_, rfl⟩
    have H := H r61 hr62
    refine (impl_StuckReason.con hp63 hr62 O8.row O8.le O9.row O9.le O10.row O10.le).mono ?_
    rintro _ w64 ⟨rfl, e65⟩
    have O4 := O4.ext e65
    have O5 := O5.ext e65
    have O6 := O6.ext e65
    have O7 := O7.ext e65
    have O8 := O8.ext e65
    have O9 := O9.ext e65
    have O10 := O10.ext e65
    have O11 := O11.ext e65
    have hB := ethen hB e65
    refine ⟨r61, rfl, ?_⟩
    refine bcase_mk (fun hc85 => ?_) (fun hc85 => ?_)
    · have H := (bcase_iff.1 H).1 hc85
      obtain rfl := hr.trans H.symm
      exact ⟨rfl, hB⟩
    · have H := (bcase_iff.1 H).2 hc85
      refine ⟨(fun _ => False), ?_⟩
      refine ⟨_, _, _, ⟨(fun h_ => h_), (O11.at 0 rfl rfl)⟩, ?_⟩
      refine ⟨_, _, _, ⟨(fun h_ => h_), (O11.at 1 rfl rfl)⟩, ?_⟩
      refine ⟨_, _, _, ⟨(fun h_ => h_), (O11.at 2 rfl rfl)⟩, ?_⟩
      refine ⟨_, ⟨(fun h_ => h_), (O11.at 3 rfl rfl)⟩, ?_⟩
      refine ⟨_, ⟨(fun h_ => h_), (O11.at 4 rfl rfl)⟩, ?_⟩
      refine ⟨_, _, _, ⟨(fun h_ => h_), (O4.at 0 rfl rfl)⟩, ?_⟩
      refine ⟨_, _, _, ⟨(fun h_ => h_), (O4.at 1 rfl rfl)⟩, ?_⟩
      refine ⟨_, _, _, ⟨(fun h_ => h_), (O4.at 2 rfl rfl)⟩, ?_⟩
      refine ⟨_, ⟨(fun h_ => h_), (O4.at 3 rfl rfl)⟩, ?_⟩
      refine ⟨_, ⟨(fun h_ => h_), (O4.at 4 rfl rfl)⟩, ?_⟩
      have hS66 := Chg.refl (fun _ => False) w64
      have O4 := O4.ext (Ext.drew _)
      have O5 := O5.ext (Ext.drew _)
      have O6 := O6.ext (Ext.drew _)
      have O7 := O7.ext (Ext.drew _)
      have O8 := O8.ext (Ext.drew _)
      have O9 := O9.ext (Ext.drew _)
      have O10 := O10.ext (Ext.drew _)
      have O11 := O11.ext (Ext.drew _)
      have hB := ethen hB (Ext.drew _)
      have hS66 := hS66.then (Ext.drew _)
      obtain ⟨hp69, H⟩ := H
      obtain ⟨r67, hr68⟩ : ∃ r_, r_ = M.laws_toBlock s0 := ⟨_, rfl⟩
      have H := H r67 hr68
      refine (laws_toBlock.con hp69 hr68 (R0_0.ext hB) hc0_0 (R0_1.ext hB) hc0_1 (R0_2.ext hB) hc0_2).mono ?_
      rintro _ w70 ⟨A72, c73, A74, c75, F78, A76, c77, rfl, P12, P13, P14, N13_14, e71⟩
      have N12_4 := P12.apart_old O4.lt
      have N5_12 := Own.apart2_new O5 P12 (Nat.le_refl _)
      have N6_12 := O6.dis_new P12 (Nat.le_refl _)
      have N7_12 := Own.apart2_new O7 P12 (Nat.le_refl _)
      have N8_12 := Own.apart2_new O8 P12 (Nat.le_refl _)
      have N9_12 := O9.dis_new P12 (Nat.le_refl _)
      have N10_12 := Own.apart2_new O10 P12 (Nat.le_refl _)
      have N12_11 := P12.apart_old O11.lt
      have N13_4 := P13.new_disbox O4 (Nat.le_refl _)
      have N13_5 := P13.new_dis O5 (Nat.le_refl _)
      have N6_13 := O6.dis_neww P13 (Nat.le_refl _)
      have N13_7 := P13.new_dis O7 (Nat.le_refl _)
      have N13_8 := P13.new_dis O8 (Nat.le_refl _)
      have N9_13 := O9.dis_neww P13 (Nat.le_refl _)
      have N13_10 := P13.new_dis O10 (Nat.le_refl _)
      have N13_11 := P13.new_disbox O11 (Nat.le_refl _)
      have N14_4 := P14.apart_old O4.lt
      have N5_14 := Own.apart2_new O5 P14 (Nat.le_refl _)
      have N6_14 := O6.dis_new P14 (Nat.le_refl _)
      have N7_14 := Own.apart2_new O7 P14 (Nat.le_refl _)
      have N8_14 := Own.apart2_new O8 P14 (Nat.le_refl _)
      have N9_14 := O9.dis_new P14 (Nat.le_refl _)
      have N10_14 := Own.apart2_new O10 P14 (Nat.le_refl _)
      have N14_11 := P14.apart_old O11.lt
      have O4 := O4.ext e71
      have O5 := O5.ext e71
      have O6 := O6.ext e71
      have O7 := O7.ext e71
      have O8 := O8.ext e71
      have O9 := O9.ext e71
      have O10 := O10.ext e71
      have O11 := O11.ext e71
      have LB12 := (P12.mono hS66.size).low
      have LB13 := (P13.mono hS66.size).lowW
      have LB14 := (P14.mono hS66.size).low
      have O12 := P12.mono hB.size
      have O13 := P13.mono hB.size
      have O14 := P14.mono hB.size
      have hB := ethen hB e71
      have hS66 := hS66.then e71
      refine ⟨A72, r67.Code.length, c73, trivial, ?_⟩
      refine ⟨A74, r67.Warps.length, c75, trivial, ?_⟩
      refine ⟨A76, r67.Memory.length, c77, trivial, ?_⟩
      refine ⟨r67.Waiting, trivial, ?_⟩
      refine ⟨r67.Phase, trivial, ?_⟩
      refine ⟨rfl, ?_⟩
      refine ⟨sameBut_chg hS66, ?_⟩
      obtain ⟨hp81, H⟩ := H
      obtain ⟨r79, hr80⟩ : ∃ r_, r_ = M.laws_eqBlock r45 r67 := ⟨_, rfl⟩
      have H := H r79 hr80
      refine (laws_eqBlock.con hp81 hr80 O8.row O8.le O9.row O9.le O10.row O10.le O12.row O12.le O13.row O13.le O14.row O14.le).mono ?_
      rintro _ w82 ⟨rfl, e83⟩
      have O4 := O4.ext e83
      have O5 := O5.ext e83
      have O6 := O6.ext e83
      have O7 := O7.ext e83
      have O8 := O8.ext e83
      have O9 := O9.ext e83
      have O10 := O10.ext e83
      have O11 := O11.ext e83
      have O12 := O12.ext e83
      have O13 := O13.ext e83
      have O14 := O14.ext e83
      have hB := ethen hB e83
      have hS66 := hS66.then e83
      refine ⟨r79, rfl, ?_⟩
      refine ⟨sameBut_chg hS66, ?_⟩
      refine bcase_mk (fun hc84 => ?_) (fun hc84 => ?_)
      · have H := (bcase_iff.1 H).1 hc84
        obtain rfl := hr.trans H.symm
        exact ⟨rfl, hB⟩
      · have H := (bcase_iff.1 H).2 hc84
        obtain rfl := hr.trans H.symm
        exact ⟨rfl, hB⟩

end Go.V
