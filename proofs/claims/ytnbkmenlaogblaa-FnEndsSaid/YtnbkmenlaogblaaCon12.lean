import Derived.Test.YtnbkmenlaogblaaMath12
import Derived.Test.YtnbkmenlaogblaaSeat
import Derived.Test.YtnbkmenlaogblaaCon4
namespace Go.V
open Go.Proofs
set_option linter.unusedVariables false
set_option linter.unusedSimpArgs false
set_option maxRecDepth 100000

def spec_l01New.vc (A0 : Option Addr) (n0 : Nat) (c0 : Nat) (w : World) (K : Value → World → Prop) : Prop :=
  LoopT (σ := Int × Int × Unit) (fun z21 w22 next23 => bcase (decide (z21.2.1 < ((n0 : Nat) : Int))) (bcase (decide (z21.2.1 < 4000)) (((0 : Int) ≤ z21.2.1 ∧ z21.2.1 < ((n0 : Nat) : Int) ∧ ∃ a25 : Addr, A0 = some a25 ∧ ∃ (n26 : Int), w22.cell? ((a25.add ((z21.2.1.toNat) * 1)).add 0) = some (.int .u8 n26) ∧ next23 ((bitAnd .i64 (IntKind.wrap .i64 ((IntKind.wrap .i64 ((IntKind.wrap .i64 (z21.1 * 131)) + (IntKind.wrap .i64 n26))) + 7)) 1073741823), (IntKind.wrap .i64 (z21.2.1 + 1)), ()) w22)) (newK w22 (.cells #[(.slice A0 n0 c0), (.int .i64 0), (.int .i64 z21.1)] 120) fun g27 w28 => K (.pointer (some (⟨g27, 0, none⟩ : Addr))) w28)) (newK w22 (.cells #[(.slice A0 n0 c0), (.int .i64 0), (.int .i64 z21.1)] 120) fun g29 w30 => K (.pointer (some (⟨g29, 0, none⟩ : Addr))) w30)) ((IntKind.wrap .i64 (98561 + ((n0 : Nat) : Int))), 0, ()) w

def spec_l01New.ann : Ann := (.seq .l (.seq .l (.seq (.seq .l (.one (.loop [(3, .int .i64), (4, .int .i64)] (.seq (.seq .l (.two .l .l)) (.seq (.one .l) .l))))) (.seq .l .l))))

theorem spec_l01New.vc_eq (A0 : Option Addr) (n0 : Nat) (c0 : Nat) (w : World) (K : Value → World → Prop) : vcF Try.prog Try.f84 spec_l01New.ann [(.slice A0 n0 c0)] K w = spec_l01New.vc A0 n0 c0 w K := by kernel_rfl

theorem spec_l01New.start {A0 : Option Addr} {n0 : Nat} {c0 : Nat} {w : World} {K : Value → World → Prop} (h : spec_l01New.vc A0 n0 c0 w K) : Cll Try.prog 84 #[(.slice A0 n0 c0)] w K :=
  vcF_sound mixed (fn := Try.f84) (by kernel_rfl) (by kernel_rfl) (an := spec_l01New.ann) (args := [(.slice A0 n0 c0)]) (by rw [spec_l01New.vc_eq]; exact h)

theorem spec_l01New.con {xs0 : List Int} {A0 : Option Addr} {c0 : Nat} {r : D.Cur} {w : World} (hp : M.spec_l01New_pre xs0) (hr : r = M.spec_l01New xs0) (R0 : Row el5 w A0 xs0) (hc0 : xs0.length ≤ c0) :
    Cll Try.prog 84 #[(.slice A0 xs0.length c0)] w (fun v_ w_ => ∃ (g0_ : Nat), v_ = (.pointer (some (⟨g0_, 0, none⟩ : Addr))) ∧ Blk w_ g0_ 120 #[(.slice A0 r.b.length c0), (.int .i64 r.i), (.int .i64 r.h)] ∧ r.b = xs0 ∧ w.heap.size ≤ g0_ ∧ Ext w w_) := by
  have H := wp.spec_l01New.math xs0 hp
  have hB := Ext.refl w
  refine spec_l01New.start ?_
  unfold spec_l01New.vc
  unfold wp.spec_l01New at H
  obtain ⟨J24, ⟨m44, hJ43⟩, hS25⟩ := H
  refine ⟨fun m_ z_ w_ => ∃ (i21 : Int) (i22 : Int), z_ = (i21, i22, ()) ∧ J24 m_ (i21, i22, ()) ∧ Ext w w_, ⟨m44, (IntKind.wrap .i64 (98561 + ((xs0.length : Nat) : Int))), 0, rfl, hJ43, hB⟩, ?_⟩
  rintro m23 _ w27 ⟨i21, i22, rfl, hJ45, hB⟩
  have H := hS25 m23 _ hJ45
  clear hS25 hJ45
  dsimp only at H ⊢
  refine bcase_mk (fun hc41 => ?_) (fun hc41 => ?_)
  · have H := (bcase_iff.1 H).1 hc41
    refine bcase_mk (fun hc38 => ?_) (fun hc38 => ?_)
    · have H := (bcase_iff.1 H).1 hc38
      obtain ⟨⟨h0_31, h1_32⟩, H⟩ := H
      obtain ⟨a29, ha30, hat28⟩ := Row.at (R0.ext hB) h0_31 h1_32
      refine ⟨h0_31, h1_32, a29, ha30, ?_⟩
      refine ⟨_, (hat28 0 _ rfl), ?_⟩
      obtain ⟨m33, hm34, hJ35⟩ := H
      exact ⟨m33, hm34, (bitAnd .i64 (IntKind.wrap .i64 ((IntKind.wrap .i64 ((IntKind.wrap .i64 (i21 * 131)) + (IntKind.wrap .i64 (rd xs0 i22)))) + 7)) 1073741823), (IntKind.wrap .i64 (i22 + 1)), rfl, hJ35, hB⟩
    · have H := (bcase_iff.1 H).2 hc38
      refine newBlk (fun g2_ w36 L2 P2 e37 => ?_)
      have O2 := P2
      have L2 := Nat.le_trans hB.size L2
      have hB := ethen hB e37
      obtain rfl := hr.trans H.symm
      exact ⟨g2_, rfl, O2, rfl, L2, hB⟩
  · have H := (bcase_iff.1 H).2 hc41
    refine newBlk (fun g3_ w39 L3 P3 e40 => ?_)
    have O3 := P3
    have L3 := Nat.le_trans hB.size L3
    have hB := ethen hB e40
    obtain rfl := hr.trans H.symm
    exact ⟨g3_, rfl, O3, rfl, L3, hB⟩

def spec_l01Byte.vc (p0 : Addr) (w : World) (K : Value → World → Prop) : Prop :=
  ∃ (n21 : Int), w.cell? ((p0.add 2).add 0) = some (.int .i64 n21) ∧ stCells (p0.add 2) [(.int .i64 (IntKind.wrap .i64 ((IntKind.wrap .i64 (n21 * 6364136223846793005)) + 1442695040888963407)))] 0 w fun w22 => ∃ (n23 : Int), w22.cell? ((p0.add 2).add 0) = some (.int .i64 n23) ∧ ((0 : Int) ≤ 33 ∧ ∃ (n24 : Int), w22.cell? ((p0.add 2).add 0) = some (.int .i64 n24) ∧ ((0 : Int) ≤ 45 ∧ ∃ (n25 : Int), w22.drew.cell? ((p0.add 1).add 0) = some (.int .i64 n25) ∧ ∃ (A26 : Option Addr) (n27 : Nat) (c28 : Nat), w22.drew.cell? ((p0.add 0).add 0) = some (.slice A26 n27 c28) ∧ bcase (decide (n25 < ((n27 : Nat) : Int))) (∃ (A29 : Option Addr) (n30 : Nat) (c31 : Nat), w22.drew.drew.cell? ((p0.add 0).add 0) = some (.slice A29 n30 c31) ∧ ∃ (n32 : Int), w22.drew.drew.cell? ((p0.add 1).add 0) = some (.int .i64 n32) ∧ ((0 : Int) ≤ n32 ∧ n32 < ((n30 : Nat) : Int) ∧ ∃ a33 : Addr, A29 = some a33 ∧ ∃ (n34 : Int), w22.drew.drew.cell? ((a33.add ((n32.toNat) * 1)).add 0) = some (.int .u8 n34) ∧ ∃ (n35 : Int), w22.drew.drew.drew.cell? ((p0.add 1).add 0) = some (.int .i64 n35) ∧ stCells (p0.add 1) [(.int .i64 (IntKind.wrap .i64 (n35 + 1)))] 0 w22.drew.drew.drew fun w36 => K (.int .i64 (bitAnd .i64 (IntKind.wrap .i64 ((bitAnd .i64 (bitXor .i64 (Int.fdiv n23 (2 ^ (min ((33 : Int).toNat) (IntKind.bits .i64)))) (Int.fdiv n24 (2 ^ (min ((45 : Int).toNat) (IntKind.bits .i64))))) 255) + (IntKind.wrap .i64 n34))) 255)) w36)) (K (.int .i64 (bitAnd .i64 (bitXor .i64 (Int.fdiv n23 (2 ^ (min ((33 : Int).toNat) (IntKind.bits .i64)))) (Int.fdiv n24 (2 ^ (min ((45 : Int).toNat) (IntKind.bits .i64))))) 255)) w22.drew.drew)))

def spec_l01Byte.ann : Ann := (.seq .l (.seq .l (.seq .l (.seq (.seq .l (.two (.seq .l .l) .l)) (.seq .l .l)))))

theorem spec_l01Byte.vc_eq (p0 : Addr) (w : World) (K : Value → World → Prop) : vcF Try.prog Try.f137 spec_l01Byte.ann [(.pointer (some p0))] K w = spec_l01Byte.vc p0 w K := by kernel_rfl

theorem spec_l01Byte.start {p0 : Addr} {w : World} {K : Value → World → Prop} (h : spec_l01Byte.vc p0 w K) : Cll Try.prog 137 #[(.pointer (some p0))] w K :=
  vcF_sound mixed (fn := Try.f137) (by kernel_rfl) (by kernel_rfl) (an := spec_l01Byte.ann) (args := [(.pointer (some p0))]) (by rw [spec_l01Byte.vc_eq]; exact h)

theorem spec_l01Byte.con {s0 : D.Cur} {g1_ : Nat} {A0_0 : Option Addr} {c0_0 : Nat} {r : Int × D.Cur} {w : World} (hp : M.spec_l01Byte_pre s0) (hr : r = M.spec_l01Byte s0) (O1 : Blk w g1_ 120 #[(.slice A0_0 s0.b.length c0_0), (.int .i64 s0.i), (.int .i64 s0.h)]) (R0_0 : Row el5 w A0_0 s0.b) (hc0_0 : s0.b.length ≤ c0_0) (D0_0 : s0.b ≠ [] → ∀ g, InB A0_0 g → ¬ (fun k_ => k_ = g1_) g) :
    Cll Try.prog 137 #[(.pointer (some (⟨g1_, 0, none⟩ : Addr)))] w (fun v_ w_ => v_ = (.int .i64 r.1) ∧ Blk w_ g1_ 120 #[(.slice A0_0 r.2.b.length c0_0), (.int .i64 r.2.i), (.int .i64 r.2.h)] ∧ r.2.b = s0.b ∧ Chg (fun k_ => k_ = g1_) w w_) := by
  have H := wp.spec_l01Byte.math s0 hp
  have hB := Chg.refl (fun k_ => k_ = g1_) w
  refine spec_l01Byte.start ?_
  unfold spec_l01Byte.vc
  unfold wp.spec_l01Byte at H
  refine ⟨_, (O1.at 2 rfl rfl), ?_⟩
  refine stBlk O1 (o := 2) (cs' := #[(.slice A0_0 s0.b.length c0_0), (.int .i64 s0.i), (.int .i64 (IntKind.wrap .i64 ((IntKind.wrap .i64 (s0.h * 6364136223846793005)) + 1442695040888963407)))]) rfl rfl (Nat.le_of_ble_eq_true rfl) rfl (fun w21 P1 e22 => ?_)
  have hB := hB.chgb e22 (Or.inr rfl)
  have O1 := P1
  refine ⟨_, (O1.at 2 rfl rfl), ?_⟩
  refine ⟨by decide, ?_⟩
  refine ⟨_, (O1.at 2 rfl rfl), ?_⟩
  refine ⟨by decide, ?_⟩
  have O1 := O1.ext (Ext.drew _)
  have hB := hB.then (Ext.drew _)
  refine ⟨_, (O1.at 1 rfl rfl), ?_⟩
  refine ⟨_, _, _, (O1.at 0 rfl rfl), ?_⟩
  have O1 := O1.ext (Ext.drew _)
  have hB := hB.then (Ext.drew _)
  refine bcase_mk (fun hc35 => ?_) (fun hc35 => ?_)
  · have H := (bcase_iff.1 H).1 hc35
    refine ⟨_, _, _, (O1.at 0 rfl rfl), ?_⟩
    refine ⟨_, (O1.at 1 rfl rfl), ?_⟩
    obtain ⟨⟨h0_31, h1_32⟩, H⟩ := H
    obtain ⟨a29, ha30, hat28⟩ := Row.at (R0_0.chgS hB D0_0) h0_31 h1_32
    refine ⟨h0_31, h1_32, a29, ha30, ?_⟩
    refine ⟨_, (hat28 0 _ rfl), ?_⟩
    have O1 := O1.ext (Ext.drew _)
    have hB := hB.then (Ext.drew _)
    refine ⟨_, (O1.at 1 rfl rfl), ?_⟩
    refine stBlk O1 (o := 1) (cs' := #[(.slice A0_0 s0.b.length c0_0), (.int .i64 (IntKind.wrap .i64 (s0.i + 1))), (.int .i64 (IntKind.wrap .i64 ((IntKind.wrap .i64 (s0.h * 6364136223846793005)) + 1442695040888963407)))]) rfl rfl (Nat.le_of_ble_eq_true rfl) rfl (fun w33 P1 e34 => ?_)
    have hB := hB.chgb e34 (Or.inr rfl)
    have O1 := P1
    obtain rfl := hr.trans H.symm
    exact ⟨rfl, O1, rfl, hB⟩
  · have H := (bcase_iff.1 H).2 hc35
    obtain rfl := hr.trans H.symm
    exact ⟨rfl, O1, rfl, hB⟩

def spec_l01Below.vc (p0 : Addr) (x1 : Int) (w : World) (K : Value → World → Prop) : Prop :=
  bcase (decide (x1 ≤ 0)) (K (.int .i64 0) w) (bcase (decide (x1 ≤ 256)) (Cll Try.prog 137 #[(.pointer (some p0))] w fun v21 w22 => (∃ (n23 : Int), v21 = (.int .i64 n23) ∧ ((x1 : Int) ≠ 0 ∧ K (.int .i64 (Int.tmod n23 x1)) w22))) (Cll Try.prog 137 #[(.pointer (some p0))] w fun v24 w25 => (∃ (n26 : Int), v24 = (.int .i64 n26) ∧ Cll Try.prog 137 #[(.pointer (some p0))] w25 fun v27 w28 => (∃ (n29 : Int), v27 = (.int .i64 n29) ∧ Cll Try.prog 137 #[(.pointer (some p0))] w28 fun v30 w31 => (∃ (n32 : Int), v30 = (.int .i64 n32) ∧ Cll Try.prog 137 #[(.pointer (some p0))] w31 fun v33 w34 => (∃ (n35 : Int), v33 = (.int .i64 n35) ∧ ((x1 : Int) ≠ 0 ∧ K (.int .i64 (Int.tmod (IntKind.wrap .i64 ((IntKind.wrap .i64 ((IntKind.wrap .i64 ((IntKind.wrap .i64 (n26 * 16777216)) + (IntKind.wrap .i64 (n29 * 65536)))) + (IntKind.wrap .i64 (n32 * 256)))) + n35)) x1)) w34)))))))

def spec_l01Below.ann : Ann := (.seq .l (.seq (.seq .l (.two (.seq .l .l) .l)) (.seq (.seq .l (.two (.seq .l .l) .l)) (.seq .l (.seq .l (.seq .l (.seq .l (.seq .l .l))))))))

theorem spec_l01Below.vc_eq (p0 : Addr) (x1 : Int) (w : World) (K : Value → World → Prop) : vcF Try.prog Try.f85 spec_l01Below.ann [(.pointer (some p0)), (.int .i64 x1)] K w = spec_l01Below.vc p0 x1 w K := by kernel_rfl

theorem spec_l01Below.start {p0 : Addr} {x1 : Int} {w : World} {K : Value → World → Prop} (h : spec_l01Below.vc p0 x1 w K) : Cll Try.prog 85 #[(.pointer (some p0)), (.int .i64 x1)] w K :=
  vcF_sound mixed (fn := Try.f85) (by kernel_rfl) (by kernel_rfl) (an := spec_l01Below.ann) (args := [(.pointer (some p0)), (.int .i64 x1)]) (by rw [spec_l01Below.vc_eq]; exact h)

theorem spec_l01Below.con {s0 : D.Cur} {g1_ : Nat} {A0_0 : Option Addr} {c0_0 : Nat} {x1 : Int} {r : Int × D.Cur} {w : World} (hp : M.spec_l01Below_pre s0 x1) (hr : r = M.spec_l01Below s0 x1) (O1 : Blk w g1_ 120 #[(.slice A0_0 s0.b.length c0_0), (.int .i64 s0.i), (.int .i64 s0.h)]) (R0_0 : Row el5 w A0_0 s0.b) (hc0_0 : s0.b.length ≤ c0_0) (D0_0 : s0.b ≠ [] → ∀ g, InB A0_0 g → ¬ (fun k_ => k_ = g1_) g) :
    Cll Try.prog 85 #[(.pointer (some (⟨g1_, 0, none⟩ : Addr))), (.int .i64 x1)] w (fun v_ w_ => v_ = (.int .i64 r.1) ∧ Blk w_ g1_ 120 #[(.slice A0_0 r.2.b.length c0_0), (.int .i64 r.2.i), (.int .i64 r.2.h)] ∧ r.2.b = s0.b ∧ Chg (fun k_ => k_ = g1_) w w_) := by
  have H := wp.spec_l01Below.math s0 x1 hp
  have hB := Chg.refl (fun k_ => k_ = g1_) w
  refine spec_l01Below.start ?_
  unfold spec_l01Below.vc
  unfold wp.spec_l01Below at H
  refine bcase_mk (fun hc54 => ?_) (fun hc54 => ?_)
  · have H := (bcase_iff.1 H).1 hc54
    obtain rfl := hr.trans H.symm
    exact ⟨rfl, O1, rfl, hB⟩
  · have H := (bcase_iff.1 H).2 hc54
    refine bcase_mk (fun hc53 => ?_) (fun hc53 => ?_)
    · have H := (bcase_iff.1 H).1 hc53
      obtain ⟨hp23, H⟩ := H
      obtain ⟨r21, hr22⟩ : ∃ r_, r_ = M.spec_l01Byte s0 := ⟨_, rfl⟩
      have H := H r21 hr22
      refine (spec_l01Byte.con hp23 hr22 O1 (R0_0.chgS hB D0_0) hc0_0 (fun hx_ => (fun g h_ hS_ => D0_0 hx_ g h_ hS_))).mono ?_
      rintro _ w24 ⟨rfl, Q1, hq26, e25⟩
      rw [hq26] at Q1
      have hB := hB.chg e25 (fun g h_ => Or.inr h_)
      have O1 := Q1
      refine ⟨r21.1, rfl, ?_⟩
      obtain ⟨hc27, H⟩ := H
      refine ⟨hc27, ?_⟩
      obtain rfl := hr.trans H.symm
      exact ⟨rfl, O1, rfl, hB⟩
    · have H := (bcase_iff.1 H).2 hc53
      obtain ⟨hp30, H⟩ := H
      obtain ⟨r28, hr29⟩ : ∃ r_, r_ = M.spec_l01Byte s0 := ⟨_, rfl⟩
      have H := H r28 hr29
      refine (spec_l01Byte.con hp30 hr29 O1 (R0_0.chgS hB D0_0) hc0_0 (fun hx_ => (fun g h_ hS_ => D0_0 hx_ g h_ hS_))).mono ?_
      rintro _ w31 ⟨rfl, Q1, hq33, e32⟩
      rw [hq33] at Q1
      have hB := hB.chg e32 (fun g h_ => Or.inr h_)
      have O1 := Q1
      refine ⟨r28.1, rfl, ?_⟩
      obtain ⟨hp36, H⟩ := H
      obtain ⟨r34, hr35⟩ : ∃ r_, r_ = M.spec_l01Byte (⟨s0.b, r28.2.i, r28.2.h⟩ : D.Cur) := ⟨_, rfl⟩
      have H := H r34 hr35
      refine (spec_l01Byte.con hp36 hr35 O1 (R0_0.chgS hB D0_0) hc0_0 (fun hx_ => (fun g h_ hS_ => D0_0 hx_ g h_ hS_))).mono ?_
      rintro _ w37 ⟨rfl, Q1, hq39, e38⟩
      rw [hq39] at Q1
      have hB := hB.chg e38 (fun g h_ => Or.inr h_)
      have O1 := Q1
      refine ⟨r34.1, rfl, ?_⟩
      obtain ⟨hp42, H⟩ := H
      obtain ⟨r40, hr41⟩ : ∃ r_, r_ = M.spec_l01Byte (⟨s0.b, r34.2.i, r34.2.h⟩ : D.Cur) := ⟨_, rfl⟩
      have H := H r40 hr41
      refine (spec_l01Byte.con hp42 hr41 O1 (R0_0.chgS hB D0_0) hc0_0 (fun hx_ => (fun g h_ hS_ => D0_0 hx_ g h_ hS_))).mono ?_
      rintro _ w43 ⟨rfl, Q1, hq45, e44⟩
      rw [hq45] at Q1
      have hB := hB.chg e44 (fun g h_ => Or.inr h_)
      have O1 := Q1
      refine ⟨r40.1, rfl, ?_⟩
      obtain ⟨hp48, H⟩ := H
      obtain ⟨r46, hr47⟩ : ∃ r_, r_ = M.spec_l01Byte (⟨s0.b, r40.2.i, r40.2.h⟩ : D.Cur) := ⟨_, rfl⟩
      have H := H r46 hr47
      refine (spec_l01Byte.con hp48 hr47 O1 (R0_0.chgS hB D0_0) hc0_0 (fun hx_ => (fun g h_ hS_ => D0_0 hx_ g h_ hS_))).mono ?_
      rintro _ w49 ⟨rfl, Q1, hq51, e50⟩
      rw [hq51] at Q1
      have hB := hB.chg e50 (fun g h_ => Or.inr h_)
      have O1 := Q1
      refine ⟨r46.1, rfl, ?_⟩
      obtain ⟨hc52, H⟩ := H
      refine ⟨hc52, ?_⟩
      obtain rfl := hr.trans H.symm
      exact ⟨rfl, O1, rfl, hB⟩

def spec_l04Plain.vc (p0 : Addr) (w : World) (K : Value → World → Prop) : Prop :=
  newK w (.cells #[(.int .i64 0), (.int .i64 0), (.int .i64 0), (.int .i64 0)] 76) fun g21 w22 => Cll Try.prog 85 #[(.pointer (some p0)), (.int .i64 9)] w22 fun v23 w24 => (∃ (n25 : Int), v23 = (.int .i64 n25) ∧ Cll Try.prog 85 #[(.pointer (some p0)), (.int .i64 4)] w24 fun v26 w27 => (∃ (n28 : Int), v26 = (.int .i64 n28) ∧ newK w27 (.cells #[(.int .i64 0), (.int .i64 0), (.int .i64 0), (.int .i64 0)] 76) fun g29 w30 => stCells (⟨g29, 0, none⟩ : Addr) [(.int .i64 (IntKind.wrap .i64 (1 + n25))), (.int .i64 n28), (.int .i64 0), (.int .i64 0)] 0 w30 fun w31 => ∃ (n32 : Int), w31.cell? (((⟨g29, 0, none⟩ : Addr).add 0).add 0) = some (.int .i64 n32) ∧ bcase (n32 == 1) (Cll Try.prog 85 #[(.pointer (some p0)), (.int .i64 6)] w31 fun v33 w34 => (∃ (n35 : Int), v33 = (.int .i64 n35) ∧ stCells ((⟨g29, 0, none⟩ : Addr).add 2) [(.int .i64 n35)] 0 w34 fun w36 => ∃ (n37 : Int), w36.cell? ((⟨g29, 0, none⟩ : Addr).add 0) = some (.int .i64 n37) ∧ ∃ (n38 : Int), w36.cell? ((⟨g29, 0, none⟩ : Addr).add 1) = some (.int .i64 n38) ∧ ∃ (n39 : Int), w36.cell? ((⟨g29, 0, none⟩ : Addr).add 2) = some (.int .i64 n39) ∧ ∃ (n40 : Int), w36.cell? ((⟨g29, 0, none⟩ : Addr).add 3) = some (.int .i64 n40) ∧ stCells (⟨g21, 0, none⟩ : Addr) [(.int .i64 n37), (.int .i64 n38), (.int .i64 n39), (.int .i64 n40)] 0 w36 fun w41 => ∃ (n42 : Int), w41.cell? ((⟨g21, 0, none⟩ : Addr).add 0) = some (.int .i64 n42) ∧ ∃ (n43 : Int), w41.cell? ((⟨g21, 0, none⟩ : Addr).add 1) = some (.int .i64 n43) ∧ ∃ (n44 : Int), w41.cell? ((⟨g21, 0, none⟩ : Addr).add 2) = some (.int .i64 n44) ∧ ∃ (n45 : Int), w41.cell? ((⟨g21, 0, none⟩ : Addr).add 3) = some (.int .i64 n45) ∧ K (.agg #[(.int .i64 n42), (.int .i64 n43), (.int .i64 n44), (.int .i64 n45)]) w41)) (bcase (n32 == 8) (∃ (n46 : Int), w31.cell? ((⟨g29, 0, none⟩ : Addr).add 0) = some (.int .i64 n46) ∧ ∃ (n47 : Int), w31.cell? ((⟨g29, 0, none⟩ : Addr).add 1) = some (.int .i64 n47) ∧ ∃ (n48 : Int), w31.cell? ((⟨g29, 0, none⟩ : Addr).add 2) = some (.int .i64 n48) ∧ ∃ (n49 : Int), w31.cell? ((⟨g29, 0, none⟩ : Addr).add 3) = some (.int .i64 n49) ∧ stCells (⟨g21, 0, none⟩ : Addr) [(.int .i64 n46), (.int .i64 n47), (.int .i64 n48), (.int .i64 n49)] 0 w31 fun w50 => ∃ (n51 : Int), w50.cell? ((⟨g21, 0, none⟩ : Addr).add 0) = some (.int .i64 n51) ∧ ∃ (n52 : Int), w50.cell? ((⟨g21, 0, none⟩ : Addr).add 1) = some (.int .i64 n52) ∧ ∃ (n53 : Int), w50.cell? ((⟨g21, 0, none⟩ : Addr).add 2) = some (.int .i64 n53) ∧ ∃ (n54 : Int), w50.cell? ((⟨g21, 0, none⟩ : Addr).add 3) = some (.int .i64 n54) ∧ K (.agg #[(.int .i64 n51), (.int .i64 n52), (.int .i64 n53), (.int .i64 n54)]) w50) (bcase (n32 == 2) (Cll Try.prog 85 #[(.pointer (some p0)), (.int .i64 4)] w31 fun v55 w56 => (∃ (n57 : Int), v55 = (.int .i64 n57) ∧ stCells ((⟨g29, 0, none⟩ : Addr).add 2) [(.int .i64 n57)] 0 w56 fun w58 => ∃ (n59 : Int), w58.cell? ((⟨g29, 0, none⟩ : Addr).add 0) = some (.int .i64 n59) ∧ ∃ (n60 : Int), w58.cell? ((⟨g29, 0, none⟩ : Addr).add 1) = some (.int .i64 n60) ∧ ∃ (n61 : Int), w58.cell? ((⟨g29, 0, none⟩ : Addr).add 2) = some (.int .i64 n61) ∧ ∃ (n62 : Int), w58.cell? ((⟨g29, 0, none⟩ : Addr).add 3) = some (.int .i64 n62) ∧ stCells (⟨g21, 0, none⟩ : Addr) [(.int .i64 n59), (.int .i64 n60), (.int .i64 n61), (.int .i64 n62)] 0 w58 fun w63 => ∃ (n64 : Int), w63.cell? ((⟨g21, 0, none⟩ : Addr).add 0) = some (.int .i64 n64) ∧ ∃ (n65 : Int), w63.cell? ((⟨g21, 0, none⟩ : Addr).add 1) = some (.int .i64 n65) ∧ ∃ (n66 : Int), w63.cell? ((⟨g21, 0, none⟩ : Addr).add 2) = some (.int .i64 n66) ∧ ∃ (n67 : Int), w63.cell? ((⟨g21, 0, none⟩ : Addr).add 3) = some (.int .i64 n67) ∧ K (.agg #[(.int .i64 n64), (.int .i64 n65), (.int .i64 n66), (.int .i64 n67)]) w63)) (Cll Try.prog 85 #[(.pointer (some p0)), (.int .i64 4)] w31 fun v68 w69 => (∃ (n70 : Int), v68 = (.int .i64 n70) ∧ stCells ((⟨g29, 0, none⟩ : Addr).add 2) [(.int .i64 n70)] 0 w69 fun w71 => Cll Try.prog 85 #[(.pointer (some p0)), (.int .i64 4)] w71 fun v72 w73 => (∃ (n74 : Int), v72 = (.int .i64 n74) ∧ stCells ((⟨g29, 0, none⟩ : Addr).add 3) [(.int .i64 n74)] 0 w73 fun w75 => ∃ (n76 : Int), w75.cell? ((⟨g29, 0, none⟩ : Addr).add 0) = some (.int .i64 n76) ∧ ∃ (n77 : Int), w75.cell? ((⟨g29, 0, none⟩ : Addr).add 1) = some (.int .i64 n77) ∧ ∃ (n78 : Int), w75.cell? ((⟨g29, 0, none⟩ : Addr).add 2) = some (.int .i64 n78) ∧ ∃ (n79 : Int), w75.cell? ((⟨g29, 0, none⟩ : Addr).add 3) = some (.int .i64 n79) ∧ stCells (⟨g21, 0, none⟩ : Addr) [(.int .i64 n76), (.int .i64 n77), (.int .i64 n78), (.int .i64 n79)] 0 w75 fun w80 => ∃ (n81 : Int), w80.cell? ((⟨g21, 0, none⟩ : Addr).add 0) = some (.int .i64 n81) ∧ ∃ (n82 : Int), w80.cell? ((⟨g21, 0, none⟩ : Addr).add 1) = some (.int .i64 n82) ∧ ∃ (n83 : Int), w80.cell? ((⟨g21, 0, none⟩ : Addr).add 2) = some (.int .i64 n83) ∧ ∃ (n84 : Int), w80.cell? ((⟨g21, 0, none⟩ : Addr).add 3) = some (.int .i64 n84) ∧ K (.agg #[(.int .i64 n81), (.int .i64 n82), (.int .i64 n83), (.int .i64 n84)]) w80)))))))

def spec_l04Plain.ann : Ann := (.seq .l (.seq .l (.seq (.seq .l (.one (.seq .l (.two .l (.seq .l (.two .l (.seq .l (.two .l (.seq .l .l))))))))) (.seq .l .l))))

theorem spec_l04Plain.vc_eq (p0 : Addr) (w : World) (K : Value → World → Prop) : vcF Try.prog Try.f136 spec_l04Plain.ann [(.pointer (some p0))] K w = spec_l04Plain.vc p0 w K := by kernel_rfl

theorem spec_l04Plain.start {p0 : Addr} {w : World} {K : Value → World → Prop} (h : spec_l04Plain.vc p0 w K) : Cll Try.prog 136 #[(.pointer (some p0))] w K :=
  vcF_sound mixed (fn := Try.f136) (by kernel_rfl) (by kernel_rfl) (an := spec_l04Plain.ann) (args := [(.pointer (some p0))]) (by rw [spec_l04Plain.vc_eq]; exact h)

theorem spec_l04Plain.con {s0 : D.Cur} {g1_ : Nat} {A0_0 : Option Addr} {c0_0 : Nat} {r : D.Ins × D.Cur} {w : World} (hp : M.spec_l04Plain_pre s0) (hr : r = M.spec_l04Plain s0) (O1 : Blk w g1_ 120 #[(.slice A0_0 s0.b.length c0_0), (.int .i64 s0.i), (.int .i64 s0.h)]) (R0_0 : Row el5 w A0_0 s0.b) (hc0_0 : s0.b.length ≤ c0_0) (D0_0 : s0.b ≠ [] → ∀ g, InB A0_0 g → ¬ (fun k_ => k_ = g1_) g) :
    Cll Try.prog 136 #[(.pointer (some (⟨g1_, 0, none⟩ : Addr)))] w (fun v_ w_ => v_ = (.agg #[(.int .i64 r.1.Op), (.int .i64 r.1.A), (.int .i64 r.1.B), (.int .i64 r.1.C)]) ∧ Blk w_ g1_ 120 #[(.slice A0_0 r.2.b.length c0_0), (.int .i64 r.2.i), (.int .i64 r.2.h)] ∧ r.2.b = s0.b ∧ Chg (fun k_ => k_ = g1_) w w_) := by
  have H := wp.spec_l04Plain.math s0 hp
  have hB := Chg.refl (fun k_ => k_ = g1_) w
  refine spec_l04Plain.start ?_
  unfold spec_l04Plain.vc
  unfold wp.spec_l04Plain at H
  refine newBlk (fun g3_ w21 L3 P3 e22 => ?_)
  have N1_3 := O1.ne L3
  have O1 := O1.ext e22
  have O3 := P3
  have L3 := Nat.le_trans hB.size L3
  have hB := hB.then e22
  obtain ⟨hp25, H⟩ := H
  obtain ⟨r23, hr24⟩ : ∃ r_, r_ = M.spec_l01Below s0 9 := ⟨_, rfl⟩
  have H := H r23 hr24
  refine (spec_l01Below.con hp25 hr24 O1 (R0_0.chgS hB D0_0) hc0_0 (fun hx_ => (fun g h_ hS_ => D0_0 hx_ g h_ hS_))).mono ?_
  rintro _ w26 ⟨rfl, Q1, hq28, e27⟩
  rw [hq28] at Q1
  have O3 := O3.chgS e27 ((N1_3).symm)
  have hB := hB.chg e27 (fun g h_ => Or.inr h_)
  have O1 := Q1
  refine ⟨r23.1, rfl, ?_⟩
  obtain ⟨hp31, H⟩ := H
  obtain ⟨r29, hr30⟩ : ∃ r_, r_ = M.spec_l01Below (⟨s0.b, r23.2.i, r23.2.h⟩ : D.Cur) 4 := ⟨_, rfl⟩
  have H := H r29 hr30
  refine (spec_l01Below.con hp31 hr30 O1 (R0_0.chgS hB D0_0) hc0_0 (fun hx_ => (fun g h_ hS_ => D0_0 hx_ g h_ hS_))).mono ?_
  rintro _ w32 ⟨rfl, Q1, hq34, e33⟩
  rw [hq34] at Q1
  have O3 := O3.chgS e33 ((N1_3).symm)
  have hB := hB.chg e33 (fun g h_ => Or.inr h_)
  have O1 := Q1
  refine ⟨r29.1, rfl, ?_⟩
  refine newBlk (fun g4_ w35 L4 P4 e36 => ?_)
  have N1_4 := O1.ne L4
  have N3_4 := O3.ne L4
  have O1 := O1.ext e36
  have O3 := O3.ext e36
  have O4 := P4
  have L4 := Nat.le_trans hB.size L4
  have hB := hB.then e36
  refine stBlk O4 (o := 0) (cs' := #[(.int .i64 (IntKind.wrap .i64 (1 + r23.1))), (.int .i64 r29.1), (.int .i64 0), (.int .i64 0)]) rfl rfl (Nat.le_of_ble_eq_true rfl) rfl (fun w37 P4 e38 => ?_)
  have O1_ := O1.chg e38 N1_4
  have O3_ := O3.chg e38 N3_4
  have O1 := O1_
  have O3 := O3_
  have hB := hB.chgb e38 (Or.inl L4)
  have O4 := P4
  refine ⟨_, (O4.at 0 rfl rfl), ?_⟩
  refine bcase_mk (fun hc81 => ?_) (fun hc81 => ?_)
  · have H := (bcase_iff.1 H).1 hc81
    obtain ⟨hp41, H⟩ := H
    obtain ⟨r39, hr40⟩ : ∃ r_, r_ = M.spec_l01Below (⟨s0.b, r29.2.i, r29.2.h⟩ : D.Cur) 6 := ⟨_, rfl⟩
    have H := H r39 hr40
    refine (spec_l01Below.con hp41 hr40 O1 (R0_0.chgS hB D0_0) hc0_0 (fun hx_ => (fun g h_ hS_ => D0_0 hx_ g h_ hS_))).mono ?_
    rintro _ w42 ⟨rfl, Q1, hq44, e43⟩
    rw [hq44] at Q1
    have O3 := O3.chgS e43 ((N1_3).symm)
    have O4 := O4.chgS e43 ((N1_4).symm)
    have hB := hB.chg e43 (fun g h_ => Or.inr h_)
    have O1 := Q1
    refine ⟨r39.1, rfl, ?_⟩
    refine stBlk O4 (o := 2) (cs' := #[(.int .i64 (IntKind.wrap .i64 (1 + r23.1))), (.int .i64 r29.1), (.int .i64 r39.1), (.int .i64 0)]) rfl rfl (Nat.le_of_ble_eq_true rfl) rfl (fun w45 P4 e46 => ?_)
    have O1_ := O1.chg e46 N1_4
    have O3_ := O3.chg e46 N3_4
    have O1 := O1_
    have O3 := O3_
    have hB := hB.chgb e46 (Or.inl L4)
    have O4 := P4
    refine ⟨_, (O4.at 0 rfl rfl), ?_⟩
    refine ⟨_, (O4.at 1 rfl rfl), ?_⟩
    refine ⟨_, (O4.at 2 rfl rfl), ?_⟩
    refine ⟨_, (O4.at 3 rfl rfl), ?_⟩
    refine stBlk O3 (o := 0) (cs' := #[(.int .i64 (IntKind.wrap .i64 (1 + r23.1))), (.int .i64 r29.1), (.int .i64 r39.1), (.int .i64 0)]) rfl rfl (Nat.le_of_ble_eq_true rfl) rfl (fun w47 P3 e48 => ?_)
    have O1_ := O1.chg e48 N1_3
    have O4_ := O4.chg e48 (N3_4).symm
    have O1 := O1_
    have O4 := O4_
    have hB := hB.chgb e48 (Or.inl L3)
    have O3 := P3
    refine ⟨_, (O3.at 0 rfl rfl), ?_⟩
    refine ⟨_, (O3.at 1 rfl rfl), ?_⟩
    refine ⟨_, (O3.at 2 rfl rfl), ?_⟩
    refine ⟨_, (O3.at 3 rfl rfl), ?_⟩
    obtain rfl := hr.trans H.symm
    exact ⟨rfl, O1, rfl, hB⟩
  · have H := (bcase_iff.1 H).2 hc81
    refine bcase_mk (fun hc80 => ?_) (fun hc80 => ?_)
    · have H := (bcase_iff.1 H).1 hc80
      refine ⟨_, (O4.at 0 rfl rfl), ?_⟩
      refine ⟨_, (O4.at 1 rfl rfl), ?_⟩
      refine ⟨_, (O4.at 2 rfl rfl), ?_⟩
      refine ⟨_, (O4.at 3 rfl rfl), ?_⟩
      refine stBlk O3 (o := 0) (cs' := #[(.int .i64 (IntKind.wrap .i64 (1 + r23.1))), (.int .i64 r29.1), (.int .i64 0), (.int .i64 0)]) rfl rfl (Nat.le_of_ble_eq_true rfl) rfl (fun w49 P3 e50 => ?_)
      have O1_ := O1.chg e50 N1_3
      have O4_ := O4.chg e50 (N3_4).symm
      have O1 := O1_
      have O4 := O4_
      have hB := hB.chgb e50 (Or.inl L3)
      have O3 := P3
      refine ⟨_, (O3.at 0 rfl rfl), ?_⟩
      refine ⟨_, (O3.at 1 rfl rfl), ?_⟩
      refine ⟨_, (O3.at 2 rfl rfl), ?_⟩
      refine ⟨_, (O3.at 3 rfl rfl), ?_⟩
      obtain rfl := hr.trans H.symm
      exact ⟨rfl, O1, rfl, hB⟩
    · have H := (bcase_iff.1 H).2 hc80
      refine bcase_mk (fun hc79 => ?_) (fun hc79 => ?_)
      · have H := (bcase_iff.1 H).1 hc79
        obtain ⟨hp53, H⟩ := H
        obtain ⟨r51, hr52⟩ : ∃ r_, r_ = M.spec_l01Below (⟨s0.b, r29.2.i, r29.2.h⟩ : D.Cur) 4 := ⟨_, rfl⟩
        have H := H r51 hr52
        refine (spec_l01Below.con hp53 hr52 O1 (R0_0.chgS hB D0_0) hc0_0 (fun hx_ => (fun g h_ hS_ => D0_0 hx_ g h_ hS_))).mono ?_
        rintro _ w54 ⟨rfl, Q1, hq56, e55⟩
        rw [hq56] at Q1
        have O3 := O3.chgS e55 ((N1_3).symm)
        have O4 := O4.chgS e55 ((N1_4).symm)
        have hB := hB.chg e55 (fun g h_ => Or.inr h_)
        have O1 := Q1
        refine ⟨r51.1, rfl, ?_⟩
        refine stBlk O4 (o := 2) (cs' := #[(.int .i64 (IntKind.wrap .i64 (1 + r23.1))), (.int .i64 r29.1), (.int .i64 r51.1), (.int .i64 0)]) rfl rfl (Nat.le_of_ble_eq_true rfl) rfl (fun w57 P4 e58 => ?_)
        have O1_ := O1.chg e58 N1_4
        have O3_ := O3.chg e58 N3_4
        have O1 := O1_
        have O3 := O3_
        have hB := hB.chgb e58 (Or.inl L4)
        have O4 := P4
        refine ⟨_, (O4.at 0 rfl rfl), ?_⟩
        refine ⟨_, (O4.at 1 rfl rfl), ?_⟩
        refine ⟨_, (O4.at 2 rfl rfl), ?_⟩
        refine ⟨_, (O4.at 3 rfl rfl), ?_⟩
        refine stBlk O3 (o := 0) (cs' := #[(.int .i64 (IntKind.wrap .i64 (1 + r23.1))), (.int .i64 r29.1), (.int .i64 r51.1), (.int .i64 0)]) rfl rfl (Nat.le_of_ble_eq_true rfl) rfl (fun w59 P3 e60 => ?_)
        have O1_ := O1.chg e60 N1_3
        have O4_ := O4.chg e60 (N3_4).symm
        have O1 := O1_
        have O4 := O4_
        have hB := hB.chgb e60 (Or.inl L3)
        have O3 := P3
        refine ⟨_, (O3.at 0 rfl rfl), ?_⟩
        refine ⟨_, (O3.at 1 rfl rfl), ?_⟩
        refine ⟨_, (O3.at 2 rfl rfl), ?_⟩
        refine ⟨_, (O3.at 3 rfl rfl), ?_⟩
        obtain rfl := hr.trans H.symm
        exact ⟨rfl, O1, rfl, hB⟩
      · have H := (bcase_iff.1 H).2 hc79
        obtain ⟨hp63, H⟩ := H
        obtain ⟨r61, hr62⟩ : ∃ r_, r_ = M.spec_l01Below (⟨s0.b, r29.2.i, r29.2.h⟩ : D.Cur) 4 := ⟨_, rfl⟩
        have H := H r61 hr62
        refine (spec_l01Below.con hp63 hr62 O1 (R0_0.chgS hB D0_0) hc0_0 (fun hx_ => (fun g h_ hS_ => D0_0 hx_ g h_ hS_))).mono ?_
        rintro _ w64 ⟨rfl, Q1, hq66, e65⟩
        rw [hq66] at Q1
        have O3 := O3.chgS e65 ((N1_3).symm)
        have O4 := O4.chgS e65 ((N1_4).symm)
        have hB := hB.chg e65 (fun g h_ => Or.inr h_)
        have O1 := Q1
        refine ⟨r61.1, rfl, ?_⟩
        refine stBlk O4 (o := 2) (cs' := #[(.int .i64 (IntKind.wrap .i64 (1 + r23.1))), (.int .i64 r29.1), (.int .i64 r61.1), (.int .i64 0)]) rfl rfl (Nat.le_of_ble_eq_true rfl) rfl (fun w67 P4 e68 => ?_)
        have O1_ := O1.chg e68 N1_4
        have O3_ := O3.chg e68 N3_4
        have O1 := O1_
        have O3 := O3_
        have hB := hB.chgb e68 (Or.inl L4)
        have O4 := P4
        obtain ⟨hp71, H⟩ := H
        obtain ⟨r69, hr70⟩ : ∃ r_, r_ = M.spec_l01Below (⟨s0.b, r61.2.i, r61.2.h⟩ : D.Cur) 4 := ⟨_, rfl⟩
        have H := H r69 hr70
        refine (spec_l01Below.con hp71 hr70 O1 (R0_0.chgS hB D0_0) hc0_0 (fun hx_ => (fun g h_ hS_ => D0_0 hx_ g h_ hS_))).mono ?_
        rintro _ w72 ⟨rfl, Q1, hq74, e73⟩
        rw [hq74] at Q1
        have O3 := O3.chgS e73 ((N1_3).symm)
        have O4 := O4.chgS e73 ((N1_4).symm)
        have hB := hB.chg e73 (fun g h_ => Or.inr h_)
        have O1 := Q1
        refine ⟨r69.1, rfl, ?_⟩
        refine stBlk O4 (o := 3) (cs' := #[(.int .i64 (IntKind.wrap .i64 (1 + r23.1))), (.int .i64 r29.1), (.int .i64 r61.1), (.int .i64 r69.1)]) rfl rfl (Nat.le_of_ble_eq_true rfl) rfl (fun w75 P4 e76 => ?_)
        have O1_ := O1.chg e76 N1_4
        have O3_ := O3.chg e76 N3_4
        have O1 := O1_
        have O3 := O3_
        have hB := hB.chgb e76 (Or.inl L4)
        have O4 := P4
        refine ⟨_, (O4.at 0 rfl rfl), ?_⟩
        refine ⟨_, (O4.at 1 rfl rfl), ?_⟩
        refine ⟨_, (O4.at 2 rfl rfl), ?_⟩
        refine ⟨_, (O4.at 3 rfl rfl), ?_⟩
        refine stBlk O3 (o := 0) (cs' := #[(.int .i64 (IntKind.wrap .i64 (1 + r23.1))), (.int .i64 r29.1), (.int .i64 r61.1), (.int .i64 r69.1)]) rfl rfl (Nat.le_of_ble_eq_true rfl) rfl (fun w77 P3 e78 => ?_)
        have O1_ := O1.chg e78 N1_3
        have O4_ := O4.chg e78 (N3_4).symm
        have O1 := O1_
        have O4 := O4_
        have hB := hB.chgb e78 (Or.inl L3)
        have O3 := P3
        refine ⟨_, (O3.at 0 rfl rfl), ?_⟩
        refine ⟨_, (O3.at 1 rfl rfl), ?_⟩
        refine ⟨_, (O3.at 2 rfl rfl), ?_⟩
        refine ⟨_, (O3.at 3 rfl rfl), ?_⟩
        obtain rfl := hr.trans H.symm
        exact ⟨rfl, O1, rfl, hB⟩

def spec_l07Wild.vc (p0 : Addr) (w : World) (K : Value → World → Prop) : Prop :=
  Run Try.prog (Instr.buildSlice 29 0 #[]) w fun v21 w22 => ∃ (A23 : Option Addr) (n24 c25 : Nat), v21 = .slice A23 n24 c25 ∧ Cll Try.prog 85 #[(.pointer (some p0)), (.int .i64 9)] w22 fun v26 w27 => (∃ (n28 : Int), v26 = (.int .i64 n28) ∧ LoopT (σ := (Option Addr × Nat × Nat) × Int × Unit) (fun z29 w30 next31 => bcase (decide (z29.2.1 < n28)) (Cll Try.prog 85 #[(.pointer (some p0)), (.int .i64 6)] w30 fun v32 w33 => (∃ (n34 : Int), v32 = (.int .i64 n34) ∧ JoinT (σ := Bool × Unit) (fun J35 => bcase (n34 == 0) (J35 (true, ()) w33) (J35 ((n34 == 1), ()) w33)) fun z36 w37 => bcase z36.1 (Cll Try.prog 85 #[(.pointer (some p0)), (.int .i64 4)] w37 fun v38 w39 => (∃ (n40 : Int), v38 = (.int .i64 n40) ∧ Cll Try.prog 85 #[(.pointer (some p0)), (.int .i64 (IntKind.wrap .i64 (n28 + 1)))] w39 fun v41 w42 => (∃ (n43 : Int), v41 = (.int .i64 n43) ∧ Run Try.prog (Instr.buildSlice 29 1 #[(0, (.agg #[(.int .i64 10), (.int .i64 n40), (.int .i64 n43), (.int .i64 0)]))]) w42 fun v44 w45 => ∃ (A46 : Option Addr) (n47 c48 : Nat), v44 = .slice A46 n47 c48 ∧ Run Try.prog (Builtin.append_ #[29, 29] 29 #[(.slice z29.1.1 z29.1.2.1 z29.1.2.2), (.slice A46 n47 c48)]) w45 fun v49 w50 => ∃ (A51 : Option Addr) (n52 c53 : Nat), v49 = .slice A51 n52 c53 ∧ next31 ((A51, n52, c53), (IntKind.wrap .i64 (z29.2.1 + 1)), ()) w50))) (bcase (n34 == 2) (Cll Try.prog 85 #[(.pointer (some p0)), (.int .i64 (IntKind.wrap .i64 (n28 + 1)))] w37 fun v54 w55 => (∃ (n56 : Int), v54 = (.int .i64 n56) ∧ Run Try.prog (Instr.buildSlice 29 1 #[(0, (.agg #[(.int .i64 11), (.int .i64 0), (.int .i64 n56), (.int .i64 0)]))]) w55 fun v57 w58 => ∃ (A59 : Option Addr) (n60 c61 : Nat), v57 = .slice A59 n60 c61 ∧ Run Try.prog (Builtin.append_ #[29, 29] 29 #[(.slice z29.1.1 z29.1.2.1 z29.1.2.2), (.slice A59 n60 c61)]) w58 fun v62 w63 => ∃ (A64 : Option Addr) (n65 c66 : Nat), v62 = .slice A64 n65 c66 ∧ next31 ((A64, n65, c66), (IntKind.wrap .i64 (z29.2.1 + 1)), ()) w63)) (bcase (n34 == 3) (Run Try.prog (Instr.buildSlice 29 1 #[(0, (.agg #[(.int .i64 12), (.int .i64 0), (.int .i64 0), (.int .i64 0)]))]) w37 fun v67 w68 => ∃ (A69 : Option Addr) (n70 c71 : Nat), v67 = .slice A69 n70 c71 ∧ Run Try.prog (Builtin.append_ #[29, 29] 29 #[(.slice z29.1.1 z29.1.2.1 z29.1.2.2), (.slice A69 n70 c71)]) w68 fun v72 w73 => ∃ (A74 : Option Addr) (n75 c76 : Nat), v72 = .slice A74 n75 c76 ∧ next31 ((A74, n75, c76), (IntKind.wrap .i64 (z29.2.1 + 1)), ()) w73) (Cll Try.prog 136 #[(.pointer (some p0))] w37 fun v77 w78 => (∃ (n79 : Int), True ∧ ∃ (n80 : Int), True ∧ ∃ (n81 : Int), True ∧ ∃ (n82 : Int), True ∧ v77 = (.agg #[(.int .i64 n79), (.int .i64 n80), (.int .i64 n81), (.int .i64 n82)]) ∧ Run Try.prog (Instr.buildSlice 29 1 #[(0, (.agg #[(.int .i64 n79), (.int .i64 n80), (.int .i64 n81), (.int .i64 n82)]))]) w78 fun v83 w84 => ∃ (A85 : Option Addr) (n86 c87 : Nat), v83 = .slice A85 n86 c87 ∧ Run Try.prog (Builtin.append_ #[29, 29] 29 #[(.slice z29.1.1 z29.1.2.1 z29.1.2.2), (.slice A85 n86 c87)]) w84 fun v88 w89 => ∃ (A90 : Option Addr) (n91 c92 : Nat), v88 = .slice A90 n91 c92 ∧ next31 ((A90, n91, c92), (IntKind.wrap .i64 (z29.2.1 + 1)), ()) w89)))))) (K (.slice z29.1.1 z29.1.2.1 z29.1.2.2) w30)) ((A23, n24, c25), 0, ()) w27)

def spec_l07Wild.ann : Ann := (.seq .l (.seq .l (.seq .l (.seq (.seq .l (.one (.loop [(3, .sl), (5, .int .i64)] (.seq (.seq .l (.two .l .l)) (.seq (.one (.seq .l (.one (.cut [(21, .bool)] (.seq .l (.two .l .l)) (.two .l (.seq .l (.two .l (.seq .l (.two .l .l))))))))) .l))))) (.seq .l .l)))))

theorem spec_l07Wild.vc_eq (p0 : Addr) (w : World) (K : Value → World → Prop) : vcF Try.prog Try.f83 spec_l07Wild.ann [(.pointer (some p0))] K w = spec_l07Wild.vc p0 w K := by kernel_rfl

theorem spec_l07Wild.start {p0 : Addr} {w : World} {K : Value → World → Prop} (h : spec_l07Wild.vc p0 w K) : Cll Try.prog 83 #[(.pointer (some p0))] w K :=
  vcF_sound mixed (fn := Try.f83) (by kernel_rfl) (by kernel_rfl) (an := spec_l07Wild.ann) (args := [(.pointer (some p0))]) (by rw [spec_l07Wild.vc_eq]; exact h)

theorem spec_l07Wild.con {s0 : D.Cur} {g1_ : Nat} {A0_0 : Option Addr} {c0_0 : Nat} {r : (List D.Ins) × D.Cur} {w : World} (hp : M.spec_l07Wild_pre s0) (hr : r = M.spec_l07Wild s0) (O1 : Blk w g1_ 120 #[(.slice A0_0 s0.b.length c0_0), (.int .i64 s0.i), (.int .i64 s0.h)]) (R0_0 : Row el5 w A0_0 s0.b) (hc0_0 : s0.b.length ≤ c0_0) (D0_0 : s0.b ≠ [] → ∀ g, InB A0_0 g → ¬ (fun k_ => k_ = g1_) g) :
    Cll Try.prog 83 #[(.pointer (some (⟨g1_, 0, none⟩ : Addr)))] w (fun v_ w_ => ∃ (A0_ : Option Addr) (c0_ : Nat), v_ = (.slice A0_ r.1.length c0_) ∧ Own el76 w_ w.heap.size A0_ c0_ r.1 ∧ Blk w_ g1_ 120 #[(.slice A0_0 r.2.b.length c0_0), (.int .i64 r.2.i), (.int .i64 r.2.h)] ∧ r.2.b = s0.b ∧ Chg (fun k_ => k_ = g1_) w w_) := by
  have H := wp.spec_l07Wild.math s0 hp
  have hB := Chg.refl (fun k_ => k_ = g1_) w
  refine spec_l07Wild.start ?_
  unfold spec_l07Wild.vc
  unfold wp.spec_l07Wild at H
  refine buildOwn el76 ([] : List D.Ins) (fun _ => by kernel_rfl) rfl (fun A21 w22 P3 e23 => ?_)
  have N3_1 := P3.apart_old O1.lt
  have O1 := O1.ext e23
  have O3 := P3.mono hB.size
  have hB := hB.then e23
  obtain ⟨hp26, H⟩ := H
  obtain ⟨r24, hr25⟩ : ∃ r_, r_ = M.spec_l01Below s0 9 := ⟨_, rfl⟩
  have H := H r24 hr25
  refine (spec_l01Below.con hp26 hr25 O1 (R0_0.chgS hB D0_0) hc0_0 (fun hx_ => (fun g h_ hS_ => D0_0 hx_ g h_ hS_))).mono ?_
  rintro _ w27 ⟨rfl, Q1, hq29, e28⟩
  rw [hq29] at Q1
  have O3 := O3.chgS e28 (box_inb N3_1)
  have hB := hB.chg e28 (fun g h_ => Or.inr h_)
  have O1 := Q1
  refine ⟨r24.1, rfl, ?_⟩
  obtain ⟨J77, ⟨m168, hJ167⟩, hS78⟩ := H
  refine ⟨fun m_ z_ w_ => ∃ (xs70 : List D.Ins) (i73 : Int) (i74 : Int) (i75 : Int) (A71 : Option Addr) (c72 : Nat), z_ = ((A71, xs70.length, c72), i73, ()) ∧ J77 m_ (xs70, i73, i74, i75, ()) ∧ Chg (fun k_ => k_ = g1_) w w_ ∧ Own el76 w_ w.heap.size A71 c72 xs70 ∧ Blk w_ g1_ 120 #[(.slice A0_0 s0.b.length c0_0), (.int .i64 i74), (.int .i64 i75)], ⟨m168, ([] : List D.Ins), 0, r24.2.i, r24.2.h, A21, 0, rfl, hJ167, hB, O3, O1⟩, ?_⟩
  rintro m76 _ w80 ⟨xs70, i73, i74, i75, A71, c72, rfl, hJ169, hB, O6, O1⟩
  have H := hS78 m76 _ hJ169
  clear hS78 hJ169
  dsimp only at H ⊢
  refine bcase_mk (fun hc165 => ?_) (fun hc165 => ?_)
  · have H := (bcase_iff.1 H).1 hc165
    obtain ⟨hp83, H⟩ := H
    obtain ⟨r81, hr82⟩ : ∃ r_, r_ = M.spec_l01Below (⟨s0.b, i74, i75⟩ : D.Cur) 6 := ⟨_, rfl⟩
    have H := H r81 hr82
    refine (spec_l01Below.con hp83 hr82 O1 (R0_0.chgS hB D0_0) hc0_0 (fun hx_ => (fun g h_ hS_ => D0_0 hx_ g h_ hS_))).mono ?_
    rintro _ w84 ⟨rfl, Q1, hq86, e85⟩
    rw [hq86] at Q1
    have O6 := O6.chgS e85 (box_inb (O6.apart_type O1 (by decide)))
    have hB := hB.chg e85 (fun g h_ => Or.inr h_)
    have O1 := Q1
    refine ⟨r81.1, rfl, ?_⟩
    obtain ⟨K164, hKK164, H⟩ := joinP_out H
    refine ⟨fun z_ w_ => ∃ (b87 : Bool), z_ = (b87, ()) ∧ K164 (b87, ()) ∧ Chg (fun k_ => k_ = g1_) w w_ ∧ Blk w_ g1_ 120 #[(.slice A0_0 s0.b.length c0_0), (.int .i64 r81.2.i), (.int .i64 r81.2.h)] ∧ Own el76 w_ w.heap.size A71 c72 xs70, ?_, ?_⟩
    · refine bcase_mk (fun hc91 => ?_) (fun hc91 => ?_)
      · have H := (bcase_iff.1 H).1 hc91
        exact ⟨true, rfl, H, hB, O1, O6⟩
      · have H := (bcase_iff.1 H).2 hc91
        exact ⟨(r81.1 == 1), rfl, H, hB, O1, O6⟩
    · rintro _ w89 ⟨b87, rfl, H, hB, O1, O6⟩
      have H := hKK164 _ H
      dsimp only at H ⊢
      refine bcase_mk (fun hc162 => ?_) (fun hc162 => ?_)
      · have H := (bcase_iff.1 H).1 hc162
        obtain ⟨hp94, H⟩ := H
        obtain ⟨r92, hr93⟩ : ∃ r_, r_ = M.spec_l01Below (⟨s0.b, r81.2.i, r81.2.h⟩ : D.Cur) 4 := ⟨_, rfl⟩
        have H := H r92 hr93
        refine (spec_l01Below.con hp94 hr93 O1 (R0_0.chgS hB D0_0) hc0_0 (fun hx_ => (fun g h_ hS_ => D0_0 hx_ g h_ hS_))).mono ?_
        rintro _ w95 ⟨rfl, Q1, hq97, e96⟩
        rw [hq97] at Q1
        have O6 := O6.chgS e96 (box_inb (O6.apart_type O1 (by decide)))
        have hB := hB.chg e96 (fun g h_ => Or.inr h_)
        have O1 := Q1
        refine ⟨r92.1, rfl, ?_⟩
        obtain ⟨hp100, H⟩ := H
        obtain ⟨r98, hr99⟩ : ∃ r_, r_ = M.spec_l01Below (⟨s0.b, r92.2.i, r92.2.h⟩ : D.Cur) (IntKind.wrap .i64 (r24.1 + 1)) := ⟨_, rfl⟩
        have H := H r98 hr99
        refine (spec_l01Below.con hp100 hr99 O1 (R0_0.chgS hB D0_0) hc0_0 (fun hx_ => (fun g h_ hS_ => D0_0 hx_ g h_ hS_))).mono ?_
        rintro _ w101 ⟨rfl, Q1, hq103, e102⟩
        rw [hq103] at Q1
        have O6 := O6.chgS e102 (box_inb (O6.apart_type O1 (by decide)))
        have hB := hB.chg e102 (fun g h_ => Or.inr h_)
        have O1 := Q1
        refine ⟨r98.1, rfl, ?_⟩
        refine buildOwn el76 ([(⟨10, r92.1, r98.1, 0⟩ : D.Ins)] : List D.Ins) (fun _ => by kernel_rfl) rfl (fun A104 w105 P7 e106 => ?_)
        have N7_1 := P7.apart_old O1.lt
        have N6_7 := Own.apart2_new O6 P7 (Nat.le_refl _)
        have O1 := O1.ext e106
        have O6 := O6.ext e106
        have O7 := P7.mono hB.size
        have hB := hB.then e106
        obtain ⟨hl111, H⟩ := H
        refine appOwn slt29 slt29.under O6 O7.row hB.size rfl (by first | rfl | omega | (simp; done) | (simp; omega)) hl111 (fun A107 c108 w109 P6 e110 => ?_)
        have N6_1_ := Apart.app (O6.apart_type O1 (by decide)) e110 O1.lt
        have O1 := O1.app e110 (O6.apart_type O1 (by decide))
        have N6_1 := N6_1_
        have N7_6_ := Apart2.app (N6_7).symm e110 O7
        have O7 := O7.app e110 (N6_7).symm
        have N7_6 := N7_6_
        have hB := hB.app e110 (fun g h_ => Or.inl (O6.low g h_))
        have O6 := P6
        obtain ⟨m112, hm113, hJ114⟩ := H
        exact ⟨m112, hm113, (xs70 ++ ([(⟨10, r92.1, r98.1, 0⟩ : D.Ins)] : List D.Ins)), (IntKind.wrap .i64 (i73 + 1)), r98.2.i, r98.2.h, A107, c108, rfl, hJ114, hB, O6, O1⟩
      · have H := (bcase_iff.1 H).2 hc162
        refine bcase_mk (fun hc161 => ?_) (fun hc161 => ?_)
        · have H := (bcase_iff.1 H).1 hc161
          obtain ⟨hp117, H⟩ := H
          obtain ⟨r115, hr116⟩ : ∃ r_, r_ = M.spec_l01Below (⟨s0.b, r81.2.i, r81.2.h⟩ : D.Cur) (IntKind.wrap .i64 (r24.1 + 1)) := ⟨_, rfl⟩
          have H := H r115 hr116
          refine (spec_l01Below.con hp117 hr116 O1 (R0_0.chgS hB D0_0) hc0_0 (fun hx_ => (fun g h_ hS_ => D0_0 hx_ g h_ hS_))).mono ?_
          rintro _ w118 ⟨rfl, Q1, hq120, e119⟩
          rw [hq120] at Q1
          have O6 := O6.chgS e119 (box_inb (O6.apart_type O1 (by decide)))
          have hB := hB.chg e119 (fun g h_ => Or.inr h_)
          have O1 := Q1
          refine ⟨r115.1, rfl, ?_⟩
          refine buildOwn el76 ([(⟨11, 0, r115.1, 0⟩ : D.Ins)] : List D.Ins) (fun _ => by kernel_rfl) rfl (fun A121 w122 P8 e123 => ?_)
          have N8_1 := P8.apart_old O1.lt
          have N6_8 := Own.apart2_new O6 P8 (Nat.le_refl _)
          have O1 := O1.ext e123
          have O6 := O6.ext e123
          have O8 := P8.mono hB.size
          have hB := hB.then e123
          obtain ⟨hl128, H⟩ := H
          refine appOwn slt29 slt29.under O6 O8.row hB.size rfl (by first | rfl | omega | (simp; done) | (simp; omega)) hl128 (fun A124 c125 w126 P6 e127 => ?_)
          have N6_1_ := Apart.app (O6.apart_type O1 (by decide)) e127 O1.lt
          have O1 := O1.app e127 (O6.apart_type O1 (by decide))
          have N6_1 := N6_1_
          have N8_6_ := Apart2.app (N6_8).symm e127 O8
          have O8 := O8.app e127 (N6_8).symm
          have N8_6 := N8_6_
          have hB := hB.app e127 (fun g h_ => Or.inl (O6.low g h_))
          have O6 := P6
          obtain ⟨m129, hm130, hJ131⟩ := H
          exact ⟨m129, hm130, (xs70 ++ ([(⟨11, 0, r115.1, 0⟩ : D.Ins)] : List D.Ins)), (IntKind.wrap .i64 (i73 + 1)), r115.2.i, r115.2.h, A124, c125, rfl, hJ131, hB, O6, O1⟩
        · have H := (bcase_iff.1 H).2 hc161
          refine bcase_mk (fun hc160 => ?_) (fun hc160 => ?_)
          · have H := (bcase_iff.1 H).1 hc160
            refine buildOwn el76 ([(⟨12, 0, 0, 0⟩ : D.Ins)] : List D.Ins) (fun _ => by kernel_rfl) rfl (fun A132 w133 P9 e134 => ?_)
            have N9_1 := P9.apart_old O1.lt
            have N6_9 := Own.apart2_new O6 P9 (Nat.le_refl _)
            have O1 := O1.ext e134
            have O6 := O6.ext e134
            have O9 := P9.mono hB.size
            have hB := hB.then e134
            obtain ⟨hl139, H⟩ := H
            refine appOwn slt29 slt29.under O6 O9.row hB.size rfl (by first | rfl | omega | (simp; done) | (simp; omega)) hl139 (fun A135 c136 w137 P6 e138 => ?_)
            have N6_1_ := Apart.app (O6.apart_type O1 (by decide)) e138 O1.lt
            have O1 := O1.app e138 (O6.apart_type O1 (by decide))
            have N6_1 := N6_1_
            have N9_6_ := Apart2.app (N6_9).symm e138 O9
            have O9 := O9.app e138 (N6_9).symm
            have N9_6 := N9_6_
            have hB := hB.app e138 (fun g h_ => Or.inl (O6.low g h_))
            have O6 := P6
            obtain ⟨m140, hm141, hJ142⟩ := H
            exact ⟨m140, hm141, (xs70 ++ ([(⟨12, 0, 0, 0⟩ : D.Ins)] : List D.Ins)), (IntKind.wrap .i64 (i73 + 1)), r81.2.i, r81.2.h, A135, c136, rfl, hJ142, hB, O6, O1⟩
          · have H := (bcase_iff.1 H).2 hc160
            obtain ⟨hp145, H⟩ := H
            obtain ⟨r143, hr144⟩ : ∃ r_, r_ = M.spec_l04Plain (⟨s0.b, r81.2.i, r81.2.h⟩ : D.Cur) := ⟨_, rfl⟩
            have H := H r143 hr144
            refine (spec_l04Plain.con hp145 hr144 O1 (R0_0.chgS hB D0_0) hc0_0 (fun hx_ => (fun g h_ hS_ => D0_0 hx_ g h_ hS_))).mono ?_
            rintro _ w146 ⟨rfl, Q1, hq148, e147⟩
            rw [hq148] at Q1
            have O6 := O6.chgS e147 (box_inb (O6.apart_type O1 (by decide)))
            have hB := hB.chg e147 (fun g h_ => Or.inr h_)
            have O1 := Q1
            refine ⟨r143.1.Op, trivial, ?_⟩
            refine ⟨r143.1.A, trivial, ?_⟩
            refine ⟨r143.1.B, trivial, ?_⟩
            refine ⟨r143.1.C, trivial, ?_⟩
            refine ⟨rfl, ?_⟩
            refine buildOwn el76 ([r143.1] : List D.Ins) (fun _ => by kernel_rfl) rfl (fun A149 w150 P10 e151 => ?_)
            have N10_1 := P10.apart_old O1.lt
            have N6_10 := Own.apart2_new O6 P10 (Nat.le_refl _)
            have O1 := O1.ext e151
            have O6 := O6.ext e151
            have O10 := P10.mono hB.size
            have hB := hB.then e151
            obtain ⟨hl156, H⟩ := H
            refine appOwn slt29 slt29.under O6 O10.row hB.size rfl (by first | rfl | omega | (simp; done) | (simp; omega)) hl156 (fun A152 c153 w154 P6 e155 => ?_)
            have N6_1_ := Apart.app (O6.apart_type O1 (by decide)) e155 O1.lt
            have O1 := O1.app e155 (O6.apart_type O1 (by decide))
            have N6_1 := N6_1_
            have N10_6_ := Apart2.app (N6_10).symm e155 O10
            have O10 := O10.app e155 (N6_10).symm
            have N10_6 := N10_6_
            have hB := hB.app e155 (fun g h_ => Or.inl (O6.low g h_))
            have O6 := P6
            obtain ⟨m157, hm158, hJ159⟩ := H
            exact ⟨m157, hm158, (xs70 ++ ([r143.1] : List D.Ins)), (IntKind.wrap .i64 (i73 + 1)), r143.2.i, r143.2.h, A152, c153, rfl, hJ159, hB, O6, O1⟩
  · have H := (bcase_iff.1 H).2 hc165
    obtain rfl := hr.trans H.symm
    exact ⟨A71, c72, rfl, O6, O1, rfl, hB⟩

def spec_DrawPlaces.vc (A0 : Option Addr) (n0 : Nat) (c0 : Nat) (w : World) (K : Value → World → Prop) : Prop :=
  Cll Try.prog 84 #[(.slice A0 n0 c0)] w fun v21 w22 => (∃ (p23 : Addr), v21 = (.pointer (some p23)) ∧ Run Try.prog (Instr.buildSlice 24 0 #[]) w22 fun v24 w25 => ∃ (A26 : Option Addr) (n27 c28 : Nat), v24 = .slice A26 n27 c28 ∧ LoopT (σ := (Option Addr × Nat × Nat) × Int × Unit) (fun z29 w30 next31 => bcase (decide (z29.2.1 < 12)) (Cll Try.prog 85 #[(.pointer (some p23)), (.int .i64 10000)] w30 fun v32 w33 => (∃ (n34 : Int), v32 = (.int .i64 n34) ∧ Run Try.prog (Instr.buildSlice 24 1 #[(0, (.int .i64 n34))]) w33 fun v35 w36 => ∃ (A37 : Option Addr) (n38 c39 : Nat), v35 = .slice A37 n38 c39 ∧ Run Try.prog (Builtin.append_ #[24, 24] 24 #[(.slice z29.1.1 z29.1.2.1 z29.1.2.2), (.slice A37 n38 c39)]) w36 fun v40 w41 => ∃ (A42 : Option Addr) (n43 c44 : Nat), v40 = .slice A42 n43 c44 ∧ next31 ((A42, n43, c44), (IntKind.wrap .i64 (z29.2.1 + 1)), ()) w41)) (K (.slice z29.1.1 z29.1.2.1 z29.1.2.2) w30)) ((A26, n27, c28), 0, ()) w25)

def spec_DrawPlaces.ann : Ann := (.seq .l (.seq .l (.seq .l (.seq (.seq .l (.one (.loop [(4, .sl), (5, .int .i64)] (.seq (.seq .l (.two .l .l)) (.seq (.one .l) .l))))) (.seq .l .l)))))

theorem spec_DrawPlaces.vc_eq (A0 : Option Addr) (n0 : Nat) (c0 : Nat) (w : World) (K : Value → World → Prop) : vcF Try.prog Try.f36 spec_DrawPlaces.ann [(.slice A0 n0 c0)] K w = spec_DrawPlaces.vc A0 n0 c0 w K := by kernel_rfl

theorem spec_DrawPlaces.start {A0 : Option Addr} {n0 : Nat} {c0 : Nat} {w : World} {K : Value → World → Prop} (h : spec_DrawPlaces.vc A0 n0 c0 w K) : Cll Try.prog 36 #[(.slice A0 n0 c0)] w K :=
  vcF_sound mixed (fn := Try.f36) (by kernel_rfl) (by kernel_rfl) (an := spec_DrawPlaces.ann) (args := [(.slice A0 n0 c0)]) (by rw [spec_DrawPlaces.vc_eq]; exact h)

theorem spec_DrawPlaces.con {xs0 : List Int} {A0 : Option Addr} {c0 : Nat} {r : List Int} {w : World} (hp : M.spec_DrawPlaces_pre xs0) (hr : r = M.spec_DrawPlaces xs0) (R0 : Row el5 w A0 xs0) (hc0 : xs0.length ≤ c0) :
    Cll Try.prog 36 #[(.slice A0 xs0.length c0)] w (fun v_ w_ => ∃ (A0_ : Option Addr) (c0_ : Nat), v_ = (.slice A0_ r.length c0_) ∧ Own el3 w_ w.heap.size A0_ c0_ r ∧ Ext w w_) := by
  have H := wp.spec_DrawPlaces.math xs0 hp
  have hB := Ext.refl w
  refine spec_DrawPlaces.start ?_
  unfold spec_DrawPlaces.vc
  unfold wp.spec_DrawPlaces at H
  obtain ⟨hp23, H⟩ := H
  obtain ⟨r21, hr22⟩ : ∃ r_, r_ = M.spec_l01New xs0 := ⟨_, rfl⟩
  have H := H r21 hr22
  refine (spec_l01New.con hp23 hr22 (R0.ext hB) hc0).mono ?_
  rintro _ w24 ⟨g2_, rfl, P2, hq26, L2, e25⟩
  rw [hq26] at P2
  have L2 := Nat.le_trans hB.size L2
  have O2 := P2
  have hB := ethen hB e25
  refine ⟨(⟨g2_, 0, none⟩ : Addr), rfl, ?_⟩
  refine buildOwn el3 ([] : List Int) (fun _ => by kernel_rfl) rfl (fun A27 w28 P3 e29 => ?_)
  have N3_2 := P3.apart_old O2.lt
  have O2 := O2.ext e29
  have O3 := P3.mono hB.size
  have hB := ethen hB e29
  obtain ⟨J60, ⟨m84, hJ83⟩, hS61⟩ := H
  refine ⟨fun m_ z_ w_ => ∃ (xs53 : List Int) (i56 : Int) (i57 : Int) (i58 : Int) (A54 : Option Addr) (c55 : Nat), z_ = ((A54, xs53.length, c55), i56, ()) ∧ J60 m_ (xs53, i56, i57, i58, ()) ∧ Ext w w_ ∧ Own el3 w_ w.heap.size A54 c55 xs53 ∧ Blk w_ g2_ 120 #[(.slice A0 xs0.length c0), (.int .i64 i57), (.int .i64 i58)], ⟨m84, ([] : List Int), 0, r21.i, r21.h, A27, 0, rfl, hJ83, hB, O3, O2⟩, ?_⟩
  rintro m59 _ w63 ⟨xs53, i56, i57, i58, A54, c55, rfl, hJ85, hB, O6, O2⟩
  have H := hS61 m59 _ hJ85
  clear hS61 hJ85
  dsimp only at H ⊢
  refine bcase_mk (fun hc81 => ?_) (fun hc81 => ?_)
  · have H := (bcase_iff.1 H).1 hc81
    obtain ⟨hp66, H⟩ := H
    obtain ⟨r64, hr65⟩ : ∃ r_, r_ = M.spec_l01Below (⟨xs0, i57, i58⟩ : D.Cur) 10000 := ⟨_, rfl⟩
    have H := H r64 hr65
    refine (spec_l01Below.con hp66 hr65 O2 (R0.ext hB) hc0 (fun hx_ => (fun g h_ hS_ => Nat.not_le.2 (R0.old hx_ g h_) (box_low L2 _ hS_)))).mono ?_
    rintro _ w67 ⟨rfl, Q2, hq69, e68⟩
    rw [hq69] at Q2
    have O6 := O6.chgS e68 (box_inb (O6.apart_type O2 (by decide)))
    have hB := Chg.ext hB e68 (box_low L2)
    have O2 := Q2
    refine ⟨r64.1, rfl, ?_⟩
    refine buildOwn el3 ([r64.1] : List Int) (fun _ => by kernel_rfl) rfl (fun A70 w71 P7 e72 => ?_)
    have N7_2 := P7.apart_old O2.lt
    have N6_7 := Own.apart2_new O6 P7 (Nat.le_refl _)
    have O2 := O2.ext e72
    have O6 := O6.ext e72
    have O7 := P7.mono hB.size
    have hB := ethen hB e72
    obtain ⟨hl77, H⟩ := H
    refine appOwn slt24 slt24.under O6 O7.row hB.size rfl (by first | rfl | omega | (simp; done) | (simp; omega)) hl77 (fun A73 c74 w75 P6 e76 => ?_)
    have N6_2_ := Apart.app (O6.apart_type O2 (by decide)) e76 O2.lt
    have O2 := O2.app e76 (O6.apart_type O2 (by decide))
    have N6_2 := N6_2_
    have N7_6_ := Apart2.app (N6_7).symm e76 O7
    have O7 := O7.app e76 (N6_7).symm
    have N7_6 := N7_6_
    have hB := eapp hB e76 O6
    have O6 := P6
    obtain ⟨m78, hm79, hJ80⟩ := H
    exact ⟨m78, hm79, (xs53 ++ ([r64.1] : List Int)), (IntKind.wrap .i64 (i56 + 1)), r64.2.i, r64.2.h, A73, c74, rfl, hJ80, hB, O6, O2⟩
  · have H := (bcase_iff.1 H).2 hc81
    obtain rfl := hr.trans H.symm
    exact ⟨A54, c55, rfl, O6, hB⟩

def laws_big.vc (A0 : Option Addr) (n0 : Nat) (c0 : Nat) (w : World) (K : Value → World → Prop) : Prop :=
  K (.bool (decide (((n0 : Nat) : Int) > 1048576))) w

def laws_big.ann : Ann := (.seq .l (.seq .l .l))

theorem laws_big.vc_eq (A0 : Option Addr) (n0 : Nat) (c0 : Nat) (w : World) (K : Value → World → Prop) : vcF Try.prog Try.f34 laws_big.ann [(.slice A0 n0 c0)] K w = laws_big.vc A0 n0 c0 w K := by kernel_rfl

theorem laws_big.start {A0 : Option Addr} {n0 : Nat} {c0 : Nat} {w : World} {K : Value → World → Prop} (h : laws_big.vc A0 n0 c0 w K) : Cll Try.prog 34 #[(.slice A0 n0 c0)] w K :=
  vcF_sound mixed (fn := Try.f34) (by kernel_rfl) (by kernel_rfl) (an := laws_big.ann) (args := [(.slice A0 n0 c0)]) (by rw [laws_big.vc_eq]; exact h)

theorem laws_big.con {xs0 : List Int} {A0 : Option Addr} {c0 : Nat} {r : Bool} {w : World} (hr : r = M.laws_big xs0) (R0 : Row el5 w A0 xs0) (hc0 : xs0.length ≤ c0) :
    Cll Try.prog 34 #[(.slice A0 xs0.length c0)] w (fun v_ w_ => v_ = (.bool r) ∧ Ext w w_) := by
  have H := wp.laws_big.math xs0
  have hB := Ext.refl w
  refine laws_big.start ?_
  unfold laws_big.vc
  unfold wp.laws_big at H
  obtain rfl := hr.trans H.symm
  exact ⟨rfl, hB⟩

end Go.V
