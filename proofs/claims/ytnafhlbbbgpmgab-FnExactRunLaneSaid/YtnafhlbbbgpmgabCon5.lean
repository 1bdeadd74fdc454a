import Derived.Test.YtnafhlbbbgpmgabMath5
import Derived.Test.YtnafhlbbbgpmgabSeat
import Derived.Test.YtnafhlbbbgpmgabCon4
namespace Go.V
open Go.Proofs
set_option linter.unusedVariables false
set_option linter.unusedSimpArgs false
set_option maxRecDepth 100000

def laws_szIntS.vc (A0 : Option Addr) (n0 : Nat) (c0 : Nat) (x1 : Int) (w : World) (K : Value → World → Prop) : Prop :=
  bcase (decide ((IntKind.wrap .i64 (x1 - ((n0 : Nat) : Int))) < 0)) (K (.int .i64 (-1)) w) (K (.int .i64 (IntKind.wrap .i64 (x1 - ((n0 : Nat) : Int)))) w)

def laws_szIntS.ann : Ann := (.seq .l (.seq .l (.seq (.seq .l (.two (.seq .l .l) .l)) (.seq .l .l))))

theorem laws_szIntS.vc_eq (A0 : Option Addr) (n0 : Nat) (c0 : Nat) (x1 : Int) (w : World) (K : Value → World → Prop) : vcF Try.prog Try.f63 laws_szIntS.ann [(.slice A0 n0 c0), (.int .i64 x1)] K w = laws_szIntS.vc A0 n0 c0 x1 w K := by kernel_rfl

theorem laws_szIntS.start {A0 : Option Addr} {n0 : Nat} {c0 : Nat} {x1 : Int} {w : World} {K : Value → World → Prop} (h : laws_szIntS.vc A0 n0 c0 x1 w K) : Cll Try.prog 63 #[(.slice A0 n0 c0), (.int .i64 x1)] w K :=
  vcF_sound mixed (fn := Try.f63) (by kernel_rfl) (by kernel_rfl) (an := laws_szIntS.ann) (args := [(.slice A0 n0 c0), (.int .i64 x1)]) (by rw [laws_szIntS.vc_eq]; exact h)

theorem laws_szIntS.con {xs0 : List Int} {A0 : Option Addr} {c0 : Nat} {x1 : Int} {r : Int} {w : World} (hp : M.laws_szIntS_pre xs0 x1) (hr : r = M.laws_szIntS xs0 x1) (R0 : Row el3 w A0 xs0) (hc0 : xs0.length ≤ c0) :
    Cll Try.prog 63 #[(.slice A0 xs0.length c0), (.int .i64 x1)] w (fun v_ w_ => v_ = (.int .i64 r) ∧ Ext w w_) := by
  have H := wp.laws_szIntS.math xs0 x1 hp
  have hB := Ext.refl w
  refine laws_szIntS.start ?_
  unfold laws_szIntS.vc
  unfold wp.laws_szIntS at H
  refine bcase_mk (fun hc21 => ?_) (fun hc21 => ?_)
  · have H := (bcase_iff.1 H).1 hc21
    obtain rfl := hr.trans H.symm
    exact ⟨rfl, hB⟩
  · have H := (bcase_iff.1 H).2 hc21
    obtain rfl := hr.trans H.symm
    exact ⟨rfl, hB⟩

def laws_szLane.vc (x0_0 : Int) (x0_1 : Int) (A0_2 : Option Addr) (n0_2 : Nat) (c0_2 : Nat) (x1 : Int) (w : World) (K : Value → World → Prop) : Prop :=
  newK w (.cells #[(.int .i64 x0_0), (.int .i64 x0_1), (.slice A0_2 n0_2 c0_2)] 47) fun g21 w22 => ∃ (A23 : Option Addr) (n24 : Nat) (c25 : Nat), w22.cell? (((⟨g21, 0, none⟩ : Addr).add 2).add 0) = some (.slice A23 n24 c25) ∧ Cll Try.prog 63 #[(.slice A23 n24 c25), (.int .i64 x1)] w22 fun v26 w27 => (∃ (n28 : Int), v26 = (.int .i64 n28) ∧ bcase (decide (n28 < 0)) (K (.int .i64 (-1)) w27) (K (.int .i64 n28) w27))

def laws_szLane.ann : Ann := (.seq .l (.seq .l (.seq (.seq .l (.two (.seq .l .l) .l)) (.seq .l .l))))

theorem laws_szLane.vc_eq (x0_0 : Int) (x0_1 : Int) (A0_2 : Option Addr) (n0_2 : Nat) (c0_2 : Nat) (x1 : Int) (w : World) (K : Value → World → Prop) : vcF Try.prog Try.f32 laws_szLane.ann [(.agg #[(.int .i64 x0_0), (.int .i64 x0_1), (.slice A0_2 n0_2 c0_2)]), (.int .i64 x1)] K w = laws_szLane.vc x0_0 x0_1 A0_2 n0_2 c0_2 x1 w K := by kernel_rfl

theorem laws_szLane.start {x0_0 : Int} {x0_1 : Int} {A0_2 : Option Addr} {n0_2 : Nat} {c0_2 : Nat} {x1 : Int} {w : World} {K : Value → World → Prop} (h : laws_szLane.vc x0_0 x0_1 A0_2 n0_2 c0_2 x1 w K) : Cll Try.prog 32 #[(.agg #[(.int .i64 x0_0), (.int .i64 x0_1), (.slice A0_2 n0_2 c0_2)]), (.int .i64 x1)] w K :=
  vcF_sound mixed (fn := Try.f32) (by kernel_rfl) (by kernel_rfl) (an := laws_szLane.ann) (args := [(.agg #[(.int .i64 x0_0), (.int .i64 x0_1), (.slice A0_2 n0_2 c0_2)]), (.int .i64 x1)]) (by rw [laws_szLane.vc_eq]; exact h)

theorem laws_szLane.con {s0 : D.Lane} {A0_2 : Option Addr} {c0_2 : Nat} {x1 : Int} {r : Int} {w : World} (hp : M.laws_szLane_pre s0 x1) (hr : r = M.laws_szLane s0 x1) (R0_2 : Row el3 w A0_2 s0.Regs) (hc0_2 : s0.Regs.length ≤ c0_2) :
    Cll Try.prog 32 #[(.agg #[(.int .i64 s0.Thread), (.int .i64 s0.Pc), (.slice A0_2 s0.Regs.length c0_2)]), (.int .i64 x1)] w (fun v_ w_ => v_ = (.int .i64 r) ∧ Ext w w_) := by
  have H := wp.laws_szLane.math s0 x1 hp
  have hB := Ext.refl w
  refine laws_szLane.start ?_
  unfold laws_szLane.vc
  unfold wp.laws_szLane at H
  refine newBlk (fun g2_ w21 L2 P2 e22 => ?_)
  have O2 := P2
  have L2 := Nat.le_trans hB.size L2
  have hB := ethen hB e22
  refine ⟨_, _, _, (O2.at 2 rfl rfl), ?_⟩
  obtain ⟨hp25, H⟩ := H
  obtain ⟨r23, hr24⟩ : ∃ r_, r_ = M.laws_szIntS s0.Regs x1 := ⟨_, rfl⟩
  have H := H r23 hr24
  refine (laws_szIntS.con hp25 hr24 (R0_2.ext hB) hc0_2).mono ?_
  rintro _ w26 ⟨rfl, e27⟩
  have O2 := O2.ext e27
  have hB := ethen hB e27
  refine ⟨r23, rfl, ?_⟩
  refine bcase_mk (fun hc28 => ?_) (fun hc28 => ?_)
  · have H := (bcase_iff.1 H).1 hc28
    obtain rfl := hr.trans H.symm
    exact ⟨rfl, hB⟩
  · have H := (bcase_iff.1 H).2 hc28
    obtain rfl := hr.trans H.symm
    exact ⟨rfl, hB⟩

def laws_toLane.vc (x0_0 : Int) (x0_1 : Int) (A0_2 : Option Addr) (n0_2 : Nat) (c0_2 : Nat) (w : World) (K : Value → World → Prop) : Prop :=
  newK w (.cells #[(.int .i64 x0_0), (.int .i64 x0_1), (.slice A0_2 n0_2 c0_2)] 47) fun g21 w22 => newK w22 (.cells #[(.int .i64 0), (.int .i64 0), (.slice none 0 0)] 49) fun g23 w24 => newK w24 (.cells #[(.int .i64 0), (.int .i64 0), (.slice none 0 0)] 49) fun g25 w26 => ∃ (n27 : Int), w26.cell? (((⟨g21, 0, none⟩ : Addr).add 0).add 0) = some (.int .i64 n27) ∧ stCells ((⟨g25, 0, none⟩ : Addr).add 0) [(.int .i64 n27)] 0 w26 fun w28 => ∃ (n29 : Int), w28.cell? (((⟨g21, 0, none⟩ : Addr).add 1).add 0) = some (.int .i64 n29) ∧ stCells ((⟨g25, 0, none⟩ : Addr).add 1) [(.int .i64 n29)] 0 w28 fun w30 => ∃ (A31 : Option Addr) (n32 : Nat) (c33 : Nat), w30.cell? (((⟨g21, 0, none⟩ : Addr).add 2).add 0) = some (.slice A31 n32 c33) ∧ Cll Try.prog 67 #[(.slice A31 n32 c33)] w30 fun v34 w35 => (∃ (A36 : Option Addr) (n37 : Nat) (c38 : Nat), v34 = (.slice A36 n37 c38) ∧ stCells ((⟨g25, 0, none⟩ : Addr).add 2) [(.slice A36 n37 c38)] 0 w35 fun w39 => ∃ (n40 : Int), w39.cell? ((⟨g25, 0, none⟩ : Addr).add 0) = some (.int .i64 n40) ∧ ∃ (n41 : Int), w39.cell? ((⟨g25, 0, none⟩ : Addr).add 1) = some (.int .i64 n41) ∧ ∃ (A42 : Option Addr) (n43 : Nat) (c44 : Nat), w39.cell? ((⟨g25, 0, none⟩ : Addr).add 2) = some (.slice A42 n43 c44) ∧ stCells (⟨g23, 0, none⟩ : Addr) [(.int .i64 n40), (.int .i64 n41), (.slice A42 n43 c44)] 0 w39 fun w45 => ∃ (n46 : Int), w45.cell? ((⟨g23, 0, none⟩ : Addr).add 0) = some (.int .i64 n46) ∧ ∃ (n47 : Int), w45.cell? ((⟨g23, 0, none⟩ : Addr).add 1) = some (.int .i64 n47) ∧ ∃ (A48 : Option Addr) (n49 : Nat) (c50 : Nat), w45.cell? ((⟨g23, 0, none⟩ : Addr).add 2) = some (.slice A48 n49 c50) ∧ K (.agg #[(.int .i64 n46), (.int .i64 n47), (.slice A48 n49 c50)]) w45)

def laws_toLane.ann : Ann := (.seq .l (.seq .l (.seq .l (.seq .l (.seq .l (.seq .l .l))))))

theorem laws_toLane.vc_eq (x0_0 : Int) (x0_1 : Int) (A0_2 : Option Addr) (n0_2 : Nat) (c0_2 : Nat) (w : World) (K : Value → World → Prop) : vcF Try.prog Try.f34 laws_toLane.ann [(.agg #[(.int .i64 x0_0), (.int .i64 x0_1), (.slice A0_2 n0_2 c0_2)])] K w = laws_toLane.vc x0_0 x0_1 A0_2 n0_2 c0_2 w K := by kernel_rfl

theorem laws_toLane.start {x0_0 : Int} {x0_1 : Int} {A0_2 : Option Addr} {n0_2 : Nat} {c0_2 : Nat} {w : World} {K : Value → World → Prop} (h : laws_toLane.vc x0_0 x0_1 A0_2 n0_2 c0_2 w K) : Cll Try.prog 34 #[(.agg #[(.int .i64 x0_0), (.int .i64 x0_1), (.slice A0_2 n0_2 c0_2)])] w K :=
  vcF_sound mixed (fn := Try.f34) (by kernel_rfl) (by kernel_rfl) (an := laws_toLane.ann) (args := [(.agg #[(.int .i64 x0_0), (.int .i64 x0_1), (.slice A0_2 n0_2 c0_2)])]) (by rw [laws_toLane.vc_eq]; exact h)

theorem laws_toLane.con {s0 : D.Lane} {A0_2 : Option Addr} {c0_2 : Nat} {r : D.Lane} {w : World} (hp : M.laws_toLane_pre s0) (hr : r = M.laws_toLane s0) (R0_2 : Row el3 w A0_2 s0.Regs) (hc0_2 : s0.Regs.length ≤ c0_2) :
    Cll Try.prog 34 #[(.agg #[(.int .i64 s0.Thread), (.int .i64 s0.Pc), (.slice A0_2 s0.Regs.length c0_2)])] w (fun v_ w_ => ∃ (A0_ : Option Addr) (c0_ : Nat), v_ = (.agg #[(.int .i64 r.Thread), (.int .i64 r.Pc), (.slice A0_ r.Regs.length c0_)]) ∧ Own el3 w_ w.heap.size A0_ c0_ r.Regs ∧ Ext w w_) := by
  have H := wp.laws_toLane.math s0 hp
  have hB := Ext.refl w
  refine laws_toLane.start ?_
  unfold laws_toLane.vc
  unfold wp.laws_toLane at H
  refine newBlk (fun g2_ w21 L2 P2 e22 => ?_)
  have O2 := P2
  have L2 := Nat.le_trans hB.size L2
  have hB := ethen hB e22
  refine newBlk (fun g3_ w23 L3 P3 e24 => ?_)
  have N2_3 := O2.ne L3
  have O2 := O2.ext e24
  have O3 := P3
  have L3 := Nat.le_trans hB.size L3
  have hB := ethen hB e24
  refine newBlk (fun g4_ w25 L4 P4 e26 => ?_)
  have N2_4 := O2.ne L4
  have N3_4 := O3.ne L4
  have O2 := O2.ext e26
  have O3 := O3.ext e26
  have O4 := P4
  have L4 := Nat.le_trans hB.size L4
  have hB := ethen hB e26
  refine ⟨_, (O2.at 0 rfl rfl), ?_⟩
  refine stBlk O4 (o := 0) (cs' := #[(.int .i64 s0.Thread), (.int .i64 0), (.slice none 0 0)]) rfl rfl (Nat.le_of_ble_eq_true rfl) rfl (fun w27 P4 e28 => ?_)
  have O2_ := O2.chg e28 N2_4
  have O3_ := O3.chg e28 N3_4
  have O2 := O2_
  have O3 := O3_
  have hB := echg hB e28 L4
  have O4 := P4
  refine ⟨_, (O2.at 1 rfl rfl), ?_⟩
  refine stBlk O4 (o := 1) (cs' := #[(.int .i64 s0.Thread), (.int .i64 s0.Pc), (.slice none 0 0)]) rfl rfl (Nat.le_of_ble_eq_true rfl) rfl (fun w29 P4 e30 => ?_)
  have O2_ := O2.chg e30 N2_4
  have O3_ := O3.chg e30 N3_4
  have O2 := O2_
  have O3 := O3_
  have hB := echg hB e30 L4
  have O4 := P4
  refine ⟨_, _, _, (O2.at 2 rfl rfl), ?_⟩
  obtain ⟨hp33, H⟩ := H
  obtain ⟨r31, hr32⟩ : ∃ r_, r_ = M.laws_toIntS s0.Regs := ⟨_, rfl⟩
  have H := H r31 hr32
  refine (laws_toIntS.con hp33 hr32 (R0_2.ext hB) hc0_2).mono ?_
  rintro _ w34 ⟨A36, c37, rfl, P5, e35⟩
  have N5_2 := P5.apart_old O2.lt
  have N5_3 := P5.apart_old O3.lt
  have N5_4 := P5.apart_old O4.lt
  have O2 := O2.ext e35
  have O3 := O3.ext e35
  have O4 := O4.ext e35
  have O5 := P5.mono hB.size
  have hB := ethen hB e35
  refine ⟨A36, r31.length, c37, rfl, ?_⟩
  refine stBlk O4 (o := 2) (cs' := #[(.int .i64 s0.Thread), (.int .i64 s0.Pc), (.slice A36 r31.length c37)]) rfl rfl (Nat.le_of_ble_eq_true rfl) rfl (fun w38 P4 e39 => ?_)
  have O2_ := O2.chg e39 N2_4
  have O3_ := O3.chg e39 N3_4
  have O5_ := O5.chg e39 N5_4
  have O2 := O2_
  have O3 := O3_
  have O5 := O5_
  have hB := echg hB e39 L4
  have O4 := P4
  refine ⟨_, (O4.at 0 rfl rfl), ?_⟩
  refine ⟨_, (O4.at 1 rfl rfl), ?_⟩
  refine ⟨_, _, _, (O4.at 2 rfl rfl), ?_⟩
  refine stBlk O3 (o := 0) (cs' := #[(.int .i64 s0.Thread), (.int .i64 s0.Pc), (.slice A36 r31.length c37)]) rfl rfl (Nat.le_of_ble_eq_true rfl) rfl (fun w40 P3 e41 => ?_)
  have O2_ := O2.chg e41 N2_3
  have O4_ := O4.chg e41 (N3_4).symm
  have O5_ := O5.chg e41 N5_3
  have O2 := O2_
  have O4 := O4_
  have O5 := O5_
  have hB := echg hB e41 L3
  have O3 := P3
  refine ⟨_, (O3.at 0 rfl rfl), ?_⟩
  refine ⟨_, (O3.at 1 rfl rfl), ?_⟩
  refine ⟨_, _, _, (O3.at 2 rfl rfl), ?_⟩
  obtain rfl := hr.trans H.symm
  exact ⟨A36, c37, rfl, O5, hB⟩

def laws_eqLane.vc (x0_0 : Int) (x0_1 : Int) (A0_2 : Option Addr) (n0_2 : Nat) (c0_2 : Nat) (x1_0 : Int) (x1_1 : Int) (A1_2 : Option Addr) (n1_2 : Nat) (c1_2 : Nat) (w : World) (K : Value → World → Prop) : Prop :=
  newK w (.cells #[(.int .i64 x0_0), (.int .i64 x0_1), (.slice A0_2 n0_2 c0_2)] 49) fun g21 w22 => newK w22 (.cells #[(.int .i64 x1_0), (.int .i64 x1_1), (.slice A1_2 n1_2 c1_2)] 49) fun g23 w24 => ∃ (n25 : Int), w24.cell? (((⟨g21, 0, none⟩ : Addr).add 0).add 0) = some (.int .i64 n25) ∧ ∃ (n26 : Int), w24.cell? (((⟨g23, 0, none⟩ : Addr).add 0).add 0) = some (.int .i64 n26) ∧ bcase (n25 != n26) (K (.bool false) w24) (∃ (n27 : Int), w24.cell? (((⟨g21, 0, none⟩ : Addr).add 1).add 0) = some (.int .i64 n27) ∧ ∃ (n28 : Int), w24.cell? (((⟨g23, 0, none⟩ : Addr).add 1).add 0) = some (.int .i64 n28) ∧ bcase (n27 != n28) (K (.bool false) w24) (∃ (A29 : Option Addr) (n30 : Nat) (c31 : Nat), w24.cell? (((⟨g21, 0, none⟩ : Addr).add 2).add 0) = some (.slice A29 n30 c31) ∧ ∃ (A32 : Option Addr) (n33 : Nat) (c34 : Nat), w24.cell? (((⟨g23, 0, none⟩ : Addr).add 2).add 0) = some (.slice A32 n33 c34) ∧ Cll Try.prog 55 #[(.slice A29 n30 c31), (.slice A32 n33 c34)] w24 fun v35 w36 => (∃ (b37 : Bool), v35 = (.bool b37) ∧ bcase (!b37) (K (.bool false) w36) (K (.bool true) w36))))

def laws_eqLane.ann : Ann := (.seq .l (.seq (.seq .l (.two (.seq .l .l) .l)) (.seq (.seq .l (.two (.seq .l .l) .l)) (.seq (.seq .l (.two (.seq .l .l) .l)) (.seq .l .l)))))

theorem laws_eqLane.vc_eq (x0_0 : Int) (x0_1 : Int) (A0_2 : Option Addr) (n0_2 : Nat) (c0_2 : Nat) (x1_0 : Int) (x1_1 : Int) (A1_2 : Option Addr) (n1_2 : Nat) (c1_2 : Nat) (w : World) (K : Value → World → Prop) : vcF Try.prog Try.f36 laws_eqLane.ann [(.agg #[(.int .i64 x0_0), (.int .i64 x0_1), (.slice A0_2 n0_2 c0_2)]), (.agg #[(.int .i64 x1_0), (.int .i64 x1_1), (.slice A1_2 n1_2 c1_2)])] K w = laws_eqLane.vc x0_0 x0_1 A0_2 n0_2 c0_2 x1_0 x1_1 A1_2 n1_2 c1_2 w K := by kernel_rfl

theorem laws_eqLane.start {x0_0 : Int} {x0_1 : Int} {A0_2 : Option Addr} {n0_2 : Nat} {c0_2 : Nat} {x1_0 : Int} {x1_1 : Int} {A1_2 : Option Addr} {n1_2 : Nat} {c1_2 : Nat} {w : World} {K : Value → World → Prop} (h : laws_eqLane.vc x0_0 x0_1 A0_2 n0_2 c0_2 x1_0 x1_1 A1_2 n1_2 c1_2 w K) : Cll Try.prog 36 #[(.agg #[(.int .i64 x0_0), (.int .i64 x0_1), (.slice A0_2 n0_2 c0_2)]), (.agg #[(.int .i64 x1_0), (.int .i64 x1_1), (.slice A1_2 n1_2 c1_2)])] w K :=
  vcF_sound mixed (fn := Try.f36) (by kernel_rfl) (by kernel_rfl) (an := laws_eqLane.ann) (args := [(.agg #[(.int .i64 x0_0), (.int .i64 x0_1), (.slice A0_2 n0_2 c0_2)]), (.agg #[(.int .i64 x1_0), (.int .i64 x1_1), (.slice A1_2 n1_2 c1_2)])]) (by rw [laws_eqLane.vc_eq]; exact h)

theorem laws_eqLane.con {s0 : D.Lane} {A0_2 : Option Addr} {c0_2 : Nat} {s1 : D.Lane} {A1_2 : Option Addr} {c1_2 : Nat} {r : Bool} {w : World} (hp : M.laws_eqLane_pre s0 s1) (hr : r = M.laws_eqLane s0 s1) (R0_2 : Row el3 w A0_2 s0.Regs) (hc0_2 : s0.Regs.length ≤ c0_2) (R1_2 : Row el3 w A1_2 s1.Regs) (hc1_2 : s1.Regs.length ≤ c1_2) :
    Cll Try.prog 36 #[(.agg #[(.int .i64 s0.Thread), (.int .i64 s0.Pc), (.slice A0_2 s0.Regs.length c0_2)]), (.agg #[(.int .i64 s1.Thread), (.int .i64 s1.Pc), (.slice A1_2 s1.Regs.length c1_2)])] w (fun v_ w_ => v_ = (.bool r) ∧ Ext w w_) := by
  have H := wp.laws_eqLane.math s0 s1 hp
  have hB := Ext.refl w
  refine laws_eqLane.start ?_
  unfold laws_eqLane.vc
  unfold wp.laws_eqLane at H
  refine newBlk (fun g3_ w21 L3 P3 e22 => ?_)
  have O3 := P3
  have L3 := Nat.le_trans hB.size L3
  have hB := ethen hB e22
  refine newBlk (fun g4_ w23 L4 P4 e24 => ?_)
  have N3_4 := O3.ne L4
  have O3 := O3.ext e24
  have O4 := P4
  have L4 := Nat.le_trans hB.size L4
  have hB := ethen hB e24
  refine ⟨_, (O3.at 0 rfl rfl), ?_⟩
  refine ⟨_, (O4.at 0 rfl rfl), ?_⟩
  refine bcase_mk (fun hc32 => ?_) (fun hc32 => ?_)
  · have H := (bcase_iff.1 H).1 hc32
    obtain rfl := hr.trans H.symm
    exact ⟨rfl, hB⟩
  · have H := (bcase_iff.1 H).2 hc32
    refine ⟨_, (O3.at 1 rfl rfl), ?_⟩
    refine ⟨_, (O4.at 1 rfl rfl), ?_⟩
    refine bcase_mk (fun hc31 => ?_) (fun hc31 => ?_)
    · have H := (bcase_iff.1 H).1 hc31
      obtain rfl := hr.trans H.symm
      exact ⟨rfl, hB⟩
    · have H := (bcase_iff.1 H).2 hc31
      refine ⟨_, _, _, (O3.at 2 rfl rfl), ?_⟩
      refine ⟨_, _, _, (O4.at 2 rfl rfl), ?_⟩
      obtain ⟨hp27, H⟩ := H
      obtain ⟨r25, hr26⟩ : ∃ r_, r_ = M.laws_eqIntS s0.Regs s1.Regs := ⟨_, rfl⟩
      have H := H r25 hr26
      refine (laws_eqIntS.con hp27 hr26 (R0_2.ext hB) hc0_2 (R1_2.ext hB) hc1_2).mono ?_
      rintro _ w28 ⟨rfl, e29⟩
      have O3 := O3.ext e29
      have O4 := O4.ext e29
      have hB := ethen hB e29
      refine ⟨r25, rfl, ?_⟩
      refine bcase_mk (fun hc30 => ?_) (fun hc30 => ?_)
      · have H := (bcase_iff.1 H).1 hc30
        obtain rfl := hr.trans H.symm
        exact ⟨rfl, hB⟩
      · have H := (bcase_iff.1 H).2 hc30
        obtain rfl := hr.trans H.symm
        exact ⟨rfl, hB⟩

def laws_markInsS.vc (A0 : Option Addr) (n0 : Nat) (c0 : Nat) (x1 : Int) (w : World) (K : Value → World → Prop) : Prop :=
  LoopT (σ := Int × Int × Unit) (fun z21 w22 next23 => bcase (decide (z21.2.1 < ((n0 : Nat) : Int))) (((0 : Int) ≤ z21.2.1 ∧ z21.2.1 < ((n0 : Nat) : Int) ∧ ∃ a24 : Addr, A0 = some a24 ∧ stCells ((a24.add ((z21.2.1.toNat) * 4)).add 0) [(.int .i64 z21.1)] 0 w22 fun w25 => ((0 : Int) ≤ z21.2.1 ∧ z21.2.1 < ((n0 : Nat) : Int) ∧ ∃ a26 : Addr, A0 = some a26 ∧ stCells ((a26.add ((z21.2.1.toNat) * 4)).add 1) [(.int .i64 (IntKind.wrap .i64 (z21.1 + 1)))] 0 w25 fun w27 => ((0 : Int) ≤ z21.2.1 ∧ z21.2.1 < ((n0 : Nat) : Int) ∧ ∃ a28 : Addr, A0 = some a28 ∧ stCells ((a28.add ((z21.2.1.toNat) * 4)).add 2) [(.int .i64 (IntKind.wrap .i64 ((IntKind.wrap .i64 (z21.1 + 1)) + 1)))] 0 w27 fun w29 => ((0 : Int) ≤ z21.2.1 ∧ z21.2.1 < ((n0 : Nat) : Int) ∧ ∃ a30 : Addr, A0 = some a30 ∧ stCells ((a30.add ((z21.2.1.toNat) * 4)).add 3) [(.int .i64 (IntKind.wrap .i64 ((IntKind.wrap .i64 ((IntKind.wrap .i64 (z21.1 + 1)) + 1)) + 1)))] 0 w29 fun w31 => next23 ((IntKind.wrap .i64 ((IntKind.wrap .i64 ((IntKind.wrap .i64 ((IntKind.wrap .i64 (z21.1 + 1)) + 1)) + 1)) + 1)), (IntKind.wrap .i64 (z21.2.1 + 1)), ()) w31))))) (K (.int .i64 z21.1) w22)) (x1, 0, ()) w

def laws_markInsS.ann : Ann := (.seq .l (.seq (.seq .l (.one (.loop [(1, .int .i64), (5, .int .i64)] (.seq (.seq .l (.two .l .l)) (.seq (.one (.seq .l (.seq .l (.seq .l (.seq .l (.seq .l (.seq .l (.seq .l .l)))))))) .l))))) (.seq .l .l)))

theorem laws_markInsS.vc_eq (A0 : Option Addr) (n0 : Nat) (c0 : Nat) (x1 : Int) (w : World) (K : Value → World → Prop) : vcF Try.prog Try.f19 laws_markInsS.ann [(.slice A0 n0 c0), (.int .i64 x1)] K w = laws_markInsS.vc A0 n0 c0 x1 w K := by kernel_rfl

theorem laws_markInsS.start {A0 : Option Addr} {n0 : Nat} {c0 : Nat} {x1 : Int} {w : World} {K : Value → World → Prop} (h : laws_markInsS.vc A0 n0 c0 x1 w K) : Cll Try.prog 19 #[(.slice A0 n0 c0), (.int .i64 x1)] w K :=
  vcF_sound mixed (fn := Try.f19) (by kernel_rfl) (by kernel_rfl) (an := laws_markInsS.ann) (args := [(.slice A0 n0 c0), (.int .i64 x1)]) (by rw [laws_markInsS.vc_eq]; exact h)

theorem laws_markInsS.con {xs0 : List D.Ins} {A0 : Option Addr} {c0 : Nat} {x1 : Int} {r : Int × (List D.Ins)} {w : World} (hp : M.laws_markInsS_pre xs0 x1) (hr : r = M.laws_markInsS xs0 x1) (O1 : Own el68 w 0 A0 c0 xs0) :
    Cll Try.prog 19 #[(.slice A0 xs0.length c0), (.int .i64 x1)] w (fun v_ w_ => v_ = (.int .i64 r.1) ∧ Own el68 w_ 0 A0 c0 r.2 ∧ r.2.length = xs0.length ∧ Chg (InB A0) w w_) := by
  have H := wp.laws_markInsS.math xs0 x1 hp
  have hB := Chg.refl (InB A0) w
  refine laws_markInsS.start ?_
  unfold laws_markInsS.vc
  unfold wp.laws_markInsS at H
  obtain ⟨J68, ⟨m113, hJ112⟩, hS69⟩ := H
  refine ⟨fun m_ z_ w_ => ∃ (i63 : Int) (i64 : Int) (xs65 : List D.Ins), z_ = (i63, i64, ()) ∧ J68 m_ (i63, i64, xs65, ()) ∧ Chg (InB A0) w w_ ∧ Own el68 w_ 0 A0 c0 xs65 ∧ xs0.length = xs65.length, ⟨m113, x1, 0, xs0, rfl, hJ112, hB, O1, (by first | rfl | assumption | (simp; done) | (simp; omega) | (simp; assumption))⟩, ?_⟩
  rintro m67 _ w71 ⟨i63, i64, xs65, rfl, hJ114, hB, O1, hn66⟩
  have H := hS69 m67 _ hJ114
  clear hS69 hJ114
  dsimp only at H ⊢
  refine bcase_mk (fun hc110 => ?_) (fun hc110 => ?_)
  · have H := (bcase_iff.1 H).1 hc110
    obtain ⟨⟨h0_75, h1_76⟩, H⟩ := H
    obtain ⟨a73, ha74, hat72⟩ := Row.at O1.row h0_75 h1_76
    refine ⟨h0_75, (by first | exact h1_76 | omega | (simp at h1_76 ⊢; omega)), a73, ha74, ?_⟩
    refine Own.storeAt O1 ha74 h0_75 h1_76 0 [(.int .i64 i63)] (⟨i63, (rd xs65 i64).A, (rd xs65 i64).B, (rd xs65 i64).C⟩ : D.Ins) rfl (Nat.le_of_ble_eq_true rfl) rfl (fun w77 P1 e78 hb79 => ?_)
    have hB := hB.chgb e78 (Or.inr ⟨_, ha74, rfl⟩)
    have O1 := P1
    obtain ⟨⟨h0_83, h1_84⟩, H⟩ := H
    obtain ⟨a81, ha82, hat80⟩ := Row.at O1.row h0_83 h1_84
    refine ⟨h0_83, (by first | exact h1_84 | omega | (simp at h1_84 ⊢; omega)), a81, ha82, ?_⟩
    have hrd88 := rd_set h0_83 h1_84
    refine Own.storeAt O1 ha82 h0_83 h1_84 1 [(.int .i64 (IntKind.wrap .i64 (i63 + 1)))] (⟨i63, (IntKind.wrap .i64 (i63 + 1)), (rd xs65 i64).B, (rd xs65 i64).C⟩ : D.Ins) (by rw [hrd88]; rfl) (Nat.le_of_ble_eq_true rfl) rfl (fun w85 P1 e86 hb87 => ?_)
    rw [List.set_set] at P1
    have hB := hB.chgb e86 (Or.inr ⟨_, ha82, rfl⟩)
    have O1 := P1
    obtain ⟨⟨h0_92, h1_93⟩, H⟩ := H
    obtain ⟨a90, ha91, hat89⟩ := Row.at O1.row h0_92 h1_93
    refine ⟨h0_92, (by first | exact h1_93 | omega | (simp at h1_93 ⊢; omega)), a90, ha91, ?_⟩
    have hrd97 := rd_set h0_92 h1_93
    refine Own.storeAt O1 ha91 h0_92 h1_93 2 [(.int .i64 (IntKind.wrap .i64 ((IntKind.wrap .i64 (i63 + 1)) + 1)))] (⟨i63, (IntKind.wrap .i64 (i63 + 1)), (IntKind.wrap .i64 ((IntKind.wrap .i64 (i63 + 1)) + 1)), (rd xs65 i64).C⟩ : D.Ins) (by rw [hrd97]; rfl) (Nat.le_of_ble_eq_true rfl) rfl (fun w94 P1 e95 hb96 => ?_)
    rw [List.set_set] at P1
    have hB := hB.chgb e95 (Or.inr ⟨_, ha91, rfl⟩)
    have O1 := P1
    obtain ⟨⟨h0_101, h1_102⟩, H⟩ := H
    obtain ⟨a99, ha100, hat98⟩ := Row.at O1.row h0_101 h1_102
    refine ⟨h0_101, (by first | exact h1_102 | omega | (simp at h1_102 ⊢; omega)), a99, ha100, ?_⟩
    have hrd106 := rd_set h0_101 h1_102
    refine Own.storeAt O1 ha100 h0_101 h1_102 3 [(.int .i64 (IntKind.wrap .i64 ((IntKind.wrap .i64 ((IntKind.wrap .i64 (i63 + 1)) + 1)) + 1)))] (⟨i63, (IntKind.wrap .i64 (i63 + 1)), (IntKind.wrap .i64 ((IntKind.wrap .i64 (i63 + 1)) + 1)), (IntKind.wrap .i64 ((IntKind.wrap .i64 ((IntKind.wrap .i64 (i63 + 1)) + 1)) + 1))⟩ : D.Ins) (by rw [hrd106]; rfl) (Nat.le_of_ble_eq_true rfl) rfl (fun w103 P1 e104 hb105 => ?_)
    rw [List.set_set] at P1
    have hB := hB.chgb e104 (Or.inr ⟨_, ha100, rfl⟩)
    have O1 := P1
    obtain ⟨m107, hm108, hJ109⟩ := H
    exact ⟨m107, hm108, (IntKind.wrap .i64 ((IntKind.wrap .i64 ((IntKind.wrap .i64 ((IntKind.wrap .i64 (i63 + 1)) + 1)) + 1)) + 1)), (IntKind.wrap .i64 (i64 + 1)), (List.set xs65 (i64.toNat) (⟨i63, (IntKind.wrap .i64 (i63 + 1)), (IntKind.wrap .i64 ((IntKind.wrap .i64 (i63 + 1)) + 1)), (IntKind.wrap .i64 ((IntKind.wrap .i64 ((IntKind.wrap .i64 (i63 + 1)) + 1)) + 1))⟩ : D.Ins)), rfl, hJ109, hB, O1, (by first | rfl | assumption | (simp; done) | (simp; omega) | (simp; assumption))⟩
  · have H := (bcase_iff.1 H).2 hc110
    obtain rfl := hr.trans H.symm
    exact ⟨rfl, O1, (by first | (simp only [List.length_set]; done) | (simp only [List.length_set, ← hn66]; done) | (simp; done) | (simp; omega) | omega), hB⟩

def laws_markLane.vc (x0_0 : Int) (x0_1 : Int) (A0_2 : Option Addr) (n0_2 : Nat) (c0_2 : Nat) (x1 : Int) (w : World) (K : Value → World → Prop) : Prop :=
  newK w (.cells #[(.int .i64 x0_0), (.int .i64 x0_1), (.slice A0_2 n0_2 c0_2)] 49) fun g21 w22 => ∃ (A23 : Option Addr) (n24 : Nat) (c25 : Nat), w22.cell? (((⟨g21, 0, none⟩ : Addr).add 2).add 0) = some (.slice A23 n24 c25) ∧ Cll Try.prog 58 #[(.slice A23 n24 c25), (.int .i64 x1)] w22 fun v26 w27 => (∃ (n28 : Int), v26 = (.int .i64 n28) ∧ K (.int .i64 n28) w27)

def laws_markLane.ann : Ann := (.seq .l (.seq .l (.seq .l .l)))

theorem laws_markLane.vc_eq (x0_0 : Int) (x0_1 : Int) (A0_2 : Option Addr) (n0_2 : Nat) (c0_2 : Nat) (x1 : Int) (w : World) (K : Value → World → Prop) : vcF Try.prog Try.f37 laws_markLane.ann [(.agg #[(.int .i64 x0_0), (.int .i64 x0_1), (.slice A0_2 n0_2 c0_2)]), (.int .i64 x1)] K w = laws_markLane.vc x0_0 x0_1 A0_2 n0_2 c0_2 x1 w K := by kernel_rfl

theorem laws_markLane.start {x0_0 : Int} {x0_1 : Int} {A0_2 : Option Addr} {n0_2 : Nat} {c0_2 : Nat} {x1 : Int} {w : World} {K : Value → World → Prop} (h : laws_markLane.vc x0_0 x0_1 A0_2 n0_2 c0_2 x1 w K) : Cll Try.prog 37 #[(.agg #[(.int .i64 x0_0), (.int .i64 x0_1), (.slice A0_2 n0_2 c0_2)]), (.int .i64 x1)] w K :=
  vcF_sound mixed (fn := Try.f37) (by kernel_rfl) (by kernel_rfl) (an := laws_markLane.ann) (args := [(.agg #[(.int .i64 x0_0), (.int .i64 x0_1), (.slice A0_2 n0_2 c0_2)]), (.int .i64 x1)]) (by rw [laws_markLane.vc_eq]; exact h)

theorem laws_markLane.con {s0 : D.Lane} {A0_2 : Option Addr} {c0_2 : Nat} {x1 : Int} {r : Int × (List Int)} {w : World} (hp : M.laws_markLane_pre s0 x1) (hr : r = M.laws_markLane s0 x1) (O1 : Own el3 w 0 A0_2 c0_2 s0.Regs) :
    Cll Try.prog 37 #[(.agg #[(.int .i64 s0.Thread), (.int .i64 s0.Pc), (.slice A0_2 s0.Regs.length c0_2)]), (.int .i64 x1)] w (fun v_ w_ => v_ = (.int .i64 r.1) ∧ Own el3 w_ 0 A0_2 c0_2 r.2 ∧ r.2.length = s0.Regs.length ∧ Chg (InB A0_2) w w_) := by
  have H := wp.laws_markLane.math s0 x1 hp
  have hB := Chg.refl (InB A0_2) w
  refine laws_markLane.start ?_
  unfold laws_markLane.vc
  unfold wp.laws_markLane at H
  refine newBlk (fun g2_ w21 L2 P2 e22 => ?_)
  have N1_2 := O1.apart_new L2
  have O1 := O1.ext e22
  have O2 := P2
  have L2 := Nat.le_trans hB.size L2
  have hB := hB.then e22
  refine ⟨_, _, _, (O2.at 2 rfl rfl), ?_⟩
  obtain ⟨hp25, H⟩ := H
  obtain ⟨r23, hr24⟩ : ∃ r_, r_ = M.laws_markIntS s0.Regs x1 := ⟨_, rfl⟩
  have H := H r23 hr24
  refine (laws_markIntS.con hp25 hr24 (O1.mono (Nat.zero_le _))).mono ?_
  rintro _ w26 ⟨rfl, Q1, hl28, e27⟩
  have O2 := O2.chgS e27 (N1_2).inb
  have hB := hB.chg e27 (fun g h_ => Or.inr h_)
  have O1 := Q1
  refine ⟨r23.1, rfl, ?_⟩
  obtain rfl := hr.trans H.symm
  exact ⟨rfl, O1, (by first | (simp only [List.length_set]; done) | (simp only [List.length_set, hl28]; done) | (simp; done) | (simp; omega) | omega), hB⟩

def laws_heldLane.vc (x0_0 : Int) (x0_1 : Int) (A0_2 : Option Addr) (n0_2 : Nat) (c0_2 : Nat) (x1 : Int) (w : World) (K : Value → World → Prop) : Prop :=
  newK w (.cells #[(.int .i64 x0_0), (.int .i64 x0_1), (.slice A0_2 n0_2 c0_2)] 49) fun g21 w22 => ∃ (A23 : Option Addr) (n24 : Nat) (c25 : Nat), w22.cell? (((⟨g21, 0, none⟩ : Addr).add 2).add 0) = some (.slice A23 n24 c25) ∧ Cll Try.prog 61 #[(.slice A23 n24 c25), (.int .i64 x1)] w22 fun v26 w27 => (∃ (n28 : Int), v26 = (.int .i64 n28) ∧ bcase (decide (n28 < 0)) (K (.int .i64 (-1)) w27) (K (.int .i64 n28) w27))

def laws_heldLane.ann : Ann := (.seq .l (.seq .l (.seq (.seq .l (.two (.seq .l .l) .l)) (.seq .l .l))))

theorem laws_heldLane.vc_eq (x0_0 : Int) (x0_1 : Int) (A0_2 : Option Addr) (n0_2 : Nat) (c0_2 : Nat) (x1 : Int) (w : World) (K : Value → World → Prop) : vcF Try.prog Try.f38 laws_heldLane.ann [(.agg #[(.int .i64 x0_0), (.int .i64 x0_1), (.slice A0_2 n0_2 c0_2)]), (.int .i64 x1)] K w = laws_heldLane.vc x0_0 x0_1 A0_2 n0_2 c0_2 x1 w K := by kernel_rfl

theorem laws_heldLane.start {x0_0 : Int} {x0_1 : Int} {A0_2 : Option Addr} {n0_2 : Nat} {c0_2 : Nat} {x1 : Int} {w : World} {K : Value → World → Prop} (h : laws_heldLane.vc x0_0 x0_1 A0_2 n0_2 c0_2 x1 w K) : Cll Try.prog 38 #[(.agg #[(.int .i64 x0_0), (.int .i64 x0_1), (.slice A0_2 n0_2 c0_2)]), (.int .i64 x1)] w K :=
  vcF_sound mixed (fn := Try.f38) (by kernel_rfl) (by kernel_rfl) (an := laws_heldLane.ann) (args := [(.agg #[(.int .i64 x0_0), (.int .i64 x0_1), (.slice A0_2 n0_2 c0_2)]), (.int .i64 x1)]) (by rw [laws_heldLane.vc_eq]; exact h)

theorem laws_heldLane.con {s0 : D.Lane} {A0_2 : Option Addr} {c0_2 : Nat} {x1 : Int} {r : Int} {w : World} (hp : M.laws_heldLane_pre s0 x1) (hr : r = M.laws_heldLane s0 x1) (R0_2 : Row el3 w A0_2 s0.Regs) (hc0_2 : s0.Regs.length ≤ c0_2) :
    Cll Try.prog 38 #[(.agg #[(.int .i64 s0.Thread), (.int .i64 s0.Pc), (.slice A0_2 s0.Regs.length c0_2)]), (.int .i64 x1)] w (fun v_ w_ => v_ = (.int .i64 r) ∧ Ext w w_) := by
  have H := wp.laws_heldLane.math s0 x1 hp
  have hB := Ext.refl w
  refine laws_heldLane.start ?_
  unfold laws_heldLane.vc
  unfold wp.laws_heldLane at H
  refine newBlk (fun g2_ w21 L2 P2 e22 => ?_)
  have O2 := P2
  have L2 := Nat.le_trans hB.size L2
  have hB := ethen hB e22
  refine ⟨_, _, _, (O2.at 2 rfl rfl), ?_⟩
  obtain ⟨hp25, H⟩ := H
  obtain ⟨r23, hr24⟩ : ∃ r_, r_ = M.laws_heldIntS s0.Regs x1 := ⟨_, rfl⟩
  have H := H r23 hr24
  refine (laws_heldIntS.con hp25 hr24 (R0_2.ext hB) hc0_2).mono ?_
  rintro _ w26 ⟨rfl, e27⟩
  have O2 := O2.ext e27
  have hB := ethen hB e27
  refine ⟨r23, rfl, ?_⟩
  refine bcase_mk (fun hc28 => ?_) (fun hc28 => ?_)
  · have H := (bcase_iff.1 H).1 hc28
    obtain rfl := hr.trans H.symm
    exact ⟨rfl, hB⟩
  · have H := (bcase_iff.1 H).2 hc28
    obtain rfl := hr.trans H.symm
    exact ⟨rfl, hB⟩

def spec_RunAlone.vc (A0 : Option Addr) (n0 : Nat) (c0 : Nat) (x1 : Int) (w : World) (K : Value → World → Prop) : Prop :=
  newK w (.cells #[(.int .i64 0), (.int .i64 0), (.slice none 0 0)] 49) fun g21 w22 => Cll Try.prog 88 #[(.int .i64 x1)] w22 fun v23 w24 => (∃ (n25 : Int), True ∧ ∃ (n26 : Int), True ∧ ∃ (A27 : Option Addr) (n28 : Nat) (c29 : Nat), True ∧ v23 = (.agg #[(.int .i64 n25), (.int .i64 n26), (.slice A27 n28 c29)]) ∧ Cll Try.prog 33 #[(.slice A0 n0 c0), (.agg #[(.int .i64 n25), (.int .i64 n26), (.slice A27 n28 c29)]), (.int .i64 1000)] w24 fun v30 w31 => (∃ u32 : Value, (∃ (n33 : Int), True ∧ ∃ (n34 : Int), True ∧ ∃ (A35 : Option Addr) (n36 : Nat) (c37 : Nat), True ∧ u32 = (.agg #[(.int .i64 n33), (.int .i64 n34), (.slice A35 n36 c37)]) ∧ ∃ u38 : Value, (∃ (n39 : Int), u38 = (.int .i64 n39) ∧ v30 = (.tuple #[(.agg #[(.int .i64 n33), (.int .i64 n34), (.slice A35 n36 c37)]), (.int .i64 n39)]) ∧ newK w31 (.cells #[(.int .i64 0), (.int .i64 0), (.slice none 0 0)] 49) fun g40 w41 => stCells (⟨g40, 0, none⟩ : Addr) [(.int .i64 n33), (.int .i64 n34), (.slice A35 n36 c37)] 0 w41 fun w42 => bcase (decide (n39 < 0)) (stCells (⟨g21, 0, none⟩ : Addr) [(.int .i64 0), (.int .i64 0), (.slice none 0 0)] 0 w42 fun w43 => ∃ (n44 : Int), w43.cell? ((⟨g21, 0, none⟩ : Addr).add 0) = some (.int .i64 n44) ∧ ∃ (n45 : Int), w43.cell? ((⟨g21, 0, none⟩ : Addr).add 1) = some (.int .i64 n45) ∧ ∃ (A46 : Option Addr) (n47 : Nat) (c48 : Nat), w43.cell? ((⟨g21, 0, none⟩ : Addr).add 2) = some (.slice A46 n47 c48) ∧ K (.tuple #[(.agg #[(.int .i64 n44), (.int .i64 n45), (.slice A46 n47 c48)]), (.bool false)]) w43) (∃ (n49 : Int), w42.cell? (((⟨g40, 0, none⟩ : Addr).add 1).add 0) = some (.int .i64 n49) ∧ bcase (decide (n49 < ((n0 : Nat) : Int))) (stCells (⟨g21, 0, none⟩ : Addr) [(.int .i64 0), (.int .i64 0), (.slice none 0 0)] 0 w42 fun w50 => ∃ (n51 : Int), w50.cell? ((⟨g21, 0, none⟩ : Addr).add 0) = some (.int .i64 n51) ∧ ∃ (n52 : Int), w50.cell? ((⟨g21, 0, none⟩ : Addr).add 1) = some (.int .i64 n52) ∧ ∃ (A53 : Option Addr) (n54 : Nat) (c55 : Nat), w50.cell? ((⟨g21, 0, none⟩ : Addr).add 2) = some (.slice A53 n54 c55) ∧ K (.tuple #[(.agg #[(.int .i64 n51), (.int .i64 n52), (.slice A53 n54 c55)]), (.bool false)]) w50) (∃ (n56 : Int), w42.cell? ((⟨g40, 0, none⟩ : Addr).add 0) = some (.int .i64 n56) ∧ ∃ (n57 : Int), w42.cell? ((⟨g40, 0, none⟩ : Addr).add 1) = some (.int .i64 n57) ∧ ∃ (A58 : Option Addr) (n59 : Nat) (c60 : Nat), w42.cell? ((⟨g40, 0, none⟩ : Addr).add 2) = some (.slice A58 n59 c60) ∧ stCells (⟨g21, 0, none⟩ : Addr) [(.int .i64 n56), (.int .i64 n57), (.slice A58 n59 c60)] 0 w42 fun w61 => ∃ (n62 : Int), w61.cell? ((⟨g21, 0, none⟩ : Addr).add 0) = some (.int .i64 n62) ∧ ∃ (n63 : Int), w61.cell? ((⟨g21, 0, none⟩ : Addr).add 1) = some (.int .i64 n63) ∧ ∃ (A64 : Option Addr) (n65 : Nat) (c66 : Nat), w61.cell? ((⟨g21, 0, none⟩ : Addr).add 2) = some (.slice A64 n65 c66) ∧ K (.tuple #[(.agg #[(.int .i64 n62), (.int .i64 n63), (.slice A64 n65 c66)]), (.bool true)]) w61))))))

def spec_RunAlone.ann : Ann := (.seq .l (.seq .l (.seq (.seq .l (.two (.seq .l .l) .l)) (.seq .l .l))))

theorem spec_RunAlone.vc_eq (A0 : Option Addr) (n0 : Nat) (c0 : Nat) (x1 : Int) (w : World) (K : Value → World → Prop) : vcF Try.prog Try.f43 spec_RunAlone.ann [(.slice A0 n0 c0), (.int .i64 x1)] K w = spec_RunAlone.vc A0 n0 c0 x1 w K := by kernel_rfl

theorem spec_RunAlone.start {A0 : Option Addr} {n0 : Nat} {c0 : Nat} {x1 : Int} {w : World} {K : Value → World → Prop} (h : spec_RunAlone.vc A0 n0 c0 x1 w K) : Cll Try.prog 43 #[(.slice A0 n0 c0), (.int .i64 x1)] w K :=
  vcF_sound mixed (fn := Try.f43) (by kernel_rfl) (by kernel_rfl) (an := spec_RunAlone.ann) (args := [(.slice A0 n0 c0), (.int .i64 x1)]) (by rw [spec_RunAlone.vc_eq]; exact h)

theorem spec_RunAlone.con {xs0 : List D.Ins} {A0 : Option Addr} {c0 : Nat} {x1 : Int} {r : D.Lane × Bool} {w : World} (hp : M.spec_RunAlone_pre xs0 x1) (hr : r = M.spec_RunAlone xs0 x1) (R0 : Row el68 w A0 xs0) (hc0 : xs0.length ≤ c0) :
    Cll Try.prog 43 #[(.slice A0 xs0.length c0), (.int .i64 x1)] w (fun v_ w_ => ∃ (A0_ : Option Addr) (c0_ : Nat), v_ = (.tuple #[(.agg #[(.int .i64 r.1.Thread), (.int .i64 r.1.Pc), (.slice A0_ r.1.Regs.length c0_)]), (.bool r.2)]) ∧ Own el3 w_ w.heap.size A0_ c0_ r.1.Regs ∧ Ext w w_) := by
  have H := wp.spec_RunAlone.math xs0 x1 hp
  have hB := Ext.refl w
  refine spec_RunAlone.start ?_
  unfold spec_RunAlone.vc
  unfold wp.spec_RunAlone at H
  refine newBlk (fun g2_ w21 L2 P2 e22 => ?_)
  have O2 := P2
  have L2 := Nat.le_trans hB.size L2
  have hB := ethen hB e22
  obtain ⟨r23, hr24⟩ : ∃ r_, r_ = M.spec_LaneNew x1 := ⟨_, rfl⟩
  have H := H r23 hr24
  refine (spec_LaneNew.con hr24 ).mono ?_
  rintro _ w26 ⟨A28, c29, rfl, P3, e27⟩
  have N3_2 := P3.apart_old O2.lt
  have O2 := O2.ext e27
  have O3 := P3.mono hB.size
  have hB := ethen hB e27
  refine ⟨r23.Thread, trivial, ?_⟩
  refine ⟨r23.Pc, trivial, ?_⟩
  refine ⟨A28, r23.Regs.length, c29, trivial, ?_⟩
  refine ⟨rfl, ?_⟩
  obtain ⟨hp32, H⟩ := H
  obtain ⟨r30, hr31⟩ : ∃ r_, r_ = M.spec_RunLane xs0 r23 1000 := ⟨_, rfl⟩
  have H := H r30 hr31
  refine (spec_RunLane.con hp32 hr31 (R0.ext hB) hc0 O3.row O3.le).mono ?_
  rintro _ w33 ⟨A35, c36, rfl, P4, e34⟩
  have N4_2 := P4.apart_old O2.lt
  have N3_4 := Own.apart2_new O3 P4 (Nat.le_refl _)
  have O2 := O2.ext e34
  have O3 := O3.ext e34
  have O4 := P4.mono hB.size
  have hB := ethen hB e34
  refine ⟨(.agg #[(.int .i64 r30.1.Thread), (.int .i64 r30.1.Pc), (.slice A35 r30.1.Regs.length c36)]), ?_⟩
  refine ⟨r30.1.Thread, trivial, ?_⟩
  refine ⟨r30.1.Pc, trivial, ?_⟩
  refine ⟨A35, r30.1.Regs.length, c36, trivial, ?_⟩
  refine ⟨rfl, ?_⟩
  refine ⟨(.int .i64 r30.2), ?_⟩
  refine ⟨r30.2, rfl, ?_⟩
  refine ⟨rfl, ?_⟩
  refine newBlk (fun g5_ w37 L5 P5 e38 => ?_)
  have N2_5 := O2.ne L5
  have N3_5 := O3.apart_new L5
  have N4_5 := O4.apart_new L5
  have O2 := O2.ext e38
  have O3 := O3.ext e38
  have O4 := O4.ext e38
  have O5 := P5
  have L5 := Nat.le_trans hB.size L5
  have hB := ethen hB e38
  refine stBlk O5 (o := 0) (cs' := #[(.int .i64 r30.1.Thread), (.int .i64 r30.1.Pc), (.slice A35 r30.1.Regs.length c36)]) rfl rfl (Nat.le_of_ble_eq_true rfl) rfl (fun w39 P5 e40 => ?_)
  have O2_ := O2.chg e40 N2_5
  have O3_ := O3.chg e40 N3_5
  have O4_ := O4.chg e40 N4_5
  have O2 := O2_
  have O3 := O3_
  have O4 := O4_
  have hB := echg hB e40 L5
  have O5 := P5
  refine bcase_mk (fun hc48 => ?_) (fun hc48 => ?_)
  · have H := (bcase_iff.1 H).1 hc48
    refine stBlk O2 (o := 0) (cs' := #[(.int .i64 0), (.int .i64 0), (.slice none 0 0)]) rfl rfl (Nat.le_of_ble_eq_true rfl) rfl (fun w41 P2 e42 => ?_)
    have O3_ := O3.chg e42 N3_2
    have O4_ := O4.chg e42 N4_2
    have O5_ := O5.chg e42 (N2_5).symm
    have O3 := O3_
    have O4 := O4_
    have O5 := O5_
    have hB := echg hB e42 L2
    have O2 := P2
    refine ⟨_, (O2.at 0 rfl rfl), ?_⟩
    refine ⟨_, (O2.at 1 rfl rfl), ?_⟩
    refine ⟨_, _, _, (O2.at 2 rfl rfl), ?_⟩
    obtain rfl := hr.trans H.symm
    exact ⟨none, 0, rfl, Own.nil, hB⟩
  · have H := (bcase_iff.1 H).2 hc48
    refine ⟨_, (O5.at 1 rfl rfl), ?_⟩
    refine bcase_mk (fun hc47 => ?_) (fun hc47 => ?_)
    · have H := (bcase_iff.1 H).1 hc47
      refine stBlk O2 (o := 0) (cs' := #[(.int .i64 0), (.int .i64 0), (.slice none 0 0)]) rfl rfl (Nat.le_of_ble_eq_true rfl) rfl (fun w43 P2 e44 => ?_)
      have O3_ := O3.chg e44 N3_2
      have O4_ := O4.chg e44 N4_2
      have O5_ := O5.chg e44 (N2_5).symm
      have O3 := O3_
      have O4 := O4_
      have O5 := O5_
      have hB := echg hB e44 L2
      have O2 := P2
      refine ⟨_, (O2.at 0 rfl rfl), ?_⟩
      refine ⟨_, (O2.at 1 rfl rfl), ?_⟩
      refine ⟨_, _, _, (O2.at 2 rfl rfl), ?_⟩
      obtain rfl := hr.trans H.symm
      exact ⟨none, 0, rfl, Own.nil, hB⟩
    · have H := (bcase_iff.1 H).2 hc47
      refine ⟨_, (O5.at 0 rfl rfl), ?_⟩
      refine ⟨_, (O5.at 1 rfl rfl), ?_⟩
      refine ⟨_, _, _, (O5.at 2 rfl rfl), ?_⟩
      refine stBlk O2 (o := 0) (cs' := #[(.int .i64 r30.1.Thread), (.int .i64 r30.1.Pc), (.slice A35 r30.1.Regs.length c36)]) rfl rfl (Nat.le_of_ble_eq_true rfl) rfl (fun w45 P2 e46 => ?_)
      have O3_ := O3.chg e46 N3_2
      have O4_ := O4.chg e46 N4_2
      have O5_ := O5.chg e46 (N2_5).symm
      have O3 := O3_
      have O4 := O4_
      have O5 := O5_
      have hB := echg hB e46 L2
      have O2 := P2
      refine ⟨_, (O2.at 0 rfl rfl), ?_⟩
      refine ⟨_, (O2.at 1 rfl rfl), ?_⟩
      refine ⟨_, _, _, (O2.at 2 rfl rfl), ?_⟩
      obtain rfl := hr.trans H.symm
      exact ⟨A35, c36, rfl, O4, hB⟩

def impl_RunAlone.vc (A0 : Option Addr) (n0 : Nat) (c0 : Nat) (x1 : Int) (w : World) (K : Value → World → Prop) : Prop :=
  newK w (.cells #[(.int .i64 0), (.int .i64 0), (.slice none 0 0)] 49) fun g21 w22 => Cll Try.prog 89 #[(.slice A0 n0 c0), (.int .i64 x1)] w22 fun v23 w24 => (∃ u25 : Value, (∃ (n26 : Int), True ∧ ∃ (n27 : Int), True ∧ ∃ (A28 : Option Addr) (n29 : Nat) (c30 : Nat), True ∧ u25 = (.agg #[(.int .i64 n26), (.int .i64 n27), (.slice A28 n29 c30)]) ∧ ∃ u31 : Value, (∃ (n32 : Int), u31 = (.int .i64 n32) ∧ ∃ u33 : Value, (∃ (b34 : Bool), u33 = (.bool b34) ∧ v23 = (.tuple #[(.agg #[(.int .i64 n26), (.int .i64 n27), (.slice A28 n29 c30)]), (.int .i64 n32), (.bool b34)]) ∧ newK w24 (.cells #[(.int .i64 0), (.int .i64 0), (.slice none 0 0)] 49) fun g35 w36 => stCells (⟨g35, 0, none⟩ : Addr) [(.int .i64 n26), (.int .i64 n27), (.slice A28 n29 c30)] 0 w36 fun w37 => ∃ (n38 : Int), w37.cell? ((⟨g35, 0, none⟩ : Addr).add 0) = some (.int .i64 n38) ∧ ∃ (n39 : Int), w37.cell? ((⟨g35, 0, none⟩ : Addr).add 1) = some (.int .i64 n39) ∧ ∃ (A40 : Option Addr) (n41 : Nat) (c42 : Nat), w37.cell? ((⟨g35, 0, none⟩ : Addr).add 2) = some (.slice A40 n41 c42) ∧ stCells (⟨g21, 0, none⟩ : Addr) [(.int .i64 n38), (.int .i64 n39), (.slice A40 n41 c42)] 0 w37 fun w43 => ∃ (n44 : Int), w43.cell? ((⟨g21, 0, none⟩ : Addr).add 0) = some (.int .i64 n44) ∧ ∃ (n45 : Int), w43.cell? ((⟨g21, 0, none⟩ : Addr).add 1) = some (.int .i64 n45) ∧ ∃ (A46 : Option Addr) (n47 : Nat) (c48 : Nat), w43.cell? ((⟨g21, 0, none⟩ : Addr).add 2) = some (.slice A46 n47 c48) ∧ K (.tuple #[(.agg #[(.int .i64 n44), (.int .i64 n45), (.slice A46 n47 c48)]), (.bool b34)]) w43))))

def impl_RunAlone.ann : Ann := (.seq .l (.seq .l (.seq .l .l)))

theorem impl_RunAlone.vc_eq (A0 : Option Addr) (n0 : Nat) (c0 : Nat) (x1 : Int) (w : World) (K : Value → World → Prop) : vcF Try.prog Try.f44 impl_RunAlone.ann [(.slice A0 n0 c0), (.int .i64 x1)] K w = impl_RunAlone.vc A0 n0 c0 x1 w K := by kernel_rfl

theorem impl_RunAlone.start {A0 : Option Addr} {n0 : Nat} {c0 : Nat} {x1 : Int} {w : World} {K : Value → World → Prop} (h : impl_RunAlone.vc A0 n0 c0 x1 w K) : Cll Try.prog 44 #[(.slice A0 n0 c0), (.int .i64 x1)] w K :=
  vcF_sound mixed (fn := Try.f44) (by kernel_rfl) (by kernel_rfl) (an := impl_RunAlone.ann) (args := [(.slice A0 n0 c0), (.int .i64 x1)]) (by rw [impl_RunAlone.vc_eq]; exact h)

theorem impl_RunAlone.con {xs0 : List D.Ins} {A0 : Option Addr} {c0 : Nat} {x1 : Int} {r : D.Lane × Bool} {w : World} (hp : M.impl_RunAlone_pre xs0 x1) (hr : r = M.impl_RunAlone xs0 x1) (R0 : Row el68 w A0 xs0) (hc0 : xs0.length ≤ c0) :
    Cll Try.prog 44 #[(.slice A0 xs0.length c0), (.int .i64 x1)] w (fun v_ w_ => ∃ (A0_ : Option Addr) (c0_ : Nat), v_ = (.tuple #[(.agg #[(.int .i64 r.1.Thread), (.int .i64 r.1.Pc), (.slice A0_ r.1.Regs.length c0_)]), (.bool r.2)]) ∧ Own el3 w_ w.heap.size A0_ c0_ r.1.Regs ∧ Ext w w_) := by
  have H := wp.impl_RunAlone.math xs0 x1 hp
  have hB := Ext.refl w
  refine impl_RunAlone.start ?_
  unfold impl_RunAlone.vc
  unfold wp.impl_RunAlone at H
  refine newBlk (fun g2_ w21 L2 P2 e22 => ?_)
  have O2 := P2
  have L2 := Nat.le_trans hB.size L2
  have hB := ethen hB e22
  obtain ⟨hp25, H⟩ := H
  obtain ⟨r23, hr24⟩ : ∃ r_, r_ = M.impl_alone xs0 x1 := ⟨_, rfl⟩
  have H := H r23 hr24
  refine (impl_alone.con hp25 hr24 (R0.ext hB) hc0).mono ?_
  rintro _ w26 ⟨A28, c29, rfl, P3, e27⟩
  have N3_2 := P3.apart_old O2.lt
  have O2 := O2.ext e27
  have O3 := P3.mono hB.size
  have hB := ethen hB e27
  refine ⟨(.agg #[(.int .i64 r23.1.Thread), (.int .i64 r23.1.Pc), (.slice A28 r23.1.Regs.length c29)]), ?_⟩
  refine ⟨r23.1.Thread, trivial, ?_⟩
  refine ⟨r23.1.Pc, trivial, ?_⟩
  refine ⟨A28, r23.1.Regs.length, c29, trivial, ?_⟩
  refine ⟨rfl, ?_⟩
  refine ⟨(.int .i64 r23.2.1), ?_⟩
  refine ⟨r23.2.1, rfl, ?_⟩
  refine ⟨(.bool r23.2.2), ?_⟩
  refine ⟨r23.2.2, rfl, ?_⟩
  refine ⟨rfl, ?_⟩
  refine newBlk (fun g4_ w30 L4 P4 e31 => ?_)
  have N2_4 := O2.ne L4
  have N3_4 := O3.apart_new L4
  have O2 := O2.ext e31
  have O3 := O3.ext e31
  have O4 := P4
  have L4 := Nat.le_trans hB.size L4
  have hB := ethen hB e31
  refine stBlk O4 (o := 0) (cs' := #[(.int .i64 r23.1.Thread), (.int .i64 r23.1.Pc), (.slice A28 r23.1.Regs.length c29)]) rfl rfl (Nat.le_of_ble_eq_true rfl) rfl (fun w32 P4 e33 => ?_)
  have O2_ := O2.chg e33 N2_4
  have O3_ := O3.chg e33 N3_4
  have O2 := O2_
  have O3 := O3_
  have hB := echg hB e33 L4
  have O4 := P4
  refine ⟨_, (O4.at 0 rfl rfl), ?_⟩
  refine ⟨_, (O4.at 1 rfl rfl), ?_⟩
  refine ⟨_, _, _, (O4.at 2 rfl rfl), ?_⟩
  refine stBlk O2 (o := 0) (cs' := #[(.int .i64 r23.1.Thread), (.int .i64 r23.1.Pc), (.slice A28 r23.1.Regs.length c29)]) rfl rfl (Nat.le_of_ble_eq_true rfl) rfl (fun w34 P2 e35 => ?_)
  have O3_ := O3.chg e35 N3_2
  have O4_ := O4.chg e35 (N2_4).symm
  have O3 := O3_
  have O4 := O4_
  have hB := echg hB e35 L2
  have O2 := P2
  refine ⟨_, (O2.at 0 rfl rfl), ?_⟩
  refine ⟨_, (O2.at 1 rfl rfl), ?_⟩
  refine ⟨_, _, _, (O2.at 2 rfl rfl), ?_⟩
  obtain rfl := hr.trans H.symm
  exact ⟨A28, c29, rfl, O3, hB⟩

def laws_FnExactRunAlone.vc (A0 : Option Addr) (n0 : Nat) (c0 : Nat) (x1 : Int) (w : World) (K : Value → World → Prop) : Prop :=
  Cll Try.prog 13 #[(.slice A0 n0 c0), (.int .i64 1048576)] w fun v21 w22 => (∃ (n23 : Int), v21 = (.int .i64 n23) ∧ bcase (decide (n23 < 0)) (K (.bool true) w22) (Cll Try.prog 15 #[(.slice A0 n0 c0)] w22 fun v24 w25 => (∃ (A26 : Option Addr) (n27 : Nat) (c28 : Nat), v24 = (.slice A26 n27 c28) ∧ Cll Try.prog 43 #[(.slice A26 n27 c28), (.int .i64 x1)] w25 fun v29 w30 => (∃ u31 : Value, (∃ (n32 : Int), True ∧ ∃ (n33 : Int), True ∧ ∃ (A34 : Option Addr) (n35 : Nat) (c36 : Nat), True ∧ u31 = (.agg #[(.int .i64 n32), (.int .i64 n33), (.slice A34 n35 c36)]) ∧ ∃ u37 : Value, (∃ (b38 : Bool), u37 = (.bool b38) ∧ v29 = (.tuple #[(.agg #[(.int .i64 n32), (.int .i64 n33), (.slice A34 n35 c36)]), (.bool b38)]) ∧ newK w30 (.cells #[(.int .i64 0), (.int .i64 0), (.slice none 0 0)] 49) fun g39 w40 => stCells (⟨g39, 0, none⟩ : Addr) [(.int .i64 n32), (.int .i64 n33), (.slice A34 n35 c36)] 0 w40 fun w41 => Cll Try.prog 15 #[(.slice A0 n0 c0)] w41 fun v42 w43 => (∃ (A44 : Option Addr) (n45 : Nat) (c46 : Nat), v42 = (.slice A44 n45 c46) ∧ Cll Try.prog 44 #[(.slice A44 n45 c46), (.int .i64 x1)] w43 fun v47 w48 => (∃ u49 : Value, (∃ (n50 : Int), True ∧ ∃ (n51 : Int), True ∧ ∃ (A52 : Option Addr) (n53 : Nat) (c54 : Nat), True ∧ u49 = (.agg #[(.int .i64 n50), (.int .i64 n51), (.slice A52 n53 c54)]) ∧ ∃ u55 : Value, (∃ (b56 : Bool), u55 = (.bool b56) ∧ v47 = (.tuple #[(.agg #[(.int .i64 n50), (.int .i64 n51), (.slice A52 n53 c54)]), (.bool b56)]) ∧ newK w48 (.cells #[(.int .i64 0), (.int .i64 0), (.slice none 0 0)] 49) fun g57 w58 => stCells (⟨g57, 0, none⟩ : Addr) [(.int .i64 n50), (.int .i64 n51), (.slice A52 n53 c54)] 0 w58 fun w59 => ∃ (n61 : Int), w59.cell? ((⟨g57, 0, none⟩ : Addr).add 0) = some (.int .i64 n61) ∧ ∃ (n62 : Int), w59.cell? ((⟨g57, 0, none⟩ : Addr).add 1) = some (.int .i64 n62) ∧ ∃ (A63 : Option Addr) (n64 : Nat) (c65 : Nat), w59.cell? ((⟨g57, 0, none⟩ : Addr).add 2) = some (.slice A63 n64 c65) ∧ ∃ (n66 : Int), w59.cell? ((⟨g39, 0, none⟩ : Addr).add 0) = some (.int .i64 n66) ∧ ∃ (n67 : Int), w59.cell? ((⟨g39, 0, none⟩ : Addr).add 1) = some (.int .i64 n67) ∧ ∃ (A68 : Option Addr) (n69 : Nat) (c70 : Nat), w59.cell? ((⟨g39, 0, none⟩ : Addr).add 2) = some (.slice A68 n69 c70) ∧ Cll Try.prog 36 #[(.agg #[(.int .i64 n61), (.int .i64 n62), (.slice A63 n64 c65)]), (.agg #[(.int .i64 n66), (.int .i64 n67), (.slice A68 n69 c70)])] w59 fun v71 w72 => (∃ (b73 : Bool), v71 = (.bool b73) ∧ bcase (!b73) (K (.bool false) w72) (bcase (!(b56 == b38)) (K (.bool false) w72) (Cll Try.prog 15 #[(.slice A0 n0 c0)] w72 fun v74 w75 => (∃ (A76 : Option Addr) (n77 : Nat) (c78 : Nat), v74 = (.slice A76 n77 c78) ∧ Cll Try.prog 18 #[(.slice A44 n45 c46), (.slice A76 n77 c78)] w75 fun v79 w80 => (∃ (b81 : Bool), v79 = (.bool b81) ∧ bcase (!b81) (K (.bool false) w80) (Cll Try.prog 19 #[(.slice A44 n45 c46), (.int .i64 1)] w80 fun v82 w83 => (∃ (n84 : Int), v82 = (.int .i64 n84) ∧ bcase (decide (n84 < 0)) (K (.bool false) w83) (∃ (n86 : Int), w83.cell? ((⟨g57, 0, none⟩ : Addr).add 0) = some (.int .i64 n86) ∧ ∃ (n87 : Int), w83.cell? ((⟨g57, 0, none⟩ : Addr).add 1) = some (.int .i64 n87) ∧ ∃ (A88 : Option Addr) (n89 : Nat) (c90 : Nat), w83.cell? ((⟨g57, 0, none⟩ : Addr).add 2) = some (.slice A88 n89 c90) ∧ ∃ (n91 : Int), w83.cell? ((⟨g39, 0, none⟩ : Addr).add 0) = some (.int .i64 n91) ∧ ∃ (n92 : Int), w83.cell? ((⟨g39, 0, none⟩ : Addr).add 1) = some (.int .i64 n92) ∧ ∃ (A93 : Option Addr) (n94 : Nat) (c95 : Nat), w83.cell? ((⟨g39, 0, none⟩ : Addr).add 2) = some (.slice A93 n94 c95) ∧ Cll Try.prog 36 #[(.agg #[(.int .i64 n86), (.int .i64 n87), (.slice A88 n89 c90)]), (.agg #[(.int .i64 n91), (.int .i64 n92), (.slice A93 n94 c95)])] w83 fun v96 w97 => (∃ (b98 : Bool), v96 = (.bool b98) ∧ bcase (!b98) (K (.bool false) w97) (bcase (!(b56 == b38)) (K (.bool false) w97) (∃ (n99 : Int), w97.cell? ((⟨g57, 0, none⟩ : Addr).add 0) = some (.int .i64 n99) ∧ ∃ (n100 : Int), w97.cell? ((⟨g57, 0, none⟩ : Addr).add 1) = some (.int .i64 n100) ∧ ∃ (A101 : Option Addr) (n102 : Nat) (c103 : Nat), w97.cell? ((⟨g57, 0, none⟩ : Addr).add 2) = some (.slice A101 n102 c103) ∧ Cll Try.prog 37 #[(.agg #[(.int .i64 n99), (.int .i64 n100), (.slice A101 n102 c103)]), (.int .i64 1)] w97 fun v104 w105 => (∃ (n106 : Int), v104 = (.int .i64 n106) ∧ ∃ (n107 : Int), w105.cell? ((⟨g57, 0, none⟩ : Addr).add 0) = some (.int .i64 n107) ∧ ∃ (n108 : Int), w105.cell? ((⟨g57, 0, none⟩ : Addr).add 1) = some (.int .i64 n108) ∧ ∃ (A109 : Option Addr) (n110 : Nat) (c111 : Nat), w105.cell? ((⟨g57, 0, none⟩ : Addr).add 2) = some (.slice A109 n110 c111) ∧ Cll Try.prog 38 #[(.agg #[(.int .i64 n107), (.int .i64 n108), (.slice A109 n110 c111)]), (.int .i64 1)] w105 fun v112 w113 => (∃ (n114 : Int), v112 = (.int .i64 n114) ∧ bcase (decide (n114 < 0)) (K (.bool false) w113) (bcase (n114 != n106) (K (.bool false) w113) (Cll Try.prog 15 #[(.slice A0 n0 c0)] w113 fun v115 w116 => (∃ (A117 : Option Addr) (n118 : Nat) (c119 : Nat), v115 = (.slice A117 n118 c119) ∧ Cll Try.prog 44 #[(.slice A117 n118 c119), (.int .i64 x1)] w116 fun v120 w121 => (∃ u122 : Value, (∃ (n123 : Int), True ∧ ∃ (n124 : Int), True ∧ ∃ (A125 : Option Addr) (n126 : Nat) (c127 : Nat), True ∧ u122 = (.agg #[(.int .i64 n123), (.int .i64 n124), (.slice A125 n126 c127)]) ∧ ∃ u128 : Value, (∃ (b129 : Bool), u128 = (.bool b129) ∧ v120 = (.tuple #[(.agg #[(.int .i64 n123), (.int .i64 n124), (.slice A125 n126 c127)]), (.bool b129)]) ∧ newK w121 (.cells #[(.int .i64 0), (.int .i64 0), (.slice none 0 0)] 49) fun g130 w131 => stCells (⟨g130, 0, none⟩ : Addr) [(.int .i64 n123), (.int .i64 n124), (.slice A125 n126 c127)] 0 w131 fun w132 => ∃ (n134 : Int), w132.cell? ((⟨g130, 0, none⟩ : Addr).add 0) = some (.int .i64 n134) ∧ ∃ (n135 : Int), w132.cell? ((⟨g130, 0, none⟩ : Addr).add 1) = some (.int .i64 n135) ∧ ∃ (A136 : Option Addr) (n137 : Nat) (c138 : Nat), w132.cell? ((⟨g130, 0, none⟩ : Addr).add 2) = some (.slice A136 n137 c138) ∧ ∃ (n139 : Int), w132.cell? ((⟨g39, 0, none⟩ : Addr).add 0) = some (.int .i64 n139) ∧ ∃ (n140 : Int), w132.cell? ((⟨g39, 0, none⟩ : Addr).add 1) = some (.int .i64 n140) ∧ ∃ (A141 : Option Addr) (n142 : Nat) (c143 : Nat), w132.cell? ((⟨g39, 0, none⟩ : Addr).add 2) = some (.slice A141 n142 c143) ∧ Cll Try.prog 36 #[(.agg #[(.int .i64 n134), (.int .i64 n135), (.slice A136 n137 c138)]), (.agg #[(.int .i64 n139), (.int .i64 n140), (.slice A141 n142 c143)])] w132 fun v144 w145 => (∃ (b146 : Bool), v144 = (.bool b146) ∧ bcase (!b146) (K (.bool false) w145) (bcase (!(b129 == b38)) (K (.bool false) w145) (∃ (n147 : Int), w145.cell? ((⟨g57, 0, none⟩ : Addr).add 0) = some (.int .i64 n147) ∧ ∃ (n148 : Int), w145.cell? ((⟨g57, 0, none⟩ : Addr).add 1) = some (.int .i64 n148) ∧ ∃ (A149 : Option Addr) (n150 : Nat) (c151 : Nat), w145.cell? ((⟨g57, 0, none⟩ : Addr).add 2) = some (.slice A149 n150 c151) ∧ Cll Try.prog 38 #[(.agg #[(.int .i64 n147), (.int .i64 n148), (.slice A149 n150 c151)]), (.int .i64 1)] w145 fun v152 w153 => (∃ (n154 : Int), v152 = (.int .i64 n154) ∧ bcase (decide (n154 < 0)) (K (.bool false) w153) (bcase (n154 != n106) (K (.bool false) w153) (K (.bool true) w153)))))))))))))))))))))))))))))))))))

def laws_FnExactRunAlone.ann : Ann := (.seq .l (.seq .l (.seq .l (.seq (.seq .l (.two (.seq .l .l) .l)) (.seq .l (.seq .l (.seq .l (.seq (.seq .l (.two (.seq .l .l) .l)) (.seq (.seq .l (.two (.seq .l .l) .l)) (.seq .l (.seq .l (.seq (.seq .l (.two (.seq .l .l) .l)) (.seq .l (.seq .l (.seq .l (.seq .l (.seq (.seq .l (.two (.seq .l .l) .l)) (.seq (.seq .l (.two (.seq .l .l) .l)) (.seq .l (.seq (.seq .l (.two (.seq .l .l) .l)) (.seq .l (.seq .l (.seq (.seq .l (.two (.seq .l .l) .l)) (.seq (.seq .l (.two (.seq .l .l) .l)) (.seq .l .l)))))))))))))))))))))))))

theorem laws_FnExactRunAlone.vc_eq (A0 : Option Addr) (n0 : Nat) (c0 : Nat) (x1 : Int) (w : World) (K : Value → World → Prop) : vcF Try.prog Try.f11 laws_FnExactRunAlone.ann [(.slice A0 n0 c0), (.int .i64 x1)] K w = laws_FnExactRunAlone.vc A0 n0 c0 x1 w K := by kernel_rfl

theorem laws_FnExactRunAlone.start {A0 : Option Addr} {n0 : Nat} {c0 : Nat} {x1 : Int} {w : World} {K : Value → World → Prop} (h : laws_FnExactRunAlone.vc A0 n0 c0 x1 w K) : Cll Try.prog 11 #[(.slice A0 n0 c0), (.int .i64 x1)] w K :=
  vcF_sound mixed (fn := Try.f11) (by kernel_rfl) (by kernel_rfl) (an := laws_FnExactRunAlone.ann) (args := [(.slice A0 n0 c0), (.int .i64 x1)]) (by rw [laws_FnExactRunAlone.vc_eq]; exact h)

theorem laws_FnExactRunAlone.con {xs0 : List D.Ins} {A0 : Option Addr} {c0 : Nat} {x1 : Int} {r : Bool} {w : World} (hp : M.laws_FnExactRunAlone_pre xs0 x1) (hr : r = M.laws_FnExactRunAlone xs0 x1) (R0 : Row el70 w A0 xs0) (hc0 : xs0.length ≤ c0) :
    Cll Try.prog 11 #[(.slice A0 xs0.length c0), (.int .i64 x1)] w (fun v_ w_ => v_ = (.bool r) ∧ Ext w w_) := by
  have H := wp.laws_FnExactRunAlone.math xs0 x1 hp
  have hB := Ext.refl w
  refine laws_FnExactRunAlone.start ?_
  unfold laws_FnExactRunAlone.vc
  unfold wp.laws_FnExactRunAlone at H
  obtain ⟨hp23, H⟩ := H
  obtain ⟨r21, hr22⟩ : ∃ r_, r_ = M.laws_szInsS xs0 1048576 := ⟨_, rfl⟩
  have H := H r21 hr22
  refine (laws_szInsS.con hp23 hr22 (R0.ext hB) hc0).mono ?_
  rintro _ w24 ⟨rfl, e25⟩
  have hB := ethen hB e25
  refine ⟨r21, rfl, ?_⟩
  refine bcase_mk (fun hc141 => ?_) (fun hc141 => ?_)
  · have H := (bcase_iff.1 H).1 hc141
    obtain rfl := hr.trans H.symm
    exact ⟨rfl, hB⟩
  · have H := (bcase_iff.1 H).2 hc141
    obtain ⟨hp28, H⟩ := H
    obtain ⟨r26, hr27⟩ : ∃ r_, r_ = M.laws_toInsS xs0 := ⟨_, rfl⟩
    have H := H r26 hr27
    refine (laws_toInsS.con hp28 hr27 (R0.ext hB) hc0).mono ?_
    rintro _ w29 ⟨A31, c32, rfl, P2, e30⟩
    have O2 := P2.mono hB.size
    have hB := ethen hB e30
    refine ⟨A31, r26.length, c32, rfl, ?_⟩
    obtain ⟨hp35, H⟩ := H
    obtain ⟨r33, hr34⟩ : ∃ r_, r_ = M.spec_RunAlone r26 x1 := ⟨_, rfl⟩
    have H := H r33 hr34
    refine (spec_RunAlone.con hp35 hr34 O2.row O2.le).mono ?_
    rintro _ w36 ⟨A38, c39, rfl, P3, e37⟩
    have N2_3 := Own.apart2_new O2 P3 (Nat.le_refl _)
    have O2 := O2.ext e37
    have O3 := P3.mono hB.size
    have hB := ethen hB e37
    refine ⟨(.agg #[(.int .i64 r33.1.Thread), (.int .i64 r33.1.Pc), (.slice A38 r33.1.Regs.length c39)]), ?_⟩
    refine ⟨r33.1.Thread, trivial, ?_⟩
    refine ⟨r33.1.Pc, trivial, ?_⟩
    refine ⟨A38, r33.1.Regs.length, c39, trivial, ?_⟩
    refine ⟨rfl, ?_⟩
    refine ⟨(.bool r33.2), ?_⟩
    refine ⟨r33.2, rfl, ?_⟩
    refine ⟨rfl, ?_⟩
    refine newBlk (fun g4_ w40 L4 P4 e41 => ?_)
    have N2_4 := O2.apart_new L4
    have N3_4 := O3.apart_new L4
    have O2 := O2.ext e41
    have O3 := O3.ext e41
    have O4 := P4
    have L4 := Nat.le_trans hB.size L4
    have hB := ethen hB e41
    refine stBlk O4 (o := 0) (cs' := #[(.int .i64 r33.1.Thread), (.int .i64 r33.1.Pc), (.slice A38 r33.1.Regs.length c39)]) rfl rfl (Nat.le_of_ble_eq_true rfl) rfl (fun w42 P4 e43 => ?_)
    have O2_ := O2.chg e43 N2_4
    have O3_ := O3.chg e43 N3_4
    have O2 := O2_
    have O3 := O3_
    have hB := echg hB e43 L4
    have O4 := P4
    obtain ⟨hp46, H⟩ := H
    obtain ⟨r44, hr45⟩ : ∃ r_, r_ = M.laws_toInsS xs0 := ⟨_, rfl⟩
    have H := H r44 hr45
    refine (laws_toInsS.con hp46 hr45 (R0.ext hB) hc0).mono ?_
    rintro _ w47 ⟨A49, c50, rfl, P5, e48⟩
    have N2_5 := Own.apart2_new O2 P5 (Nat.le_refl _)
    have N3_5 := Own.apart2_new O3 P5 (Nat.le_refl _)
    have N5_4 := P5.apart_old O4.lt
    have O2 := O2.ext e48
    have O3 := O3.ext e48
    have O4 := O4.ext e48
    have O5 := P5.mono hB.size
    have hB := ethen hB e48
    refine ⟨A49, r44.length, c50, rfl, ?_⟩
    obtain ⟨hp53, H⟩ := H
    obtain ⟨r51, hr52⟩ : ∃ r_, r_ = M.impl_RunAlone r44 x1 := ⟨_, rfl⟩
    have H := H r51 hr52
    refine (impl_RunAlone.con hp53 hr52 O5.row O5.le).mono ?_
    rintro _ w54 ⟨A56, c57, rfl, P6, e55⟩
    have N2_6 := Own.apart2_new O2 P6 (Nat.le_refl _)
    have N3_6 := Own.apart2_new O3 P6 (Nat.le_refl _)
    have N6_4 := P6.apart_old O4.lt
    have N5_6 := Own.apart2_new O5 P6 (Nat.le_refl _)
    have O2 := O2.ext e55
    have O3 := O3.ext e55
    have O4 := O4.ext e55
    have O5 := O5.ext e55
    have O6 := P6.mono hB.size
    have hB := ethen hB e55
    refine ⟨(.agg #[(.int .i64 r51.1.Thread), (.int .i64 r51.1.Pc), (.slice A56 r51.1.Regs.length c57)]), ?_⟩
    refine ⟨r51.1.Thread, trivial, ?_⟩
    refine ⟨r51.1.Pc, trivial, ?_⟩
    refine ⟨A56, r51.1.Regs.length, c57, trivial, ?_⟩
    refine ⟨rfl, ?_⟩
    refine ⟨(.bool r51.2), ?_⟩
    refine ⟨r51.2, rfl, ?_⟩
    refine ⟨rfl, ?_⟩
    refine newBlk (fun g7_ w58 L7 P7 e59 => ?_)
    have N2_7 := O2.apart_new L7
    have N3_7 := O3.apart_new L7
    have N4_7 := O4.ne L7
    have N5_7 := O5.apart_new L7
    have N6_7 := O6.apart_new L7
    have O2 := O2.ext e59
    have O3 := O3.ext e59
    have O4 := O4.ext e59
    have O5 := O5.ext e59
    have O6 := O6.ext e59
    have O7 := P7
    have L7 := Nat.le_trans hB.size L7
    have hB := ethen hB e59
    refine stBlk O7 (o := 0) (cs' := #[(.int .i64 r51.1.Thread), (.int .i64 r51.1.Pc), (.slice A56 r51.1.Regs.length c57)]) rfl rfl (Nat.le_of_ble_eq_true rfl) rfl (fun w60 P7 e61 => ?_)
    have O2_ := O2.chg e61 N2_7
    have O3_ := O3.chg e61 N3_7
    have O4_ := O4.chg e61 N4_7
    have O5_ := O5.chg e61 N5_7
    have O6_ := O6.chg e61 N6_7
    have O2 := O2_
    have O3 := O3_
    have O4 := O4_
    have O5 := O5_
    have O6 := O6_
    have hB := echg hB e61 L7
    have O7 := P7
    refine ⟨_, (O7.at 0 rfl rfl), ?_⟩
    refine ⟨_, (O7.at 1 rfl rfl), ?_⟩
    refine ⟨_, _, _, (O7.at 2 rfl rfl), ?_⟩
    refine ⟨_, (O4.at 0 rfl rfl), ?_⟩
    refine ⟨_, (O4.at 1 rfl rfl), ?_⟩
    refine ⟨_, _, _, (O4.at 2 rfl rfl), ?_⟩
    obtain ⟨hp64, H⟩ := H
    obtain ⟨r62, hr63⟩ : ∃ r_, r_ = M.laws_eqLane r51.1 r33.1 := ⟨_, rfl⟩
    have H := H r62 hr63
    refine (laws_eqLane.con hp64 hr63 O6.row O6.le O3.row O3.le).mono ?_
    rintro _ w65 ⟨rfl, e66⟩
    have O2 := O2.ext e66
    have O3 := O3.ext e66
    have O4 := O4.ext e66
    have O5 := O5.ext e66
    have O6 := O6.ext e66
    have O7 := O7.ext e66
    have hB := ethen hB e66
    refine ⟨r62, rfl, ?_⟩
    refine bcase_mk (fun hc140 => ?_) (fun hc140 => ?_)
    · have H := (bcase_iff.1 H).1 hc140
      obtain rfl := hr.trans H.symm
      exact ⟨rfl, hB⟩
    · have H := (bcase_iff.1 H).2 hc140
      refine bcase_mk (fun hc139 => ?_) (fun hc139 => ?_)
      · have H := (bcase_iff.1 H).1 hc139
        obtain rfl := hr.trans H.symm
        exact ⟨rfl, hB⟩
      · have H := (bcase_iff.1 H).2 hc139
        obtain ⟨hp69, H⟩ := H
        obtain ⟨r67, hr68⟩ : ∃ r_, r_ = M.laws_toInsS xs0 := ⟨_, rfl⟩
        have H := H r67 hr68
        refine (laws_toInsS.con hp69 hr68 (R0.ext hB) hc0).mono ?_
        rintro _ w70 ⟨A72, c73, rfl, P8, e71⟩
        have N2_8 := Own.apart2_new O2 P8 (Nat.le_refl _)
        have N3_8 := Own.apart2_new O3 P8 (Nat.le_refl _)
        have N8_4 := P8.apart_old O4.lt
        have N5_8 := Own.apart2_new O5 P8 (Nat.le_refl _)
        have N6_8 := Own.apart2_new O6 P8 (Nat.le_refl _)
        have N8_7 := P8.apart_old O7.lt
        have O2 := O2.ext e71
        have O3 := O3.ext e71
        have O4 := O4.ext e71
        have O5 := O5.ext e71
        have O6 := O6.ext e71
        have O7 := O7.ext e71
        have O8 := P8.mono hB.size
        have hB := ethen hB e71
        refine ⟨A72, r67.length, c73, rfl, ?_⟩
        obtain ⟨hp76, H⟩ := H
        obtain ⟨r74, hr75⟩ : ∃ r_, r_ = M.laws_eqInsS r44 r67 := ⟨_, rfl⟩
        have H := H r74 hr75
        refine (laws_eqInsS.con hp76 hr75 O5.row O5.le O8.row O8.le).mono ?_
        rintro _ w77 ⟨rfl, e78⟩
        have O2 := O2.ext e78
        have O3 := O3.ext e78
        have O4 := O4.ext e78
        have O5 := O5.ext e78
        have O6 := O6.ext e78
        have O7 := O7.ext e78
        have O8 := O8.ext e78
        have hB := ethen hB e78
        refine ⟨r74, rfl, ?_⟩
        refine bcase_mk (fun hc138 => ?_) (fun hc138 => ?_)
        · have H := (bcase_iff.1 H).1 hc138
          obtain rfl := hr.trans H.symm
          exact ⟨rfl, hB⟩
        · have H := (bcase_iff.1 H).2 hc138
          obtain ⟨hp81, H⟩ := H
          obtain ⟨r79, hr80⟩ : ∃ r_, r_ = M.laws_markInsS r44 1 := ⟨_, rfl⟩
          have H := H r79 hr80
          refine (laws_markInsS.con hp81 hr80 (O5.mono (Nat.zero_le _))).mono ?_
          rintro _ w82 ⟨rfl, Q5, hl84, e83⟩
          have O2 := O2.chgS e83 (N2_5).inb
          have O3 := O3.chgS e83 (N3_5).inb
          have O4 := O4.chgS e83 (N5_4).inb
          have O6 := O6.chgS e83 ((N5_6).symm).inb
          have O7 := O7.chgS e83 (N5_7).inb
          have O8 := O8.chgS e83 ((N5_8).symm).inb
          have hB := Chg.ext hB e83 O5.low
          have O5 := Q5.up O5
          refine ⟨r79.1, rfl, ?_⟩
          refine bcase_mk (fun hc137 => ?_) (fun hc137 => ?_)
          · have H := (bcase_iff.1 H).1 hc137
            obtain rfl := hr.trans H.symm
            exact ⟨rfl, hB⟩
          · have H := (bcase_iff.1 H).2 hc137
            refine ⟨_, (O7.at 0 rfl rfl), ?_⟩
            refine ⟨_, (O7.at 1 rfl rfl), ?_⟩
            refine ⟨_, _, _, (O7.at 2 rfl rfl), ?_⟩
            refine ⟨_, (O4.at 0 rfl rfl), ?_⟩
            refine ⟨_, (O4.at 1 rfl rfl), ?_⟩
            refine ⟨_, _, _, (O4.at 2 rfl rfl), ?_⟩
            obtain ⟨hp87, H⟩ := H
            obtain ⟨r85, hr86⟩ : ∃ r_, r_ = M.laws_eqLane r51.1 r33.1 := ⟨_, rfl⟩
            have H := H r85 hr86
            refine (laws_eqLane.con hp87 hr86 O6.row O6.le O3.row O3.le).mono ?_
            rintro _ w88 ⟨rfl, e89⟩
            have O2 := O2.ext e89
            have O3 := O3.ext e89
            have O4 := O4.ext e89
            have O5 := O5.ext e89
            have O6 := O6.ext e89
            have O7 := O7.ext e89
            have O8 := O8.ext e89
            have hB := ethen hB e89
            refine ⟨r85, rfl, ?_⟩
            refine bcase_mk (fun hc136 => ?_) (fun hc136 => ?_)
            · have H := (bcase_iff.1 H).1 hc136
              obtain rfl := hr.trans H.symm
              exact ⟨rfl, hB⟩
            · have H := (bcase_iff.1 H).2 hc136
              refine bcase_mk (fun hc135 => ?_) (fun hc135 => ?_)
              · have H := (bcase_iff.1 H).1 hc135
                obtain rfl := hr.trans H.symm
                exact ⟨rfl, hB⟩
              · have H := (bcase_iff.1 H).2 hc135
                refine ⟨_, (O7.at 0 rfl rfl), ?_⟩
                refine ⟨_, (O7.at 1 rfl rfl), ?_⟩
                refine ⟨_, _, _, (O7.at 2 rfl rfl), ?_⟩
                obtain ⟨hp92, H⟩ := H
                obtain ⟨r90, hr91⟩ : ∃ r_, r_ = M.laws_markLane r51.1 1 := ⟨_, rfl⟩
                have H := H r90 hr91
                refine (laws_markLane.con hp92 hr91 (O6.mono (Nat.zero_le _))).mono ?_
                rintro _ w93 ⟨rfl, Q6, hl95, e94⟩
                have O2 := O2.chgS e94 (N2_6).inb
                have O3 := O3.chgS e94 (N3_6).inb
                have O4 := O4.chgS e94 (N6_4).inb
                have O5 := O5.chgS e94 (N5_6).inb
                have O7 := O7.chgS e94 (N6_7).inb
                have O8 := O8.chgS e94 ((N6_8).symm).inb
                have hB := Chg.ext hB e94 O6.low
                have O6 := Q6.up O6
                refine ⟨r90.1, rfl, ?_⟩
                refine ⟨_, (O7.at 0 rfl rfl), ?_⟩
                refine ⟨_, (O7.at 1 rfl rfl), ?_⟩
                refine ⟨_, _, _, (O7.at 2 rfl rfl), ?_⟩
                obtain ⟨hp98, H⟩ := H
                obtain ⟨r96, hr97⟩ : ∃ r_, r_ = M.laws_heldLane (⟨r51.1.Thread, r51.1.Pc, r90.2⟩ : D.Lane) 1 := ⟨_, rfl⟩
                have H := H r96 hr97
                refine (cllArgs (by first | (simp only [List.length_set, hl95]; done) | (simp; done)) (laws_heldLane.con hp98 hr97 O6.row O6.le)).mono ?_
                rintro _ w99 ⟨rfl, e100⟩
                have O2 := O2.ext e100
                have O3 := O3.ext e100
                have O4 := O4.ext e100
                have O5 := O5.ext e100
                have O6 := O6.ext e100
                have O7 := O7.ext e100
                have O8 := O8.ext e100
                have hB := ethen hB e100
                refine ⟨r96, rfl, ?_⟩
                refine bcase_mk (fun hc134 => ?_) (fun hc134 => ?_)
                · have H := (bcase_iff.1 H).1 hc134
                  obtain rfl := hr.trans H.symm
                  exact ⟨rfl, hB⟩
                · have H := (bcase_iff.1 H).2 hc134
                  refine bcase_mk (fun hc133 => ?_) (fun hc133 => ?_)
                  · have H := (bcase_iff.1 H).1 hc133
                    obtain rfl := hr.trans H.symm
                    exact ⟨rfl, hB⟩
                  · have H := (bcase_iff.1 H).2 hc133
                    obtain ⟨hp103, H⟩ := H
                    obtain ⟨r101, hr102⟩ : ∃ r_, r_ = M.laws_toInsS xs0 := ⟨_, rfl⟩
                    have H := H r101 hr102
                    refine (laws_toInsS.con hp103 hr102 (R0.ext hB) hc0).mono ?_
                    rintro _ w104 ⟨A106, c107, rfl, P9, e105⟩
                    have N2_9 := Own.apart2_new O2 P9 (Nat.le_refl _)
                    have N3_9 := Own.apart2_new O3 P9 (Nat.le_refl _)
                    have N9_4 := P9.apart_old O4.lt
                    have N5_9 := Own.apart2_new O5 P9 (Nat.le_refl _)
                    have N6_9 := Own.apart2_new O6 P9 (Nat.le_refl _)
                    have N9_7 := P9.apart_old O7.lt
                    have N8_9 := Own.apart2_new O8 P9 (Nat.le_refl _)
                    have O2 := O2.ext e105
                    have O3 := O3.ext e105
                    have O4 := O4.ext e105
                    have O5 := O5.ext e105
                    have O6 := O6.ext e105
                    have O7 := O7.ext e105
                    have O8 := O8.ext e105
                    have O9 := P9.mono hB.size
                    have hB := ethen hB e105
                    refine ⟨A106, r101.length, c107, rfl, ?_⟩
                    obtain ⟨hp110, H⟩ := H
                    obtain ⟨r108, hr109⟩ : ∃ r_, r_ = M.impl_RunAlone r101 x1 := ⟨_, rfl⟩
                    have H := H r108 hr109
                    refine (impl_RunAlone.con hp110 hr109 O9.row O9.le).mono ?_
                    rintro _ w111 ⟨A113, c114, rfl, P10, e112⟩
                    have N2_10 := Own.apart2_new O2 P10 (Nat.le_refl _)
                    have N3_10 := Own.apart2_new O3 P10 (Nat.le_refl _)
                    have N10_4 := P10.apart_old O4.lt
                    have N5_10 := Own.apart2_new O5 P10 (Nat.le_refl _)
                    have N6_10 := Own.apart2_new O6 P10 (Nat.le_refl _)
                    have N10_7 := P10.apart_old O7.lt
                    have N8_10 := Own.apart2_new O8 P10 (Nat.le_refl _)
                    have N9_10 := Own.apart2_new O9 P10 (Nat.le_refl _)
                    have O2 := O2.ext e112
                    have O3 := O3.ext e112
                    have O4 := O4.ext e112
                    have O5 := O5.ext e112
                    have O6 := O6.ext e112
                    have O7 := O7.ext e112
                    have O8 := O8.ext e112
                    have O9 := O9.ext e112
                    have O10 := P10.mono hB.size
                    have hB := ethen hB e112
                    refine ⟨(.agg #[(.int .i64 r108.1.Thread), (.int .i64 r108.1.Pc), (.slice A113 r108.1.Regs.length c114)]), ?_⟩
                    refine ⟨r108.1.Thread, trivial, ?_⟩
                    refine ⟨r108.1.Pc, trivial, ?_⟩
                    refine ⟨A113, r108.1.Regs.length, c114, trivial, ?_⟩
                    refine ⟨rfl, ?_⟩
                    refine ⟨(.bool r108.2), ?_⟩
                    refine ⟨r108.2, rfl, ?_⟩
                    refine ⟨rfl, ?_⟩
                    refine newBlk (fun g11_ w115 L11 P11 e116 => ?_)
                    have N2_11 := O2.apart_new L11
                    have N3_11 := O3.apart_new L11
                    have N4_11 := O4.ne L11
                    have N5_11 := O5.apart_new L11
                    have N6_11 := O6.apart_new L11
                    have N7_11 := O7.ne L11
                    have N8_11 := O8.apart_new L11
                    have N9_11 := O9.apart_new L11
                    have N10_11 := O10.apart_new L11
                    have O2 := O2.ext e116
                    have O3 := O3.ext e116
                    have O4 := O4.ext e116
                    have O5 := O5.ext e116
                    have O6 := O6.ext e116
                    have O7 := O7.ext e116
                    have O8 := O8.ext e116
                    have O9 := O9.ext e116
                    have O10 := O10.ext e116
                    have O11 := P11
                    have L11 := Nat.le_trans hB.size L11
                    have hB := ethen hB e116
                    refine stBlk O11 (o := 0) (cs' := #[(.int .i64 r108.1.Thread), (.int .i64 r108.1.Pc), (.slice A113 r108.1.Regs.length c114)]) rfl rfl (Nat.le_of_ble_eq_true rfl) rfl (fun w117 P11 e118 => ?_)
                    have O2_ := O2.chg e118 N2_11
                    have O3_ := O3.chg e118 N3_11
                    have O4_ := O4.chg e118 N4_11
                    have O5_ := O5.chg e118 N5_11
                    have O6_ := O6.chg e118 N6_11
                    have O7_ := O7.chg e118 N7_11
                    have O8_ := O8.chg e118 N8_11
                    have O9_ := O9.chg e118 N9_11
                    have O10_ := O10.chg e118 N10_11
                    have O2 := O2_
                    have O3 := O3_
                    have O4 := O4_
                    have O5 := O5_
                    have O6 := O6_
                    have O7 := O7_
                    have O8 := O8_
                    have O9 := O9_
                    have O10 := O10_
                    have hB := echg hB e118 L11
                    have O11 := P11
                    refine ⟨_, (O11.at 0 rfl rfl), ?_⟩
                    refine ⟨_, (O11.at 1 rfl rfl), ?_⟩
                    refine ⟨_, _, _, (O11.at 2 rfl rfl), ?_⟩
                    refine ⟨_, (O4.at 0 rfl rfl), ?_⟩
                    refine ⟨_, (O4.at 1 rfl rfl), ?_⟩
                    refine ⟨_, _, _, (O4.at 2 rfl rfl), ?_⟩
                    obtain ⟨hp121, H⟩ := H
                    obtain ⟨r119, hr120⟩ : ∃ r_, r_ = M.laws_eqLane r108.1 r33.1 := ⟨_, rfl⟩
                    have H := H r119 hr120
                    refine (laws_eqLane.con hp121 hr120 O10.row O10.le O3.row O3.le).mono ?_
                    rintro _ w122 ⟨rfl, e123⟩
                    have O2 := O2.ext e123
                    have O3 := O3.ext e123
                    have O4 := O4.ext e123
                    have O5 := O5.ext e123
                    have O6 := O6.ext e123
                    have O7 := O7.ext e123
                    have O8 := O8.ext e123
                    have O9 := O9.ext e123
                    have O10 := O10.ext e123
                    have O11 := O11.ext e123
                    have hB := ethen hB e123
                    refine ⟨r119, rfl, ?_⟩
                    refine bcase_mk (fun hc132 => ?_) (fun hc132 => ?_)
                    · have H := (bcase_iff.1 H).1 hc132
                      obtain rfl := hr.trans H.symm
                      exact ⟨rfl, hB⟩
                    · have H := (bcase_iff.1 H).2 hc132
                      refine bcase_mk (fun hc131 => ?_) (fun hc131 => ?_)
                      · have H := (bcase_iff.1 H).1 hc131
                        obtain rfl := hr.trans H.symm
                        exact ⟨rfl, hB⟩
                      · have H := (bcase_iff.1 H).2 hc131
                        refine ⟨_, (O7.at 0 rfl rfl), ?_⟩
                        refine ⟨_, (O7.at 1 rfl rfl), ?_⟩
                        refine ⟨_, _, _, (O7.at 2 rfl rfl), ?_⟩
                        obtain ⟨hp126, H⟩ := H
                        obtain ⟨r124, hr125⟩ : ∃ r_, r_ = M.laws_heldLane (⟨r51.1.Thread, r51.1.Pc, r90.2⟩ : D.Lane) 1 := ⟨_, rfl⟩
                        have H := H r124 hr125
                        refine (cllArgs (by first | (simp only [List.length_set, hl95]; done) | (simp; done)) (laws_heldLane.con hp126 hr125 O6.row O6.le)).mono ?_
                        rintro _ w127 ⟨rfl, e128⟩
                        have O2 := O2.ext e128
                        have O3 := O3.ext e128
                        have O4 := O4.ext e128
                        have O5 := O5.ext e128
                        have O6 := O6.ext e128
                        have O7 := O7.ext e128
                        have O8 := O8.ext e128
                        have O9 := O9.ext e128
                        have O10 := O10.ext e128
                        have O11 := O11.ext e128
                        have hB := ethen hB e128
                        refine ⟨r124, rfl, ?_⟩
                        refine bcase_mk (fun hc130 => ?_) (fun hc130 => ?_)
                        · have H := (bcase_iff.1 H).1 hc130
                          obtain rfl := hr.trans H.symm
                          exact ⟨rfl, hB⟩
                        · have H := (bcase_iff.1 H).2 hc130
                          refine bcase_mk (fun hc129 => ?_) (fun hc129 => ?_)
                          · have H := (bcase_iff.1 H).1 hc129
                            obtain rfl := hr.trans H.symm
                            exact ⟨rfl, hB⟩
                          · have H := (bcase_iff.1 H).2 hc129
                            obtain rfl := hr.trans H.symm
                            exact ⟨rfl, hB⟩

end Go.V
