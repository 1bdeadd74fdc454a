import Derived.Test.YtnbkmenlaogblaaMath5
import Derived.Test.YtnbkmenlaogblaaSeat
import Derived.Test.YtnbkmenlaogblaaCon4
namespace Go.V
open Go.Proofs
set_option linter.unusedVariables false
set_option linter.unusedSimpArgs false
set_option maxRecDepth 100000

def laws_szIntS.vc (A0 : Option Addr) (n0 : Nat) (c0 : Nat) (x1 : Int) (w : World) (K : Value → World → Prop) : Prop :=
  bcase (decide ((IntKind.wrap .i64 (x1 - ((n0 : Nat) : Int))) < 0)) (K (.int .i64 (-1)) w) (K (.int .i64 (IntKind.wrap .i64 (x1 - ((n0 : Nat) : Int)))) w)

def laws_szIntS.ann : Ann := (.seq .l (.seq .l (.seq (.seq .l (.two (.seq .l .l) .l)) (.seq .l .l))))

theorem laws_szIntS.vc_eq (A0 : Option Addr) (n0 : Nat) (c0 : Nat) (x1 : Int) (w : World) (K : Value → World → Prop) : vcF Try.prog Try.f47 laws_szIntS.ann [(.slice A0 n0 c0), (.int .i64 x1)] K w = laws_szIntS.vc A0 n0 c0 x1 w K := by kernel_rfl

theorem laws_szIntS.start {A0 : Option Addr} {n0 : Nat} {c0 : Nat} {x1 : Int} {w : World} {K : Value → World → Prop} (h : laws_szIntS.vc A0 n0 c0 x1 w K) : Cll Try.prog 47 #[(.slice A0 n0 c0), (.int .i64 x1)] w K :=
  vcF_sound mixed (fn := Try.f47) (by kernel_rfl) (by kernel_rfl) (an := laws_szIntS.ann) (args := [(.slice A0 n0 c0), (.int .i64 x1)]) (by rw [laws_szIntS.vc_eq]; exact h)

theorem laws_szIntS.con {xs0 : List Int} {A0 : Option Addr} {c0 : Nat} {x1 : Int} {r : Int} {w : World} (hp : M.laws_szIntS_pre xs0 x1) (hr : r = M.laws_szIntS xs0 x1) (R0 : Row el3 w A0 xs0) (hc0 : xs0.length ≤ c0) :
    Cll Try.prog 47 #[(.slice A0 xs0.length c0), (.int .i64 x1)] w (fun v_ w_ => v_ = (.int .i64 r) ∧ Ext w w_) := by
  have H := wp.laws_szIntS.math xs0 x1 hp
  have hB := Ext.refl w
  refine laws_szIntS.start ?_
  unfold laws_szIntS.vc
  unfold wp.laws_szIntS at H
  refine bcase_mk (fun hc21 => ?_) (fun hc21 => ?_)
  · have H := (bcase_iff.1 H).1 hc21
    obtain rfl := hr.trans H.symm
    exact ⟨rfl, hB⟩
  · have H := (bcase_iff.1 H).2 hc21
    obtain rfl := hr.trans H.symm
    exact ⟨rfl, hB⟩

def laws_markInsS.vc (A0 : Option Addr) (n0 : Nat) (c0 : Nat) (x1 : Int) (w : World) (K : Value → World → Prop) : Prop :=
  LoopT (σ := Int × Int × Unit) (fun z21 w22 next23 => bcase (decide (z21.2.1 < ((n0 : Nat) : Int))) (((0 : Int) ≤ z21.2.1 ∧ z21.2.1 < ((n0 : Nat) : Int) ∧ ∃ a24 : Addr, A0 = some a24 ∧ stCells ((a24.add ((z21.2.1.toNat) * 4)).add 0) [(.int .i64 z21.1)] 0 w22 fun w25 => ((0 : Int) ≤ z21.2.1 ∧ z21.2.1 < ((n0 : Nat) : Int) ∧ ∃ a26 : Addr, A0 = some a26 ∧ stCells ((a26.add ((z21.2.1.toNat) * 4)).add 1) [(.int .i64 (IntKind.wrap .i64 (z21.1 + 1)))] 0 w25 fun w27 => ((0 : Int) ≤ z21.2.1 ∧ z21.2.1 < ((n0 : Nat) : Int) ∧ ∃ a28 : Addr, A0 = some a28 ∧ stCells ((a28.add ((z21.2.1.toNat) * 4)).add 2) [(.int .i64 (IntKind.wrap .i64 ((IntKind.wrap .i64 (z21.1 + 1)) + 1)))] 0 w27 fun w29 => ((0 : Int) ≤ z21.2.1 ∧ z21.2.1 < ((n0 : Nat) : Int) ∧ ∃ a30 : Addr, A0 = some a30 ∧ stCells ((a30.add ((z21.2.1.toNat) * 4)).add 3) [(.int .i64 (IntKind.wrap .i64 ((IntKind.wrap .i64 ((IntKind.wrap .i64 (z21.1 + 1)) + 1)) + 1)))] 0 w29 fun w31 => next23 ((IntKind.wrap .i64 ((IntKind.wrap .i64 ((IntKind.wrap .i64 ((IntKind.wrap .i64 (z21.1 + 1)) + 1)) + 1)) + 1)), (IntKind.wrap .i64 (z21.2.1 + 1)), ()) w31))))) (K (.int .i64 z21.1) w22)) (x1, 0, ()) w

def laws_markInsS.ann : Ann := (.seq .l (.seq (.seq .l (.one (.loop [(1, .int .i64), (5, .int .i64)] (.seq (.seq .l (.two .l .l)) (.seq (.one (.seq .l (.seq .l (.seq .l (.seq .l (.seq .l (.seq .l (.seq .l .l)))))))) .l))))) (.seq .l .l)))

theorem laws_markInsS.vc_eq (A0 : Option Addr) (n0 : Nat) (c0 : Nat) (x1 : Int) (w : World) (K : Value → World → Prop) : vcF Try.prog Try.f67 laws_markInsS.ann [(.slice A0 n0 c0), (.int .i64 x1)] K w = laws_markInsS.vc A0 n0 c0 x1 w K := by kernel_rfl

theorem laws_markInsS.start {A0 : Option Addr} {n0 : Nat} {c0 : Nat} {x1 : Int} {w : World} {K : Value → World → Prop} (h : laws_markInsS.vc A0 n0 c0 x1 w K) : Cll Try.prog 67 #[(.slice A0 n0 c0), (.int .i64 x1)] w K :=
  vcF_sound mixed (fn := Try.f67) (by kernel_rfl) (by kernel_rfl) (an := laws_markInsS.ann) (args := [(.slice A0 n0 c0), (.int .i64 x1)]) (by rw [laws_markInsS.vc_eq]; exact h)

theorem laws_markInsS.con {xs0 : List D.Ins} {A0 : Option Addr} {c0 : Nat} {x1 : Int} {r : Int × (List D.Ins)} {w : World} (hp : M.laws_markInsS_pre xs0 x1) (hr : r = M.laws_markInsS xs0 x1) (O1 : Own el76 w 0 A0 c0 xs0) :
    Cll Try.prog 67 #[(.slice A0 xs0.length c0), (.int .i64 x1)] w (fun v_ w_ => v_ = (.int .i64 r.1) ∧ Own el76 w_ 0 A0 c0 r.2 ∧ r.2.length = xs0.length ∧ Chg (InB A0) w w_) := by
  have H := wp.laws_markInsS.math xs0 x1 hp
  have hB := Chg.refl (InB A0) w
  refine laws_markInsS.start ?_
  unfold laws_markInsS.vc
  unfold wp.laws_markInsS at H
  obtain ⟨J68, ⟨m113, hJ112⟩, hS69⟩ := H
  refine ⟨fun m_ z_ w_ => ∃ (i63 : Int) (i64 : Int) (xs65 : List D.Ins), z_ = (i63, i64, ()) ∧ J68 m_ (i63, i64, xs65, ()) ∧ Chg (InB A0) w w_ ∧ Own el76 w_ 0 A0 c0 xs65 ∧ xs0.length = xs65.length, ⟨m113, x1, 0, xs0, rfl, hJ112, hB, O1, (by first | rfl | assumption | (simp; done) | (simp; omega) | (simp; assumption))⟩, ?_⟩
  rintro m67 _ w71 ⟨i63, i64, xs65, rfl, hJ114, hB, O1, hn66⟩
  have H := hS69 m67 _ hJ114
  clear hS69 hJ114
  dsimp only at H ⊢
  refine bcase_mk (fun hc110 => ?_) (fun hc110 => ?_)
  · have H := (bcase_iff.1 H).1 hc110
    obtain ⟨⟨h0_75, h1_76⟩, H⟩ := H
    obtain ⟨a73, ha74, hat72⟩ := Row.at O1.row h0_75 h1_76
    refine ⟨h0_75, (by first | exact h1_76 | omega | (simp at h1_76 ⊢; omega)), a73, ha74, ?_⟩
    refine Own.storeAt O1 ha74 h0_75 h1_76 0 [(.int .i64 i63)] (⟨i63, (rd xs65 i64).A, (rd xs65 i64).B, (rd xs65 i64).C⟩ : D.Ins) rfl (Nat.le_of_ble_eq_true rfl) rfl (fun w77 P1 e78 hb79 => ?_)
    have hB := hB.chgb e78 (Or.inr ⟨_, ha74, rfl⟩)
    have O1 := P1
    obtain ⟨⟨h0_83, h1_84⟩, H⟩ := H
    obtain ⟨a81, ha82, hat80⟩ := Row.at O1.row h0_83 h1_84
    refine ⟨h0_83, (by first | exact h1_84 | omega | (simp at h1_84 ⊢; omega)), a81, ha82, ?_⟩
    have hrd88 := rd_set h0_83 h1_84
    refine Own.storeAt O1 ha82 h0_83 h1_84 1 [(.int .i64 (IntKind.wrap .i64 (i63 + 1)))] (⟨i63, (IntKind.wrap .i64 (i63 + 1)), (rd xs65 i64).B, (rd xs65 i64).C⟩ : D.Ins) (by rw [hrd88]; rfl) (Nat.le_of_ble_eq_true rfl) rfl (fun w85 P1 e86 hb87 => ?_)
    rw [List.set_set] at P1
    have hB := hB.chgb e86 (Or.inr ⟨_, ha82, rfl⟩)
    have O1 := P1
    obtain ⟨⟨h0_92, h1_93⟩, H⟩ := H
    obtain ⟨a90, ha91, hat89⟩ := Row.at O1.row h0_92 h1_93
    refine ⟨h0_92, (by first | exact h1_93 | omega | (simp at h1_93 ⊢; omega)), a90, ha91, ?_⟩
    have hrd97 := rd_set h0_92 h1_93
    refine Own.storeAt O1 ha91 h0_92 h1_93 2 [(.int .i64 (IntKind.wrap .i64 ((IntKind.wrap .i64 (i63 + 1)) + 1)))] (⟨i63, (IntKind.wrap .i64 (i63 + 1)), (IntKind.wrap .i64 ((IntKind.wrap .i64 (i63 + 1)) + 1)), (rd xs65 i64).C⟩ : D.Ins) (by rw [hrd97]; rfl) (Nat.le_of_ble_eq_true rfl) rfl (fun w94 P1 e95 hb96 => ?_)
    rw [List.set_set] at P1
    have hB := hB.chgb e95 (Or.inr ⟨_, ha91, rfl⟩)
    have O1 := P1
    obtain ⟨⟨h0_101, h1_102⟩, H⟩ := H
    obtain ⟨a99, ha100, hat98⟩ := Row.at O1.row h0_101 h1_102
    refine ⟨h0_101, (by first | exact h1_102 | omega | (simp at h1_102 ⊢; omega)), a99, ha100, ?_⟩
    have hrd106 := rd_set h0_101 h1_102
    refine Own.storeAt O1 ha100 h0_101 h1_102 3 [(.int .i64 (IntKind.wrap .i64 ((IntKind.wrap .i64 ((IntKind.wrap .i64 (i63 + 1)) + 1)) + 1)))] (⟨i63, (IntKind.wrap .i64 (i63 + 1)), (IntKind.wrap .i64 ((IntKind.wrap .i64 (i63 + 1)) + 1)), (IntKind.wrap .i64 ((IntKind.wrap .i64 ((IntKind.wrap .i64 (i63 + 1)) + 1)) + 1))⟩ : D.Ins) (by rw [hrd106]; rfl) (Nat.le_of_ble_eq_true rfl) rfl (fun w103 P1 e104 hb105 => ?_)
    rw [List.set_set] at P1
    have hB := hB.chgb e104 (Or.inr ⟨_, ha100, rfl⟩)
    have O1 := P1
    obtain ⟨m107, hm108, hJ109⟩ := H
    exact ⟨m107, hm108, (IntKind.wrap .i64 ((IntKind.wrap .i64 ((IntKind.wrap .i64 ((IntKind.wrap .i64 (i63 + 1)) + 1)) + 1)) + 1)), (IntKind.wrap .i64 (i64 + 1)), (List.set xs65 (i64.toNat) (⟨i63, (IntKind.wrap .i64 (i63 + 1)), (IntKind.wrap .i64 ((IntKind.wrap .i64 (i63 + 1)) + 1)), (IntKind.wrap .i64 ((IntKind.wrap .i64 ((IntKind.wrap .i64 (i63 + 1)) + 1)) + 1))⟩ : D.Ins)), rfl, hJ109, hB, O1, (by first | rfl | assumption | (simp; done) | (simp; omega) | (simp; assumption))⟩
  · have H := (bcase_iff.1 H).2 hc110
    obtain rfl := hr.trans H.symm
    exact ⟨rfl, O1, (by first | (simp only [List.length_set]; done) | (simp only [List.length_set, ← hn66]; done) | (simp; done) | (simp; omega) | omega), hB⟩

def impl_RunAlone.vc (A0 : Option Addr) (n0 : Nat) (c0 : Nat) (x1 : Int) (w : World) (K : Value → World → Prop) : Prop :=
  newK w (.cells #[(.int .i64 0), (.int .i64 0), (.slice none 0 0)] 57) fun g21 w22 => Cll Try.prog 86 #[(.slice A0 n0 c0), (.int .i64 x1)] w22 fun v23 w24 => (∃ u25 : Value, (∃ (n26 : Int), True ∧ ∃ (n27 : Int), True ∧ ∃ (A28 : Option Addr) (n29 : Nat) (c30 : Nat), True ∧ u25 = (.agg #[(.int .i64 n26), (.int .i64 n27), (.slice A28 n29 c30)]) ∧ ∃ u31 : Value, (∃ (n32 : Int), u31 = (.int .i64 n32) ∧ ∃ u33 : Value, (∃ (b34 : Bool), u33 = (.bool b34) ∧ v23 = (.tuple #[(.agg #[(.int .i64 n26), (.int .i64 n27), (.slice A28 n29 c30)]), (.int .i64 n32), (.bool b34)]) ∧ newK w24 (.cells #[(.int .i64 0), (.int .i64 0), (.slice none 0 0)] 57) fun g35 w36 => stCells (⟨g35, 0, none⟩ : Addr) [(.int .i64 n26), (.int .i64 n27), (.slice A28 n29 c30)] 0 w36 fun w37 => ∃ (n38 : Int), w37.cell? ((⟨g35, 0, none⟩ : Addr).add 0) = some (.int .i64 n38) ∧ ∃ (n39 : Int), w37.cell? ((⟨g35, 0, none⟩ : Addr).add 1) = some (.int .i64 n39) ∧ ∃ (A40 : Option Addr) (n41 : Nat) (c42 : Nat), w37.cell? ((⟨g35, 0, none⟩ : Addr).add 2) = some (.slice A40 n41 c42) ∧ stCells (⟨g21, 0, none⟩ : Addr) [(.int .i64 n38), (.int .i64 n39), (.slice A40 n41 c42)] 0 w37 fun w43 => ∃ (n44 : Int), w43.cell? ((⟨g21, 0, none⟩ : Addr).add 0) = some (.int .i64 n44) ∧ ∃ (n45 : Int), w43.cell? ((⟨g21, 0, none⟩ : Addr).add 1) = some (.int .i64 n45) ∧ ∃ (A46 : Option Addr) (n47 : Nat) (c48 : Nat), w43.cell? ((⟨g21, 0, none⟩ : Addr).add 2) = some (.slice A46 n47 c48) ∧ K (.tuple #[(.agg #[(.int .i64 n44), (.int .i64 n45), (.slice A46 n47 c48)]), (.bool b34)]) w43))))

def impl_RunAlone.ann : Ann := (.seq .l (.seq .l (.seq .l .l)))

theorem impl_RunAlone.vc_eq (A0 : Option Addr) (n0 : Nat) (c0 : Nat) (x1 : Int) (w : World) (K : Value → World → Prop) : vcF Try.prog Try.f38 impl_RunAlone.ann [(.slice A0 n0 c0), (.int .i64 x1)] K w = impl_RunAlone.vc A0 n0 c0 x1 w K := by kernel_rfl

theorem impl_RunAlone.start {A0 : Option Addr} {n0 : Nat} {c0 : Nat} {x1 : Int} {w : World} {K : Value → World → Prop} (h : impl_RunAlone.vc A0 n0 c0 x1 w K) : Cll Try.prog 38 #[(.slice A0 n0 c0), (.int .i64 x1)] w K :=
  vcF_sound mixed (fn := Try.f38) (by kernel_rfl) (by kernel_rfl) (an := impl_RunAlone.ann) (args := [(.slice A0 n0 c0), (.int .i64 x1)]) (by rw [impl_RunAlone.vc_eq]; exact h)

theorem impl_RunAlone.con {xs0 : List D.Ins} {A0 : Option Addr} {c0 : Nat} {x1 : Int} {r : D.Lane × Bool} {w : World} (hp : M.impl_RunAlone_pre xs0 x1) (hr : r = M.impl_RunAlone xs0 x1) (R0 : Row el76 w A0 xs0) (hc0 : xs0.length ≤ c0) :
    Cll Try.prog 38 #[(.slice A0 xs0.length c0), (.int .i64 x1)] w (fun v_ w_ => ∃ (A0_ : Option Addr) (c0_ : Nat), v_ = (.tuple #[(.agg #[(.int .i64 r.1.Thread), (.int .i64 r.1.Pc), (.slice A0_ r.1.Regs.length c0_)]), (.bool r.2)]) ∧ Own el3 w_ w.heap.size A0_ c0_ r.1.Regs ∧ Ext w w_) := by
  have H := wp.impl_RunAlone.math xs0 x1 hp
  have hB := Ext.refl w
  refine impl_RunAlone.start ?_
  unfold impl_RunAlone.vc
  unfold wp.impl_RunAlone at H
  refine newBlk (fun g2_ w21 L2 P2 e22 => ?_)
  have O2 := P2
  have L2 := Nat.le_trans hB.size L2
  have hB := ethen hB e22
  obtain ⟨hp25, H⟩ := H
  obtain ⟨r23, hr24⟩ : ∃ r_, r_ = M.impl_alone xs0 x1 := ⟨_, rfl⟩
  have H := H r23 hr24
  refine (impl_alone.con hp25 hr24 (R0.ext hB) hc0).mono ?_
  rintro _ w26 ⟨A28, c29, rfl, P3, e27⟩
  have N3_2 := P3.apart_old O2.lt
  have O2 := O2.ext e27
  have O3 := P3.mono hB.size
  have hB := ethen hB e27
  refine ⟨(.agg #[(.int .i64 r23.1.Thread), (.int .i64 r23.1.Pc), (.slice A28 r23.1.Regs.length c29)]), ?_⟩
  refine ⟨r23.1.Thread, trivial, ?_⟩
  refine ⟨r23.1.Pc, trivial, ?_⟩
  refine ⟨A28, r23.1.Regs.length, c29, trivial, ?_⟩
  refine ⟨rfl, ?_⟩
  refine ⟨(.int .i64 r23.2.1), ?_⟩
  refine ⟨r23.2.1, rfl, ?_⟩
  refine ⟨(.bool r23.2.2), ?_⟩
  refine ⟨r23.2.2, rfl, ?_⟩
  refine ⟨rfl, ?_⟩
  refine newBlk (fun g4_ w30 L4 P4 e31 => ?_)
  have N2_4 := O2.ne L4
  have N3_4 := O3.apart_new L4
  have O2 := O2.ext e31
  have O3 := O3.ext e31
  have O4 := P4
  have L4 := Nat.le_trans hB.size L4
  have hB := ethen hB e31
  refine stBlk O4 (o := 0) (cs' := #[(.int .i64 r23.1.Thread), (.int .i64 r23.1.Pc), (.slice A28 r23.1.Regs.length c29)]) rfl rfl (Nat.le_of_ble_eq_true rfl) rfl (fun w32 P4 e33 => ?_)
  have O2_ := O2.chg e33 N2_4
  have O3_ := O3.chg e33 N3_4
  have O2 := O2_
  have O3 := O3_
  have hB := echg hB e33 L4
  have O4 := P4
  refine ⟨_, (O4.at 0 rfl rfl), ?_⟩
  refine ⟨_, (O4.at 1 rfl rfl), ?_⟩
  refine ⟨_, _, _, (O4.at 2 rfl rfl), ?_⟩
  refine stBlk O2 (o := 0) (cs' := #[(.int .i64 r23.1.Thread), (.int .i64 r23.1.Pc), (.slice A28 r23.1.Regs.length c29)]) rfl rfl (Nat.le_of_ble_eq_true rfl) rfl (fun w34 P2 e35 => ?_)
  have O3_ := O3.chg e35 N3_2
  have O4_ := O4.chg e35 (N2_4).symm
  have O3 := O3_
  have O4 := O4_
  have hB := echg hB e35 L2
  have O2 := P2
  refine ⟨_, (O2.at 0 rfl rfl), ?_⟩
  refine ⟨_, (O2.at 1 rfl rfl), ?_⟩
  refine ⟨_, _, _, (O2.at 2 rfl rfl), ?_⟩
  obtain rfl := hr.trans H.symm
  exact ⟨A28, c29, rfl, O3, hB⟩

end Go.V
