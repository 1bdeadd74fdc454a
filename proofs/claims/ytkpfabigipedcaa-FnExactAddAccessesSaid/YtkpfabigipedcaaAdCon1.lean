import Derived.Test.YtkpfabigipedcaaAdMath1
import Derived.Test.YtkpfabigipedcaaSeat
import Derived.Test.YtkpfabigipedcaaVFoc
namespace Go.V
open Go.Proofs
set_option linter.unusedVariables false
set_option linter.unusedSimpArgs false
set_option maxRecDepth 100000
def laws_toAccess.vc (x0_0 : Int) (x0_1 : Int) (x0_2 : Int) (x0_3 : Int) (w : World) (K : Value → World → Prop) : Prop :=
  newK w (.cells #[(.int .i64 x0_0), (.int .i64 x0_1), (.int .i64 x0_2), (.int .i64 x0_3)] 47) fun g21 w22 => newK w22 (.cells #[(.int .i64 0), (.int .i64 0), (.int .i64 0), (.int .i64 0)] 45) fun g23 w24 => newK w24 (.cells #[(.int .i64 0), (.int .i64 0), (.int .i64 0), (.int .i64 0)] 45) fun g25 w26 => ∃ (n27 : Int), w26.cell? (((⟨g21, 0, none⟩ : Addr).add 0).add 0) = some (.int .i64 n27) ∧ stCells ((⟨g25, 0, none⟩ : Addr).add 0) [(.int .i64 n27)] 0 w26 fun w28 => ∃ (n29 : Int), w28.cell? (((⟨g21, 0, none⟩ : Addr).add 1).add 0) = some (.int .i64 n29) ∧ stCells ((⟨g25, 0, none⟩ : Addr).add 1) [(.int .i64 n29)] 0 w28 fun w30 => ∃ (n31 : Int), w30.cell? (((⟨g21, 0, none⟩ : Addr).add 2).add 0) = some (.int .i64 n31) ∧ stCells ((⟨g25, 0, none⟩ : Addr).add 2) [(.int .i64 n31)] 0 w30 fun w32 => ∃ (n33 : Int), w32.cell? (((⟨g21, 0, none⟩ : Addr).add 3).add 0) = some (.int .i64 n33) ∧ stCells ((⟨g25, 0, none⟩ : Addr).add 3) [(.int .i64 n33)] 0 w32 fun w34 => ∃ (n35 : Int), w34.cell? ((⟨g25, 0, none⟩ : Addr).add 0) = some (.int .i64 n35) ∧ ∃ (n36 : Int), w34.cell? ((⟨g25, 0, none⟩ : Addr).add 1) = some (.int .i64 n36) ∧ ∃ (n37 : Int), w34.cell? ((⟨g25, 0, none⟩ : Addr).add 2) = some (.int .i64 n37) ∧ ∃ (n38 : Int), w34.cell? ((⟨g25, 0, none⟩ : Addr).add 3) = some (.int .i64 n38) ∧ stCells (⟨g23, 0, none⟩ : Addr) [(.int .i64 n35), (.int .i64 n36), (.int .i64 n37), (.int .i64 n38)] 0 w34 fun w39 => ∃ (n40 : Int), w39.cell? ((⟨g23, 0, none⟩ : Addr).add 0) = some (.int .i64 n40) ∧ ∃ (n41 : Int), w39.cell? ((⟨g23, 0, none⟩ : Addr).add 1) = some (.int .i64 n41) ∧ ∃ (n42 : Int), w39.cell? ((⟨g23, 0, none⟩ : Addr).add 2) = some (.int .i64 n42) ∧ ∃ (n43 : Int), w39.cell? ((⟨g23, 0, none⟩ : Addr).add 3) = some (.int .i64 n43) ∧ K (.agg #[(.int .i64 n40), (.int .i64 n41), (.int .i64 n42), (.int .i64 n43)]) w39

def laws_toAccess.ann : Ann := (.seq .l (.seq .l (.seq .l (.seq .l (.seq .l (.seq .l (.seq .l .l)))))))

theorem laws_toAccess.con {s0 : D.Access} {r : D.Access} {w : World} (hr : r = M.laws_toAccess s0)  :
    Cll Try.prog 22 #[(.agg #[(.int .i64 s0.Phase), (.int .i64 s0.Warp), (.int .i64 s0.Address), (.int .i64 s0.Kind)])] w (fun v_ w_ => v_ = (.agg #[(.int .i64 r.Phase), (.int .i64 r.Warp), (.int .i64 r.Address), (.int .i64 r.Kind)]) ∧ Ext w w_) := by
  have H := wp.laws_toAccess.math s0
  have hB := Ext.refl w
  refine beginF mixed (fn := Try.f22) (by kernel_rfl) (by kernel_rfl) (an := laws_toAccess.ann) (V := laws_toAccess.vc s0.Phase s0.Warp s0.Address s0.Kind) (by kernel_rfl) ?_
  unfold laws_toAccess.vc
  unfold wp.laws_toAccess at H
  refine newBlk (fun g1_ w21 L1 P1 e22 => ?_)
  have O1 := P1
  have L1 := Nat.le_trans hB.size L1
  have hB := ethen hB e22
  refine newBlk (fun g2_ w23 L2 P2 e24 => ?_)
  have N1_2 := O1.ne L2
  have O1 := O1.ext e24
  have O2 := P2
  have L2 := Nat.le_trans hB.size L2
  have hB := ethen hB e24
  refine newBlk (fun g3_ w25 L3 P3 e26 => ?_)
  have N1_3 := O1.ne L3
  have N2_3 := O2.ne L3
  have O1 := O1.ext e26
  have O2 := O2.ext e26
  have O3 := P3
  have L3 := Nat.le_trans hB.size L3
  have hB := ethen hB e26
  refine ⟨_, (O1.at 0 rfl rfl), ?_⟩
  refine stBlk O3 (o := 0) (cs' := #[(.int .i64 s0.Phase), (.int .i64 0), (.int .i64 0), (.int .i64 0)]) rfl rfl (Nat.le_of_ble_eq_true rfl) rfl (fun w27 P3 e28 => ?_)
  have O1_ := O1.chg e28 N1_3
  have O2_ := O2.chg e28 N2_3
  have O1 := O1_
  have O2 := O2_
  have hB := echg hB e28 L3
  have O3 := P3
  refine ⟨_, (O1.at 1 rfl rfl), ?_⟩
  refine stBlk O3 (o := 1) (cs' := #[(.int .i64 s0.Phase), (.int .i64 s0.Warp), (.int .i64 0), (.int .i64 0)]) rfl rfl (Nat.le_of_ble_eq_true rfl) rfl (fun w29 P3 e30 => ?_)
  have O1_ := O1.chg e30 N1_3
  have O2_ := O2.chg e30 N2_3
  have O1 := O1_
  have O2 := O2_
  have hB := echg hB e30 L3
  have O3 := P3
  refine ⟨_, (O1.at 2 rfl rfl), ?_⟩
  refine stBlk O3 (o := 2) (cs' := #[(.int .i64 s0.Phase), (.int .i64 s0.Warp), (.int .i64 s0.Address), (.int .i64 0)]) rfl rfl (Nat.le_of_ble_eq_true rfl) rfl (fun w31 P3 e32 => ?_)
  have O1_ := O1.chg e32 N1_3
  have O2_ := O2.chg e32 N2_3
  have O1 := O1_
  have O2 := O2_
  have hB := echg hB e32 L3
  have O3 := P3
  refine ⟨_, (O1.at 3 rfl rfl), ?_⟩
  refine stBlk O3 (o := 3) (cs' := #[(.int .i64 s0.Phase), (.int .i64 s0.Warp), (.int .i64 s0.Address), (.int .i64 s0.Kind)]) rfl rfl (Nat.le_of_ble_eq_true rfl) rfl (fun w33 P3 e34 => ?_)
  have O1_ := O1.chg e34 N1_3
  have O2_ := O2.chg e34 N2_3
  have O1 := O1_
  have O2 := O2_
  have hB := echg hB e34 L3
  have O3 := P3
  refine ⟨_, (O3.at 0 rfl rfl), _, (O3.at 1 rfl rfl), _, (O3.at 2 rfl rfl), _, (O3.at 3 rfl rfl), ?_⟩
  refine stBlk O2 (o := 0) (cs' := #[(.int .i64 s0.Phase), (.int .i64 s0.Warp), (.int .i64 s0.Address), (.int .i64 s0.Kind)]) rfl rfl (Nat.le_of_ble_eq_true rfl) rfl (fun w35 P2 e36 => ?_)
  have O3_ := O3.chg e36 (N2_3).symm
  have O3 := O3_
  have hB := echg hB e36 L2
  have O2 := P2
  refine ⟨_, (O2.at 0 rfl rfl), _, (O2.at 1 rfl rfl), _, (O2.at 2 rfl rfl), _, (O2.at 3 rfl rfl), ?_⟩
  obtain rfl := hr.trans H.symm
  exact ⟨rfl, hB⟩
def laws_szAccessS.vc (A0 : Option Addr) (n0 : Nat) (c0 : Nat) (x1 : Int) (w : World) (K : Value → World → Prop) : Prop :=
  bcase (decide ((IntKind.wrap .i64 (x1 - ((n0 : Nat) : Int))) < 0)) (K (.int .i64 (-1)) w) (K (.int .i64 (IntKind.wrap .i64 (x1 - ((n0 : Nat) : Int)))) w)

def laws_szAccessS.ann : Ann := (.seq .l (.seq .l (.seq (.seq .l (.two (.seq .l .l) .l)) (.seq .l .l))))

theorem laws_szAccessS.con {xs0 : List D.Access} {A0 : Option Addr} {c0 : Nat} {x1 : Int} {r : Int} {w : World} (hp : M.laws_szAccessS_pre xs0 x1) (hr : r = M.laws_szAccessS xs0 x1) (R0 : Row el47 w A0 xs0) (hc0 : xs0.length ≤ c0) :
    Cll Try.prog 6 #[(.slice A0 xs0.length c0), (.int .i64 x1)] w (fun v_ w_ => v_ = (.int .i64 r) ∧ Ext w w_) := by
  have H := wp.laws_szAccessS.math xs0 x1 hp
  have hB := Ext.refl w
  refine beginF mixed (fn := Try.f6) (by kernel_rfl) (by kernel_rfl) (an := laws_szAccessS.ann) (V := laws_szAccessS.vc A0 xs0.length c0 x1) (by kernel_rfl) ?_
  unfold laws_szAccessS.vc
  unfold wp.laws_szAccessS at H
  refine brc H (fun hc21 H => ?_) (fun hc21 H => ?_)
  ·obtain rfl := hr.trans H.symm
   exact ⟨rfl, hB⟩
  obtain rfl := hr.trans H.symm
  exact ⟨rfl, hB⟩
def laws_toAccessS.vc (A0 : Option Addr) (n0 : Nat) (c0 : Nat) (w : World) (K : Value → World → Prop) : Prop :=
  vcMake Try.prog 24 ((n0 : Nat) : Int) ((n0 : Nat) : Int) w fun g21 w22 => LoopT (σ := Int × Unit) (fun z23 w24 next25 => bcase (decide (z23.1 < ((n0 : Nat) : Int))) (((0 : Int) ≤ z23.1 ∧ z23.1 < ((n0 : Nat) : Int) ∧ ∃ a26 : Addr, A0 = some a26 ∧ ∃ (n27 : Int), w24.cell? ((a26.add ((z23.1.toNat) * 4)).add 0) = some (.int .i64 n27) ∧ ∃ (n28 : Int), w24.cell? ((a26.add ((z23.1.toNat) * 4)).add 1) = some (.int .i64 n28) ∧ ∃ (n29 : Int), w24.cell? ((a26.add ((z23.1.toNat) * 4)).add 2) = some (.int .i64 n29) ∧ ∃ (n30 : Int), w24.cell? ((a26.add ((z23.1.toNat) * 4)).add 3) = some (.int .i64 n30) ∧ Cll Try.prog 22 #[(.agg #[(.int .i64 n27), (.int .i64 n28), (.int .i64 n29), (.int .i64 n30)])] w24 fun v31 w32 => (∃ (n33 : Int), True ∧ ∃ (n34 : Int), True ∧ ∃ (n35 : Int), True ∧ ∃ (n36 : Int), True ∧ v31 = (.agg #[(.int .i64 n33), (.int .i64 n34), (.int .i64 n35), (.int .i64 n36)]) ∧ ((0 : Int) ≤ z23.1 ∧ z23.1 < (((((n0 : Nat) : Int).toNat) : Nat) : Int) ∧ ∃ a37 : Addr, (some (⟨g21, 0, none⟩ : Addr)) = some a37 ∧ stCells (a37.add ((z23.1.toNat) * 4)) [(.int .i64 n33), (.int .i64 n34), (.int .i64 n35), (.int .i64 n36)] 0 w32 fun w38 => next25 ((IntKind.wrap .i64 (z23.1 + 1)), ()) w38)))) (K (.slice (some (⟨g21, 0, none⟩ : Addr)) (((n0 : Nat) : Int).toNat) (((n0 : Nat) : Int).toNat)) w24)) (0, ()) w22

def laws_toAccessS.ann : Ann := (.seq .l (.seq .l (.seq (.seq .l (.one (.loop [(4, .int .i64)] (.seq (.seq .l (.two .l .l)) (.seq (.one .l) .l))))) (.seq .l .l))))

theorem laws_toAccessS.con {xs0 : List D.Access} {A0 : Option Addr} {c0 : Nat} {r : List D.Access} {w : World} (hp : M.laws_toAccessS_pre xs0) (hr : r = M.laws_toAccessS xs0) (R0 : Row el47 w A0 xs0) (hc0 : xs0.length ≤ c0) :
    Cll Try.prog 8 #[(.slice A0 xs0.length c0)] w (fun v_ w_ => ∃ (A0_ : Option Addr) (c0_ : Nat), v_ = (.slice A0_ r.length c0_) ∧ Own el45 w_ w.heap.size A0_ c0_ r ∧ Ext w w_) := by
  have H := wp.laws_toAccessS.math xs0 hp
  have hB := Ext.refl w
  refine beginF mixed (fn := Try.f8) (by kernel_rfl) (by kernel_rfl) (an := laws_toAccessS.ann) (V := laws_toAccessS.vc A0 xs0.length c0) (by kernel_rfl) ?_
  unfold laws_toAccessS.vc
  unfold wp.laws_toAccessS at H
  obtain ⟨⟨h0_24, h1_25⟩, H⟩ := H
  refine makeOwn slt24 h0_24 h1_25 (fun g21 w22 P2 e23 => ?_)
  have O2 := P2.mono hB.size
  have hB := ethen hB e23
  obtain ⟨J54, ⟨m82, hJ81⟩, hS55⟩ := H
  refine ⟨fun m_ z_ w_ => ∃ (i50 : Int) (xs51 : List D.Access), z_ = (i50, ()) ∧ J54 m_ (i50, xs51, ()) ∧ Ext w w_ ∧ Own el45 w_ w.heap.size (some (⟨g21, 0, none⟩ : Addr)) (((xs0.length : Nat) : Int).toNat) xs51 ∧ (((xs0.length : Nat) : Int).toNat) = xs51.length, ⟨m82, 0, (List.replicate (((xs0.length : Nat) : Int).toNat) (default : D.Access)), rfl, hJ81, hB, O2, (by first | rfl | assumption | omega | (simp; done) | (simp; omega) | (simp; assumption))⟩, ?_⟩
  rintro m53 _ w57 ⟨i50, xs51, rfl, hJ83, hB, O2, hn52⟩
  have H := hS55 m53 _ hJ83
  clear hS55 hJ83
  try dsimp only at H ⊢
  refine brc H (fun hc79 H => ?_) (fun hc79 H => ?_)
  ·obtain ⟨⟨h0_61, h1_62⟩, H⟩ := H
   obtain ⟨a59, ha60, hat58⟩ := Row.at (R0.ext hB) h0_61 h1_62
   refine ⟨h0_61, h1_62, a59, ha60, _, (hat58 0 _ rfl), _, (hat58 1 _ rfl), _, (hat58 2 _ rfl), _, (hat58 3 _ rfl), ?_⟩
   obtain ⟨r63, hr64, H⟩ := callO H
   refine (laws_toAccess.con hr64 ).mono ?_
   rintro _ w66 ⟨rfl, e67⟩
   have O2 := O2.ext e67
   have hB := ethen hB e67
   refine ⟨r63.Phase, trivial, r63.Warp, trivial, r63.Address, trivial, r63.Kind, trivial, rfl, ?_⟩
   obtain ⟨⟨h0_71, h1_72⟩, H⟩ := H
   obtain ⟨a69, ha70, hat68⟩ := Row.at O2.row h0_71 h1_72
   refine ⟨h0_71, (by first | exact h1_72 | omega | (simp at h1_72 ⊢; omega)), a69, ha70, ?_⟩
   refine Own.storeAt O2 ha70 h0_71 h1_72 0 [(.int .i64 r63.Phase), (.int .i64 r63.Warp), (.int .i64 r63.Address), (.int .i64 r63.Kind)] (⟨r63.Phase, r63.Warp, r63.Address, r63.Kind⟩ : D.Access) rfl (Nat.le_of_ble_eq_true rfl) rfl (fun w73 P2 e74 hb75 => ?_)
   have hB := echg hB e74 hb75
   have O2 := P2
   obtain ⟨m76, hm77, hJ78⟩ := H
   exact ⟨m76, hm77, (IntKind.wrap .i64 (i50 + 1)), (List.set xs51 (i50.toNat) (⟨r63.Phase, r63.Warp, r63.Address, r63.Kind⟩ : D.Access)), rfl, hJ78, hB, O2, (by first | rfl | assumption | omega | (simp; done) | (simp; omega) | (simp; assumption))⟩
  obtain rfl := hr.trans H.symm
  exact ⟨(some (⟨g21, 0, none⟩ : Addr)), (((xs0.length : Nat) : Int).toNat), (by first | rfl | (rw [hn52]; done) | (simp; done) | (simp; omega) | (simp [*]; done)), (by first | exact O2 | (simp only [List.length_set]; exact O2) | (rw [← hn52]; exact O2)), hB⟩
def laws_markAccessS.vc (A0 : Option Addr) (n0 : Nat) (c0 : Nat) (x1 : Int) (w : World) (K : Value → World → Prop) : Prop :=
  LoopT (σ := Int × Int × Unit) (fun z21 w22 next23 => bcase (decide (z21.2.1 < ((n0 : Nat) : Int))) (((0 : Int) ≤ z21.2.1 ∧ z21.2.1 < ((n0 : Nat) : Int) ∧ ∃ a24 : Addr, A0 = some a24 ∧ stCells ((a24.add ((z21.2.1.toNat) * 4)).add 0) [(.int .i64 z21.1)] 0 w22 fun w25 => ((0 : Int) ≤ z21.2.1 ∧ z21.2.1 < ((n0 : Nat) : Int) ∧ ∃ a26 : Addr, A0 = some a26 ∧ stCells ((a26.add ((z21.2.1.toNat) * 4)).add 1) [(.int .i64 (IntKind.wrap .i64 (z21.1 + 1)))] 0 w25 fun w27 => ((0 : Int) ≤ z21.2.1 ∧ z21.2.1 < ((n0 : Nat) : Int) ∧ ∃ a28 : Addr, A0 = some a28 ∧ stCells ((a28.add ((z21.2.1.toNat) * 4)).add 2) [(.int .i64 (IntKind.wrap .i64 ((IntKind.wrap .i64 (z21.1 + 1)) + 1)))] 0 w27 fun w29 => ((0 : Int) ≤ z21.2.1 ∧ z21.2.1 < ((n0 : Nat) : Int) ∧ ∃ a30 : Addr, A0 = some a30 ∧ stCells ((a30.add ((z21.2.1.toNat) * 4)).add 3) [(.int .i64 (IntKind.wrap .i64 ((IntKind.wrap .i64 ((IntKind.wrap .i64 (z21.1 + 1)) + 1)) + 1)))] 0 w29 fun w31 => next23 ((IntKind.wrap .i64 ((IntKind.wrap .i64 ((IntKind.wrap .i64 ((IntKind.wrap .i64 (z21.1 + 1)) + 1)) + 1)) + 1)), (IntKind.wrap .i64 (z21.2.1 + 1)), ()) w31))))) (K (.int .i64 z21.1) w22)) (x1, 0, ()) w

def laws_markAccessS.ann : Ann := (.seq .l (.seq (.seq .l (.one (.loop [(1, .int .i64), (5, .int .i64)] (.seq (.seq .l (.two .l .l)) (.seq (.one (.seq .l (.seq .l (.seq .l (.seq .l (.seq .l (.seq .l (.seq .l .l)))))))) .l))))) (.seq .l .l)))

theorem laws_markAccessS.con {xs0 : List D.Access} {A0 : Option Addr} {c0 : Nat} {x1 : Int} {r : Int × (List D.Access)} {w : World} (hp : M.laws_markAccessS_pre xs0 x1) (hr : r = M.laws_markAccessS xs0 x1) (O1 : Own el45 w 0 A0 c0 xs0) :
    Cll Try.prog 11 #[(.slice A0 xs0.length c0), (.int .i64 x1)] w (fun v_ w_ => v_ = (.int .i64 r.1) ∧ Own el45 w_ 0 A0 c0 r.2 ∧ r.2.length = xs0.length ∧ Chg (InB A0) w w_) := by
  have H := wp.laws_markAccessS.math xs0 x1 hp
  have hB := Chg.refl (InB A0) w
  refine beginF mixed (fn := Try.f11) (by kernel_rfl) (by kernel_rfl) (an := laws_markAccessS.ann) (V := laws_markAccessS.vc A0 xs0.length c0 x1) (by kernel_rfl) ?_
  unfold laws_markAccessS.vc
  unfold wp.laws_markAccessS at H
  obtain ⟨J68, ⟨m113, hJ112⟩, hS69⟩ := H
  refine ⟨fun m_ z_ w_ => ∃ (i63 : Int) (i64 : Int) (xs65 : List D.Access), z_ = (i63, i64, ()) ∧ J68 m_ (i63, i64, xs65, ()) ∧ Chg (InB A0) w w_ ∧ Own el45 w_ 0 A0 c0 xs65 ∧ xs0.length = xs65.length, ⟨m113, x1, 0, xs0, rfl, hJ112, hB, O1, (by first | rfl | assumption | omega | (simp; done) | (simp; omega) | (simp; assumption))⟩, ?_⟩
  rintro m67 _ w71 ⟨i63, i64, xs65, rfl, hJ114, hB, O1, hn66⟩
  have H := hS69 m67 _ hJ114
  clear hS69 hJ114
  try dsimp only at H ⊢
  refine brc H (fun hc110 H => ?_) (fun hc110 H => ?_)
  ·obtain ⟨⟨h0_75, h1_76⟩, H⟩ := H
   obtain ⟨a73, ha74, hat72⟩ := Row.at O1.row h0_75 h1_76
   refine ⟨h0_75, (by first | exact h1_76 | omega | (simp at h1_76 ⊢; omega)), a73, ha74, ?_⟩
   refine Own.storeAt O1 ha74 h0_75 h1_76 0 [(.int .i64 i63)] (⟨i63, (rd xs65 i64).Warp, (rd xs65 i64).Address, (rd xs65 i64).Kind⟩ : D.Access) rfl (Nat.le_of_ble_eq_true rfl) rfl (fun w77 P1 e78 hb79 => ?_)
   have hB := hB.chgb e78 (Or.inr ⟨_, ha74, rfl⟩)
   have O1 := P1
   obtain ⟨⟨h0_83, h1_84⟩, H⟩ := H
   obtain ⟨a81, ha82, hat80⟩ := Row.at O1.row h0_83 h1_84
   refine ⟨h0_83, (by first | exact h1_84 | omega | (simp at h1_84 ⊢; omega)), a81, ha82, ?_⟩
   have hrd88 := rd_set h0_83 h1_84
   refine Own.storeAt O1 ha82 h0_83 h1_84 1 [(.int .i64 (IntKind.wrap .i64 (i63 + 1)))] (⟨i63, (IntKind.wrap .i64 (i63 + 1)), (rd xs65 i64).Address, (rd xs65 i64).Kind⟩ : D.Access) (by rw [hrd88]; rfl) (Nat.le_of_ble_eq_true rfl) rfl (fun w85 P1 e86 hb87 => ?_)
   rw [List.set_set] at P1
   have hB := hB.chgb e86 (Or.inr ⟨_, ha82, rfl⟩)
   have O1 := P1
   obtain ⟨⟨h0_92, h1_93⟩, H⟩ := H
   obtain ⟨a90, ha91, hat89⟩ := Row.at O1.row h0_92 h1_93
   refine ⟨h0_92, (by first | exact h1_93 | omega | (simp at h1_93 ⊢; omega)), a90, ha91, ?_⟩
   have hrd97 := rd_set h0_92 h1_93
   refine Own.storeAt O1 ha91 h0_92 h1_93 2 [(.int .i64 (IntKind.wrap .i64 ((IntKind.wrap .i64 (i63 + 1)) + 1)))] (⟨i63, (IntKind.wrap .i64 (i63 + 1)), (IntKind.wrap .i64 ((IntKind.wrap .i64 (i63 + 1)) + 1)), (rd xs65 i64).Kind⟩ : D.Access) (by rw [hrd97]; rfl) (Nat.le_of_ble_eq_true rfl) rfl (fun w94 P1 e95 hb96 => ?_)
   rw [List.set_set] at P1
   have hB := hB.chgb e95 (Or.inr ⟨_, ha91, rfl⟩)
   have O1 := P1
   obtain ⟨⟨h0_101, h1_102⟩, H⟩ := H
   obtain ⟨a99, ha100, hat98⟩ := Row.at O1.row h0_101 h1_102
   refine ⟨h0_101, (by first | exact h1_102 | omega | (simp at h1_102 ⊢; omega)), a99, ha100, ?_⟩
   have hrd106 := rd_set h0_101 h1_102
   refine Own.storeAt O1 ha100 h0_101 h1_102 3 [(.int .i64 (IntKind.wrap .i64 ((IntKind.wrap .i64 ((IntKind.wrap .i64 (i63 + 1)) + 1)) + 1)))] (⟨i63, (IntKind.wrap .i64 (i63 + 1)), (IntKind.wrap .i64 ((IntKind.wrap .i64 (i63 + 1)) + 1)), (IntKind.wrap .i64 ((IntKind.wrap .i64 ((IntKind.wrap .i64 (i63 + 1)) + 1)) + 1))⟩ : D.Access) (by rw [hrd106]; rfl) (Nat.le_of_ble_eq_true rfl) rfl (fun w103 P1 e104 hb105 => ?_)
   rw [List.set_set] at P1
   have hB := hB.chgb e104 (Or.inr ⟨_, ha100, rfl⟩)
   have O1 := P1
   obtain ⟨m107, hm108, hJ109⟩ := H
   exact ⟨m107, hm108, (IntKind.wrap .i64 ((IntKind.wrap .i64 ((IntKind.wrap .i64 ((IntKind.wrap .i64 (i63 + 1)) + 1)) + 1)) + 1)), (IntKind.wrap .i64 (i64 + 1)), (List.set xs65 (i64.toNat) (⟨i63, (IntKind.wrap .i64 (i63 + 1)), (IntKind.wrap .i64 ((IntKind.wrap .i64 (i63 + 1)) + 1)), (IntKind.wrap .i64 ((IntKind.wrap .i64 ((IntKind.wrap .i64 (i63 + 1)) + 1)) + 1))⟩ : D.Access)), rfl, hJ109, hB, O1, (by first | rfl | assumption | omega | (simp; done) | (simp; omega) | (simp; assumption))⟩
  obtain rfl := hr.trans H.symm
  exact ⟨rfl, O1, (by first | (simp only [List.length_set]; done) | (simp only [List.length_set, ← hn66]; done) | (simp; done) | (simp; omega) | omega), hB⟩
def laws_heldAccessS.vc (A0 : Option Addr) (n0 : Nat) (c0 : Nat) (x1 : Int) (w : World) (K : Value → World → Prop) : Prop :=
  LoopT (σ := Int × Int × Unit) (fun z21 w22 next23 => bcase (decide (z21.2.1 < ((n0 : Nat) : Int))) (((0 : Int) ≤ z21.2.1 ∧ z21.2.1 < ((n0 : Nat) : Int) ∧ ∃ a24 : Addr, A0 = some a24 ∧ ∃ (n25 : Int), w22.cell? (((a24.add ((z21.2.1.toNat) * 4)).add 0).add 0) = some (.int .i64 n25) ∧ bcase (n25 != z21.1) (K (.int .i64 (-1)) w22) (((0 : Int) ≤ z21.2.1 ∧ z21.2.1 < ((n0 : Nat) : Int) ∧ ∃ a26 : Addr, A0 = some a26 ∧ ∃ (n27 : Int), w22.cell? (((a26.add ((z21.2.1.toNat) * 4)).add 1).add 0) = some (.int .i64 n27) ∧ bcase (n27 != (IntKind.wrap .i64 (z21.1 + 1))) (K (.int .i64 (-1)) w22) (((0 : Int) ≤ z21.2.1 ∧ z21.2.1 < ((n0 : Nat) : Int) ∧ ∃ a28 : Addr, A0 = some a28 ∧ ∃ (n29 : Int), w22.cell? (((a28.add ((z21.2.1.toNat) * 4)).add 2).add 0) = some (.int .i64 n29) ∧ bcase (n29 != (IntKind.wrap .i64 ((IntKind.wrap .i64 (z21.1 + 1)) + 1))) (K (.int .i64 (-1)) w22) (((0 : Int) ≤ z21.2.1 ∧ z21.2.1 < ((n0 : Nat) : Int) ∧ ∃ a30 : Addr, A0 = some a30 ∧ ∃ (n31 : Int), w22.cell? (((a30.add ((z21.2.1.toNat) * 4)).add 3).add 0) = some (.int .i64 n31) ∧ bcase (n31 != (IntKind.wrap .i64 ((IntKind.wrap .i64 ((IntKind.wrap .i64 (z21.1 + 1)) + 1)) + 1))) (K (.int .i64 (-1)) w22) (next23 ((IntKind.wrap .i64 ((IntKind.wrap .i64 ((IntKind.wrap .i64 ((IntKind.wrap .i64 (z21.1 + 1)) + 1)) + 1)) + 1)), (IntKind.wrap .i64 (z21.2.1 + 1)), ()) w22))))))))) (K (.int .i64 z21.1) w22)) (x1, 0, ()) w

def laws_heldAccessS.ann : Ann := (.seq .l (.seq (.seq .l (.one (.loop [(1, .int .i64), (5, .int .i64)] (.seq (.seq .l (.two .l .l)) (.seq (.one (.seq (.seq .l (.two (.seq .l .l) .l)) (.seq .l (.seq (.seq .l (.two (.seq .l .l) .l)) (.seq .l (.seq (.seq .l (.two (.seq .l .l) .l)) (.seq .l (.seq (.seq .l (.two (.seq .l .l) .l)) .l)))))))) .l))))) (.seq .l .l)))

theorem laws_heldAccessS.con {xs0 : List D.Access} {A0 : Option Addr} {c0 : Nat} {x1 : Int} {r : Int} {w : World} (hp : M.laws_heldAccessS_pre xs0 x1) (hr : r = M.laws_heldAccessS xs0 x1) (R0 : Row el45 w A0 xs0) (hc0 : xs0.length ≤ c0) :
    Cll Try.prog 12 #[(.slice A0 xs0.length c0), (.int .i64 x1)] w (fun v_ w_ => v_ = (.int .i64 r) ∧ Ext w w_) := by
  have H := wp.laws_heldAccessS.math xs0 x1 hp
  have hB := Ext.refl w
  refine beginF mixed (fn := Try.f12) (by kernel_rfl) (by kernel_rfl) (an := laws_heldAccessS.ann) (V := laws_heldAccessS.vc A0 xs0.length c0 x1) (by kernel_rfl) ?_
  unfold laws_heldAccessS.vc
  unfold wp.laws_heldAccessS at H
  obtain ⟨J24, ⟨m58, hJ57⟩, hS25⟩ := H
  refine ⟨fun m_ z_ w_ => ∃ (i21 : Int) (i22 : Int), z_ = (i21, i22, ()) ∧ J24 m_ (i21, i22, ()) ∧ Ext w w_, ⟨m58, x1, 0, rfl, hJ57, hB⟩, ?_⟩
  rintro m23 _ w27 ⟨i21, i22, rfl, hJ59, hB⟩
  have H := hS25 m23 _ hJ59
  clear hS25 hJ59
  try dsimp only at H ⊢
  refine brc H (fun hc55 H => ?_) (fun hc55 H => ?_)
  ·obtain ⟨⟨h0_31, h1_32⟩, H⟩ := H
   obtain ⟨a29, ha30, hat28⟩ := Row.at (R0.ext hB) h0_31 h1_32
   refine ⟨h0_31, h1_32, a29, ha30, _, (hat28 0 _ rfl), ?_⟩
   refine brc H (fun hc54 H => ?_) (fun hc54 H => ?_)
   ·obtain rfl := hr.trans H.symm
    exact ⟨rfl, hB⟩
   obtain ⟨⟨h0_36, h1_37⟩, H⟩ := H
   obtain ⟨a34, ha35, hat33⟩ := Row.at (R0.ext hB) h0_36 h1_37
   refine ⟨h0_36, h1_37, a34, ha35, _, (hat33 1 _ rfl), ?_⟩
   refine brc H (fun hc53 H => ?_) (fun hc53 H => ?_)
   ·obtain rfl := hr.trans H.symm
    exact ⟨rfl, hB⟩
   obtain ⟨⟨h0_41, h1_42⟩, H⟩ := H
   obtain ⟨a39, ha40, hat38⟩ := Row.at (R0.ext hB) h0_41 h1_42
   refine ⟨h0_41, h1_42, a39, ha40, _, (hat38 2 _ rfl), ?_⟩
   refine brc H (fun hc52 H => ?_) (fun hc52 H => ?_)
   ·obtain rfl := hr.trans H.symm
    exact ⟨rfl, hB⟩
   obtain ⟨⟨h0_46, h1_47⟩, H⟩ := H
   obtain ⟨a44, ha45, hat43⟩ := Row.at (R0.ext hB) h0_46 h1_47
   refine ⟨h0_46, h1_47, a44, ha45, _, (hat43 3 _ rfl), ?_⟩
   refine brc H (fun hc51 H => ?_) (fun hc51 H => ?_)
   ·obtain rfl := hr.trans H.symm
    exact ⟨rfl, hB⟩
   obtain ⟨m48, hm49, hJ50⟩ := H
   exact ⟨m48, hm49, (IntKind.wrap .i64 ((IntKind.wrap .i64 ((IntKind.wrap .i64 ((IntKind.wrap .i64 (i21 + 1)) + 1)) + 1)) + 1)), (IntKind.wrap .i64 (i22 + 1)), rfl, hJ50, hB⟩
  obtain rfl := hr.trans H.symm
  exact ⟨rfl, hB⟩
def laws_eqAccess.vc (x0_0 : Int) (x0_1 : Int) (x0_2 : Int) (x0_3 : Int) (x1_0 : Int) (x1_1 : Int) (x1_2 : Int) (x1_3 : Int) (w : World) (K : Value → World → Prop) : Prop :=
  newK w (.cells #[(.int .i64 x0_0), (.int .i64 x0_1), (.int .i64 x0_2), (.int .i64 x0_3)] 45) fun g21 w22 => newK w22 (.cells #[(.int .i64 x1_0), (.int .i64 x1_1), (.int .i64 x1_2), (.int .i64 x1_3)] 45) fun g23 w24 => ∃ (n25 : Int), w24.cell? (((⟨g21, 0, none⟩ : Addr).add 0).add 0) = some (.int .i64 n25) ∧ ∃ (n26 : Int), w24.cell? (((⟨g23, 0, none⟩ : Addr).add 0).add 0) = some (.int .i64 n26) ∧ bcase (n25 != n26) (K (.bool false) w24) (∃ (n27 : Int), w24.cell? (((⟨g21, 0, none⟩ : Addr).add 1).add 0) = some (.int .i64 n27) ∧ ∃ (n28 : Int), w24.cell? (((⟨g23, 0, none⟩ : Addr).add 1).add 0) = some (.int .i64 n28) ∧ bcase (n27 != n28) (K (.bool false) w24) (∃ (n29 : Int), w24.cell? (((⟨g21, 0, none⟩ : Addr).add 2).add 0) = some (.int .i64 n29) ∧ ∃ (n30 : Int), w24.cell? (((⟨g23, 0, none⟩ : Addr).add 2).add 0) = some (.int .i64 n30) ∧ bcase (n29 != n30) (K (.bool false) w24) (∃ (n31 : Int), w24.cell? (((⟨g21, 0, none⟩ : Addr).add 3).add 0) = some (.int .i64 n31) ∧ ∃ (n32 : Int), w24.cell? (((⟨g23, 0, none⟩ : Addr).add 3).add 0) = some (.int .i64 n32) ∧ bcase (n31 != n32) (K (.bool false) w24) (K (.bool true) w24))))

def laws_eqAccess.ann : Ann := (.seq .l (.seq (.seq .l (.two (.seq .l .l) .l)) (.seq (.seq .l (.two (.seq .l .l) .l)) (.seq (.seq .l (.two (.seq .l .l) .l)) (.seq (.seq .l (.two (.seq .l .l) .l)) (.seq .l .l))))))

theorem laws_eqAccess.con {s0 : D.Access} {s1 : D.Access} {r : Bool} {w : World} (hr : r = M.laws_eqAccess s0 s1)  :
    Cll Try.prog 24 #[(.agg #[(.int .i64 s0.Phase), (.int .i64 s0.Warp), (.int .i64 s0.Address), (.int .i64 s0.Kind)]), (.agg #[(.int .i64 s1.Phase), (.int .i64 s1.Warp), (.int .i64 s1.Address), (.int .i64 s1.Kind)])] w (fun v_ w_ => v_ = (.bool r) ∧ Ext w w_) := by
  have H := wp.laws_eqAccess.math s0 s1
  have hB := Ext.refl w
  refine beginF mixed (fn := Try.f24) (by kernel_rfl) (by kernel_rfl) (an := laws_eqAccess.ann) (V := laws_eqAccess.vc s0.Phase s0.Warp s0.Address s0.Kind s1.Phase s1.Warp s1.Address s1.Kind) (by kernel_rfl) ?_
  unfold laws_eqAccess.vc
  unfold wp.laws_eqAccess at H
  refine newBlk (fun g1_ w21 L1 P1 e22 => ?_)
  have O1 := P1
  have L1 := Nat.le_trans hB.size L1
  have hB := ethen hB e22
  refine newBlk (fun g2_ w23 L2 P2 e24 => ?_)
  have N1_2 := O1.ne L2
  have O1 := O1.ext e24
  have O2 := P2
  have L2 := Nat.le_trans hB.size L2
  have hB := ethen hB e24
  refine ⟨_, (O1.at 0 rfl rfl), _, (O2.at 0 rfl rfl), ?_⟩
  refine brc H (fun hc28 H => ?_) (fun hc28 H => ?_)
  ·obtain rfl := hr.trans H.symm
   exact ⟨rfl, hB⟩
  refine ⟨_, (O1.at 1 rfl rfl), _, (O2.at 1 rfl rfl), ?_⟩
  refine brc H (fun hc27 H => ?_) (fun hc27 H => ?_)
  ·obtain rfl := hr.trans H.symm
   exact ⟨rfl, hB⟩
  refine ⟨_, (O1.at 2 rfl rfl), _, (O2.at 2 rfl rfl), ?_⟩
  refine brc H (fun hc26 H => ?_) (fun hc26 H => ?_)
  ·obtain rfl := hr.trans H.symm
   exact ⟨rfl, hB⟩
  refine ⟨_, (O1.at 3 rfl rfl), _, (O2.at 3 rfl rfl), ?_⟩
  refine brc H (fun hc25 H => ?_) (fun hc25 H => ?_)
  ·obtain rfl := hr.trans H.symm
   exact ⟨rfl, hB⟩
  obtain rfl := hr.trans H.symm
  exact ⟨rfl, hB⟩
def laws_eqAccessS.vc (A0 : Option Addr) (n0 : Nat) (c0 : Nat) (A1 : Option Addr) (n1 : Nat) (c1 : Nat) (w : World) (K : Value → World → Prop) : Prop :=
  bcase (((n0 : Nat) : Int) != ((n1 : Nat) : Int)) (K (.bool false) w) (LoopT (σ := Int × Unit) (fun z21 w22 next23 => bcase (decide (z21.1 < ((n0 : Nat) : Int))) ((∃ M24 : Nat → Prop, ((0 : Int) ≤ z21.1 ∧ z21.1 < ((n0 : Nat) : Int) ∧ ∃ a25 : Addr, A0 = some a25 ∧ ∃ (n26 : Int), (¬ M24 ((a25.add ((z21.1.toNat) * 4))).block ∧ w22.cell? ((a25.add ((z21.1.toNat) * 4)).add 0) = some (.int .i64 n26)) ∧ ∃ (n27 : Int), (¬ M24 ((a25.add ((z21.1.toNat) * 4))).block ∧ w22.cell? ((a25.add ((z21.1.toNat) * 4)).add 1) = some (.int .i64 n27)) ∧ ∃ (n28 : Int), (¬ M24 ((a25.add ((z21.1.toNat) * 4))).block ∧ w22.cell? ((a25.add ((z21.1.toNat) * 4)).add 2) = some (.int .i64 n28)) ∧ ∃ (n29 : Int), (¬ M24 ((a25.add ((z21.1.toNat) * 4))).block ∧ w22.cell? ((a25.add ((z21.1.toNat) * 4)).add 3) = some (.int .i64 n29)) ∧ ((0 : Int) ≤ z21.1 ∧ z21.1 < ((n1 : Nat) : Int) ∧ ∃ a30 : Addr, A1 = some a30 ∧ ∃ (n31 : Int), (¬ M24 ((a30.add ((z21.1.toNat) * 4))).block ∧ w22.cell? ((a30.add ((z21.1.toNat) * 4)).add 0) = some (.int .i64 n31)) ∧ ∃ (n32 : Int), (¬ M24 ((a30.add ((z21.1.toNat) * 4))).block ∧ w22.cell? ((a30.add ((z21.1.toNat) * 4)).add 1) = some (.int .i64 n32)) ∧ ∃ (n33 : Int), (¬ M24 ((a30.add ((z21.1.toNat) * 4))).block ∧ w22.cell? ((a30.add ((z21.1.toNat) * 4)).add 2) = some (.int .i64 n33)) ∧ ∃ (n34 : Int), (¬ M24 ((a30.add ((z21.1.toNat) * 4))).block ∧ w22.cell? ((a30.add ((z21.1.toNat) * 4)).add 3) = some (.int .i64 n34)) ∧ Cll Try.prog 24 #[(.agg #[(.int .i64 n26), (.int .i64 n27), (.int .i64 n28), (.int .i64 n29)]), (.agg #[(.int .i64 n31), (.int .i64 n32), (.int .i64 n33), (.int .i64 n34)])] w22.drew fun v35 w36 => (∃ (b37 : Bool), v35 = (.bool b37) ∧ SameBut M24 w22 w36 ∧ bcase (!b37) (K (.bool false) w36) (next23 ((IntKind.wrap .i64 (z21.1 + 1)), ()) w36)))))) (K (.bool true) w22)) (0, ()) w)

def laws_eqAccessS.ann : Ann := (.seq .l (.seq (.seq .l (.two (.seq .l .l) .l)) (.seq (.seq .l (.one (.loop [(5, .int .i64)] (.seq (.seq .l (.two .l .l)) (.seq (.one (.seq .l (.two (.seq .l .l) .l))) .l))))) (.seq .l .l))))

theorem laws_eqAccessS.con {xs0 : List D.Access} {A0 : Option Addr} {c0 : Nat} {xs1 : List D.Access} {A1 : Option Addr} {c1 : Nat} {r : Bool} {w : World} (hp : M.laws_eqAccessS_pre xs0 xs1) (hr : r = M.laws_eqAccessS xs0 xs1) (R0 : Row el45 w A0 xs0) (hc0 : xs0.length ≤ c0) (R1 : Row el45 w A1 xs1) (hc1 : xs1.length ≤ c1) :
    Cll Try.prog 10 #[(.slice A0 xs0.length c0), (.slice A1 xs1.length c1)] w (fun v_ w_ => v_ = (.bool r) ∧ Ext w w_) := by
  have H := wp.laws_eqAccessS.math xs0 xs1 hp
  have hB := Ext.refl w
  refine beginF mixed (fn := Try.f10) (by kernel_rfl) (by kernel_rfl) (an := laws_eqAccessS.ann) (V := laws_eqAccessS.vc A0 xs0.length c0 A1 xs1.length c1) (by kernel_rfl) ?_
  unfold laws_eqAccessS.vc
  unfold wp.laws_eqAccessS at H
  refine brc H (fun hc52 H => ?_) (fun hc52 H => ?_)
  ·obtain rfl := hr.trans H.symm
   exact ⟨rfl, hB⟩
  obtain ⟨J23, ⟨m50, hJ49⟩, hS24⟩ := H
  refine ⟨fun m_ z_ w_ => ∃ (i21 : Int), z_ = (i21, ()) ∧ J23 m_ (i21, ()) ∧ Ext w w_, ⟨m50, 0, rfl, hJ49, hB⟩, ?_⟩
  rintro m22 _ w26 ⟨i21, rfl, hJ51, hB⟩
  have H := hS24 m22 _ hJ51
  clear hS24 hJ51
  try dsimp only at H ⊢
  refine brc H (fun hc47 H => ?_) (fun hc47 H => ?_)
  ·refine ⟨(fun _ => False), ?_⟩
   obtain ⟨⟨h0_31, h1_32⟩, H⟩ := H
   obtain ⟨a29, ha30, hat28⟩ := Row.at (R0.ext hB) h0_31 h1_32
   refine ⟨h0_31, h1_32, a29, ha30, _, ⟨(fun h_ => h_), (hat28 0 _ rfl)⟩, _, ⟨(fun h_ => h_), (hat28 1 _ rfl)⟩, _, ⟨(fun h_ => h_), (hat28 2 _ rfl)⟩, _, ⟨(fun h_ => h_), (hat28 3 _ rfl)⟩, ?_⟩
   obtain ⟨⟨h0_36, h1_37⟩, H⟩ := H
   obtain ⟨a34, ha35, hat33⟩ := Row.at (R1.ext hB) h0_36 h1_37
   refine ⟨h0_36, h1_37, a34, ha35, _, ⟨(fun h_ => h_), (hat33 0 _ rfl)⟩, _, ⟨(fun h_ => h_), (hat33 1 _ rfl)⟩, _, ⟨(fun h_ => h_), (hat33 2 _ rfl)⟩, _, ⟨(fun h_ => h_), (hat33 3 _ rfl)⟩, ?_⟩
   have hS27 := Chg.refl (fun _ => False) w26
   have hB := ethen hB (Ext.drew _)
   have hS27 := hS27.then (Ext.drew _)
   obtain ⟨r38, hr39, H⟩ := callO H
   refine (laws_eqAccess.con hr39 ).mono ?_
   rintro _ w41 ⟨rfl, e42⟩
   have hB := ethen hB e42
   have hS27 := hS27.then e42
   refine ⟨r38, rfl, sameBut_chg hS27, ?_⟩
   refine brc H (fun hc46 H => ?_) (fun hc46 H => ?_)
   ·obtain rfl := hr.trans H.symm
    exact ⟨rfl, hB⟩
   obtain ⟨m43, hm44, hJ45⟩ := H
   exact ⟨m43, hm44, (IntKind.wrap .i64 (i21 + 1)), rfl, hJ45, hB⟩
  obtain rfl := hr.trans H.symm
  exact ⟨rfl, hB⟩
def spec_AddAccesses.vc (A0 : Option Addr) (n0 : Nat) (c0 : Nat) (A1 : Option Addr) (n1 : Nat) (c1 : Nat) (w : World) (K : Value → World → Prop) : Prop :=
  Run Try.prog (Instr.buildSlice 24 0 #[]) w fun v21 w22 => ∃ (A23 : Option Addr) (n24 c25 : Nat), v21 = .slice A23 n24 c25 ∧ Run Try.prog (Builtin.append_ #[24, 24] 24 #[(.slice A23 n24 c25), (.slice A0 n0 c0)]) w22 fun v26 w27 => ∃ (A28 : Option Addr) (n29 c30 : Nat), v26 = .slice A28 n29 c30 ∧ LoopT (σ := (Option Addr × Nat × Nat) × Int × Unit) (fun z31 w32 next33 => bcase (decide (z31.2.1 < ((n1 : Nat) : Int))) (LoopT (σ := Bool × Int × Unit) (fun z34 w35 next36 => bcase (decide (z34.2.1 < ((z31.1.2.1 : Nat) : Int))) (bcase z34.1 (next36 (true, (IntKind.wrap .i64 (z34.2.1 + 1)), ()) w35.drew) (((0 : Int) ≤ z34.2.1 ∧ z34.2.1 < ((z31.1.2.1 : Nat) : Int) ∧ ∃ a37 : Addr, z31.1.1 = some a37 ∧ ∃ (n38 : Int), w35.cell? ((a37.add ((z34.2.1.toNat) * 4)).add 0) = some (.int .i64 n38) ∧ ∃ (n39 : Int), w35.cell? ((a37.add ((z34.2.1.toNat) * 4)).add 1) = some (.int .i64 n39) ∧ ∃ (n40 : Int), w35.cell? ((a37.add ((z34.2.1.toNat) * 4)).add 2) = some (.int .i64 n40) ∧ ∃ (n41 : Int), w35.cell? ((a37.add ((z34.2.1.toNat) * 4)).add 3) = some (.int .i64 n41) ∧ ((0 : Int) ≤ z31.2.1 ∧ z31.2.1 < ((n1 : Nat) : Int) ∧ ∃ a42 : Addr, A1 = some a42 ∧ ∃ (n43 : Int), w35.cell? ((a42.add ((z31.2.1.toNat) * 4)).add 0) = some (.int .i64 n43) ∧ ∃ (n44 : Int), w35.cell? ((a42.add ((z31.2.1.toNat) * 4)).add 1) = some (.int .i64 n44) ∧ ∃ (n45 : Int), w35.cell? ((a42.add ((z31.2.1.toNat) * 4)).add 2) = some (.int .i64 n45) ∧ ∃ (n46 : Int), w35.cell? ((a42.add ((z31.2.1.toNat) * 4)).add 3) = some (.int .i64 n46) ∧ BinRun Try.prog .eql 45 (.agg #[(.int .i64 n38), (.int .i64 n39), (.int .i64 n40), (.int .i64 n41)]) (.agg #[(.int .i64 n43), (.int .i64 n44), (.int .i64 n45), (.int .i64 n46)]) fun b47 => next36 (b47, (IntKind.wrap .i64 (z34.2.1 + 1)), ()) w35.drew)))) (bcase (!z34.1) (((0 : Int) ≤ z31.2.1 ∧ z31.2.1 < ((n1 : Nat) : Int) ∧ ∃ a48 : Addr, A1 = some a48 ∧ ∃ (n49 : Int), w35.cell? ((a48.add ((z31.2.1.toNat) * 4)).add 0) = some (.int .i64 n49) ∧ ∃ (n50 : Int), w35.cell? ((a48.add ((z31.2.1.toNat) * 4)).add 1) = some (.int .i64 n50) ∧ ∃ (n51 : Int), w35.cell? ((a48.add ((z31.2.1.toNat) * 4)).add 2) = some (.int .i64 n51) ∧ ∃ (n52 : Int), w35.cell? ((a48.add ((z31.2.1.toNat) * 4)).add 3) = some (.int .i64 n52) ∧ Run Try.prog (Instr.buildSlice 24 1 #[(0, (.agg #[(.int .i64 n49), (.int .i64 n50), (.int .i64 n51), (.int .i64 n52)]))]) w35 fun v53 w54 => ∃ (A55 : Option Addr) (n56 c57 : Nat), v53 = .slice A55 n56 c57 ∧ Run Try.prog (Builtin.append_ #[24, 24] 24 #[(.slice z31.1.1 z31.1.2.1 z31.1.2.2), (.slice A55 n56 c57)]) w54 fun v58 w59 => ∃ (A60 : Option Addr) (n61 c62 : Nat), v58 = .slice A60 n61 c62 ∧ next33 ((A60, n61, c62), (IntKind.wrap .i64 (z31.2.1 + 1)), ()) w59)) (next33 ((z31.1.1, z31.1.2.1, z31.1.2.2), (IntKind.wrap .i64 (z31.2.1 + 1)), ()) w35))) (false, 0, ()) w32) (K (.slice z31.1.1 z31.1.2.1 z31.1.2.2) w32)) ((A28, n29, c30), 0, ()) w27

def spec_AddAccesses.ann : Ann := (.seq .l (.seq .l (.seq (.seq .l (.one (.loop [(5, .sl), (6, .int .i64)] (.seq (.seq .l (.two .l .l)) (.seq (.one (.seq .l (.seq (.seq .l (.one (.loop [(7, .bool), (8, .int .i64)] (.seq (.seq .l (.two .l .l)) (.seq (.one .l) .l))))) (.seq .l (.two .l .l))))) .l))))) (.seq .l .l))))

theorem spec_AddAccesses.con {xs0 : List D.Access} {A0 : Option Addr} {c0 : Nat} {xs1 : List D.Access} {A1 : Option Addr} {c1 : Nat} {r : List D.Access} {w : World} (hp : M.spec_AddAccesses_pre xs0 xs1) (hr : r = M.spec_AddAccesses xs0 xs1) (R0 : Row el45 w A0 xs0) (hc0 : xs0.length ≤ c0) (R1 : Row el45 w A1 xs1) (hc1 : xs1.length ≤ c1) :
    Cll Try.prog 7 #[(.slice A0 xs0.length c0), (.slice A1 xs1.length c1)] w (fun v_ w_ => ∃ (A0_ : Option Addr) (c0_ : Nat), v_ = (.slice A0_ r.length c0_) ∧ Own el45 w_ w.heap.size A0_ c0_ r ∧ Ext w w_) := by
  have H := wp.spec_AddAccesses.math xs0 xs1 hp
  have hB := Ext.refl w
  refine beginF mixed (fn := Try.f7) (by kernel_rfl) (by kernel_rfl) (an := spec_AddAccesses.ann) (V := spec_AddAccesses.vc A0 xs0.length c0 A1 xs1.length c1) (by kernel_rfl) ?_
  unfold spec_AddAccesses.vc
  unfold wp.spec_AddAccesses at H
  refine buildOwn el45 ([] : List D.Access) (fun _ => by kernel_rfl) rfl (fun A21 w22 P3 e23 => ?_)
  have O3 := P3.mono hB.size
  have hB := ethen hB e23
  obtain ⟨hl28, H⟩ := H
  refine appOwn slt24 slt24.under O3 (R0.ext hB) hB.size (by first | rfl | omega | (simp; done) | (simp; omega)) rfl hl28 (fun A24 c25 w26 P3 e27 => ?_)
  have hB := eapp hB e27 O3
  have O3 := P3
  obtain ⟨J34, ⟨m91, hJ90⟩, hS35⟩ := H
  refine ⟨fun m_ z_ w_ => ∃ (xs29 : List D.Access) (i32 : Int) (A30 : Option Addr) (c31 : Nat), z_ = ((A30, xs29.length, c31), i32, ()) ∧ J34 m_ (xs29, i32, ()) ∧ Ext w w_ ∧ Own el45 w_ w.heap.size A30 c31 xs29, ⟨m91, (([] : List D.Access) ++ xs0), 0, A24, c25, rfl, hJ90, hB, O3⟩, ?_⟩
  rintro m33 _ w37 ⟨xs29, i32, A30, c31, rfl, hJ92, hB, O4⟩
  have H := hS35 m33 _ hJ92
  clear hS35 hJ92
  try dsimp only at H ⊢
  refine brc H (fun hc88 H => ?_) (fun hc88 H => ?_)
  ·obtain ⟨J41, ⟨m86, hJ85⟩, hS42⟩ := H
   refine ⟨fun m_ z_ w_ => ∃ (b38 : Bool) (i39 : Int), z_ = (b38, i39, ()) ∧ J41 m_ (b38, i39, ()) ∧ Ext w w_ ∧ Own el45 w_ w.heap.size A30 c31 xs29, ⟨m86, false, 0, rfl, hJ85, hB, O4⟩, ?_⟩
   rintro m40 _ w44 ⟨b38, i39, rfl, hJ87, hB, O4⟩
   have H := hS42 m40 _ hJ87
   clear hS42 hJ87
   try dsimp only at H ⊢
   refine brc H (fun hc83 H => ?_) (fun hc83 H => ?_)
   ·refine brc H (fun hc62 H => ?_) (fun hc62 H => ?_)
    ·have O4 := O4.ext (Ext.drew _)
     have hB := ethen hB (Ext.drew _)
     obtain ⟨m46, hm47, hJ48⟩ := H
     exact ⟨m46, hm47, true, (IntKind.wrap .i64 (i39 + 1)), rfl, hJ48, hB, O4⟩
    obtain ⟨⟨h0_52, h1_53⟩, H⟩ := H
    obtain ⟨a50, ha51, hat49⟩ := Row.at O4.row h0_52 h1_53
    refine ⟨h0_52, h1_53, a50, ha51, _, (hat49 0 _ rfl), _, (hat49 1 _ rfl), _, (hat49 2 _ rfl), _, (hat49 3 _ rfl), ?_⟩
    obtain ⟨⟨h0_57, h1_58⟩, H⟩ := H
    obtain ⟨a55, ha56, hat54⟩ := Row.at (R1.ext hB) h0_57 h1_58
    refine ⟨h0_57, h1_58, a55, ha56, _, (hat54 0 _ rfl), _, (hat54 1 _ rfl), _, (hat54 2 _ rfl), _, (hat54 3 _ rfl), _, run_eql45 ((rd xs29 i39).Phase) ((rd xs29 i39).Warp) ((rd xs29 i39).Address) ((rd xs29 i39).Kind) ((rd xs1 i32).Phase) ((rd xs1 i32).Warp) ((rd xs1 i32).Address) ((rd xs1 i32).Kind), ?_⟩
    have O4 := O4.ext (Ext.drew _)
    have hB := ethen hB (Ext.drew _)
    obtain ⟨m59, hm60, hJ61⟩ := H
    exact ⟨m59, hm60, (((rd xs29 i39).Phase == (rd xs1 i32).Phase) && ((rd xs29 i39).Warp == (rd xs1 i32).Warp) && ((rd xs29 i39).Address == (rd xs1 i32).Address) && ((rd xs29 i39).Kind == (rd xs1 i32).Kind)), (IntKind.wrap .i64 (i39 + 1)), rfl, hJ61, hB, O4⟩
   refine brc H (fun hc82 H => ?_) (fun hc82 H => ?_)
   ·obtain ⟨⟨h0_66, h1_67⟩, H⟩ := H
    obtain ⟨a64, ha65, hat63⟩ := Row.at (R1.ext hB) h0_66 h1_67
    refine ⟨h0_66, h1_67, a64, ha65, _, (hat63 0 _ rfl), _, (hat63 1 _ rfl), _, (hat63 2 _ rfl), _, (hat63 3 _ rfl), ?_⟩
    refine buildOwn el45 ([(rd xs1 i32)] : List D.Access) (fun _ => by kernel_rfl) rfl (fun A68 w69 P5 e70 => ?_)
    have N4_5 := Own.apart2_new O4 P5 (Nat.le_refl _)
    have O4 := O4.ext e70
    have O5 := P5.mono hB.size
    have hB := ethen hB e70
    obtain ⟨hl75, H⟩ := H
    refine appOwn slt24 slt24.under O4 O5.row hB.size rfl (by first | rfl | omega | (simp; done) | (simp; omega)) hl75 (fun A71 c72 w73 P4 e74 => ?_)
    have N5_4_ := Apart2.app (N4_5).symm e74 O5
    have O5 := O5.app e74 (N4_5).symm
    have N5_4 := N5_4_
    have hB := eapp hB e74 O4
    have O4 := P4
    obtain ⟨m76, hm77, hJ78⟩ := H
    exact ⟨m76, hm77, (xs29 ++ ([(rd xs1 i32)] : List D.Access)), (IntKind.wrap .i64 (i32 + 1)), A71, c72, rfl, hJ78, hB, O4⟩
   obtain ⟨m79, hm80, hJ81⟩ := H
   exact ⟨m79, hm80, xs29, (IntKind.wrap .i64 (i32 + 1)), A30, c31, rfl, hJ81, hB, O4⟩
  obtain rfl := hr.trans H.symm
  exact ⟨A30, c31, rfl, O4, hB⟩
def slices_Clone_impl_Access_impl_Access.vc (A0 : Option Addr) (n0 : Nat) (c0 : Nat) (w : World) (K : Value → World → Prop) : Prop :=
  bcase (Option.isNone A0) (K (.slice none 0 0) w) (Run Try.prog (Instr.buildSlice 24 0 #[]) w fun v21 w22 => ∃ (A23 : Option Addr) (n24 c25 : Nat), v21 = .slice A23 n24 c25 ∧ Run Try.prog (Builtin.append_ #[24, 24] 24 #[(.slice A23 n24 c25), (.slice A0 n0 c0)]) w22 fun v26 w27 => ∃ (A28 : Option Addr) (n29 c30 : Nat), v26 = .slice A28 n29 c30 ∧ K (.slice A28 n29 c30) w27)

def slices_Clone_impl_Access_impl_Access.ann : Ann := (.seq .l (.seq (.seq .l (.two (.seq .l .l) .l)) (.seq .l .l)))

theorem slices_Clone_impl_Access_impl_Access.con {xs0 : List D.Access} {A0 : Option Addr} {c0 : Nat} {r : List D.Access} {w : World} (hp : M.slices_Clone_impl_Access_impl_Access_pre xs0) (hr : r = M.slices_Clone_impl_Access_impl_Access xs0) (R0 : Row el45 w A0 xs0) (hc0 : xs0.length ≤ c0) :
    Cll Try.prog 23 #[(.slice A0 xs0.length c0)] w (fun v_ w_ => ∃ (A0_ : Option Addr) (c0_ : Nat), v_ = (.slice A0_ r.length c0_) ∧ Own el45 w_ w.heap.size A0_ c0_ r ∧ Ext w w_) := by
  have H := wp.slices_Clone_impl_Access_impl_Access.math xs0 hp
  have hB := Ext.refl w
  refine beginF mixed (fn := Try.f23) (by kernel_rfl) (by kernel_rfl) (an := slices_Clone_impl_Access_impl_Access.ann) (V := slices_Clone_impl_Access_impl_Access.vc A0 xs0.length c0) (by kernel_rfl) ?_
  unfold slices_Clone_impl_Access_impl_Access.vc
  unfold wp.slices_Clone_impl_Access_impl_Access at H
  obtain ⟨b21, hb22⟩ : ∃ b_, b_ = Option.isNone A0 := ⟨_, rfl⟩
  have H := H b21 (fun h_ => Row.isNone (R0.ext hB) (hb22.symm.trans h_))
  rw [← hb22]
  refine brc H (fun hc31 H => ?_) (fun hc31 H => ?_)
  ·obtain rfl := hr.trans H.symm
   exact ⟨none, 0, rfl, Own.nil, hB⟩
  refine buildOwn el45 ([] : List D.Access) (fun _ => by kernel_rfl) rfl (fun A23 w24 P2 e25 => ?_)
  have O2 := P2.mono hB.size
  have hB := ethen hB e25
  obtain ⟨hl30, H⟩ := H
  refine appOwn slt24 slt24.under O2 (R0.ext hB) hB.size (by first | rfl | omega | (simp; done) | (simp; omega)) rfl hl30 (fun A26 c27 w28 P2 e29 => ?_)
  have hB := eapp hB e29 O2
  have O2 := P2
  obtain rfl := hr.trans H.symm
  exact ⟨A26, c27, rfl, O2, hB⟩
def impl_AddAccesses.vc (A0 : Option Addr) (n0 : Nat) (c0 : Nat) (A1 : Option Addr) (n1 : Nat) (c1 : Nat) (w : World) (K : Value → World → Prop) : Prop :=
  newK w (.map #[] 0) fun g21 w22 => LoopT (σ := Int × Unit) (fun z23 w24 next25 => bcase (decide (z23.1 < ((n0 : Nat) : Int))) (((0 : Int) ≤ z23.1 ∧ z23.1 < ((n0 : Nat) : Int) ∧ ∃ a26 : Addr, A0 = some a26 ∧ ∃ (n27 : Int), w24.cell? ((a26.add ((z23.1.toNat) * 4)).add 0) = some (.int .i64 n27) ∧ ∃ (n28 : Int), w24.cell? ((a26.add ((z23.1.toNat) * 4)).add 1) = some (.int .i64 n28) ∧ ∃ (n29 : Int), w24.cell? ((a26.add ((z23.1.toNat) * 4)).add 2) = some (.int .i64 n29) ∧ ∃ (n30 : Int), w24.cell? ((a26.add ((z23.1.toNat) * 4)).add 3) = some (.int .i64 n30) ∧ newK w24 (.cells #[(.int .i64 0), (.int .i64 0), (.int .i64 0), (.int .i64 0)] 45) fun g31 w32 => stCells (⟨g31, 0, none⟩ : Addr) [(.int .i64 n27), (.int .i64 n28), (.int .i64 n29), (.int .i64 n30)] 0 w32 fun w33 => ∃ (n34 : Int), w33.cell? ((⟨g31, 0, none⟩ : Addr).add 0) = some (.int .i64 n34) ∧ ∃ (n35 : Int), w33.cell? ((⟨g31, 0, none⟩ : Addr).add 1) = some (.int .i64 n35) ∧ ∃ (n36 : Int), w33.cell? ((⟨g31, 0, none⟩ : Addr).add 2) = some (.int .i64 n36) ∧ ∃ (n37 : Int), w33.cell? ((⟨g31, 0, none⟩ : Addr).add 3) = some (.int .i64 n37) ∧ (∃ w38, (Instr.mapUpdate 48 (.map (some g21)) (.agg #[(.int .i64 n34), (.int .i64 n35), (.int .i64 n36), (.int .i64 n37)]) (.bool true)).run Try.prog w33 = .ok () w38 ∧ next25 ((IntKind.wrap .i64 (z23.1 + 1)), ()) w38))) (Cll Try.prog 23 #[(.slice A0 n0 c0)] w24 fun v39 w40 => (∃ (A41 : Option Addr) (n42 : Nat) (c43 : Nat), v39 = (.slice A41 n42 c43) ∧ LoopT (σ := (Option Addr × Nat × Nat) × Int × Unit) (fun z44 w45 next46 => bcase (decide (z44.2.1 < ((n1 : Nat) : Int))) (((0 : Int) ≤ z44.2.1 ∧ z44.2.1 < ((n1 : Nat) : Int) ∧ ∃ a47 : Addr, A1 = some a47 ∧ ∃ (n48 : Int), w45.cell? ((a47.add ((z44.2.1.toNat) * 4)).add 0) = some (.int .i64 n48) ∧ ∃ (n49 : Int), w45.cell? ((a47.add ((z44.2.1.toNat) * 4)).add 1) = some (.int .i64 n49) ∧ ∃ (n50 : Int), w45.cell? ((a47.add ((z44.2.1.toNat) * 4)).add 2) = some (.int .i64 n50) ∧ ∃ (n51 : Int), w45.cell? ((a47.add ((z44.2.1.toNat) * 4)).add 3) = some (.int .i64 n51) ∧ newK w45 (.cells #[(.int .i64 0), (.int .i64 0), (.int .i64 0), (.int .i64 0)] 45) fun g52 w53 => stCells (⟨g52, 0, none⟩ : Addr) [(.int .i64 n48), (.int .i64 n49), (.int .i64 n50), (.int .i64 n51)] 0 w53 fun w54 => ∃ (n55 : Int), w54.cell? ((⟨g52, 0, none⟩ : Addr).add 0) = some (.int .i64 n55) ∧ ∃ (n56 : Int), w54.cell? ((⟨g52, 0, none⟩ : Addr).add 1) = some (.int .i64 n56) ∧ ∃ (n57 : Int), w54.cell? ((⟨g52, 0, none⟩ : Addr).add 2) = some (.int .i64 n57) ∧ ∃ (n58 : Int), w54.cell? ((⟨g52, 0, none⟩ : Addr).add 3) = some (.int .i64 n58) ∧ Run Try.prog (Instr.lookup 48 (.map (some g21)) (.agg #[(.int .i64 n55), (.int .i64 n56), (.int .i64 n57), (.int .i64 n58)]) false) w54 fun v59 w60 => (∃ (b61 : Bool), v59 = (.bool b61) ∧ bcase (!b61) (∃ (n62 : Int), w60.cell? ((⟨g52, 0, none⟩ : Addr).add 0) = some (.int .i64 n62) ∧ ∃ (n63 : Int), w60.cell? ((⟨g52, 0, none⟩ : Addr).add 1) = some (.int .i64 n63) ∧ ∃ (n64 : Int), w60.cell? ((⟨g52, 0, none⟩ : Addr).add 2) = some (.int .i64 n64) ∧ ∃ (n65 : Int), w60.cell? ((⟨g52, 0, none⟩ : Addr).add 3) = some (.int .i64 n65) ∧ (∃ w66, (Instr.mapUpdate 48 (.map (some g21)) (.agg #[(.int .i64 n62), (.int .i64 n63), (.int .i64 n64), (.int .i64 n65)]) (.bool true)).run Try.prog w60 = .ok () w66 ∧ ∃ (n67 : Int), w66.cell? ((⟨g52, 0, none⟩ : Addr).add 0) = some (.int .i64 n67) ∧ ∃ (n68 : Int), w66.cell? ((⟨g52, 0, none⟩ : Addr).add 1) = some (.int .i64 n68) ∧ ∃ (n69 : Int), w66.cell? ((⟨g52, 0, none⟩ : Addr).add 2) = some (.int .i64 n69) ∧ ∃ (n70 : Int), w66.cell? ((⟨g52, 0, none⟩ : Addr).add 3) = some (.int .i64 n70) ∧ Run Try.prog (Instr.buildSlice 24 1 #[(0, (.agg #[(.int .i64 n67), (.int .i64 n68), (.int .i64 n69), (.int .i64 n70)]))]) w66 fun v71 w72 => ∃ (A73 : Option Addr) (n74 c75 : Nat), v71 = .slice A73 n74 c75 ∧ Run Try.prog (Builtin.append_ #[24, 24] 24 #[(.slice z44.1.1 z44.1.2.1 z44.1.2.2), (.slice A73 n74 c75)]) w72 fun v76 w77 => ∃ (A78 : Option Addr) (n79 c80 : Nat), v76 = .slice A78 n79 c80 ∧ next46 ((A78, n79, c80), (IntKind.wrap .i64 (z44.2.1 + 1)), ()) w77)) (next46 ((z44.1.1, z44.1.2.1, z44.1.2.2), (IntKind.wrap .i64 (z44.2.1 + 1)), ()) w60)))) (K (.slice z44.1.1 z44.1.2.1 z44.1.2.2) w45)) ((A41, n42, c43), 0, ()) w40))) (0, ()) w22

def impl_AddAccesses.ann : Ann := (.seq .l (.seq .l (.seq (.seq .l (.one (.loop [(14, .int .i64)] (.seq .l (.seq (.two .l .l) (.seq (.one (.seq .l .l)) .l)))))) (.seq .l (.seq (.seq .l (.one (.loop [(8, .sl), (25, .int .i64)] (.seq .l (.seq (.two .l .l) (.seq (.one (.seq .l (.seq .l (.two (.seq .l .l) .l)))) .l)))))) (.seq .l .l))))))

theorem impl_AddAccesses.con {xs0 : List D.Access} {A0 : Option Addr} {c0 : Nat} {xs1 : List D.Access} {A1 : Option Addr} {c1 : Nat} {r : List D.Access} {w : World} (hp : M.impl_AddAccesses_pre xs0 xs1) (hr : r = M.impl_AddAccesses xs0 xs1) (R0 : Row el45 w A0 xs0) (hc0 : xs0.length ≤ c0) (R1 : Row el45 w A1 xs1) (hc1 : xs1.length ≤ c1) :
    Cll Try.prog 9 #[(.slice A0 xs0.length c0), (.slice A1 xs1.length c1)] w (fun v_ w_ => ∃ (A0_ : Option Addr) (c0_ : Nat), v_ = (.slice A0_ r.length c0_) ∧ Own el45 w_ w.heap.size A0_ c0_ r ∧ Ext w w_) := by
  have H := wp.impl_AddAccesses.math xs0 xs1 hp
  have hB := Ext.refl w
  refine beginF mixed (fn := Try.f9) (by kernel_rfl) (by kernel_rfl) (an := impl_AddAccesses.ann) (V := impl_AddAccesses.vc A0 xs0.length c0 A1 xs1.length c1) (by kernel_rfl) ?_
  unfold impl_AddAccesses.vc
  unfold wp.impl_AddAccesses at H
  refine mapNewT (f := Value.bool) (n := 4) (fun g3_ w21 P3 e22 => ?_)
  have O3 := P3.mono hB.size
  have hB := ethen hB e22
  obtain ⟨J43, ⟨m140, hJ139⟩, hS44⟩ := H
  refine ⟨fun m_ z_ w_ => ∃ (i40 : Int) (xs41 : List (List Int × Bool)), z_ = (i40, ()) ∧ J43 m_ (i40, xs41, ()) ∧ Ext w w_ ∧ MapT Value.bool w_ w.heap.size g3_ 4 xs41, ⟨m140, 0, ([] : List (List Int × Bool)), rfl, hJ139, hB, O3⟩, ?_⟩
  rintro m42 _ w46 ⟨i40, xs41, rfl, hJ141, hB, O3⟩
  have H := hS44 m42 _ hJ141
  clear hS44 hJ141
  try dsimp only at H ⊢
  refine brc H (fun hc137 H => ?_) (fun hc137 H => ?_)
  ·obtain ⟨⟨h0_50, h1_51⟩, H⟩ := H
   obtain ⟨a48, ha49, hat47⟩ := Row.at (R0.ext hB) h0_50 h1_51
   refine ⟨h0_50, h1_51, a48, ha49, _, (hat47 0 _ rfl), _, (hat47 1 _ rfl), _, (hat47 2 _ rfl), _, (hat47 3 _ rfl), ?_⟩
   refine newBlk (fun g5_ w52 L5 P5 e53 => ?_)
   have O3 := O3.ext e53
   have O5 := P5
   have L5 := Nat.le_trans hB.size L5
   have hB := ethen hB e53
   refine stBlk O5 (o := 0) (cs' := #[(.int .i64 ((rd xs0 i40).Phase)), (.int .i64 ((rd xs0 i40).Warp)), (.int .i64 ((rd xs0 i40).Address)), (.int .i64 ((rd xs0 i40).Kind))]) rfl rfl (Nat.le_of_ble_eq_true rfl) rfl (fun w54 P5 e55 => ?_)
   have O3 := O3.chg e55 (O3.ne O5)
   have hB := echg hB e55 L5
   have O5 := P5
   refine ⟨_, (O5.at 0 rfl rfl), _, (O5.at 1 rfl rfl), _, (O5.at 2 rfl rfl), _, (O5.at 3 rfl rfl), ?_⟩
   refine mapPutT O3 km48 (k := [(rd xs0 i40).Phase, (rd xs0 i40).Warp, (rd xs0 i40).Address, (rd xs0 i40).Kind]) rfl (v := true) (fun w56 P3 e57 => ?_)
   have O5 := O5.chg e57 (fun h_ => O3.ne O5 h_.symm)
   have hB := echg hB e57 O3.low
   have O3 := P3
   obtain ⟨m58, hm59, hJ60⟩ := H
   exact ⟨m58, hm59, (IntKind.wrap .i64 (i40 + 1)), (mput xs41 [(rd xs0 i40).Phase, (rd xs0 i40).Warp, (rd xs0 i40).Address, (rd xs0 i40).Kind] true), rfl, hJ60, hB, O3⟩
  obtain ⟨hp63, H⟩ := H
  obtain ⟨r61, hr62, H⟩ := callO H
  refine (slices_Clone_impl_Access_impl_Access.con hp63 hr62 (R0.ext hB) hc0).mono ?_
  rintro _ w64 ⟨A66, c67, rfl, P6, e65⟩
  have O3 := O3.ext e65
  have O6 := P6.mono hB.size
  have hB := ethen hB e65
  refine ⟨A66, r61.length, c67, rfl, ?_⟩
  obtain ⟨J102, ⟨m135, hJ134⟩, hS103⟩ := H
  refine ⟨fun m_ z_ w_ => ∃ (xs96 : List D.Access) (i99 : Int) (xs100 : List (List Int × Bool)) (A97 : Option Addr) (c98 : Nat), z_ = ((A97, xs96.length, c98), i99, ()) ∧ J102 m_ (xs96, i99, xs100, ()) ∧ Ext w w_ ∧ Own el45 w_ w.heap.size A97 c98 xs96 ∧ MapT Value.bool w_ w.heap.size g3_ 4 xs100, ⟨m135, r61, 0, xs41, A66, c67, rfl, hJ134, hB, O6, O3⟩, ?_⟩
  rintro m101 _ w105 ⟨xs96, i99, xs100, A97, c98, rfl, hJ136, hB, O10, O3⟩
  have H := hS103 m101 _ hJ136
  clear hS103 hJ136
  try dsimp only at H ⊢
  refine brc H (fun hc132 H => ?_) (fun hc132 H => ?_)
  ·obtain ⟨⟨h0_109, h1_110⟩, H⟩ := H
   obtain ⟨a107, ha108, hat106⟩ := Row.at (R1.ext hB) h0_109 h1_110
   refine ⟨h0_109, h1_110, a107, ha108, _, (hat106 0 _ rfl), _, (hat106 1 _ rfl), _, (hat106 2 _ rfl), _, (hat106 3 _ rfl), ?_⟩
   refine newBlk (fun g11_ w111 L11 P11 e112 => ?_)
   have N10_11 := O10.apart_new L11
   have O10 := O10.ext e112
   have O3 := O3.ext e112
   have O11 := P11
   have L11 := Nat.le_trans hB.size L11
   have hB := ethen hB e112
   refine stBlk O11 (o := 0) (cs' := #[(.int .i64 ((rd xs1 i99).Phase)), (.int .i64 ((rd xs1 i99).Warp)), (.int .i64 ((rd xs1 i99).Address)), (.int .i64 ((rd xs1 i99).Kind))]) rfl rfl (Nat.le_of_ble_eq_true rfl) rfl (fun w113 P11 e114 => ?_)
   have O3 := O3.chg e114 (O3.ne O11)
   have O10_ := O10.chg e114 N10_11
   have O10 := O10_
   have hB := echg hB e114 L11
   have O11 := P11
   refine ⟨_, (O11.at 0 rfl rfl), _, (O11.at 1 rfl rfl), _, (O11.at 2 rfl rfl), _, (O11.at 3 rfl rfl), ?_⟩
   refine mapLookT O3 km48 zv48 (k := [(rd xs1 i99).Phase, (rd xs1 i99).Warp, (rd xs1 i99).Address, (rd xs1 i99).Kind]) rfl ?_
   refine ⟨_, rfl, ?_⟩
   refine brc H (fun hc131 H => ?_) (fun hc131 H => ?_)
   ·refine ⟨_, (O11.at 0 rfl rfl), _, (O11.at 1 rfl rfl), _, (O11.at 2 rfl rfl), _, (O11.at 3 rfl rfl), ?_⟩
    refine mapPutT O3 km48 (k := [(rd xs1 i99).Phase, (rd xs1 i99).Warp, (rd xs1 i99).Address, (rd xs1 i99).Kind]) rfl (v := true) (fun w115 P3 e116 => ?_)
    have O10 := O10.chg e116 (O3.apart O10)
    have O11 := O11.chg e116 (fun h_ => O3.ne O11 h_.symm)
    have hB := echg hB e116 O3.low
    have O3 := P3
    refine ⟨_, (O11.at 0 rfl rfl), _, (O11.at 1 rfl rfl), _, (O11.at 2 rfl rfl), _, (O11.at 3 rfl rfl), ?_⟩
    refine buildOwn el45 ([(rd xs1 i99)] : List D.Access) (fun _ => by kernel_rfl) rfl (fun A117 w118 P12 e119 => ?_)
    have N10_12 := Own.apart2_new O10 P12 (Nat.le_refl _)
    have N12_11 := P12.apart_old O11.lt
    have O10 := O10.ext e119
    have O11 := O11.ext e119
    have O3 := O3.ext e119
    have O12 := P12.mono hB.size
    have hB := ethen hB e119
    obtain ⟨hl124, H⟩ := H
    refine appOwn slt24 slt24.under O10 O12.row hB.size rfl (by first | rfl | omega | (simp; done) | (simp; omega)) hl124 (fun A120 c121 w122 P10 e123 => ?_)
    have N10_11_ := Apart.app N10_11 e123 O11.lt
    have O11 := O11.app e123 N10_11
    have N12_10_ := Apart2.app (N10_12).symm e123 O12
    have O12 := O12.app e123 (N10_12).symm
    have O3 := O3.app e123 (O3.apart O10)
    have N10_11 := N10_11_
    have N12_10 := N12_10_
    have hB := eapp hB e123 O10
    have O10 := P10
    obtain ⟨m125, hm126, hJ127⟩ := H
    exact ⟨m125, hm126, (xs96 ++ ([(rd xs1 i99)] : List D.Access)), (IntKind.wrap .i64 (i99 + 1)), (mput xs100 [(rd xs1 i99).Phase, (rd xs1 i99).Warp, (rd xs1 i99).Address, (rd xs1 i99).Kind] true), A120, c121, rfl, hJ127, hB, O10, O3⟩
   obtain ⟨m128, hm129, hJ130⟩ := H
   exact ⟨m128, hm129, xs96, (IntKind.wrap .i64 (i99 + 1)), xs100, A97, c98, rfl, hJ130, hB, O10, O3⟩
  obtain rfl := hr.trans H.symm
  exact ⟨A97, c98, rfl, O10, hB⟩
def laws_FnExactAddAccesses.vc (A0 : Option Addr) (n0 : Nat) (c0 : Nat) (A1 : Option Addr) (n1 : Nat) (c1 : Nat) (w : World) (K : Value → World → Prop) : Prop :=
  Cll Try.prog 6 #[(.slice A0 n0 c0), (.int .i64 1048576)] w fun v21 w22 => (∃ (n23 : Int), v21 = (.int .i64 n23) ∧ bcase (decide (n23 < 0)) (K (.bool true) w22) (Cll Try.prog 6 #[(.slice A1 n1 c1), (.int .i64 n23)] w22 fun v24 w25 => (∃ (n26 : Int), v24 = (.int .i64 n26) ∧ bcase (decide (n26 < 0)) (K (.bool true) w25) (Cll Try.prog 8 #[(.slice A0 n0 c0)] w25 fun v27 w28 => (∃ (A29 : Option Addr) (n30 : Nat) (c31 : Nat), v27 = (.slice A29 n30 c31) ∧ Cll Try.prog 8 #[(.slice A1 n1 c1)] w28 fun v32 w33 => (∃ (A34 : Option Addr) (n35 : Nat) (c36 : Nat), v32 = (.slice A34 n35 c36) ∧ Cll Try.prog 7 #[(.slice A29 n30 c31), (.slice A34 n35 c36)] w33 fun v37 w38 => (∃ (A39 : Option Addr) (n40 : Nat) (c41 : Nat), v37 = (.slice A39 n40 c41) ∧ Cll Try.prog 8 #[(.slice A0 n0 c0)] w38 fun v42 w43 => (∃ (A44 : Option Addr) (n45 : Nat) (c46 : Nat), v42 = (.slice A44 n45 c46) ∧ Cll Try.prog 8 #[(.slice A1 n1 c1)] w43 fun v47 w48 => (∃ (A49 : Option Addr) (n50 : Nat) (c51 : Nat), v47 = (.slice A49 n50 c51) ∧ Cll Try.prog 9 #[(.slice A44 n45 c46), (.slice A49 n50 c51)] w48 fun v52 w53 => (∃ (A54 : Option Addr) (n55 : Nat) (c56 : Nat), v52 = (.slice A54 n55 c56) ∧ Cll Try.prog 10 #[(.slice A54 n55 c56), (.slice A39 n40 c41)] w53 fun v57 w58 => (∃ (b59 : Bool), v57 = (.bool b59) ∧ bcase (!b59) (K (.bool false) w58) (Cll Try.prog 8 #[(.slice A0 n0 c0)] w58 fun v60 w61 => (∃ (A62 : Option Addr) (n63 : Nat) (c64 : Nat), v60 = (.slice A62 n63 c64) ∧ Cll Try.prog 10 #[(.slice A44 n45 c46), (.slice A62 n63 c64)] w61 fun v65 w66 => (∃ (b67 : Bool), v65 = (.bool b67) ∧ bcase (!b67) (K (.bool false) w66) (Cll Try.prog 8 #[(.slice A1 n1 c1)] w66 fun v68 w69 => (∃ (A70 : Option Addr) (n71 : Nat) (c72 : Nat), v68 = (.slice A70 n71 c72) ∧ Cll Try.prog 10 #[(.slice A49 n50 c51), (.slice A70 n71 c72)] w69 fun v73 w74 => (∃ (b75 : Bool), v73 = (.bool b75) ∧ bcase (!b75) (K (.bool false) w74) (Cll Try.prog 11 #[(.slice A44 n45 c46), (.int .i64 1)] w74 fun v76 w77 => (∃ (n78 : Int), v76 = (.int .i64 n78) ∧ Cll Try.prog 11 #[(.slice A49 n50 c51), (.int .i64 n78)] w77 fun v79 w80 => (∃ (n81 : Int), v79 = (.int .i64 n81) ∧ bcase (decide (n81 < 0)) (K (.bool false) w80) (Cll Try.prog 10 #[(.slice A54 n55 c56), (.slice A39 n40 c41)] w80 fun v83 w84 => (∃ (b85 : Bool), v83 = (.bool b85) ∧ bcase (!b85) (K (.bool false) w84) (Cll Try.prog 11 #[(.slice A54 n55 c56), (.int .i64 1)] w84 fun v86 w87 => (∃ (n88 : Int), v86 = (.int .i64 n88) ∧ Cll Try.prog 12 #[(.slice A54 n55 c56), (.int .i64 1)] w87 fun v89 w90 => (∃ (n91 : Int), v89 = (.int .i64 n91) ∧ bcase (decide (n91 < 0)) (K (.bool false) w90) (bcase (n91 != n88) (K (.bool false) w90) (Cll Try.prog 8 #[(.slice A0 n0 c0)] w90 fun v92 w93 => (∃ (A94 : Option Addr) (n95 : Nat) (c96 : Nat), v92 = (.slice A94 n95 c96) ∧ Cll Try.prog 8 #[(.slice A1 n1 c1)] w93 fun v97 w98 => (∃ (A99 : Option Addr) (n100 : Nat) (c101 : Nat), v97 = (.slice A99 n100 c101) ∧ Cll Try.prog 9 #[(.slice A94 n95 c96), (.slice A99 n100 c101)] w98 fun v102 w103 => (∃ (A104 : Option Addr) (n105 : Nat) (c106 : Nat), v102 = (.slice A104 n105 c106) ∧ Cll Try.prog 10 #[(.slice A104 n105 c106), (.slice A39 n40 c41)] w103 fun v107 w108 => (∃ (b109 : Bool), v107 = (.bool b109) ∧ bcase (!b109) (K (.bool false) w108) (Cll Try.prog 12 #[(.slice A54 n55 c56), (.int .i64 1)] w108 fun v110 w111 => (∃ (n112 : Int), v110 = (.int .i64 n112) ∧ bcase (decide (n112 < 0)) (K (.bool false) w111) (bcase (n112 != n88) (K (.bool false) w111) (K (.bool true) w111)))))))))))))))))))))))))))))))))))

def laws_FnExactAddAccesses.ann : Ann := (.seq .l (.seq .l (.seq .l (.seq (.seq .l (.two (.seq .l .l) .l)) (.seq .l (.seq (.seq .l (.two (.seq .l .l) .l)) (.seq .l (.seq .l (.seq .l (.seq .l (.seq (.seq .l (.two (.seq .l .l) .l)) (.seq (.seq .l (.two (.seq .l .l) .l)) (.seq (.seq .l (.two (.seq .l .l) .l)) (.seq .l (.seq .l (.seq .l (.seq (.seq .l (.two (.seq .l .l) .l)) (.seq .l (.seq .l (.seq .l (.seq .l (.seq (.seq .l (.two (.seq .l .l) .l)) (.seq (.seq .l (.two (.seq .l .l) .l)) (.seq .l (.seq (.seq .l (.two (.seq .l .l) .l)) (.seq .l (.seq .l (.seq (.seq .l (.two (.seq .l .l) .l)) (.seq (.seq .l (.two (.seq .l .l) .l)) (.seq .l .l))))))))))))))))))))))))))))))

theorem laws_FnExactAddAccesses.con {xs0 : List D.Access} {A0 : Option Addr} {c0 : Nat} {xs1 : List D.Access} {A1 : Option Addr} {c1 : Nat} {r : Bool} {w : World} (hp : M.laws_FnExactAddAccesses_pre xs0 xs1) (hr : r = M.laws_FnExactAddAccesses xs0 xs1) (R0 : Row el47 w A0 xs0) (hc0 : xs0.length ≤ c0) (R1 : Row el47 w A1 xs1) (hc1 : xs1.length ≤ c1) :
    Cll Try.prog 3 #[(.slice A0 xs0.length c0), (.slice A1 xs1.length c1)] w (fun v_ w_ => v_ = (.bool r) ∧ Ext w w_) := by
  have H := wp.laws_FnExactAddAccesses.math xs0 xs1 hp
  have hB := Ext.refl w
  refine beginF mixed (fn := Try.f3) (by kernel_rfl) (by kernel_rfl) (an := laws_FnExactAddAccesses.ann) (V := laws_FnExactAddAccesses.vc A0 xs0.length c0 A1 xs1.length c1) (by kernel_rfl) ?_
  unfold laws_FnExactAddAccesses.vc
  unfold wp.laws_FnExactAddAccesses at H
  obtain ⟨hp23, H⟩ := H
  obtain ⟨r21, hr22, H⟩ := callO H
  refine (laws_szAccessS.con hp23 hr22 (R0.ext hB) hc0).mono ?_
  rintro _ w24 ⟨rfl, e25⟩
  have hB := ethen hB e25
  refine ⟨r21, rfl, ?_⟩
  refine brc H (fun hc172 H => ?_) (fun hc172 H => ?_)
  ·obtain rfl := hr.trans H.symm
   exact ⟨rfl, hB⟩
  obtain ⟨hp28, H⟩ := H
  obtain ⟨r26, hr27, H⟩ := callO H
  refine (laws_szAccessS.con hp28 hr27 (R1.ext hB) hc1).mono ?_
  rintro _ w29 ⟨rfl, e30⟩
  have hB := ethen hB e30
  refine ⟨r26, rfl, ?_⟩
  refine brc H (fun hc171 H => ?_) (fun hc171 H => ?_)
  ·obtain rfl := hr.trans H.symm
   exact ⟨rfl, hB⟩
  obtain ⟨hp33, H⟩ := H
  obtain ⟨r31, hr32, H⟩ := callO H
  refine (laws_toAccessS.con hp33 hr32 (R0.ext hB) hc0).mono ?_
  rintro _ w34 ⟨A36, c37, rfl, P3, e35⟩
  have O3 := P3.mono hB.size
  have hB := ethen hB e35
  refine ⟨A36, r31.length, c37, rfl, ?_⟩
  obtain ⟨hp40, H⟩ := H
  obtain ⟨r38, hr39, H⟩ := callO H
  refine (laws_toAccessS.con hp40 hr39 (R1.ext hB) hc1).mono ?_
  rintro _ w41 ⟨A43, c44, rfl, P4, e42⟩
  have N3_4 := Own.apart2_new O3 P4 (Nat.le_refl _)
  have O3 := O3.ext e42
  have O4 := P4.mono hB.size
  have hB := ethen hB e42
  refine ⟨A43, r38.length, c44, rfl, ?_⟩
  obtain ⟨hp47, H⟩ := H
  obtain ⟨r45, hr46, H⟩ := callO H
  refine (spec_AddAccesses.con hp47 hr46 O3.row O3.le O4.row O4.le).mono ?_
  rintro _ w48 ⟨A50, c51, rfl, P5, e49⟩
  have N3_5 := Own.apart2_new O3 P5 (Nat.le_refl _)
  have N4_5 := Own.apart2_new O4 P5 (Nat.le_refl _)
  have O3 := O3.ext e49
  have O4 := O4.ext e49
  have O5 := P5.mono hB.size
  have hB := ethen hB e49
  refine ⟨A50, r45.length, c51, rfl, ?_⟩
  obtain ⟨hp54, H⟩ := H
  obtain ⟨r52, hr53, H⟩ := callO H
  refine (laws_toAccessS.con hp54 hr53 (R0.ext hB) hc0).mono ?_
  rintro _ w55 ⟨A57, c58, rfl, P6, e56⟩
  have N5_6 := Own.apart2_new O5 P6 (Nat.le_refl _)
  have O5 := O5.ext e56
  have O6 := P6.mono hB.size
  have hB := ethen hB e56
  refine ⟨A57, r52.length, c58, rfl, ?_⟩
  obtain ⟨hp61, H⟩ := H
  obtain ⟨r59, hr60, H⟩ := callO H
  refine (laws_toAccessS.con hp61 hr60 (R1.ext hB) hc1).mono ?_
  rintro _ w62 ⟨A64, c65, rfl, P7, e63⟩
  have N5_7 := Own.apart2_new O5 P7 (Nat.le_refl _)
  have N6_7 := Own.apart2_new O6 P7 (Nat.le_refl _)
  have O5 := O5.ext e63
  have O6 := O6.ext e63
  have O7 := P7.mono hB.size
  have hB := ethen hB e63
  refine ⟨A64, r59.length, c65, rfl, ?_⟩
  obtain ⟨hp68, H⟩ := H
  obtain ⟨r66, hr67, H⟩ := callO H
  refine (impl_AddAccesses.con hp68 hr67 O6.row O6.le O7.row O7.le).mono ?_
  rintro _ w69 ⟨A71, c72, rfl, P8, e70⟩
  have N5_8 := Own.apart2_new O5 P8 (Nat.le_refl _)
  have N6_8 := Own.apart2_new O6 P8 (Nat.le_refl _)
  have N7_8 := Own.apart2_new O7 P8 (Nat.le_refl _)
  have O5 := O5.ext e70
  have O6 := O6.ext e70
  have O7 := O7.ext e70
  have O8 := P8.mono hB.size
  have hB := ethen hB e70
  refine ⟨A71, r66.length, c72, rfl, ?_⟩
  obtain ⟨hp75, H⟩ := H
  obtain ⟨r73, hr74, H⟩ := callO H
  refine (laws_eqAccessS.con hp75 hr74 O8.row O8.le O5.row O5.le).mono ?_
  rintro _ w76 ⟨rfl, e77⟩
  have O5 := O5.ext e77
  have O6 := O6.ext e77
  have O7 := O7.ext e77
  have O8 := O8.ext e77
  have hB := ethen hB e77
  refine ⟨r73, rfl, ?_⟩
  refine brc H (fun hc170 H => ?_) (fun hc170 H => ?_)
  ·obtain rfl := hr.trans H.symm
   exact ⟨rfl, hB⟩
  obtain ⟨hp80, H⟩ := H
  obtain ⟨r78, hr79, H⟩ := callO H
  refine (laws_toAccessS.con hp80 hr79 (R0.ext hB) hc0).mono ?_
  rintro _ w81 ⟨A83, c84, rfl, P9, e82⟩
  have N5_9 := Own.apart2_new O5 P9 (Nat.le_refl _)
  have N6_9 := Own.apart2_new O6 P9 (Nat.le_refl _)
  have N7_9 := Own.apart2_new O7 P9 (Nat.le_refl _)
  have N8_9 := Own.apart2_new O8 P9 (Nat.le_refl _)
  have O5 := O5.ext e82
  have O6 := O6.ext e82
  have O7 := O7.ext e82
  have O8 := O8.ext e82
  have O9 := P9.mono hB.size
  have hB := ethen hB e82
  refine ⟨A83, r78.length, c84, rfl, ?_⟩
  obtain ⟨hp87, H⟩ := H
  obtain ⟨r85, hr86, H⟩ := callO H
  refine (laws_eqAccessS.con hp87 hr86 O6.row O6.le O9.row O9.le).mono ?_
  rintro _ w88 ⟨rfl, e89⟩
  have O5 := O5.ext e89
  have O6 := O6.ext e89
  have O7 := O7.ext e89
  have O8 := O8.ext e89
  have O9 := O9.ext e89
  have hB := ethen hB e89
  refine ⟨r85, rfl, ?_⟩
  refine brc H (fun hc169 H => ?_) (fun hc169 H => ?_)
  ·obtain rfl := hr.trans H.symm
   exact ⟨rfl, hB⟩
  obtain ⟨hp92, H⟩ := H
  obtain ⟨r90, hr91, H⟩ := callO H
  refine (laws_toAccessS.con hp92 hr91 (R1.ext hB) hc1).mono ?_
  rintro _ w93 ⟨A95, c96, rfl, P10, e94⟩
  have N5_10 := Own.apart2_new O5 P10 (Nat.le_refl _)
  have N6_10 := Own.apart2_new O6 P10 (Nat.le_refl _)
  have N7_10 := Own.apart2_new O7 P10 (Nat.le_refl _)
  have N8_10 := Own.apart2_new O8 P10 (Nat.le_refl _)
  have O5 := O5.ext e94
  have O6 := O6.ext e94
  have O7 := O7.ext e94
  have O8 := O8.ext e94
  have O10 := P10.mono hB.size
  have hB := ethen hB e94
  refine ⟨A95, r90.length, c96, rfl, ?_⟩
  obtain ⟨hp99, H⟩ := H
  obtain ⟨r97, hr98, H⟩ := callO H
  refine (laws_eqAccessS.con hp99 hr98 O7.row O7.le O10.row O10.le).mono ?_
  rintro _ w100 ⟨rfl, e101⟩
  have O5 := O5.ext e101
  have O6 := O6.ext e101
  have O7 := O7.ext e101
  have O8 := O8.ext e101
  have O10 := O10.ext e101
  have hB := ethen hB e101
  refine ⟨r97, rfl, ?_⟩
  refine brc H (fun hc168 H => ?_) (fun hc168 H => ?_)
  ·obtain rfl := hr.trans H.symm
   exact ⟨rfl, hB⟩
  obtain ⟨hp104, H⟩ := H
  obtain ⟨r102, hr103, H⟩ := callO H
  refine (laws_markAccessS.con hp104 hr103 (O6.mono (Nat.zero_le _))).mono ?_
  rintro _ w105 ⟨rfl, Q6, hl107, e106⟩
  have O5 := O5.chgS e106 (N5_6).inb
  have O7 := O7.chgS e106 ((N6_7).symm).inb
  have O8 := O8.chgS e106 ((N6_8).symm).inb
  have hB := Chg.ext hB e106 O6.low
  have O6 := Q6.up O6
  refine ⟨r102.1, rfl, ?_⟩
  obtain ⟨hp110, H⟩ := H
  obtain ⟨r108, hr109, H⟩ := callO H
  refine (laws_markAccessS.con hp110 hr109 (O7.mono (Nat.zero_le _))).mono ?_
  rintro _ w111 ⟨rfl, Q7, hl113, e112⟩
  have O5 := O5.chgS e112 (N5_7).inb
  have O8 := O8.chgS e112 ((N7_8).symm).inb
  have hB := Chg.ext hB e112 O7.low
  have O7 := Q7.up O7
  refine ⟨r108.1, rfl, ?_⟩
  refine brc H (fun hc167 H => ?_) (fun hc167 H => ?_)
  ·obtain rfl := hr.trans H.symm
   exact ⟨rfl, hB⟩
  obtain ⟨hp116, H⟩ := H
  obtain ⟨r114, hr115, H⟩ := callO H
  refine (laws_eqAccessS.con hp116 hr115 O8.row O8.le O5.row O5.le).mono ?_
  rintro _ w117 ⟨rfl, e118⟩
  have O5 := O5.ext e118
  have O8 := O8.ext e118
  have hB := ethen hB e118
  refine ⟨r114, rfl, ?_⟩
  refine brc H (fun hc166 H => ?_) (fun hc166 H => ?_)
  ·obtain rfl := hr.trans H.symm
   exact ⟨rfl, hB⟩
  obtain ⟨hp121, H⟩ := H
  obtain ⟨r119, hr120, H⟩ := callO H
  refine (laws_markAccessS.con hp121 hr120 (O8.mono (Nat.zero_le _))).mono ?_
  rintro _ w122 ⟨rfl, Q8, hl124, e123⟩
  have O5 := O5.chgS e123 (N5_8).inb
  have hB := Chg.ext hB e123 O8.low
  have O8 := Q8.up O8
  refine ⟨r119.1, rfl, ?_⟩
  obtain ⟨hp127, H⟩ := H
  obtain ⟨r125, hr126, H⟩ := callO H
  refine (cllArgs (by first | (simp only [List.length_set, hl124]; done) | (simp; done)) (laws_heldAccessS.con hp127 hr126 O8.row O8.le)).mono ?_
  rintro _ w128 ⟨rfl, e129⟩
  have O5 := O5.ext e129
  have O8 := O8.ext e129
  have hB := ethen hB e129
  refine ⟨r125, rfl, ?_⟩
  refine brc H (fun hc165 H => ?_) (fun hc165 H => ?_)
  ·obtain rfl := hr.trans H.symm
   exact ⟨rfl, hB⟩
  refine brc H (fun hc164 H => ?_) (fun hc164 H => ?_)
  ·obtain rfl := hr.trans H.symm
   exact ⟨rfl, hB⟩
  obtain ⟨hp132, H⟩ := H
  obtain ⟨r130, hr131, H⟩ := callO H
  refine (laws_toAccessS.con hp132 hr131 (R0.ext hB) hc0).mono ?_
  rintro _ w133 ⟨A135, c136, rfl, P11, e134⟩
  have N5_11 := Own.apart2_new O5 P11 (Nat.le_refl _)
  have N8_11 := Own.apart2_new O8 P11 (Nat.le_refl _)
  have O5 := O5.ext e134
  have O8 := O8.ext e134
  have O11 := P11.mono hB.size
  have hB := ethen hB e134
  refine ⟨A135, r130.length, c136, rfl, ?_⟩
  obtain ⟨hp139, H⟩ := H
  obtain ⟨r137, hr138, H⟩ := callO H
  refine (laws_toAccessS.con hp139 hr138 (R1.ext hB) hc1).mono ?_
  rintro _ w140 ⟨A142, c143, rfl, P12, e141⟩
  have N5_12 := Own.apart2_new O5 P12 (Nat.le_refl _)
  have N8_12 := Own.apart2_new O8 P12 (Nat.le_refl _)
  have N11_12 := Own.apart2_new O11 P12 (Nat.le_refl _)
  have O5 := O5.ext e141
  have O8 := O8.ext e141
  have O11 := O11.ext e141
  have O12 := P12.mono hB.size
  have hB := ethen hB e141
  refine ⟨A142, r137.length, c143, rfl, ?_⟩
  obtain ⟨hp146, H⟩ := H
  obtain ⟨r144, hr145, H⟩ := callO H
  refine (impl_AddAccesses.con hp146 hr145 O11.row O11.le O12.row O12.le).mono ?_
  rintro _ w147 ⟨A149, c150, rfl, P13, e148⟩
  have N5_13 := Own.apart2_new O5 P13 (Nat.le_refl _)
  have N8_13 := Own.apart2_new O8 P13 (Nat.le_refl _)
  have N11_13 := Own.apart2_new O11 P13 (Nat.le_refl _)
  have N12_13 := Own.apart2_new O12 P13 (Nat.le_refl _)
  have O5 := O5.ext e148
  have O8 := O8.ext e148
  have O11 := O11.ext e148
  have O12 := O12.ext e148
  have O13 := P13.mono hB.size
  have hB := ethen hB e148
  refine ⟨A149, r144.length, c150, rfl, ?_⟩
  obtain ⟨hp153, H⟩ := H
  obtain ⟨r151, hr152, H⟩ := callO H
  refine (laws_eqAccessS.con hp153 hr152 O13.row O13.le O5.row O5.le).mono ?_
  rintro _ w154 ⟨rfl, e155⟩
  have O5 := O5.ext e155
  have O8 := O8.ext e155
  have O13 := O13.ext e155
  have hB := ethen hB e155
  refine ⟨r151, rfl, ?_⟩
  refine brc H (fun hc163 H => ?_) (fun hc163 H => ?_)
  ·obtain rfl := hr.trans H.symm
   exact ⟨rfl, hB⟩
  obtain ⟨hp158, H⟩ := H
  obtain ⟨r156, hr157, H⟩ := callO H
  refine (cllArgs (by first | (simp only [List.length_set, hl124]; done) | (simp; done)) (laws_heldAccessS.con hp158 hr157 O8.row O8.le)).mono ?_
  rintro _ w159 ⟨rfl, e160⟩
  have O8 := O8.ext e160
  have hB := ethen hB e160
  refine ⟨r156, rfl, ?_⟩
  refine brc H (fun hc162 H => ?_) (fun hc162 H => ?_)
  ·obtain rfl := hr.trans H.symm
   exact ⟨rfl, hB⟩
  refine brc H (fun hc161 H => ?_) (fun hc161 H => ?_)
  ·obtain rfl := hr.trans H.symm
   exact ⟨rfl, hB⟩
  obtain rfl := hr.trans H.symm
  exact ⟨rfl, hB⟩
end Go.V
