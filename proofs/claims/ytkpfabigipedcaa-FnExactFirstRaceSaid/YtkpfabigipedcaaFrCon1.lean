import Derived.Test.YtkpfabigipedcaaFrMath1
import Derived.Test.YtkpfabigipedcaaSeat
import Derived.Test.YtkpfabigipedcaaVFoc
namespace Go.V
open Go.Proofs
set_option linter.unusedVariables false
set_option linter.unusedSimpArgs false
set_option maxRecDepth 100000
def laws_toAccess.vc (x0_0 : Int) (x0_1 : Int) (x0_2 : Int) (x0_3 : Int) (w : World) (K : Value → World → Prop) : Prop :=
  newK w (.cells #[(.int .i64 x0_0), (.int .i64 x0_1), (.int .i64 x0_2), (.int .i64 x0_3)] 47) fun g21 w22 => newK w22 (.cells #[(.int .i64 0), (.int .i64 0), (.int .i64 0), (.int .i64 0)] 45) fun g23 w24 => newK w24 (.cells #[(.int .i64 0), (.int .i64 0), (.int .i64 0), (.int .i64 0)] 45) fun g25 w26 => ∃ (n27 : Int), w26.cell? (((⟨g21, 0, none⟩ : Addr).add 0).add 0) = some (.int .i64 n27) ∧ stCells ((⟨g25, 0, none⟩ : Addr).add 0) [(.int .i64 n27)] 0 w26 fun w28 => ∃ (n29 : Int), w28.cell? (((⟨g21, 0, none⟩ : Addr).add 1).add 0) = some (.int .i64 n29) ∧ stCells ((⟨g25, 0, none⟩ : Addr).add 1) [(.int .i64 n29)] 0 w28 fun w30 => ∃ (n31 : Int), w30.cell? (((⟨g21, 0, none⟩ : Addr).add 2).add 0) = some (.int .i64 n31) ∧ stCells ((⟨g25, 0, none⟩ : Addr).add 2) [(.int .i64 n31)] 0 w30 fun w32 => ∃ (n33 : Int), w32.cell? (((⟨g21, 0, none⟩ : Addr).add 3).add 0) = some (.int .i64 n33) ∧ stCells ((⟨g25, 0, none⟩ : Addr).add 3) [(.int .i64 n33)] 0 w32 fun w34 => ∃ (n35 : Int), w34.cell? ((⟨g25, 0, none⟩ : Addr).add 0) = some (.int .i64 n35) ∧ ∃ (n36 : Int), w34.cell? ((⟨g25, 0, none⟩ : Addr).add 1) = some (.int .i64 n36) ∧ ∃ (n37 : Int), w34.cell? ((⟨g25, 0, none⟩ : Addr).add 2) = some (.int .i64 n37) ∧ ∃ (n38 : Int), w34.cell? ((⟨g25, 0, none⟩ : Addr).add 3) = some (.int .i64 n38) ∧ stCells (⟨g23, 0, none⟩ : Addr) [(.int .i64 n35), (.int .i64 n36), (.int .i64 n37), (.int .i64 n38)] 0 w34 fun w39 => ∃ (n40 : Int), w39.cell? ((⟨g23, 0, none⟩ : Addr).add 0) = some (.int .i64 n40) ∧ ∃ (n41 : Int), w39.cell? ((⟨g23, 0, none⟩ : Addr).add 1) = some (.int .i64 n41) ∧ ∃ (n42 : Int), w39.cell? ((⟨g23, 0, none⟩ : Addr).add 2) = some (.int .i64 n42) ∧ ∃ (n43 : Int), w39.cell? ((⟨g23, 0, none⟩ : Addr).add 3) = some (.int .i64 n43) ∧ K (.agg #[(.int .i64 n40), (.int .i64 n41), (.int .i64 n42), (.int .i64 n43)]) w39

def laws_toAccess.ann : Ann := (.seq .l (.seq .l (.seq .l (.seq .l (.seq .l (.seq .l (.seq .l .l)))))))

theorem laws_toAccess.con {s0 : D.Access} {r : D.Access} {w : World} (hr : r = M.laws_toAccess s0)  :
    Cll Try.prog 22 #[(.agg #[(.int .i64 s0.Phase), (.int .i64 s0.Warp), (.int .i64 s0.Address), (.int .i64 s0.Kind)])] w (fun v_ w_ => v_ = (.agg #[(.int .i64 r.Phase), (.int .i64 r.Warp), (.int .i64 r.Address), (.int .i64 r.Kind)]) ∧ Ext w w_) := by
  have H := wp.laws_toAccess.math s0
  have hB := Ext.refl w
  refine beginF mixed (fn := Try.f22) (by kernel_rfl) (by kernel_rfl) (an := laws_toAccess.ann) (V := laws_toAccess.vc s0.Phase s0.Warp s0.Address s0.Kind) (by kernel_rfl) ?_
  unfold laws_toAccess.vc
  unfold wp.laws_toAccess at H
  refine newBlk (fun g1_ w21 L1 P1 e22 => ?_)
  have O1 := P1
  have L1 := Nat.le_trans hB.size L1
  have hB := ethen hB e22
  refine newBlk (fun g2_ w23 L2 P2 e24 => ?_)
  have N1_2 := O1.ne L2
  have O1 := O1.ext e24
  have O2 := P2
  have L2 := Nat.le_trans hB.size L2
  have hB := ethen hB e24
  refine newBlk (fun g3_ w25 L3 P3 e26 => ?_)
  have N1_3 := O1.ne L3
  have N2_3 := O2.ne L3
  have O1 := O1.ext e26
  have O2 := O2.ext e26
  have O3 := P3
  have L3 := Nat.le_trans hB.size L3
  have hB := ethen hB e26
  refine ⟨_, (O1.at 0 rfl rfl), ?_⟩
  refine stBlk O3 (o := 0) (cs' := #[(.int .i64 s0.Phase), (.int .i64 0), (.int .i64 0), (.int .i64 0)]) rfl rfl (Nat.le_of_ble_eq_true rfl) rfl (fun w27 P3 e28 => ?_)
  have O1_ := O1.chg e28 N1_3
  have O2_ := O2.chg e28 N2_3
  have O1 := O1_
  have O2 := O2_
  have hB := echg hB e28 L3
  have O3 := P3
  refine ⟨_, (O1.at 1 rfl rfl), ?_⟩
  refine stBlk O3 (o := 1) (cs' := #[(.int .i64 s0.Phase), (.int .i64 s0.Warp), (.int .i64 0), (.int .i64 0)]) rfl rfl (Nat.le_of_ble_eq_true rfl) rfl (fun w29 P3 e30 => ?_)
  have O1_ := O1.chg e30 N1_3
  have O2_ := O2.chg e30 N2_3
  have O1 := O1_
  have O2 := O2_
  have hB := echg hB e30 L3
  have O3 := P3
  refine ⟨_, (O1.at 2 rfl rfl), ?_⟩
  refine stBlk O3 (o := 2) (cs' := #[(.int .i64 s0.Phase), (.int .i64 s0.Warp), (.int .i64 s0.Address), (.int .i64 0)]) rfl rfl (Nat.le_of_ble_eq_true rfl) rfl (fun w31 P3 e32 => ?_)
  have O1_ := O1.chg e32 N1_3
  have O2_ := O2.chg e32 N2_3
  have O1 := O1_
  have O2 := O2_
  have hB := echg hB e32 L3
  have O3 := P3
  refine ⟨_, (O1.at 3 rfl rfl), ?_⟩
  refine stBlk O3 (o := 3) (cs' := #[(.int .i64 s0.Phase), (.int .i64 s0.Warp), (.int .i64 s0.Address), (.int .i64 s0.Kind)]) rfl rfl (Nat.le_of_ble_eq_true rfl) rfl (fun w33 P3 e34 => ?_)
  have O1_ := O1.chg e34 N1_3
  have O2_ := O2.chg e34 N2_3
  have O1 := O1_
  have O2 := O2_
  have hB := echg hB e34 L3
  have O3 := P3
  refine ⟨_, (O3.at 0 rfl rfl), _, (O3.at 1 rfl rfl), _, (O3.at 2 rfl rfl), _, (O3.at 3 rfl rfl), ?_⟩
  refine stBlk O2 (o := 0) (cs' := #[(.int .i64 s0.Phase), (.int .i64 s0.Warp), (.int .i64 s0.Address), (.int .i64 s0.Kind)]) rfl rfl (Nat.le_of_ble_eq_true rfl) rfl (fun w35 P2 e36 => ?_)
  have O3_ := O3.chg e36 (N2_3).symm
  have O3 := O3_
  have hB := echg hB e36 L2
  have O2 := P2
  refine ⟨_, (O2.at 0 rfl rfl), _, (O2.at 1 rfl rfl), _, (O2.at 2 rfl rfl), _, (O2.at 3 rfl rfl), ?_⟩
  obtain rfl := hr.trans H.symm
  exact ⟨rfl, hB⟩
def impl_IsRace.vc (x0_0 : Int) (x0_1 : Int) (x0_2 : Int) (x0_3 : Int) (x1_0 : Int) (x1_1 : Int) (x1_2 : Int) (x1_3 : Int) (w : World) (K : Value → World → Prop) : Prop :=
  newK w (.cells #[(.int .i64 x0_0), (.int .i64 x0_1), (.int .i64 x0_2), (.int .i64 x0_3)] 45) fun g21 w22 => newK w22 (.cells #[(.int .i64 x1_0), (.int .i64 x1_1), (.int .i64 x1_2), (.int .i64 x1_3)] 45) fun g23 w24 => JoinT (σ := Bool × Unit) (fun J25 => ∃ (n26 : Int), w24.cell? (((⟨g21, 0, none⟩ : Addr).add 3).add 0) = some (.int .i64 n26) ∧ ∃ (n27 : Int), w24.cell? (((⟨g23, 0, none⟩ : Addr).add 3).add 0) = some (.int .i64 n27) ∧ bcase (n26 == n27) (∃ (n28 : Int), w24.cell? (((⟨g21, 0, none⟩ : Addr).add 3).add 0) = some (.int .i64 n28) ∧ bcase (n28 == 13) (J25 (true, ()) w24) (∃ (n29 : Int), w24.cell? (((⟨g21, 0, none⟩ : Addr).add 3).add 0) = some (.int .i64 n29) ∧ J25 ((n29 == 15), ()) w24)) (J25 (false, ()) w24)) fun z30 w31 => ∃ (n32 : Int), w31.cell? (((⟨g21, 0, none⟩ : Addr).add 0).add 0) = some (.int .i64 n32) ∧ ∃ (n33 : Int), w31.cell? (((⟨g23, 0, none⟩ : Addr).add 0).add 0) = some (.int .i64 n33) ∧ bcase (n32 == n33) (∃ (n34 : Int), w31.cell? (((⟨g21, 0, none⟩ : Addr).add 2).add 0) = some (.int .i64 n34) ∧ ∃ (n35 : Int), w31.cell? (((⟨g23, 0, none⟩ : Addr).add 2).add 0) = some (.int .i64 n35) ∧ bcase (n34 == n35) (∃ (n36 : Int), w31.cell? (((⟨g21, 0, none⟩ : Addr).add 1).add 0) = some (.int .i64 n36) ∧ ∃ (n37 : Int), w31.cell? (((⟨g23, 0, none⟩ : Addr).add 1).add 0) = some (.int .i64 n37) ∧ bcase (n36 != n37) (K (.bool (!z30.1)) w31) (K (.bool false) w31)) (K (.bool false) w31)) (K (.bool false) w31)

def impl_IsRace.ann : Ann := (.seq .l (.cut [(5, .bool)] .l (.seq .l .l)))

theorem impl_IsRace.con {s0 : D.Access} {s1 : D.Access} {r : Bool} {w : World} (hr : r = M.impl_IsRace s0 s1)  :
    Cll Try.prog 26 #[(.agg #[(.int .i64 s0.Phase), (.int .i64 s0.Warp), (.int .i64 s0.Address), (.int .i64 s0.Kind)]), (.agg #[(.int .i64 s1.Phase), (.int .i64 s1.Warp), (.int .i64 s1.Address), (.int .i64 s1.Kind)])] w (fun v_ w_ => v_ = (.bool r) ∧ Ext w w_) := by
  have H := wp.impl_IsRace.math s0 s1
  have hB := Ext.refl w
  refine beginF mixed (fn := Try.f26) (by kernel_rfl) (by kernel_rfl) (an := impl_IsRace.ann) (V := impl_IsRace.vc s0.Phase s0.Warp s0.Address s0.Kind s1.Phase s1.Warp s1.Address s1.Kind) (by kernel_rfl) ?_
  unfold impl_IsRace.vc
  unfold wp.impl_IsRace at H
  refine newBlk (fun g1_ w21 L1 P1 e22 => ?_)
  have O1 := P1
  have L1 := Nat.le_trans hB.size L1
  have hB := ethen hB e22
  refine newBlk (fun g2_ w23 L2 P2 e24 => ?_)
  have N1_2 := O1.ne L2
  have O1 := O1.ext e24
  have O2 := P2
  have L2 := Nat.le_trans hB.size L2
  have hB := ethen hB e24
  obtain ⟨K35, hKK35, H⟩ := joinP_out H
  refine ⟨fun z_ w_ => ∃ (b25 : Bool), z_ = (b25, ()) ∧ K35 (b25, ()) ∧ Ext w w_ ∧ Blk w_ g1_ 45 #[(.int .i64 s0.Phase), (.int .i64 s0.Warp), (.int .i64 s0.Address), (.int .i64 s0.Kind)] ∧ Blk w_ g2_ 45 #[(.int .i64 s1.Phase), (.int .i64 s1.Warp), (.int .i64 s1.Address), (.int .i64 s1.Kind)], ?_, ?_⟩
  ·refine ⟨_, (O1.at 3 rfl rfl), _, (O2.at 3 rfl rfl), ?_⟩
   refine brc H (fun hc30 H => ?_) (fun hc30 H => ?_)
   ·refine ⟨_, (O1.at 3 rfl rfl), ?_⟩
    refine brc H (fun hc29 H => ?_) (fun hc29 H => ?_)
    ·exact ⟨true, rfl, H, hB, O1, O2⟩
    refine ⟨_, (O1.at 3 rfl rfl), ?_⟩
    exact ⟨(s0.Kind == 15), rfl, H, hB, O1, O2⟩
   exact ⟨false, rfl, H, hB, O1, O2⟩
  rintro _ w27 ⟨b25, rfl, H, hB, O1, O2⟩
  have H := hKK35 _ H
  try dsimp only at H ⊢
  refine ⟨_, (O1.at 0 rfl rfl), _, (O2.at 0 rfl rfl), ?_⟩
  refine brc H (fun hc33 H => ?_) (fun hc33 H => ?_)
  ·refine ⟨_, (O1.at 2 rfl rfl), _, (O2.at 2 rfl rfl), ?_⟩
   refine brc H (fun hc32 H => ?_) (fun hc32 H => ?_)
   ·refine ⟨_, (O1.at 1 rfl rfl), _, (O2.at 1 rfl rfl), ?_⟩
    refine brc H (fun hc31 H => ?_) (fun hc31 H => ?_)
    ·obtain rfl := hr.trans H.symm
     exact ⟨rfl, hB⟩
    obtain rfl := hr.trans H.symm
    exact ⟨rfl, hB⟩
   obtain rfl := hr.trans H.symm
   exact ⟨rfl, hB⟩
  obtain rfl := hr.trans H.symm
  exact ⟨rfl, hB⟩
def spec_IsRace.vc (x0_0 : Int) (x0_1 : Int) (x0_2 : Int) (x0_3 : Int) (x1_0 : Int) (x1_1 : Int) (x1_2 : Int) (x1_3 : Int) (w : World) (K : Value → World → Prop) : Prop :=
  newK w (.cells #[(.int .i64 x0_0), (.int .i64 x0_1), (.int .i64 x0_2), (.int .i64 x0_3)] 45) fun g21 w22 => newK w22 (.cells #[(.int .i64 x1_0), (.int .i64 x1_1), (.int .i64 x1_2), (.int .i64 x1_3)] 45) fun g23 w24 => ∃ (n26 : Int), w24.cell? (((⟨g21, 0, none⟩ : Addr).add 0).add 0) = some (.int .i64 n26) ∧ ∃ (n27 : Int), w24.cell? (((⟨g23, 0, none⟩ : Addr).add 0).add 0) = some (.int .i64 n27) ∧ bcase (n26 != n27) (K (.bool false) w24) (∃ (n28 : Int), w24.cell? (((⟨g21, 0, none⟩ : Addr).add 2).add 0) = some (.int .i64 n28) ∧ ∃ (n29 : Int), w24.cell? (((⟨g23, 0, none⟩ : Addr).add 2).add 0) = some (.int .i64 n29) ∧ bcase (n28 != n29) (K (.bool false) w24) (∃ (n30 : Int), w24.cell? (((⟨g21, 0, none⟩ : Addr).add 1).add 0) = some (.int .i64 n30) ∧ ∃ (n31 : Int), w24.cell? (((⟨g23, 0, none⟩ : Addr).add 1).add 0) = some (.int .i64 n31) ∧ bcase (n30 == n31) (K (.bool false) w24) (∃ (n32 : Int), w24.cell? (((⟨g21, 0, none⟩ : Addr).add 3).add 0) = some (.int .i64 n32) ∧ ∃ (n33 : Int), w24.cell? (((⟨g23, 0, none⟩ : Addr).add 3).add 0) = some (.int .i64 n33) ∧ bcase (n32 != n33) (K (.bool true) w24) (∃ (n34 : Int), w24.cell? (((⟨g21, 0, none⟩ : Addr).add 3).add 0) = some (.int .i64 n34) ∧ bcase (n34 != 13) (∃ (n35 : Int), w24.cell? (((⟨g21, 0, none⟩ : Addr).add 3).add 0) = some (.int .i64 n35) ∧ K (.bool (n35 != 15)) w24) (K (.bool false) w24)))))

def spec_IsRace.ann : Ann := (.seq .l (.seq (.seq .l (.two (.seq .l .l) .l)) (.seq .l .l)))

theorem spec_IsRace.con {s0 : D.Access} {s1 : D.Access} {r : Bool} {w : World} (hr : r = M.spec_IsRace s0 s1)  :
    Cll Try.prog 25 #[(.agg #[(.int .i64 s0.Phase), (.int .i64 s0.Warp), (.int .i64 s0.Address), (.int .i64 s0.Kind)]), (.agg #[(.int .i64 s1.Phase), (.int .i64 s1.Warp), (.int .i64 s1.Address), (.int .i64 s1.Kind)])] w (fun v_ w_ => v_ = (.bool r) ∧ Ext w w_) := by
  have H := wp.spec_IsRace.math s0 s1
  have hB := Ext.refl w
  refine beginF mixed (fn := Try.f25) (by kernel_rfl) (by kernel_rfl) (an := spec_IsRace.ann) (V := spec_IsRace.vc s0.Phase s0.Warp s0.Address s0.Kind s1.Phase s1.Warp s1.Address s1.Kind) (by kernel_rfl) ?_
  unfold spec_IsRace.vc
  unfold wp.spec_IsRace at H
  refine newBlk (fun g1_ w21 L1 P1 e22 => ?_)
  have O1 := P1
  have L1 := Nat.le_trans hB.size L1
  have hB := ethen hB e22
  refine newBlk (fun g2_ w23 L2 P2 e24 => ?_)
  have N1_2 := O1.ne L2
  have O1 := O1.ext e24
  have O2 := P2
  have L2 := Nat.le_trans hB.size L2
  have hB := ethen hB e24
  refine ⟨_, (O1.at 0 rfl rfl), _, (O2.at 0 rfl rfl), ?_⟩
  refine brc H (fun hc29 H => ?_) (fun hc29 H => ?_)
  ·obtain rfl := hr.trans H.symm
   exact ⟨rfl, hB⟩
  refine ⟨_, (O1.at 2 rfl rfl), _, (O2.at 2 rfl rfl), ?_⟩
  refine brc H (fun hc28 H => ?_) (fun hc28 H => ?_)
  ·obtain rfl := hr.trans H.symm
   exact ⟨rfl, hB⟩
  refine ⟨_, (O1.at 1 rfl rfl), _, (O2.at 1 rfl rfl), ?_⟩
  refine brc H (fun hc27 H => ?_) (fun hc27 H => ?_)
  ·obtain rfl := hr.trans H.symm
   exact ⟨rfl, hB⟩
  refine ⟨_, (O1.at 3 rfl rfl), _, (O2.at 3 rfl rfl), ?_⟩
  refine brc H (fun hc26 H => ?_) (fun hc26 H => ?_)
  ·obtain rfl := hr.trans H.symm
   exact ⟨rfl, hB⟩
  refine ⟨_, (O1.at 3 rfl rfl), ?_⟩
  refine brc H (fun hc25 H => ?_) (fun hc25 H => ?_)
  ·refine ⟨_, (O1.at 3 rfl rfl), ?_⟩
   obtain rfl := hr.trans H.symm
   exact ⟨rfl, hB⟩
  obtain rfl := hr.trans H.symm
  exact ⟨rfl, hB⟩
def laws_szAccessS.vc (A0 : Option Addr) (n0 : Nat) (c0 : Nat) (x1 : Int) (w : World) (K : Value → World → Prop) : Prop :=
  bcase (decide ((IntKind.wrap .i64 (x1 - ((n0 : Nat) : Int))) < 0)) (K (.int .i64 (-1)) w) (K (.int .i64 (IntKind.wrap .i64 (x1 - ((n0 : Nat) : Int)))) w)

def laws_szAccessS.ann : Ann := (.seq .l (.seq .l (.seq (.seq .l (.two (.seq .l .l) .l)) (.seq .l .l))))

theorem laws_szAccessS.con {xs0 : List D.Access} {A0 : Option Addr} {c0 : Nat} {x1 : Int} {r : Int} {w : World} (hp : M.laws_szAccessS_pre xs0 x1) (hr : r = M.laws_szAccessS xs0 x1) (R0 : Row el47 w A0 xs0) (hc0 : xs0.length ≤ c0) :
    Cll Try.prog 6 #[(.slice A0 xs0.length c0), (.int .i64 x1)] w (fun v_ w_ => v_ = (.int .i64 r) ∧ Ext w w_) := by
  have H := wp.laws_szAccessS.math xs0 x1 hp
  have hB := Ext.refl w
  refine beginF mixed (fn := Try.f6) (by kernel_rfl) (by kernel_rfl) (an := laws_szAccessS.ann) (V := laws_szAccessS.vc A0 xs0.length c0 x1) (by kernel_rfl) ?_
  unfold laws_szAccessS.vc
  unfold wp.laws_szAccessS at H
  refine brc H (fun hc21 H => ?_) (fun hc21 H => ?_)
  ·obtain rfl := hr.trans H.symm
   exact ⟨rfl, hB⟩
  obtain rfl := hr.trans H.symm
  exact ⟨rfl, hB⟩
def laws_toAccessS.vc (A0 : Option Addr) (n0 : Nat) (c0 : Nat) (w : World) (K : Value → World → Prop) : Prop :=
  vcMake Try.prog 24 ((n0 : Nat) : Int) ((n0 : Nat) : Int) w fun g21 w22 => LoopT (σ := Int × Unit) (fun z23 w24 next25 => bcase (decide (z23.1 < ((n0 : Nat) : Int))) (((0 : Int) ≤ z23.1 ∧ z23.1 < ((n0 : Nat) : Int) ∧ ∃ a26 : Addr, A0 = some a26 ∧ ∃ (n27 : Int), w24.cell? ((a26.add ((z23.1.toNat) * 4)).add 0) = some (.int .i64 n27) ∧ ∃ (n28 : Int), w24.cell? ((a26.add ((z23.1.toNat) * 4)).add 1) = some (.int .i64 n28) ∧ ∃ (n29 : Int), w24.cell? ((a26.add ((z23.1.toNat) * 4)).add 2) = some (.int .i64 n29) ∧ ∃ (n30 : Int), w24.cell? ((a26.add ((z23.1.toNat) * 4)).add 3) = some (.int .i64 n30) ∧ Cll Try.prog 22 #[(.agg #[(.int .i64 n27), (.int .i64 n28), (.int .i64 n29), (.int .i64 n30)])] w24 fun v31 w32 => (∃ (n33 : Int), True ∧ ∃ (n34 : Int), True ∧ ∃ (n35 : Int), True ∧ ∃ (n36 : Int), True ∧ v31 = (.agg #[(.int .i64 n33), (.int .i64 n34), (.int .i64 n35), (.int .i64 n36)]) ∧ ((0 : Int) ≤ z23.1 ∧ z23.1 < (((((n0 : Nat) : Int).toNat) : Nat) : Int) ∧ ∃ a37 : Addr, (some (⟨g21, 0, none⟩ : Addr)) = some a37 ∧ stCells (a37.add ((z23.1.toNat) * 4)) [(.int .i64 n33), (.int .i64 n34), (.int .i64 n35), (.int .i64 n36)] 0 w32 fun w38 => next25 ((IntKind.wrap .i64 (z23.1 + 1)), ()) w38)))) (K (.slice (some (⟨g21, 0, none⟩ : Addr)) (((n0 : Nat) : Int).toNat) (((n0 : Nat) : Int).toNat)) w24)) (0, ()) w22

def laws_toAccessS.ann : Ann := (.seq .l (.seq .l (.seq (.seq .l (.one (.loop [(4, .int .i64)] (.seq (.seq .l (.two .l .l)) (.seq (.one .l) .l))))) (.seq .l .l))))

theorem laws_toAccessS.con {xs0 : List D.Access} {A0 : Option Addr} {c0 : Nat} {r : List D.Access} {w : World} (hp : M.laws_toAccessS_pre xs0) (hr : r = M.laws_toAccessS xs0) (R0 : Row el47 w A0 xs0) (hc0 : xs0.length ≤ c0) :
    Cll Try.prog 8 #[(.slice A0 xs0.length c0)] w (fun v_ w_ => ∃ (A0_ : Option Addr) (c0_ : Nat), v_ = (.slice A0_ r.length c0_) ∧ Own el45 w_ w.heap.size A0_ c0_ r ∧ Ext w w_) := by
  have H := wp.laws_toAccessS.math xs0 hp
  have hB := Ext.refl w
  refine beginF mixed (fn := Try.f8) (by kernel_rfl) (by kernel_rfl) (an := laws_toAccessS.ann) (V := laws_toAccessS.vc A0 xs0.length c0) (by kernel_rfl) ?_
  unfold laws_toAccessS.vc
  unfold wp.laws_toAccessS at H
  obtain ⟨⟨h0_24, h1_25⟩, H⟩ := H
  refine makeOwn slt24 h0_24 h1_25 (fun g21 w22 P2 e23 => ?_)
  have O2 := P2.mono hB.size
  have hB := ethen hB e23
  obtain ⟨J54, ⟨m82, hJ81⟩, hS55⟩ := H
  refine ⟨fun m_ z_ w_ => ∃ (i50 : Int) (xs51 : List D.Access), z_ = (i50, ()) ∧ J54 m_ (i50, xs51, ()) ∧ Ext w w_ ∧ Own el45 w_ w.heap.size (some (⟨g21, 0, none⟩ : Addr)) (((xs0.length : Nat) : Int).toNat) xs51 ∧ (((xs0.length : Nat) : Int).toNat) = xs51.length, ⟨m82, 0, (List.replicate (((xs0.length : Nat) : Int).toNat) (default : D.Access)), rfl, hJ81, hB, O2, (by first | rfl | assumption | omega | (simp; done) | (simp; omega) | (simp; assumption))⟩, ?_⟩
  rintro m53 _ w57 ⟨i50, xs51, rfl, hJ83, hB, O2, hn52⟩
  have H := hS55 m53 _ hJ83
  clear hS55 hJ83
  try dsimp only at H ⊢
  refine brc H (fun hc79 H => ?_) (fun hc79 H => ?_)
  ·obtain ⟨⟨h0_61, h1_62⟩, H⟩ := H
   obtain ⟨a59, ha60, hat58⟩ := Row.at (R0.ext hB) h0_61 h1_62
   refine ⟨h0_61, h1_62, a59, ha60, _, (hat58 0 _ rfl), _, (hat58 1 _ rfl), _, (hat58 2 _ rfl), _, (hat58 3 _ rfl), ?_⟩
   obtain ⟨r63, hr64, H⟩ := callO H
   refine (laws_toAccess.con hr64 ).mono ?_
   rintro _ w66 ⟨rfl, e67⟩
   have O2 := O2.ext e67
   have hB := ethen hB e67
   refine ⟨r63.Phase, trivial, r63.Warp, trivial, r63.Address, trivial, r63.Kind, trivial, rfl, ?_⟩
   obtain ⟨⟨h0_71, h1_72⟩, H⟩ := H
   obtain ⟨a69, ha70, hat68⟩ := Row.at O2.row h0_71 h1_72
   refine ⟨h0_71, (by first | exact h1_72 | omega | (simp at h1_72 ⊢; omega)), a69, ha70, ?_⟩
   refine Own.storeAt O2 ha70 h0_71 h1_72 0 [(.int .i64 r63.Phase), (.int .i64 r63.Warp), (.int .i64 r63.Address), (.int .i64 r63.Kind)] (⟨r63.Phase, r63.Warp, r63.Address, r63.Kind⟩ : D.Access) rfl (Nat.le_of_ble_eq_true rfl) rfl (fun w73 P2 e74 hb75 => ?_)
   have hB := echg hB e74 hb75
   have O2 := P2
   obtain ⟨m76, hm77, hJ78⟩ := H
   exact ⟨m76, hm77, (IntKind.wrap .i64 (i50 + 1)), (List.set xs51 (i50.toNat) (⟨r63.Phase, r63.Warp, r63.Address, r63.Kind⟩ : D.Access)), rfl, hJ78, hB, O2, (by first | rfl | assumption | omega | (simp; done) | (simp; omega) | (simp; assumption))⟩
  obtain rfl := hr.trans H.symm
  exact ⟨(some (⟨g21, 0, none⟩ : Addr)), (((xs0.length : Nat) : Int).toNat), (by first | rfl | (rw [hn52]; done) | (simp; done) | (simp; omega) | (simp [*]; done)), (by first | exact O2 | (simp only [List.length_set]; exact O2) | (rw [← hn52]; exact O2)), hB⟩
def laws_eqAccess.vc (x0_0 : Int) (x0_1 : Int) (x0_2 : Int) (x0_3 : Int) (x1_0 : Int) (x1_1 : Int) (x1_2 : Int) (x1_3 : Int) (w : World) (K : Value → World → Prop) : Prop :=
  newK w (.cells #[(.int .i64 x0_0), (.int .i64 x0_1), (.int .i64 x0_2), (.int .i64 x0_3)] 45) fun g21 w22 => newK w22 (.cells #[(.int .i64 x1_0), (.int .i64 x1_1), (.int .i64 x1_2), (.int .i64 x1_3)] 45) fun g23 w24 => ∃ (n25 : Int), w24.cell? (((⟨g21, 0, none⟩ : Addr).add 0).add 0) = some (.int .i64 n25) ∧ ∃ (n26 : Int), w24.cell? (((⟨g23, 0, none⟩ : Addr).add 0).add 0) = some (.int .i64 n26) ∧ bcase (n25 != n26) (K (.bool false) w24) (∃ (n27 : Int), w24.cell? (((⟨g21, 0, none⟩ : Addr).add 1).add 0) = some (.int .i64 n27) ∧ ∃ (n28 : Int), w24.cell? (((⟨g23, 0, none⟩ : Addr).add 1).add 0) = some (.int .i64 n28) ∧ bcase (n27 != n28) (K (.bool false) w24) (∃ (n29 : Int), w24.cell? (((⟨g21, 0, none⟩ : Addr).add 2).add 0) = some (.int .i64 n29) ∧ ∃ (n30 : Int), w24.cell? (((⟨g23, 0, none⟩ : Addr).add 2).add 0) = some (.int .i64 n30) ∧ bcase (n29 != n30) (K (.bool false) w24) (∃ (n31 : Int), w24.cell? (((⟨g21, 0, none⟩ : Addr).add 3).add 0) = some (.int .i64 n31) ∧ ∃ (n32 : Int), w24.cell? (((⟨g23, 0, none⟩ : Addr).add 3).add 0) = some (.int .i64 n32) ∧ bcase (n31 != n32) (K (.bool false) w24) (K (.bool true) w24))))

def laws_eqAccess.ann : Ann := (.seq .l (.seq (.seq .l (.two (.seq .l .l) .l)) (.seq (.seq .l (.two (.seq .l .l) .l)) (.seq (.seq .l (.two (.seq .l .l) .l)) (.seq (.seq .l (.two (.seq .l .l) .l)) (.seq .l .l))))))

theorem laws_eqAccess.con {s0 : D.Access} {s1 : D.Access} {r : Bool} {w : World} (hr : r = M.laws_eqAccess s0 s1)  :
    Cll Try.prog 24 #[(.agg #[(.int .i64 s0.Phase), (.int .i64 s0.Warp), (.int .i64 s0.Address), (.int .i64 s0.Kind)]), (.agg #[(.int .i64 s1.Phase), (.int .i64 s1.Warp), (.int .i64 s1.Address), (.int .i64 s1.Kind)])] w (fun v_ w_ => v_ = (.bool r) ∧ Ext w w_) := by
  have H := wp.laws_eqAccess.math s0 s1
  have hB := Ext.refl w
  refine beginF mixed (fn := Try.f24) (by kernel_rfl) (by kernel_rfl) (an := laws_eqAccess.ann) (V := laws_eqAccess.vc s0.Phase s0.Warp s0.Address s0.Kind s1.Phase s1.Warp s1.Address s1.Kind) (by kernel_rfl) ?_
  unfold laws_eqAccess.vc
  unfold wp.laws_eqAccess at H
  refine newBlk (fun g1_ w21 L1 P1 e22 => ?_)
  have O1 := P1
  have L1 := Nat.le_trans hB.size L1
  have hB := ethen hB e22
  refine newBlk (fun g2_ w23 L2 P2 e24 => ?_)
  have N1_2 := O1.ne L2
  have O1 := O1.ext e24
  have O2 := P2
  have L2 := Nat.le_trans hB.size L2
  have hB := ethen hB e24
  refine ⟨_, (O1.at 0 rfl rfl), _, (O2.at 0 rfl rfl), ?_⟩
  refine brc H (fun hc28 H => ?_) (fun hc28 H => ?_)
  ·obtain rfl := hr.trans H.symm
   exact ⟨rfl, hB⟩
  refine ⟨_, (O1.at 1 rfl rfl), _, (O2.at 1 rfl rfl), ?_⟩
  refine brc H (fun hc27 H => ?_) (fun hc27 H => ?_)
  ·obtain rfl := hr.trans H.symm
   exact ⟨rfl, hB⟩
  refine ⟨_, (O1.at 2 rfl rfl), _, (O2.at 2 rfl rfl), ?_⟩
  refine brc H (fun hc26 H => ?_) (fun hc26 H => ?_)
  ·obtain rfl := hr.trans H.symm
   exact ⟨rfl, hB⟩
  refine ⟨_, (O1.at 3 rfl rfl), _, (O2.at 3 rfl rfl), ?_⟩
  refine brc H (fun hc25 H => ?_) (fun hc25 H => ?_)
  ·obtain rfl := hr.trans H.symm
   exact ⟨rfl, hB⟩
  obtain rfl := hr.trans H.symm
  exact ⟨rfl, hB⟩
def laws_eqAccessS.vc (A0 : Option Addr) (n0 : Nat) (c0 : Nat) (A1 : Option Addr) (n1 : Nat) (c1 : Nat) (w : World) (K : Value → World → Prop) : Prop :=
  bcase (((n0 : Nat) : Int) != ((n1 : Nat) : Int)) (K (.bool false) w) (LoopT (σ := Int × Unit) (fun z21 w22 next23 => bcase (decide (z21.1 < ((n0 : Nat) : Int))) ((∃ M24 : Nat → Prop, ((0 : Int) ≤ z21.1 ∧ z21.1 < ((n0 : Nat) : Int) ∧ ∃ a25 : Addr, A0 = some a25 ∧ ∃ (n26 : Int), (¬ M24 ((a25.add ((z21.1.toNat) * 4))).block ∧ w22.cell? ((a25.add ((z21.1.toNat) * 4)).add 0) = some (.int .i64 n26)) ∧ ∃ (n27 : Int), (¬ M24 ((a25.add ((z21.1.toNat) * 4))).block ∧ w22.cell? ((a25.add ((z21.1.toNat) * 4)).add 1) = some (.int .i64 n27)) ∧ ∃ (n28 : Int), (¬ M24 ((a25.add ((z21.1.toNat) * 4))).block ∧ w22.cell? ((a25.add ((z21.1.toNat) * 4)).add 2) = some (.int .i64 n28)) ∧ ∃ (n29 : Int), (¬ M24 ((a25.add ((z21.1.toNat) * 4))).block ∧ w22.cell? ((a25.add ((z21.1.toNat) * 4)).add 3) = some (.int .i64 n29)) ∧ ((0 : Int) ≤ z21.1 ∧ z21.1 < ((n1 : Nat) : Int) ∧ ∃ a30 : Addr, A1 = some a30 ∧ ∃ (n31 : Int), (¬ M24 ((a30.add ((z21.1.toNat) * 4))).block ∧ w22.cell? ((a30.add ((z21.1.toNat) * 4)).add 0) = some (.int .i64 n31)) ∧ ∃ (n32 : Int), (¬ M24 ((a30.add ((z21.1.toNat) * 4))).block ∧ w22.cell? ((a30.add ((z21.1.toNat) * 4)).add 1) = some (.int .i64 n32)) ∧ ∃ (n33 : Int), (¬ M24 ((a30.add ((z21.1.toNat) * 4))).block ∧ w22.cell? ((a30.add ((z21.1.toNat) * 4)).add 2) = some (.int .i64 n33)) ∧ ∃ (n34 : Int), (¬ M24 ((a30.add ((z21.1.toNat) * 4))).block ∧ w22.cell? ((a30.add ((z21.1.toNat) * 4)).add 3) = some (.int .i64 n34)) ∧ Cll Try.prog 24 #[(.agg #[(.int .i64 n26), (.int .i64 n27), (.int .i64 n28), (.int .i64 n29)]), (.agg #[(.int .i64 n31), (.int .i64 n32), (.int .i64 n33), (.int .i64 n34)])] w22.drew fun v35 w36 => (∃ (b37 : Bool), v35 = (.bool b37) ∧ SameBut M24 w22 w36 ∧ bcase (!b37) (K (.bool false) w36) (next23 ((IntKind.wrap .i64 (z21.1 + 1)), ()) w36)))))) (K (.bool true) w22)) (0, ()) w)

def laws_eqAccessS.ann : Ann := (.seq .l (.seq (.seq .l (.two (.seq .l .l) .l)) (.seq (.seq .l (.one (.loop [(5, .int .i64)] (.seq (.seq .l (.two .l .l)) (.seq (.one (.seq .l (.two (.seq .l .l) .l))) .l))))) (.seq .l .l))))

theorem laws_eqAccessS.con {xs0 : List D.Access} {A0 : Option Addr} {c0 : Nat} {xs1 : List D.Access} {A1 : Option Addr} {c1 : Nat} {r : Bool} {w : World} (hp : M.laws_eqAccessS_pre xs0 xs1) (hr : r = M.laws_eqAccessS xs0 xs1) (R0 : Row el45 w A0 xs0) (hc0 : xs0.length ≤ c0) (R1 : Row el45 w A1 xs1) (hc1 : xs1.length ≤ c1) :
    Cll Try.prog 10 #[(.slice A0 xs0.length c0), (.slice A1 xs1.length c1)] w (fun v_ w_ => v_ = (.bool r) ∧ Ext w w_) := by
  have H := wp.laws_eqAccessS.math xs0 xs1 hp
  have hB := Ext.refl w
  refine beginF mixed (fn := Try.f10) (by kernel_rfl) (by kernel_rfl) (an := laws_eqAccessS.ann) (V := laws_eqAccessS.vc A0 xs0.length c0 A1 xs1.length c1) (by kernel_rfl) ?_
  unfold laws_eqAccessS.vc
  unfold wp.laws_eqAccessS at H
  refine brc H (fun hc52 H => ?_) (fun hc52 H => ?_)
  ·obtain rfl := hr.trans H.symm
   exact ⟨rfl, hB⟩
  obtain ⟨J23, ⟨m50, hJ49⟩, hS24⟩ := H
  refine ⟨fun m_ z_ w_ => ∃ (i21 : Int), z_ = (i21, ()) ∧ J23 m_ (i21, ()) ∧ Ext w w_, ⟨m50, 0, rfl, hJ49, hB⟩, ?_⟩
  rintro m22 _ w26 ⟨i21, rfl, hJ51, hB⟩
  have H := hS24 m22 _ hJ51
  clear hS24 hJ51
  try dsimp only at H ⊢
  refine brc H (fun hc47 H => ?_) (fun hc47 H => ?_)
  ·refine ⟨(fun _ => False), ?_⟩
   obtain ⟨⟨h0_31, h1_32⟩, H⟩ := H
   obtain ⟨a29, ha30, hat28⟩ := Row.at (R0.ext hB) h0_31 h1_32
   refine ⟨h0_31, h1_32, a29, ha30, _, ⟨(fun h_ => h_), (hat28 0 _ rfl)⟩, _, ⟨(fun h_ => h_), (hat28 1 _ rfl)⟩, _, ⟨(fun h_ => h_), (hat28 2 _ rfl)⟩, _, ⟨(fun h_ => h_), (hat28 3 _ rfl)⟩, ?_⟩
   obtain ⟨⟨h0_36, h1_37⟩, H⟩ := H
   obtain ⟨a34, ha35, hat33⟩ := Row.at (R1.ext hB) h0_36 h1_37
   refine ⟨h0_36, h1_37, a34, ha35, _, ⟨(fun h_ => h_), (hat33 0 _ rfl)⟩, _, ⟨(fun h_ => h_), (hat33 1 _ rfl)⟩, _, ⟨(fun h_ => h_), (hat33 2 _ rfl)⟩, _, ⟨(fun h_ => h_), (hat33 3 _ rfl)⟩, ?_⟩
   have hS27 := Chg.refl (fun _ => False) w26
   have hB := ethen hB (Ext.drew _)
   have hS27 := hS27.then (Ext.drew _)
   obtain ⟨r38, hr39, H⟩ := callO H
   refine (laws_eqAccess.con hr39 ).mono ?_
   rintro _ w41 ⟨rfl, e42⟩
   have hB := ethen hB e42
   have hS27 := hS27.then e42
   refine ⟨r38, rfl, sameBut_chg hS27, ?_⟩
   refine brc H (fun hc46 H => ?_) (fun hc46 H => ?_)
   ·obtain rfl := hr.trans H.symm
    exact ⟨rfl, hB⟩
   obtain ⟨m43, hm44, hJ45⟩ := H
   exact ⟨m43, hm44, (IntKind.wrap .i64 (i21 + 1)), rfl, hJ45, hB⟩
  obtain rfl := hr.trans H.symm
  exact ⟨rfl, hB⟩
def spec_FirstRace.vc (A0 : Option Addr) (n0 : Nat) (c0 : Nat) (w : World) (K : Value → World → Prop) : Prop :=
  LoopT (σ := Int × Unit) (fun z21 w22 next23 => bcase (decide (z21.1 < ((n0 : Nat) : Int))) (LoopT (σ := Int × Unit) (fun z24 w25 next26 => bcase (decide (z24.1 < z21.1)) ((∃ M27 : Nat → Prop, ((0 : Int) ≤ z24.1 ∧ z24.1 < ((n0 : Nat) : Int) ∧ ∃ a28 : Addr, A0 = some a28 ∧ ∃ (n29 : Int), (¬ M27 ((a28.add ((z24.1.toNat) * 4))).block ∧ w25.cell? ((a28.add ((z24.1.toNat) * 4)).add 0) = some (.int .i64 n29)) ∧ ∃ (n30 : Int), (¬ M27 ((a28.add ((z24.1.toNat) * 4))).block ∧ w25.cell? ((a28.add ((z24.1.toNat) * 4)).add 1) = some (.int .i64 n30)) ∧ ∃ (n31 : Int), (¬ M27 ((a28.add ((z24.1.toNat) * 4))).block ∧ w25.cell? ((a28.add ((z24.1.toNat) * 4)).add 2) = some (.int .i64 n31)) ∧ ∃ (n32 : Int), (¬ M27 ((a28.add ((z24.1.toNat) * 4))).block ∧ w25.cell? ((a28.add ((z24.1.toNat) * 4)).add 3) = some (.int .i64 n32)) ∧ ((0 : Int) ≤ z21.1 ∧ z21.1 < ((n0 : Nat) : Int) ∧ ∃ a33 : Addr, A0 = some a33 ∧ ∃ (n34 : Int), (¬ M27 ((a33.add ((z21.1.toNat) * 4))).block ∧ w25.cell? ((a33.add ((z21.1.toNat) * 4)).add 0) = some (.int .i64 n34)) ∧ ∃ (n35 : Int), (¬ M27 ((a33.add ((z21.1.toNat) * 4))).block ∧ w25.cell? ((a33.add ((z21.1.toNat) * 4)).add 1) = some (.int .i64 n35)) ∧ ∃ (n36 : Int), (¬ M27 ((a33.add ((z21.1.toNat) * 4))).block ∧ w25.cell? ((a33.add ((z21.1.toNat) * 4)).add 2) = some (.int .i64 n36)) ∧ ∃ (n37 : Int), (¬ M27 ((a33.add ((z21.1.toNat) * 4))).block ∧ w25.cell? ((a33.add ((z21.1.toNat) * 4)).add 3) = some (.int .i64 n37)) ∧ Cll Try.prog 25 #[(.agg #[(.int .i64 n29), (.int .i64 n30), (.int .i64 n31), (.int .i64 n32)]), (.agg #[(.int .i64 n34), (.int .i64 n35), (.int .i64 n36), (.int .i64 n37)])] w25.drew fun v38 w39 => (∃ (b40 : Bool), v38 = (.bool b40) ∧ bcase b40 (K (.tuple #[(.int .i64 z24.1), (.int .i64 z21.1), (.bool true)]) w39) (next26 ((IntKind.wrap .i64 (z24.1 + 1)), ()) w39)))))) (next23 ((IntKind.wrap .i64 (z21.1 + 1)), ()) w25)) (0, ()) w22) (K (.tuple #[(.int .i64 0), (.int .i64 0), (.bool false)]) w22)) (0, ()) w

def spec_FirstRace.ann : Ann := (.seq .l (.seq (.seq .l (.one (.loop [(5, .int .i64)] (.seq (.seq .l (.two .l .l)) (.seq (.one (.seq .l (.one (.loop [(6, .int .i64)] (.seq (.seq .l (.two .l .l)) (.seq (.one (.seq .l (.two (.seq .l .l) .l))) .l)))))) .l))))) (.seq .l .l)))

theorem spec_FirstRace.con {xs0 : List D.Access} {A0 : Option Addr} {c0 : Nat} {r : Int × Int × Bool} {w : World} (hp : M.spec_FirstRace_pre xs0) (hr : r = M.spec_FirstRace xs0) (R0 : Row el45 w A0 xs0) (hc0 : xs0.length ≤ c0) :
    Cll Try.prog 13 #[(.slice A0 xs0.length c0)] w (fun v_ w_ => v_ = (.tuple #[(.int .i64 r.1), (.int .i64 r.2.1), (.bool r.2.2)]) ∧ Ext w w_) := by
  have H := wp.spec_FirstRace.math xs0 hp
  have hB := Ext.refl w
  refine beginF mixed (fn := Try.f13) (by kernel_rfl) (by kernel_rfl) (an := spec_FirstRace.ann) (V := spec_FirstRace.vc A0 xs0.length c0) (by kernel_rfl) ?_
  unfold spec_FirstRace.vc
  unfold wp.spec_FirstRace at H
  obtain ⟨J23, ⟨m64, hJ63⟩, hS24⟩ := H
  refine ⟨fun m_ z_ w_ => ∃ (i21 : Int), z_ = (i21, ()) ∧ J23 m_ (i21, ()) ∧ Ext w w_, ⟨m64, 0, rfl, hJ63, hB⟩, ?_⟩
  rintro m22 _ w26 ⟨i21, rfl, hJ65, hB⟩
  have H := hS24 m22 _ hJ65
  clear hS24 hJ65
  try dsimp only at H ⊢
  refine brc H (fun hc61 H => ?_) (fun hc61 H => ?_)
  ·obtain ⟨J29, ⟨m59, hJ58⟩, hS30⟩ := H
   refine ⟨fun m_ z_ w_ => ∃ (i27 : Int), z_ = (i27, ()) ∧ J29 m_ (i27, ()) ∧ Ext w w_, ⟨m59, 0, rfl, hJ58, hB⟩, ?_⟩
   rintro m28 _ w32 ⟨i27, rfl, hJ60, hB⟩
   have H := hS30 m28 _ hJ60
   clear hS30 hJ60
   try dsimp only at H ⊢
   refine brc H (fun hc56 H => ?_) (fun hc56 H => ?_)
   ·refine ⟨(fun _ => False), ?_⟩
    obtain ⟨⟨h0_37, h1_38⟩, H⟩ := H
    obtain ⟨a35, ha36, hat34⟩ := Row.at (R0.ext hB) h0_37 h1_38
    refine ⟨h0_37, h1_38, a35, ha36, _, ⟨(fun h_ => h_), (hat34 0 _ rfl)⟩, _, ⟨(fun h_ => h_), (hat34 1 _ rfl)⟩, _, ⟨(fun h_ => h_), (hat34 2 _ rfl)⟩, _, ⟨(fun h_ => h_), (hat34 3 _ rfl)⟩, ?_⟩
    obtain ⟨⟨h0_42, h1_43⟩, H⟩ := H
    obtain ⟨a40, ha41, hat39⟩ := Row.at (R0.ext hB) h0_42 h1_43
    refine ⟨h0_42, h1_43, a40, ha41, _, ⟨(fun h_ => h_), (hat39 0 _ rfl)⟩, _, ⟨(fun h_ => h_), (hat39 1 _ rfl)⟩, _, ⟨(fun h_ => h_), (hat39 2 _ rfl)⟩, _, ⟨(fun h_ => h_), (hat39 3 _ rfl)⟩, ?_⟩
    have hS33 := Chg.refl (fun _ => False) w32
    have hB := ethen hB (Ext.drew _)
    have hS33 := hS33.then (Ext.drew _)
    obtain ⟨r44, hr45, H⟩ := callO H
    refine (spec_IsRace.con hr45 ).mono ?_
    rintro _ w47 ⟨rfl, e48⟩
    have hB := ethen hB e48
    refine ⟨r44, rfl, ?_⟩
    refine brc H (fun hc52 H => ?_) (fun hc52 H => ?_)
    ·obtain rfl := hr.trans H.symm
     exact ⟨rfl, hB⟩
    obtain ⟨m49, hm50, hJ51⟩ := H
    exact ⟨m49, hm50, (IntKind.wrap .i64 (i27 + 1)), rfl, hJ51, hB⟩
   obtain ⟨m53, hm54, hJ55⟩ := H
   exact ⟨m53, hm54, (IntKind.wrap .i64 (i21 + 1)), rfl, hJ55, hB⟩
  obtain rfl := hr.trans H.symm
  exact ⟨rfl, hB⟩
def impl_FirstRace.vc (A0 : Option Addr) (n0 : Nat) (c0 : Nat) (w : World) (K : Value → World → Prop) : Prop :=
  newK w (.map #[] 0) fun g21 w22 => LoopT (σ := Int × Unit) (fun z23 w24 next25 => bcase (decide (z23.1 < ((n0 : Nat) : Int))) (((0 : Int) ≤ z23.1 ∧ z23.1 < ((n0 : Nat) : Int) ∧ ∃ a26 : Addr, A0 = some a26 ∧ ∃ (n27 : Int), w24.cell? ((a26.add ((z23.1.toNat) * 4)).add 0) = some (.int .i64 n27) ∧ ∃ (n28 : Int), w24.cell? ((a26.add ((z23.1.toNat) * 4)).add 1) = some (.int .i64 n28) ∧ ∃ (n29 : Int), w24.cell? ((a26.add ((z23.1.toNat) * 4)).add 2) = some (.int .i64 n29) ∧ ∃ (n30 : Int), w24.cell? ((a26.add ((z23.1.toNat) * 4)).add 3) = some (.int .i64 n30) ∧ newK w24 (.cells #[(.int .i64 0), (.int .i64 0), (.int .i64 0), (.int .i64 0)] 45) fun g31 w32 => stCells (⟨g31, 0, none⟩ : Addr) [(.int .i64 n27), (.int .i64 n28), (.int .i64 n29), (.int .i64 n30)] 0 w32 fun w33 => ∃ (n34 : Int), w33.cell? (((⟨g31, 0, none⟩ : Addr).add 0).add 0) = some (.int .i64 n34) ∧ ∃ (n35 : Int), w33.cell? (((⟨g31, 0, none⟩ : Addr).add 2).add 0) = some (.int .i64 n35) ∧ newK w33 (.cells #[(.int .i64 0), (.int .i64 0)] 53) fun g36 w37 => stCells (⟨g36, 0, none⟩ : Addr) [(.int .i64 n34), (.int .i64 n35)] 0 w37 fun w38 => ∃ (n39 : Int), w38.cell? ((⟨g36, 0, none⟩ : Addr).add 0) = some (.int .i64 n39) ∧ ∃ (n40 : Int), w38.cell? ((⟨g36, 0, none⟩ : Addr).add 1) = some (.int .i64 n40) ∧ Run Try.prog (Instr.lookup 51 (.map (some g21)) (.agg #[(.int .i64 n39), (.int .i64 n40)]) false) w38 fun v41 w42 => (∃ (A43 : Option Addr) (n44 : Nat) (c45 : Nat), v41 = (.slice A43 n44 c45) ∧ LoopT (σ := Int × Unit) (fun z46 w47 next48 => bcase (decide (z46.1 < ((n44 : Nat) : Int))) (((0 : Int) ≤ z46.1 ∧ z46.1 < ((n44 : Nat) : Int) ∧ ∃ a49 : Addr, A43 = some a49 ∧ ∃ (n50 : Int), w47.cell? ((a49.add ((z46.1.toNat) * 1)).add 0) = some (.int .i64 n50) ∧ (∃ M51 : Nat → Prop, ((0 : Int) ≤ n50 ∧ n50 < ((n0 : Nat) : Int) ∧ ∃ a52 : Addr, A0 = some a52 ∧ ∃ (n53 : Int), (¬ M51 ((a52.add ((n50.toNat) * 4))).block ∧ w47.cell? ((a52.add ((n50.toNat) * 4)).add 0) = some (.int .i64 n53)) ∧ ∃ (n54 : Int), (¬ M51 ((a52.add ((n50.toNat) * 4))).block ∧ w47.cell? ((a52.add ((n50.toNat) * 4)).add 1) = some (.int .i64 n54)) ∧ ∃ (n55 : Int), (¬ M51 ((a52.add ((n50.toNat) * 4))).block ∧ w47.cell? ((a52.add ((n50.toNat) * 4)).add 2) = some (.int .i64 n55)) ∧ ∃ (n56 : Int), (¬ M51 ((a52.add ((n50.toNat) * 4))).block ∧ w47.cell? ((a52.add ((n50.toNat) * 4)).add 3) = some (.int .i64 n56)) ∧ ∃ (n57 : Int), (¬ M51 ((⟨g31, 0, none⟩ : Addr)).block ∧ w47.cell? ((⟨g31, 0, none⟩ : Addr).add 0) = some (.int .i64 n57)) ∧ ∃ (n58 : Int), (¬ M51 ((⟨g31, 0, none⟩ : Addr)).block ∧ w47.cell? ((⟨g31, 0, none⟩ : Addr).add 1) = some (.int .i64 n58)) ∧ ∃ (n59 : Int), (¬ M51 ((⟨g31, 0, none⟩ : Addr)).block ∧ w47.cell? ((⟨g31, 0, none⟩ : Addr).add 2) = some (.int .i64 n59)) ∧ ∃ (n60 : Int), (¬ M51 ((⟨g31, 0, none⟩ : Addr)).block ∧ w47.cell? ((⟨g31, 0, none⟩ : Addr).add 3) = some (.int .i64 n60)) ∧ Cll Try.prog 26 #[(.agg #[(.int .i64 n53), (.int .i64 n54), (.int .i64 n55), (.int .i64 n56)]), (.agg #[(.int .i64 n57), (.int .i64 n58), (.int .i64 n59), (.int .i64 n60)])] w47.drew fun v61 w62 => (∃ (b63 : Bool), v61 = (.bool b63) ∧ bcase b63 (K (.tuple #[(.int .i64 n50), (.int .i64 z23.1), (.bool true)]) w62) (next48 ((IntKind.wrap .i64 (z46.1 + 1)), ()) w62)))))) (∃ (n64 : Int), w47.cell? ((⟨g36, 0, none⟩ : Addr).add 0) = some (.int .i64 n64) ∧ ∃ (n65 : Int), w47.cell? ((⟨g36, 0, none⟩ : Addr).add 1) = some (.int .i64 n65) ∧ Run Try.prog (Instr.buildSlice 37 1 #[(0, (.int .i64 z23.1))]) w47 fun v66 w67 => ∃ (A68 : Option Addr) (n69 c70 : Nat), v66 = .slice A68 n69 c70 ∧ Run Try.prog (Instr.mapEntry 51 (.map (some g21)) (.agg #[(.int .i64 n64), (.int .i64 n65)])) w67 fun v71 w72 => ∃ (A73 : Option Addr) (n74 c75 : Nat) (i76 : Int), v71 = .tuple #[.slice A73 n74 c75, .int .i64 i76] ∧ Run Try.prog (Builtin.append_ #[37, 37] 37 #[(.slice A73 n74 c75), (.slice A68 n69 c70)]) w72 fun v77 w78 => ∃ (A79 : Option Addr) (n80 c81 : Nat), v77 = .slice A79 n80 c81 ∧ (∃ w82, (Instr.entryStore 51 (.map (some g21)) (.int .i64 i76) (.slice A79 n80 c81)).run Try.prog w78 = .ok () w82 ∧ next25 ((IntKind.wrap .i64 (z23.1 + 1)), ()) w82))) (0, ()) w42))) (K (.tuple #[(.int .i64 0), (.int .i64 0), (.bool false)]) w24)) (0, ()) w22

def impl_FirstRace.ann : Ann := (.seq .l (.seq .l (.seq (.seq .l (.one (.loop [(14, .int .i64)] (.seq .l (.seq (.two .l .l) (.seq (.one (.seq .l (.seq .l (.seq (.seq .l (.one (.loop [(28, .int .i64)] (.seq .l (.seq (.two .l .l) (.seq (.one (.seq .l (.seq .l (.two (.seq .l .l) .l)))) .l)))))) .l)))) .l)))))) (.seq .l .l))))

theorem impl_FirstRace.vc_eq (A0 : Option Addr) (n0 : Nat) (c0 : Nat) (w : World) (K : Value → World → Prop) : vcF Try.prog Try.f14 impl_FirstRace.ann [(.slice A0 n0 c0)] K w = impl_FirstRace.vc A0 n0 c0 w K := by kernel_rfl

theorem impl_FirstRace.start {A0 : Option Addr} {n0 : Nat} {c0 : Nat} {w : World} {K : Value → World → Prop} (h : impl_FirstRace.vc A0 n0 c0 w K) : Cll Try.prog 14 #[(.slice A0 n0 c0)] w K :=
  vcF_sound mixed (fn := Try.f14) (by kernel_rfl) (by kernel_rfl) (an := impl_FirstRace.ann) (args := [(.slice A0 n0 c0)]) (by rw [impl_FirstRace.vc_eq]; exact h)
end Go.V
set_option linter.unusedVariables false
set_option linter.unusedSimpArgs false
set_option maxRecDepth 100000
namespace Go.V
open Go.Proofs
theorem race_keys : KeyI Try.prog 51 53 37 2 := ⟨by kernel_rfl, by kernel_rfl, by kernel_rfl, by kernel_rfl, by kernel_rfl⟩
theorem race_zero (w : World) : (zeroValue 37).run Try.prog w = .ok (.slice none 0 0) w := by kernel_rfl
theorem race_rows : SlT Try.prog el3 37 := sltOf (by kernel_rfl) (by kernel_rfl)
set_option maxHeartbeats 1000000 in
theorem impl_FirstRace.con {xs0 : List D.Access} {A0 : Option Addr} {c0 : Nat} {r : Int × Int × Bool} {w : World} (hp : M.impl_FirstRace_pre xs0) (hr : r = M.impl_FirstRace xs0) (R0 : Row el45 w A0 xs0) (hc0 : xs0.length ≤ c0) :
    Cll Try.prog 14 #[(.slice A0 xs0.length c0)] w (fun v_ w_ => v_ = (.tuple #[(.int .i64 r.1), (.int .i64 r.2.1), (.bool r.2.2)]) ∧ Ext w w_) := by
  have hl : xs0.length ≤ 1048576 := hp
  have hr : r = M.firstRace xs0 := hr
  refine impl_FirstRace.start ?_
  unfold impl_FirstRace.vc
  refine mapNewE (n := 2) fun g w1 hg O e1 => ?_
  refine ⟨fun m z w' => ∃ k : Nat, k ≤ xs0.length ∧ m = xs0.length - k ∧ z = ((k : Int), ()) ∧ M.firstRace xs0 = M.firstRaceFrom xs0 (xs0.length - k) k ∧ Ext w w' ∧ Deep el3 w w' g 2 (rix xs0 k),
    ⟨_, 0, by omega, rfl, rfl, rfl, ethen (Ext.refl w) e1, by rw [rix_zero]; exact Deep.new hg O⟩, ?_⟩
  rintro m _ w2 ⟨k, hk, rfl, rfl, hF, hB, D⟩
  dsimp only
  refine bcase_mk (fun h => ?_) fun h => ?_
  · have hk : k < xs0.length := by simpa using h
    rw [show xs0.length - k = (xs0.length - (k + 1)) + 1 by omega] at hF
    obtain ⟨a, ha, hat⟩ := Row.at (R0.ext hB) (i := (k : Int)) (by omega) (by omega)
    refine ⟨by omega, by omega, a, ha, _, hat 0 _ rfl, _, hat 1 _ rfl, _, hat 2 _ rfl, _, hat 3 _ rfl, ?_⟩
    generalize hy : rd xs0 (k : Int) = y at hat
    refine newBlk fun g3 w3 L3 P3 e3 => ?_
    have D := D.ext e3
    have L3 : w.heap.size ≤ g3 := Nat.le_trans hB.size L3
    have hB := ethen hB e3
    refine stBlk P3 (o := 0) (cs' := #[(.int .i64 y.Phase), (.int .i64 y.Warp), (.int .i64 y.Address), (.int .i64 y.Kind)]) rfl rfl (Nat.le_of_ble_eq_true rfl) rfl fun w4 O3 e4 => ?_
    have D := D.chg P3 (by decide) e4
    have hB := echg hB e4 L3
    refine ⟨_, O3.at 0 rfl rfl, _, O3.at 2 rfl rfl, ?_⟩
    refine newBlk fun g5 w5 L5 P5 e5 => ?_
    have D := D.ext e5
    have O3 := O3.ext e5
    have L5' : w.heap.size ≤ g5 := Nat.le_trans hB.size L5
    have hB := ethen hB e5
    refine stBlk P5 (o := 0) (cs' := #[(.int .i64 y.Phase), (.int .i64 y.Address)]) rfl rfl (Nat.le_of_ble_eq_true rfl) rfl fun w6 O5 e6 => ?_
    have D := D.chg P5 (by decide) e6
    have O3 := O3.chg e6 (Blk.ne_type O3 P5 (by decide))
    have hB := echg hB e6 L5'
    refine ⟨_, O5.at 0 rfl rfl, _, O5.at 1 rfl rfl, ?_⟩
    refine D.look race_keys (race_zero _) (k := pkey y) rfl fun Ar cr Rr => ?_
    refine ⟨_, _, _, rfl, ?_⟩
    have hin : ∀ z ∈ rix xs0 k (pkey y), 0 ≤ z ∧ z < (k : Int) := fun z hz => rix_in hz
    refine ⟨fun m z w' => ∃ i : Nat, i ≤ (rix xs0 k (pkey y)).length ∧ m = (rix xs0 k (pkey y)).length - i ∧ z = ((i : Int), ()) ∧ (rix xs0 k (pkey y)).find? (fun z => M.isRace (rd xs0 z) y) = ((rix xs0 k (pkey y)).drop i).find? (fun z => M.isRace (rd xs0 z) y) ∧ Ext w6 w',
      ⟨_, 0, by omega, rfl, rfl, rfl, Ext.refl _⟩, ?_⟩
    rintro m _ w7 ⟨i, hi, rfl, rfl, hG, hE⟩
    dsimp only
    have hlen := rix_len xs0 k (pkey y)
    refine bcase_mk (fun h => ?_) fun h => ?_
    · have hi : i < (rix xs0 k (pkey y)).length := by simpa using h
      obtain ⟨a2, ha2, hat2⟩ := Row.at (Rr.ext hE) (i := (i : Int)) (by omega) (by omega)
      refine ⟨by omega, by omega, a2, ha2, _, hat2 0 _ rfl, ?_⟩
      have hz := hin (rd (rix xs0 k (pkey y)) (i : Int)) (by rw [rd_nat hi]; exact List.getElem_mem hi)
      have hd : (rix xs0 k (pkey y)).drop i = rd (rix xs0 k (pkey y)) (i : Int) :: (rix xs0 k (pkey y)).drop (i + 1) := by
        rw [rd_nat hi]; exact List.drop_eq_getElem_cons hi
      rw [hd, List.find?_cons] at hG
      generalize rd (rix xs0 k (pkey y)) (i : Int) = z at *
      obtain ⟨a3, ha3, hat3⟩ := Row.at (R0.ext (ethen hB hE)) (i := z) (by omega) (by omega)
      have O3 := O3.ext hE
      refine ⟨fun _ => False, by omega, by omega, a3, ha3, _, ⟨fun h => h, hat3 0 _ rfl⟩, _, ⟨fun h => h, hat3 1 _ rfl⟩, _, ⟨fun h => h, hat3 2 _ rfl⟩, _, ⟨fun h => h, hat3 3 _ rfl⟩,
        _, ⟨fun h => h, O3.at 0 rfl rfl⟩, _, ⟨fun h => h, O3.at 1 rfl rfl⟩, _, ⟨fun h => h, O3.at 2 rfl rfl⟩, _, ⟨fun h => h, O3.at 3 rfl rfl⟩, ?_⟩
      refine (impl_IsRace.con (s0 := rd xs0 z) (s1 := y) rfl).mono ?_
      rintro _ w8 ⟨rfl, e8⟩
      refine ⟨_, rfl, ?_⟩
      have hE := ethen (ethen hE (Ext.drew _)) e8
      have hI : M.impl_IsRace (rd xs0 z) y = M.isRace (rd xs0 z) y := rfl
      rw [hI]
      refine bcase_mk (fun e => ?_) fun e => ?_
      · rw [e] at hG
        have hG : (rix xs0 k (pkey y)).find? (fun z => M.isRace (rd xs0 z) y) = some z := hG
        rw [← hy] at hG
        refine ⟨?_, ethen hB hE⟩
        rw [hr, hF, rix_hit hG]
      · rw [e] at hG
        rw [up64 hi (by omega)]
        exact ⟨_, by omega, i + 1, by omega, rfl, rfl, hG, hE⟩
    · have hi : i = (rix xs0 k (pkey y)).length := by simp at h; omega
      subst hi
      rw [List.drop_length] at hG
      have hG : (rix xs0 k (pkey y)).find? (fun z => M.isRace (rd xs0 z) y) = none := hG
      have O5 := O5.ext hE
      have D := D.ext hE
      have hB := ethen hB hE
      refine ⟨_, O5.at 0 rfl rfl, _, O5.at 1 rfl rfl, ?_⟩
      refine buildOwn el3 [(k : Int)] (fun _ => by kernel_rfl) rfl fun A9 w9 P9 e9 => ?_
      have hB9 := ethen hB e9
      refine (D.ext e9).push race_keys (race_zero _) race_rows (k := pkey y) rfl hB9 (y := (k : Int)) (P9.mono hB.size) (fun _ _ _ h => h) (by omega) fun w10 C' hC' D' hB' => ?_
      have hC : C' = rix xs0 (k + 1) := by
        funext key
        rw [hC', rix_up, hy]
      subst hC
      rw [up64 hk (by omega)]
      rw [← hy] at hG
      exact ⟨_, by omega, k + 1, by omega, rfl, rfl, by rw [hF, rix_miss hG], hB', D'⟩
  · have hk : k = xs0.length := by simp at h; omega
    subst hk
    refine ⟨?_, hB⟩
    rw [hr, hF, Nat.sub_self]; rfl
def laws_FnExactFirstRace.vc (A0 : Option Addr) (n0 : Nat) (c0 : Nat) (w : World) (K : Value → World → Prop) : Prop :=
  Cll Try.prog 6 #[(.slice A0 n0 c0), (.int .i64 1048576)] w fun v21 w22 => (∃ (n23 : Int), v21 = (.int .i64 n23) ∧ bcase (decide (n23 < 0)) (K (.bool true) w22) (Cll Try.prog 8 #[(.slice A0 n0 c0)] w22 fun v24 w25 => (∃ (A26 : Option Addr) (n27 : Nat) (c28 : Nat), v24 = (.slice A26 n27 c28) ∧ Cll Try.prog 13 #[(.slice A26 n27 c28)] w25 fun v29 w30 => (∃ u31 : Value, (∃ (n32 : Int), u31 = (.int .i64 n32) ∧ ∃ u33 : Value, (∃ (n34 : Int), u33 = (.int .i64 n34) ∧ ∃ u35 : Value, (∃ (b36 : Bool), u35 = (.bool b36) ∧ v29 = (.tuple #[(.int .i64 n32), (.int .i64 n34), (.bool b36)]) ∧ Cll Try.prog 8 #[(.slice A0 n0 c0)] w30 fun v37 w38 => (∃ (A39 : Option Addr) (n40 : Nat) (c41 : Nat), v37 = (.slice A39 n40 c41) ∧ Cll Try.prog 14 #[(.slice A39 n40 c41)] w38 fun v42 w43 => (∃ u44 : Value, (∃ (n45 : Int), u44 = (.int .i64 n45) ∧ ∃ u46 : Value, (∃ (n47 : Int), u46 = (.int .i64 n47) ∧ ∃ u48 : Value, (∃ (b49 : Bool), u48 = (.bool b49) ∧ v42 = (.tuple #[(.int .i64 n45), (.int .i64 n47), (.bool b49)]) ∧ bcase (n45 != n32) (K (.bool false) w43) (bcase (n47 != n34) (K (.bool false) w43) (bcase (!(b49 == b36)) (K (.bool false) w43) (Cll Try.prog 8 #[(.slice A0 n0 c0)] w43 fun v51 w52 => (∃ (A53 : Option Addr) (n54 : Nat) (c55 : Nat), v51 = (.slice A53 n54 c55) ∧ Cll Try.prog 10 #[(.slice A39 n40 c41), (.slice A53 n54 c55)] w52 fun v56 w57 => (∃ (b58 : Bool), v56 = (.bool b58) ∧ bcase (!b58) (K (.bool false) w57) (K (.bool true) w57))))))))))))))))))

def laws_FnExactFirstRace.ann : Ann := (.seq .l (.seq .l (.seq .l (.seq (.seq .l (.two (.seq .l .l) .l)) (.seq .l (.seq .l (.seq .l (.seq (.seq .l (.two (.seq .l .l) .l)) (.seq (.seq .l (.two (.seq .l .l) .l)) (.seq .l .l))))))))))

theorem laws_FnExactFirstRace.con {xs0 : List D.Access} {A0 : Option Addr} {c0 : Nat} {r : Bool} {w : World} (hp : M.laws_FnExactFirstRace_pre xs0) (hr : r = M.laws_FnExactFirstRace xs0) (R0 : Row el47 w A0 xs0) (hc0 : xs0.length ≤ c0) :
    Cll Try.prog 4 #[(.slice A0 xs0.length c0)] w (fun v_ w_ => v_ = (.bool r) ∧ Ext w w_) := by
  have H := wp.laws_FnExactFirstRace.math xs0 hp
  have hB := Ext.refl w
  refine beginF mixed (fn := Try.f4) (by kernel_rfl) (by kernel_rfl) (an := laws_FnExactFirstRace.ann) (V := laws_FnExactFirstRace.vc A0 xs0.length c0) (by kernel_rfl) ?_
  unfold laws_FnExactFirstRace.vc
  unfold wp.laws_FnExactFirstRace at H
  obtain ⟨hp23, H⟩ := H
  obtain ⟨r21, hr22, H⟩ := callO H
  refine (laws_szAccessS.con hp23 hr22 (R0.ext hB) hc0).mono ?_
  rintro _ w24 ⟨rfl, e25⟩
  have hB := ethen hB e25
  refine ⟨r21, rfl, ?_⟩
  refine brc H (fun hc66 H => ?_) (fun hc66 H => ?_)
  ·obtain rfl := hr.trans H.symm
   exact ⟨rfl, hB⟩
  obtain ⟨hp28, H⟩ := H
  obtain ⟨r26, hr27, H⟩ := callO H
  refine (laws_toAccessS.con hp28 hr27 (R0.ext hB) hc0).mono ?_
  rintro _ w29 ⟨A31, c32, rfl, P2, e30⟩
  have O2 := P2.mono hB.size
  have hB := ethen hB e30
  refine ⟨A31, r26.length, c32, rfl, ?_⟩
  obtain ⟨hp35, H⟩ := H
  obtain ⟨r33, hr34, H⟩ := callO H
  refine (spec_FirstRace.con hp35 hr34 O2.row O2.le).mono ?_
  rintro _ w36 ⟨rfl, e37⟩
  have O2 := O2.ext e37
  have hB := ethen hB e37
  refine ⟨(.int .i64 r33.1), r33.1, rfl, (.int .i64 r33.2.1), r33.2.1, rfl, (.bool r33.2.2), r33.2.2, rfl, rfl, ?_⟩
  obtain ⟨hp40, H⟩ := H
  obtain ⟨r38, hr39, H⟩ := callO H
  refine (laws_toAccessS.con hp40 hr39 (R0.ext hB) hc0).mono ?_
  rintro _ w41 ⟨A43, c44, rfl, P3, e42⟩
  have O3 := P3.mono hB.size
  have hB := ethen hB e42
  refine ⟨A43, r38.length, c44, rfl, ?_⟩
  obtain ⟨hp47, H⟩ := H
  obtain ⟨r45, hr46, H⟩ := callO H
  refine (impl_FirstRace.con hp47 hr46 O3.row O3.le).mono ?_
  rintro _ w48 ⟨rfl, e49⟩
  have O3 := O3.ext e49
  have hB := ethen hB e49
  refine ⟨(.int .i64 r45.1), r45.1, rfl, (.int .i64 r45.2.1), r45.2.1, rfl, (.bool r45.2.2), r45.2.2, rfl, rfl, ?_⟩
  refine brc H (fun hc65 H => ?_) (fun hc65 H => ?_)
  ·obtain rfl := hr.trans H.symm
   exact ⟨rfl, hB⟩
  refine brc H (fun hc64 H => ?_) (fun hc64 H => ?_)
  ·obtain rfl := hr.trans H.symm
   exact ⟨rfl, hB⟩
  refine brc H (fun hc63 H => ?_) (fun hc63 H => ?_)
  ·obtain rfl := hr.trans H.symm
   exact ⟨rfl, hB⟩
  obtain ⟨hp52, H⟩ := H
  obtain ⟨r50, hr51, H⟩ := callO H
  refine (laws_toAccessS.con hp52 hr51 (R0.ext hB) hc0).mono ?_
  rintro _ w53 ⟨A55, c56, rfl, P4, e54⟩
  have N3_4 := Own.apart2_new O3 P4 (Nat.le_refl _)
  have O3 := O3.ext e54
  have O4 := P4.mono hB.size
  have hB := ethen hB e54
  refine ⟨A55, r50.length, c56, rfl, ?_⟩
  obtain ⟨hp59, H⟩ := H
  obtain ⟨r57, hr58, H⟩ := callO H
  refine (laws_eqAccessS.con hp59 hr58 O3.row O3.le O4.row O4.le).mono ?_
  rintro _ w60 ⟨rfl, e61⟩
  have O3 := O3.ext e61
  have O4 := O4.ext e61
  have hB := ethen hB e61
  refine ⟨r57, rfl, ?_⟩
  refine brc H (fun hc62 H => ?_) (fun hc62 H => ?_)
  ·obtain rfl := hr.trans H.symm
   exact ⟨rfl, hB⟩
  obtain rfl := hr.trans H.symm
  exact ⟨rfl, hB⟩
end Go.V
